/- CrcPieces: for every input the law returns true, and each argument reads afterwards as it read before. No conditions. -/
import Derived.Test.YtfbjjblgcgjndaaRows
import Derived.Test.YtfbjjblgcgjndaaOpen2
import Derived.Test.YtfbjjblgcgjndaaFacts
import Derived.Test.YtfbjjblgcgjndaaLaw01d
set_option linter.unusedVariables false
set_option linter.unusedSimpArgs false
namespace Go.Proofs.Ytfbjjblgcgjndaa.crcPieces
open Go.ChangeShapes Go.WideShapes Go.ChangeAt Go.RowKit

theorem fa : Rows.crcPiecesRow.wf (OpenSpec.ofChange Rows.crcPiecesSpec) = true := by kernel_rfl
theorem fb : Try.f4.params.all (Try.prog.readableRec ·) = true := by kernel_rfl
theorem fc : namedTie Try.prog Rows.crcPiecesRow.named Rows.crcPiecesSpec.vars = true := by kernel_rfl
theorem fd : (Rows.crcPiecesRow.stops == []) = true := by kernel_rfl
theorem fe : (Rows.crcPiecesRow.knobs == []) = true := by kernel_rfl
theorem ff : (Rows.crcPiecesRow.inPlace == Try.prog.inPlace 4) = true := by kernel_rfl
theorem fg : (Rows.crcPiecesRow.unfollowed == Try.prog.unfollowed 4) = true := by kernel_rfl
theorem fh : (Rows.crcPiecesRow.recurses == Try.prog.recurses 4) = true := by kernel_rfl
theorem fi : (Rows.crcPiecesRow.named == Try.prog.varsNamed 4) = true := by kernel_rfl
theorem fj : (Rows.crcPiecesRow.maps == (Try.f4.params.toList ++ Rows.crcPiecesSpec.plain.varTypes Try.prog).any (Try.prog.mapsRec ·)) = true := by kernel_rfl
theorem fk : (Rows.crcPiecesRow.ifaces == (Try.f4.params.toList ++ Rows.crcPiecesSpec.plain.varTypes Try.prog).any (Try.prog.ifacesRec ·)) = true := by kernel_rfl
theorem fl : (Rows.crcPiecesRow.mapsOut == Try.prog.mapsAmong Try.f4.resultTypes.toList) = true := by kernel_rfl
theorem fm : (Rows.crcPiecesRow.loops == (Try.f4.params.toList ++ Rows.crcPiecesSpec.plain.varTypes Try.prog).any (Try.prog.loopsFrom ·)) = true := by kernel_rfl
theorem fn : (Rows.crcPiecesRow.wideKeys == (Try.f4.params.toList ++ Rows.crcPiecesSpec.plain.varTypes Try.prog ++ Try.f4.resultTypes.toList).any (Try.prog.wideKeysFrom ·)) = true := by kernel_rfl
theorem fo : Rows.crcPiecesSpec.vars.all (Try.prog.varReadable ·) = true := by kernel_rfl
theorem fp : Try.f4.resultTypes.all (fun t => Try.prog.readableRec t && decide (t < Try.prog.types.size)) = true := by kernel_rfl
theorem fq : (Rows.crcPiecesRow.ifacesOut == Try.f4.resultTypes.toList.any (Try.prog.ifacesRec ·)) = true := by kernel_rfl
theorem fr : (Rows.crcPiecesRow.loopsOut == Try.f4.resultTypes.toList.any (Try.prog.loopsFrom ·)) = true := by kernel_rfl
theorem fs : Rows.crcPiecesRow.plainKeys = true := by kernel_rfl
theorem ft : Rows.crcPiecesRow.shortTexts.isNone = true := by kernel_rfl
theorem fu : Rows.crcPiecesRow.lifted = false := by kernel_rfl
theorem fv : Rows.crcPiecesRow.make = .cut := by kernel_rfl
theorem fw : (Rows.crcPiecesRow.kinds == (if Rows.crcPiecesRow.domain.isEmpty then [] else Try.f4.params.toList.map fun t => match Try.prog.underlying t with | some (.int k) => some k | _ => Option.none)) = true := by kernel_rfl
theorem fx : (Rows.crcPiecesRow.pinned == Rows.crcPiecesRow.pinnedBy) = true := by kernel_rfl
theorem fy : (Rows.crcPiecesRow.veiled == (Try.f4.params.toList ++ Rows.crcPiecesSpec.plain.varTypes Try.prog ++ Try.f4.resultTypes.toList).any (Try.prog.veiledRec ·)) = true := by kernel_rfl
theorem fz : Rows.crcPiecesRow.veiledFits Try.prog Try.f4.params.toList (Try.f4.params.toList ++ Rows.crcPiecesSpec.plain.varTypes Try.prog ++ Try.f4.resultTypes.toList) = true := by kernel_rfl
set_option maxRecDepth 100000 in
theorem closed : joinedFacts Try.prog 4 Try.f4 Rows.crcPiecesSpec Rows.crcPiecesRow = true :=
  joined_try 4 Try.f4 Rows.crcPiecesSpec Rows.crcPiecesRow fa fb fc fd fe ff fg fh fi fj fk fl fm fn fo fp fq fr fs ft fu fv fw fx fy fz
theorem named : Try.prog.funcNamed Rows.crcPiecesRow.func = some 4 := by kernel_rfl
theorem inst : Func.isInstance Try.prog Try.f4 Rows.crcPiecesRow.origin Rows.crcPiecesRow.targs := of_decide_eq_true (by kernel_rfl)
theorem wrap : Func.isWrapper Try.prog Try.f4 Rows.crcPiecesRow.wrapper Rows.crcPiecesRow.mainSum := by
  unfold Func.isWrapper; rw [if_neg (of_decide_eq_false (by kernel_rfl))]; exact ⟨rfl, rfl⟩

theorem typed : (Try.f4.params.toList.all fun t => Try.prog.readableRec t && decide (t < Try.prog.types.size)) = true := by kernel_rfl
theorem noInit : Try.prog.inits.idxOf? 4 = none := by kernel_rfl

set_option maxRecDepth 100000 in
theorem lifted (os : Os) (started : os.Started) (H : Type) (enc : TypeId × Value → H) :
    ReturnsInHanded {} Try.checked os 4 .any (Rows.crcPiecesSpec.pre6 enc Try.prog Try.f4 Rows.crcPiecesRow.domain false) (Rows.crcPiecesSpec.post enc Try.prog Try.f4 false true false false) := by
  refine law_lifted (enc := enc) 4 Try.f4 Rows.crcPiecesSpec os started noInit Try.func4 rfl ?_ rfl ?_
    (ChangeSpec.witness6 (enc := enc) (C := Try.checked) false ⟨#[], #[.slice none 0 0], []⟩ 8 (by kernel_rfl) (by kernel_rfl) (by kernel_rfl) (by kernel_rfl)) ?_
  · intro ds h
    match ds, h with
    | [d0], _ => rfl
  · intro t ht
    have := List.all_eq_true.1 typed t ht
    simpa using this
  intro W base args ds p hval hA hsz
  rw [Try.params4] at hA hval hsz
  obtain ⟨v0, vs0, d0, ds0, p0, q0, hargs, rfl, rfl, h0, r0⟩ := trodAll_cons hA
  obtain ⟨rfl, rfl, rfl⟩ := trodAll_nil r0
  obtain rfl : args = #[v0] := by cases args; simp_all
  obtain ⟨a0, len0, cap0, rfl⟩ := okWide_slice Try.underlying30 (hval 0 30 v0 rfl rfl)
  have hw : ∀ x ∈ d0.weights Try.prog 30, x ≤ reachBytes := fun x hx => of_decide_eq_true (List.all_eq_true.1 hsz x (DataW.weights_mem_each (j := 0) rfl rfl x hx))
  obtain ⟨A, c, rs, hv, hA, hok, hn, hl, hb⟩ := open_rows h0 rfl hw
  rw [hv]
  rw [reach_num] at hb
  exact crcPieces_any A c rs W hA (by omega) hok

theorem over : Rows.crcPiecesRow.holds Try.pinned (OpenSpec.ofChange Rows.crcPiecesSpec) :=
  OpenClaim.holds_of_wide 4 Try.f4 rfl rfl rfl rfl rfl rfl rfl ⟨rfl, rfl, rfl, rfl, rfl⟩ rfl rfl rfl rfl rfl named Try.func4 closed inst wrap
    (fun os started H enc _ => lifted os started H enc)

/-- The statement. -/
theorem proved : Rows.CrcPiecesSaid := over
#print axioms proved
end Go.Proofs.Ytfbjjblgcgjndaa.crcPieces
