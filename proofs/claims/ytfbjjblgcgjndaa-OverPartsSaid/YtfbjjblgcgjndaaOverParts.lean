/- OverParts: for every input the law returns true, and each argument reads afterwards as it read before. No conditions. -/
import Derived.Test.YtfbjjblgcgjndaaRows
import Derived.Test.YtfbjjblgcgjndaaPx1
set_option linter.unusedVariables false
set_option linter.unusedSimpArgs false
namespace Go.Proofs.Ytfbjjblgcgjndaa.overParts
open Go.ChangeShapes Go.WideShapes Go.ChangeAt Go.RowKit

theorem fa : Rows.overPartsRow.wf (OpenSpec.ofChange Rows.overPartsSpec) = true := by kernel_rfl
theorem fb : Try.f8.params.all (Try.prog.readableRec ·) = true := by kernel_rfl
theorem fc : namedTie Try.prog Rows.overPartsRow.named Rows.overPartsSpec.vars = true := by kernel_rfl
theorem fd : (Rows.overPartsRow.stops == []) = true := by kernel_rfl
theorem fe : (Rows.overPartsRow.knobs == []) = true := by kernel_rfl
theorem ff : (Rows.overPartsRow.inPlace == Try.prog.inPlace 8) = true := by kernel_rfl
theorem fg : (Rows.overPartsRow.unfollowed == Try.prog.unfollowed 8) = true := by kernel_rfl
theorem fh : (Rows.overPartsRow.recurses == Try.prog.recurses 8) = true := by kernel_rfl
theorem fi : (Rows.overPartsRow.named == Try.prog.varsNamed 8) = true := by kernel_rfl
theorem fj : (Rows.overPartsRow.maps == (Try.f8.params.toList ++ Rows.overPartsSpec.plain.varTypes Try.prog).any (Try.prog.mapsRec ·)) = true := by kernel_rfl
theorem fk : (Rows.overPartsRow.ifaces == (Try.f8.params.toList ++ Rows.overPartsSpec.plain.varTypes Try.prog).any (Try.prog.ifacesRec ·)) = true := by kernel_rfl
theorem fl : (Rows.overPartsRow.mapsOut == Try.prog.mapsAmong Try.f8.resultTypes.toList) = true := by kernel_rfl
theorem fm : (Rows.overPartsRow.loops == (Try.f8.params.toList ++ Rows.overPartsSpec.plain.varTypes Try.prog).any (Try.prog.loopsFrom ·)) = true := by kernel_rfl
theorem fn : (Rows.overPartsRow.wideKeys == (Try.f8.params.toList ++ Rows.overPartsSpec.plain.varTypes Try.prog ++ Try.f8.resultTypes.toList).any (Try.prog.wideKeysFrom ·)) = true := by kernel_rfl
theorem fo : Rows.overPartsSpec.vars.all (Try.prog.varReadable ·) = true := by kernel_rfl
theorem fp : Try.f8.resultTypes.all (fun t => Try.prog.readableRec t && decide (t < Try.prog.types.size)) = true := by kernel_rfl
theorem fq : (Rows.overPartsRow.ifacesOut == Try.f8.resultTypes.toList.any (Try.prog.ifacesRec ·)) = true := by kernel_rfl
theorem fr : (Rows.overPartsRow.loopsOut == Try.f8.resultTypes.toList.any (Try.prog.loopsFrom ·)) = true := by kernel_rfl
theorem fs : Rows.overPartsRow.plainKeys = true := by kernel_rfl
theorem ft : Rows.overPartsRow.shortTexts.isNone = true := by kernel_rfl
theorem fu : Rows.overPartsRow.lifted = false := by kernel_rfl
theorem fv : Rows.overPartsRow.make = .cut := by kernel_rfl
theorem fw : (Rows.overPartsRow.kinds == (if Rows.overPartsRow.domain.isEmpty then [] else Try.f8.params.toList.map fun t => match Try.prog.underlying t with | some (.int k) => some k | _ => Option.none)) = true := by kernel_rfl
theorem fx : (Rows.overPartsRow.pinned == Rows.overPartsRow.pinnedBy) = true := by kernel_rfl
theorem fy : (Rows.overPartsRow.veiled == (Try.f8.params.toList ++ Rows.overPartsSpec.plain.varTypes Try.prog ++ Try.f8.resultTypes.toList).any (Try.prog.veiledRec ·)) = true := by kernel_rfl
theorem fz : Rows.overPartsRow.veiledFits Try.prog Try.f8.params.toList (Try.f8.params.toList ++ Rows.overPartsSpec.plain.varTypes Try.prog ++ Try.f8.resultTypes.toList) = true := by kernel_rfl
set_option maxRecDepth 100000 in
theorem closed : joinedFacts Try.prog 8 Try.f8 Rows.overPartsSpec Rows.overPartsRow = true :=
  joined_try 8 Try.f8 Rows.overPartsSpec Rows.overPartsRow fa fb fc fd fe ff fg fh fi fj fk fl fm fn fo fp fq fr fs ft fu fv fw fx fy fz
theorem named : Try.prog.funcNamed Rows.overPartsRow.func = some 8 := by kernel_rfl
theorem inst : Func.isInstance Try.prog Try.f8 Rows.overPartsRow.origin Rows.overPartsRow.targs := of_decide_eq_true (by kernel_rfl)
theorem wrap : Func.isWrapper Try.prog Try.f8 Rows.overPartsRow.wrapper Rows.overPartsRow.mainSum := by
  unfold Func.isWrapper; rw [if_neg (of_decide_eq_false (by kernel_rfl))]; exact ⟨rfl, rfl⟩

theorem typed : (Try.f8.params.toList.all fun t => Try.prog.readableRec t && decide (t < Try.prog.types.size)) = true := by kernel_rfl
theorem noInit : Try.prog.inits.idxOf? 8 = none := by kernel_rfl

set_option maxRecDepth 100000 in
theorem lifted (os : Os) (started : os.Started) (H : Type) (enc : TypeId × Value → H) :
    ReturnsInHanded {} Try.checked os 8 .any (Rows.overPartsSpec.pre6 enc Try.prog Try.f8 Rows.overPartsRow.domain false) (Rows.overPartsSpec.post enc Try.prog Try.f8 false true false false) := by
  refine law_lifted (enc := enc) 8 Try.f8 Rows.overPartsSpec os started noInit Try.func8 rfl ?_ rfl ?_
    (ChangeSpec.witness6 (enc := enc) (C := Try.checked) false ⟨#[], #[.slice none 0 0, .int .u16 0], []⟩ 8 (by kernel_rfl) (by kernel_rfl) (by kernel_rfl) (by kernel_rfl)) ?_
  · intro ds h
    match ds, h with
    | [d0, d1], _ => rfl
  · intro t ht
    have := List.all_eq_true.1 typed t ht
    simpa using this
  intro W base args ds p hval hA hsz
  rw [Try.params8] at hA hval hsz
  obtain ⟨v0, vs0, d0, ds0, p0, q0, ha0, rfl, rfl, h0, r0⟩ := trodAll_cons hA
  obtain ⟨v1, vs1, d1, ds1, p1, q1, rfl, rfl, rfl, h1, r1⟩ := trodAll_cons r0
  obtain ⟨rfl, rfl, rfl⟩ := trodAll_nil r1
  obtain rfl : args = #[v0, v1] := by cases args; simp_all
  obtain ⟨a0, rfl, b0⟩ := open_bytes (hval 0 23 v0 rfl rfl) h0 (fun x hx => of_decide_eq_true (List.all_eq_true.1 hsz x (DataW.weights_mem_each (j := 0) rfl rfl x hx)))
  obtain ⟨a1, rfl, b1⟩ := open_u16 (hval 1 36 v1 rfl rfl) h1
  exact overParts_any a0 a1 W b0 b1

theorem over : Rows.overPartsRow.holds Try.pinned (OpenSpec.ofChange Rows.overPartsSpec) :=
  OpenClaim.holds_of_wide 8 Try.f8 rfl rfl rfl rfl rfl rfl rfl ⟨rfl, rfl, rfl, rfl, rfl⟩ rfl rfl rfl rfl rfl named Try.func8 closed inst wrap
    (fun os started H enc _ => lifted os started H enc)

/-- The statement. -/
theorem proved : Rows.OverPartsSaid := over
#print axioms proved
end Go.Proofs.Ytfbjjblgcgjndaa.overParts
