/- PageSeals: for every input the law returns true, and each argument reads afterwards as it read before. No conditions. -/
import Derived.Test.YtfbjjblgcgjndaaRows
import Derived.Test.YtfbjjblgcgjndaaOpen3
import Derived.Test.YtfbjjblgcgjndaaFacts
import Derived.Test.YtfbjjblgcgjndaaSeals
set_option linter.unusedVariables false
set_option linter.unusedSimpArgs false
namespace Go.Proofs.Ytfbjjblgcgjndaa.pageSeals
open Go.ChangeShapes Go.WideShapes Go.ChangeAt Go.RowKit

theorem fa : Rows.pageSealsRow.wf (OpenSpec.ofChange Rows.pageSealsSpec) = true := by kernel_rfl
theorem fb : Try.f16.params.all (Try.prog.readableRec ·) = true := by kernel_rfl
theorem fc : namedTie Try.prog Rows.pageSealsRow.named Rows.pageSealsSpec.vars = true := by kernel_rfl
theorem fd : (Rows.pageSealsRow.stops == []) = true := by kernel_rfl
theorem fe : (Rows.pageSealsRow.knobs == []) = true := by kernel_rfl
theorem ff : (Rows.pageSealsRow.inPlace == Try.prog.inPlace 16) = true := by kernel_rfl
theorem fg : (Rows.pageSealsRow.unfollowed == Try.prog.unfollowed 16) = true := by kernel_rfl
theorem fh : (Rows.pageSealsRow.recurses == Try.prog.recurses 16) = true := by kernel_rfl
theorem fi : (Rows.pageSealsRow.named == Try.prog.varsNamed 16) = true := by kernel_rfl
theorem fj : (Rows.pageSealsRow.maps == (Try.f16.params.toList ++ Rows.pageSealsSpec.plain.varTypes Try.prog).any (Try.prog.mapsRec ·)) = true := by kernel_rfl
theorem fk : (Rows.pageSealsRow.ifaces == (Try.f16.params.toList ++ Rows.pageSealsSpec.plain.varTypes Try.prog).any (Try.prog.ifacesRec ·)) = true := by kernel_rfl
theorem fl : (Rows.pageSealsRow.mapsOut == Try.prog.mapsAmong Try.f16.resultTypes.toList) = true := by kernel_rfl
theorem fm : (Rows.pageSealsRow.loops == (Try.f16.params.toList ++ Rows.pageSealsSpec.plain.varTypes Try.prog).any (Try.prog.loopsFrom ·)) = true := by kernel_rfl
theorem fn : (Rows.pageSealsRow.wideKeys == (Try.f16.params.toList ++ Rows.pageSealsSpec.plain.varTypes Try.prog ++ Try.f16.resultTypes.toList).any (Try.prog.wideKeysFrom ·)) = true := by kernel_rfl
theorem fo : Rows.pageSealsSpec.vars.all (Try.prog.varReadable ·) = true := by kernel_rfl
theorem fp : Try.f16.resultTypes.all (fun t => Try.prog.readableRec t && decide (t < Try.prog.types.size)) = true := by kernel_rfl
theorem fq : (Rows.pageSealsRow.ifacesOut == Try.f16.resultTypes.toList.any (Try.prog.ifacesRec ·)) = true := by kernel_rfl
theorem fr : (Rows.pageSealsRow.loopsOut == Try.f16.resultTypes.toList.any (Try.prog.loopsFrom ·)) = true := by kernel_rfl
theorem fs : Rows.pageSealsRow.plainKeys = true := by kernel_rfl
theorem ft : Rows.pageSealsRow.shortTexts.isNone = true := by kernel_rfl
theorem fu : Rows.pageSealsRow.lifted = false := by kernel_rfl
theorem fv : Rows.pageSealsRow.make = .cut := by kernel_rfl
theorem fw : (Rows.pageSealsRow.kinds == (if Rows.pageSealsRow.domain.isEmpty then [] else Try.f16.params.toList.map fun t => match Try.prog.underlying t with | some (.int k) => some k | _ => Option.none)) = true := by kernel_rfl
theorem fx : (Rows.pageSealsRow.pinned == Rows.pageSealsRow.pinnedBy) = true := by kernel_rfl
theorem fy : (Rows.pageSealsRow.veiled == (Try.f16.params.toList ++ Rows.pageSealsSpec.plain.varTypes Try.prog ++ Try.f16.resultTypes.toList).any (Try.prog.veiledRec ·)) = true := by kernel_rfl
theorem fz : Rows.pageSealsRow.veiledFits Try.prog Try.f16.params.toList (Try.f16.params.toList ++ Rows.pageSealsSpec.plain.varTypes Try.prog ++ Try.f16.resultTypes.toList) = true := by kernel_rfl
set_option maxRecDepth 100000 in
theorem closed : joinedFacts Try.prog 16 Try.f16 Rows.pageSealsSpec Rows.pageSealsRow = true :=
  joined_try 16 Try.f16 Rows.pageSealsSpec Rows.pageSealsRow fa fb fc fd fe ff fg fh fi fj fk fl fm fn fo fp fq fr fs ft fu fv fw fx fy fz
theorem named : Try.prog.funcNamed Rows.pageSealsRow.func = some 16 := by kernel_rfl
theorem inst : Func.isInstance Try.prog Try.f16 Rows.pageSealsRow.origin Rows.pageSealsRow.targs := of_decide_eq_true (by kernel_rfl)
theorem wrap : Func.isWrapper Try.prog Try.f16 Rows.pageSealsRow.wrapper Rows.pageSealsRow.mainSum := by
  unfold Func.isWrapper; rw [if_neg (of_decide_eq_false (by kernel_rfl))]; exact ⟨rfl, rfl⟩

theorem typed : (Try.f16.params.toList.all fun t => Try.prog.readableRec t && decide (t < Try.prog.types.size)) = true := by kernel_rfl
theorem noInit : Try.prog.inits.idxOf? 16 = none := by kernel_rfl

set_option maxRecDepth 100000 in
theorem lifted (os : Os) (started : os.Started) (H : Type) (enc : TypeId × Value → H) :
    ReturnsInHanded {} Try.checked os 16 .any (Rows.pageSealsSpec.pre6 enc Try.prog Try.f16 Rows.pageSealsRow.domain false) (Rows.pageSealsSpec.post enc Try.prog Try.f16 false true false false) := by
  refine law_lifted (enc := enc) 16 Try.f16 Rows.pageSealsSpec os started noInit Try.func16 rfl ?_ rfl ?_
    (ChangeSpec.witness6 (enc := enc) (C := Try.checked) false ⟨#[], #[.int .u8 0, .int .u32 0, .slice none 0 0], []⟩ 8 (by kernel_rfl) (by kernel_rfl) (by kernel_rfl) (by kernel_rfl)) ?_
  · intro ds h
    match ds, h with
    | [d0, d1, d2], _ => rfl
  · intro t ht
    have := List.all_eq_true.1 typed t ht
    simpa using this
  intro W base args ds p hval hA hsz
  rw [Try.params16] at hA hval hsz
  obtain ⟨v0, vs0, d0, ds0, p0, q0, ha0, rfl, rfl, h0, r0⟩ := trodAll_cons hA
  obtain ⟨v1, vs1, d1, ds1, p1, q1, rfl, rfl, rfl, h1, r1⟩ := trodAll_cons r0
  obtain ⟨v2, vs2, d2, ds2, p2, q2, rfl, rfl, rfl, h2, r2⟩ := trodAll_cons r1
  obtain ⟨rfl, rfl, rfl⟩ := trodAll_nil r2
  obtain rfl : args = #[v0, v1, v2] := by cases args; simp_all
  obtain ⟨a0, rfl, b0⟩ := open_u8 (hval 0 5 v0 rfl rfl) h0
  obtain ⟨a1, rfl, b1⟩ := open_u32 (hval 1 22 v1 rfl rfl) h1
  obtain ⟨a2, rfl, b2⟩ := open_bytes (hval 2 23 v2 rfl rfl) h2 (fun x hx => of_decide_eq_true (List.all_eq_true.1 hsz x (DataW.weights_mem_each (j := 2) rfl rfl x hx)))
  exact pageSeals_any a0 a1 a2 W b2 b0 b1

theorem over : Rows.pageSealsRow.holds Try.pinned (OpenSpec.ofChange Rows.pageSealsSpec) :=
  OpenClaim.holds_of_wide 16 Try.f16 rfl rfl rfl rfl rfl rfl rfl ⟨rfl, rfl, rfl, rfl, rfl⟩ rfl rfl rfl rfl rfl named Try.func16 closed inst wrap
    (fun os started H enc _ => lifted os started H enc)

/-- The statement. -/
theorem proved : Rows.PageSealsSaid := over
#print axioms proved
end Go.Proofs.Ytfbjjblgcgjndaa.pageSeals
