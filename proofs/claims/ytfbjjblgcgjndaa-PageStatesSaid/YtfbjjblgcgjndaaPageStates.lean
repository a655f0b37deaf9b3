/- PageStates: for every input the law returns true, and each argument reads afterwards as it read before. No conditions. -/
import Derived.Test.YtfbjjblgcgjndaaRows
import Derived.Test.YtfbjjblgcgjndaaOpen3
import Derived.Test.YtfbjjblgcgjndaaFacts
import Derived.Test.YtfbjjblgcgjndaaStates
set_option linter.unusedVariables false
set_option linter.unusedSimpArgs false
namespace Go.Proofs.Ytfbjjblgcgjndaa.pageStates
open Go.ChangeShapes Go.WideShapes Go.ChangeAt Go.RowKit

theorem fa : Rows.pageStatesRow.wf (OpenSpec.ofChange Rows.pageStatesSpec) = true := by kernel_rfl
theorem fb : Try.f18.params.all (Try.prog.readableRec ·) = true := by kernel_rfl
theorem fc : namedTie Try.prog Rows.pageStatesRow.named Rows.pageStatesSpec.vars = true := by kernel_rfl
theorem fd : (Rows.pageStatesRow.stops == []) = true := by kernel_rfl
theorem fe : (Rows.pageStatesRow.knobs == []) = true := by kernel_rfl
theorem ff : (Rows.pageStatesRow.inPlace == Try.prog.inPlace 18) = true := by kernel_rfl
theorem fg : (Rows.pageStatesRow.unfollowed == Try.prog.unfollowed 18) = true := by kernel_rfl
theorem fh : (Rows.pageStatesRow.recurses == Try.prog.recurses 18) = true := by kernel_rfl
theorem fi : (Rows.pageStatesRow.named == Try.prog.varsNamed 18) = true := by kernel_rfl
theorem fj : (Rows.pageStatesRow.maps == (Try.f18.params.toList ++ Rows.pageStatesSpec.plain.varTypes Try.prog).any (Try.prog.mapsRec ·)) = true := by kernel_rfl
theorem fk : (Rows.pageStatesRow.ifaces == (Try.f18.params.toList ++ Rows.pageStatesSpec.plain.varTypes Try.prog).any (Try.prog.ifacesRec ·)) = true := by kernel_rfl
theorem fl : (Rows.pageStatesRow.mapsOut == Try.prog.mapsAmong Try.f18.resultTypes.toList) = true := by kernel_rfl
theorem fm : (Rows.pageStatesRow.loops == (Try.f18.params.toList ++ Rows.pageStatesSpec.plain.varTypes Try.prog).any (Try.prog.loopsFrom ·)) = true := by kernel_rfl
theorem fn : (Rows.pageStatesRow.wideKeys == (Try.f18.params.toList ++ Rows.pageStatesSpec.plain.varTypes Try.prog ++ Try.f18.resultTypes.toList).any (Try.prog.wideKeysFrom ·)) = true := by kernel_rfl
theorem fo : Rows.pageStatesSpec.vars.all (Try.prog.varReadable ·) = true := by kernel_rfl
theorem fp : Try.f18.resultTypes.all (fun t => Try.prog.readableRec t && decide (t < Try.prog.types.size)) = true := by kernel_rfl
theorem fq : (Rows.pageStatesRow.ifacesOut == Try.f18.resultTypes.toList.any (Try.prog.ifacesRec ·)) = true := by kernel_rfl
theorem fr : (Rows.pageStatesRow.loopsOut == Try.f18.resultTypes.toList.any (Try.prog.loopsFrom ·)) = true := by kernel_rfl
theorem fs : Rows.pageStatesRow.plainKeys = true := by kernel_rfl
theorem ft : Rows.pageStatesRow.shortTexts.isNone = true := by kernel_rfl
theorem fu : Rows.pageStatesRow.lifted = false := by kernel_rfl
theorem fv : Rows.pageStatesRow.make = .cut := by kernel_rfl
theorem fw : (Rows.pageStatesRow.kinds == (if Rows.pageStatesRow.domain.isEmpty then [] else Try.f18.params.toList.map fun t => match Try.prog.underlying t with | some (.int k) => some k | _ => Option.none)) = true := by kernel_rfl
theorem fx : (Rows.pageStatesRow.pinned == Rows.pageStatesRow.pinnedBy) = true := by kernel_rfl
theorem fy : (Rows.pageStatesRow.veiled == (Try.f18.params.toList ++ Rows.pageStatesSpec.plain.varTypes Try.prog ++ Try.f18.resultTypes.toList).any (Try.prog.veiledRec ·)) = true := by kernel_rfl
theorem fz : Rows.pageStatesRow.veiledFits Try.prog Try.f18.params.toList (Try.f18.params.toList ++ Rows.pageStatesSpec.plain.varTypes Try.prog ++ Try.f18.resultTypes.toList) = true := by kernel_rfl
set_option maxRecDepth 100000 in
theorem closed : joinedFacts Try.prog 18 Try.f18 Rows.pageStatesSpec Rows.pageStatesRow = true :=
  joined_try 18 Try.f18 Rows.pageStatesSpec Rows.pageStatesRow fa fb fc fd fe ff fg fh fi fj fk fl fm fn fo fp fq fr fs ft fu fv fw fx fy fz
theorem named : Try.prog.funcNamed Rows.pageStatesRow.func = some 18 := by kernel_rfl
theorem inst : Func.isInstance Try.prog Try.f18 Rows.pageStatesRow.origin Rows.pageStatesRow.targs := of_decide_eq_true (by kernel_rfl)
theorem wrap : Func.isWrapper Try.prog Try.f18 Rows.pageStatesRow.wrapper Rows.pageStatesRow.mainSum := by
  unfold Func.isWrapper; rw [if_neg (of_decide_eq_false (by kernel_rfl))]; exact ⟨rfl, rfl⟩

theorem typed : (Try.f18.params.toList.all fun t => Try.prog.readableRec t && decide (t < Try.prog.types.size)) = true := by kernel_rfl
theorem noInit : Try.prog.inits.idxOf? 18 = none := by kernel_rfl

set_option maxRecDepth 100000 in
theorem lifted (os : Os) (started : os.Started) (H : Type) (enc : TypeId × Value → H) :
    ReturnsInHanded {} Try.checked os 18 .any (Rows.pageStatesSpec.pre6 enc Try.prog Try.f18 Rows.pageStatesRow.domain false) (Rows.pageStatesSpec.post enc Try.prog Try.f18 false true false false) := by
  refine law_lifted (enc := enc) 18 Try.f18 Rows.pageStatesSpec os started noInit Try.func18 rfl ?_ rfl ?_
    (ChangeSpec.witness6 (enc := enc) (C := Try.checked) false ⟨#[], #[.agg #[.int .u64 0, .int .u32 0, .int .u32 0, .int .u32 0, .int .u64 0], .slice none 0 0, .slice none 0 0], []⟩ 8 (by kernel_rfl) (by kernel_rfl) (by kernel_rfl) (by kernel_rfl)) ?_
  · intro ds h
    match ds, h with
    | [d0, d1, d2], _ => rfl
  · intro t ht
    have := List.all_eq_true.1 typed t ht
    simpa using this
  intro W base args ds p hval hA hsz
  rw [Try.params18] at hA hval hsz
  obtain ⟨v0, vs0, d0, ds0, p0, q0, ha0, rfl, rfl, h0, r0⟩ := trodAll_cons hA
  obtain ⟨v1, vs1, d1, ds1, p1, q1, rfl, rfl, rfl, h1, r1⟩ := trodAll_cons r0
  obtain ⟨v2, vs2, d2, ds2, p2, q2, rfl, rfl, rfl, h2, r2⟩ := trodAll_cons r1
  obtain ⟨rfl, rfl, rfl⟩ := trodAll_nil r2
  obtain rfl : args = #[v0, v1, v2] := by cases args; simp_all
  obtain ⟨a0, rfl, b0⟩ := open_meta (hval 0 116 v0 rfl rfl) h0
  obtain ⟨a1, rfl, b1⟩ := open_bytes (hval 1 23 v1 rfl rfl) h1 (fun x hx => of_decide_eq_true (List.all_eq_true.1 hsz x (DataW.weights_mem_each (j := 1) rfl rfl x hx)))
  obtain ⟨a2, rfl, b2⟩ := open_bytes (hval 2 23 v2 rfl rfl) h2 (fun x hx => of_decide_eq_true (List.all_eq_true.1 hsz x (DataW.weights_mem_each (j := 2) rfl rfl x hx)))
  exact pageStates_any a0 a1 a2 W b0 b1 b2

theorem over : Rows.pageStatesRow.holds Try.pinned (OpenSpec.ofChange Rows.pageStatesSpec) :=
  OpenClaim.holds_of_wide 18 Try.f18 rfl rfl rfl rfl rfl rfl rfl ⟨rfl, rfl, rfl, rfl, rfl⟩ rfl rfl rfl rfl rfl named Try.func18 closed inst wrap
    (fun os started H enc _ => lifted os started H enc)

/-- The statement. -/
theorem proved : Rows.PageStatesSaid := over
#print axioms proved
end Go.Proofs.Ytfbjjblgcgjndaa.pageStates
