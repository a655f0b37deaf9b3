/- PoolSizes: for every input the law returns true, and each argument reads afterwards as it read before. No conditions. -/
import Derived.Test.YtfbjjblgcgjndaaRows
import Derived.Test.YtfbjjblgcgjndaaPq1
set_option linter.unusedVariables false
set_option linter.unusedSimpArgs false
namespace Go.Proofs.Ytfbjjblgcgjndaa.poolSizes
open Go.ChangeShapes Go.WideShapes Go.ChangeAt Go.RowKit

theorem fa : Rows.poolSizesRow.wf (OpenSpec.ofChange Rows.poolSizesSpec) = true := by kernel_rfl
theorem fb : Try.f23.params.all (Try.prog.readableRec ·) = true := by kernel_rfl
theorem fc : namedTie Try.prog Rows.poolSizesRow.named Rows.poolSizesSpec.vars = true := by kernel_rfl
theorem fd : (Rows.poolSizesRow.stops == []) = true := by kernel_rfl
theorem fe : (Rows.poolSizesRow.knobs == []) = true := by kernel_rfl
theorem ff : (Rows.poolSizesRow.inPlace == Try.prog.inPlace 23) = true := by kernel_rfl
theorem fg : (Rows.poolSizesRow.unfollowed == Try.prog.unfollowed 23) = true := by kernel_rfl
theorem fh : (Rows.poolSizesRow.recurses == Try.prog.recurses 23) = true := by kernel_rfl
theorem fi : (Rows.poolSizesRow.named == Try.prog.varsNamed 23) = true := by kernel_rfl
theorem fj : (Rows.poolSizesRow.maps == (Try.f23.params.toList ++ Rows.poolSizesSpec.plain.varTypes Try.prog).any (Try.prog.mapsRec ·)) = true := by kernel_rfl
theorem fk : (Rows.poolSizesRow.ifaces == (Try.f23.params.toList ++ Rows.poolSizesSpec.plain.varTypes Try.prog).any (Try.prog.ifacesRec ·)) = true := by kernel_rfl
theorem fl : (Rows.poolSizesRow.mapsOut == Try.prog.mapsAmong Try.f23.resultTypes.toList) = true := by kernel_rfl
theorem fm : (Rows.poolSizesRow.loops == (Try.f23.params.toList ++ Rows.poolSizesSpec.plain.varTypes Try.prog).any (Try.prog.loopsFrom ·)) = true := by kernel_rfl
theorem fn : (Rows.poolSizesRow.wideKeys == (Try.f23.params.toList ++ Rows.poolSizesSpec.plain.varTypes Try.prog ++ Try.f23.resultTypes.toList).any (Try.prog.wideKeysFrom ·)) = true := by kernel_rfl
theorem fo : Rows.poolSizesSpec.vars.all (Try.prog.varReadable ·) = true := by kernel_rfl
theorem fp : Try.f23.resultTypes.all (fun t => Try.prog.readableRec t && decide (t < Try.prog.types.size)) = true := by kernel_rfl
theorem fq : (Rows.poolSizesRow.ifacesOut == Try.f23.resultTypes.toList.any (Try.prog.ifacesRec ·)) = true := by kernel_rfl
theorem fr : (Rows.poolSizesRow.loopsOut == Try.f23.resultTypes.toList.any (Try.prog.loopsFrom ·)) = true := by kernel_rfl
theorem fs : Rows.poolSizesRow.plainKeys = true := by kernel_rfl
theorem ft : Rows.poolSizesRow.shortTexts.isNone = true := by kernel_rfl
theorem fu : Rows.poolSizesRow.lifted = false := by kernel_rfl
theorem fv : Rows.poolSizesRow.make = .cut := by kernel_rfl
theorem fw : (Rows.poolSizesRow.kinds == (if Rows.poolSizesRow.domain.isEmpty then [] else Try.f23.params.toList.map fun t => match Try.prog.underlying t with | some (.int k) => some k | _ => Option.none)) = true := by kernel_rfl
theorem fx : (Rows.poolSizesRow.pinned == Rows.poolSizesRow.pinnedBy) = true := by kernel_rfl
theorem fy : (Rows.poolSizesRow.veiled == (Try.f23.params.toList ++ Rows.poolSizesSpec.plain.varTypes Try.prog ++ Try.f23.resultTypes.toList).any (Try.prog.veiledRec ·)) = true := by kernel_rfl
theorem fz : Rows.poolSizesRow.veiledFits Try.prog Try.f23.params.toList (Try.f23.params.toList ++ Rows.poolSizesSpec.plain.varTypes Try.prog ++ Try.f23.resultTypes.toList) = true := by kernel_rfl
set_option maxRecDepth 100000 in
theorem closed : joinedFacts Try.prog 23 Try.f23 Rows.poolSizesSpec Rows.poolSizesRow = true :=
  joined_try 23 Try.f23 Rows.poolSizesSpec Rows.poolSizesRow fa fb fc fd fe ff fg fh fi fj fk fl fm fn fo fp fq fr fs ft fu fv fw fx fy fz
theorem named : Try.prog.funcNamed Rows.poolSizesRow.func = some 23 := by kernel_rfl
theorem inst : Func.isInstance Try.prog Try.f23 Rows.poolSizesRow.origin Rows.poolSizesRow.targs := of_decide_eq_true (by kernel_rfl)
theorem wrap : Func.isWrapper Try.prog Try.f23 Rows.poolSizesRow.wrapper Rows.poolSizesRow.mainSum := by
  unfold Func.isWrapper; rw [if_neg (of_decide_eq_false (by kernel_rfl))]; exact ⟨rfl, rfl⟩

theorem typed : (Try.f23.params.toList.all fun t => Try.prog.readableRec t && decide (t < Try.prog.types.size)) = true := by kernel_rfl
theorem noInit : Try.prog.inits.idxOf? 23 = none := by kernel_rfl

set_option maxRecDepth 100000 in
theorem lifted (os : Os) (started : os.Started) (H : Type) (enc : TypeId × Value → H) :
    ReturnsInHanded {} Try.checked os 23 .any (Rows.poolSizesSpec.pre6 enc Try.prog Try.f23 Rows.poolSizesRow.domain false) (Rows.poolSizesSpec.post enc Try.prog Try.f23 false true false false) := by
  refine law_lifted (enc := enc) 23 Try.f23 Rows.poolSizesSpec os started noInit Try.func23 rfl ?_ rfl ?_
    (ChangeSpec.witness6 (enc := enc) (C := Try.checked) false ⟨#[], #[.int .i64 0, .int .u8 0, .int .u8 0, .slice none 0 0], []⟩ 8 (by kernel_rfl) (by kernel_rfl) (by kernel_rfl) (by kernel_rfl)) ?_
  · intro ds h
    match ds, h with
    | [d0, d1, d2, d3], _ => rfl
  · intro t ht
    have := List.all_eq_true.1 typed t ht
    simpa using this
  intro W base args ds p hval hA hsz
  rw [Try.params23] at hA hval hsz
  obtain ⟨v0, vs0, d0, ds0, p0, q0, ha0, rfl, rfl, h0, r0⟩ := trodAll_cons hA
  obtain ⟨v1, vs1, d1, ds1, p1, q1, rfl, rfl, rfl, h1, r1⟩ := trodAll_cons r0
  obtain ⟨v2, vs2, d2, ds2, p2, q2, rfl, rfl, rfl, h2, r2⟩ := trodAll_cons r1
  obtain ⟨v3, vs3, d3, ds3, p3, q3, rfl, rfl, rfl, h3, r3⟩ := trodAll_cons r2
  obtain ⟨rfl, rfl, rfl⟩ := trodAll_nil r3
  obtain rfl : args = #[v0, v1, v2, v3] := by cases args; simp_all
  obtain ⟨a0, rfl, b0⟩ := open_i64 (hval 0 3 v0 rfl rfl) h0
  obtain ⟨a1, rfl, b1⟩ := open_u8 (hval 1 5 v1 rfl rfl) h1
  obtain ⟨a2, rfl, b2⟩ := open_u8 (hval 2 5 v2 rfl rfl) h2
  obtain ⟨a3, rfl, b3⟩ := open_pacts (hval 3 135 v3 rfl rfl) h3 (fun x hx => of_decide_eq_true (List.all_eq_true.1 hsz x (DataW.weights_mem_each (j := 3) rfl rfl x hx)))
  exact poolSizes_any a0 a1 a2 a3 W b0 b1 b2 b3

theorem over : Rows.poolSizesRow.holds Try.pinned (OpenSpec.ofChange Rows.poolSizesSpec) :=
  OpenClaim.holds_of_wide 23 Try.f23 rfl rfl rfl rfl rfl rfl rfl ⟨rfl, rfl, rfl, rfl, rfl⟩ rfl rfl rfl rfl rfl named Try.func23 closed inst wrap
    (fun os started H enc _ => lifted os started H enc)

/-- The statement. -/
theorem proved : Rows.PoolSizesSaid := over
#print axioms proved
end Go.Proofs.Ytfbjjblgcgjndaa.poolSizes
