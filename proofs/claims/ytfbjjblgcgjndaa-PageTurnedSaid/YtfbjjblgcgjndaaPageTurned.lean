/- PageTurned: for every input the law returns true, and each argument reads afterwards as it read before. No conditions. -/
import Derived.Test.YtfbjjblgcgjndaaRows
import Derived.Test.YtfbjjblgcgjndaaOpen3
import Derived.Test.YtfbjjblgcgjndaaFacts
import Derived.Test.YtfbjjblgcgjndaaTurnedLaw
set_option linter.unusedVariables false
set_option linter.unusedSimpArgs false
namespace Go.Proofs.Ytfbjjblgcgjndaa.pageTurned
open Go.ChangeShapes Go.WideShapes Go.ChangeAt Go.RowKit

theorem fa : Rows.pageTurnedRow.wf (OpenSpec.ofChange Rows.pageTurnedSpec) = true := by kernel_rfl
theorem fb : Try.f19.params.all (Try.prog.readableRec ·) = true := by kernel_rfl
theorem fc : namedTie Try.prog Rows.pageTurnedRow.named Rows.pageTurnedSpec.vars = true := by kernel_rfl
theorem fd : (Rows.pageTurnedRow.stops == []) = true := by kernel_rfl
theorem fe : (Rows.pageTurnedRow.knobs == []) = true := by kernel_rfl
theorem ff : (Rows.pageTurnedRow.inPlace == Try.prog.inPlace 19) = true := by kernel_rfl
theorem fg : (Rows.pageTurnedRow.unfollowed == Try.prog.unfollowed 19) = true := by kernel_rfl
theorem fh : (Rows.pageTurnedRow.recurses == Try.prog.recurses 19) = true := by kernel_rfl
theorem fi : (Rows.pageTurnedRow.named == Try.prog.varsNamed 19) = true := by kernel_rfl
theorem fj : (Rows.pageTurnedRow.maps == (Try.f19.params.toList ++ Rows.pageTurnedSpec.plain.varTypes Try.prog).any (Try.prog.mapsRec ·)) = true := by kernel_rfl
theorem fk : (Rows.pageTurnedRow.ifaces == (Try.f19.params.toList ++ Rows.pageTurnedSpec.plain.varTypes Try.prog).any (Try.prog.ifacesRec ·)) = true := by kernel_rfl
theorem fl : (Rows.pageTurnedRow.mapsOut == Try.prog.mapsAmong Try.f19.resultTypes.toList) = true := by kernel_rfl
theorem fm : (Rows.pageTurnedRow.loops == (Try.f19.params.toList ++ Rows.pageTurnedSpec.plain.varTypes Try.prog).any (Try.prog.loopsFrom ·)) = true := by kernel_rfl
theorem fn : (Rows.pageTurnedRow.wideKeys == (Try.f19.params.toList ++ Rows.pageTurnedSpec.plain.varTypes Try.prog ++ Try.f19.resultTypes.toList).any (Try.prog.wideKeysFrom ·)) = true := by kernel_rfl
theorem fo : Rows.pageTurnedSpec.vars.all (Try.prog.varReadable ·) = true := by kernel_rfl
theorem fp : Try.f19.resultTypes.all (fun t => Try.prog.readableRec t && decide (t < Try.prog.types.size)) = true := by kernel_rfl
theorem fq : (Rows.pageTurnedRow.ifacesOut == Try.f19.resultTypes.toList.any (Try.prog.ifacesRec ·)) = true := by kernel_rfl
theorem fr : (Rows.pageTurnedRow.loopsOut == Try.f19.resultTypes.toList.any (Try.prog.loopsFrom ·)) = true := by kernel_rfl
theorem fs : Rows.pageTurnedRow.plainKeys = true := by kernel_rfl
theorem ft : Rows.pageTurnedRow.shortTexts.isNone = true := by kernel_rfl
theorem fu : Rows.pageTurnedRow.lifted = false := by kernel_rfl
theorem fv : Rows.pageTurnedRow.make = .cut := by kernel_rfl
theorem fw : (Rows.pageTurnedRow.kinds == (if Rows.pageTurnedRow.domain.isEmpty then [] else Try.f19.params.toList.map fun t => match Try.prog.underlying t with | some (.int k) => some k | _ => Option.none)) = true := by kernel_rfl
theorem fx : (Rows.pageTurnedRow.pinned == Rows.pageTurnedRow.pinnedBy) = true := by kernel_rfl
theorem fy : (Rows.pageTurnedRow.veiled == (Try.f19.params.toList ++ Rows.pageTurnedSpec.plain.varTypes Try.prog ++ Try.f19.resultTypes.toList).any (Try.prog.veiledRec ·)) = true := by kernel_rfl
theorem fz : Rows.pageTurnedRow.veiledFits Try.prog Try.f19.params.toList (Try.f19.params.toList ++ Rows.pageTurnedSpec.plain.varTypes Try.prog ++ Try.f19.resultTypes.toList) = true := by kernel_rfl
set_option maxRecDepth 100000 in
theorem closed : joinedFacts Try.prog 19 Try.f19 Rows.pageTurnedSpec Rows.pageTurnedRow = true :=
  joined_try 19 Try.f19 Rows.pageTurnedSpec Rows.pageTurnedRow fa fb fc fd fe ff fg fh fi fj fk fl fm fn fo fp fq fr fs ft fu fv fw fx fy fz
theorem named : Try.prog.funcNamed Rows.pageTurnedRow.func = some 19 := by kernel_rfl
theorem inst : Func.isInstance Try.prog Try.f19 Rows.pageTurnedRow.origin Rows.pageTurnedRow.targs := of_decide_eq_true (by kernel_rfl)
theorem wrap : Func.isWrapper Try.prog Try.f19 Rows.pageTurnedRow.wrapper Rows.pageTurnedRow.mainSum := by
  unfold Func.isWrapper; rw [if_neg (of_decide_eq_false (by kernel_rfl))]; exact ⟨rfl, rfl⟩

theorem typed : (Try.f19.params.toList.all fun t => Try.prog.readableRec t && decide (t < Try.prog.types.size)) = true := by kernel_rfl
theorem noInit : Try.prog.inits.idxOf? 19 = none := by kernel_rfl

set_option maxRecDepth 100000 in
theorem lifted (os : Os) (started : os.Started) (H : Type) (enc : TypeId × Value → H) :
    ReturnsInHanded {} Try.checked os 19 .any (Rows.pageTurnedSpec.pre6 enc Try.prog Try.f19 Rows.pageTurnedRow.domain false) (Rows.pageTurnedSpec.post enc Try.prog Try.f19 false true false false) := by
  refine law_lifted (enc := enc) 19 Try.f19 Rows.pageTurnedSpec os started noInit Try.func19 rfl ?_ rfl ?_
    (ChangeSpec.witness6 (enc := enc) (C := Try.checked) false ⟨#[], #[.int .u8 0, .int .u32 0, .int .u32 0, .slice none 0 0, .agg #[.int .u64 0, .int .u32 0, .int .u32 0, .int .u32 0, .int .u64 0], .int .i64 0, .int .u32 0], []⟩ 8 (by kernel_rfl) (by kernel_rfl) (by kernel_rfl) (by kernel_rfl)) ?_
  · intro ds h
    match ds, h with
    | [d0, d1, d2, d3, d4, d5, d6], _ => rfl
  · intro t ht
    have := List.all_eq_true.1 typed t ht
    simpa using this
  intro W base args ds p hval hA hsz
  rw [Try.params19] at hA hval hsz
  obtain ⟨v0, vs0, d0, ds0, p0, q0, ha0, rfl, rfl, h0, r0⟩ := trodAll_cons hA
  obtain ⟨v1, vs1, d1, ds1, p1, q1, rfl, rfl, rfl, h1, r1⟩ := trodAll_cons r0
  obtain ⟨v2, vs2, d2, ds2, p2, q2, rfl, rfl, rfl, h2, r2⟩ := trodAll_cons r1
  obtain ⟨v3, vs3, d3, ds3, p3, q3, rfl, rfl, rfl, h3, r3⟩ := trodAll_cons r2
  obtain ⟨v4, vs4, d4, ds4, p4, q4, rfl, rfl, rfl, h4, r4⟩ := trodAll_cons r3
  obtain ⟨v5, vs5, d5, ds5, p5, q5, rfl, rfl, rfl, h5, r5⟩ := trodAll_cons r4
  obtain ⟨v6, vs6, d6, ds6, p6, q6, rfl, rfl, rfl, h6, r6⟩ := trodAll_cons r5
  obtain ⟨rfl, rfl, rfl⟩ := trodAll_nil r6
  obtain rfl : args = #[v0, v1, v2, v3, v4, v5, v6] := by cases args; simp_all
  obtain ⟨a0, rfl, b0⟩ := open_u8 (hval 0 5 v0 rfl rfl) h0
  obtain ⟨a1, rfl, b1⟩ := open_u32 (hval 1 22 v1 rfl rfl) h1
  obtain ⟨a2, rfl, b2⟩ := open_u32 (hval 2 22 v2 rfl rfl) h2
  obtain ⟨a3, rfl, b3⟩ := open_bytes (hval 3 23 v3 rfl rfl) h3 (fun x hx => of_decide_eq_true (List.all_eq_true.1 hsz x (DataW.weights_mem_each (j := 3) rfl rfl x hx)))
  obtain ⟨a4, rfl, b4⟩ := open_meta (hval 4 116 v4 rfl rfl) h4
  obtain ⟨a5, rfl, b5⟩ := open_i64 (hval 5 3 v5 rfl rfl) h5
  obtain ⟨a6, rfl, b6⟩ := open_u32 (hval 6 22 v6 rfl rfl) h6
  exact pageTurned_any a0 a1 a2 a3 a4 a5 a6 W b3 b4 b0 b1 b2 b6

theorem over : Rows.pageTurnedRow.holds Try.pinned (OpenSpec.ofChange Rows.pageTurnedSpec) :=
  OpenClaim.holds_of_wide 19 Try.f19 rfl rfl rfl rfl rfl rfl rfl ⟨rfl, rfl, rfl, rfl, rfl⟩ rfl rfl rfl rfl rfl named Try.func19 closed inst wrap
    (fun os started H enc _ => lifted os started H enc)

/-- The statement. -/
theorem proved : Rows.PageTurnedSaid := over
#print axioms proved
end Go.Proofs.Ytfbjjblgcgjndaa.pageTurned
