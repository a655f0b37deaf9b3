/- PageNewest: for every input the law returns true, and each argument reads afterwards as it read before. No conditions. -/
import Derived.Test.YtfbjjblgcgjndaaRows
import Derived.Test.YtfbjjblgcgjndaaOpen3
import Derived.Test.YtfbjjblgcgjndaaFacts
import Derived.Test.YtfbjjblgcgjndaaNewest
set_option linter.unusedVariables false
set_option linter.unusedSimpArgs false
namespace Go.Proofs.Ytfbjjblgcgjndaa.pageNewest
open Go.ChangeShapes Go.WideShapes Go.ChangeAt Go.RowKit

theorem fa : Rows.pageNewestRow.wf (OpenSpec.ofChange Rows.pageNewestSpec) = true := by kernel_rfl
theorem fb : Try.f20.params.all (Try.prog.readableRec ·) = true := by kernel_rfl
theorem fc : namedTie Try.prog Rows.pageNewestRow.named Rows.pageNewestSpec.vars = true := by kernel_rfl
theorem fd : (Rows.pageNewestRow.stops == []) = true := by kernel_rfl
theorem fe : (Rows.pageNewestRow.knobs == []) = true := by kernel_rfl
theorem ff : (Rows.pageNewestRow.inPlace == Try.prog.inPlace 20) = true := by kernel_rfl
theorem fg : (Rows.pageNewestRow.unfollowed == Try.prog.unfollowed 20) = true := by kernel_rfl
theorem fh : (Rows.pageNewestRow.recurses == Try.prog.recurses 20) = true := by kernel_rfl
theorem fi : (Rows.pageNewestRow.named == Try.prog.varsNamed 20) = true := by kernel_rfl
theorem fj : (Rows.pageNewestRow.maps == (Try.f20.params.toList ++ Rows.pageNewestSpec.plain.varTypes Try.prog).any (Try.prog.mapsRec ·)) = true := by kernel_rfl
theorem fk : (Rows.pageNewestRow.ifaces == (Try.f20.params.toList ++ Rows.pageNewestSpec.plain.varTypes Try.prog).any (Try.prog.ifacesRec ·)) = true := by kernel_rfl
theorem fl : (Rows.pageNewestRow.mapsOut == Try.prog.mapsAmong Try.f20.resultTypes.toList) = true := by kernel_rfl
theorem fm : (Rows.pageNewestRow.loops == (Try.f20.params.toList ++ Rows.pageNewestSpec.plain.varTypes Try.prog).any (Try.prog.loopsFrom ·)) = true := by kernel_rfl
theorem fn : (Rows.pageNewestRow.wideKeys == (Try.f20.params.toList ++ Rows.pageNewestSpec.plain.varTypes Try.prog ++ Try.f20.resultTypes.toList).any (Try.prog.wideKeysFrom ·)) = true := by kernel_rfl
theorem fo : Rows.pageNewestSpec.vars.all (Try.prog.varReadable ·) = true := by kernel_rfl
theorem fp : Try.f20.resultTypes.all (fun t => Try.prog.readableRec t && decide (t < Try.prog.types.size)) = true := by kernel_rfl
theorem fq : (Rows.pageNewestRow.ifacesOut == Try.f20.resultTypes.toList.any (Try.prog.ifacesRec ·)) = true := by kernel_rfl
theorem fr : (Rows.pageNewestRow.loopsOut == Try.f20.resultTypes.toList.any (Try.prog.loopsFrom ·)) = true := by kernel_rfl
theorem fs : Rows.pageNewestRow.plainKeys = true := by kernel_rfl
theorem ft : Rows.pageNewestRow.shortTexts.isNone = true := by kernel_rfl
theorem fu : Rows.pageNewestRow.lifted = false := by kernel_rfl
theorem fv : Rows.pageNewestRow.make = .cut := by kernel_rfl
theorem fw : (Rows.pageNewestRow.kinds == (if Rows.pageNewestRow.domain.isEmpty then [] else Try.f20.params.toList.map fun t => match Try.prog.underlying t with | some (.int k) => some k | _ => Option.none)) = true := by kernel_rfl
theorem fx : (Rows.pageNewestRow.pinned == Rows.pageNewestRow.pinnedBy) = true := by kernel_rfl
theorem fy : (Rows.pageNewestRow.veiled == (Try.f20.params.toList ++ Rows.pageNewestSpec.plain.varTypes Try.prog ++ Try.f20.resultTypes.toList).any (Try.prog.veiledRec ·)) = true := by kernel_rfl
theorem fz : Rows.pageNewestRow.veiledFits Try.prog Try.f20.params.toList (Try.f20.params.toList ++ Rows.pageNewestSpec.plain.varTypes Try.prog ++ Try.f20.resultTypes.toList) = true := by kernel_rfl
set_option maxRecDepth 100000 in
theorem closed : joinedFacts Try.prog 20 Try.f20 Rows.pageNewestSpec Rows.pageNewestRow = true :=
  joined_try 20 Try.f20 Rows.pageNewestSpec Rows.pageNewestRow fa fb fc fd fe ff fg fh fi fj fk fl fm fn fo fp fq fr fs ft fu fv fw fx fy fz
theorem named : Try.prog.funcNamed Rows.pageNewestRow.func = some 20 := by kernel_rfl
theorem inst : Func.isInstance Try.prog Try.f20 Rows.pageNewestRow.origin Rows.pageNewestRow.targs := of_decide_eq_true (by kernel_rfl)
theorem wrap : Func.isWrapper Try.prog Try.f20 Rows.pageNewestRow.wrapper Rows.pageNewestRow.mainSum := by
  unfold Func.isWrapper; rw [if_neg (of_decide_eq_false (by kernel_rfl))]; exact ⟨rfl, rfl⟩

theorem typed : (Try.f20.params.toList.all fun t => Try.prog.readableRec t && decide (t < Try.prog.types.size)) = true := by kernel_rfl
theorem noInit : Try.prog.inits.idxOf? 20 = none := by kernel_rfl

set_option maxRecDepth 100000 in
theorem lifted (os : Os) (started : os.Started) (H : Type) (enc : TypeId × Value → H) :
    ReturnsInHanded {} Try.checked os 20 .any (Rows.pageNewestSpec.pre6 enc Try.prog Try.f20 Rows.pageNewestRow.domain false) (Rows.pageNewestSpec.post enc Try.prog Try.f20 false true false false) := by
  refine law_lifted (enc := enc) 20 Try.f20 Rows.pageNewestSpec os started noInit Try.func20 rfl ?_ rfl ?_
    (ChangeSpec.witness6 (enc := enc) (C := Try.checked) false ⟨#[], #[.agg #[.int .u64 0, .int .u32 0, .int .u32 0, .int .u32 0, .int .u64 0], .agg #[.int .u64 0, .int .u32 0, .int .u32 0, .int .u32 0, .int .u64 0], .int .u8 0, .int .i64 0, .int .u32 0], []⟩ 8 (by kernel_rfl) (by kernel_rfl) (by kernel_rfl) (by kernel_rfl)) ?_
  · intro ds h
    match ds, h with
    | [d0, d1, d2, d3, d4], _ => rfl
  · intro t ht
    have := List.all_eq_true.1 typed t ht
    simpa using this
  intro W base args ds p hval hA hsz
  rw [Try.params20] at hA hval hsz
  obtain ⟨v0, vs0, d0, ds0, p0, q0, ha0, rfl, rfl, h0, r0⟩ := trodAll_cons hA
  obtain ⟨v1, vs1, d1, ds1, p1, q1, rfl, rfl, rfl, h1, r1⟩ := trodAll_cons r0
  obtain ⟨v2, vs2, d2, ds2, p2, q2, rfl, rfl, rfl, h2, r2⟩ := trodAll_cons r1
  obtain ⟨v3, vs3, d3, ds3, p3, q3, rfl, rfl, rfl, h3, r3⟩ := trodAll_cons r2
  obtain ⟨v4, vs4, d4, ds4, p4, q4, rfl, rfl, rfl, h4, r4⟩ := trodAll_cons r3
  obtain ⟨rfl, rfl, rfl⟩ := trodAll_nil r4
  obtain rfl : args = #[v0, v1, v2, v3, v4] := by cases args; simp_all
  obtain ⟨a0, rfl, b0⟩ := open_meta (hval 0 116 v0 rfl rfl) h0
  obtain ⟨a1, rfl, b1⟩ := open_meta (hval 1 116 v1 rfl rfl) h1
  obtain ⟨a2, rfl, b2⟩ := open_u8 (hval 2 5 v2 rfl rfl) h2
  obtain ⟨a3, rfl, b3⟩ := open_i64 (hval 3 3 v3 rfl rfl) h3
  obtain ⟨a4, rfl, b4⟩ := open_u32 (hval 4 22 v4 rfl rfl) h4
  exact pageNewest_any a0 a1 a2 a4 a3 W b0 b1 b2 b4

theorem over : Rows.pageNewestRow.holds Try.pinned (OpenSpec.ofChange Rows.pageNewestSpec) :=
  OpenClaim.holds_of_wide 20 Try.f20 rfl rfl rfl rfl rfl rfl rfl ⟨rfl, rfl, rfl, rfl, rfl⟩ rfl rfl rfl rfl rfl named Try.func20 closed inst wrap
    (fun os started H enc _ => lifted os started H enc)

/-- The statement. -/
theorem proved : Rows.PageNewestSaid := over
#print axioms proved
end Go.Proofs.Ytfbjjblgcgjndaa.pageNewest
