/- OverBack: for every input the law returns true, and each argument reads afterwards as it read before. No conditions. -/
import Derived.Test.YtfbjjblgcgjndaaRows
import Derived.Test.YtfbjjblgcgjndaaPb9
set_option linter.unusedVariables false
set_option linter.unusedSimpArgs false
namespace Go.Proofs.Ytfbjjblgcgjndaa.overBack
open Go.ChangeShapes Go.WideShapes Go.ChangeAt Go.RowKit

theorem fa : Rows.overBackRow.wf (OpenSpec.ofChange Rows.overBackSpec) = true := by kernel_rfl
theorem fb : Try.f25.params.all (Try.prog.readableRec ·) = true := by kernel_rfl
theorem fc : namedTie Try.prog Rows.overBackRow.named Rows.overBackSpec.vars = true := by kernel_rfl
theorem fd : (Rows.overBackRow.stops == []) = true := by kernel_rfl
theorem fe : (Rows.overBackRow.knobs == []) = true := by kernel_rfl
theorem ff : (Rows.overBackRow.inPlace == Try.prog.inPlace 25) = true := by kernel_rfl
theorem fg : (Rows.overBackRow.unfollowed == Try.prog.unfollowed 25) = true := by kernel_rfl
theorem fh : (Rows.overBackRow.recurses == Try.prog.recurses 25) = true := by kernel_rfl
theorem fi : (Rows.overBackRow.named == Try.prog.varsNamed 25) = true := by kernel_rfl
theorem fj : (Rows.overBackRow.maps == (Try.f25.params.toList ++ Rows.overBackSpec.plain.varTypes Try.prog).any (Try.prog.mapsRec ·)) = true := by kernel_rfl
theorem fk : (Rows.overBackRow.ifaces == (Try.f25.params.toList ++ Rows.overBackSpec.plain.varTypes Try.prog).any (Try.prog.ifacesRec ·)) = true := by kernel_rfl
theorem fl : (Rows.overBackRow.mapsOut == Try.prog.mapsAmong Try.f25.resultTypes.toList) = true := by kernel_rfl
theorem fm : (Rows.overBackRow.loops == (Try.f25.params.toList ++ Rows.overBackSpec.plain.varTypes Try.prog).any (Try.prog.loopsFrom ·)) = true := by kernel_rfl
theorem fn : (Rows.overBackRow.wideKeys == (Try.f25.params.toList ++ Rows.overBackSpec.plain.varTypes Try.prog ++ Try.f25.resultTypes.toList).any (Try.prog.wideKeysFrom ·)) = true := by kernel_rfl
theorem fo : Rows.overBackSpec.vars.all (Try.prog.varReadable ·) = true := by kernel_rfl
theorem fp : Try.f25.resultTypes.all (fun t => Try.prog.readableRec t && decide (t < Try.prog.types.size)) = true := by kernel_rfl
theorem fq : (Rows.overBackRow.ifacesOut == Try.f25.resultTypes.toList.any (Try.prog.ifacesRec ·)) = true := by kernel_rfl
theorem fr : (Rows.overBackRow.loopsOut == Try.f25.resultTypes.toList.any (Try.prog.loopsFrom ·)) = true := by kernel_rfl
theorem fs : Rows.overBackRow.plainKeys = true := by kernel_rfl
theorem ft : Rows.overBackRow.shortTexts.isNone = true := by kernel_rfl
theorem fu : Rows.overBackRow.lifted = false := by kernel_rfl
theorem fv : Rows.overBackRow.make = .cut := by kernel_rfl
theorem fw : (Rows.overBackRow.kinds == (if Rows.overBackRow.domain.isEmpty then [] else Try.f25.params.toList.map fun t => match Try.prog.underlying t with | some (.int k) => some k | _ => Option.none)) = true := by kernel_rfl
theorem fx : (Rows.overBackRow.pinned == Rows.overBackRow.pinnedBy) = true := by kernel_rfl
theorem fy : (Rows.overBackRow.veiled == (Try.f25.params.toList ++ Rows.overBackSpec.plain.varTypes Try.prog ++ Try.f25.resultTypes.toList).any (Try.prog.veiledRec ·)) = true := by kernel_rfl
theorem fz : Rows.overBackRow.veiledFits Try.prog Try.f25.params.toList (Try.f25.params.toList ++ Rows.overBackSpec.plain.varTypes Try.prog ++ Try.f25.resultTypes.toList) = true := by kernel_rfl
set_option maxRecDepth 100000 in
theorem closed : joinedFacts Try.prog 25 Try.f25 Rows.overBackSpec Rows.overBackRow = true :=
  joined_try 25 Try.f25 Rows.overBackSpec Rows.overBackRow fa fb fc fd fe ff fg fh fi fj fk fl fm fn fo fp fq fr fs ft fu fv fw fx fy fz
theorem named : Try.prog.funcNamed Rows.overBackRow.func = some 25 := by kernel_rfl
theorem inst : Func.isInstance Try.prog Try.f25 Rows.overBackRow.origin Rows.overBackRow.targs := of_decide_eq_true (by kernel_rfl)
theorem wrap : Func.isWrapper Try.prog Try.f25 Rows.overBackRow.wrapper Rows.overBackRow.mainSum := by
  unfold Func.isWrapper; rw [if_neg (of_decide_eq_false (by kernel_rfl))]; exact ⟨rfl, rfl⟩

theorem typed : (Try.f25.params.toList.all fun t => Try.prog.readableRec t && decide (t < Try.prog.types.size)) = true := by kernel_rfl
theorem noInit : Try.prog.inits.idxOf? 25 = none := by kernel_rfl

set_option maxRecDepth 100000 in
theorem lifted (os : Os) (started : os.Started) (H : Type) (enc : TypeId × Value → H) :
    ReturnsInHanded {} Try.checked os 25 .any (Rows.overBackSpec.pre6 enc Try.prog Try.f25 Rows.overBackRow.domain false) (Rows.overBackSpec.post enc Try.prog Try.f25 false true false false) := by
  refine law_lifted (enc := enc) 25 Try.f25 Rows.overBackSpec os started noInit Try.func25 rfl ?_ rfl ?_
    (ChangeSpec.witness6 (enc := enc) (C := Try.checked) false ⟨#[], #[.slice none 0 0, .int .u8 0, .int .u8 0], []⟩ 8 (by kernel_rfl) (by kernel_rfl) (by kernel_rfl) (by kernel_rfl)) ?_
  · intro ds h
    match ds, h with
    | [d0, d1, d2], _ => rfl
  · intro t ht
    have := List.all_eq_true.1 typed t ht
    simpa using this
  intro W base args ds p hval hA hsz
  rw [Try.params25] at hA hval hsz
  obtain ⟨v0, vs0, d0, ds0, p0, q0, ha0, rfl, rfl, h0, r0⟩ := trodAll_cons hA
  obtain ⟨v1, vs1, d1, ds1, p1, q1, rfl, rfl, rfl, h1, r1⟩ := trodAll_cons r0
  obtain ⟨v2, vs2, d2, ds2, p2, q2, rfl, rfl, rfl, h2, r2⟩ := trodAll_cons r1
  obtain ⟨rfl, rfl, rfl⟩ := trodAll_nil r2
  obtain rfl : args = #[v0, v1, v2] := by cases args; simp_all
  obtain ⟨a0, rfl, b0⟩ := open_bytes (hval 0 23 v0 rfl rfl) h0 (fun x hx => of_decide_eq_true (List.all_eq_true.1 hsz x (DataW.weights_mem_each (j := 0) rfl rfl x hx)))
  obtain ⟨a1, rfl, b1⟩ := open_u8 (hval 1 5 v1 rfl rfl) h1
  obtain ⟨a2, rfl, b2⟩ := open_u8 (hval 2 5 v2 rfl rfl) h2
  exact overBack_any a0 a1 a2 W b0 (by omega) (by omega)

theorem over : Rows.overBackRow.holds Try.pinned (OpenSpec.ofChange Rows.overBackSpec) :=
  OpenClaim.holds_of_wide 25 Try.f25 rfl rfl rfl rfl rfl rfl rfl ⟨rfl, rfl, rfl, rfl, rfl⟩ rfl rfl rfl rfl rfl named Try.func25 closed inst wrap
    (fun os started H enc _ => lifted os started H enc)

/-- The statement. -/
theorem proved : Rows.OverBackSaid := over
#print axioms proved
end Go.Proofs.Ytfbjjblgcgjndaa.overBack
