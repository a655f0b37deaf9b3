/- DiskTorn: for every input the law returns true, and each argument reads afterwards as it read before. No conditions. -/
import Derived.Test.YtfbjjblgcgjndaaRows
import Derived.Test.YtfbjjblgcgjndaaOpen4
import Derived.Test.YtfbjjblgcgjndaaFacts
import Derived.Test.YtfbjjblgcgjndaaTorn
set_option linter.unusedVariables false
set_option linter.unusedSimpArgs false
namespace Go.Proofs.Ytfbjjblgcgjndaa.diskTorn
open Go.ChangeShapes Go.WideShapes Go.ChangeAt Go.RowKit

theorem fa : Rows.diskTornRow.wf (OpenSpec.ofChange Rows.diskTornSpec) = true := by kernel_rfl
theorem fb : Try.f9.params.all (Try.prog.readableRec ·) = true := by kernel_rfl
theorem fc : namedTie Try.prog Rows.diskTornRow.named Rows.diskTornSpec.vars = true := by kernel_rfl
theorem fd : (Rows.diskTornRow.stops == []) = true := by kernel_rfl
theorem fe : (Rows.diskTornRow.knobs == []) = true := by kernel_rfl
theorem ff : (Rows.diskTornRow.inPlace == Try.prog.inPlace 9) = true := by kernel_rfl
theorem fg : (Rows.diskTornRow.unfollowed == Try.prog.unfollowed 9) = true := by kernel_rfl
theorem fh : (Rows.diskTornRow.recurses == Try.prog.recurses 9) = true := by kernel_rfl
theorem fi : (Rows.diskTornRow.named == Try.prog.varsNamed 9) = true := by kernel_rfl
theorem fj : (Rows.diskTornRow.maps == (Try.f9.params.toList ++ Rows.diskTornSpec.plain.varTypes Try.prog).any (Try.prog.mapsRec ·)) = true := by kernel_rfl
theorem fk : (Rows.diskTornRow.ifaces == (Try.f9.params.toList ++ Rows.diskTornSpec.plain.varTypes Try.prog).any (Try.prog.ifacesRec ·)) = true := by kernel_rfl
theorem fl : (Rows.diskTornRow.mapsOut == Try.prog.mapsAmong Try.f9.resultTypes.toList) = true := by kernel_rfl
theorem fm : (Rows.diskTornRow.loops == (Try.f9.params.toList ++ Rows.diskTornSpec.plain.varTypes Try.prog).any (Try.prog.loopsFrom ·)) = true := by kernel_rfl
theorem fn : (Rows.diskTornRow.wideKeys == (Try.f9.params.toList ++ Rows.diskTornSpec.plain.varTypes Try.prog ++ Try.f9.resultTypes.toList).any (Try.prog.wideKeysFrom ·)) = true := by kernel_rfl
theorem fo : Rows.diskTornSpec.vars.all (Try.prog.varReadable ·) = true := by kernel_rfl
theorem fp : Try.f9.resultTypes.all (fun t => Try.prog.readableRec t && decide (t < Try.prog.types.size)) = true := by kernel_rfl
theorem fq : (Rows.diskTornRow.ifacesOut == Try.f9.resultTypes.toList.any (Try.prog.ifacesRec ·)) = true := by kernel_rfl
theorem fr : (Rows.diskTornRow.loopsOut == Try.f9.resultTypes.toList.any (Try.prog.loopsFrom ·)) = true := by kernel_rfl
theorem fs : Rows.diskTornRow.plainKeys = true := by kernel_rfl
theorem ft : Rows.diskTornRow.shortTexts.isNone = true := by kernel_rfl
theorem fu : Rows.diskTornRow.lifted = false := by kernel_rfl
theorem fv : Rows.diskTornRow.make = .cut := by kernel_rfl
theorem fw : (Rows.diskTornRow.kinds == (if Rows.diskTornRow.domain.isEmpty then [] else Try.f9.params.toList.map fun t => match Try.prog.underlying t with | some (.int k) => some k | _ => Option.none)) = true := by kernel_rfl
theorem fx : (Rows.diskTornRow.pinned == Rows.diskTornRow.pinnedBy) = true := by kernel_rfl
theorem fy : (Rows.diskTornRow.veiled == (Try.f9.params.toList ++ Rows.diskTornSpec.plain.varTypes Try.prog ++ Try.f9.resultTypes.toList).any (Try.prog.veiledRec ·)) = true := by kernel_rfl
theorem fz : Rows.diskTornRow.veiledFits Try.prog Try.f9.params.toList (Try.f9.params.toList ++ Rows.diskTornSpec.plain.varTypes Try.prog ++ Try.f9.resultTypes.toList) = true := by kernel_rfl
set_option maxRecDepth 100000 in
theorem closed : joinedFacts Try.prog 9 Try.f9 Rows.diskTornSpec Rows.diskTornRow = true :=
  joined_try 9 Try.f9 Rows.diskTornSpec Rows.diskTornRow fa fb fc fd fe ff fg fh fi fj fk fl fm fn fo fp fq fr fs ft fu fv fw fx fy fz
theorem named : Try.prog.funcNamed Rows.diskTornRow.func = some 9 := by kernel_rfl
theorem inst : Func.isInstance Try.prog Try.f9 Rows.diskTornRow.origin Rows.diskTornRow.targs := of_decide_eq_true (by kernel_rfl)
theorem wrap : Func.isWrapper Try.prog Try.f9 Rows.diskTornRow.wrapper Rows.diskTornRow.mainSum := by
  unfold Func.isWrapper; rw [if_neg (of_decide_eq_false (by kernel_rfl))]; exact ⟨rfl, rfl⟩

theorem typed : (Try.f9.params.toList.all fun t => Try.prog.readableRec t && decide (t < Try.prog.types.size)) = true := by kernel_rfl
theorem noInit : Try.prog.inits.idxOf? 9 = none := by kernel_rfl

set_option maxRecDepth 100000 in
theorem lifted (os : Os) (started : os.Started) (H : Type) (enc : TypeId × Value → H) :
    ReturnsInHanded {} Try.checked os 9 .any (Rows.diskTornSpec.pre6 enc Try.prog Try.f9 Rows.diskTornRow.domain false) (Rows.diskTornSpec.post enc Try.prog Try.f9 false true false false) := by
  refine law_lifted (enc := enc) 9 Try.f9 Rows.diskTornSpec os started noInit Try.func9 rfl ?_ rfl ?_
    (ChangeSpec.witness6 (enc := enc) (C := Try.checked) false ⟨#[], #[.int .u8 0, .int .u8 0, .slice none 0 0], []⟩ 8 (by kernel_rfl) (by kernel_rfl) (by kernel_rfl) (by kernel_rfl)) ?_
  · intro ds h
    match ds, h with
    | [d0, d1, d2], _ => rfl
  · intro t ht
    have := List.all_eq_true.1 typed t ht
    simpa using this
  intro W base args ds p hval hA hsz
  rw [Try.params9] at hA hval hsz
  obtain ⟨v0, vs0, d0, ds0, p0, q0, ha0, rfl, rfl, h0, r0⟩ := trodAll_cons hA
  obtain ⟨v1, vs1, d1, ds1, p1, q1, rfl, rfl, rfl, h1, r1⟩ := trodAll_cons r0
  obtain ⟨v2, vs2, d2, ds2, p2, q2, rfl, rfl, rfl, h2, r2⟩ := trodAll_cons r1
  obtain ⟨rfl, rfl, rfl⟩ := trodAll_nil r2
  obtain rfl : args = #[v0, v1, v2] := by cases args; simp_all
  obtain ⟨a0, rfl, b0⟩ := open_u8 (hval 0 5 v0 rfl rfl) h0
  obtain ⟨a1, rfl, b1⟩ := open_u8 (hval 1 5 v1 rfl rfl) h1
  obtain ⟨a2, rfl, b2⟩ := open_bools (hval 2 73 v2 rfl rfl) h2 (fun x hx => of_decide_eq_true (List.all_eq_true.1 hsz x (DataW.weights_mem_each (j := 2) rfl rfl x hx)))
  exact diskTorn_any a0 a1 a2.A a2.c a2.l W b0 b1 b2.lies (Nat.le_trans b2.small (by omega))

theorem over : Rows.diskTornRow.holds Try.pinned (OpenSpec.ofChange Rows.diskTornSpec) :=
  OpenClaim.holds_of_wide 9 Try.f9 rfl rfl rfl rfl rfl rfl rfl ⟨rfl, rfl, rfl, rfl, rfl⟩ rfl rfl rfl rfl rfl named Try.func9 closed inst wrap
    (fun os started H enc _ => lifted os started H enc)

/-- The statement. -/
theorem proved : Rows.DiskTornSaid := over
#print axioms proved
end Go.Proofs.Ytfbjjblgcgjndaa.diskTorn
