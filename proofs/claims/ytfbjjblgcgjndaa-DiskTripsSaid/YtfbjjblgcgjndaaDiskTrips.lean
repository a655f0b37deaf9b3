/- DiskTrips: for every input the law returns true, and each argument reads afterwards as it read before. No conditions. -/
import Derived.Test.YtfbjjblgcgjndaaRows
import Derived.Test.YtfbjjblgcgjndaaOpen4
import Derived.Test.YtfbjjblgcgjndaaFacts
import Derived.Test.YtfbjjblgcgjndaaTrips
set_option linter.unusedVariables false
set_option linter.unusedSimpArgs false
namespace Go.Proofs.Ytfbjjblgcgjndaa.diskTrips
open Go.ChangeShapes Go.WideShapes Go.ChangeAt Go.RowKit

theorem fa : Rows.diskTripsRow.wf (OpenSpec.ofChange Rows.diskTripsSpec) = true := by kernel_rfl
theorem fb : Try.f10.params.all (Try.prog.readableRec ·) = true := by kernel_rfl
theorem fc : namedTie Try.prog Rows.diskTripsRow.named Rows.diskTripsSpec.vars = true := by kernel_rfl
theorem fd : (Rows.diskTripsRow.stops == []) = true := by kernel_rfl
theorem fe : (Rows.diskTripsRow.knobs == []) = true := by kernel_rfl
theorem ff : (Rows.diskTripsRow.inPlace == Try.prog.inPlace 10) = true := by kernel_rfl
theorem fg : (Rows.diskTripsRow.unfollowed == Try.prog.unfollowed 10) = true := by kernel_rfl
theorem fh : (Rows.diskTripsRow.recurses == Try.prog.recurses 10) = true := by kernel_rfl
theorem fi : (Rows.diskTripsRow.named == Try.prog.varsNamed 10) = true := by kernel_rfl
theorem fj : (Rows.diskTripsRow.maps == (Try.f10.params.toList ++ Rows.diskTripsSpec.plain.varTypes Try.prog).any (Try.prog.mapsRec ·)) = true := by kernel_rfl
theorem fk : (Rows.diskTripsRow.ifaces == (Try.f10.params.toList ++ Rows.diskTripsSpec.plain.varTypes Try.prog).any (Try.prog.ifacesRec ·)) = true := by kernel_rfl
theorem fl : (Rows.diskTripsRow.mapsOut == Try.prog.mapsAmong Try.f10.resultTypes.toList) = true := by kernel_rfl
theorem fm : (Rows.diskTripsRow.loops == (Try.f10.params.toList ++ Rows.diskTripsSpec.plain.varTypes Try.prog).any (Try.prog.loopsFrom ·)) = true := by kernel_rfl
theorem fn : (Rows.diskTripsRow.wideKeys == (Try.f10.params.toList ++ Rows.diskTripsSpec.plain.varTypes Try.prog ++ Try.f10.resultTypes.toList).any (Try.prog.wideKeysFrom ·)) = true := by kernel_rfl
theorem fo : Rows.diskTripsSpec.vars.all (Try.prog.varReadable ·) = true := by kernel_rfl
theorem fp : Try.f10.resultTypes.all (fun t => Try.prog.readableRec t && decide (t < Try.prog.types.size)) = true := by kernel_rfl
theorem fq : (Rows.diskTripsRow.ifacesOut == Try.f10.resultTypes.toList.any (Try.prog.ifacesRec ·)) = true := by kernel_rfl
theorem fr : (Rows.diskTripsRow.loopsOut == Try.f10.resultTypes.toList.any (Try.prog.loopsFrom ·)) = true := by kernel_rfl
theorem fs : Rows.diskTripsRow.plainKeys = true := by kernel_rfl
theorem ft : Rows.diskTripsRow.shortTexts.isNone = true := by kernel_rfl
theorem fu : Rows.diskTripsRow.lifted = false := by kernel_rfl
theorem fv : Rows.diskTripsRow.make = .cut := by kernel_rfl
theorem fw : (Rows.diskTripsRow.kinds == (if Rows.diskTripsRow.domain.isEmpty then [] else Try.f10.params.toList.map fun t => match Try.prog.underlying t with | some (.int k) => some k | _ => Option.none)) = true := by kernel_rfl
theorem fx : (Rows.diskTripsRow.pinned == Rows.diskTripsRow.pinnedBy) = true := by kernel_rfl
theorem fy : (Rows.diskTripsRow.veiled == (Try.f10.params.toList ++ Rows.diskTripsSpec.plain.varTypes Try.prog ++ Try.f10.resultTypes.toList).any (Try.prog.veiledRec ·)) = true := by kernel_rfl
theorem fz : Rows.diskTripsRow.veiledFits Try.prog Try.f10.params.toList (Try.f10.params.toList ++ Rows.diskTripsSpec.plain.varTypes Try.prog ++ Try.f10.resultTypes.toList) = true := by kernel_rfl
set_option maxRecDepth 100000 in
theorem closed : joinedFacts Try.prog 10 Try.f10 Rows.diskTripsSpec Rows.diskTripsRow = true :=
  joined_try 10 Try.f10 Rows.diskTripsSpec Rows.diskTripsRow fa fb fc fd fe ff fg fh fi fj fk fl fm fn fo fp fq fr fs ft fu fv fw fx fy fz
theorem named : Try.prog.funcNamed Rows.diskTripsRow.func = some 10 := by kernel_rfl
theorem inst : Func.isInstance Try.prog Try.f10 Rows.diskTripsRow.origin Rows.diskTripsRow.targs := of_decide_eq_true (by kernel_rfl)
theorem wrap : Func.isWrapper Try.prog Try.f10 Rows.diskTripsRow.wrapper Rows.diskTripsRow.mainSum := by
  unfold Func.isWrapper; rw [if_neg (of_decide_eq_false (by kernel_rfl))]; exact ⟨rfl, rfl⟩

theorem typed : (Try.f10.params.toList.all fun t => Try.prog.readableRec t && decide (t < Try.prog.types.size)) = true := by kernel_rfl
theorem noInit : Try.prog.inits.idxOf? 10 = none := by kernel_rfl

set_option maxRecDepth 100000 in
theorem lifted (os : Os) (started : os.Started) (H : Type) (enc : TypeId × Value → H) :
    ReturnsInHanded {} Try.checked os 10 .any (Rows.diskTripsSpec.pre6 enc Try.prog Try.f10 Rows.diskTripsRow.domain false) (Rows.diskTripsSpec.post enc Try.prog Try.f10 false true false false) := by
  refine law_lifted (enc := enc) 10 Try.f10 Rows.diskTripsSpec os started noInit Try.func10 rfl ?_ rfl ?_
    (ChangeSpec.witness6 (enc := enc) (C := Try.checked) false ⟨#[], #[.int .u8 0, .int .u8 0, .slice none 0 0], []⟩ 8 (by kernel_rfl) (by kernel_rfl) (by kernel_rfl) (by kernel_rfl)) ?_
  · intro ds h
    match ds, h with
    | [d0, d1, d2], _ => rfl
  · intro t ht
    have := List.all_eq_true.1 typed t ht
    simpa using this
  intro W base args ds p hval hA hsz
  rw [Try.params10] at hA hval hsz
  obtain ⟨v0, vs0, d0, ds0, p0, q0, ha0, rfl, rfl, h0, r0⟩ := trodAll_cons hA
  obtain ⟨v1, vs1, d1, ds1, p1, q1, rfl, rfl, rfl, h1, r1⟩ := trodAll_cons r0
  obtain ⟨v2, vs2, d2, ds2, p2, q2, rfl, rfl, rfl, h2, r2⟩ := trodAll_cons r1
  obtain ⟨rfl, rfl, rfl⟩ := trodAll_nil r2
  obtain rfl : args = #[v0, v1, v2] := by cases args; simp_all
  obtain ⟨a0, rfl, b0⟩ := open_u8 (hval 0 5 v0 rfl rfl) h0
  obtain ⟨a1, rfl, b1⟩ := open_u8 (hval 1 5 v1 rfl rfl) h1
  obtain ⟨a2, rfl, b2⟩ := open_shorts (hval 2 84 v2 rfl rfl) h2 (fun x hx => of_decide_eq_true (List.all_eq_true.1 hsz x (DataW.weights_mem_each (j := 2) rfl rfl x hx)))
  exact diskTrips_any a0 a1 a2.A a2.c a2.l W b0 b1 b2.lies b2.all (Nat.le_trans b2.small (by omega))

theorem over : Rows.diskTripsRow.holds Try.pinned (OpenSpec.ofChange Rows.diskTripsSpec) :=
  OpenClaim.holds_of_wide 10 Try.f10 rfl rfl rfl rfl rfl rfl rfl ⟨rfl, rfl, rfl, rfl, rfl⟩ rfl rfl rfl rfl rfl named Try.func10 closed inst wrap
    (fun os started H enc _ => lifted os started H enc)

/-- The statement. -/
theorem proved : Rows.DiskTripsSaid := over
#print axioms proved
end Go.Proofs.Ytfbjjblgcgjndaa.diskTrips
