/- CrcLinear: for every input the law returns true, and each argument reads afterwards as it read before. No conditions. -/
import Derived.Test.YtfbjjblgcgjndaaRows
import Derived.Test.YtfbjjblgcgjndaaOpen
import Derived.Test.YtfbjjblgcgjndaaFacts
import Derived.Test.YtfbjjblgcgjndaaLaw01b
import Derived.WalkKit
import Derived.ProofKit
import Derived.OpenShut
import Derived.ShutString
import Derived.ChangeOld
import Derived.Below
namespace Go.Proofs.Ytfbjjblgcgjndaa.crcLinear
open Go.ChangeShapes Go.WideShapes Go.ChangeAt Go.RowKit
open Go.ChangeMaps (open_string shut_string)
set_option linter.unusedVariables false

theorem walk (a0 : Option Addr) (len0 cap0 : Nat) (z0 : List Int) (a1 : Option Addr) (len1 cap1 : Nat) (z1 : List Int) (w : World) (w0 : IsRow .u8 w a0 len0 cap0 z0) (w1 : IsRow .u8 w a1 len1 cap1 z1) :
    Calls Try.prog 5 #[.slice a0 len0 cap0, .slice a1 len1 cap1] w fun e w' => e = .returned (.bool true) ∧ Below w.heap.size w w' := by
  obtain ⟨l, rfl, hA, hnil, hc, hcm, hl⟩ := row_bytes w0
  obtain ⟨m, rfl, hB, hnil2, hd, hdm, hm⟩ := row_bytes w1
  exact crcLinear_any a0 a1 cap0 cap1 l m w hl hm hA hB hc hd hcm hdm

set_option maxRecDepth 100000 in
theorem lifted (os : Os) (started : os.Started) (H : Type) (enc : TypeId × Value → H) :
    ReturnsInHanded {} Try.checked os 5 .any (Rows.crcLinearSpec.pre6 enc Try.prog Try.f5 Rows.crcLinearRow.domain false) (Rows.crcLinearSpec.post enc Try.prog Try.f5 false true false false) := by
  refine returnsInHanded_of_change (C := Try.checked) Try.own started (by kernel_rfl) Try.func5
    (ChangeSpec.witness6 (enc := enc) (C := Try.checked) false ⟨#[], #[.slice none 0 0, .slice none 0 0], []⟩ 8 (by kernel_rfl) (by kernel_rfl) (by kernel_rfl) (by kernel_rfl)) ?_
  intro W base args ds gs before hval0 hW hcnd _
  have hval : ∀ (j : Nat) t v, Try.f5.params[j]? = some t → args[j]? = some v → Value.okWide Try.prog W .any base t v := hval0
  have hW' := hW
  obtain ⟨p, q, hA0, hV, rfl, hfz, hnd⟩ := hW
  have hA : DataW.TrodAll enc Try.prog W 0 (fun _ => true) true Try.f5.params.toList args.toList ds p := hA0
  rw [Try.params5] at hA hval
  obtain ⟨v0, vs0, d0, ds0, p0, q0, hargs, rfl, rfl, h0, r0⟩ := trodAll_cons hA
  obtain ⟨v1, vs1, d1, ds1, p1, q1, rfl, rfl, rfl, h1, r1⟩ := trodAll_cons r0
  obtain ⟨rfl, rfl, rfl⟩ := trodAll_nil r1
  obtain rfl : args = #[v0, v1] := by cases args; simp_all
  obtain ⟨rfl, rfl⟩ := trodVars_none hV
  obtain ⟨a0, len0, cap0, rfl⟩ := okWide_slice Try.underlying23 (hval 0 23 v0 rfl rfl)
  have k0 := h0
  have lt0 : ∀ x ∈ p0, x.block < W.heap.size := by obtain ⟨m, hm⟩ := k0; exact DataW.trod_lt m _ _ _ hm
  obtain ⟨z0, w0⟩ : ∃ zs, IsRow .u8 W a0 len0 cap0 zs := by
    obtain ⟨fuel, hf⟩ := h0
    rcases open_ints Try.underlying23 Try.underlying5 (by kernel_rfl) hf with ⟨hcs, _⟩ | ⟨x, l, c, zs, hcs, _, hl, hm, hz, _, hcell, hwz⟩
    · simp [Value.cells] at hcs
      obtain ⟨rfl, rfl, rfl⟩ := hcs
      exact ⟨[], .inl ⟨rfl, rfl, rfl, rfl⟩⟩
    · simp [Value.cells] at hcs
      obtain ⟨rfl, rfl, rfl⟩ := hcs
      exact ⟨zs, .inr ⟨_, rfl, hl, hm, by simpa using hz, hcell, hwz⟩⟩
  obtain ⟨a1, len1, cap1, rfl⟩ := okWide_slice Try.underlying23 (hval 1 23 v1 rfl rfl)
  have k1 := h1
  have lt1 : ∀ x ∈ p1, x.block < W.heap.size := by obtain ⟨m, hm⟩ := k1; exact DataW.trod_lt m _ _ _ hm
  obtain ⟨z1, w1⟩ : ∃ zs, IsRow .u8 W a1 len1 cap1 zs := by
    obtain ⟨fuel, hf⟩ := h1
    rcases open_ints Try.underlying23 Try.underlying5 (by kernel_rfl) hf with ⟨hcs, _⟩ | ⟨x, l, c, zs, hcs, _, hl, hm, hz, _, hcell, hwz⟩
    · simp [Value.cells] at hcs
      obtain ⟨rfl, rfl, rfl⟩ := hcs
      exact ⟨[], .inl ⟨rfl, rfl, rfl, rfl⟩⟩
    · simp [Value.cells] at hcs
      obtain ⟨rfl, rfl, rfl⟩ := hcs
      exact ⟨zs, .inr ⟨_, rfl, hl, hm, by simpa using hz, hcell, hwz⟩⟩
  clear hA0 hval0
  refine (walk a0 len0 cap0 z0 a1 len1 cap1 z1 W w0 w1).mono fun e W' ⟨he, bel⟩ => ?_
  subst he
  exact ⟨_, rfl, _, _, _, [], _, [], hW', trodAll_mk1 (shut_bool Try.underlying4 _), (trodAll_cons_mk (Below.trod Try.laidOut (by kernel_rfl) (of_decide_eq_true (by kernel_rfl)) k0 bel lt0) (trodAll_cons_mk (Below.trod Try.laidOut (by kernel_rfl) (of_decide_eq_true (by kernel_rfl)) k1 bel lt1) trodAll_mk0)), rfl, bel.frame _, fun h => by cases h⟩

theorem fa : Rows.crcLinearRow.wf (OpenSpec.ofChange Rows.crcLinearSpec) = true := by kernel_rfl
theorem fb : Try.f5.params.all (Try.prog.readableRec ·) = true := by kernel_rfl
theorem fc : namedTie Try.prog Rows.crcLinearRow.named Rows.crcLinearSpec.vars = true := by kernel_rfl
theorem fd : (Rows.crcLinearRow.stops == []) = true := by kernel_rfl
theorem fe : (Rows.crcLinearRow.knobs == []) = true := by kernel_rfl
theorem ff : (Rows.crcLinearRow.inPlace == Try.prog.inPlace 5) = true := by kernel_rfl
theorem fg : (Rows.crcLinearRow.unfollowed == Try.prog.unfollowed 5) = true := by kernel_rfl
theorem fh : (Rows.crcLinearRow.recurses == Try.prog.recurses 5) = true := by kernel_rfl
theorem fi : (Rows.crcLinearRow.named == Try.prog.varsNamed 5) = true := by kernel_rfl
theorem fj : (Rows.crcLinearRow.maps == (Try.f5.params.toList ++ Rows.crcLinearSpec.plain.varTypes Try.prog).any (Try.prog.mapsRec ·)) = true := by kernel_rfl
theorem fk : (Rows.crcLinearRow.ifaces == (Try.f5.params.toList ++ Rows.crcLinearSpec.plain.varTypes Try.prog).any (Try.prog.ifacesRec ·)) = true := by kernel_rfl
theorem fl : (Rows.crcLinearRow.mapsOut == Try.prog.mapsAmong Try.f5.resultTypes.toList) = true := by kernel_rfl
theorem fm : (Rows.crcLinearRow.loops == (Try.f5.params.toList ++ Rows.crcLinearSpec.plain.varTypes Try.prog).any (Try.prog.loopsFrom ·)) = true := by kernel_rfl
theorem fn : (Rows.crcLinearRow.wideKeys == (Try.f5.params.toList ++ Rows.crcLinearSpec.plain.varTypes Try.prog ++ Try.f5.resultTypes.toList).any (Try.prog.wideKeysFrom ·)) = true := by kernel_rfl
theorem fo : Rows.crcLinearSpec.vars.all (Try.prog.varReadable ·) = true := by kernel_rfl
theorem fp : Try.f5.resultTypes.all (fun t => Try.prog.readableRec t && decide (t < Try.prog.types.size)) = true := by kernel_rfl
theorem fq : (Rows.crcLinearRow.ifacesOut == Try.f5.resultTypes.toList.any (Try.prog.ifacesRec ·)) = true := by kernel_rfl
theorem fr : (Rows.crcLinearRow.loopsOut == Try.f5.resultTypes.toList.any (Try.prog.loopsFrom ·)) = true := by kernel_rfl
theorem fs : Rows.crcLinearRow.plainKeys = true := by kernel_rfl
theorem ft : Rows.crcLinearRow.shortTexts.isNone = true := by kernel_rfl
theorem fu : Rows.crcLinearRow.lifted = false := by kernel_rfl
theorem fv : Rows.crcLinearRow.make = .cut := by kernel_rfl
theorem fw : (Rows.crcLinearRow.kinds == (if Rows.crcLinearRow.domain.isEmpty then [] else Try.f5.params.toList.map fun t => match Try.prog.underlying t with | some (.int k) => some k | _ => Option.none)) = true := by kernel_rfl
theorem fx : (Rows.crcLinearRow.pinned == Rows.crcLinearRow.pinnedBy) = true := by kernel_rfl
theorem fy : (Rows.crcLinearRow.veiled == (Try.f5.params.toList ++ Rows.crcLinearSpec.plain.varTypes Try.prog ++ Try.f5.resultTypes.toList).any (Try.prog.veiledRec ·)) = true := by kernel_rfl
theorem fz : Rows.crcLinearRow.veiledFits Try.prog Try.f5.params.toList (Try.f5.params.toList ++ Rows.crcLinearSpec.plain.varTypes Try.prog ++ Try.f5.resultTypes.toList) = true := by kernel_rfl
set_option maxRecDepth 100000 in
theorem closed : joinedFacts Try.prog 5 Try.f5 Rows.crcLinearSpec Rows.crcLinearRow = true :=
  joined_try 5 Try.f5 Rows.crcLinearSpec Rows.crcLinearRow fa fb fc fd fe ff fg fh fi fj fk fl fm fn fo fp fq fr fs ft fu fv fw fx fy fz
theorem named : Try.prog.funcNamed Rows.crcLinearRow.func = some 5 := by kernel_rfl
theorem inst : Func.isInstance Try.prog Try.f5 Rows.crcLinearRow.origin Rows.crcLinearRow.targs := of_decide_eq_true (by kernel_rfl)
theorem wrap : Func.isWrapper Try.prog Try.f5 Rows.crcLinearRow.wrapper Rows.crcLinearRow.mainSum := by
  unfold Func.isWrapper; rw [if_neg (of_decide_eq_false (by kernel_rfl))]; exact ⟨rfl, rfl⟩

theorem over : Rows.crcLinearRow.holds Try.pinned (OpenSpec.ofChange Rows.crcLinearSpec) :=
  OpenClaim.holds_of_wide 5 Try.f5 rfl rfl rfl rfl rfl rfl rfl ⟨rfl, rfl, rfl, rfl, rfl⟩ rfl rfl rfl rfl rfl named Try.func5 closed inst wrap
    (fun os started H enc _ => lifted os started H enc)

/-- The statement. -/
theorem proved : Rows.CrcLinearSaid := over
#print axioms proved
end Go.Proofs.Ytfbjjblgcgjndaa.crcLinear
