/- PageNumbers: for every input the law returns true, and each argument reads afterwards as it read before. No conditions. -/
import Derived.Test.YtfbjjblgcgjndaaRows
import Derived.Test.YtfbjjblgcgjndaaOpen
import Derived.Test.YtfbjjblgcgjndaaFacts
import Derived.Test.YtfbjjblgcgjndaaLaw08a
import Derived.WalkKit
import Derived.ProofKit
import Derived.OpenShut
import Derived.ShutString
import Derived.ChangeOld
import Derived.Below
namespace Go.Proofs.Ytfbjjblgcgjndaa.pageNumbers
open Go.ChangeShapes Go.WideShapes Go.ChangeAt Go.RowKit
open Go.ChangeMaps (open_string shut_string)
set_option linter.unusedVariables false

theorem walk (a0 : Int) (a1 : Int) (a2 : Option Addr) (len2 cap2 : Nat) (z2 : List Int) (a3 : Int) (a4 : Int) (a5 : Option Addr) (len5 cap5 : Nat) (z5 : List Int) (w : World) (w0 : (Lit.int .u8 a0).wf = true) (w1 : (Lit.int .u32 a1).wf = true) (w2 : IsRow .u8 w a2 len2 cap2 z2) (w3 : (Lit.int .u8 a3).wf = true) (w4 : (Lit.int .u32 a4).wf = true) (w5 : IsRow .u8 w a5 len5 cap5 z5) :
    Calls Try.prog 21 #[.int .u8 a0, .int .u32 a1, .slice a2 len2 cap2, .int .u8 a3, .int .u32 a4, .slice a5 len5 cap5] w fun e w' => e = .returned (.bool true) ∧ Below w.heap.size w w' := by
  obtain ⟨l2, rfl, hA2, hnil2, hc2, hcm2, hl2⟩ := row_bytes w2
  obtain ⟨l5, rfl, hA5, hnil5, hc5, hcm5, hl5⟩ := row_bytes w5
  obtain ⟨h0, h0b⟩ := wf_u8 w0
  obtain ⟨h1, h1b⟩ := wf_u32 w1
  obtain ⟨h3, h3b⟩ := wf_u8 w3
  obtain ⟨h4, h4b⟩ := wf_u32 w4
  obtain ⟨k, rfl⟩ := Int.eq_ofNat_of_zero_le h0
  obtain ⟨n, rfl⟩ := Int.eq_ofNat_of_zero_le h1
  obtain ⟨k2, rfl⟩ := Int.eq_ofNat_of_zero_le h3
  obtain ⟨n2, rfl⟩ := Int.eq_ofNat_of_zero_le h4
  exact pageNumbers_all k n k2 n2 _ _ _ _ l2 l5 w hA2 hA5 hnil2 hnil5 hc2 hc5 hl2 hl5 (by omega) (by omega) (by omega) (by omega)

set_option maxRecDepth 100000 in
theorem lifted (os : Os) (started : os.Started) (H : Type) (enc : TypeId × Value → H) :
    ReturnsInHanded {} Try.checked os 21 .any (Rows.pageNumbersSpec.pre6 enc Try.prog Try.f21 Rows.pageNumbersRow.domain false) (Rows.pageNumbersSpec.post enc Try.prog Try.f21 false true false false) := by
  refine returnsInHanded_of_change (C := Try.checked) Try.own started (by kernel_rfl) Try.func21
    (ChangeSpec.witness6 (enc := enc) (C := Try.checked) false ⟨#[], #[.int .u8 0, .int .u32 0, .slice none 0 0, .int .u8 0, .int .u32 0, .slice none 0 0], []⟩ 8 (by kernel_rfl) (by kernel_rfl) (by kernel_rfl) (by kernel_rfl)) ?_
  intro W base args ds gs before hval0 hW hcnd _
  have hval : ∀ (j : Nat) t v, Try.f21.params[j]? = some t → args[j]? = some v → Value.okWide Try.prog W .any base t v := hval0
  have hW' := hW
  obtain ⟨p, q, hA0, hV, rfl, hfz, hnd⟩ := hW
  have hA : DataW.TrodAll enc Try.prog W 0 (fun _ => true) true Try.f21.params.toList args.toList ds p := hA0
  rw [Try.params21] at hA hval
  obtain ⟨v0, vs0, d0, ds0, p0, q0, hargs, rfl, rfl, h0, r0⟩ := trodAll_cons hA
  obtain ⟨v1, vs1, d1, ds1, p1, q1, rfl, rfl, rfl, h1, r1⟩ := trodAll_cons r0
  obtain ⟨v2, vs2, d2, ds2, p2, q2, rfl, rfl, rfl, h2, r2⟩ := trodAll_cons r1
  obtain ⟨v3, vs3, d3, ds3, p3, q3, rfl, rfl, rfl, h3, r3⟩ := trodAll_cons r2
  obtain ⟨v4, vs4, d4, ds4, p4, q4, rfl, rfl, rfl, h4, r4⟩ := trodAll_cons r3
  obtain ⟨v5, vs5, d5, ds5, p5, q5, rfl, rfl, rfl, h5, r5⟩ := trodAll_cons r4
  obtain ⟨rfl, rfl, rfl⟩ := trodAll_nil r5
  obtain rfl : args = #[v0, v1, v2, v3, v4, v5] := by cases args; simp_all
  obtain ⟨rfl, rfl⟩ := trodVars_none hV
  obtain ⟨a0, rfl, rfl, rfl, w0⟩ := open_int Try.underlying5 (hval 0 5 v0 rfl rfl) h0
  obtain ⟨a1, rfl, rfl, rfl, w1⟩ := open_int Try.underlying22 (hval 1 22 v1 rfl rfl) h1
  obtain ⟨a2, len2, cap2, rfl⟩ := okWide_slice Try.underlying23 (hval 2 23 v2 rfl rfl)
  have k2 := h2
  have lt2 : ∀ x ∈ p2, x.block < W.heap.size := by obtain ⟨m, hm⟩ := k2; exact DataW.trod_lt m _ _ _ hm
  obtain ⟨z2, w2⟩ : ∃ zs, IsRow .u8 W a2 len2 cap2 zs := by
    obtain ⟨fuel, hf⟩ := h2
    rcases open_ints Try.underlying23 Try.underlying5 (by kernel_rfl) hf with ⟨hcs, _⟩ | ⟨x, l, c, zs, hcs, _, hl, hm, hz, _, hcell, hwz⟩
    · simp [Value.cells] at hcs
      obtain ⟨rfl, rfl, rfl⟩ := hcs
      exact ⟨[], .inl ⟨rfl, rfl, rfl, rfl⟩⟩
    · simp [Value.cells] at hcs
      obtain ⟨rfl, rfl, rfl⟩ := hcs
      exact ⟨zs, .inr ⟨_, rfl, hl, hm, by simpa using hz, hcell, hwz⟩⟩
  obtain ⟨a3, rfl, rfl, rfl, w3⟩ := open_int Try.underlying5 (hval 3 5 v3 rfl rfl) h3
  obtain ⟨a4, rfl, rfl, rfl, w4⟩ := open_int Try.underlying22 (hval 4 22 v4 rfl rfl) h4
  obtain ⟨a5, len5, cap5, rfl⟩ := okWide_slice Try.underlying23 (hval 5 23 v5 rfl rfl)
  have k5 := h5
  have lt5 : ∀ x ∈ p5, x.block < W.heap.size := by obtain ⟨m, hm⟩ := k5; exact DataW.trod_lt m _ _ _ hm
  obtain ⟨z5, w5⟩ : ∃ zs, IsRow .u8 W a5 len5 cap5 zs := by
    obtain ⟨fuel, hf⟩ := h5
    rcases open_ints Try.underlying23 Try.underlying5 (by kernel_rfl) hf with ⟨hcs, _⟩ | ⟨x, l, c, zs, hcs, _, hl, hm, hz, _, hcell, hwz⟩
    · simp [Value.cells] at hcs
      obtain ⟨rfl, rfl, rfl⟩ := hcs
      exact ⟨[], .inl ⟨rfl, rfl, rfl, rfl⟩⟩
    · simp [Value.cells] at hcs
      obtain ⟨rfl, rfl, rfl⟩ := hcs
      exact ⟨zs, .inr ⟨_, rfl, hl, hm, by simpa using hz, hcell, hwz⟩⟩
  clear hA0 hval0
  refine (walk a0 a1 a2 len2 cap2 z2 a3 a4 a5 len5 cap5 z5 W w0 w1 w2 w3 w4 w5).mono fun e W' ⟨he, bel⟩ => ?_
  subst he
  exact ⟨_, rfl, _, _, _, [], _, [], hW', trodAll_mk1 (shut_bool Try.underlying4 _), (trodAll_cons_mk (shut_int Try.underlying5 w0) (trodAll_cons_mk (shut_int Try.underlying22 w1) (trodAll_cons_mk (Below.trod Try.laidOut (by kernel_rfl) (of_decide_eq_true (by kernel_rfl)) k2 bel lt2) (trodAll_cons_mk (shut_int Try.underlying5 w3) (trodAll_cons_mk (shut_int Try.underlying22 w4) (trodAll_cons_mk (Below.trod Try.laidOut (by kernel_rfl) (of_decide_eq_true (by kernel_rfl)) k5 bel lt5) trodAll_mk0)))))), rfl, bel.frame _, fun h => by cases h⟩

theorem fa : Rows.pageNumbersRow.wf (OpenSpec.ofChange Rows.pageNumbersSpec) = true := by kernel_rfl
theorem fb : Try.f21.params.all (Try.prog.readableRec ·) = true := by kernel_rfl
theorem fc : namedTie Try.prog Rows.pageNumbersRow.named Rows.pageNumbersSpec.vars = true := by kernel_rfl
theorem fd : (Rows.pageNumbersRow.stops == []) = true := by kernel_rfl
theorem fe : (Rows.pageNumbersRow.knobs == []) = true := by kernel_rfl
theorem ff : (Rows.pageNumbersRow.inPlace == Try.prog.inPlace 21) = true := by kernel_rfl
theorem fg : (Rows.pageNumbersRow.unfollowed == Try.prog.unfollowed 21) = true := by kernel_rfl
theorem fh : (Rows.pageNumbersRow.recurses == Try.prog.recurses 21) = true := by kernel_rfl
theorem fi : (Rows.pageNumbersRow.named == Try.prog.varsNamed 21) = true := by kernel_rfl
theorem fj : (Rows.pageNumbersRow.maps == (Try.f21.params.toList ++ Rows.pageNumbersSpec.plain.varTypes Try.prog).any (Try.prog.mapsRec ·)) = true := by kernel_rfl
theorem fk : (Rows.pageNumbersRow.ifaces == (Try.f21.params.toList ++ Rows.pageNumbersSpec.plain.varTypes Try.prog).any (Try.prog.ifacesRec ·)) = true := by kernel_rfl
theorem fl : (Rows.pageNumbersRow.mapsOut == Try.prog.mapsAmong Try.f21.resultTypes.toList) = true := by kernel_rfl
theorem fm : (Rows.pageNumbersRow.loops == (Try.f21.params.toList ++ Rows.pageNumbersSpec.plain.varTypes Try.prog).any (Try.prog.loopsFrom ·)) = true := by kernel_rfl
theorem fn : (Rows.pageNumbersRow.wideKeys == (Try.f21.params.toList ++ Rows.pageNumbersSpec.plain.varTypes Try.prog ++ Try.f21.resultTypes.toList).any (Try.prog.wideKeysFrom ·)) = true := by kernel_rfl
theorem fo : Rows.pageNumbersSpec.vars.all (Try.prog.varReadable ·) = true := by kernel_rfl
theorem fp : Try.f21.resultTypes.all (fun t => Try.prog.readableRec t && decide (t < Try.prog.types.size)) = true := by kernel_rfl
theorem fq : (Rows.pageNumbersRow.ifacesOut == Try.f21.resultTypes.toList.any (Try.prog.ifacesRec ·)) = true := by kernel_rfl
theorem fr : (Rows.pageNumbersRow.loopsOut == Try.f21.resultTypes.toList.any (Try.prog.loopsFrom ·)) = true := by kernel_rfl
theorem fs : Rows.pageNumbersRow.plainKeys = true := by kernel_rfl
theorem ft : Rows.pageNumbersRow.shortTexts.isNone = true := by kernel_rfl
theorem fu : Rows.pageNumbersRow.lifted = false := by kernel_rfl
theorem fv : Rows.pageNumbersRow.make = .cut := by kernel_rfl
theorem fw : (Rows.pageNumbersRow.kinds == (if Rows.pageNumbersRow.domain.isEmpty then [] else Try.f21.params.toList.map fun t => match Try.prog.underlying t with | some (.int k) => some k | _ => Option.none)) = true := by kernel_rfl
theorem fx : (Rows.pageNumbersRow.pinned == Rows.pageNumbersRow.pinnedBy) = true := by kernel_rfl
theorem fy : (Rows.pageNumbersRow.veiled == (Try.f21.params.toList ++ Rows.pageNumbersSpec.plain.varTypes Try.prog ++ Try.f21.resultTypes.toList).any (Try.prog.veiledRec ·)) = true := by kernel_rfl
theorem fz : Rows.pageNumbersRow.veiledFits Try.prog Try.f21.params.toList (Try.f21.params.toList ++ Rows.pageNumbersSpec.plain.varTypes Try.prog ++ Try.f21.resultTypes.toList) = true := by kernel_rfl
set_option maxRecDepth 100000 in
theorem closed : joinedFacts Try.prog 21 Try.f21 Rows.pageNumbersSpec Rows.pageNumbersRow = true :=
  joined_try 21 Try.f21 Rows.pageNumbersSpec Rows.pageNumbersRow fa fb fc fd fe ff fg fh fi fj fk fl fm fn fo fp fq fr fs ft fu fv fw fx fy fz
theorem named : Try.prog.funcNamed Rows.pageNumbersRow.func = some 21 := by kernel_rfl
theorem inst : Func.isInstance Try.prog Try.f21 Rows.pageNumbersRow.origin Rows.pageNumbersRow.targs := of_decide_eq_true (by kernel_rfl)
theorem wrap : Func.isWrapper Try.prog Try.f21 Rows.pageNumbersRow.wrapper Rows.pageNumbersRow.mainSum := by
  unfold Func.isWrapper; rw [if_neg (of_decide_eq_false (by kernel_rfl))]; exact ⟨rfl, rfl⟩

theorem over : Rows.pageNumbersRow.holds Try.pinned (OpenSpec.ofChange Rows.pageNumbersSpec) :=
  OpenClaim.holds_of_wide 21 Try.f21 rfl rfl rfl rfl rfl rfl rfl ⟨rfl, rfl, rfl, rfl, rfl⟩ rfl rfl rfl rfl rfl named Try.func21 closed inst wrap
    (fun os started H enc _ => lifted os started H enc)

/-- The statement. -/
theorem proved : Rows.PageNumbersSaid := over
#print axioms proved
end Go.Proofs.Ytfbjjblgcgjndaa.pageNumbers
