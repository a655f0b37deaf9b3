/- CrcSums: for every input the law returns true, and each argument reads afterwards as it read before. No conditions. -/
import Derived.Test.YtfbjjblgcgjndaaRows
import Derived.Test.YtfbjjblgcgjndaaOpen
import Derived.Test.YtfbjjblgcgjndaaFacts
import Derived.Test.YtfbjjblgcgjndaaLaw01
import Derived.WalkKit
import Derived.ProofKit
import Derived.OpenShut
import Derived.ShutString
import Derived.ChangeOld
import Derived.Below
namespace Go.Proofs.Ytfbjjblgcgjndaa.crcSums
open Go.ChangeShapes Go.WideShapes Go.ChangeAt Go.RowKit
open Go.ChangeMaps (open_string shut_string)
set_option linter.unusedVariables false

theorem walk (a0 : Int) (a1 : Option Addr) (len1 cap1 : Nat) (z1 : List Int) (w : World) (w0 : (Lit.int .u32 a0).wf = true) (w1 : IsRow .u8 w a1 len1 cap1 z1) :
    Calls Try.prog 3 #[.int .u32 a0, .slice a1 len1 cap1] w fun e w' => e = .returned (.bool true) ∧ Below w.heap.size w w' := by
  obtain ⟨h0, h1⟩ := wf_u32 w0
  obtain ⟨s, rfl⟩ := Int.eq_ofNat_of_zero_le h0
  obtain ⟨l, rfl, hA, hnil, _, _, hl⟩ := row_bytes w1
  exact crcSums_any s a1 cap1 l w (by omega) hl hA hnil

set_option maxRecDepth 100000 in
theorem lifted (os : Os) (started : os.Started) (H : Type) (enc : TypeId × Value → H) :
    ReturnsInHanded {} Try.checked os 3 .any (Rows.crcSumsSpec.pre6 enc Try.prog Try.f3 Rows.crcSumsRow.domain false) (Rows.crcSumsSpec.post enc Try.prog Try.f3 false true false false) := by
  refine returnsInHanded_of_change (C := Try.checked) Try.own started (by kernel_rfl) Try.func3
    (ChangeSpec.witness6 (enc := enc) (C := Try.checked) false ⟨#[], #[.int .u32 0, .slice none 0 0], []⟩ 8 (by kernel_rfl) (by kernel_rfl) (by kernel_rfl) (by kernel_rfl)) ?_
  intro W base args ds gs before hval0 hW hcnd _
  have hval : ∀ (j : Nat) t v, Try.f3.params[j]? = some t → args[j]? = some v → Value.okWide Try.prog W .any base t v := hval0
  have hW' := hW
  obtain ⟨p, q, hA0, hV, rfl, hfz, hnd⟩ := hW
  have hA : DataW.TrodAll enc Try.prog W 0 (fun _ => true) true Try.f3.params.toList args.toList ds p := hA0
  rw [Try.params3] at hA hval
  obtain ⟨v0, vs0, d0, ds0, p0, q0, hargs, rfl, rfl, h0, r0⟩ := trodAll_cons hA
  obtain ⟨v1, vs1, d1, ds1, p1, q1, rfl, rfl, rfl, h1, r1⟩ := trodAll_cons r0
  obtain ⟨rfl, rfl, rfl⟩ := trodAll_nil r1
  obtain rfl : args = #[v0, v1] := by cases args; simp_all
  obtain ⟨rfl, rfl⟩ := trodVars_none hV
  obtain ⟨a0, rfl, rfl, rfl, w0⟩ := open_int Try.underlying22 (hval 0 22 v0 rfl rfl) h0
  obtain ⟨a1, len1, cap1, rfl⟩ := okWide_slice Try.underlying23 (hval 1 23 v1 rfl rfl)
  have k1 := h1
  have lt1 : ∀ x ∈ p1, x.block < W.heap.size := by obtain ⟨m, hm⟩ := k1; exact DataW.trod_lt m _ _ _ hm
  obtain ⟨z1, w1⟩ : ∃ zs, IsRow .u8 W a1 len1 cap1 zs := by
    obtain ⟨fuel, hf⟩ := h1
    rcases open_ints Try.underlying23 Try.underlying5 (by kernel_rfl) hf with ⟨hcs, _⟩ | ⟨x, l, c, zs, hcs, _, hl, hm, hz, _, hcell, hwz⟩
    · simp [Value.cells] at hcs
      obtain ⟨rfl, rfl, rfl⟩ := hcs
      exact ⟨[], .inl ⟨rfl, rfl, rfl, rfl⟩⟩
    · simp [Value.cells] at hcs
      obtain ⟨rfl, rfl, rfl⟩ := hcs
      exact ⟨zs, .inr ⟨_, rfl, hl, hm, by simpa using hz, hcell, hwz⟩⟩
  clear hA0 hval0
  refine (walk a0 a1 len1 cap1 z1 W w0 w1).mono fun e W' ⟨he, bel⟩ => ?_
  subst he
  exact ⟨_, rfl, _, _, _, [], _, [], hW', trodAll_mk1 (shut_bool Try.underlying4 _), (trodAll_cons_mk (shut_int Try.underlying22 w0) (trodAll_cons_mk (Below.trod Try.laidOut (by kernel_rfl) (of_decide_eq_true (by kernel_rfl)) k1 bel lt1) trodAll_mk0)), rfl, bel.frame _, fun h => by cases h⟩

theorem fa : Rows.crcSumsRow.wf (OpenSpec.ofChange Rows.crcSumsSpec) = true := by kernel_rfl
theorem fb : Try.f3.params.all (Try.prog.readableRec ·) = true := by kernel_rfl
theorem fc : namedTie Try.prog Rows.crcSumsRow.named Rows.crcSumsSpec.vars = true := by kernel_rfl
theorem fd : (Rows.crcSumsRow.stops == []) = true := by kernel_rfl
theorem fe : (Rows.crcSumsRow.knobs == []) = true := by kernel_rfl
theorem ff : (Rows.crcSumsRow.inPlace == Try.prog.inPlace 3) = true := by kernel_rfl
theorem fg : (Rows.crcSumsRow.unfollowed == Try.prog.unfollowed 3) = true := by kernel_rfl
theorem fh : (Rows.crcSumsRow.recurses == Try.prog.recurses 3) = true := by kernel_rfl
theorem fi : (Rows.crcSumsRow.named == Try.prog.varsNamed 3) = true := by kernel_rfl
theorem fj : (Rows.crcSumsRow.maps == (Try.f3.params.toList ++ Rows.crcSumsSpec.plain.varTypes Try.prog).any (Try.prog.mapsRec ·)) = true := by kernel_rfl
theorem fk : (Rows.crcSumsRow.ifaces == (Try.f3.params.toList ++ Rows.crcSumsSpec.plain.varTypes Try.prog).any (Try.prog.ifacesRec ·)) = true := by kernel_rfl
theorem fl : (Rows.crcSumsRow.mapsOut == Try.prog.mapsAmong Try.f3.resultTypes.toList) = true := by kernel_rfl
theorem fm : (Rows.crcSumsRow.loops == (Try.f3.params.toList ++ Rows.crcSumsSpec.plain.varTypes Try.prog).any (Try.prog.loopsFrom ·)) = true := by kernel_rfl
theorem fn : (Rows.crcSumsRow.wideKeys == (Try.f3.params.toList ++ Rows.crcSumsSpec.plain.varTypes Try.prog ++ Try.f3.resultTypes.toList).any (Try.prog.wideKeysFrom ·)) = true := by kernel_rfl
theorem fo : Rows.crcSumsSpec.vars.all (Try.prog.varReadable ·) = true := by kernel_rfl
theorem fp : Try.f3.resultTypes.all (fun t => Try.prog.readableRec t && decide (t < Try.prog.types.size)) = true := by kernel_rfl
theorem fq : (Rows.crcSumsRow.ifacesOut == Try.f3.resultTypes.toList.any (Try.prog.ifacesRec ·)) = true := by kernel_rfl
theorem fr : (Rows.crcSumsRow.loopsOut == Try.f3.resultTypes.toList.any (Try.prog.loopsFrom ·)) = true := by kernel_rfl
theorem fs : Rows.crcSumsRow.plainKeys = true := by kernel_rfl
theorem ft : Rows.crcSumsRow.shortTexts.isNone = true := by kernel_rfl
theorem fu : Rows.crcSumsRow.lifted = false := by kernel_rfl
theorem fv : Rows.crcSumsRow.make = .cut := by kernel_rfl
theorem fw : (Rows.crcSumsRow.kinds == (if Rows.crcSumsRow.domain.isEmpty then [] else Try.f3.params.toList.map fun t => match Try.prog.underlying t with | some (.int k) => some k | _ => Option.none)) = true := by kernel_rfl
theorem fx : (Rows.crcSumsRow.pinned == Rows.crcSumsRow.pinnedBy) = true := by kernel_rfl
theorem fy : (Rows.crcSumsRow.veiled == (Try.f3.params.toList ++ Rows.crcSumsSpec.plain.varTypes Try.prog ++ Try.f3.resultTypes.toList).any (Try.prog.veiledRec ·)) = true := by kernel_rfl
theorem fz : Rows.crcSumsRow.veiledFits Try.prog Try.f3.params.toList (Try.f3.params.toList ++ Rows.crcSumsSpec.plain.varTypes Try.prog ++ Try.f3.resultTypes.toList) = true := by kernel_rfl
set_option maxRecDepth 100000 in
theorem closed : joinedFacts Try.prog 3 Try.f3 Rows.crcSumsSpec Rows.crcSumsRow = true :=
  joined_try 3 Try.f3 Rows.crcSumsSpec Rows.crcSumsRow fa fb fc fd fe ff fg fh fi fj fk fl fm fn fo fp fq fr fs ft fu fv fw fx fy fz
theorem named : Try.prog.funcNamed Rows.crcSumsRow.func = some 3 := by kernel_rfl
theorem inst : Func.isInstance Try.prog Try.f3 Rows.crcSumsRow.origin Rows.crcSumsRow.targs := of_decide_eq_true (by kernel_rfl)
theorem wrap : Func.isWrapper Try.prog Try.f3 Rows.crcSumsRow.wrapper Rows.crcSumsRow.mainSum := by
  unfold Func.isWrapper; rw [if_neg (of_decide_eq_false (by kernel_rfl))]; exact ⟨rfl, rfl⟩

theorem over : Rows.crcSumsRow.holds Try.pinned (OpenSpec.ofChange Rows.crcSumsSpec) :=
  OpenClaim.holds_of_wide 3 Try.f3 rfl rfl rfl rfl rfl rfl rfl ⟨rfl, rfl, rfl, rfl, rfl⟩ rfl rfl rfl rfl rfl named Try.func3 closed inst wrap
    (fun os started H enc _ => lifted os started H enc)

/-- The statement. -/
theorem proved : Rows.CrcSumsSaid := over
#print axioms proved
end Go.Proofs.Ytfbjjblgcgjndaa.crcSums
