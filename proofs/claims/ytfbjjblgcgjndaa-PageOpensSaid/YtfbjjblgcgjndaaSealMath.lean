/- Pure facts of pages and states: the sum over what bears its sum; a state read off its sector. -/
import Derived.Test.YtfbjjblgcgjndaaTurned
set_option linter.unusedVariables false
set_option linter.unusedSimpArgs false
namespace Go.Proofs.Ytfbjjblgcgjndaa

theorem xor_parts (n m : Nat) : (n ^^^ m % 256) ^^^ 256 * (m / 256) = n ^^^ m := by
  have h : m % 256 ^^^ 256 * (m / 256) = m := by
    have h1 := Nat.two_pow_add_eq_or_of_lt (i := 8) (b := m % 256) (Nat.mod_lt _ (by decide)) (m / 256)
    have h2 : (m % 256) &&& (256 * (m / 256)) = 0 := by
      apply Nat.eq_of_testBit_eq
      intro i
      rw [Nat.testBit_and, Nat.zero_testBit]
      by_cases hi : i < 8
      · rw [show 256 = 2 ^ 8 from rfl, Nat.testBit_two_pow_mul]
        have : ¬ (8 ≤ i) := by omega
        simp [this]
      · have : (m % 256).testBit i = false := Nat.testBit_lt_two_pow (Nat.lt_of_lt_of_le (Nat.mod_lt _ (by decide)) (show 2 ^ 8 ≤ 2 ^ i from Nat.pow_le_pow_right (by omega) (by omega)))
        rw [this]; rfl
    apply Nat.eq_of_testBit_eq
    intro i
    have h3 := congrArg (fun x => x.testBit i) h2
    simp only [Nat.testBit_and, Nat.zero_testBit] at h3
    have h4 : (m % 256 ^^^ 256 * (m / 256)).testBit i = (256 * (m / 256) ||| m % 256).testBit i := by
      rw [Nat.testBit_xor, Nat.testBit_or]
      cases h5 : (m % 256).testBit i <;> cases h6 : (256 * (m / 256)).testBit i <;> simp [h5, h6] at h3 ⊢
    rw [h4, show (256 : Nat) = 2 ^ 8 from rfl, ← Nat.two_pow_add_eq_or_of_lt (Nat.mod_lt _ (by decide))]
    congr 1
    omega
  rw [Nat.xor_assoc, h]
theorem run_le (n m k : Nat) (h : m < 256 ^ k) : Crc.run n (le m k) = Crc.It (8 * k) (n ^^^ m) := by
  induction k generalizing n m with
  | zero =>
    have : m = 0 := by simpa using h
    subst this
    simp [le, Crc.run, Crc.It]
  | succ k ih =>
    rw [le, Crc.run_cons, ih _ _ (by rw [Nat.pow_succ] at h; exact Nat.div_lt_of_lt_mul (by omega)), show 8 * (k + 1) = 8 + 8 * k by omega, Crc.It_add]
    congr 1
    rw [← xor_parts n m, Crc.It_xor 8 (n ^^^ m % 256)]
    have := Crc.It_shift 8 (m / 256)
    rw [show (2 : Nat) ^ 8 = 256 from rfl] at this
    rw [this]; rfl
theorem closed_sum (f : List Nat) (hf : Bytes f) : Crc.sum (closed f) = Crc.inv (Crc.It 32 4294967295) := by
  unfold closed Crc.sum
  rw [Crc.more_append 0 _ _ hf]
  unfold Crc.more
  have hlt : Crc.run (Crc.inv 0) f < 4294967296 := Crc.run_lt _ _ (Crc.inv_lt 0) hf
  generalize Crc.run (Crc.inv 0) f = X at hlt
  rw [Crc.inv_inv X hlt, run_le _ _ 4 (Crc.inv_lt X), Crc.inv_xor X hlt]
  congr 2
  rw [Nat.xor_comm 4294967295, ← Nat.xor_assoc, Nat.xor_self, Nat.zero_xor]

/-- bytes that bear their sum, with some of them turned, bear it no more -/
theorem turned_closed {f g x : List Nat} {kk frm ch : Nat} (h : Crc.Turned (closed f) x kk frm ch 32) (hf : Bytes f) (hg : Bytes g) (hx : Bytes x) (he : x = closed g) : Crc.window ch kk 32 = 0 := by
  have h1 := (Crc.sum_tells h (Nat.le_refl _) (closed_bytes f hf) hx).1
  rw [he, closed_sum g hg, closed_sum f hf] at h1
  exact h1 rfl
theorem turned_same {l x : List Nat} {kk frm ch : Nat} (h : Crc.Turned l x kk frm ch 32) (hl : Bytes l) (hx : Bytes x) (hw : Crc.window ch kk 32 = 0) : Crc.sum x = Crc.sum l := (Crc.sum_tells h (Nat.le_refl _) hl hx).2 hw

theorem seg_of (a b c : List Nat) (n k : Nat) (h1 : a.length = n) (h2 : b.length = k) : seg (a ++ (b ++ c)) n k = b := by
  unfold seg
  rw [List.drop_left' h1, List.take_left' h2]
theorem metaOf_sector (m : Meta) (h : m.Ok) (rest : List Nat) : metaOf (sector m ++ rest) = m := by
  obtain ⟨g, r, f, p, k⟩ := m
  obtain ⟨h1, h2, h3, h4, h5⟩ := h
  simp only at h1 h2 h3 h4 h5
  have hs0 : ∃ t, sector ⟨g, r, f, p, k⟩ ++ rest = metaBytes ⟨g, r, f, p, k⟩ ++ t := by
    unfold sector closed fill
    exact ⟨_, by rw [List.append_assoc, List.append_assoc]⟩
  have hs : ∃ t, sector ⟨g, r, f, p, k⟩ ++ rest = [67, 77, 69, 84] ++ (le g 8 ++ (le r 4 ++ (le f 4 ++ (le p 4 ++ (le k 8 ++ t))))) := by
    obtain ⟨t, ht⟩ := hs0
    refine ⟨t, ?_⟩
    rw [ht]
    simp [metaBytes]
  obtain ⟨t, ht⟩ := hs
  rw [ht]
  unfold metaOf
  have e1 : seg ([67, 77, 69, 84] ++ (le g 8 ++ (le r 4 ++ (le f 4 ++ (le p 4 ++ (le k 8 ++ t)))))) 4 8 = le g 8 := seg_of _ _ _ _ _ rfl (le_length _ _)
  have e2 : seg ([67, 77, 69, 84] ++ (le g 8 ++ (le r 4 ++ (le f 4 ++ (le p 4 ++ (le k 8 ++ t)))))) 12 4 = le r 4 := by
    rw [← List.append_assoc]; exact seg_of _ _ _ _ _ (by simp [le_length]) (le_length _ _)
  have e3 : seg ([67, 77, 69, 84] ++ (le g 8 ++ (le r 4 ++ (le f 4 ++ (le p 4 ++ (le k 8 ++ t)))))) 16 4 = le f 4 := by
    rw [← List.append_assoc, ← List.append_assoc]; exact seg_of _ _ _ _ _ (by simp [le_length]) (le_length _ _)
  have e4 : seg ([67, 77, 69, 84] ++ (le g 8 ++ (le r 4 ++ (le f 4 ++ (le p 4 ++ (le k 8 ++ t)))))) 20 4 = le p 4 := by
    rw [← List.append_assoc, ← List.append_assoc, ← List.append_assoc]; exact seg_of _ _ _ _ _ (by simp [le_length]) (le_length _ _)
  have e5 : seg ([67, 77, 69, 84] ++ (le g 8 ++ (le r 4 ++ (le f 4 ++ (le p 4 ++ (le k 8 ++ t)))))) 24 8 = le k 8 := by
    rw [← List.append_assoc, ← List.append_assoc, ← List.append_assoc, ← List.append_assoc]; exact seg_of _ _ _ _ _ (by simp [le_length]) (le_length _ _)
  rw [e1, e2, e3, e4, e5, el_le, el_le, el_le, el_le, el_le, Nat.mod_eq_of_lt (by omega), Nat.mod_eq_of_lt (by omega), Nat.mod_eq_of_lt (by omega), Nat.mod_eq_of_lt (by omega), Nat.mod_eq_of_lt (by omega)]
theorem isMeta_sector (m : Meta) (h : m.Ok) (hm : MayBe m) (rest : List Nat) : IsMeta (sector m ++ rest) := by
  refine ⟨by rw [List.length_append, sector_length]; omega, by rw [metaOf_sector m h]; exact hm, ?_⟩
  rw [metaOf_sector m h, List.take_left' (sector_length m)]
end Go.Proofs.Ytfbjjblgcgjndaa
