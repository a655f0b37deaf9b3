/- Plain facts on the checksum: the reckoning bit by bit, by halves of bytes, its linearity, and what a turned bit does. -/
namespace Go.Proofs.Ytfbjjblgcgjndaa.Crc

def T (n : Nat) : Nat := if n % 2 = 1 then (n / 2) ^^^ 2197175160 else n / 2

def It : Nat → Nat → Nat
  | 0, n => n
  | k + 1, n => It k (T n)

theorem It_add (a b n : Nat) : It (a + b) n = It b (It a n) := by
  induction a generalizing n with
  | zero => simp [It]
  | succ a ih => rw [show a + 1 + b = (a + b) + 1 from by omega]; simp only [It]; exact ih _

theorem It_succ (k n : Nat) : It (k + 1) n = T (It k n) := by rw [It_add k 1 n]; rfl

theorem xor_mod2 (a b : Nat) : (a ^^^ b) % 2 = (a % 2 + b % 2) % 2 := by
  have h := Nat.testBit_xor a b 0
  simp only [Nat.testBit_zero] at h
  have h1 : (a ^^^ b) % 2 = 0 ∨ (a ^^^ b) % 2 = 1 := Nat.mod_two_eq_zero_or_one _
  rcases Nat.mod_two_eq_zero_or_one a with ha | ha <;> rcases Nat.mod_two_eq_zero_or_one b with hb | hb <;> rcases h1 with h1 | h1 <;> rw [ha, hb, h1] at h <;> simp at h <;> rw [ha, hb, h1]

theorem T_xor (a b : Nat) : T (a ^^^ b) = T a ^^^ T b := by
  unfold T
  have h := xor_mod2 a b
  have hd : (a ^^^ b) / 2 = a / 2 ^^^ b / 2 := Nat.xor_div_two
  rcases Nat.mod_two_eq_zero_or_one a with ha | ha <;> rcases Nat.mod_two_eq_zero_or_one b with hb | hb
  · rw [if_neg (by omega), if_neg (by omega), if_neg (by omega), hd]
  · rw [if_pos (by omega), if_neg (by omega), if_pos (by omega), hd, Nat.xor_assoc]
  · rw [if_pos (by omega), if_pos (by omega), if_neg (by omega), hd, Nat.xor_assoc, Nat.xor_assoc, Nat.xor_comm (b / 2)]
  · rw [if_neg (by omega), if_pos (by omega), if_pos (by omega), hd, Nat.xor_assoc, ← Nat.xor_assoc 2197175160, Nat.xor_comm 2197175160, Nat.xor_assoc (b / 2), Nat.xor_self, Nat.xor_zero]

theorem T_zero : T 0 = 0 := by decide
theorem T_lt (n : Nat) (h : n < 4294967296) : T n < 4294967296 := by
  unfold T
  split
  · exact Nat.xor_lt_two_pow (n := 32) (by omega) (by omega)
  · omega

theorem It_xor (k a b : Nat) : It k (a ^^^ b) = It k a ^^^ It k b := by
  induction k generalizing a b with
  | zero => rfl
  | succ k ih => simp only [It, T_xor]; exact ih _ _
theorem It_zero (k : Nat) : It k 0 = 0 := by
  induction k with
  | zero => rfl
  | succ k ih => simp only [It, T_zero]; exact ih
theorem It_lt (k n : Nat) (h : n < 4294967296) : It k n < 4294967296 := by
  induction k generalizing n with
  | zero => exact h
  | succ k ih => exact ih _ (T_lt n h)

theorem T_two (n : Nat) : T (2 * n) = n := by unfold T; rw [if_neg (by omega)]; omega
theorem It_shift (k n : Nat) : It k (2 ^ k * n) = n := by
  induction k generalizing n with
  | zero => simp [It]
  | succ k ih => simp only [It]; rw [show 2 ^ (k + 1) * n = 2 * (2 ^ k * n) from by rw [Nat.pow_succ]; rw [Nat.mul_comm (2^k) 2, Nat.mul_assoc], T_two]; exact ih n
theorem It_pow (i m : Nat) (h : i ≤ m) : It m (2 ^ i) = It (m - i) 1 := by
  have := It_shift i 1
  rw [Nat.mul_one] at this
  rw [show m = i + (m - i) from by omega, It_add, this]
  congr 1; omega

theorem T_ne (n : Nat) (h : n < 4294967296) (h0 : n ≠ 0) : T n ≠ 0 := by
  unfold T
  split
  · intro hx
    have h2 : n / 2 = 2197175160 := by
      have := congrArg (· ^^^ 2197175160) hx
      simp only [Nat.xor_assoc, Nat.xor_self, Nat.xor_zero, Nat.zero_xor] at this
      exact this
    omega
  · omega
theorem It_ne (k n : Nat) (h : n < 4294967296) (h0 : n ≠ 0) : It k n ≠ 0 := by
  induction k generalizing n with
  | zero => exact h0
  | succ k ih => exact ih _ (T_lt n h) (T_ne n h h0)

/-- half a byte at a time -/
theorem It_half (n : Nat) : It 4 n = n / 16 ^^^ It 4 (n % 16) := by
  have h : n = 2 ^ 4 * (n / 16) ^^^ n % 16 := by
    have h1 : 2 ^ 4 * (n / 16) ||| n % 16 = 2 ^ 4 * (n / 16) + n % 16 := by
      rw [Nat.two_pow_add_eq_or_of_lt (by omega)]
    have h2 : n = 2 ^ 4 * (n / 16) + n % 16 := by omega
    rw [← h1] at h2
    refine h2.trans ?_
    apply Nat.eq_of_testBit_eq
    intro i
    rw [Nat.testBit_or, Nat.testBit_xor]
    by_cases hi : i < 4
    · have : (2 ^ 4 * (n / 16)).testBit i = false := by rw [Nat.testBit_two_pow_mul]; simp; omega
      rw [this]; simp
    · have : (n % 16).testBit i = false := Nat.testBit_lt_two_pow (Nat.lt_of_lt_of_le (Nat.mod_lt _ (by omega)) (show 2 ^ 4 ≤ 2 ^ i from Nat.pow_le_pow_right (by omega) (by omega)))
      rw [this]; simp
  conv => lhs; rw [h]
  rw [It_xor, It_shift]

def B (n c : Nat) : Nat := It 8 (n ^^^ c)
theorem B_half (n c : Nat) : B n c = It 4 (It 4 (n ^^^ c)) := It_add 4 4 _

def run (n : Nat) (l : List Nat) : Nat := l.foldl B n
theorem run_nil (n : Nat) : run n [] = n := rfl
theorem run_cons (n c : Nat) (l : List Nat) : run n (c :: l) = run (B n c) l := rfl
theorem run_append (n : Nat) (l m : List Nat) : run n (l ++ m) = run (run n l) m := by simp [run, List.foldl_append]
theorem B_xor (a b c d : Nat) : B (a ^^^ b) (c ^^^ d) = B a c ^^^ B b d := by
  unfold B
  rw [← It_xor]; congr 1
  rw [Nat.xor_assoc, Nat.xor_assoc]; congr 1
  rw [← Nat.xor_assoc, Nat.xor_comm b c, Nat.xor_assoc]
theorem run_xor (a b : Nat) (l m : List Nat) (h : l.length = m.length) : run (a ^^^ b) (List.zipWith (· ^^^ ·) l m) = run a l ^^^ run b m := by
  induction l generalizing a b m with
  | nil => cases m with
    | nil => rfl
    | cons => simp at h
  | cons c l ih => cases m with
    | nil => simp at h
    | cons d m =>
      simp only [List.zipWith_cons_cons, run_cons, B_xor]
      exact ih _ _ _ (by simpa using h)
theorem run_zeros (k : Nat) : run 0 (List.replicate k 0) = 0 := by
  induction k with
  | zero => rfl
  | succ k ih => rw [List.replicate_succ, run_cons]; exact ih
theorem B_zero (n : Nat) : B n 0 = It 8 n := by unfold B; rw [Nat.xor_zero]
theorem run_skip (n k : Nat) : run n (List.replicate k 0) = It (8 * k) n := by
  induction k generalizing n with
  | zero => rfl
  | succ k ih => rw [List.replicate_succ, run_cons, ih, show 8 * (k + 1) = 8 + 8 * k from by omega, It_add, B_zero]
theorem B_lt (n c : Nat) (h : n < 4294967296) (hc : c < 256) : B n c < 4294967296 := It_lt _ _ (Nat.xor_lt_two_pow (n := 32) (by omega) (by omega))
theorem run_lt (n : Nat) (l : List Nat) (h : n < 4294967296) (hl : ∀ c ∈ l, c < 256) : run n l < 4294967296 := by
  induction l generalizing n with
  | nil => exact h
  | cons c l ih => exact ih _ (B_lt n c h (hl c (by simp))) (fun d hd => hl d (by simp [hd]))

/-- two states over one text part by what parts them -/
theorem run_apart (a b : Nat) (l : List Nat) : run (a ^^^ b) l = run a l ^^^ It (8 * l.length) b := by
  have h := run_xor a b l (List.replicate l.length 0) (by simp)
  rw [run_skip] at h
  rw [← h]; congr 1
  clear h
  induction l with
  | nil => rfl
  | cons c l ih => rw [List.length_cons, List.replicate_succ, List.zipWith_cons_cons, Nat.xor_zero, ← ih]

/-- one bit turned -/
theorem run_bit (n : Nat) (l : List Nat) (j r : Nat) (hj : j < l.length) (hr : r < 8) :
    run n (l.set j (l.getD j 0 ^^^ 2 ^ r)) = run n l ^^^ It (8 * l.length - (8 * j + r)) 1 := by
  induction l generalizing n j with
  | nil => simp at hj
  | cons c l ih =>
    cases j with
    | zero =>
      simp only [List.set_cons_zero, List.getD_cons_zero, run_cons]
      have : B n (c ^^^ 2 ^ r) = B n c ^^^ It (8 - r) 1 := by
        have := B_xor n 0 c (2 ^ r)
        rw [Nat.xor_zero] at this
        rw [this]; congr 1
        unfold B
        rw [Nat.zero_xor, It_pow r 8 (by omega)]
      rw [this, run_apart, List.length_cons, ← It_add]
      congr 2; omega
    | succ j =>
      simp only [List.set_cons_succ, List.getD_cons_succ, run_cons]
      rw [ih _ _ (by simpa using hj), List.length_cons]
      congr 2; omega

def inv (x : Nat) : Nat := 4294967295 - x
theorem inv_xor (x : Nat) (h : x < 4294967296) : inv x = 4294967295 ^^^ x := by
  unfold inv
  have h1 : x ^^^ (4294967295 ^^^ x) = 4294967295 := by rw [Nat.xor_comm 4294967295, ← Nat.xor_assoc, Nat.xor_self, Nat.zero_xor]
  apply Nat.eq_of_testBit_eq
  intro i
  rw [show 4294967295 - x = 2 ^ 32 - (x + 1) from by omega, Nat.testBit_two_pow_sub_succ h, Nat.testBit_xor]
  rw [show 4294967295 = 2 ^ 32 - 1 from by decide, Nat.testBit_two_pow_sub_one]
  by_cases hi : i < 32
  · simp [hi]
  · have : x.testBit i = false := Nat.testBit_lt_two_pow (Nat.lt_of_lt_of_le h (show 2 ^ 32 ≤ 2 ^ i from Nat.pow_le_pow_right (by omega) (by omega)))
    simp [hi, this]

def more (s : Nat) (l : List Nat) : Nat := inv (run (inv s) l)
def sum (l : List Nat) : Nat := more 0 l
theorem inv_inv (x : Nat) (h : x < 4294967296) : inv (inv x) = x := by unfold inv; omega
theorem inv_lt (x : Nat) : inv x < 4294967296 := by unfold inv; omega
theorem more_lt (s : Nat) (l : List Nat) : more s l < 4294967296 := inv_lt _
theorem more_append (s : Nat) (l m : List Nat) (hl : ∀ c ∈ l, c < 256) : more s (l ++ m) = more (more s l) m := by
  unfold more
  rw [run_append, inv_inv _ (run_lt _ _ (inv_lt _) hl)]

/-- the sums of two texts of one length, of their exclusive or, and of as many noughts come to nought -/
theorem sum_four (l m : List Nat) (h : l.length = m.length) (hl : ∀ c ∈ l, c < 256) (hm : ∀ c ∈ m, c < 256) :
    ((sum l ^^^ sum m) ^^^ sum (List.zipWith (· ^^^ ·) l m)) ^^^ sum (List.replicate l.length 0) = 0 := by
  have hx : ∀ c ∈ List.zipWith (· ^^^ ·) l m, c < 256 := by
    intro c hc
    rw [List.mem_iff_getElem] at hc
    obtain ⟨i, hi, rfl⟩ := hc
    rw [List.getElem_zipWith]
    exact Nat.xor_lt_two_pow (n := 8) (hl _ (List.getElem_mem _)) (hm _ (List.getElem_mem _))
  have hF : inv 0 < 4294967296 := inv_lt 0
  have a1 := run_lt _ _ hF hl
  have a2 := run_lt _ _ hF hm
  have a3 := run_lt _ _ hF hx
  have a4 := run_lt (inv 0) (List.replicate l.length 0) hF (by intro c hc; rw [List.mem_replicate] at hc; omega)
  unfold sum more
  rw [inv_xor _ a1, inv_xor _ a2, inv_xor _ a3, inv_xor _ a4]
  have e1 := run_xor (inv 0) (inv 0) l m h
  have e2 := run_xor (inv 0) (inv 0) (List.zipWith (· ^^^ ·) l m) (List.replicate l.length 0) (by simp [h])
  have e3 := run_xor (inv 0 ^^^ inv 0) (inv 0 ^^^ inv 0) (List.zipWith (· ^^^ ·) l m) (List.zipWith (· ^^^ ·) (List.zipWith (· ^^^ ·) l m) (List.replicate l.length 0)) (by simp [h])
  rw [e1, e2] at e3
  have e4 : List.zipWith (· ^^^ ·) (List.zipWith (· ^^^ ·) l m) (List.zipWith (· ^^^ ·) (List.zipWith (· ^^^ ·) l m) (List.replicate l.length 0)) = List.replicate l.length 0 := by
    apply List.ext_getElem
    · simp; omega
    · intro i h1 h2
      simp only [List.getElem_zipWith, List.getElem_replicate, Nat.xor_zero, Nat.xor_self]
  rw [e4] at e3
  simp only [Nat.xor_self, run_zeros] at e3
  generalize run (inv 0) l = A at *
  generalize run (inv 0) m = C at *
  generalize run (inv 0) (List.zipWith (· ^^^ ·) l m) = D at *
  generalize run (inv 0) (List.replicate l.length 0) = E at *
  generalize (4294967295 : Nat) = F at *
  apply Nat.eq_of_testBit_eq
  intro i
  have := congrArg (fun n => n.testBit i) e3
  simp only [Nat.testBit_xor, Nat.zero_testBit] at this ⊢
  revert this
  cases A.testBit i <;> cases C.testBit i <;> cases D.testBit i <;> cases E.testBit i <;> cases F.testBit i <;> decide

theorem xor_eq_zero (a b : Nat) : a ^^^ b = 0 ↔ a = b := by
  constructor
  · intro h
    have := congrArg (· ^^^ b) h
    simpa only [Nat.xor_assoc, Nat.xor_self, Nat.xor_zero, Nat.zero_xor] using this
  · intro h; rw [h, Nat.xor_self]

/-- a run of bits turned: what the first i places of 'change' that lie in n bits from 'from' on come to -/
def window (change k : Nat) : Nat → Nat
  | 0 => 0
  | i + 1 => if change.testBit i && decide (i < k) then window change k i ^^^ 2 ^ i else window change k i

theorem window_lt (c k i : Nat) : window c k i < 2 ^ i := by
  induction i with
  | zero => simp [window]
  | succ i ih =>
    unfold window
    have : 2 ^ i < 2 ^ (i + 1) := Nat.pow_lt_pow_right (by omega) (by omega)
    split
    · exact Nat.xor_lt_two_pow (Nat.lt_trans ih this) this
    · omega

theorem window_step_ne (c k i : Nat) (h : (c.testBit i && decide (i < k)) = true) : window c k (i + 1) ≠ 0 := by
  unfold window
  rw [if_pos h]
  intro hx
  have := (xor_eq_zero _ _).1 hx
  have := window_lt c k i
  omega
theorem window_step_eq (c k i : Nat) (h : (c.testBit i && decide (i < k)) = false) : window c k (i + 1) = window c k i := by
  conv => lhs; unfold window
  rw [if_neg (by rw [h]; decide)]

/-- what a text is behind the first i places: as the text, but for what the window comes to -/
def Turned (b x : List Nat) (k frm change i : Nat) : Prop :=
  x.length = b.length ∧ ∀ n, run n x = run n b ^^^ It k (window change k i) ∧ frm + k = 8 * b.length

theorem Turned.start (b : List Nat) (k frm change : Nat) (h : frm + k = 8 * b.length) : Turned b b k frm change 0 :=
  ⟨rfl, fun n => ⟨by simp [window, It_zero], h⟩⟩
theorem Turned.skip {b x : List Nat} {k frm change i : Nat} (h : Turned b x k frm change i) (hc : (change.testBit i && decide (i < k)) = false) : Turned b x k frm change (i + 1) := by
  refine ⟨h.1, fun n => ⟨?_, (h.2 n).2⟩⟩
  rw [window_step_eq _ _ _ hc]; exact (h.2 n).1
theorem Turned.turn {b x : List Nat} {k frm change i : Nat} (h : Turned b x k frm change i) (hc : (change.testBit i && decide (i < k)) = true) :
    Turned b (x.set ((frm + i) / 8) (x.getD ((frm + i) / 8) 0 ^^^ 2 ^ ((frm + i) % 8))) k frm change (i + 1) := by
  have hik : i < k := by simp at hc; exact hc.2
  have hk := (h.2 0).2
  have hl := h.1
  refine ⟨by rw [List.length_set]; exact h.1, fun n => ⟨?_, hk⟩⟩
  rw [run_bit n x _ _ (by omega) (by omega), (h.2 n).1]
  rw [show 8 * x.length - (8 * ((frm + i) / 8) + (frm + i) % 8) = k - i from by omega]
  rw [show window change k (i + 1) = window change k i ^^^ 2 ^ i from if_pos hc, It_xor, It_pow i k (by omega), Nat.xor_assoc]
theorem Turned.tells {b x : List Nat} {k frm change i : Nat} (h : Turned b x k frm change i) (hi : i ≤ 32) (n : Nat) :
    run n x = run n b ↔ window change k i = 0 := by
  rw [(h.2 n).1]
  constructor
  · intro he
    refine Decidable.byContradiction fun hne => ?_
    have hw : window change k i < 4294967296 := Nat.lt_of_lt_of_le (window_lt _ _ _) (show 2 ^ i ≤ 2 ^ 32 from Nat.pow_le_pow_right (by omega) hi)
    refine It_ne k _ hw hne ?_
    have := congrArg (run n b ^^^ ·) he
    simpa only [← Nat.xor_assoc, Nat.xor_self, Nat.zero_xor] using this
  · intro he
    rw [he, It_zero, Nat.xor_zero]
theorem inv_inj (a b : Nat) (ha : a < 4294967296) (hb : b < 4294967296) : inv a = inv b ↔ a = b := by unfold inv; omega
theorem sum_tells {b x : List Nat} {k frm change i : Nat} (h : Turned b x k frm change i) (hi : i ≤ 32) (hb : ∀ c ∈ b, c < 256) (hx : ∀ c ∈ x, c < 256) :
    sum x = sum b ↔ window change k i = 0 := by
  unfold sum more
  rw [inv_inj _ _ (run_lt _ _ (inv_lt _) hx) (run_lt _ _ (inv_lt _) hb)]
  exact h.tells hi _
end Go.Proofs.Ytfbjjblgcgjndaa.Crc
