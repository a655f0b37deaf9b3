/- Openings of arguments: the acts of the disk laws. -/
import Derived.Test.YtfbjjblgcgjndaaOpen4
set_option linter.unusedVariables false
set_option linter.unusedSimpArgs false
namespace Go.Proofs.Ytfbjjblgcgjndaa
open Go.ChangeShapes Go.WideShapes Go.ChangeAt Go.RowKit Go.Deep

theorem flat_get {α β : Type} (f : α → List β) (n : Nat) (hf : ∀ x, (f x).length = n) : ∀ (l : List α) (i : Nat) (a : α), l[i]? = some a → ∀ j, j < n → (l.flatMap f)[i * n + j]? = (f a)[j]?
  | [], i, a, h, j, hj => by simp at h
  | x :: l, 0, a, h, j, hj => by
    simp at h; subst h
    rw [List.flatMap_cons, List.getElem?_append_left (by rw [hf]; omega)]
    simp
  | x :: l, i + 1, a, h, j, hj => by
    have := flat_get f n hf l i a (by simpa using h) j hj
    rw [List.flatMap_cons, List.getElem?_append_right (by rw [hf, Nat.succ_mul]; omega), hf, show (i + 1) * n + j - n = i * n + j by rw [Nat.succ_mul]; omega]
    exact this
theorem flat_len {α β : Type} (f : α → List β) (n : Nat) (hf : ∀ x, (f x).length = n) : ∀ (l : List α), (l.flatMap f).length = l.length * n
  | [] => by simp
  | x :: l => by rw [List.flatMap_cons, List.length_append, flat_len f n hf l, hf, List.length_cons, Nat.succ_mul]; omega
section
variable {H : Type} {enc : TypeId × Value → H} {W : World} {r : Reach} {b0 : Nat} {v : Value} {d : DataW H} {p : List MemPlace}
theorem addr_add_plain (a : Addr) (h : a = ⟨a.block, a.off, none⟩) (i : Nat) : a.add i = ⟨a.block, a.off + i, none⟩ := by rw [h, Addr.add_mid]
set_option maxRecDepth 100000 in
/-- a slice whose elements are many cells each -/
theorem open_many {α : Type} {t e : TypeId} {k : Nat} (cells : α → List Value) (q : α → Prop) (ht : Try.prog.underlying t = some (.slice e)) (hk : Try.prog.cellsOf e = k) (hk0 : 0 < k) (hb1 : 1 ≤ Try.prog.bytesOf e) (hcl : ∀ a, (cells a).length = k)
    (hR : ∀ n cs (d : DataW H) pl, DataW.trod enc Try.prog W 0 (fun _ => true) true n e cs = some (d, pl) → (∀ x ∈ d.weights Try.prog e, x ≤ reachBytes) → ∃ a, cs = cells a ∧ q a)
    (hv : Value.okWide Try.prog W r b0 t v) (h : DataW.Trod enc Try.prog W 0 (fun _ => true) true t v d p) (hw : ∀ x ∈ d.weights Try.prog t, x ≤ reachBytes) :
    ∃ (A : Option Addr) (l : List α) (c : Nat), v = .slice A l.length c ∧ At W A (l.flatMap cells) ∧ (∀ a ∈ l, q a) ∧ (A = none → c = 0) ∧ l.length ≤ c ∧ l.length ≤ 140737488351232 := by
  obtain ⟨a, n, c, rfl⟩ := okWide_slice ht hv
  obtain ⟨fuel, hf⟩ := h
  rw [show (Value.slice a n c).cells.toList = [.slice a n c] from rfl] at hf
  rcases Deep.open_slice ht hf with ⟨hcs, _⟩ | ⟨ad, len, cap, m, n', D, Pl, hcs, _, hl, hm, hmm, hx, hcell⟩
  · injection hcs with hv'
    injection hv' with e1 e2 e3
    subst e1 e2 e3
    exact ⟨none, [], 0, rfl, At.nil _ _, fun a ha => by simp at ha, fun _ => rfl, Nat.le_refl _, by simp⟩
  · injection hcs with hv'
    injection hv' with e1 e2 e3
    subst e1 e2 e3
    have hmm' : m = c := by simpa using hmm
    subst hmm'
    injection hx with hd _
    rw [hk] at hcell
    have hel : ∀ i, i < n → ∃ x, q x ∧ W.cells? 0 (ad.add (i * k)) k = some (cells x) := fun i hi => by
      obtain ⟨cs, h1, h2⟩ := hcell i (by omega)
      obtain ⟨x, rfl, hq⟩ := hR n' cs (D i) (Pl i) h2 (fun y hy => hw y (by
        rw [hd]
        exact weights_elem ht (.inl (List.mem_map.2 ⟨i, List.mem_range.2 hi, rfl⟩)) y hy))
      exact ⟨x, hq, h1⟩
    have hall : ∀ j, j ≤ n → ∃ l : List α, l.length = j ∧ (∀ a ∈ l, q a) ∧ ∀ i a, l[i]? = some a → W.cells? 0 (ad.add (i * k)) k = some (cells a) := by
      intro j
      induction j with
      | zero => exact fun _ => ⟨[], rfl, fun a ha => by simp at ha, fun i a ha => by simp at ha⟩
      | succ j ih =>
        intro hj
        obtain ⟨l, h1, h2, h3⟩ := ih (by omega)
        obtain ⟨x, hx1, hx2⟩ := hel j (by omega)
        refine ⟨l ++ [x], by simp [h1], fun a ha => ?_, fun i a ha => ?_⟩
        · rcases List.mem_append.1 ha with ha | ha
          · exact h2 a ha
          · rw [List.mem_singleton.1 ha]; exact hx1
        · by_cases hi : i < l.length
          · rw [List.getElem?_append_left hi] at ha
            exact h3 i a ha
          · have hil := (List.getElem?_eq_some_iff.1 ha).1
            simp at hil
            obtain rfl : i = l.length := by omega
            simp at ha
            subst ha
            rw [h1]; exact hx2
    obtain ⟨l, rfl, h2, h3⟩ := hall n (Nat.le_refl _)
    refine ⟨some ad, l, m, rfl, ?_, h2, fun e => (by cases e), hl, ?_⟩
    · intro hne
      have hl0 : 0 < l.length := by
        rcases Nat.eq_zero_or_pos l.length with h | h
        · rw [List.eq_nil_of_length_eq_zero h] at hne; simp at hne
        · exact h
      obtain ⟨_, _, hc0⟩ := World.cells?_some (h3 0 l[0] (List.getElem?_eq_getElem hl0))
      have hc00 := hc0 0 hk0
      have hcc : (cells l[0])[0]? = some ((cells l[0])[0]'(by rw [hcl]; exact hk0)) := List.getElem?_eq_getElem (by rw [hcl]; exact hk0)
      rw [hcc, Nat.zero_mul] at hc00
      have ha : ad = ⟨ad.block, ad.off, none⟩ := by
        refine addr_plain (w := W) (v := (cells l[0])[0]'(by rw [hcl]; exact hk0)) ?_
        have : (ad.add 0).add 0 = ad := by simp [Addr.add]
        rw [this] at hc00; exact hc00
      refine ⟨ad.block, ad.off, by rw [← ha], fun j u hu => ?_⟩
      have hj : j < (l.flatMap cells).length := (List.getElem?_eq_some_iff.1 hu).1
      have hlen : (l.flatMap cells).length = l.length * k := flat_len cells k hcl l
      rw [hlen] at hj
      have hi : j / k < l.length := (Nat.div_lt_iff_lt_mul hk0).2 hj
      have hjk : j % k < k := Nat.mod_lt _ hk0
      have hdm : j / k * k + j % k = j := by rw [Nat.mul_comm]; exact Nat.div_add_mod j k
      obtain ⟨_, _, hce⟩ := World.cells?_some (h3 (j / k) l[j / k] (List.getElem?_eq_getElem hi))
      have := hce (j % k) hjk
      rw [addr_add_plain ad ha, Addr.add_mid, show ad.off + j / k * k + j % k = ad.off + j by omega] at this
      rw [this, ← flat_get cells k hcl l (j / k) _ (List.getElem?_eq_getElem hi) (j % k) hjk, hdm]
      exact hu
    · have := hw (m * Try.prog.bytesOf e) (by
        rw [hd]
        simp only [DataW.weights, ht, List.length_map, List.length_range]
        refine List.mem_cons.2 (.inl ?_)
        rw [show l.length + (m - l.length) = m from by omega])
      rw [reach_num] at this
      exact Nat.le_trans hl (Nat.le_trans (Nat.le_mul_of_pos_right m hb1) this)
end

/-- an act -/
structure ActD where
  kind : Nat
  num : Int
  of_ : Int
  data : Inner
  keep : Lies Bool
def ActD.cells (a : ActD) : List Value := [.int .u8 (a.kind : Int), .int .i64 a.num, .int .i64 a.of_, a.data.val, a.keep.val]
structure ActD.Ok (W : World) (a : ActD) : Prop where
  kind : a.kind < 256
  num : -9223372036854775808 ≤ a.num ∧ a.num ≤ 9223372036854775807
  of_ : -9223372036854775808 ≤ a.of_ ∧ a.of_ ≤ 9223372036854775807
  data : a.data.Ok W
  keep : BoolsOk W a.keep
theorem ActD.Ok.below {w w' : World} {a : ActD} (h : a.Ok w) (hb : Below w.heap.size w w') : a.Ok w' := ⟨h.kind, h.num, h.of_, h.data.below hb, h.keep.below hb⟩
/-- acts that lie in memory -/
structure Acts where
  A : Option Addr
  l : List ActD
  c : Nat
def Acts.val (s : Acts) : Value := .slice s.A s.l.length s.c
structure Acts.Ok (W : World) (s : Acts) : Prop where
  lies : At W s.A (s.l.flatMap ActD.cells)
  all : ∀ a ∈ s.l, a.Ok W
  nil : s.A = none → s.c = 0
  le : s.l.length ≤ s.c
  small : s.l.length ≤ 140737488351232
theorem act_cell {w : World} {A : Option Addr} {l : List ActD} (h : At w A (l.flatMap ActD.cells)) (i : Nat) (a : ActD) (ha : l[i]? = some a) : ∃ b o, A = some ⟨b, o, none⟩ ∧ ∀ j, j < 5 → w.cell? ⟨b, o + i * 5 + j, none⟩ = a.cells[j]? := by
  have hg := flat_get ActD.cells 5 (fun _ => rfl) l i a ha
  obtain ⟨b, o, e, hr⟩ := h (by
    intro e
    have := hg 0 (by omega)
    rw [e] at this; simp [ActD.cells] at this)
  refine ⟨b, o, e, fun j hj => ?_⟩
  have h5 : a.cells[j]? = some (a.cells[j]'hj) := List.getElem?_eq_getElem (show j < a.cells.length from hj)
  rw [Nat.add_assoc, h5]
  exact hr _ _ (by rw [hg j hj]; exact h5)
section
variable {H : Type} {enc : TypeId × Value → H} {W : World} {r : Reach} {b0 : Nat} {v : Value} {d : DataW H} {p : List MemPlace}
theorem Try.cells109 : Try.prog.cellsOf 109 = 5 := by kernel_rfl
theorem Try.bytes109' : Try.prog.bytesOf 109 = 72 := by kernel_rfl
theorem Try.cells5' : Try.prog.cellsOf 5 = 1 := by kernel_rfl
theorem Try.cells3' : Try.prog.cellsOf 3 = 1 := by kernel_rfl
theorem Try.cells23' : Try.prog.cellsOf 23 = 1 := by kernel_rfl
theorem Try.cells73' : Try.prog.cellsOf 73 = 1 := by kernel_rfl
set_option maxRecDepth 100000 in
theorem lies_of {α : Type} {t e : TypeId} (f : α → Value) (q : α → Prop) (ht : Try.prog.underlying t = some (.slice e)) (hc : Try.prog.cellsOf e = 1) (hb1 : 1 ≤ Try.prog.bytesOf e)
    (hR : ∀ n v (d : DataW H) pl, DataW.trod enc Try.prog W 0 (fun _ => true) true n e [v] = some (d, pl) → ∃ a, v = f a ∧ q a)
    {n : Nat} (h : DataW.trod enc Try.prog W 0 (fun _ => true) true n t [v] = some (d, p)) (hw : ∀ x ∈ d.weights Try.prog t, x ≤ reachBytes) :
    ∃ s : Lies α, v = s.val ∧ s.Ok f q W := by
  have hsl : v.cells.toList = [v] := by
    rcases DataW.trod_slice ht h with ⟨hcs, _⟩ | ⟨a, len, cap, elems, rest, n', _, hcs, _⟩
    · injection hcs with h1; rw [h1]; rfl
    · injection hcs with h1; rw [h1]; rfl
  obtain ⟨A, c, vs, hvs, hA, hR', hn, hl, hb⟩ := open_one ht hc ⟨n, by rw [hsl]; exact h⟩ hsl hw (fun v => ∃ a, v = f a ∧ q a) (fun n v d pl h _ => hR n v d pl h)
  obtain ⟨l, rfl, hq⟩ := map_all vs hR'
  subst hvs
  rw [List.length_map] at hl
  refine ⟨⟨A, l, c⟩, by simp [Lies.val], hA, hn, hl, ?_, hq⟩
  have := Nat.le_trans (Nat.le_mul_of_pos_right c hb1) hb
  rw [reach_num] at this
  exact Nat.le_trans hl this
set_option maxRecDepth 100000 in
theorem bools_of {n : Nat} (h : DataW.trod enc Try.prog W 0 (fun _ => true) true n 73 [v] = some (d, p)) (hw : ∀ x ∈ d.weights Try.prog 73, x ≤ reachBytes) : ∃ s : Lies Bool, v = s.val ∧ BoolsOk W s := by
  refine lies_of Value.bool (fun _ => True) Try.underlying73 Try.cells4' (by rw [Try.bytes4']; omega) ?_ h hw
  intro n u y pl hu
  obtain ⟨b, h1, h2⟩ := DataW.trod_bool Try.underlying4 hu
  exact ⟨b, by simpa using h1, trivial⟩
set_option maxRecDepth 100000 in
theorem i64_of {n : Nat} (h : DataW.trod enc Try.prog W 0 (fun _ => true) true n 3 [v] = some (d, p)) : ∃ x : Int, v = .int .i64 x ∧ -9223372036854775808 ≤ x ∧ x ≤ 9223372036854775807 := by
  obtain ⟨a, h1, _, w⟩ := DataW.trod_int Try.underlying3 h
  injection h1 with h1
  exact ⟨a, h1, wf_i64 w⟩
set_option maxRecDepth 100000 in
theorem u8_of {n : Nat} (h : DataW.trod enc Try.prog W 0 (fun _ => true) true n 5 [v] = some (d, p)) : ∃ x : Nat, v = .int .u8 (x : Int) ∧ x < 256 := by
  obtain ⟨a, h1, _, w⟩ := DataW.trod_int Try.underlying5 h
  injection h1 with h1
  obtain ⟨l1, l2⟩ := wf_u8 w
  obtain ⟨m, rfl⟩ := Int.eq_ofNat_of_zero_le l1
  exact ⟨m, h1, by omega⟩
set_option maxRecDepth 100000 in
theorem act_of {n : Nat} {cs : List Value} (h : DataW.trod enc Try.prog W 0 (fun _ => true) true n 109 cs = some (d, p)) (hw : ∀ x ∈ d.weights Try.prog 109, x ≤ reachBytes) : ∃ a : ActD, cs = a.cells ∧ a.Ok W := by
  obtain ⟨xs, n', _, hx, hlen, hsz, hg⟩ := DataW.trod_struct Try.underlying109 h
  rw [Try.cells109] at hlen
  match cs, hlen with
  | [c0, c1, c2, c3, c4], _ =>
    match xs, hsz with
    | [y0, y1, y2, y3, y4], _ =>
      have g0 := hg 0 _ rfl
      have g1 := hg 1 _ rfl
      have g2 := hg 2 _ rfl
      have g3 := hg 3 _ rfl
      have g4 := hg 4 _ rfl
      simp only [Try.cells5', Try.cells3', Try.cells23', Try.cells73', List.drop_succ_cons, List.drop_zero, List.take_succ_cons, List.take_zero, List.getElem?_cons_zero, List.getElem?_cons_succ] at g0 g1 g2 g3 g4
      injection hx with hd _
      have hww : ∀ t (y : DataW H), (t, y) ∈ [(5, y0.1), (3, y1.1), (3, y2.1), (23, y3.1), (73, y4.1)] → ∀ x ∈ y.weights Try.prog t, x ≤ reachBytes := by
        intro t y hy x hx
        refine hw x ?_
        rw [hd]
        simp only [DataW.weights, Try.underlying109, List.map_cons, List.map_nil, DataW.weightsEach, List.mem_append]
        simp only [List.mem_cons, Prod.mk.injEq, List.not_mem_nil, or_false] at hy
        rcases hy with ⟨rfl, rfl⟩ | ⟨rfl, rfl⟩ | ⟨rfl, rfl⟩ | ⟨rfl, rfl⟩ | ⟨rfl, rfl⟩ <;> simp [hx]
      obtain ⟨x0, rfl, b0⟩ := u8_of g0
      obtain ⟨x1, rfl, b1⟩ := i64_of g1
      obtain ⟨x2, rfl, b2⟩ := i64_of g2
      obtain ⟨x3, rfl, b3⟩ := open_inner g3 (hww 23 y3.1 (by simp))
      obtain ⟨x4, rfl, b4⟩ := bools_of g4 (hww 73 y4.1 (by simp))
      exact ⟨⟨x0, x1, x2, x3, x4⟩, rfl, b0, b1, b2, b3, b4⟩
set_option maxRecDepth 100000 in
theorem open_acts {r : Reach} {b0 : Nat} (hv : Value.okWide Try.prog W r b0 96 v) (h : DataW.Trod enc Try.prog W 0 (fun _ => true) true 96 v d p) (hw : ∀ x ∈ d.weights Try.prog 96, x ≤ reachBytes) : ∃ s : Acts, v = s.val ∧ s.Ok W := by
  obtain ⟨A, l, c, rfl, h1, h2, h3, h4, h5⟩ := open_many (k := 5) ActD.cells (ActD.Ok W) Try.underlying96 Try.cells109 (by omega) (by rw [Try.bytes109']; omega) (fun _ => rfl) (fun n cs d pl h hw => act_of h hw) hv h hw
  exact ⟨⟨A, l, c⟩, rfl, h1, h2, h3, h4, h5⟩
end
end Go.Proofs.Ytfbjjblgcgjndaa
