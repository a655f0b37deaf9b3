/- One frame for all statements 'for every input the law returns true, and its arguments read as they did', and openings of nested arguments. -/
import Derived.Test.YtfbjjblgcgjndaaRows
import Derived.Test.YtfbjjblgcgjndaaOpen
import Derived.Test.YtfbjjblgcgjndaaLib2
import Derived.SizedLaws
import Derived.Deep.Slices
set_option linter.unusedVariables false
set_option linter.unusedSimpArgs false
namespace Go.Proofs.Ytfbjjblgcgjndaa
open Go.ChangeShapes Go.WideShapes Go.ChangeAt Go.RowKit

section
variable {H : Type} {enc : TypeId × Value → H}
theorem trodAll_below {W W' : World} (hb : Below W.heap.size W W') : ∀ (ts : List TypeId) (vs : List Value) (ds : List (DataW H)) (ps : List MemPlace),
    DataW.TrodAll enc Try.prog W 0 (fun _ => true) true ts vs ds ps → (∀ t ∈ ts, Try.prog.readableRec t = true ∧ t < Try.prog.types.size) → (∀ x ∈ ps, x.block < W.heap.size) →
    DataW.TrodAll enc Try.prog W' 0 (fun b => decide (b < W.heap.size)) true ts vs ds ps := by
  intro ts
  induction ts with
  | nil =>
    intro vs ds ps h _ _
    cases vs <;> cases ds <;> first | exact h | exact h.elim
  | cons t ts ih =>
    intro vs ds ps h ht hlt
    cases vs with
    | nil => cases ds <;> exact h.elim
    | cons v vs =>
      cases ds with
      | nil => exact h.elim
      | cons d ds =>
        obtain ⟨p, q, h1, h2, rfl⟩ := h
        have hr := ht t (by simp)
        exact ⟨p, q, Below.trod Try.laidOut hr.1 hr.2 h1 hb (fun x hx => hlt x (by simp [hx])), ih vs ds q h2 (fun u hu => ht u (by simp [hu])) (fun x hx => hlt x (by simp [hx])), rfl⟩

set_option maxRecDepth 100000 in
theorem law_lifted (f : FuncId) (fn : Func) (s : ChangeSpec) (os : Os) (started : os.Started) (noInit : Try.prog.inits.idxOf? f = none) (hfn : Try.prog.funcs[f]? = some fn)
    (hvars : s.vars = []) (hspec : ∀ ds : List (DataW H), ds.length = fn.params.size → s.fn H (ds ++ []) = { results := [.lit (.bool true)], args := ds })
    (hres : fn.resultTypes = #[4]) (hty : ∀ t ∈ fn.params.toList, Try.prog.readableRec t = true ∧ t < Try.prog.types.size)
    (witness : ∃ (w : World) (tape : Tape) (i : Input), w.os = os ∧ (w.forCall tape i).Shaped Try.checked.prog ∧ i.vars = [] ∧ Input.okWide Try.checked.prog (w.forCall tape i) .any w.heap.size f i ∧
      s.pre6 enc Try.checked.prog fn [] false (w.forCall tape i).memory i.args ∧ ({} : Assume).holds Try.checked.prog (lone (Frame.enter Try.checked.prog f i.args .normal) [] (w.forCall tape i)))
    (contract : ∀ (W : World) (base : Nat) (args : Array Value) (ds : List (DataW H)) (p : List MemPlace),
      (∀ (j : Nat) t v, fn.params[j]? = some t → args[j]? = some v → Value.okWide Try.prog W .any base t v) →
      DataW.TrodAll enc Try.prog W 0 (fun _ => true) true fn.params.toList args.toList ds p →
      (DataW.weightsEach Try.prog fn.params.toList ds).all (· ≤ reachBytes) = true →
      Calls Try.prog f args W fun e W' => e = .returned (.bool true) ∧ Below W.heap.size W W') :
    ReturnsInHanded {} Try.checked os f .any (s.pre6 enc Try.prog fn [] false) (s.post enc Try.prog fn false true false false) := by
  refine returnsInHanded_of_change_sized (C := Try.checked) Try.own started noInit hfn witness ?_
  intro W base args ds gs before hval0 hW _ hsz0 _
  have hW' := hW
  obtain ⟨p, q, hA0, hV, rfl, hfz, hnd⟩ := hW
  have hA : DataW.TrodAll enc Try.prog W 0 (fun _ => true) true fn.params.toList args.toList ds p := hA0
  have hgs : gs = [] ∧ q = [] := by
    rw [hvars] at hV
    exact trodVars_none hV
  obtain ⟨rfl, rfl⟩ := hgs
  have hvt : s.plain.varTypes Try.checked.prog = [] := by
    unfold DataSpec.varTypes ChangeSpec.plain
    simp only [hvars, List.map_nil, List.filterMap_nil]
  have hsz : (DataW.weightsEach Try.prog fn.params.toList ds).all (· ≤ reachBytes) = true := by
    rw [hvt, List.append_nil, List.append_nil] at hsz0; exact hsz0
  have hlen : ds.length = fn.params.size := by
    have : ∀ (ts : List TypeId) (vs : List Value) (ds : List (DataW H)) (ps : List MemPlace), DataW.TrodAll enc Try.prog W 0 (fun _ => true) true ts vs ds ps → ds.length = ts.length := by
      intro ts
      induction ts with
      | nil => intro vs ds ps h; cases vs <;> cases ds <;> first | rfl | exact h.elim
      | cons t ts ih =>
        intro vs ds ps h
        cases vs with
        | nil => cases ds <;> exact h.elim
        | cons v vs => cases ds with
          | nil => exact h.elim
          | cons d ds => obtain ⟨p, q, h1, h2, rfl⟩ := h; simp [ih vs ds q h2]
    simpa using this _ _ _ _ hA
  have hlt : ∀ x ∈ p, x.block < W.heap.size := fun x hx => DataW.TrodAll.lt hA x hx
  refine (contract W base args ds p hval0 hA hsz).mono fun e W' ⟨he, bel⟩ => ?_
  subst he
  have hsp := hspec ds hlen
  refine ⟨_, rfl, ds, [], p ++ [], [], p, [], hW', ?_, ?_, ?_, bel.frame _, fun h => by cases h⟩
  · rw [hsp, hres]
    exact trodAll_mk1 (shut_bool Try.underlying4 _)
  · rw [hsp]
    exact trodAll_below bel _ _ _ _ hA hty hlt
  · rw [hsp, hvars]; rfl

theorem Try.cells5 : Try.prog.cellsOf 5 = 1 := by kernel_rfl
theorem Try.cells23 : Try.prog.cellsOf 23 = 1 := by kernel_rfl
theorem Try.bytes5 : Try.prog.bytesOf 5 = 1 := by kernel_rfl
theorem Try.bytes23 : Try.prog.bytesOf 23 = 24 := by kernel_rfl
theorem reach_num : reachBytes = 140737488351232 := by decide

theorem open_inner {W : World} {n : Nat} {v : Value} {d : DataW H} {pl : List MemPlace} (h : DataW.trod enc Try.prog W 0 (fun _ => true) true n 23 [v] = some (d, pl)) (hw : ∀ x ∈ d.weights Try.prog 23, x ≤ reachBytes) :
    ∃ r : Inner, v = r.val ∧ r.Ok W := by
  rcases open_ints Try.underlying23 Try.underlying5 Try.cells5 h with ⟨hcs, _⟩ | ⟨x, len, cap, zs, hcs, _, hl, hm, hz, hx, hcell, hwz⟩
  · injection hcs with hv
    subst hv
    exact ⟨⟨none, [], 0⟩, rfl, ⟨At.nil _ _, fun _ => rfl, Nat.le_refl _, by simp, Bytes.nil⟩⟩
  · injection hcs with hv
    subst hv
    injection hx with hd _
    subst hd
    have hz' : zs.length = cap := by simpa using hz
    have hrow : IsRow .u8 W (some x) len cap zs := .inr ⟨x, rfl, hl, hm, hz', hcell, hwz⟩
    obtain ⟨l, rfl, hA, hnil, hc, hcm, hb⟩ := row_bytes hrow
    refine ⟨⟨some x, l, cap⟩, rfl, ⟨hA, fun e => (by cases e), hc, ?_, hb⟩⟩
    have := hw cap (by
      simp only [DataW.weights, Try.underlying23, Try.bytes5, lits, List.length_map, List.length_take, List.length_drop]
      refine List.mem_cons.2 (.inl ?_)
      omega)
    rw [reach_num] at this
    exact Nat.le_trans hc this

theorem weights_elem {P : Program} {t e : TypeId} (hu : P.underlying t = some (.slice e)) {elems spare : List (DataW H)} {d : DataW H} (hd : d ∈ elems ∨ d ∈ spare) : ∀ x ∈ d.weights P e, x ∈ (DataW.slice elems spare).weights P t := by
  have key : ∀ (l : List (DataW H)), d ∈ l → ∀ x ∈ d.weights P e, x ∈ DataW.weightsAll P e l := by
    intro l
    induction l with
    | nil => intro h; simp at h
    | cons a l ih =>
      intro h x hx
      simp only [DataW.weightsAll, List.mem_append]
      rcases List.mem_cons.1 h with rfl | h
      · exact .inl hx
      · exact .inr (ih h x hx)
  intro x hx
  simp only [DataW.weights, hu, List.mem_cons, List.mem_append]
  rcases hd with hd | hd
  · exact .inr (.inl (key _ hd x hx))
  · exact .inr (.inr (key _ hd x hx))

theorem addr_plain {w : World} {x : Addr} {v : Value} (h : w.cell? x = some v) : x = ⟨x.block, x.off, none⟩ := by
  obtain ⟨b, o, sp⟩ := x
  cases sp with
  | none => rfl
  | some s => simp [World.cell?] at h; split at h <;> simp at h

/-- a slice whose elements are one cell each: its cells, each with its own reading -/
theorem open_one {W : World} {t e : TypeId} {v : Value} {d : DataW H} {pl : List MemPlace} (ht : Try.prog.underlying t = some (.slice e)) (hc : Try.prog.cellsOf e = 1) (h : DataW.Trod enc Try.prog W 0 (fun _ => true) true t v d pl) (hv : v.cells.toList = [v])
    (hw : ∀ x ∈ d.weights Try.prog t, x ≤ reachBytes) (R : Value → Prop) (hR : ∀ n v d pl, DataW.trod enc Try.prog W 0 (fun _ => true) true n e [v] = some (d, pl) → (∀ x ∈ d.weights Try.prog e, x ≤ reachBytes) → R v) :
    ∃ (A : Option Addr) (c : Nat) (vs : List Value), v = .slice A vs.length c ∧ At W A vs ∧ (∀ u ∈ vs, R u) ∧ (A = none → c = 0) ∧ vs.length ≤ c ∧ c * Try.prog.bytesOf e ≤ reachBytes := by
  obtain ⟨fuel, hf⟩ := h
  rw [hv] at hf
  rcases Deep.open_slice1 ht hc hf with ⟨hcs, _⟩ | ⟨a, len, cap, m, n, V, D, Pl, hcs, _, hl, hm, hmm, hx, hcell⟩
  · injection hcs with hv'
    subst hv'
    exact ⟨none, 0, [], rfl, At.nil _ _, fun u hu => by simp at hu, fun _ => rfl, Nat.le_refl _, by simp⟩
  · injection hcs with hv'
    subst hv'
    have hmm' : m = cap := by simpa using hmm
    subst hmm'
    injection hx with hd _
    refine ⟨some a, m, (List.range len).map V, by simp, ?_, ?_, fun e => (by cases e), by simpa using hl, ?_⟩
    · intro hn
      have h0 : 0 < len := by
        rcases Nat.eq_zero_or_pos len with h | h
        · subst h; simp at hn
        · exact h
      have hc0 := (hcell 0 (by omega)).1
      have ha : a = ⟨a.block, a.off, none⟩ := by
        refine addr_plain (w := W) (v := V 0) ?_
        simpa [Addr.add] using hc0
      refine ⟨a.block, a.off, by rw [← ha], fun j u hu => ?_⟩
      have hj : j < len := by simpa using (List.getElem?_eq_some_iff.1 hu).1
      have := (hcell j (by omega)).1
      rw [ha, Addr.add_mid] at this
      rw [this]
      simpa [hj] using hu
    · intro u hu
      simp only [List.mem_map, List.mem_range] at hu
      obtain ⟨i, hi, rfl⟩ := hu
      have hc := hcell i (by omega)
      refine hR n (V i) (D i) (Pl i) hc.2 fun x hx => hw x ?_
      rw [hd]
      exact weights_elem ht (.inl (List.mem_map.2 ⟨i, List.mem_range.2 hi, rfl⟩)) x hx
    · have := hw (m * Try.prog.bytesOf e) (by
        rw [hd]
        simp only [DataW.weights, ht, List.length_map, List.length_range]
        refine List.mem_cons.2 (.inl ?_)
        rw [show len + (m - len) = m from by omega])
      exact this
theorem open_rows {W : World} {v : Value} {d : DataW H} {pl : List MemPlace} (h : DataW.Trod enc Try.prog W 0 (fun _ => true) true 30 v d pl) (hv : v.cells.toList = [v]) (hw : ∀ x ∈ d.weights Try.prog 30, x ≤ reachBytes) :
    ∃ (A : Option Addr) (c : Nat) (rs : List Inner), v = .slice A rs.length c ∧ At W A (rs.map Inner.val) ∧ (∀ r ∈ rs, r.Ok W) ∧ (A = none → c = 0) ∧ rs.length ≤ c ∧ c * 24 ≤ reachBytes := by
  obtain ⟨A, c, vs, rfl, hA, hR, hn, hl, hb⟩ := open_one Try.underlying30 Try.cells23 h hv hw (fun v => ∃ r : Inner, v = r.val ∧ r.Ok W) (fun n v d pl h hw => open_inner h hw)
  obtain ⟨rs, hrs⟩ : ∃ rs : List Inner, vs = rs.map Inner.val ∧ ∀ r ∈ rs, r.Ok W := by
    clear hA hl hb h hv hw
    induction vs with
    | nil => exact ⟨[], rfl, fun r hr => by simp at hr⟩
    | cons v vs ih =>
      obtain ⟨r, rfl, hr⟩ := hR v (by simp)
      obtain ⟨rs, rfl, h⟩ := ih (fun u hu => hR u (by simp [hu]))
      exact ⟨r :: rs, rfl, fun q hq => by
        rcases List.mem_cons.1 hq with rfl | hq
        · exact hr
        · exact h q hq⟩
  obtain ⟨rfl, hok⟩ := hrs
  rw [Try.bytes23] at hb
  refine ⟨A, c, rs, by simp, hA, hok, hn, by simpa using hl, hb⟩
end
end Go.Proofs.Ytfbjjblgcgjndaa
