/- Joined texts: RDisk13, RDisk14, OwnNil, OwnBools, Book, Book2, Book3. -/
import Derived.Test.YtfbjjblgcgjndaaDk1
import Derived.Test.YtfbjjblgcgjndaaDk2
import Derived.Test.YtfbjjblgcgjndaaDk3
import Derived.Test.YtfbjjblgcgjndaaDk4
import Derived.Test.YtfbjjblgcgjndaaDk6
set_option linter.unusedVariables false
set_option linter.unusedSimpArgs false

/- Contract of the reference disk's Write. -/
namespace Go.Proofs.Ytfbjjblgcgjndaa
open Go.RowKit
theorem own_slice2 {w : World} {n0 n k : Nat} {e : TypeId} {v : Value} {xs : List Value} (h : w.ownsRow n0 e k v n xs) : ∃ A c, v = .slice A n c := by
  obtain ⟨A, c, e, _⟩ := At.own h
  exact ⟨A, c, e⟩
theorem Try.under191 : Try.prog.underlying 191 = some (.slice 271) := by kernel_rfl
theorem Try.info271 : (Try.prog.info? 271).map (fun i => (i.zero, i.size, i.bytes)) = some (some (.agg #[.int .i64 0, .slice none 0 0]), 2, 32) := by kernel_rfl
/-- what the reference's Write leaves -/
def RWrote (n0 : Nat) (w : World) (p : Nat) (S : Nat → Prop) (x : Nat) (D' : Dsk) (e : Ending) (w' : World) : Prop := e = .returned (.int .u16 (x : Nat)) ∧ RNow n0 w p S D' w'
set_option maxRecDepth 100000 in
set_option maxHeartbeats 2000000 in
theorem rwrite_1024 {n0 : Nat} {w : World} {p : Nat} {D : Dsk} {S : Nat → Prop} (h : RD n0 w p D S) (pg : Nat) (gi oi c n : Nat) (l : List Nat) (hl : n = l.length) (hby : Bytes l) (h8 : n = 1024) (hpg : pg < D.pages) (hbeg : (D.begin 2).1 = 0) (hn0 : n0 ≤ w.heap.size) (hcl : D.cache.length ≤ 1000000000000) (hn : D.n 2 ≤ 4611686018427387904) (hcap : n ≤ c)
    (hA : ∀ w', Chg S w w' → At w' (some ⟨gi, oi, none⟩) (ns .u8 l)) :
    Calls Try.prog 152 #[.pointer (some ⟨p, 0, none⟩), .int .i64 (pg : Int), .slice (some ⟨gi, oi, none⟩) n c] w (RWrote n0 w p S 0 ((D.go 2).put (8 * pg) l (n / 128))) := by
  have hbg := rbegin2 h hn
  rw [hbeg] at hbg
  have HBG := Lib.hid hbg
  have HA := Lib.hid hA
  clear hbg hA
  have hPG : (D.begin 2).2.pages = D.pages := by unfold Dsk.pages; rw [(D.begin_last 2).1]
  have hpb : pg ≤ 16384 := by
    obtain ⟨k, a, _, b⟩ := h.1.pages
    have : D.pages = k := by unfold Dsk.pages; omega
    omega
  have hput : ∀ j, j ≤ 8 → ((D.go 2).put (8 * pg) l j).Ok := fun j hj => Dsk.put_ok (D.go_ok h.1 2) hby (by omega) (by
    obtain ⟨k, a, _, b⟩ := h.1.pages
    have h1 : (D.go 2).last.length = 8 * k := a
    have h2 : D.pages = k := by unfold Dsk.pages; omega
    rw [h1]; omega)
  have HPUT := Lib.hid hput
  have hstart : (D.begin 2).2 = (D.go 2).put (8 * pg) l 0 := by
    rw [Dsk.begin_go hbeg]; unfold Dsk.put; simp [puts]
  have HSTART := Lib.hid hstart
  have hlen : ∀ j, ((D.go 2).put (8 * pg) l j).cache.length ≤ 1000000000000 + j := fun j => by
    show (D.cache ++ puts (8 * pg) l j).length ≤ _
    rw [List.length_append, puts_length]; omega
  have HLEN := Lib.hid hlen
  clear hput hstart hlen hcl hby hbeg hn
  have HPG := Lib.hid hPG
  clear hPG
  obtain ⟨P, hP⟩ : ∃ P, P = D.pages := ⟨_, rfl⟩
  rw [← hP] at hpg HPG
  have hpg2 : ¬ (P : Int) ≤ (pg : Int) := by omega
  have hd0 : (P ≤ pg) = False := by simp; omega
  have HP := Lib.hid hP
  have HLL := Lib.hid hl
  clear hP hl
  subst h8
  go_enter Try.func152, Try.ntmps152
  go_wp2_with (first
    | (go_at_call 168; refine HBG.out.mono ?_; rintro e1 w1 ⟨rfl, hh1, hc1⟩; have HD1 := Lib.hid hh1; have HC1 := Lib.hid hc1; clear hh1 hc1)
    | (go_at_call 130; refine (rpages_any HD1.out).mono ?_; rintro e2 w2 ⟨rfl, rfl⟩; rw [HPG.out]))
  go_loopw [8] (fun i wr => ∃ j : Nat, j ≤ 8 ∧ i = .int .i64 j ∧ RNow n0 w p S ((D.go 2).put (8 * pg) l j) wr) (fun i _ => 8 - (intOf i).toNat)
  case atStart => exact ⟨0, by omega, rfl, S, by rw [← HSTART.out]; exact HD1.out, Grows.refl _ _, HC1.out⟩
  case round =>
    obtain ⟨j, hj, rfl, S', hrd, hgr, hch⟩ := hrel
    have HRD := Lib.hid hrd
    have HGR := Lib.hid hgr
    have HCH := Lib.hid hch
    clear hrd hgr hch
    by_cases hlt : j < 8
    · have h128 : 128 * (j : Int) < 1024 := by omega
      obtain ⟨ok, ⟨q, Y, hin, hS⟩, hlt0⟩ := HRD.out
      obtain ⟨V, cap, hqC⟩ := own_slice2 hin.cache
      have hin' := hin.below (below_drew0 (Below.refl _ wr))
      have c1 : wr.drew.cell? ⟨p, 1, none⟩ = some q.C := hin'.rcd.cell 1 (by omega)
      rw [hqC] at c1
      have hmb0 := HLEN.out j
      generalize hm7 : ((D.go 2).put (8 * pg) l j).cache.length = m at *
      have HM7 := Lib.hid hm7
      clear hm7
      have HS0 := Lib.hid (show (fun w : World => w.cell? ⟨p, 1, none⟩ = some (.slice V m cap)) wr.drew from c1)
      have HIN := Lib.hid hin
      have HQC := Lib.hid hqC
      have HSS := Lib.hid hS
      have HLT := Lib.hid hlt0
      have HPO := Lib.hid (show ((D.go 2).put (8 * pg) l (j + 1)).Ok from HPUT.out (j + 1) (by omega))
      have hmb : m ≤ 2000000000000 := by omega
      obtain ⟨part, hpart⟩ : ∃ part, part = (l.drop (128 * j)).take 128 := ⟨_, rfl⟩
      have hpl : part.length = 128 := by rw [hpart, List.length_take, List.length_drop]; have := HLL.out; omega
      have hsrc := ((HA.out wr HCH.out).below (below_drew0 (Below.refl _ wr))).part (128 * j) 128
      rw [← hpart] at hsrc
      have HSRC := Lib.hid hsrc
      have HPL := Lib.hid hpl
      have HPART := Lib.hid hpart
      have HPL2 := Lib.hid (show (ns .u8 part).length = 128 * 1 by rw [ns_length, hpl])
      have HBZ := Lib.hid (show n0 ≤ wr.drew.heap.size from Nat.le_trans hn0 HCH.out.size)
      clear hsrc hpl hpart
      have hk1 : (m : Int) = m := rfl
      have hw1 : IntKind.i64.wrap (8 * (pg : Int)) = 8 * (pg : Int) := by rw [IntKind.wrap_i64]; omega
      have hw2 : IntKind.i64.wrap (8 * (pg : Int) + (j : Int)) = 8 * (pg : Int) + (j : Int) := by rw [IntKind.wrap_i64]; omega
      have hw3 : IntKind.i64.wrap (128 * (j : Int)) = 128 * (j : Int) := by rw [IntKind.wrap_i64]; omega
      have hw4 : IntKind.i64.wrap (128 * (j : Int) + 128) = 128 * (j : Int) + 128 := by rw [IntKind.wrap_i64]; omega
      have hb1 : 0 ≤ 128 * (j : Int) := by omega
      have hb2 : 128 * (j : Int) + 128 ≤ (c : Int) := by omega
      have hb3 : ¬ c = 128 * j := by omega
      have hb4 : (128 * (j : Int)).toNat = 128 * j := by omega
      have hb5 : (128 * (j : Int) + 128).toNat = 128 * j + 128 := by omega
      have hb6 : 0 ≤ 128 * (j : Int) + 128 := by omega
      have hb7 : 128 * (j : Int) ≤ 128 * (j : Int) + 128 := by omega
      have hb8 : 128 * j + 128 ≤ c := by omega
      have hb9 : 128 * j + 128 - 128 * j = 128 := by omega
      clear hin hin' c1 hS hlt0 ok hqC
      go_wp2_with fail
      refine wp_region_noPanic ?_
      refine AnyL.start 23 (fun w : World => w.cell? ⟨p, 1, none⟩ = some (.slice V m cap)) (by kernel_rfl) ?_
      refine AnyL.take (i := 0) (oi := { dst := some 38, op := Op.move (Operand.tmp 0), type := 97, pos := "ref.go:125", after := #[], guard := none }) (v := ?_) rfl (by kernel_rfl) (by kernel_rfl) (by kernel_rfl) (by kernel_rfl) (fun _ _ _ h => h) (Or.inl ⟨by rfl, ?_⟩) HS0.out ?_
      rotate_left
      · (intro w5 hSw; have s1 := hSw; go_simp; try with_reducible rfl)
      simp only [Act.put, List.setIfInBounds_toArray, List.set_cons_zero, List.set_cons_succ]
      refine AnyL.take (i := 1) (oi := { dst := some 39, op := Op.move (Operand.tmp 0), type := 97, pos := "ref.go:125", after := #[], guard := none }) (v := ?_) rfl (by kernel_rfl) (by kernel_rfl) (by kernel_rfl) (by kernel_rfl) (fun _ _ _ h => h) (Or.inl ⟨by rfl, ?_⟩) HS0.out ?_
      rotate_left
      · (intro w5 hSw; have s1 := hSw; go_simp; try with_reducible rfl)
      simp only [Act.put, List.setIfInBounds_toArray, List.set_cons_zero, List.set_cons_succ]
      refine AnyL.take (i := 2) (oi := { dst := some 40, op := Op.nilCheck (Operand.tmp 39), type := 0, pos := "ref.go:125", after := #[{ on := 1, ground := Ground.data }], guard := none }) (v := ?_) rfl (by kernel_rfl) (by kernel_rfl) (by kernel_rfl) (by kernel_rfl) (fun _ _ _ h => h) (Or.inl ⟨by rfl, ?_⟩) HS0.out ?_
      rotate_left
      · (intro w5 hSw; have s1 := hSw; go_simp; try with_reducible rfl)
      simp only [Act.put, List.setIfInBounds_toArray, List.set_cons_zero, List.set_cons_succ]
      refine AnyL.take (i := 3) (oi := { dst := some 41, op := Op.fieldAddr 193 (Operand.tmp 40) 1, type := 0, pos := "ref.go:125", after := #[{ on := 2, ground := Ground.data }], guard := none }) (v := ?_) rfl (by kernel_rfl) (by kernel_rfl) (by kernel_rfl) (by kernel_rfl) (fun _ _ _ h => h) (Or.inl ⟨by rfl, ?_⟩) HS0.out ?_
      rotate_left
      · (intro w5 hSw; have s1 := hSw; go_simp; try with_reducible rfl)
      simp only [Act.put, List.setIfInBounds_toArray, List.set_cons_zero, List.set_cons_succ]
      refine AnyL.take (i := 4) (oi := { dst := some 42, op := Op.load 191 (Operand.tmp 41), type := 191, pos := "ref.go:125", after := #[{ on := 3, ground := Ground.data }], guard := none }) (v := ?_) rfl (by kernel_rfl) (by kernel_rfl) (by kernel_rfl) (by kernel_rfl) (fun _ _ _ h => h) (Or.inl ⟨by rfl, ?_⟩) HS0.out ?_
      rotate_left
      · (intro w5 hSw; have s1 := hSw; go_simp; try with_reducible rfl)
      simp only [Act.put, List.setIfInBounds_toArray, List.set_cons_zero, List.set_cons_succ]
      refine AnyL.take (i := 5) (oi := { dst := some 43, op := Op.move (Operand.tmp 1), type := 3, pos := "ref.go:125", after := #[], guard := none }) (v := ?_) rfl (by kernel_rfl) (by kernel_rfl) (by kernel_rfl) (by kernel_rfl) (fun _ _ _ h => h) (Or.inl ⟨by rfl, ?_⟩) HS0.out ?_
      rotate_left
      · (intro w5 hSw; have s1 := hSw; go_simp; try with_reducible rfl)
      simp only [Act.put, List.setIfInBounds_toArray, List.set_cons_zero, List.set_cons_succ]
      refine AnyL.take (i := 6) (oi := { dst := some 44, op := Op.binOp BinOp.mul 3 (Operand.const (Value.int IntKind.i64 8)) (Operand.tmp 43) 3, type := 3, pos := "ref.go:125", after := #[{ on := 5, ground := Ground.data }], guard := none }) (v := ?_) rfl (by kernel_rfl) (by kernel_rfl) (by kernel_rfl) (by kernel_rfl) (fun _ _ _ h => h) (Or.inl ⟨by rfl, ?_⟩) HS0.out ?_
      rotate_left
      · (intro w5 hSw; have s1 := hSw; go_simp; try with_reducible rfl)
      simp only [Act.put, List.setIfInBounds_toArray, List.set_cons_zero, List.set_cons_succ]
      refine AnyL.take (i := 7) (oi := { dst := some 45, op := Op.move (Operand.tmp 8), type := 3, pos := "ref.go:125", after := #[], guard := none }) (v := ?_) rfl (by kernel_rfl) (by kernel_rfl) (by kernel_rfl) (by kernel_rfl) (fun _ _ _ h => h) (Or.inl ⟨by rfl, ?_⟩) HS0.out ?_
      rotate_left
      · (intro w5 hSw; have s1 := hSw; go_simp; try with_reducible rfl)
      simp only [Act.put, List.setIfInBounds_toArray, List.set_cons_zero, List.set_cons_succ]
      refine AnyL.take (i := 8) (oi := { dst := some 46, op := Op.binOp BinOp.add 3 (Operand.tmp 44) (Operand.tmp 45) 3, type := 3, pos := "ref.go:125", after := #[{ on := 6, ground := Ground.data }, { on := 7, ground := Ground.data }], guard := none }) (v := ?_) rfl (by kernel_rfl) (by kernel_rfl) (by kernel_rfl) (by kernel_rfl) (fun _ _ _ h => h) (Or.inl ⟨by rfl, ?_⟩) HS0.out ?_
      rotate_left
      · (intro w5 hSw; have s1 := hSw; go_simp; try with_reducible rfl)
      simp only [Act.put, List.setIfInBounds_toArray, List.set_cons_zero, List.set_cons_succ]
      refine AnyL.take (i := 9) (oi := { dst := some 47, op := Op.move (Operand.tmp 9), type := 23, pos := "ref.go:125", after := #[], guard := none }) (v := ?_) rfl (by kernel_rfl) (by kernel_rfl) (by kernel_rfl) (by kernel_rfl) (fun _ _ _ h => h) (Or.inl ⟨by rfl, ?_⟩) HS0.out ?_
      rotate_left
      · (intro w5 hSw; have s1 := hSw; go_simp; try with_reducible rfl)
      simp only [Act.put, List.setIfInBounds_toArray, List.set_cons_zero, List.set_cons_succ]
      refine AnyL.take (i := 10) (oi := { dst := some 48, op := Op.move (Operand.tmp 2), type := 23, pos := "ref.go:125", after := #[], guard := none }) (v := ?_) rfl (by kernel_rfl) (by kernel_rfl) (by kernel_rfl) (by kernel_rfl) (fun _ _ _ h => h) (Or.inl ⟨by rfl, ?_⟩) HS0.out ?_
      rotate_left
      · (intro w5 hSw; have s1 := hSw; go_simp; try with_reducible rfl)
      simp only [Act.put, List.setIfInBounds_toArray, List.set_cons_zero, List.set_cons_succ]
      refine AnyL.take (i := 11) (oi := { dst := some 49, op := Op.move (Operand.tmp 8), type := 3, pos := "ref.go:125", after := #[], guard := none }) (v := ?_) rfl (by kernel_rfl) (by kernel_rfl) (by kernel_rfl) (by kernel_rfl) (fun _ _ _ h => h) (Or.inl ⟨by rfl, ?_⟩) HS0.out ?_
      rotate_left
      · (intro w5 hSw; have s1 := hSw; go_simp; try with_reducible rfl)
      simp only [Act.put, List.setIfInBounds_toArray, List.set_cons_zero, List.set_cons_succ]
      refine AnyL.take (i := 12) (oi := { dst := some 50, op := Op.binOp BinOp.mul 3 (Operand.const (Value.int IntKind.i64 128)) (Operand.tmp 49) 3, type := 3, pos := "ref.go:125", after := #[{ on := 11, ground := Ground.data }], guard := none }) (v := ?_) rfl (by kernel_rfl) (by kernel_rfl) (by kernel_rfl) (by kernel_rfl) (fun _ _ _ h => h) (Or.inl ⟨by rfl, ?_⟩) HS0.out ?_
      rotate_left
      · (intro w5 hSw; have s1 := hSw; go_simp; try with_reducible rfl)
      simp only [Act.put, List.setIfInBounds_toArray, List.set_cons_zero, List.set_cons_succ]
      refine AnyL.take (i := 13) (oi := { dst := some 51, op := Op.move (Operand.tmp 8), type := 3, pos := "ref.go:125", after := #[], guard := none }) (v := ?_) rfl (by kernel_rfl) (by kernel_rfl) (by kernel_rfl) (by kernel_rfl) (fun _ _ _ h => h) (Or.inl ⟨by rfl, ?_⟩) HS0.out ?_
      rotate_left
      · (intro w5 hSw; have s1 := hSw; go_simp; try with_reducible rfl)
      simp only [Act.put, List.setIfInBounds_toArray, List.set_cons_zero, List.set_cons_succ]
      refine AnyL.take (i := 14) (oi := { dst := some 52, op := Op.binOp BinOp.mul 3 (Operand.const (Value.int IntKind.i64 128)) (Operand.tmp 51) 3, type := 3, pos := "ref.go:125", after := #[{ on := 13, ground := Ground.data }], guard := none }) (v := ?_) rfl (by kernel_rfl) (by kernel_rfl) (by kernel_rfl) (by kernel_rfl) (fun _ _ _ h => h) (Or.inl ⟨by rfl, ?_⟩) HS0.out ?_
      rotate_left
      · (intro w5 hSw; have s1 := hSw; go_simp; try with_reducible rfl)
      simp only [Act.put, List.setIfInBounds_toArray, List.set_cons_zero, List.set_cons_succ]
      refine AnyL.take (i := 15) (oi := { dst := some 53, op := Op.binOp BinOp.add 3 (Operand.tmp 52) (Operand.const (Value.int IntKind.i64 128)) 3, type := 3, pos := "ref.go:125", after := #[{ on := 14, ground := Ground.data }], guard := none }) (v := ?_) rfl (by kernel_rfl) (by kernel_rfl) (by kernel_rfl) (by kernel_rfl) (fun _ _ _ h => h) (Or.inl ⟨by rfl, ?_⟩) HS0.out ?_
      rotate_left
      · (intro w5 hSw; have s1 := hSw; go_simp; try with_reducible rfl)
      simp only [Act.put, List.setIfInBounds_toArray, List.set_cons_zero, List.set_cons_succ]
      refine AnyL.one (i := 16) (o := { dst := some 54, op := Op.slice 23 (Operand.tmp 48) (some (Operand.tmp 50)) (some (Operand.tmp 53)) none, type := 23, pos := "ref.go:125", after := #[{ on := 10, ground := Ground.data }, { on := 12, ground := Ground.data }, { on := 15, ground := Ground.data }], guard := none }) (by kernel_rfl) rfl (by rfl) (fun K hK => ?_)
      have H8 := Lib.hid hK
      clear hK
      go_simp
      replace hK := H8.out
      refine hK _ _ (fun _ => HS0.out) ?_
      (try clear H8); (try clear hK); (try clear K)
      try simp only [Act.put, List.setIfInBounds_toArray, List.set_cons_zero, List.set_cons_succ]
      refine AnyL.one (i := 17) (o := { dst := some 55, op := Op.call { callee := Callee.builtin Builtin.append, args := #[Operand.tmp 47, Operand.tmp 54], argTypes := #[23, 23] }, type := 23, pos := "ref.go:125", after := #[{ on := 9, ground := Ground.data }, { on := 16, ground := Ground.data }], guard := none }) (by kernel_rfl) rfl (by rfl) (fun K hK => ?_)
      refine oper_append2 (.tmp 47) (.tmp 54) 23 5 (.int .u8 0) 1 1 rfl Try.underlying23 Try.info5 rfl (by decide) n0 (.slice none 0 0) 0 [] rfl (World.ownsRow_nil _ _ _ _) ⟨gi, oi + 128 * j, none⟩ 128 (c - 128 * j) (ns .u8 part) rfl HPL2.out HSRC.out (ns_one _ _) (by omega) (by omega) HBZ.out ?_
      intro v4 w4 ho4 hor4
      obtain ⟨A4, c4, rfl⟩ := own_slice ho4
      rw [Nat.zero_add] at ho4 hor4 ⊢
      have hg4 : wr.drew.grownBy w4 none := by
        rcases hor4 with ⟨x, _⟩ | ⟨x, _⟩
        · exact x
        · exact x
      have hb4' := below_of_grown hg4
      have HS4 := Lib.hid (show w4.cell? ⟨p, 1, none⟩ = some (.slice V m cap) from (Chg.of_below (F := fun _ => False) hb4').cell HS0.out (fun h => h))
      have HB4 := Lib.hid hb4'
      have HO4 := Lib.hid ho4
      have HR4 := Lib.hid hor4
      have HS5 := Lib.hid (show (w4.alloc (.cells #[.int .i64 (8 * (pg : Int) + (j : Int)), .slice A4 128 c4] 271)).cell? ⟨p, 1, none⟩ = some (.slice V m cap) from ((Chg.of_below (F := fun _ => False) hb4').alloc _).cell HS0.out (fun h => h))
      clear hb4' ho4 hor4 hg4
      refine hK _ _ (fun _ => HS4.out) ?_
      (try clear H8); (try clear hK); (try clear K)
      try simp only [Act.put, List.setIfInBounds_toArray, List.set_cons_zero, List.set_cons_succ]
      refine AnyL.one (i := 18) (o := { dst := some 56, op := Op.build 271 #[(0, Operand.tmp 46), (1, Operand.tmp 55)], type := 271, pos := "ref.go:125", after := #[{ on := 8, ground := Ground.data }, { on := 17, ground := Ground.data }], guard := none }) (by kernel_rfl) rfl (by rfl) (fun K hK => ?_)
      have H8 := Lib.hid hK
      clear hK
      go_simp
      replace hK := H8.out
      refine hK _ _ (fun _ => HS4.out) ?_
      (try clear H8); (try clear hK); (try clear K)
      try simp only [Act.put, List.setIfInBounds_toArray, List.set_cons_zero, List.set_cons_succ]
      refine AnyL.one (i := 19) (o := { dst := some 57, op := Op.buildSlice 191 1 #[(0, Operand.tmp 56)], type := 191, pos := "ref.go:125", after := #[{ on := 18, ground := Ground.data }], guard := none }) (by kernel_rfl) rfl (by rfl) (fun K hK => ?_)
      have H8 := Lib.hid hK
      clear hK
      go_simp
      replace hK := H8.out
      refine hK _ _ (fun _ => HS5.out) ?_
      (try clear H8); (try clear hK); (try clear K)
      try simp only [Act.put, List.setIfInBounds_toArray, List.set_cons_zero, List.set_cons_succ]
      refine AnyL.one (i := 20) (o := { dst := some 58, op := Op.call { callee := Callee.builtin Builtin.append, args := #[Operand.tmp 42, Operand.tmp 57], argTypes := #[191, 191] }, type := 191, pos := "ref.go:125", after := #[{ on := 4, ground := Ground.data }, { on := 19, ground := Ground.data }, { on := 17, ground := Ground.chain }], guard := none }) (by kernel_rfl) rfl (by rfl) (fun K hK => ?_)
      have hbA : Below wr.heap.size wr (w4.alloc (.cells #[.int .i64 (8 * (pg : Int) + (j : Int)), .slice A4 128 c4] 271)) := below_alloc0 (below_next0 (below_drew0 (Below.refl wr.heap.size wr)) HB4.out) _
      have hown5 := own_below HIN.out.cache hbA
      rw [HQC.out, HM7.out] at hown5
      have HOWN := Lib.hid hown5
      have HATB := Lib.hid (show At (w4.alloc (.cells #[.int .i64 (8 * (pg : Int) + (j : Int)), .slice A4 128 c4] 271)) (some ⟨w4.heap.size, 0, none⟩) [.int .i64 (8 * (pg : Int) + (j : Int)), .slice A4 128 c4] from At.whole (heap_alloc_new w4 _))
      have HBA := Lib.hid (show n0 ≤ (w4.alloc (.cells #[.int .i64 (8 * (pg : Int) + (j : Int)), .slice A4 128 c4] 271)).heap.size from Nat.le_trans HBZ.out (Nat.le_trans HB4.out.size (by simp)))
      have HIA := Lib.hid (HIN.out.below hbA)
      clear hbA hown5
      refine oper_append2 (.tmp 42) (.tmp 57) 191 271 (.agg #[.int .i64 0, .slice none 0 0]) 2 32 rfl Try.under191 Try.info271 (by rfl) (by decide) n0 (.slice V m cap) m _ rfl HOWN.out ⟨w4.heap.size, 0, none⟩ 1 1 [.int .i64 (8 * (pg : Int) + (j : Int)), .slice A4 128 c4] rfl (by rfl) HATB.out (by simp [Value.oneCell']) (by omega) (by omega) HBA.out ?_
      intro v5 w5 ho5 hor5
      obtain ⟨A5, c5, rfl⟩ := own_slice2 ho5
      have hrec5 := HIA.out.rcd.keep (push_chg hor5) (fun h => HIA.out.sep.2.1 (by rw [HQC.out]; exact h))
      have q1 : w5.cell? ⟨p, 1, none⟩ = some (.slice V m cap) := by rw [← HQC.out]; exact hrec5.cell 1 (by omega)
      have q2 := hrec5.frozen 1
      have HS6 := Lib.hid q1
      have HO5 := Lib.hid ho5
      have HR5 := Lib.hid hor5
      clear hrec5 ho5 hor5
      refine hK _ _ (fun _ => HS6.out) ?_
      (try clear H8); (try clear hK); (try clear K)
      try simp only [Act.put, List.setIfInBounds_toArray, List.set_cons_zero, List.set_cons_succ]
      refine AnyL.one (i := 21) (o := { dst := some 59, op := Op.nilCheck (Operand.tmp 38), type := 0, pos := "ref.go:125", after := #[{ on := 0, ground := Ground.data }, { on := 0, ground := Ground.phase }, { on := 1, ground := Ground.phase }, { on := 2, ground := Ground.phase }, { on := 3, ground := Ground.phase }, { on := 4, ground := Ground.phase }, { on := 5, ground := Ground.phase }, { on := 6, ground := Ground.phase }, { on := 7, ground := Ground.phase }, { on := 8, ground := Ground.phase }, { on := 9, ground := Ground.phase }, { on := 10, ground := Ground.phase }, { on := 11, ground := Ground.phase }, { on := 12, ground := Ground.phase }, { on := 13, ground := Ground.phase }, { on := 14, ground := Ground.phase }, { on := 15, ground := Ground.phase }, { on := 16, ground := Ground.phase }, { on := 17, ground := Ground.phase }, { on := 18, ground := Ground.phase }, { on := 19, ground := Ground.phase }, { on := 20, ground := Ground.phase }], guard := none }) (by kernel_rfl) rfl (by rfl) (fun K hK => ?_)
      have H8 := Lib.hid hK
      clear hK
      go_simp
      replace hK := H8.out
      refine hK _ _ (fun _ => HS6.out) ?_
      (try clear H8); (try clear hK); (try clear K)
      try simp only [Act.put, List.setIfInBounds_toArray, List.set_cons_zero, List.set_cons_succ]
      refine AnyL.one (i := 22) (o := { dst := some 60, op := Op.fieldAddr 193 (Operand.tmp 59) 1, type := 0, pos := "ref.go:125", after := #[{ on := 21, ground := Ground.data }, { on := 0, ground := Ground.phase }, { on := 1, ground := Ground.phase }, { on := 2, ground := Ground.phase }, { on := 3, ground := Ground.phase }, { on := 4, ground := Ground.phase }, { on := 5, ground := Ground.phase }, { on := 6, ground := Ground.phase }, { on := 7, ground := Ground.phase }, { on := 8, ground := Ground.phase }, { on := 9, ground := Ground.phase }, { on := 10, ground := Ground.phase }, { on := 11, ground := Ground.phase }, { on := 12, ground := Ground.phase }, { on := 13, ground := Ground.phase }, { on := 14, ground := Ground.phase }, { on := 15, ground := Ground.phase }, { on := 16, ground := Ground.phase }, { on := 17, ground := Ground.phase }, { on := 18, ground := Ground.phase }, { on := 19, ground := Ground.phase }, { on := 20, ground := Ground.phase }], guard := none }) (by kernel_rfl) rfl (by rfl) (fun K hK => ?_)
      have H8 := Lib.hid hK
      clear hK
      go_simp
      replace hK := H8.out
      refine hK _ _ (fun _ => HS6.out) ?_
      (try clear H8); (try clear hK); (try clear K)
      try simp only [Act.put, List.setIfInBounds_toArray, List.set_cons_zero, List.set_cons_succ]
      refine AnyL.one (i := 23) (o := { dst := none, op := Op.store 191 (Operand.tmp 60) (Operand.tmp 58), type := 0, pos := "ref.go:125", after := #[{ on := 22, ground := Ground.data }, { on := 20, ground := Ground.data }, { on := 20, ground := Ground.chain }, { on := 0, ground := Ground.phase }, { on := 1, ground := Ground.phase }, { on := 2, ground := Ground.phase }, { on := 3, ground := Ground.phase }, { on := 4, ground := Ground.phase }, { on := 5, ground := Ground.phase }, { on := 6, ground := Ground.phase }, { on := 7, ground := Ground.phase }, { on := 8, ground := Ground.phase }, { on := 9, ground := Ground.phase }, { on := 10, ground := Ground.phase }, { on := 11, ground := Ground.phase }, { on := 12, ground := Ground.phase }, { on := 13, ground := Ground.phase }, { on := 14, ground := Ground.phase }, { on := 15, ground := Ground.phase }, { on := 16, ground := Ground.phase }, { on := 17, ground := Ground.phase }, { on := 18, ground := Ground.phase }, { on := 19, ground := Ground.phase }, { on := 20, ground := Ground.phase }], guard := none }) (by kernel_rfl) rfl (by rfl) (fun K hK => ?_)
      have H8 := Lib.hid hK
      clear hK
      go_simp
      replace hK := H8.out
      refine hK _ _ (fun h => by simp at h) ?_
      (try clear H8); (try clear hK); (try clear K)
      try simp only [Act.put, List.setIfInBounds_toArray, List.set_cons_zero, List.set_cons_succ]
      refine AnyL.done (by kernel_rfl) ?_
      refine NoPanic.normal ?_
      go_wp2_with fail
      go_roundw
      case measure => simp [intOf]; omega
      case rel =>
        refine ⟨j + 1, by omega, by go_num, ?_⟩
        exact rput_round (wA := w4.alloc (.cells #[.int .i64 (8 * (pg : Int) + (j : Int)), .slice A4 128 c4] 271)) HSS.out HLT.out HGR.out HCH.out hn0 (below_alloc0 (below_next0 (below_drew0 (Below.refl wr.heap.size wr)) HB4.out) _) HIN.out
          (by unfold Buf; rw [HPL.out]; exact own_below HO4.out (below_alloc0 (Below.refl _ _) _))
          (fun g hg => by
            have hg' : (Value.slice A4 128 c4).ownBlock = some g := hg
            rcases HR4.out with ⟨_, x⟩ | ⟨_, g2, x, y⟩
            · rw [x] at hg'; cases hg'
            · rw [x] at hg'; cases hg'; exact y)
          (by rw [HM7.out, show ((8 * pg + j : Nat) : Int) = 8 * (pg : Int) + (j : Int) by push_cast; rfl]; exact HO5.out) (by rw [HQC.out]; exact HR5.out) HPART.out HPO.out
    · obtain rfl : j = 8 := by omega
      have h128 : ¬ 128 * ((8 : Nat) : Int) < 1024 := by omega
      go_wp2_with fail
      go_ret
      exact ⟨rfl, S', HRD.out, HGR.out, HCH.out⟩
set_option maxRecDepth 100000 in
set_option maxHeartbeats 2000000 in
theorem rwrite_128 {n0 : Nat} {w : World} {p : Nat} {D : Dsk} {S : Nat → Prop} (h : RD n0 w p D S) (pg : Nat) (gi oi c n : Nat) (l : List Nat) (hl : n = l.length) (hby : Bytes l) (h8 : n = 128) (hpg : pg < D.pages) (hbeg : (D.begin 2).1 = 0) (hn0 : n0 ≤ w.heap.size) (hcl : D.cache.length ≤ 1000000000000) (hn : D.n 2 ≤ 4611686018427387904) (hcap : n ≤ c)
    (hA : ∀ w', Chg S w w' → At w' (some ⟨gi, oi, none⟩) (ns .u8 l)) :
    Calls Try.prog 152 #[.pointer (some ⟨p, 0, none⟩), .int .i64 (pg : Int), .slice (some ⟨gi, oi, none⟩) n c] w (RWrote n0 w p S 0 ((D.go 2).put (8 * pg) l (n / 128))) := by
  have hbg := rbegin2 h hn
  rw [hbeg] at hbg
  have HBG := Lib.hid hbg
  have HA := Lib.hid hA
  clear hbg hA
  have hPG : (D.begin 2).2.pages = D.pages := by unfold Dsk.pages; rw [(D.begin_last 2).1]
  have hpb : pg ≤ 16384 := by
    obtain ⟨k, a, _, b⟩ := h.1.pages
    have : D.pages = k := by unfold Dsk.pages; omega
    omega
  have hput : ∀ j, j ≤ 1 → ((D.go 2).put (8 * pg) l j).Ok := fun j hj => Dsk.put_ok (D.go_ok h.1 2) hby (by omega) (by
    obtain ⟨k, a, _, b⟩ := h.1.pages
    have h1 : (D.go 2).last.length = 8 * k := a
    have h2 : D.pages = k := by unfold Dsk.pages; omega
    rw [h1]; omega)
  have HPUT := Lib.hid hput
  have hstart : (D.begin 2).2 = (D.go 2).put (8 * pg) l 0 := by
    rw [Dsk.begin_go hbeg]; unfold Dsk.put; simp [puts]
  have HSTART := Lib.hid hstart
  have hlen : ∀ j, ((D.go 2).put (8 * pg) l j).cache.length ≤ 1000000000000 + j := fun j => by
    show (D.cache ++ puts (8 * pg) l j).length ≤ _
    rw [List.length_append, puts_length]; omega
  have HLEN := Lib.hid hlen
  clear hput hstart hlen hcl hby hbeg hn
  have HPG := Lib.hid hPG
  clear hPG
  obtain ⟨P, hP⟩ : ∃ P, P = D.pages := ⟨_, rfl⟩
  rw [← hP] at hpg HPG
  have hpg2 : ¬ (P : Int) ≤ (pg : Int) := by omega
  have hd0 : (P ≤ pg) = False := by simp; omega
  have HP := Lib.hid hP
  have HLL := Lib.hid hl
  clear hP hl
  subst h8
  go_enter Try.func152, Try.ntmps152
  go_wp2_with (first
    | (go_at_call 168; refine HBG.out.mono ?_; rintro e1 w1 ⟨rfl, hh1, hc1⟩; have HD1 := Lib.hid hh1; have HC1 := Lib.hid hc1; clear hh1 hc1)
    | (go_at_call 130; refine (rpages_any HD1.out).mono ?_; rintro e2 w2 ⟨rfl, rfl⟩; rw [HPG.out]))
  go_loopw [8] (fun i wr => ∃ j : Nat, j ≤ 1 ∧ i = .int .i64 j ∧ RNow n0 w p S ((D.go 2).put (8 * pg) l j) wr) (fun i _ => 1 - (intOf i).toNat)
  case atStart => exact ⟨0, by omega, rfl, S, by rw [← HSTART.out]; exact HD1.out, Grows.refl _ _, HC1.out⟩
  case round =>
    obtain ⟨j, hj, rfl, S', hrd, hgr, hch⟩ := hrel
    have HRD := Lib.hid hrd
    have HGR := Lib.hid hgr
    have HCH := Lib.hid hch
    clear hrd hgr hch
    by_cases hlt : j < 1
    · have h128 : 128 * (j : Int) < 128 := by omega
      obtain ⟨ok, ⟨q, Y, hin, hS⟩, hlt0⟩ := HRD.out
      obtain ⟨V, cap, hqC⟩ := own_slice2 hin.cache
      have hin' := hin.below (below_drew0 (Below.refl _ wr))
      have c1 : wr.drew.cell? ⟨p, 1, none⟩ = some q.C := hin'.rcd.cell 1 (by omega)
      rw [hqC] at c1
      have hmb0 := HLEN.out j
      generalize hm7 : ((D.go 2).put (8 * pg) l j).cache.length = m at *
      have HM7 := Lib.hid hm7
      clear hm7
      have HS0 := Lib.hid (show (fun w : World => w.cell? ⟨p, 1, none⟩ = some (.slice V m cap)) wr.drew from c1)
      have HIN := Lib.hid hin
      have HQC := Lib.hid hqC
      have HSS := Lib.hid hS
      have HLT := Lib.hid hlt0
      have HPO := Lib.hid (show ((D.go 2).put (8 * pg) l (j + 1)).Ok from HPUT.out (j + 1) (by omega))
      have hmb : m ≤ 2000000000000 := by omega
      obtain ⟨part, hpart⟩ : ∃ part, part = (l.drop (128 * j)).take 128 := ⟨_, rfl⟩
      have hpl : part.length = 128 := by rw [hpart, List.length_take, List.length_drop]; have := HLL.out; omega
      have hsrc := ((HA.out wr HCH.out).below (below_drew0 (Below.refl _ wr))).part (128 * j) 128
      rw [← hpart] at hsrc
      have HSRC := Lib.hid hsrc
      have HPL := Lib.hid hpl
      have HPART := Lib.hid hpart
      have HPL2 := Lib.hid (show (ns .u8 part).length = 128 * 1 by rw [ns_length, hpl])
      have HBZ := Lib.hid (show n0 ≤ wr.drew.heap.size from Nat.le_trans hn0 HCH.out.size)
      clear hsrc hpl hpart
      have hk1 : (m : Int) = m := rfl
      have hw1 : IntKind.i64.wrap (8 * (pg : Int)) = 8 * (pg : Int) := by rw [IntKind.wrap_i64]; omega
      have hw2 : IntKind.i64.wrap (8 * (pg : Int) + (j : Int)) = 8 * (pg : Int) + (j : Int) := by rw [IntKind.wrap_i64]; omega
      have hw3 : IntKind.i64.wrap (128 * (j : Int)) = 128 * (j : Int) := by rw [IntKind.wrap_i64]; omega
      have hw4 : IntKind.i64.wrap (128 * (j : Int) + 128) = 128 * (j : Int) + 128 := by rw [IntKind.wrap_i64]; omega
      have hb1 : 0 ≤ 128 * (j : Int) := by omega
      have hb2 : 128 * (j : Int) + 128 ≤ (c : Int) := by omega
      have hb3 : ¬ c = 128 * j := by omega
      have hb4 : (128 * (j : Int)).toNat = 128 * j := by omega
      have hb5 : (128 * (j : Int) + 128).toNat = 128 * j + 128 := by omega
      have hb6 : 0 ≤ 128 * (j : Int) + 128 := by omega
      have hb7 : 128 * (j : Int) ≤ 128 * (j : Int) + 128 := by omega
      have hb8 : 128 * j + 128 ≤ c := by omega
      have hb9 : 128 * j + 128 - 128 * j = 128 := by omega
      clear hin hin' c1 hS hlt0 ok hqC
      go_wp2_with fail
      refine wp_region_noPanic ?_
      refine AnyL.start 23 (fun w : World => w.cell? ⟨p, 1, none⟩ = some (.slice V m cap)) (by kernel_rfl) ?_
      refine AnyL.take (i := 0) (oi := { dst := some 38, op := Op.move (Operand.tmp 0), type := 97, pos := "ref.go:125", after := #[], guard := none }) (v := ?_) rfl (by kernel_rfl) (by kernel_rfl) (by kernel_rfl) (by kernel_rfl) (fun _ _ _ h => h) (Or.inl ⟨by rfl, ?_⟩) HS0.out ?_
      rotate_left
      · (intro w5 hSw; have s1 := hSw; go_simp; try with_reducible rfl)
      simp only [Act.put, List.setIfInBounds_toArray, List.set_cons_zero, List.set_cons_succ]
      refine AnyL.take (i := 1) (oi := { dst := some 39, op := Op.move (Operand.tmp 0), type := 97, pos := "ref.go:125", after := #[], guard := none }) (v := ?_) rfl (by kernel_rfl) (by kernel_rfl) (by kernel_rfl) (by kernel_rfl) (fun _ _ _ h => h) (Or.inl ⟨by rfl, ?_⟩) HS0.out ?_
      rotate_left
      · (intro w5 hSw; have s1 := hSw; go_simp; try with_reducible rfl)
      simp only [Act.put, List.setIfInBounds_toArray, List.set_cons_zero, List.set_cons_succ]
      refine AnyL.take (i := 2) (oi := { dst := some 40, op := Op.nilCheck (Operand.tmp 39), type := 0, pos := "ref.go:125", after := #[{ on := 1, ground := Ground.data }], guard := none }) (v := ?_) rfl (by kernel_rfl) (by kernel_rfl) (by kernel_rfl) (by kernel_rfl) (fun _ _ _ h => h) (Or.inl ⟨by rfl, ?_⟩) HS0.out ?_
      rotate_left
      · (intro w5 hSw; have s1 := hSw; go_simp; try with_reducible rfl)
      simp only [Act.put, List.setIfInBounds_toArray, List.set_cons_zero, List.set_cons_succ]
      refine AnyL.take (i := 3) (oi := { dst := some 41, op := Op.fieldAddr 193 (Operand.tmp 40) 1, type := 0, pos := "ref.go:125", after := #[{ on := 2, ground := Ground.data }], guard := none }) (v := ?_) rfl (by kernel_rfl) (by kernel_rfl) (by kernel_rfl) (by kernel_rfl) (fun _ _ _ h => h) (Or.inl ⟨by rfl, ?_⟩) HS0.out ?_
      rotate_left
      · (intro w5 hSw; have s1 := hSw; go_simp; try with_reducible rfl)
      simp only [Act.put, List.setIfInBounds_toArray, List.set_cons_zero, List.set_cons_succ]
      refine AnyL.take (i := 4) (oi := { dst := some 42, op := Op.load 191 (Operand.tmp 41), type := 191, pos := "ref.go:125", after := #[{ on := 3, ground := Ground.data }], guard := none }) (v := ?_) rfl (by kernel_rfl) (by kernel_rfl) (by kernel_rfl) (by kernel_rfl) (fun _ _ _ h => h) (Or.inl ⟨by rfl, ?_⟩) HS0.out ?_
      rotate_left
      · (intro w5 hSw; have s1 := hSw; go_simp; try with_reducible rfl)
      simp only [Act.put, List.setIfInBounds_toArray, List.set_cons_zero, List.set_cons_succ]
      refine AnyL.take (i := 5) (oi := { dst := some 43, op := Op.move (Operand.tmp 1), type := 3, pos := "ref.go:125", after := #[], guard := none }) (v := ?_) rfl (by kernel_rfl) (by kernel_rfl) (by kernel_rfl) (by kernel_rfl) (fun _ _ _ h => h) (Or.inl ⟨by rfl, ?_⟩) HS0.out ?_
      rotate_left
      · (intro w5 hSw; have s1 := hSw; go_simp; try with_reducible rfl)
      simp only [Act.put, List.setIfInBounds_toArray, List.set_cons_zero, List.set_cons_succ]
      refine AnyL.take (i := 6) (oi := { dst := some 44, op := Op.binOp BinOp.mul 3 (Operand.const (Value.int IntKind.i64 8)) (Operand.tmp 43) 3, type := 3, pos := "ref.go:125", after := #[{ on := 5, ground := Ground.data }], guard := none }) (v := ?_) rfl (by kernel_rfl) (by kernel_rfl) (by kernel_rfl) (by kernel_rfl) (fun _ _ _ h => h) (Or.inl ⟨by rfl, ?_⟩) HS0.out ?_
      rotate_left
      · (intro w5 hSw; have s1 := hSw; go_simp; try with_reducible rfl)
      simp only [Act.put, List.setIfInBounds_toArray, List.set_cons_zero, List.set_cons_succ]
      refine AnyL.take (i := 7) (oi := { dst := some 45, op := Op.move (Operand.tmp 8), type := 3, pos := "ref.go:125", after := #[], guard := none }) (v := ?_) rfl (by kernel_rfl) (by kernel_rfl) (by kernel_rfl) (by kernel_rfl) (fun _ _ _ h => h) (Or.inl ⟨by rfl, ?_⟩) HS0.out ?_
      rotate_left
      · (intro w5 hSw; have s1 := hSw; go_simp; try with_reducible rfl)
      simp only [Act.put, List.setIfInBounds_toArray, List.set_cons_zero, List.set_cons_succ]
      refine AnyL.take (i := 8) (oi := { dst := some 46, op := Op.binOp BinOp.add 3 (Operand.tmp 44) (Operand.tmp 45) 3, type := 3, pos := "ref.go:125", after := #[{ on := 6, ground := Ground.data }, { on := 7, ground := Ground.data }], guard := none }) (v := ?_) rfl (by kernel_rfl) (by kernel_rfl) (by kernel_rfl) (by kernel_rfl) (fun _ _ _ h => h) (Or.inl ⟨by rfl, ?_⟩) HS0.out ?_
      rotate_left
      · (intro w5 hSw; have s1 := hSw; go_simp; try with_reducible rfl)
      simp only [Act.put, List.setIfInBounds_toArray, List.set_cons_zero, List.set_cons_succ]
      refine AnyL.take (i := 9) (oi := { dst := some 47, op := Op.move (Operand.tmp 9), type := 23, pos := "ref.go:125", after := #[], guard := none }) (v := ?_) rfl (by kernel_rfl) (by kernel_rfl) (by kernel_rfl) (by kernel_rfl) (fun _ _ _ h => h) (Or.inl ⟨by rfl, ?_⟩) HS0.out ?_
      rotate_left
      · (intro w5 hSw; have s1 := hSw; go_simp; try with_reducible rfl)
      simp only [Act.put, List.setIfInBounds_toArray, List.set_cons_zero, List.set_cons_succ]
      refine AnyL.take (i := 10) (oi := { dst := some 48, op := Op.move (Operand.tmp 2), type := 23, pos := "ref.go:125", after := #[], guard := none }) (v := ?_) rfl (by kernel_rfl) (by kernel_rfl) (by kernel_rfl) (by kernel_rfl) (fun _ _ _ h => h) (Or.inl ⟨by rfl, ?_⟩) HS0.out ?_
      rotate_left
      · (intro w5 hSw; have s1 := hSw; go_simp; try with_reducible rfl)
      simp only [Act.put, List.setIfInBounds_toArray, List.set_cons_zero, List.set_cons_succ]
      refine AnyL.take (i := 11) (oi := { dst := some 49, op := Op.move (Operand.tmp 8), type := 3, pos := "ref.go:125", after := #[], guard := none }) (v := ?_) rfl (by kernel_rfl) (by kernel_rfl) (by kernel_rfl) (by kernel_rfl) (fun _ _ _ h => h) (Or.inl ⟨by rfl, ?_⟩) HS0.out ?_
      rotate_left
      · (intro w5 hSw; have s1 := hSw; go_simp; try with_reducible rfl)
      simp only [Act.put, List.setIfInBounds_toArray, List.set_cons_zero, List.set_cons_succ]
      refine AnyL.take (i := 12) (oi := { dst := some 50, op := Op.binOp BinOp.mul 3 (Operand.const (Value.int IntKind.i64 128)) (Operand.tmp 49) 3, type := 3, pos := "ref.go:125", after := #[{ on := 11, ground := Ground.data }], guard := none }) (v := ?_) rfl (by kernel_rfl) (by kernel_rfl) (by kernel_rfl) (by kernel_rfl) (fun _ _ _ h => h) (Or.inl ⟨by rfl, ?_⟩) HS0.out ?_
      rotate_left
      · (intro w5 hSw; have s1 := hSw; go_simp; try with_reducible rfl)
      simp only [Act.put, List.setIfInBounds_toArray, List.set_cons_zero, List.set_cons_succ]
      refine AnyL.take (i := 13) (oi := { dst := some 51, op := Op.move (Operand.tmp 8), type := 3, pos := "ref.go:125", after := #[], guard := none }) (v := ?_) rfl (by kernel_rfl) (by kernel_rfl) (by kernel_rfl) (by kernel_rfl) (fun _ _ _ h => h) (Or.inl ⟨by rfl, ?_⟩) HS0.out ?_
      rotate_left
      · (intro w5 hSw; have s1 := hSw; go_simp; try with_reducible rfl)
      simp only [Act.put, List.setIfInBounds_toArray, List.set_cons_zero, List.set_cons_succ]
      refine AnyL.take (i := 14) (oi := { dst := some 52, op := Op.binOp BinOp.mul 3 (Operand.const (Value.int IntKind.i64 128)) (Operand.tmp 51) 3, type := 3, pos := "ref.go:125", after := #[{ on := 13, ground := Ground.data }], guard := none }) (v := ?_) rfl (by kernel_rfl) (by kernel_rfl) (by kernel_rfl) (by kernel_rfl) (fun _ _ _ h => h) (Or.inl ⟨by rfl, ?_⟩) HS0.out ?_
      rotate_left
      · (intro w5 hSw; have s1 := hSw; go_simp; try with_reducible rfl)
      simp only [Act.put, List.setIfInBounds_toArray, List.set_cons_zero, List.set_cons_succ]
      refine AnyL.take (i := 15) (oi := { dst := some 53, op := Op.binOp BinOp.add 3 (Operand.tmp 52) (Operand.const (Value.int IntKind.i64 128)) 3, type := 3, pos := "ref.go:125", after := #[{ on := 14, ground := Ground.data }], guard := none }) (v := ?_) rfl (by kernel_rfl) (by kernel_rfl) (by kernel_rfl) (by kernel_rfl) (fun _ _ _ h => h) (Or.inl ⟨by rfl, ?_⟩) HS0.out ?_
      rotate_left
      · (intro w5 hSw; have s1 := hSw; go_simp; try with_reducible rfl)
      simp only [Act.put, List.setIfInBounds_toArray, List.set_cons_zero, List.set_cons_succ]
      refine AnyL.one (i := 16) (o := { dst := some 54, op := Op.slice 23 (Operand.tmp 48) (some (Operand.tmp 50)) (some (Operand.tmp 53)) none, type := 23, pos := "ref.go:125", after := #[{ on := 10, ground := Ground.data }, { on := 12, ground := Ground.data }, { on := 15, ground := Ground.data }], guard := none }) (by kernel_rfl) rfl (by rfl) (fun K hK => ?_)
      have H1 := Lib.hid hK
      clear hK
      go_simp
      replace hK := H1.out
      refine hK _ _ (fun _ => HS0.out) ?_
      (try clear H1); (try clear hK); (try clear K)
      try simp only [Act.put, List.setIfInBounds_toArray, List.set_cons_zero, List.set_cons_succ]
      refine AnyL.one (i := 17) (o := { dst := some 55, op := Op.call { callee := Callee.builtin Builtin.append, args := #[Operand.tmp 47, Operand.tmp 54], argTypes := #[23, 23] }, type := 23, pos := "ref.go:125", after := #[{ on := 9, ground := Ground.data }, { on := 16, ground := Ground.data }], guard := none }) (by kernel_rfl) rfl (by rfl) (fun K hK => ?_)
      refine oper_append2 (.tmp 47) (.tmp 54) 23 5 (.int .u8 0) 1 1 rfl Try.underlying23 Try.info5 rfl (by decide) n0 (.slice none 0 0) 0 [] rfl (World.ownsRow_nil _ _ _ _) ⟨gi, oi + 128 * j, none⟩ 128 (c - 128 * j) (ns .u8 part) rfl HPL2.out HSRC.out (ns_one _ _) (by omega) (by omega) HBZ.out ?_
      intro v4 w4 ho4 hor4
      obtain ⟨A4, c4, rfl⟩ := own_slice ho4
      rw [Nat.zero_add] at ho4 hor4 ⊢
      have hg4 : wr.drew.grownBy w4 none := by
        rcases hor4 with ⟨x, _⟩ | ⟨x, _⟩
        · exact x
        · exact x
      have hb4' := below_of_grown hg4
      have HS4 := Lib.hid (show w4.cell? ⟨p, 1, none⟩ = some (.slice V m cap) from (Chg.of_below (F := fun _ => False) hb4').cell HS0.out (fun h => h))
      have HB4 := Lib.hid hb4'
      have HO4 := Lib.hid ho4
      have HR4 := Lib.hid hor4
      have HS5 := Lib.hid (show (w4.alloc (.cells #[.int .i64 (8 * (pg : Int) + (j : Int)), .slice A4 128 c4] 271)).cell? ⟨p, 1, none⟩ = some (.slice V m cap) from ((Chg.of_below (F := fun _ => False) hb4').alloc _).cell HS0.out (fun h => h))
      clear hb4' ho4 hor4 hg4
      refine hK _ _ (fun _ => HS4.out) ?_
      (try clear H1); (try clear hK); (try clear K)
      try simp only [Act.put, List.setIfInBounds_toArray, List.set_cons_zero, List.set_cons_succ]
      refine AnyL.one (i := 18) (o := { dst := some 56, op := Op.build 271 #[(0, Operand.tmp 46), (1, Operand.tmp 55)], type := 271, pos := "ref.go:125", after := #[{ on := 8, ground := Ground.data }, { on := 17, ground := Ground.data }], guard := none }) (by kernel_rfl) rfl (by rfl) (fun K hK => ?_)
      have H1 := Lib.hid hK
      clear hK
      go_simp
      replace hK := H1.out
      refine hK _ _ (fun _ => HS4.out) ?_
      (try clear H1); (try clear hK); (try clear K)
      try simp only [Act.put, List.setIfInBounds_toArray, List.set_cons_zero, List.set_cons_succ]
      refine AnyL.one (i := 19) (o := { dst := some 57, op := Op.buildSlice 191 1 #[(0, Operand.tmp 56)], type := 191, pos := "ref.go:125", after := #[{ on := 18, ground := Ground.data }], guard := none }) (by kernel_rfl) rfl (by rfl) (fun K hK => ?_)
      have H1 := Lib.hid hK
      clear hK
      go_simp
      replace hK := H1.out
      refine hK _ _ (fun _ => HS5.out) ?_
      (try clear H1); (try clear hK); (try clear K)
      try simp only [Act.put, List.setIfInBounds_toArray, List.set_cons_zero, List.set_cons_succ]
      refine AnyL.one (i := 20) (o := { dst := some 58, op := Op.call { callee := Callee.builtin Builtin.append, args := #[Operand.tmp 42, Operand.tmp 57], argTypes := #[191, 191] }, type := 191, pos := "ref.go:125", after := #[{ on := 4, ground := Ground.data }, { on := 19, ground := Ground.data }, { on := 17, ground := Ground.chain }], guard := none }) (by kernel_rfl) rfl (by rfl) (fun K hK => ?_)
      have hbA : Below wr.heap.size wr (w4.alloc (.cells #[.int .i64 (8 * (pg : Int) + (j : Int)), .slice A4 128 c4] 271)) := below_alloc0 (below_next0 (below_drew0 (Below.refl wr.heap.size wr)) HB4.out) _
      have hown5 := own_below HIN.out.cache hbA
      rw [HQC.out, HM7.out] at hown5
      have HOWN := Lib.hid hown5
      have HATB := Lib.hid (show At (w4.alloc (.cells #[.int .i64 (8 * (pg : Int) + (j : Int)), .slice A4 128 c4] 271)) (some ⟨w4.heap.size, 0, none⟩) [.int .i64 (8 * (pg : Int) + (j : Int)), .slice A4 128 c4] from At.whole (heap_alloc_new w4 _))
      have HBA := Lib.hid (show n0 ≤ (w4.alloc (.cells #[.int .i64 (8 * (pg : Int) + (j : Int)), .slice A4 128 c4] 271)).heap.size from Nat.le_trans HBZ.out (Nat.le_trans HB4.out.size (by simp)))
      have HIA := Lib.hid (HIN.out.below hbA)
      clear hbA hown5
      refine oper_append2 (.tmp 42) (.tmp 57) 191 271 (.agg #[.int .i64 0, .slice none 0 0]) 2 32 rfl Try.under191 Try.info271 (by rfl) (by decide) n0 (.slice V m cap) m _ rfl HOWN.out ⟨w4.heap.size, 0, none⟩ 1 1 [.int .i64 (8 * (pg : Int) + (j : Int)), .slice A4 128 c4] rfl (by rfl) HATB.out (by simp [Value.oneCell']) (by omega) (by omega) HBA.out ?_
      intro v5 w5 ho5 hor5
      obtain ⟨A5, c5, rfl⟩ := own_slice2 ho5
      have hrec5 := HIA.out.rcd.keep (push_chg hor5) (fun h => HIA.out.sep.2.1 (by rw [HQC.out]; exact h))
      have q1 : w5.cell? ⟨p, 1, none⟩ = some (.slice V m cap) := by rw [← HQC.out]; exact hrec5.cell 1 (by omega)
      have q2 := hrec5.frozen 1
      have HS6 := Lib.hid q1
      have HO5 := Lib.hid ho5
      have HR5 := Lib.hid hor5
      clear hrec5 ho5 hor5
      refine hK _ _ (fun _ => HS6.out) ?_
      (try clear H1); (try clear hK); (try clear K)
      try simp only [Act.put, List.setIfInBounds_toArray, List.set_cons_zero, List.set_cons_succ]
      refine AnyL.one (i := 21) (o := { dst := some 59, op := Op.nilCheck (Operand.tmp 38), type := 0, pos := "ref.go:125", after := #[{ on := 0, ground := Ground.data }, { on := 0, ground := Ground.phase }, { on := 1, ground := Ground.phase }, { on := 2, ground := Ground.phase }, { on := 3, ground := Ground.phase }, { on := 4, ground := Ground.phase }, { on := 5, ground := Ground.phase }, { on := 6, ground := Ground.phase }, { on := 7, ground := Ground.phase }, { on := 8, ground := Ground.phase }, { on := 9, ground := Ground.phase }, { on := 10, ground := Ground.phase }, { on := 11, ground := Ground.phase }, { on := 12, ground := Ground.phase }, { on := 13, ground := Ground.phase }, { on := 14, ground := Ground.phase }, { on := 15, ground := Ground.phase }, { on := 16, ground := Ground.phase }, { on := 17, ground := Ground.phase }, { on := 18, ground := Ground.phase }, { on := 19, ground := Ground.phase }, { on := 20, ground := Ground.phase }], guard := none }) (by kernel_rfl) rfl (by rfl) (fun K hK => ?_)
      have H1 := Lib.hid hK
      clear hK
      go_simp
      replace hK := H1.out
      refine hK _ _ (fun _ => HS6.out) ?_
      (try clear H1); (try clear hK); (try clear K)
      try simp only [Act.put, List.setIfInBounds_toArray, List.set_cons_zero, List.set_cons_succ]
      refine AnyL.one (i := 22) (o := { dst := some 60, op := Op.fieldAddr 193 (Operand.tmp 59) 1, type := 0, pos := "ref.go:125", after := #[{ on := 21, ground := Ground.data }, { on := 0, ground := Ground.phase }, { on := 1, ground := Ground.phase }, { on := 2, ground := Ground.phase }, { on := 3, ground := Ground.phase }, { on := 4, ground := Ground.phase }, { on := 5, ground := Ground.phase }, { on := 6, ground := Ground.phase }, { on := 7, ground := Ground.phase }, { on := 8, ground := Ground.phase }, { on := 9, ground := Ground.phase }, { on := 10, ground := Ground.phase }, { on := 11, ground := Ground.phase }, { on := 12, ground := Ground.phase }, { on := 13, ground := Ground.phase }, { on := 14, ground := Ground.phase }, { on := 15, ground := Ground.phase }, { on := 16, ground := Ground.phase }, { on := 17, ground := Ground.phase }, { on := 18, ground := Ground.phase }, { on := 19, ground := Ground.phase }, { on := 20, ground := Ground.phase }], guard := none }) (by kernel_rfl) rfl (by rfl) (fun K hK => ?_)
      have H1 := Lib.hid hK
      clear hK
      go_simp
      replace hK := H1.out
      refine hK _ _ (fun _ => HS6.out) ?_
      (try clear H1); (try clear hK); (try clear K)
      try simp only [Act.put, List.setIfInBounds_toArray, List.set_cons_zero, List.set_cons_succ]
      refine AnyL.one (i := 23) (o := { dst := none, op := Op.store 191 (Operand.tmp 60) (Operand.tmp 58), type := 0, pos := "ref.go:125", after := #[{ on := 22, ground := Ground.data }, { on := 20, ground := Ground.data }, { on := 20, ground := Ground.chain }, { on := 0, ground := Ground.phase }, { on := 1, ground := Ground.phase }, { on := 2, ground := Ground.phase }, { on := 3, ground := Ground.phase }, { on := 4, ground := Ground.phase }, { on := 5, ground := Ground.phase }, { on := 6, ground := Ground.phase }, { on := 7, ground := Ground.phase }, { on := 8, ground := Ground.phase }, { on := 9, ground := Ground.phase }, { on := 10, ground := Ground.phase }, { on := 11, ground := Ground.phase }, { on := 12, ground := Ground.phase }, { on := 13, ground := Ground.phase }, { on := 14, ground := Ground.phase }, { on := 15, ground := Ground.phase }, { on := 16, ground := Ground.phase }, { on := 17, ground := Ground.phase }, { on := 18, ground := Ground.phase }, { on := 19, ground := Ground.phase }, { on := 20, ground := Ground.phase }], guard := none }) (by kernel_rfl) rfl (by rfl) (fun K hK => ?_)
      have H1 := Lib.hid hK
      clear hK
      go_simp
      replace hK := H1.out
      refine hK _ _ (fun h => by simp at h) ?_
      (try clear H1); (try clear hK); (try clear K)
      try simp only [Act.put, List.setIfInBounds_toArray, List.set_cons_zero, List.set_cons_succ]
      refine AnyL.done (by kernel_rfl) ?_
      refine NoPanic.normal ?_
      go_wp2_with fail
      go_roundw
      case measure => simp [intOf]; omega
      case rel =>
        refine ⟨j + 1, by omega, by go_num, ?_⟩
        exact rput_round (wA := w4.alloc (.cells #[.int .i64 (8 * (pg : Int) + (j : Int)), .slice A4 128 c4] 271)) HSS.out HLT.out HGR.out HCH.out hn0 (below_alloc0 (below_next0 (below_drew0 (Below.refl wr.heap.size wr)) HB4.out) _) HIN.out
          (by unfold Buf; rw [HPL.out]; exact own_below HO4.out (below_alloc0 (Below.refl _ _) _))
          (fun g hg => by
            have hg' : (Value.slice A4 128 c4).ownBlock = some g := hg
            rcases HR4.out with ⟨_, x⟩ | ⟨_, g2, x, y⟩
            · rw [x] at hg'; cases hg'
            · rw [x] at hg'; cases hg'; exact y)
          (by rw [HM7.out, show ((8 * pg + j : Nat) : Int) = 8 * (pg : Int) + (j : Int) by push_cast; rfl]; exact HO5.out) (by rw [HQC.out]; exact HR5.out) HPART.out HPO.out
    · obtain rfl : j = 1 := by omega
      have h128 : ¬ 128 * ((1 : Nat) : Int) < 128 := by omega
      go_wp2_with fail
      go_ret
      exact ⟨rfl, S', HRD.out, HGR.out, HCH.out⟩
end Go.Proofs.Ytfbjjblgcgjndaa

/- Contract of the reference disk's Write: whatever it is handed. -/
namespace Go.Proofs.Ytfbjjblgcgjndaa
open Go.RowKit

theorem rwrite_stay {n0 : Nat} {w w' : World} {p x : Nat} {D : Dsk} {S : Nat → Prop} (h : RD n0 w' p D S) (hc : Chg S w w') : RWrote n0 w p S x D (.returned (.int .u16 (x : Nat))) w' := ⟨rfl, S, h, Grows.refl _ _, hc⟩
set_option maxRecDepth 100000 in
set_option maxHeartbeats 2000000 in
/-- it is refused -/
theorem rwrite_no {n0 : Nat} {w : World} {p : Nat} {D : Dsk} {S : Nat → Prop} (h : RD n0 w p D S) (pg : Int) (A : Option Addr) (c n : Nat) (l : List Nat) (hl : n = l.length) (hsm : n ≤ 140737488355328) (hno : (D.write pg l).1 ≠ 0) (hn : D.n 2 ≤ 4611686018427387904) :
    Calls Try.prog 152 #[.pointer (some ⟨p, 0, none⟩), .int .i64 pg, .slice A n c] w (RWrote n0 w p S (D.write pg l).1 (D.write pg l).2) := by
  have HBG := Lib.hid (rbegin2 h hn)
  have hpb : D.pages ≤ 16384 := by
    obtain ⟨k, a, _, b⟩ := h.1.pages
    have : D.pages = k := by unfold Dsk.pages; omega
    omega
  clear hn h
  by_cases hb : (D.begin 2).1 = 0
  · have hrd : D.write pg l = if pg < 0 ∨ (D.pages : Int) ≤ pg then (2, D.go 2) else if l.length ≠ 1024 ∧ l.length ≠ 128 then (1, D.go 2) else (0, (D.go 2).put (8 * pg.toNat) l (l.length / 128)) := by unfold Dsk.write; rw [if_neg (by simpa using hb)]
    have hgo : D.begin 2 = (0, D.go 2) := by rw [← Dsk.begin_go hb, ← hb]
    rw [hgo] at HBG
    have hpe : (D.go 2).pages = D.pages := rfl
    by_cases hr : pg < 0 ∨ (D.pages : Int) ≤ pg
    · rw [if_pos hr] at hrd
      rw [hrd]
      clear hrd hgo hb hno
      generalize D.pages = N at *
      have HPE := Lib.hid hpe
      clear hpe
      by_cases hneg : pg < 0
      · clear hr
        go_enter Try.func152, Try.ntmps152
        go_wp2_with fail
        refine HBG.out.mono ?_
        rintro e w1 ⟨rfl, hd, hch⟩
        have HD := Lib.hid hd
        have HCH := Lib.hid hch
        clear hd hch
        go_wp2_with fail
        go_ret
        exact rwrite_stay HD.out HCH.out
      · have hbig : (N : Int) ≤ pg := by omega
        have hd1 : decide ((N : Int) ≤ pg) = true := by simpa using hbig
        have HBIG := Lib.hid hbig
        clear hr hbig
        go_enter Try.func152, Try.ntmps152
        go_wp2_with fail
        refine HBG.out.mono ?_
        rintro e w1 ⟨rfl, hd, hch⟩
        have HP := Lib.hid (rpages_any hd)
        rw [HPE.out] at HP
        have HD := Lib.hid hd
        have HCH := Lib.hid hch
        clear hd hch
        go_wp2_with fail
        refine HP.out.mono ?_
        rintro e w2 ⟨rfl, rfl⟩
        go_wp2_with fail
        go_ret
        exact rwrite_stay HD.out HCH.out
    · rw [if_neg hr] at hrd
      have hlen : l.length ≠ 1024 ∧ l.length ≠ 128 := Classical.byContradiction fun hq => by rw [if_neg hq] at hrd; rw [hrd] at hno; exact hno rfl
      rw [if_pos hlen] at hrd
      rw [hrd]
      have hneg : ¬ pg < 0 := by omega
      have hnb : ¬ (D.pages : Int) ≤ pg := by omega
      have l1 : ((n : Int) != 1024) = true := by simp; omega
      have l2 : ((n : Int) != 128) = true := by simp; omega
      have l3 : ¬ (n : Int) = 1024 := by omega
      have l4 : ¬ (n : Int) = 128 := by omega
      have l5 : (n != 1024) = true := by simp; omega
      have l6 : (n != 128) = true := by simp; omega
      have hd1 : decide ((D.pages : Int) ≤ pg) = false := by simp; omega
      clear hrd hgo hb hno hr hlen hl
      generalize D.pages = N at *
      have HPE := Lib.hid hpe
      clear hpe
      go_enter Try.func152, Try.ntmps152
      go_wp2_with fail
      refine HBG.out.mono ?_
      rintro e w1 ⟨rfl, hd, hch⟩
      have HP := Lib.hid (rpages_any hd)
      rw [HPE.out] at HP
      have HD := Lib.hid hd
      have HCH := Lib.hid hch
      clear hd hch
      go_wp2_with fail
      refine HP.out.mono ?_
      rintro e w2 ⟨rfl, rfl⟩
      go_wp2_with fail
      go_ret
      exact rwrite_stay HD.out HCH.out
  · have hrd : D.write pg l = D.begin 2 := by unfold Dsk.write; rw [if_pos hb]
    rw [hrd]
    clear hrd hno
    have he : (((D.begin 2).1 : Nat) != 0) = true := by simpa using hb
    have he2 : ((((D.begin 2).1 : Nat) : Int) != 0) = true := by simp; omega
    generalize (D.begin 2).1 = x at *
    generalize (D.begin 2).2 = D' at *
    clear hb
    go_enter Try.func152, Try.ntmps152
    go_wp2_with fail
    refine HBG.out.mono ?_
    rintro e w1 ⟨rfl, hd, hch⟩
    have HD := Lib.hid hd
    have HCH := Lib.hid hch
    clear hd hch
    go_wp2_with fail
    go_ret
    exact rwrite_stay HD.out HCH.out
theorem Dsk.write_yes {D : Dsk} {pg : Int} {l : List Nat} (h : (D.write pg l).1 = 0) : (D.begin 2).1 = 0 ∧ ∃ n : Nat, pg = (n : Int) ∧ n < D.pages ∧ (l.length = 1024 ∨ l.length = 128) ∧ D.write pg l = (0, (D.go 2).put (8 * n) l (l.length / 128)) := by
  by_cases hb : (D.begin 2).1 = 0
  · refine ⟨hb, ?_⟩
    have hrd : D.write pg l = if pg < 0 ∨ (D.pages : Int) ≤ pg then (2, D.go 2) else if l.length ≠ 1024 ∧ l.length ≠ 128 then (1, D.go 2) else (0, (D.go 2).put (8 * pg.toNat) l (l.length / 128)) := by unfold Dsk.write; rw [if_neg (by simpa using hb)]
    rw [hrd] at h ⊢
    split at h
    · cases h
    · rename_i h1
      split at h
      · cases h
      · rename_i h2
        refine ⟨pg.toNat, by omega, by omega, by omega, ?_⟩
        rw [if_neg h1, if_neg h2]
  · exfalso
    have hrd : D.write pg l = D.begin 2 := by unfold Dsk.write; rw [if_pos hb]
    rw [hrd] at h
    exact hb h
/-- the whole of it -/
theorem rwrite_any {n0 : Nat} {w : World} {p : Nat} {D : Dsk} {S : Nat → Prop} (h : RD n0 w p D S) (pg : Int) (A : Option Addr) (c : Nat) (l : List Nat) (hn0 : n0 ≤ w.heap.size) (hA : ∀ w', Chg S w w' → At w' A (ns .u8 l)) (hle : l.length ≤ c) (hby : Bytes l) (hsm : l.length ≤ 140737488355328) (hcl : D.cache.length ≤ 1000000000000) (hn : D.n 2 ≤ 4611686018427387904) :
    Calls Try.prog 152 #[.pointer (some ⟨p, 0, none⟩), .int .i64 pg, .slice A l.length c] w (RWrote n0 w p S (D.write pg l).1 (D.write pg l).2) := by
  by_cases hno : (D.write pg l).1 = 0
  · obtain ⟨hb, n, rfl, hnp, hlen, e⟩ := Dsk.write_yes hno
    rw [e]
    obtain ⟨gi, oi, rfl, _⟩ := hA w (Chg.refl _ _) (by intro e; have := congrArg List.length e; simp [ns] at this; subst this; simp at hlen)
    rcases hlen with hlen | hlen
    · exact rwrite_1024 h n gi oi c l.length l rfl hby hlen hnp hb hn0 hcl hn hle hA
    · exact rwrite_128 h n gi oi c l.length l rfl hby hlen hnp hb hn0 hcl hn hle hA
  · exact rwrite_no h pg A c l.length l rfl hsm hno hn
end Go.Proofs.Ytfbjjblgcgjndaa

/- The helpers own.. of the book, at lists that are nil. -/
namespace Go.Proofs.Ytfbjjblgcgjndaa
open Go.RowKit

set_option maxRecDepth 100000 in
theorem own_nil_95 (w : World) : Calls Try.prog 95 #[.slice none 0 0] w fun e w' => e = .returned (.bool true) ∧ w = w' := by
  go_enter Try.func95, Try.ntmps95
  go_wp2
  go_loop [3] (fun i => i = .int .i64 0) (fun _ => 0)
  case atStart => rfl
  case round =>
    obtain rfl := hrel
    go_wp2
    go_loop [6] (fun i => i = .int .i64 0) (fun _ => 0)
    case atStart => rfl
    case round =>
      obtain rfl := hrel
      go_wp2
      go_loop [9] (fun i => i = .int .i64 0) (fun _ => 0)
      case atStart => rfl
      case round =>
        obtain rfl := hrel
        go_wp2
        go_ret
        exact ⟨rfl, rfl⟩
set_option maxRecDepth 100000 in
theorem own_nil_96 (w : World) : Calls Try.prog 96 #[.slice none 0 0] w fun e w' => e = .returned (.bool true) ∧ w = w' := by
  go_enter Try.func96, Try.ntmps96
  go_wp2
  go_loop [3] (fun i => i = .int .i64 0) (fun _ => 0)
  case atStart => rfl
  case round =>
    obtain rfl := hrel
    go_wp2
    go_loop [6] (fun i => i = .int .i64 0) (fun _ => 0)
    case atStart => rfl
    case round =>
      obtain rfl := hrel
      go_wp2
      go_loop [9] (fun i => i = .int .i64 0) (fun _ => 0)
      case atStart => rfl
      case round =>
        obtain rfl := hrel
        go_wp2
        go_ret
        exact ⟨rfl, rfl⟩
set_option maxRecDepth 100000 in
theorem own_nil_97 (w : World) : Calls Try.prog 97 #[.slice none 0 0] w fun e w' => e = .returned (.bool true) ∧ w = w' := by
  go_enter Try.func97, Try.ntmps97
  go_wp2
  go_loop [3] (fun i => i = .int .i64 0) (fun _ => 0)
  case atStart => rfl
  case round =>
    obtain rfl := hrel
    go_wp2
    go_loop [6] (fun i => i = .int .i64 0) (fun _ => 0)
    case atStart => rfl
    case round =>
      obtain rfl := hrel
      go_wp2
      go_loop [9] (fun i => i = .int .i64 0) (fun _ => 0)
      case atStart => rfl
      case round =>
        obtain rfl := hrel
        go_wp2
        go_ret
        exact ⟨rfl, rfl⟩
set_option maxRecDepth 100000 in
theorem own_nil_98 (w : World) : Calls Try.prog 98 #[.slice none 0 0] w fun e w' => e = .returned (.bool true) ∧ w = w' := by
  go_enter Try.func98, Try.ntmps98
  go_wp2
  go_loop [3] (fun i => i = .int .i64 0) (fun _ => 0)
  case atStart => rfl
  case round =>
    obtain rfl := hrel
    go_wp2
    go_loop [6] (fun i => i = .int .i64 0) (fun _ => 0)
    case atStart => rfl
    case round =>
      obtain rfl := hrel
      go_wp2
      go_loop [9] (fun i => i = .int .i64 0) (fun _ => 0)
      case atStart => rfl
      case round =>
        obtain rfl := hrel
        go_wp2
        go_ret
        exact ⟨rfl, rfl⟩
set_option maxRecDepth 100000 in
theorem own_nil_99 (w : World) : Calls Try.prog 99 #[.slice none 0 0] w fun e w' => e = .returned (.bool true) ∧ w = w' := by
  go_enter Try.func99, Try.ntmps99
  go_wp2
  go_loop [3] (fun i => i = .int .i64 0) (fun _ => 0)
  case atStart => rfl
  case round =>
    obtain rfl := hrel
    go_wp2
    go_loop [6] (fun i => i = .int .i64 0) (fun _ => 0)
    case atStart => rfl
    case round =>
      obtain rfl := hrel
      go_wp2
      go_loop [9] (fun i => i = .int .i64 0) (fun _ => 0)
      case atStart => rfl
      case round =>
        obtain rfl := hrel
        go_wp2
        go_ret
        exact ⟨rfl, rfl⟩
set_option maxRecDepth 100000 in
theorem own_nil_100 (w : World) : Calls Try.prog 100 #[.slice none 0 0] w fun e w' => e = .returned (.bool true) ∧ w = w' := by
  go_enter Try.func100, Try.ntmps100
  go_wp2
  go_loop [3] (fun i => i = .int .i64 0) (fun _ => 0)
  case atStart => rfl
  case round =>
    obtain rfl := hrel
    go_wp2
    go_loop [6] (fun i => i = .int .i64 0) (fun _ => 0)
    case atStart => rfl
    case round =>
      obtain rfl := hrel
      go_wp2
      go_loop [9] (fun i => i = .int .i64 0) (fun _ => 0)
      case atStart => rfl
      case round =>
        obtain rfl := hrel
        go_wp2
        go_ret
        exact ⟨rfl, rfl⟩
set_option maxRecDepth 100000 in
theorem own_nil_101 (w : World) : Calls Try.prog 101 #[.slice none 0 0] w fun e w' => e = .returned (.bool true) ∧ w = w' := by
  go_enter Try.func101, Try.ntmps101
  go_wp2
  go_loop [3] (fun i => i = .int .i64 0) (fun _ => 0)
  case atStart => rfl
  case round =>
    obtain rfl := hrel
    go_wp2
    go_loop [6] (fun i => i = .int .i64 0) (fun _ => 0)
    case atStart => rfl
    case round =>
      obtain rfl := hrel
      go_wp2
      go_loop [9] (fun i => i = .int .i64 0) (fun _ => 0)
      case atStart => rfl
      case round =>
        obtain rfl := hrel
        go_wp2
        go_ret
        exact ⟨rfl, rfl⟩
set_option maxRecDepth 100000 in
theorem own_nil_102 (w : World) : Calls Try.prog 102 #[.slice none 0 0] w fun e w' => e = .returned (.bool true) ∧ w = w' := by
  go_enter Try.func102, Try.ntmps102
  go_wp2
  go_loop [3] (fun i => i = .int .i64 0) (fun _ => 0)
  case atStart => rfl
  case round =>
    obtain rfl := hrel
    go_wp2
    go_loop [6] (fun i => i = .int .i64 0) (fun _ => 0)
    case atStart => rfl
    case round =>
      obtain rfl := hrel
      go_wp2
      go_loop [9] (fun i => i = .int .i64 0) (fun _ => 0)
      case atStart => rfl
      case round =>
        obtain rfl := hrel
        go_wp2
        go_ret
        exact ⟨rfl, rfl⟩
set_option maxRecDepth 100000 in
theorem own_nil_103 (w : World) : Calls Try.prog 103 #[.slice none 0 0] w fun e w' => e = .returned (.bool true) ∧ w = w' := by
  go_enter Try.func103, Try.ntmps103
  go_wp2
  go_loop [3] (fun i => i = .int .i64 0) (fun _ => 0)
  case atStart => rfl
  case round =>
    obtain rfl := hrel
    go_wp2
    go_loop [6] (fun i => i = .int .i64 0) (fun _ => 0)
    case atStart => rfl
    case round =>
      obtain rfl := hrel
      go_wp2
      go_loop [9] (fun i => i = .int .i64 0) (fun _ => 0)
      case atStart => rfl
      case round =>
        obtain rfl := hrel
        go_wp2
        go_ret
        exact ⟨rfl, rfl⟩
set_option maxRecDepth 100000 in
theorem own_nil_104 (w : World) : Calls Try.prog 104 #[.slice none 0 0] w fun e w' => e = .returned (.bool true) ∧ w = w' := by
  go_enter Try.func104, Try.ntmps104
  go_wp2
  go_loop [3] (fun i => i = .int .i64 0) (fun _ => 0)
  case atStart => rfl
  case round =>
    obtain rfl := hrel
    go_wp2
    go_loop [6] (fun i => i = .int .i64 0) (fun _ => 0)
    case atStart => rfl
    case round =>
      obtain rfl := hrel
      go_wp2
      go_loop [9] (fun i => i = .int .i64 0) (fun _ => 0)
      case atStart => rfl
      case round =>
        obtain rfl := hrel
        go_wp2
        go_ret
        exact ⟨rfl, rfl⟩
set_option maxRecDepth 100000 in
theorem own_nil_105 (w : World) : Calls Try.prog 105 #[.slice none 0 0] w fun e w' => e = .returned (.bool true) ∧ w = w' := by
  go_enter Try.func105, Try.ntmps105
  go_wp2
  go_loop [3] (fun i => i = .int .i64 0) (fun _ => 0)
  case atStart => rfl
  case round =>
    obtain rfl := hrel
    go_wp2
    go_loop [6] (fun i => i = .int .i64 0) (fun _ => 0)
    case atStart => rfl
    case round =>
      obtain rfl := hrel
      go_wp2
      go_loop [9] (fun i => i = .int .i64 0) (fun _ => 0)
      case atStart => rfl
      case round =>
        obtain rfl := hrel
        go_wp2
        go_ret
        exact ⟨rfl, rfl⟩
set_option maxRecDepth 100000 in
theorem own_nil_106 (w : World) : Calls Try.prog 106 #[.slice none 0 0] w fun e w' => e = .returned (.bool true) ∧ w = w' := by
  go_enter Try.func106, Try.ntmps106
  go_wp2
  go_loop [3] (fun i => i = .int .i64 0) (fun _ => 0)
  case atStart => rfl
  case round =>
    obtain rfl := hrel
    go_wp2
    go_loop [6] (fun i => i = .int .i64 0) (fun _ => 0)
    case atStart => rfl
    case round =>
      obtain rfl := hrel
      go_wp2
      go_loop [9] (fun i => i = .int .i64 0) (fun _ => 0)
      case atStart => rfl
      case round =>
        obtain rfl := hrel
        go_wp2
        go_ret
        exact ⟨rfl, rfl⟩
set_option maxRecDepth 100000 in
theorem own_nil_107 (w : World) : Calls Try.prog 107 #[.slice none 0 0] w fun e w' => e = .returned (.bool true) ∧ w = w' := by
  go_enter Try.func107, Try.ntmps107
  go_wp2
  go_loop [3] (fun i => i = .int .i64 0) (fun _ => 0)
  case atStart => rfl
  case round =>
    obtain rfl := hrel
    go_wp2
    go_loop [6] (fun i => i = .int .i64 0) (fun _ => 0)
    case atStart => rfl
    case round =>
      obtain rfl := hrel
      go_wp2
      go_loop [9] (fun i => i = .int .i64 0) (fun _ => 0)
      case atStart => rfl
      case round =>
        obtain rfl := hrel
        go_wp2
        go_ret
        exact ⟨rfl, rfl⟩
set_option maxRecDepth 100000 in
theorem own_nil_108 (w : World) : Calls Try.prog 108 #[.slice none 0 0] w fun e w' => e = .returned (.bool true) ∧ w = w' := by
  go_enter Try.func108, Try.ntmps108
  go_wp2
  go_loop [3] (fun i => i = .int .i64 0) (fun _ => 0)
  case atStart => rfl
  case round =>
    obtain rfl := hrel
    go_wp2
    go_loop [6] (fun i => i = .int .i64 0) (fun _ => 0)
    case atStart => rfl
    case round =>
      obtain rfl := hrel
      go_wp2
      go_loop [9] (fun i => i = .int .i64 0) (fun _ => 0)
      case atStart => rfl
      case round =>
        obtain rfl := hrel
        go_wp2
        go_ret
        exact ⟨rfl, rfl⟩
set_option maxRecDepth 100000 in
theorem own_nil_109 (w : World) : Calls Try.prog 109 #[.slice none 0 0] w fun e w' => e = .returned (.bool true) ∧ w = w' := by
  go_enter Try.func109, Try.ntmps109
  go_wp2
  go_loop [3] (fun i => i = .int .i64 0) (fun _ => 0)
  case atStart => rfl
  case round =>
    obtain rfl := hrel
    go_wp2
    go_loop [6] (fun i => i = .int .i64 0) (fun _ => 0)
    case atStart => rfl
    case round =>
      obtain rfl := hrel
      go_wp2
      go_loop [9] (fun i => i = .int .i64 0) (fun _ => 0)
      case atStart => rfl
      case round =>
        obtain rfl := hrel
        go_wp2
        go_ret
        exact ⟨rfl, rfl⟩
set_option maxRecDepth 100000 in
theorem own_nil_110 (w : World) : Calls Try.prog 110 #[.slice none 0 0] w fun e w' => e = .returned (.bool true) ∧ w = w' := by
  go_enter Try.func110, Try.ntmps110
  go_wp2
  go_loop [3] (fun i => i = .int .i64 0) (fun _ => 0)
  case atStart => rfl
  case round =>
    obtain rfl := hrel
    go_wp2
    go_loop [6] (fun i => i = .int .i64 0) (fun _ => 0)
    case atStart => rfl
    case round =>
      obtain rfl := hrel
      go_wp2
      go_loop [9] (fun i => i = .int .i64 0) (fun _ => 0)
      case atStart => rfl
      case round =>
        obtain rfl := hrel
        go_wp2
        go_ret
        exact ⟨rfl, rfl⟩
set_option maxRecDepth 100000 in
theorem own_nil_111 (w : World) : Calls Try.prog 111 #[.slice none 0 0] w fun e w' => e = .returned (.bool true) ∧ w = w' := by
  go_enter Try.func111, Try.ntmps111
  go_wp2
  go_loop [3] (fun i => i = .int .i64 0) (fun _ => 0)
  case atStart => rfl
  case round =>
    obtain rfl := hrel
    go_wp2
    go_loop [6] (fun i => i = .int .i64 0) (fun _ => 0)
    case atStart => rfl
    case round =>
      obtain rfl := hrel
      go_wp2
      go_loop [9] (fun i => i = .int .i64 0) (fun _ => 0)
      case atStart => rfl
      case round =>
        obtain rfl := hrel
        go_wp2
        go_ret
        exact ⟨rfl, rfl⟩
set_option maxRecDepth 100000 in
theorem own_nil_113 (w : World) : Calls Try.prog 113 #[.slice none 0 0] w fun e w' => e = .returned (.bool true) ∧ w = w' := by
  go_enter Try.func113, Try.ntmps113
  go_wp2
  go_loop [3] (fun i => i = .int .i64 0) (fun _ => 0)
  case atStart => rfl
  case round =>
    obtain rfl := hrel
    go_wp2
    go_loop [6] (fun i => i = .int .i64 0) (fun _ => 0)
    case atStart => rfl
    case round =>
      obtain rfl := hrel
      go_wp2
      go_loop [9] (fun i => i = .int .i64 0) (fun _ => 0)
      case atStart => rfl
      case round =>
        obtain rfl := hrel
        go_wp2
        go_ret
        exact ⟨rfl, rfl⟩
set_option maxRecDepth 100000 in
theorem own_nil_114 (w : World) : Calls Try.prog 114 #[.slice none 0 0] w fun e w' => e = .returned (.bool true) ∧ w = w' := by
  go_enter Try.func114, Try.ntmps114
  go_wp2
  go_loop [3] (fun i => i = .int .i64 0) (fun _ => 0)
  case atStart => rfl
  case round =>
    obtain rfl := hrel
    go_wp2
    go_loop [6] (fun i => i = .int .i64 0) (fun _ => 0)
    case atStart => rfl
    case round =>
      obtain rfl := hrel
      go_wp2
      go_loop [9] (fun i => i = .int .i64 0) (fun _ => 0)
      case atStart => rfl
      case round =>
        obtain rfl := hrel
        go_wp2
        go_ret
        exact ⟨rfl, rfl⟩
set_option maxRecDepth 100000 in
theorem own_nil_115 (w : World) : Calls Try.prog 115 #[.slice none 0 0] w fun e w' => e = .returned (.bool true) ∧ w = w' := by
  go_enter Try.func115, Try.ntmps115
  go_wp2
  go_loop [3] (fun i => i = .int .i64 0) (fun _ => 0)
  case atStart => rfl
  case round =>
    obtain rfl := hrel
    go_wp2
    go_loop [6] (fun i => i = .int .i64 0) (fun _ => 0)
    case atStart => rfl
    case round =>
      obtain rfl := hrel
      go_wp2
      go_loop [9] (fun i => i = .int .i64 0) (fun _ => 0)
      case atStart => rfl
      case round =>
        obtain rfl := hrel
        go_wp2
        go_ret
        exact ⟨rfl, rfl⟩
set_option maxRecDepth 100000 in
theorem own_nil_116 (w : World) : Calls Try.prog 116 #[.slice none 0 0] w fun e w' => e = .returned (.bool true) ∧ w = w' := by
  go_enter Try.func116, Try.ntmps116
  go_wp2
  go_loop [3] (fun i => i = .int .i64 0) (fun _ => 0)
  case atStart => rfl
  case round =>
    obtain rfl := hrel
    go_wp2
    go_loop [6] (fun i => i = .int .i64 0) (fun _ => 0)
    case atStart => rfl
    case round =>
      obtain rfl := hrel
      go_wp2
      go_loop [9] (fun i => i = .int .i64 0) (fun _ => 0)
      case atStart => rfl
      case round =>
        obtain rfl := hrel
        go_wp2
        go_ret
        exact ⟨rfl, rfl⟩
set_option maxRecDepth 100000 in
theorem own_nil_117 (w : World) : Calls Try.prog 117 #[.slice none 0 0] w fun e w' => e = .returned (.bool true) ∧ w = w' := by
  go_enter Try.func117, Try.ntmps117
  go_wp2
  go_loop [3] (fun i => i = .int .i64 0) (fun _ => 0)
  case atStart => rfl
  case round =>
    obtain rfl := hrel
    go_wp2
    go_loop [6] (fun i => i = .int .i64 0) (fun _ => 0)
    case atStart => rfl
    case round =>
      obtain rfl := hrel
      go_wp2
      go_loop [9] (fun i => i = .int .i64 0) (fun _ => 0)
      case atStart => rfl
      case round =>
        obtain rfl := hrel
        go_wp2
        go_ret
        exact ⟨rfl, rfl⟩
end Go.Proofs.Ytfbjjblgcgjndaa

/- ownBools at a list that is nil. -/
namespace Go.Proofs.Ytfbjjblgcgjndaa
open Go.RowKit

theorem Try.info73 : (Try.prog.info? 73).map (fun i => (i.zero, i.size, i.bytes)) = some (some (.slice none 0 0), 1, 24) := by kernel_rfl
set_option maxRecDepth 100000 in
theorem own_nil_112 (w : World) : Calls Try.prog 112 #[.slice none 0 0] w fun e w' => e = .returned (.bool true) ∧ Below w.heap.size w w' := by
  go_enter Try.func112, Try.ntmps112
  go_wp2_with (with_reducible refine wp_make rfl _ _ 60 73 (.slice none 0 0) 1 24 rfl Try.underlying60 Try.info73 w.heap.size .i64 .i64 _ _ 0 rfl rfl rfl rfl (by omega) (by omega) (Nat.le_refl _) ?_; intro w5 ho5 hg5)
  have hb5 := below_of_grown hg5
  go_loopw [4] (fun i wr => i = .int .i64 0 ∧ Below w.heap.size w wr) (fun _ _ => 0)
  case atStart => exact ⟨rfl, hb5⟩
  case round =>
    clear hb5
    obtain ⟨rfl, hb5⟩ := hrel
    go_wp2
    go_ret
    exact ⟨rfl, hb5⟩
end Go.Proofs.Ytfbjjblgcgjndaa

/- The book: lists that came out, each with memory of its own; it passes. -/
namespace Go.Proofs.Ytfbjjblgcgjndaa
open Go.RowKit

def nilV : Value := .slice none 0 0
/-- the book's block: a slice a field -/
def BookAt (w : World) (b : Nat) (F : Nat → Value) : Prop := w.heap[b]? = some (.cells (lst F 23).toArray 67 (0, 0))
theorem BookAt.cell {w : World} {b : Nat} {F : Nat → Value} (h : BookAt w b F) (i : Nat) (hi : i < 23) : w.cell? ⟨b, i, none⟩ = some (F i) := by
  rw [cell_of_row w b i _ 67 (0, 0) h]
  have := lst_get F 23 i hi
  simpa using this
theorem BookAt.frozen {w : World} {b : Nat} {F : Nat → Value} (h : BookAt w b F) (i : Nat) : w.frozen? ⟨b, i, none⟩ = false := frozen_of_row w b i _ 67 h
theorem BookAt.lt {w : World} {b : Nat} {F : Nat → Value} (h : BookAt w b F) : b < w.heap.size := (Array.getElem?_eq_some_iff.1 h).1
theorem lst_set (F : Nat → Value) (k i : Nat) (x : Value) : (lst F k).set i x = lst (turn F i x) k := by
  apply List.ext_getElem?
  intro q
  by_cases hq : q < k
  · rw [lst_get _ _ _ hq]
    by_cases e : q = i
    · subst e; rw [turn_same, List.getElem?_set_self (by rw [lst_length]; exact hq)]
    · rw [turn_other _ _ _ _ e, List.getElem?_set_ne (by omega), lst_get _ _ _ hq]
  · rw [List.getElem?_eq_none (by rw [List.length_set, lst_length]; omega), List.getElem?_eq_none (by rw [lst_length]; omega)]
theorem BookAt.set {w : World} {b : Nat} {F : Nat → Value} (h : BookAt w b F) (i : Nat) (x : Value) : BookAt (w.setCell ⟨b, i, none⟩ x) b (turn F i x) := by
  have := heap_setCell_same w b i _ 67 x h
  unfold BookAt
  rw [this, ← lst_set]
  simp
theorem BookAt.keep {w w' : World} {b : Nat} {F : Nat → Value} {G : Nat → Prop} (h : BookAt w b F) (hc : Chg G w w') (hG : ¬ G b) : BookAt w' b F := by
  unfold BookAt; rw [hc.block b h.lt hG]; exact h

/-- what a shelf's rows are made of, and the rows' own type -/
def ety : Nat → TypeId
  | 0 => 5
  | 2 => 3
  | 9 => 23
  | _ => 0
def sty : Nat → TypeId
  | 0 => 23
  | 2 => 86
  | 9 => 30
  | _ => 0
inductive Item where
  | book
  | list (j : Nat)
  | row (j i : Nat)
deriving DecidableEq
def Item.has (b : Nat) (F : Nat → Value) (live : Nat → Prop) (k : Nat → Nat) (u : Nat → Nat → Value) : Item → Nat → Prop
  | .book, g => g = b
  | .list j, g => live j ∧ blk (F j) g
  | .row j i, g => live j ∧ i < k j ∧ blk (u j i) g
structure Books (n0 : Nat) (w : World) (b : Nat) (F : Nat → Value) (live : Nat → Prop) (k : Nat → Nat) (u : Nat → Nat → Value) (n : Nat → Nat → Nat) (c : Nat → Nat → List Value) : Prop where
  at_ : BookAt w b F
  base : n0 ≤ b
  list : ∀ j, live j → w.ownsRow n0 (sty j) 1 (F j) (k j) (lst (u j) (k j))
  row : ∀ j i, live j → i < k j → Rw n0 (ety j) w (u j i) (n j i) (c j i)
  sep : ∀ x y, x ≠ y → ∀ g, Item.has b F live k u x g → ¬ Item.has b F live k u y g
def foot (b : Nat) (F : Nat → Value) (live : Nat → Prop) (k : Nat → Nat) (u : Nat → Nat → Value) (g : Nat) : Prop := ∃ x, Item.has b F live k u x g

section
variable {n0 : Nat} {w w' : World} {b : Nat} {F : Nat → Value} {live : Nat → Prop} {k : Nat → Nat} {u : Nat → Nat → Value} {n : Nat → Nat → Nat} {c : Nat → Nat → List Value}
theorem Books.lt (h : Books n0 w b F live k u n c) {x : Item} {g : Nat} (hx : Item.has b F live k u x g) : n0 ≤ g ∧ g < w.heap.size := by
  cases x with
  | book => obtain rfl : g = b := hx; exact ⟨h.base, h.at_.lt⟩
  | list j => exact row_lt (h.list j hx.1) hx.2
  | row j i => exact (h.row j i hx.1 hx.2.1).lt hx.2.2
theorem Books.keep {G : Nat → Prop} (h : Books n0 w b F live k u n c) (hc : Chg G w w') (hG : ∀ g, foot b F live k u g → ¬ G g) : Books n0 w' b F live k u n c :=
  ⟨h.at_.keep hc (hG b ⟨.book, rfl⟩), h.base, fun j hj => own_chg (h.list j hj) hc (fun g hg => hG g ⟨.list j, hj, hg⟩), fun j i hj hi => (h.row j i hj hi).chg hc (fun g hg => hG g ⟨.row j i, hj, hi, hg⟩), h.sep⟩
theorem Books.below (h : Books n0 w b F live k u n c) (hb : Below w.heap.size w w') : Books n0 w' b F live k u n c :=
  h.keep (G := fun _ => False) (.of_below hb) (fun _ _ h => h)
/-- a shelf is looked at no more -/
theorem Books.drop (h : Books n0 w b F live k u n c) {live' : Nat → Prop} (hl : ∀ j, live' j → live j) : Books n0 w b F live' k u n c :=
  have up : ∀ x g, Item.has b F live' k u x g → Item.has b F live k u x g := fun x g hx => by
    cases x with
    | book => exact hx
    | list j => exact ⟨hl j hx.1, hx.2⟩
    | row j i => exact ⟨hl j hx.1, hx.2⟩
  ⟨h.at_, h.base, fun j hj => h.list j (hl j hj), fun j i hj hi => h.row j i (hl j hj) hi, fun x y hxy g hx hy => h.sep x y hxy g (up x g hx) (up y g hy)⟩
/-- a list more on a shelf -/
theorem Books.add (h : Books n0 w b F live k u n c) (j : Nat) (hj : live j) (x : Value) (nx : Nat) (cx : List Value) (L' : Value) (hx : Rw n0 (ety j) w' x nx cx) (hfx : ∀ g, blk x g → g < w.heap.size ∧ ¬ foot b F live k u g)
    (ha : BookAt w' b (turn F j L')) (hl : w'.ownsRow n0 (sty j) 1 L' (k j + 1) (lst (u j) (k j) ++ [x])) (hc : Chg (fun g => g = b ∨ blk (F j) g) w w') (hL : ∀ g, blk L' g → blk (F j) g ∨ w.heap.size ≤ g) :
    Books n0 w' b (turn F j L') live (turn k j (k j + 1)) (turn u j (turn (u j) (k j) x)) (turn n j (turn (n j) (k j) nx)) (turn c j (turn (c j) (k j) cx)) := by
  have hlst : lst (turn (u j) (k j) x) (k j + 1) = lst (u j) (k j) ++ [x] := by
    rw [lst_succ, turn_same]
    congr 1
    exact lst_congr fun i hi => turn_other _ _ _ _ (by omega)
  have isRow : ∀ q i, live q → i < k q → ∀ g, blk (u q i) g → ¬ (g = b ∨ blk (F j) g) := by
    intro q i hq hi g hg h2
    rcases h2 with rfl | h2
    · exact h.sep (.row q i) .book (by simp) g ⟨hq, hi, hg⟩ rfl
    · exact h.sep (.row q i) (.list j) (by simp) g ⟨hq, hi, hg⟩ ⟨hj, h2⟩
  have isList : ∀ q, live q → q ≠ j → ∀ g, blk (F q) g → ¬ (g = b ∨ blk (F j) g) := by
    intro q hq hqj g hg h2
    rcases h2 with rfl | h2
    · exact h.sep (.list q) .book (by simp) g ⟨hq, hg⟩ rfl
    · exact h.sep (.list q) (.list j) (by simpa using hqj) g ⟨hq, hg⟩ ⟨hj, h2⟩
  -- what holds now, held before, or is the new list, or the list's new block
  have key : ∀ y g, Item.has b (turn F j L') live (turn k j (k j + 1)) (turn u j (turn (u j) (k j) x)) y g → (Item.has b F live k u y g) ∨ (y = .row j (k j) ∧ blk x g) ∨ (y = .list j ∧ w.heap.size ≤ g) := by
    intro y g hy
    cases y with
    | book => exact .inl hy
    | list q =>
      obtain ⟨h1, h2⟩ := hy
      by_cases e : q = j
      · subst e
        rw [turn_same] at h2
        rcases hL g h2 with h3 | h3
        · exact .inl ⟨h1, h3⟩
        · exact .inr (.inr ⟨rfl, h3⟩)
      · rw [turn_other _ _ _ _ e] at h2
        exact .inl ⟨h1, h2⟩
    | row q i =>
      obtain ⟨h1, h2, h3⟩ := hy
      by_cases e : q = j
      · subst e
        rw [turn_same] at h2 h3
        by_cases e2 : i = k q
        · subst e2
          rw [turn_same] at h3
          exact .inr (.inl ⟨rfl, h3⟩)
        · rw [turn_other _ _ _ _ e2] at h3
          exact .inl ⟨h1, by omega, h3⟩
      · rw [turn_other _ _ _ _ e] at h2 h3
        exact .inl ⟨h1, h2, h3⟩
  refine ⟨ha, h.base, fun q hq => ?_, fun q i hq hi => ?_, fun y z hyz g hy hz => ?_⟩
  · by_cases e : q = j
    · subst e
      rw [turn_same, turn_same, turn_same, hlst]; exact hl
    · rw [turn_other _ _ _ _ e, turn_other _ _ _ _ e, turn_other _ _ _ _ e]
      exact own_chg (h.list q hq) hc (isList q hq e)
  · by_cases e : q = j
    · subst e
      rw [turn_same] at hi
      rw [turn_same, turn_same, turn_same]
      by_cases e2 : i = k q
      · subst e2
        rw [turn_same, turn_same, turn_same]; exact hx
      · rw [turn_other _ _ _ _ e2, turn_other _ _ _ _ e2, turn_other _ _ _ _ e2]
        exact (h.row q i hq (by omega)).chg hc (isRow q i hq (by omega))
    · rw [turn_other _ _ _ _ e] at hi
      rw [turn_other _ _ _ _ e, turn_other _ _ _ _ e, turn_other _ _ _ _ e]
      exact (h.row q i hq hi).chg hc (isRow q i hq hi)
  · rcases key y g hy with h1 | ⟨rfl, h1⟩ | ⟨rfl, h1⟩ <;> rcases key z g hz with h2 | ⟨rfl, h2⟩ | ⟨rfl, h2⟩
    · exact h.sep y z hyz g h1 h2
    · exact (hfx g h2).2 ⟨y, h1⟩
    · have := (h.lt h1).2; omega
    · exact (hfx g h1).2 ⟨z, h2⟩
    · exact hyz rfl
    · have := (hfx g h1).1; omega
    · have := (h.lt h2).2; omega
    · have := (hfx g h2).1; omega
    · exact hyz rfl
/-- the shelf's rows, as own.. asks them -/
theorem Books.apart (h : Books n0 w b F live k u n c) (j : Nat) (hj : live j) (X : Nat → Prop) (hX : ∀ g, X g → g = b ∨ blk (F j) g) : Apart n0 (ety j) w (k j) (u j) (n j) (c j) X :=
  ⟨fun i hi => h.row j i hj hi, fun p q hp hq hpq g hg hg' => h.sep (.row j p) (.row j q) (by simpa using hpq) g ⟨hj, hp, hg⟩ ⟨hj, hq, hg'⟩, fun i hi g hg hx => by
    rcases hX g hx with rfl | h2
    · exact h.sep (.row j i) .book (by simp) g ⟨hj, hi, hg⟩ rfl
    · exact h.sep (.row j i) (.list j) (by simp) g ⟨hj, hi, hg⟩ ⟨hj, h2⟩⟩
end
end Go.Proofs.Ytfbjjblgcgjndaa

/- Contracts of the book's methods. -/
namespace Go.Proofs.Ytfbjjblgcgjndaa
open Go.RowKit


set_option maxRecDepth 100000 in
theorem book_bytes (n0 : Nat) (w : World) (b : Nat) (F : Nat → Value) (k : Nat) (us : List Value) (A : Option Addr) (n cp : Nat) (hB : BookAt w b F) (hown : w.ownsRow n0 23 1 (F 0) k us) (hsep : ¬ blk (F 0) b) (hk : k ≤ 1000000000000) (hn0 : n0 ≤ w.heap.size) :
    Calls Try.prog 65 #[.pointer (some ⟨b, 0, none⟩), .slice A n cp] w fun e w' => e = .returned (.tuple #[]) ∧ ∃ L', BookAt w' b (turn F 0 L') ∧ w'.ownsRow n0 23 1 L' (k + 1) (us ++ [.slice A n cp]) ∧ Chg (fun g => g = b ∨ blk (F 0) g) w w' ∧ ∀ g, blk L' g → blk (F 0) g ∨ w.heap.size ≤ g := by
  have c0 := hB.cell 0 (by omega)
  generalize hL : F 0 = L at *
  have HL := Lib.hid hL
  have HB := Lib.hid hB
  clear hL hB
  have h1 := own_below hown (below_alloc0 (Below.refl _ _) (.cells #[.slice A n cp] 23))
  have hAt : At (w.alloc (.cells #[.slice A n cp] 23)) (some ⟨w.heap.size, 0, none⟩) [.slice A n cp] := At.box w _ 23 w.heap.size rfl
  have hn1 : n0 ≤ (w.alloc (.cells #[.slice A n cp] 23)).heap.size := Nat.le_trans hn0 (by simp)
  have hsz : w.heap.size ≤ (w.alloc (.cells #[.slice A n cp] 23)).heap.size := by simp
  have hc1 : Chg (fun g => g = b ∨ blk L g) w (w.alloc (.cells #[.slice A n cp] 23)) := (Chg.refl _ w).alloc _
  go_enter Try.func65, Try.ntmps65
  go_wp2_with (at_builtin; go_loud (refine wp_append2 rfl (.tmp 8) (.tmp 10) 30 23 (.slice none 0 0) 1 24 rfl Try.underlying30 Try.info23 rfl (by decide) n0 L k us rfl h1 (some ⟨w.heap.size, 0, none⟩) 1 1 _ rfl rfl hAt (by simp) (by simp [Value.oneCell']) (by omega) (by omega) hn1 ?_); intro v1 w1 ho1 hor1; obtain ⟨V1, cap1, rfl, _⟩ := own_cells ho1; have hch1 := push_chg hor1; have hbl1 := fun g (hg : blk (.slice V1 (k + 1) cap1) g) => push_blk hor1 hg; have hB1 := (HB.out.keep (G := fun _ => False) (Chg.of_below (below_alloc0 (Below.refl _ _) (.cells #[.slice A n cp] 23))) (fun h => h)).keep hch1 hsep; have hcell1 := hB1.cell 0 (by omega); have hfr1 := hB1.frozen 0; have HB1 := Lib.hid hB1; clear hB1 hor1)
  go_end0
  have hs1 := own_chg ho1 (setCell_chg w1 b 0 (.slice V1 (k + 1) cap1)) (fun g hg e => by
    subst e
    rcases hbl1 _ hg with h | h
    · exact hsep h
    · have := HB.out.lt; simp at h; omega)
  refine ⟨rfl, _, HB1.out.set 0 _, hs1, ?_, fun g hg => ?_⟩
  · exact (hc1.trans hch1 (fun g _ hg => .inr hg)).setCell _ _ (.inl (.inl rfl))
  · rcases hbl1 g hg with h | h
    · exact .inl h
    · exact .inr (Nat.le_trans hsz h)

set_option maxRecDepth 100000 in
theorem book_ints (n0 : Nat) (w : World) (b : Nat) (F : Nat → Value) (k : Nat) (us : List Value) (A : Option Addr) (n cp : Nat) (hB : BookAt w b F) (hown : w.ownsRow n0 86 1 (F 2) k us) (hsep : ¬ blk (F 2) b) (hk : k ≤ 1000000000000) (hn0 : n0 ≤ w.heap.size) :
    Calls Try.prog 158 #[.pointer (some ⟨b, 0, none⟩), .slice A n cp] w fun e w' => e = .returned (.tuple #[]) ∧ ∃ L', BookAt w' b (turn F 2 L') ∧ w'.ownsRow n0 86 1 L' (k + 1) (us ++ [.slice A n cp]) ∧ Chg (fun g => g = b ∨ blk (F 2) g) w w' ∧ ∀ g, blk L' g → blk (F 2) g ∨ w.heap.size ≤ g := by
  have c0 := hB.cell 2 (by omega)
  generalize hL : F 2 = L at *
  have HL := Lib.hid hL
  have HB := Lib.hid hB
  clear hL hB
  have h1 := own_below hown (below_alloc0 (Below.refl _ _) (.cells #[.slice A n cp] 86))
  have hAt : At (w.alloc (.cells #[.slice A n cp] 86)) (some ⟨w.heap.size, 0, none⟩) [.slice A n cp] := At.box w _ 86 w.heap.size rfl
  have hn1 : n0 ≤ (w.alloc (.cells #[.slice A n cp] 86)).heap.size := Nat.le_trans hn0 (by simp)
  have hsz : w.heap.size ≤ (w.alloc (.cells #[.slice A n cp] 86)).heap.size := by simp
  have hc1 : Chg (fun g => g = b ∨ blk L g) w (w.alloc (.cells #[.slice A n cp] 86)) := (Chg.refl _ w).alloc _
  go_enter Try.func158, Try.ntmps158
  go_wp2_with (at_builtin; go_loud (refine wp_append2 rfl (.tmp 8) (.tmp 10) 45 86 (.slice none 0 0) 1 24 rfl Try.underlying45 Try.info86 rfl (by decide) n0 L k us rfl h1 (some ⟨w.heap.size, 0, none⟩) 1 1 _ rfl rfl hAt (by simp) (by simp [Value.oneCell']) (by omega) (by omega) hn1 ?_); intro v1 w1 ho1 hor1; obtain ⟨V1, cap1, rfl, _⟩ := own_cells ho1; have hch1 := push_chg hor1; have hbl1 := fun g (hg : blk (.slice V1 (k + 1) cap1) g) => push_blk hor1 hg; have hB1 := (HB.out.keep (G := fun _ => False) (Chg.of_below (below_alloc0 (Below.refl _ _) (.cells #[.slice A n cp] 86))) (fun h => h)).keep hch1 hsep; have hcell1 := hB1.cell 2 (by omega); have hfr1 := hB1.frozen 2; have HB1 := Lib.hid hB1; clear hB1 hor1)
  go_end0
  have hs1 := own_chg ho1 (setCell_chg w1 b 2 (.slice V1 (k + 1) cap1)) (fun g hg e => by
    subst e
    rcases hbl1 _ hg with h | h
    · exact hsep h
    · have := HB.out.lt; simp at h; omega)
  refine ⟨rfl, _, HB1.out.set 2 _, hs1, ?_, fun g hg => ?_⟩
  · exact (hc1.trans hch1 (fun g _ hg => .inr hg)).setCell _ _ (.inl (.inl rfl))
  · rcases hbl1 g hg with h | h
    · exact .inl h
    · exact .inr (Nat.le_trans hsz h)

theorem Books.chg_rows {n0 : Nat} {w w' : World} {b : Nat} {F : Nat → Value} {live : Nat → Prop} {k : Nat → Nat} {u : Nat → Nat → Value} {n : Nat → Nat → Nat} {c : Nat → Nat → List Value} (h : Books n0 w b F live k u n c) (j : Nat) (hj : live j) {G : Nat → Prop} (hc : Chg G w w') (hG : ∀ g, G g → ∃ i, i < k j ∧ blk (u j i) g) :
    Books n0 w' b F (fun q => live q ∧ q ≠ j) k u n c := by
  refine (h.drop (live' := fun q => live q ∧ q ≠ j) (fun q hq => hq.1)).keep hc fun g hg hG' => ?_
  obtain ⟨i, hi, hgi⟩ := hG g hG'
  obtain ⟨x, hx⟩ := hg
  cases x with
  | book => exact h.sep .book (.row j i) (by simp) g hx ⟨hj, hi, hgi⟩
  | list q => exact h.sep (.list q) (.row j i) (by simp) g ⟨hx.1.1, hx.2⟩ ⟨hj, hi, hgi⟩
  | row q p => exact h.sep (.row q p) (.row j i) (by simp; intro e; exact absurd e hx.1.2) g ⟨hx.1.1, hx.2⟩ ⟨hj, hi, hgi⟩
/-- the shelf's list and rows, as the helper own.. wants them -/
theorem Books.shelf {n0 : Nat} {w : World} {b : Nat} {F : Nat → Value} {live : Nat → Prop} {k : Nat → Nat} {u : Nat → Nat → Value} {n : Nat → Nat → Nat} {c : Nat → Nat → List Value} (h : Books n0 w b F live k u n c) (j : Nat) (hj : live j) :
    ∃ A cp, F j = .slice A (k j) cp ∧ At w A (lst (u j) (k j)) ∧ Apart n0 (ety j) w (k j) (u j) (n j) (c j) (fun g => ∃ a, A = some a ∧ g = a.block) ∧ ∀ a, A = some a → a.block < w.heap.size := by
  obtain ⟨A, cp, e, hA, _, _, _⟩ := At.own (h.list j hj)
  refine ⟨A, cp, e, hA, h.apart j hj _ ?_, ?_⟩
  · rintro g ⟨a, rfl, rfl⟩
    exact .inr (by rw [e]; rfl)
  · rintro a rfl
    exact (row_lt (h.list j hj) (g := a.block) (by rw [e]; rfl)).2

set_option maxRecDepth 100000 in
set_option maxHeartbeats 4000000 in
theorem book_own (n0 : Nat) (w : World) (b : Nat) (F : Nat → Value) (k : Nat → Nat) (u : Nat → Nat → Value) (n : Nat → Nat → Nat) (c : Nat → Nat → List Value) (h : Books n0 w b F (fun j => j = 0 ∨ j = 2) k u n c)
    (hnil : ∀ j, j < 23 → j ≠ 0 → j ≠ 2 → F j = .slice none 0 0) (hk : ∀ j, k j ≤ 1000000000000) (hn : ∀ j i, (j = 0 ∨ j = 2) → i < k j → n j i ≤ 1000000000000) (hn0 : n0 ≤ w.heap.size) :
    Calls Try.prog 44 #[.pointer (some ⟨b, 0, none⟩)] w fun e w' => e = .returned (.bool true) ∧ Chg (foot b F (fun j => j = 0 ∨ j = 2) k u) w w' := by
  obtain ⟨A0, cp0, e0, hA0, hP0, hX0⟩ := h.shelf 0 (.inl rfl)
  have c0 := h.at_.cell 0 (by omega)
  rw [e0] at c0
  have o0 := Lib.hid (own_Bytes n0 A0 cp0 (k 0) (u 0) (n 0) (c 0) w hA0 (hk 0) (fun i hi => hn 0 i (.inl rfl) hi) hP0 hX0 hn0)
  have HH := Lib.hid h
  have HN := Lib.hid hnil
  have HK := Lib.hid hk
  have HNN := Lib.hid hn
  have HN0 := Lib.hid hn0
  clear h hnil hA0 hP0 hX0 e0 hn hk hn0
  go_enter Try.func44, Try.ntmps44
  go_wp2_with fail
  refine o0.out.mono ?_
  rintro e w1 ⟨rfl, hc1⟩
  have h1 := HH.out.chg_rows 0 (.inl rfl) hc1 (fun g hg => hg)
  have hcc1 : Chg (foot b F (fun j => j = 0 ∨ j = 2) k u) w w1 := hc1.mono (fun g _ hg => by obtain ⟨i, hi, hg⟩ := hg; exact ⟨.row 0 i, .inl rfl, hi, hg⟩)
  have d1 := h1.at_.cell 1 (by omega)
  rw [HN.out 1 (by omega) (by omega) (by omega)] at d1
  clear c0 o0 hc1
  go_wp2_with fail
  refine (own_nil_96 _).mono ?_
  rintro e w2 ⟨rfl, rfl⟩
  obtain ⟨A2, cp2, e2, hA2, hP2, hX2⟩ := h1.shelf 2 ⟨.inr rfl, by omega⟩
  have c2 := h1.at_.cell 2 (by omega)
  rw [e2] at c2
  have o2 := Lib.hid (own_Ints n0 A2 cp2 (k 2) (u 2) (n 2) (c 2) w1 hA2 (HK.out 2) (fun i hi => HNN.out 2 i (.inr rfl) hi) hP2 hX2 (Nat.le_trans HN0.out hcc1.size))
  have H1 := Lib.hid h1
  clear hA2 hP2 hX2 e2 h1 d1
  go_wp2_with fail
  refine o2.out.mono ?_
  rintro e w3 ⟨rfl, hc3⟩
  have h3 := H1.out.chg_rows 2 ⟨.inr rfl, by omega⟩ hc3 (fun g hg => hg)
  have hcc3 := hcc1.trans hc3 (fun g _ hg => by obtain ⟨i, hi, hg⟩ := hg; exact ⟨.row 2 i, .inr rfl, hi, hg⟩)
  have hB := h3.at_
  have HC := Lib.hid hcc3
  have HF := HN.out
  have f3 := HF 3 (by omega) (by omega) (by omega)
  have d3 := hB.cell 3 (by omega)
  rw [HF 3 (by omega) (by omega) (by omega)] at d3
  have d4 := hB.cell 4 (by omega)
  rw [HF 4 (by omega) (by omega) (by omega)] at d4
  have d5 := hB.cell 5 (by omega)
  rw [HF 5 (by omega) (by omega) (by omega)] at d5
  have d6 := hB.cell 6 (by omega)
  rw [HF 6 (by omega) (by omega) (by omega)] at d6
  have d7 := hB.cell 7 (by omega)
  rw [HF 7 (by omega) (by omega) (by omega)] at d7
  have d8 := hB.cell 8 (by omega)
  rw [HF 8 (by omega) (by omega) (by omega)] at d8
  have d9 := hB.cell 9 (by omega)
  rw [HF 9 (by omega) (by omega) (by omega)] at d9
  have d10 := hB.cell 10 (by omega)
  rw [HF 10 (by omega) (by omega) (by omega)] at d10
  have d11 := hB.cell 11 (by omega)
  rw [HF 11 (by omega) (by omega) (by omega)] at d11
  have d12 := hB.cell 12 (by omega)
  rw [HF 12 (by omega) (by omega) (by omega)] at d12
  have d13 := hB.cell 13 (by omega)
  rw [HF 13 (by omega) (by omega) (by omega)] at d13
  have d14 := hB.cell 14 (by omega)
  rw [HF 14 (by omega) (by omega) (by omega)] at d14
  have d15 := hB.cell 15 (by omega)
  rw [HF 15 (by omega) (by omega) (by omega)] at d15
  have d16 := hB.cell 16 (by omega)
  rw [HF 16 (by omega) (by omega) (by omega)] at d16
  have d17 := hB.cell 17 (by omega)
  rw [HF 17 (by omega) (by omega) (by omega)] at d17
  have d18 := hB.cell 18 (by omega)
  rw [HF 18 (by omega) (by omega) (by omega)] at d18
  have d19 := hB.cell 19 (by omega)
  rw [HF 19 (by omega) (by omega) (by omega)] at d19
  have d20 := hB.cell 20 (by omega)
  rw [HF 20 (by omega) (by omega) (by omega)] at d20
  have d21 := hB.cell 21 (by omega)
  rw [HF 21 (by omega) (by omega) (by omega)] at d21
  have d22 := hB.cell 22 (by omega)
  rw [HF 22 (by omega) (by omega) (by omega)] at d22
  have HB := Lib.hid hB
  clear hB HF f3 c2 o2 hcc1 hc3 h3 hcc3
  go_wp2_with fail
  refine (own_nil_98 _).mono ?_
  rintro e w9 ⟨rfl, rfl⟩
  go_wp2_with fail
  refine (own_nil_99 _).mono ?_
  rintro e w9 ⟨rfl, rfl⟩
  go_wp2_with fail
  refine (own_nil_100 _).mono ?_
  rintro e w9 ⟨rfl, rfl⟩
  go_wp2_with fail
  refine (own_nil_101 _).mono ?_
  rintro e w9 ⟨rfl, rfl⟩
  go_wp2_with fail
  refine (own_nil_102 _).mono ?_
  rintro e w9 ⟨rfl, rfl⟩
  go_wp2_with fail
  refine (own_nil_103 _).mono ?_
  rintro e w9 ⟨rfl, rfl⟩
  go_wp2_with fail
  refine (own_nil_104 _).mono ?_
  rintro e w9 ⟨rfl, rfl⟩
  go_wp2_with fail
  refine (own_nil_105 _).mono ?_
  rintro e w9 ⟨rfl, rfl⟩
  go_wp2_with fail
  refine (own_nil_106 _).mono ?_
  rintro e w9 ⟨rfl, rfl⟩
  go_wp2_with fail
  refine (own_nil_107 _).mono ?_
  rintro e w9 ⟨rfl, rfl⟩
  go_wp2_with fail
  refine (own_nil_108 _).mono ?_
  rintro e w9 ⟨rfl, rfl⟩
  go_wp2_with fail
  refine (own_nil_109 _).mono ?_
  rintro e w9 ⟨rfl, rfl⟩
  go_wp2_with fail
  refine (own_nil_110 _).mono ?_
  rintro e w9 ⟨rfl, rfl⟩
  go_wp2_with fail
  refine (own_nil_111 _).mono ?_
  rintro e w9 ⟨rfl, rfl⟩
  go_wp2_with fail
  refine (own_nil_112 _).mono ?_
  rintro e w9 ⟨rfl, hb9⟩
  have hB := HB.out.keep (G := fun _ => False) (Chg.of_below hb9) (fun h => h)
  have hcc9 := HC.out.trans (Chg.of_below (F := fun _ => False) hb9) (fun _ _ h => h.elim)
  have HF := HN.out
  clear d3 d4 d5 d6 d7 d8 d9 d10 d11 d12 d13 d14 d15 d16 d17 d18 d19 d20 d21 d22
  have d18 := hB.cell 18 (by omega)
  rw [HF 18 (by omega) (by omega) (by omega)] at d18
  have d19 := hB.cell 19 (by omega)
  rw [HF 19 (by omega) (by omega) (by omega)] at d19
  have d20 := hB.cell 20 (by omega)
  rw [HF 20 (by omega) (by omega) (by omega)] at d20
  have d21 := hB.cell 21 (by omega)
  rw [HF 21 (by omega) (by omega) (by omega)] at d21
  have d22 := hB.cell 22 (by omega)
  rw [HF 22 (by omega) (by omega) (by omega)] at d22
  clear HF
  go_wp2_with fail
  refine (own_nil_113 _).mono ?_
  rintro e w10 ⟨rfl, rfl⟩
  go_wp2_with fail
  refine (own_nil_114 _).mono ?_
  rintro e w10 ⟨rfl, rfl⟩
  go_wp2_with fail
  refine (own_nil_115 _).mono ?_
  rintro e w10 ⟨rfl, rfl⟩
  go_wp2_with fail
  refine (own_nil_116 _).mono ?_
  rintro e w10 ⟨rfl, rfl⟩
  go_wp2_with fail
  refine (own_nil_117 _).mono ?_
  rintro e w10 ⟨rfl, rfl⟩
  go_wp2
  go_ret
  exact ⟨rfl, hcc9⟩
end Go.Proofs.Ytfbjjblgcgjndaa

/- The book, its inside out of sight. -/
namespace Go.Proofs.Ytfbjjblgcgjndaa
open Go.RowKit

def lives (j : Nat) : Prop := j = 0 ∨ j = 2
/-- the book's own block and its lists' -/
def Sys (b : Nat) (F : Nat → Value) (g : Nat) : Prop := g = b ∨ ∃ j, (j = 0 ∨ j = 2) ∧ blk (F j) g
/-- a book at b of at most K lists a shelf; its own blocks are among S, those of what it bears among R -/
def BookOk (n0 : Nat) (w : World) (b K : Nat) (S R : Nat → Prop) : Prop :=
  ∃ F k u n c, Books n0 w b F (fun j => j = 0 ∨ j = 2) k u n c ∧ (∀ j, j < 23 → j ≠ 0 → j ≠ 2 → F j = .slice none 0 0) ∧ (∀ j, k j ≤ K) ∧ (∀ j i, (j = 0 ∨ j = 2) → i < k j → n j i ≤ 1000000000000) ∧ (∀ g, Sys b F g → S g) ∧ ∀ j i g, (j = 0 ∨ j = 2) → i < k j → blk (u j i) g → R g
theorem foot_or {b : Nat} {F : Nat → Value} {k : Nat → Nat} {u : Nat → Nat → Value} {S R : Nat → Prop} (hS : ∀ g, Sys b F g → S g) (hR : ∀ j i g, (j = 0 ∨ j = 2) → i < k j → blk (u j i) g → R g) {g : Nat} (h : foot b F (fun j => j = 0 ∨ j = 2) k u g) : S g ∨ R g := by
  obtain ⟨x, hx⟩ := h
  cases x with
  | book => exact .inl (hS g (.inl hx))
  | list j => exact .inl (hS g (.inr ⟨j, hx.1, hx.2⟩))
  | row j i => exact .inr (hR j i g hx.1 hx.2.1 hx.2.2)
theorem BookOk.keep {n0 : Nat} {w w' : World} {b K : Nat} {S R H : Nat → Prop} (h : BookOk n0 w b K S R) (hc : Chg H w w') (hG : ∀ g, g < w.heap.size → S g ∨ R g → ¬ H g) : BookOk n0 w' b K S R := by
  obtain ⟨F, k, u, n, c, h1, h2, h3, h4, h5, h6⟩ := h
  exact ⟨F, k, u, n, c, h1.keep hc (fun g hg => by have hg' := hg; obtain ⟨x, hx⟩ := hg; exact hG g (h1.lt hx).2 (foot_or h5 h6 hg')), h2, h3, h4, h5, h6⟩
theorem BookOk.below {n0 : Nat} {w w' : World} {b K : Nat} {S R : Nat → Prop} (h : BookOk n0 w b K S R) (hb : Below w.heap.size w w') : BookOk n0 w' b K S R :=
  h.keep (H := fun _ => False) (.of_below hb) (fun _ _ _ h => h)
theorem BookOk.mono {n0 : Nat} {w : World} {b K : Nat} {S R S' R' : Nat → Prop} (h : BookOk n0 w b K S R) (hS : ∀ g, n0 ≤ g → g < w.heap.size → S g → S' g) (hR : ∀ g, n0 ≤ g → g < w.heap.size → R g → R' g) : BookOk n0 w b K S' R' := by
  obtain ⟨F, k, u, n, c, h1, h2, h3, h4, h5, h6⟩ := h
  have lt1 : ∀ g, Sys b F g → n0 ≤ g ∧ g < w.heap.size := by
    rintro g (h | ⟨j, hj, h⟩)
    · exact h1.lt (x := .book) h
    · exact h1.lt (x := .list j) ⟨hj, h⟩
  refine ⟨F, k, u, n, c, h1, h2, h3, h4, fun g hg => hS g (lt1 g hg).1 (lt1 g hg).2 (h5 g hg), fun j i g hj hi hg => ?_⟩
  have := h1.lt (x := .row j i) ⟨hj, hi, hg⟩
  exact hR g this.1 this.2 (h6 j i g hj hi hg)
theorem lst_nil_book : (lst (fun _ => nilV) 23).toArray = #[.slice none 0 0, .slice none 0 0, .slice none 0 0, .slice none 0 0, .slice none 0 0, .slice none 0 0, .slice none 0 0, .slice none 0 0, .slice none 0 0, .slice none 0 0, .slice none 0 0, .slice none 0 0, .slice none 0 0, .slice none 0 0, .slice none 0 0, .slice none 0 0, .slice none 0 0, .slice none 0 0, .slice none 0 0, .slice none 0 0, .slice none 0 0, .slice none 0 0, .slice none 0 0] := rfl
theorem BookOk.new (n0 : Nat) (w : World) (hn : n0 ≤ w.heap.size) : BookOk n0 (w.alloc (.cells (lst (fun _ => nilV) 23).toArray 67)) w.heap.size 0 (fun g => g = w.heap.size) (fun _ => False) := by
  have hno : ∀ x g, Item.has w.heap.size (fun _ => nilV) (fun j => j = 0 ∨ j = 2) (fun _ => 0) (fun _ _ => nilV) x g → x = .book ∧ g = w.heap.size := by
    intro x g hx
    cases x with
    | book => exact ⟨rfl, hx⟩
    | list j => cases hx.2
    | row j i => exact absurd hx.2.1 (Nat.not_lt_zero _)
  refine ⟨fun _ => nilV, fun _ => 0, fun _ _ => nilV, fun _ _ => 0, fun _ _ => [], ⟨heap_alloc_new w _, hn, fun j hj => World.ownsRow_nil _ _ _ _, fun j i hj hi => absurd hi (Nat.not_lt_zero _), fun x y hxy g hx hy => hxy ((hno x g hx).1.trans (hno y g hy).1.symm)⟩, fun _ _ _ _ => rfl, fun _ => Nat.le_refl _, fun j i _ hi => absurd hi (Nat.not_lt_zero _), ?_, fun j i g _ hi => absurd hi (Nat.not_lt_zero _)⟩
  rintro g (h | ⟨j, _, h⟩)
  · exact h
  · cases h
def More (S : Nat → Prop) (s s' : Nat) (g : Nat) : Prop := S g ∨ (s ≤ g ∧ g < s')
def Also (R : Nat → Prop) (x : Value) (g : Nat) : Prop := R g ∨ blk x g
def BookPut (n0 : Nat) (w : World) (b K : Nat) (S R : Nat → Prop) (x : Value) (e : Ending) (w' : World) : Prop :=
  e = .returned (.tuple #[]) ∧ BookOk n0 w' b (K + 1) (More S w.heap.size w'.heap.size) (Also R x) ∧ Chg S w w' ∧ Below n0 w w'
theorem book_put {n0 : Nat} {w : World} {b K : Nat} {S R : Nat → Prop} {fn : FuncId} (j : Nat) (hj : j = 0 ∨ j = 2) (A : Option Addr) (n cp : Nat) (cx : List Value) (h : BookOk n0 w b K S R) (hx : Rw n0 (ety j) w (.slice A n cp) n cx) (hG : ∀ g, blk (.slice A n cp) g → ¬ (S g ∨ R g)) (hn : n ≤ 1000000000000) (hn0 : n0 ≤ w.heap.size) (hK : K < 1000000000000)
    (hput : ∀ (F : Nat → Value) (k : Nat) (us : List Value), BookAt w b F → w.ownsRow n0 (sty j) 1 (F j) k us → ¬ blk (F j) b → k ≤ 1000000000000 →
      Calls Try.prog fn #[.pointer (some ⟨b, 0, none⟩), .slice A n cp] w fun e w' => e = .returned (.tuple #[]) ∧ ∃ L', BookAt w' b (turn F j L') ∧ w'.ownsRow n0 (sty j) 1 L' (k + 1) (us ++ [.slice A n cp]) ∧ Chg (fun g => g = b ∨ blk (F j) g) w w' ∧ ∀ g, blk L' g → blk (F j) g ∨ w.heap.size ≤ g) :
    Calls Try.prog fn #[.pointer (some ⟨b, 0, none⟩), .slice A n cp] w (BookPut n0 w b K S R (.slice A n cp)) := by
  obtain ⟨F, k, u, nn, c, h1, h2, h3, h4, h5, h6⟩ := h
  have hsep : ¬ blk (F j) b := fun hb => h1.sep .book (.list j) (by simp) b rfl ⟨hj, hb⟩
  have hkj := h3 j
  refine (hput F (k j) (lst (u j) (k j)) h1.at_ (h1.list j hj) hsep (by omega)).mono ?_
  rintro e w' ⟨rfl, L', ha, hl, hc, hL⟩
  have hcS : Chg S w w' := hc.mono fun g _ hg => by
    rcases hg with rfl | hg
    · exact h5 _ (.inl rfl)
    · exact h5 _ (.inr ⟨j, hj, hg⟩)
  have hbl : Below n0 w w' := hc.below hn0 fun g hg => by
    rcases hg with rfl | hg
    · exact h1.base
    · exact (row_lt (h1.list j hj) hg).1
  have hx' : Rw n0 (ety j) w' (.slice A n cp) n cx := hx.chg hcS (fun g hg hs => hG g hg (.inl hs))
  have hb2 := h1.add (w' := w') j hj (.slice A n cp) n cx L' hx' (fun g hg => ⟨(hx.lt hg).2, fun hf => hG g hg (foot_or h5 h6 hf)⟩) ha hl hc hL
  refine ⟨rfl, ⟨_, _, _, _, _, hb2, fun q hq h0 h2' => ?_, fun q => ?_, fun q i hq hi => ?_, fun g hg => ?_, fun q i g hq hi hg => ?_⟩, hcS, hbl⟩
  · rw [turn_other _ _ _ _ (by omega)]; exact h2 q hq h0 h2'
  · by_cases e : q = j
    · subst e; rw [turn_same]; omega
    · rw [turn_other _ _ _ _ e]; have := h3 q; omega
  · by_cases e : q = j
    · subst e
      rw [turn_same] at hi ⊢
      by_cases e2 : i = k q
      · subst e2; rw [turn_same]; exact hn
      · rw [turn_other _ _ _ _ e2]; exact h4 q i hq (by omega)
    · rw [turn_other _ _ _ _ e] at hi ⊢
      exact h4 q i hq hi
  · rcases hg with rfl | ⟨q, hq, hg⟩
    · exact .inl (h5 _ (.inl rfl))
    · by_cases e : q = j
      · subst e
        rw [turn_same] at hg
        rcases hL g hg with h | h
        · exact .inl (h5 _ (.inr ⟨q, hq, h⟩))
        · exact .inr ⟨h, (row_lt hl hg).2⟩
      · rw [turn_other _ _ _ _ e] at hg
        exact .inl (h5 _ (.inr ⟨q, hq, hg⟩))
  · by_cases e : q = j
    · subst e
      rw [turn_same] at hi hg
      by_cases e2 : i = k q
      · subst e2; rw [turn_same] at hg; exact .inr hg
      · rw [turn_other _ _ _ _ e2] at hg; exact .inl (h6 q i g hq (by omega) hg)
    · rw [turn_other _ _ _ _ e] at hi hg
      exact .inl (h6 q i g hq hi hg)
theorem bytes_put {n0 : Nat} {w : World} {b K : Nat} {S R : Nat → Prop} (A : Option Addr) (n cp : Nat) (cx : List Value) (h : BookOk n0 w b K S R) (hx : w.ownsRow n0 5 1 (.slice A n cp) n cx) (hG : ∀ g, blk (.slice A n cp) g → ¬ (S g ∨ R g)) (hn : n ≤ 1000000000000) (hn0 : n0 ≤ w.heap.size) (hK : K < 1000000000000) :
    Calls Try.prog 65 #[.pointer (some ⟨b, 0, none⟩), .slice A n cp] w (BookPut n0 w b K S R (.slice A n cp)) :=
  book_put 0 (.inl rfl) A n cp cx h (Rw.of hx) hG hn hn0 hK fun F k us h1 h2 h3 h4 => book_bytes n0 w b F k us A n cp h1 h2 h3 h4 hn0
theorem bytes_putc {n0 : Nat} {w : World} {b K : Nat} {S R : Nat → Prop} (A : Option Addr) (n cp : Nat) (cx : List Value) (h : BookOk n0 w b K S R) (hx : Rw n0 5 w (.slice A n cp) n cx) (hG : ∀ g, blk (.slice A n cp) g → ¬ (S g ∨ R g)) (hn : n ≤ 1000000000000) (hn0 : n0 ≤ w.heap.size) (hK : K < 1000000000000) :
    Calls Try.prog 65 #[.pointer (some ⟨b, 0, none⟩), .slice A n cp] w (BookPut n0 w b K S R (.slice A n cp)) :=
  book_put 0 (.inl rfl) A n cp cx h hx hG hn hn0 hK fun F k us h1 h2 h3 h4 => book_bytes n0 w b F k us A n cp h1 h2 h3 h4 hn0
theorem ints_put {n0 : Nat} {w : World} {b K : Nat} {S R : Nat → Prop} (A : Option Addr) (n cp : Nat) (cx : List Value) (h : BookOk n0 w b K S R) (hx : w.ownsRow n0 3 1 (.slice A n cp) n cx) (hG : ∀ g, blk (.slice A n cp) g → ¬ (S g ∨ R g)) (hn : n ≤ 1000000000000) (hn0 : n0 ≤ w.heap.size) (hK : K < 1000000000000) :
    Calls Try.prog 158 #[.pointer (some ⟨b, 0, none⟩), .slice A n cp] w (BookPut n0 w b K S R (.slice A n cp)) :=
  book_put 2 (.inr rfl) A n cp cx h (Rw.of hx) hG hn hn0 hK fun F k us h1 h2 h3 h4 => book_ints n0 w b F k us A n cp h1 h2 h3 h4 hn0
theorem own_ok {n0 : Nat} {w : World} {b K : Nat} {S R : Nat → Prop} (h : BookOk n0 w b K S R) (hn0 : n0 ≤ w.heap.size) (hK : K ≤ 1000000000000) :
    Calls Try.prog 44 #[.pointer (some ⟨b, 0, none⟩)] w fun e w' => e = .returned (.bool true) ∧ Chg (fun g => S g ∨ R g) w w' ∧ Below n0 w w' := by
  obtain ⟨F, k, u, nn, c, h1, h2, h3, h4, h5, h6⟩ := h
  refine (book_own n0 w b F k u nn c h1 h2 (fun j => Nat.le_trans (h3 j) hK) h4 hn0).mono ?_
  rintro e w' ⟨rfl, hc⟩
  exact ⟨rfl, hc.mono fun g _ hg => foot_or h5 h6 hg, hc.below hn0 fun g hg => by obtain ⟨x, hx⟩ := hg; exact (h1.lt hx).1⟩
end Go.Proofs.Ytfbjjblgcgjndaa
