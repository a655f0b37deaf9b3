/- Walk of DiskKeeps. -/
import Derived.Test.YtfbjjblgcgjndaaTrips
import Derived.Test.YtfbjjblgcgjndaaGrid
set_option linter.unusedVariables false
set_option linter.unusedSimpArgs false
namespace Go.Proofs.Ytfbjjblgcgjndaa
open Go.RowKit

/-- a disk and what a law keeps of it -/
def KeepsAt (n0 : Nat) (w : World) (p g m : Nat) (Z : List (List Nat)) (K : Nat → Bool) (k cn : Nat) : Prop :=
  ∃ D S L X, DG n0 w p D S ∧ Grid n0 w g L X ∧ Aside w S X ∧ L = settled Z D.cache K D.cache.length ∧ D.last = Z ∧ D.Calm ∧ D.pages = m ∧ Small D k ∧ D.cache.length = cn
/-- the same, while a write is being taken over -/
def KeepsIn (n0 : Nat) (w : World) (p g : Nat) (S : Nat → Prop) (D' : Dsk) (Z : List (List Nat)) (K : Nat → Bool) (c : List (Nat × List Nat)) (a : Nat) (b : List Nat) (kk : Nat) : Prop :=
  ∃ L X, DG n0 w p D' S ∧ Grid n0 w g L X ∧ Aside w S X ∧ L = settled Z (c ++ puts a b kk) K (c.length + kk)
theorem zero_buf {n0 : Nat} {w w' : World} (hn : n0 ≤ w.heap.size) (ho : w'.ownsRow w.heap.size 5 1 (.slice (some ⟨w.heap.size, 0, none⟩) 128 128) 128 (madeCells (Value.int .u8 0).cells (128 * 1)).toList) : Buf n0 w' (.slice (some ⟨w.heap.size, 0, none⟩) 128 128) zeroSect := by
  have h := made_ns .u8 128
  have e : (madeCells (Value.int .u8 0).cells (128 * 1)).toList = ns .u8 zeroSect := h
  rw [e] at ho
  exact own_down ho hn
/-- a row is laid into the grid -/
theorem grid_store {n0 n : Nat} {w : World} {p g : Nat} {D : Dsk} {L : List (List Nat)} {S X : Nat → Prop} {A : Option Addr} {c : Nat} {s : List Nat} (hd : DG n0 w p D S) (h : Grid n0 w g L X) (ha : Aside w S X) (i : Nat) (hi : i < L.length) (hv : Buf n0 w (.slice A n c) s) (hg : ∀ x, blk (.slice A n c) x → x ≠ g ∧ ¬ S x) :
    DG n0 (w.setCell ⟨g, i, none⟩ (.slice A n c)) p D S ∧ Grid n0 (w.setCell ⟨g, i, none⟩ (.slice A n c)) g (L.set i s) (With X (.slice A n c)) ∧ Aside (w.setCell ⟨g, i, none⟩ (.slice A n c)) S (With X (.slice A n c)) ∧ Chg (fun x => x = g) w (w.setCell ⟨g, i, none⟩ (.slice A n c)) := by
  obtain ⟨h1, h2⟩ := h.set i hi hv (fun x hx => (hg x hx).1)
  refine ⟨hd.keep h2 (fun x hx e => ha.off g h.here (by rw [← show x = g from e]; exact hx)), h1, ⟨fun x hx => (h1.lt x hx).2, fun x hx => ?_⟩, h2⟩
  rcases hx with hx | hx
  · exact ha.off x hx
  · exact (hg x hx).2
set_option maxRecDepth 100000 in
set_option maxHeartbeats 8000000 in
theorem diskKeeps_any (o : Nat) (A B C : Option Addr) (ca cb cc : Nat) (l1 l2 : List Nat) (bs : List Bool) (w : World) (ho : o < 256) (hA : At w A (ns .u16 l1)) (hl1 : ∀ x ∈ l1, x < 65536) (hB : At w B (ns .u16 l2)) (hl2 : ∀ x ∈ l2, x < 65536) (hC : At w C (bs.map .bool))
    (hb1 : l1.length ≤ 140737488355328) (hb2 : l2.length ≤ 140737488355328) (hb3 : bs.length ≤ 140737488355328) :
    Calls Try.prog 11 #[.int .u8 (o : Int), .slice A l1.length ca, .slice B l2.length cb, .slice C bs.length cc] w fun e w' => e = .returned (.bool true) ∧ Below w.heap.size w w' := by
  have HAT := Lib.hid hA
  have HBT := Lib.hid hB
  have HCT := Lib.hid hC
  have HL1 := Lib.hid hl1
  have HL2 := Lib.hid hl2
  have HNO := Lib.hid ho
  obtain ⟨m, hm⟩ : ∃ m : Nat, m = o % 6 + 1 := ⟨_, rfl⟩
  have hm1 : IntKind.i64.wrap ((o : Int) % 6 + 1) = (m : Int) := by rw [IntKind.wrap_i64]; omega
  have hm2 : (o : Int) % 6 + 1 = (m : Int) := by omega
  have hm3 : 1 ≤ m := by omega
  have hm4 : m ≤ 6 := by omega
  have HM := Lib.hid (show 1 ≤ m ∧ m ≤ 6 by omega)
  obtain ⟨N, hN⟩ : ∃ N : Nat, N = 8 * m := ⟨_, rfl⟩
  have hN48 : N ≤ 48 := by omega
  have HN := Lib.hid hN
  clear hN
  clear hA hB hC hl1 hl2 hm
  go_enter Try.func11, Try.ntmps11
  go_wp2_with fail
  refine (dg_newl m w (Nat.le_refl _) (by have := HM.out; omega) (by have := HM.out; omega)).mono ?_
  rintro e w1 ⟨pd, Sd1, rfl, hdd1, ht1, hb1⟩
  have hb01 := hb1
  clear hb1 ht1
  go_wp2_with fail
  refine (known07_any w1).mono ?_
  rintro e w2 ⟨rfl, hb2⟩
  have hb02 := below_next0 hb01 hb2
  have hdd2 := hdd1.below hb2
  clear hb01 hdd1 hb2
  go_wp2_with (with_reducible refine wp_make rfl _ _ 30 23 (.slice none 0 0) 1 24 rfl Try.underlying30 Try.info23 w2.heap.size .i64 .i64 _ _ N rfl rfl (by have := HN.out; omega) (by have := HN.out; omega) (by omega) (by omega) (Nat.le_refl _) ?_; intro w3 ho3 hg3)
  have hb3' := below_of_grown hg3
  have hG3 := Grid.made (N := N) hb02.size ho3
  have hd3 := hdd2.below hb3'
  have ha3 : Aside w3 Sd1 (fun x => x = w2.heap.size) := ⟨fun x hx => (hG3.lt x hx).2, fun x hx h => by have := hdd2.top x h; have := show x = w2.heap.size from hx; omega⟩
  have hb03 := below_next0 hb02 hb3'
  obtain ⟨gb, hgb⟩ : ∃ gb, gb = w2.heap.size := ⟨_, rfl⟩
  rw [← hgb] at hG3 ⊢
  simp only [← hgb] at ha3
  clear ho3 hg3 hb3' hgb hdd2 hb02
  go_wp2_with fail
  have HD3 := Lib.hid hd3
  have HG3 := Lib.hid hG3
  have HA3 := Lib.hid ha3
  have HB3 := Lib.hid hb03
  clear hd3 hG3 ha3 hb03
  go_loopw [13] (fun i wr => ∃ k : Nat, k ≤ N ∧ i = .int .i64 k ∧ (∃ L X, DG w.heap.size wr pd (Dsk.new m) Sd1 ∧ Grid w.heap.size wr gb L X ∧ Aside wr Sd1 X ∧ L.length = N ∧ ∀ j, j < k → L.getD j [] = zeroSect) ∧ Below w.heap.size w wr) (fun i _ => N - (intOf i).toNat)
  case atStart => exact ⟨0, by omega, rfl, ⟨_, _, HD3.out, HG3.out, HA3.out, List.length_replicate, fun j hj => by omega⟩, HB3.out⟩
  case round =>
    clear HD3 HG3 HA3 HB3
    obtain ⟨k, hk, rfl, ⟨L, X, hd, hG, ha, hL, hz⟩, hb⟩ := hrel
    by_cases hlt : k < N
    · have h1 : (k : Int) < (N : Int) := by omega
      have HL := Lib.hid hL
      have HZ := Lib.hid hz
      have HD5 := Lib.hid hd
      have HG5 := Lib.hid hG
      have HA5 := Lib.hid ha
      have HBB := Lib.hid hb
      have hbs := Lib.hid hb.size
      clear hL hz hd hG ha hb
      go_wp2_with (with_reducible refine wp_make rfl _ _ 23 5 (.int .u8 0) 1 1 rfl Try.underlying23 Try.info5 wr.heap.size .i64 .i64 _ _ 128 rfl rfl rfl rfl (by omega) (by omega) (Nat.le_refl _) ?_; intro w4 ho4 hg4; have hb4 := below_of_grown hg4; have hG4 := HG5.out.below hb4; obtain ⟨A5, c5, hcell, _⟩ := hG4.cell k (by rw [HL.out]; exact hlt); have hfr := hG4.frozen k)
      have hz4 := zero_buf hbs.out ho4
      obtain ⟨j1, j2, j3, j4⟩ := grid_store (HD5.out.below hb4) hG4 (HA5.out.up hb4.size) k (by rw [HL.out]; exact hlt) hz4 (fun x hx => by
        have := (row_lt ho4 hx).1
        have h1 := (HG5.out.lt _ HG5.out.here).2
        exact ⟨by omega, fun h => by have := HD5.out.top x h; omega⟩)
      have HB5 := Lib.hid ((below_next0 HBB.out hb4).trans (j4.below (Nat.le_trans hbs.out hb4.size) (fun x hx => by rw [show x = gb from hx]; exact (HG5.out.lt _ HG5.out.here).1)))
      case roundEnd =>
        refine ⟨⟨k + 1, by omega, by go_num, ⟨_, _, j1, j2, j3, by rw [List.length_set]; exact HL.out, fun j hj => ?_⟩, HB5.out⟩, by simp only [intOf]; omega⟩
        rw [getD_set7]
        by_cases e : j = k
        · rw [if_pos ⟨e, by rw [HL.out]; exact hlt⟩]
        · rw [if_neg (fun h => e h.1)]; exact HZ.out j (by omega)
    · obtain rfl : N = k := by omega
      have hLe : L = List.replicate N zeroSect := grid_all hL hz
      subst hLe
      have HD4 := Lib.hid hd
      have HG4 := Lib.hid hG
      have HA4 := Lib.hid ha
      have HB4 := Lib.hid hb
      clear hd hG ha hb hL hz
      have HK := Lib.hid (show KeepsAt w.heap.size wr pd gb m (List.replicate N zeroSect) (fun _ => true) 0 0 from ⟨_, _, _, _, HD4.out, HG4.out, HA4.out, rfl, by rw [HN.out]; rfl, Dsk.new_calm m, Dsk.new_pages m, Small.new m, rfl⟩)
      have HZL := Lib.hid (show (List.replicate N zeroSect).length = N from List.length_replicate)
      generalize List.replicate N zeroSect = Z at *
      clear HD4 HG4 HA4
      go_wp2_with fail
      go_loopw [14] (fun i wr => ∃ k : Nat, k ≤ 100 ∧ i = .int .i64 k ∧ (∃ cn, KeepsAt w.heap.size wr pd gb m Z (fun _ => true) k cn) ∧ Below w.heap.size w wr) (fun i _ => 100 - (intOf i).toNat)
      case atStart => exact ⟨0, by omega, rfl, ⟨0, HK.out⟩, HB4.out⟩
      case round =>
        clear HK HB4
        obtain ⟨k, hk, rfl, ⟨cn, D, S, L, X, hd, hG, ha, hL, hZ, hcalm, hpg, hsm, hcn⟩, hb⟩ := hrel
        have HL := Lib.hid hL
        have HZD := Lib.hid hZ
        have HCA := Lib.hid hcalm
        have HPG := Lib.hid hpg
        have HSM := Lib.hid hsm
        clear hL hZ hcalm hpg hsm hcn
        by_cases hlt : k < l1.length ∧ k < 100
        · obtain ⟨h1, h2⟩ := hlt
          obtain ⟨gl, ol, rfl, hcell⟩ := (HAT.out).num k h1
          have hx : nth l1 k < 65536 := HL1.out _ (nth_mem l1 k h1)
          have hS := fun W' (h : Below w.heap.size w W') => (h.cell (p := ⟨gl, ol + k, none⟩) (World.block_lt_of_cell? w _ hcell)).trans hcell
          generalize nth l1 k = x at *
          have HSS := Lib.hid hS
          have h3 : (k : Int) < (l1.length : Int) := by omega
          have h4 : (k : Int) < 100 := by omega
          have c0 := hS wr hb
          obtain ⟨y, hy⟩ : ∃ y, y = x / 256 := ⟨_, rfl⟩
          obtain ⟨z, hz⟩ : ∃ z, z = x % m := ⟨_, rfl⟩
          have hq1 : IntKind.u16.wrap ((x : Int) / 256) = (y : Int) := byte_of x y hx hy
          have hq2 : IntKind.u8.wrap (y : Int) = (y : Int) := byte_u8 y (by omega)
          have hq3 : (y : Int) % 256 = (y : Int) := byte_mod y (by omega)
          have HZI := Lib.hid (mod_nat x m z hz)
          have HZT := Lib.hid (tmod_nat x m z hz)
          have hy256 : y < 256 := by omega
          have hzm : z < m := by rw [hz]; exact Nat.mod_lt _ (by omega)
          have hm5 : ((m : Int) == 0) = false := by simp; omega
          have hm6 : ¬ m = 0 := by omega
          clear hS hcell hy hz
          go_wp2_with fail
          try rw [HZI.out]
          try rw [HZT.out]
          refine (fill_any 1024 y wr (by omega) (by first | omega | assumption)).mono ?_
          rintro e w21 ⟨Aa, ca, rfl, hra21, hb21⟩
          have haad21 := (Aside.row hra21 hd.top).up (Nat.le_refl _)
          have hb021 := below_next0 hb hb21
          have hdd21 := hd.below hb21
          have hrg21 := hG.below hb21
          have hagd21 := ha.up hb21.size
          clear hb hd hG ha hb21
          obtain ⟨La, hEa⟩ : ∃ L, L = List.replicate 1024 y := ⟨_, rfl⟩
          rw [← hEa] at hra21
          have HLa := Lib.hid (show La.length = 1024 by rw [hEa, List.length_replicate])
          have HBa := Lib.hid (show Bytes La by rw [hEa]; exact rep_bytes _ _ (by first | omega | assumption))
          have HEa := Lib.hid hEa
          clear hEa
          go_wp2_with fail
          refine (dg_writeb hdd21 (z : Int) 1024 Aa ca La hra21 haad21 HBa.out (by have := HLa.out; omega) (HSM.out.c (by omega)) (HSM.out.m (by omega) 2)).mono ?_
          rintro e w22 ⟨he, Sd22, hdd22, hg22, hc22⟩
          obtain ⟨q22, rfl⟩ : ∃ q : Nat, e = .returned (.int .u16 (q : Nat)) := ⟨_, he⟩
          clear he
          have hb022 := hdd21.after hb021 hc22
          have hrg22 := hrg21.keep hc22 hagd21.off
          have hagd22 := hagd21.now hg22 hc22.size
          have hra22 := own_aside hra21 haad21 hc22
          have haad22 := haad21.now hg22 hc22.size
          clear hdd21 hb021 hrg21 hagd21 hra21 haad21 hc22 hg22
          clear hra22 haad22
          have hwr : (D.write (z : Int) La).2 = (D.go 2).put (8 * z) La 8 := by rw [HCA.out.write z (by rw [HPG.out]; exact hzm) La (.inl HLa.out), HLa.out]
          rw [hwr] at hdd22
          obtain ⟨D', hD'⟩ : ∃ D', D' = (D.go 2).put (8 * z) La 8 := ⟨_, rfl⟩
          rw [← hD'] at hdd22
          have HDD := Lib.hid hD'
          have HIN : Hid (KeepsIn w.heap.size w22 pd gb Sd22 D' Z (fun _ => true) D.cache (8 * z) La 0) := Lib.hid ⟨L, X, hdd22, hrg22, hagd22, by rw [puts, List.append_nil, Nat.add_zero]; exact HL.out⟩
          have HBI := Lib.hid hb022
          clear hdd22 hrg22 hagd22 hb022 hwr hD' c0
          go_wp2_with fail
          go_loopw [16] (fun i wi => ∃ kk : Nat, kk ≤ 8 ∧ i = .int .i64 kk ∧ KeepsIn w.heap.size wi pd gb Sd22 D' Z (fun _ => true) D.cache (8 * z) La kk ∧ Below w.heap.size w wi) (fun i _ => 8 - (intOf i).toNat)
          case atStart => exact ⟨0, by omega, rfl, HIN.out, HBI.out⟩
          case round =>
            clear HIN HBI
            obtain ⟨kk, hkk, rfl, ⟨L', X', hd, hG, ha, hL'⟩, hb⟩ := hrel
            have HL' := Lib.hid hL'
            have HLL := Lib.hid (show L'.length = N by rw [hL', settled_length]; exact HZL.out)
            clear hL'
            by_cases hkl : kk < 8
            · have c0 := HSS.out wr hb
              have h5 : (kk : Int) < 8 := by omega
              have hlt8 : 8 * z + kk < N := by have := HN.out; omega
              have HLT8 := Lib.hid hlt8
              have h6 : 8 * (z : Int) + (kk : Int) < (N : Int) := by omega
              clear hlt8
              go_wp2_with fail
              refine (fill_any 128 y wr (by omega) (by first | omega | assumption)).mono ?_
              rintro e w31 ⟨A31, c31, rfl, hr31, hb31⟩
              have hG31 := hG.below hb31
              have hd31 := hd.below hb31
              have ha31 := ha.up hb31.size
              have hb031 := below_next0 hb hb31
              obtain ⟨A5, c5, hcell, _⟩ := hG31.cell (8 * z + kk) (by rw [HLL.out]; exact HLT8.out)
              have hfr := hG31.frozen (8 * z + kk)
              obtain ⟨j1, j2, j3, j4⟩ := grid_store hd31 hG31 ha31 (8 * z + kk) (by rw [HLL.out]; exact HLT8.out) (own_down hr31 hb.size) (fun x hx => by
                have := (row_lt hr31 hx).1
                have h1 := (hG.lt _ hG.here).2
                exact ⟨by omega, fun h => by have := hd.top x h; omega⟩)
              have HB5 := Lib.hid (hb031.trans (j4.below hb031.size (fun x hx => by rw [show x = gb from hx]; exact (hG.lt _ hG.here).1)))
              have J1 := Lib.hid j1
              have J2 := Lib.hid j2
              have J3 := Lib.hid j3
              have HR31 := Lib.hid hr31
              clear hG31 hd31 ha31 hb031 j1 j2 j3 j4 hd hG ha hb hr31 hb31 c0
              have HEQ := Lib.hid (keeps_step Z D.cache (8 * z) La (fun _ => true) kk)
              have HPR := Lib.hid (show (La.drop (128 * kk)).take 128 = List.replicate 128 y by rw [HEa.out]; exact part_rep y 1024 kk (by omega))
              go_wp2_with fail
              case roundEnd =>
                refine ⟨⟨kk + 1, by omega, by go_num, ⟨_, _, J1.out, J2.out, J3.out, ?_⟩, HB5.out⟩, by simp only [intOf]; omega⟩
                rw [HEQ.out, HPR.out, ← HL'.out]; simp
            · obtain rfl : kk = 8 := by omega
              have HD9 := Lib.hid hd
              have HG9 := Lib.hid hG
              have HA9 := Lib.hid ha
              have HB9 := Lib.hid hb
              clear hd hG ha hb
              go_wp2_with fail
              case roundEnd =>
                have hcc : D'.cache = D.cache ++ puts (8 * z) La 8 := by rw [HDD.out]; rfl
                refine ⟨⟨k + 1, by omega, by go_num, ⟨_, _, _, _, _, HD9.out, HG9.out, HA9.out, ?_, ?_, ?_, ?_, ?_, rfl⟩, HB9.out⟩, by simp only [intOf]; omega⟩
                · rw [HL'.out, hcc, List.length_append, puts_length]
                · rw [HDD.out]; exact HZD.out
                · rw [HDD.out]; exact (HCA.out.go 2).put _ _ _
                · rw [HDD.out]; exact HPG.out
                · have := HSM.out.write (z : Int) La
                  rw [HCA.out.write z (by rw [HPG.out]; exact hzm) La (.inl HLa.out), HLa.out] at this
                  rw [HDD.out]; exact this
        · go_wp2_with fail
          all_goals
            refine (dg_sync hd hd.new_n (HSM.out.c (by omega)) (HSM.out.m (by omega) 3)).mono ?_
            rintro e w41 ⟨he, Sd41, hdd41, hg41, hc41⟩
            obtain ⟨q41, rfl⟩ : ∃ q : Nat, e = .returned (.int .u16 (q : Nat)) := ⟨_, he⟩
            clear he
            have hb041 := hd.after hb hc41
            have hrg41 := hG.keep hc41 ha.off
            have hagd41 := ha.now hg41 hc41.size
            clear hd hb hG ha hc41 hg41
            have hsy : D.sync.2 = (D.go 3).settle fun _ => true := by rw [HCA.out.sync]
            rw [hsy] at hdd41
            obtain ⟨D1, hD1⟩ : ∃ D1, D1 = (D.go 3).settle fun _ => true := ⟨_, rfl⟩
            rw [← hD1] at hdd41
            have HD1L := Lib.hid (show D1.last = L by rw [hD1, HL.out, ← HZD.out]; rfl)
            have HD1C := Lib.hid (show D1.cache = [] by rw [hD1]; rfl)
            have HD1S := Lib.hid (show Small D1 (k + 1) by rw [hD1, ← hsy]; exact HSM.out.sync)
            have HD1P := Lib.hid (show D1.pages = m by rw [hD1, Dsk.settle_pages]; exact HPG.out)
            clear hsy hD1
            go_wp2_with fail
            refine (dg_cut hdd41 hdd41.new_n C cc bs (by rw [HD1C.out]; exact Nat.zero_le _) (fun w' hc' => HCT.out.below (hdd41.after hb041 hc'))).mono ?_
            rintro e w42 ⟨rfl, Sd42, hdd42, hg42, hc42⟩
            have hb042 := hdd41.after hb041 hc42
            have hrg42 := hrg41.keep hc42 hagd41.off
            have hagd42 := hagd41.now hg42 hc42.size
            clear hdd41 hb041 hrg41 hagd41 hc42 hg42
            have HLN := Lib.hid (show L.length = N by rw [HL.out, settled_length]; exact HZL.out)
            have HK2 := Lib.hid (show KeepsAt w.heap.size w42 pd gb m L (fun i => bs.getD i false) 101 0 from ⟨_, _, _, _, hdd42, hrg42, hagd42, rfl, by
              show settled D1.last D1.cache _ D1.cache.length = L
              rw [HD1C.out, settled_none, HD1L.out], Dsk.cut_calm _ _, by rw [Dsk.cut_pages]; exact HD1P.out, (HD1S.out.cut bs).mono (by omega), rfl⟩)
            have HB2 := Lib.hid hb042
            clear hdd42 hrg42 hagd42 hb042
            go_wp2_with fail
            go_loopw [17, 18] (fun mn i wr => ∃ k : Nat, k ≤ 100 ∧ i = .int .i64 k ∧ (∃ cn : Nat, mn = .int .i64 (cn : Int) ∧ cn ≤ 8 * k ∧ KeepsAt w.heap.size wr pd gb m L (fun i => bs.getD i false) (101 + k) cn) ∧ Below w.heap.size w wr) (fun _ i _ => 100 - (intOf i).toNat)
            case atStart => exact ⟨0, by omega, rfl, ⟨0, rfl, by omega, HK2.out⟩, HB2.out⟩
            case round =>
              clear HK2 HB2 HSM HPG HCA HZD
              obtain ⟨k, hk, rfl, ⟨cn, rfl, hcn, D, S, LL, X, hd, hG, ha, hL, hZ, hcalm, hpg, hsm, hcc⟩, hb⟩ := hrel
              have HL := Lib.hid hL
              have HZD := Lib.hid hZ
              have HCA := Lib.hid hcalm
              have HPG := Lib.hid hpg
              have HSM := Lib.hid hsm
              have HCC := Lib.hid hcc
              clear hL hZ hcalm hpg hsm hcc
              by_cases hlt : k < l2.length ∧ k < 100
              · obtain ⟨h1, h2⟩ := hlt
                obtain ⟨gl, ol, rfl, hcell⟩ := (HBT.out).num k h1
                have hx : nth l2 k < 65536 := HL2.out _ (nth_mem l2 k h1)
                have hS := fun W' (h : Below w.heap.size w W') => (h.cell (p := ⟨gl, ol + k, none⟩) (World.block_lt_of_cell? w _ hcell)).trans hcell
                generalize nth l2 k = x at *
                have h3 : (k : Int) < (l2.length : Int) := by omega
                have h4 : (k : Int) < 100 := by omega
                have c0 := hS wr hb
                obtain ⟨y, hy⟩ : ∃ y, y = x / 256 := ⟨_, rfl⟩
                obtain ⟨z, hz⟩ : ∃ z, z = x % m := ⟨_, rfl⟩
                have hq1 : IntKind.u16.wrap ((x : Int) / 256) = (y : Int) := byte_of x y hx hy
                have hq2 : IntKind.u8.wrap (y : Int) = (y : Int) := byte_u8 y (by omega)
                have hq3 : (y : Int) % 256 = (y : Int) := byte_mod y (by omega)
                have HZI := Lib.hid (mod_nat x m z hz)
                have HZT := Lib.hid (tmod_nat x m z hz)
                have hy256 : y < 256 := by omega
                have hzm : z < m := by rw [hz]; exact Nat.mod_lt _ (by omega)
                have hm5 : ((m : Int) == 0) = false := by simp; omega
                have hm6 : ¬ m = 0 := by omega
                clear hS hcell hy hz
                by_cases hpar : y % 2 = 1
                · have hp1 : ((y : Int) % 2 == 1) = true := by simp; omega
                  have hp2 : (y : Int) % 2 = 1 := by omega
                  clear hpar
                  go_wp2_with fail
                  try rw [HZI.out]
                  try rw [HZT.out]
                  refine (fill_any 128 y wr (by omega) (by first | omega | assumption)).mono ?_
                  rintro e w61 ⟨Aa, ca, rfl, hra61, hb61⟩
                  have haad61 := (Aside.row hra61 hd.top).up (Nat.le_refl _)
                  have hb061 := below_next0 hb hb61
                  have hdd61 := hd.below hb61
                  have hrg61 := hG.below hb61
                  have hagd61 := ha.up hb61.size
                  clear hb hd hG ha hb61
                  obtain ⟨La, hEa⟩ : ∃ L, L = List.replicate 128 y := ⟨_, rfl⟩
                  rw [← hEa] at hra61
                  have HLa := Lib.hid (show La.length = 128 by rw [hEa, List.length_replicate])
                  have HBa := Lib.hid (show Bytes La by rw [hEa]; exact rep_bytes _ _ (by first | omega | assumption))
                  have HEa := Lib.hid hEa
                  clear hEa
                  go_wp2_with fail
                  refine (dg_writeb hdd61 (z : Int) 128 Aa ca La hra61 haad61 HBa.out (by have := HLa.out; omega) (HSM.out.c (by omega)) (HSM.out.m (by omega) 2)).mono ?_
                  rintro e w62 ⟨he, Sd62, hdd62, hg62, hc62⟩
                  obtain ⟨q62, rfl⟩ : ∃ q : Nat, e = .returned (.int .u16 (q : Nat)) := ⟨_, he⟩
                  clear he
                  have hb062 := hdd61.after hb061 hc62
                  have hrg62 := hrg61.keep hc62 hagd61.off
                  have hagd62 := hagd61.now hg62 hc62.size
                  have hra62 := own_aside hra61 haad61 hc62
                  have haad62 := haad61.now hg62 hc62.size
                  clear hdd61 hb061 hrg61 hagd61 hra61 haad61 hc62 hg62
                  clear hra62 haad62
                  have hwr : (D.write (z : Int) La).2 = (D.go 2).put (8 * z) La 1 := by rw [HCA.out.write z (by rw [HPG.out]; exact hzm) La (by have := HLa.out; omega), HLa.out]
                  rw [hwr] at hdd62
                  obtain ⟨D', hD'⟩ : ∃ D', D' = (D.go 2).put (8 * z) La 1 := ⟨_, rfl⟩
                  rw [← hD'] at hdd62
                  have HDD := Lib.hid hD'
                  have HIN : Hid (KeepsIn w.heap.size w62 pd gb Sd62 D' L (fun i => bs.getD i false) D.cache (8 * z) La 0) := Lib.hid ⟨LL, X, hdd62, hrg62, hagd62, by rw [puts, List.append_nil, Nat.add_zero]; exact HL.out⟩
                  have HBI := Lib.hid hb062
                  clear hdd62 hrg62 hagd62 hb062 hwr hD' c0
                  go_wp2_with fail
                  go_loopw [17, 22] (fun mn i wi => ∃ kk : Nat, kk ≤ 1 ∧ i = .int .i64 kk ∧ (∃ mm : Nat, mn = .int .i64 (mm : Int) ∧ mm = cn + kk) ∧ KeepsIn w.heap.size wi pd gb Sd62 D' L (fun i => bs.getD i false) D.cache (8 * z) La kk ∧ Below w.heap.size w wi) (fun _ i _ => 1 - (intOf i).toNat)
                  case atStart => exact ⟨0, by omega, rfl, ⟨cn, rfl, rfl⟩, HIN.out, HBI.out⟩
                  case round =>
                    clear HIN HBI
                    obtain ⟨kk, hkk, rfl, ⟨mm, rfl, hmm⟩, ⟨L', X', hd, hG, ha, hL'⟩, hb⟩ := hrel
                    have HL' := Lib.hid hL'
                    have HLL := Lib.hid (show L'.length = N by rw [hL', settled_length]; exact HLN.out)
                    have HMM := Lib.hid hmm
                    have hm800 : mm ≤ 1000 := by omega
                    clear hL' hmm
                    by_cases hkl : kk < 1
                    · have h5 : (kk : Int) < 1 := by omega
                      have h51 : 128 * (kk : Int) < 128 := by omega
                      have hlt8 : 8 * z + kk < N := by have := HN.out; omega
                      have HLT8 := Lib.hid hlt8
                      have h6 : 8 * (z : Int) + (kk : Int) < (N : Int) := by omega
                      have heq := keeps_step L D.cache (8 * z) La (fun i => bs.getD i false) kk
                      rw [show D.cache.length + kk = mm by rw [HCC.out, HMM.out]] at heq
                      have HEQ := Lib.hid heq
                      have HPR := Lib.hid (show (La.drop (128 * kk)).take 128 = List.replicate 128 y by rw [HEa.out]; exact part_rep y 128 kk (by omega))
                      have HML := Lib.hid (show D.cache.length + kk = mm by rw [HCC.out, HMM.out])
                      clear hlt8 heq
                      by_cases hmb : mm < bs.length
                      · obtain ⟨gk, ok, e, hr⟩ := (HCT.out.below hb) (by intro e; have := congrArg List.length e; simp at this; rw [this] at hmb; simp at hmb)
                        have hcK : wr.cell? ⟨gk, ok + mm, none⟩ = some (.bool (bs.getD mm false)) := hr mm _ (by simp [hmb, List.getD_eq_getElem?_getD])
                        subst e
                        have h7 : (mm : Int) < (bs.length : Int) := by omega
                        by_cases hkv : bs.getD mm false = true
                        · rw [hkv] at hcK
                          have HKV := Lib.hid hkv
                          clear hkv hr
                          go_wp2_with fail
                          refine (fill_any 128 y wr (by omega) (by first | omega | assumption)).mono ?_
                          rintro e w31 ⟨A31, c31, rfl, hr31, hb31⟩
                          have hG31 := hG.below hb31
                          have hd31 := hd.below hb31
                          have ha31 := ha.up hb31.size
                          have hb031 := below_next0 hb hb31
                          obtain ⟨A5, c5, hcell, _⟩ := hG31.cell (8 * z + kk) (by rw [HLL.out]; exact HLT8.out)
                          have hfr := hG31.frozen (8 * z + kk)
                          obtain ⟨j1, j2, j3, j4⟩ := grid_store hd31 hG31 ha31 (8 * z + kk) (by rw [HLL.out]; exact HLT8.out) (own_down hr31 hb.size) (fun x hx => by
                            have := (row_lt hr31 hx).1
                            have h1 := (hG.lt _ hG.here).2
                            exact ⟨by omega, fun h => by have := hd.top x h; omega⟩)
                          have HB5 := Lib.hid (hb031.trans (j4.below hb031.size (fun x hx => by rw [show x = gb from hx]; exact (hG.lt _ hG.here).1)))
                          have J1 := Lib.hid j1
                          have J2 := Lib.hid j2
                          have J3 := Lib.hid j3
                          have HR31 := Lib.hid hr31
                          clear hG31 hd31 ha31 hb031 j1 j2 j3 j4 hd hG ha hb hr31 hb31
                          go_wp2_with fail
                          case roundEnd =>
                            refine ⟨⟨kk + 1, by omega, by go_num, ⟨mm + 1, by go_num, by have := HMM.out; omega⟩, ⟨_, _, J1.out, J2.out, J3.out, ?_⟩, HB5.out⟩, by simp only [intOf]; omega⟩
                            rw [HEQ.out, HKV.out, HPR.out, ← HML.out, ← HL'.out]; simp
                        · rw [show bs.getD mm false = false by simpa using hkv] at hcK
                          have HKV := Lib.hid (show bs.getD mm false = false by simpa using hkv)
                          clear hkv hr
                          have HD5 := Lib.hid hd
                          have HG5 := Lib.hid hG
                          have HA5 := Lib.hid ha
                          have HB5 := Lib.hid hb
                          clear hd hG ha hb
                          go_wp2_with fail
                          case roundEnd =>
                            refine ⟨⟨kk + 1, by omega, by go_num, ⟨mm + 1, by go_num, by have := HMM.out; omega⟩, ⟨_, _, HD5.out, HG5.out, HA5.out, ?_⟩, HB5.out⟩, by simp only [intOf]; omega⟩
                            rw [HEQ.out, HKV.out, ← HML.out, ← HL'.out]; simp
                      · have h7 : ¬ (mm : Int) < (bs.length : Int) := by omega
                        have HKV := Lib.hid (show bs.getD mm false = false by rw [List.getD_eq_getElem?_getD, List.getElem?_eq_none (by omega)]; rfl)
                        have HD5 := Lib.hid hd
                        have HG5 := Lib.hid hG
                        have HA5 := Lib.hid ha
                        have HB5 := Lib.hid hb
                        clear hd hG ha hb
                        go_wp2_with fail
                        case roundEnd =>
                          refine ⟨⟨kk + 1, by omega, by go_num, ⟨mm + 1, by go_num, by have := HMM.out; omega⟩, ⟨_, _, HD5.out, HG5.out, HA5.out, ?_⟩, HB5.out⟩, by simp only [intOf]; omega⟩
                          rw [HEQ.out, HKV.out, ← HML.out, ← HL'.out]; simp
                    · obtain rfl : 1 = kk := by omega
                      have HD9 := Lib.hid hd
                      have HG9 := Lib.hid hG
                      have HA9 := Lib.hid ha
                      have HB9 := Lib.hid hb
                      clear hd hG ha hb
                      go_wp2_with fail
                      case roundEnd =>
                        have hcc : D'.cache = D.cache ++ puts (8 * z) La 1 := by rw [HDD.out]; rfl
                        refine ⟨⟨k + 1, by omega, by go_num, ⟨mm, rfl, by have := HMM.out; omega, _, _, _, _, HD9.out, HG9.out, HA9.out, ?_, ?_, ?_, ?_, ?_, ?_⟩, HB9.out⟩, by simp only [intOf]; omega⟩
                        · rw [HL'.out, hcc, List.length_append, puts_length]
                        · rw [HDD.out]; exact HZD.out
                        · rw [HDD.out]; exact (HCA.out.go 2).put _ _ _
                        · rw [HDD.out]; exact HPG.out
                        · have := HSM.out.write (z : Int) La
                          rw [HCA.out.write z (by rw [HPG.out]; exact hzm) La (by have := HLa.out; omega), HLa.out] at this
                          rw [HDD.out]; exact this
                        · rw [hcc, List.length_append, puts_length, HCC.out]; exact HMM.out.symm
                · have hp1 : ((y : Int) % 2 == 1) = false := by simp; omega
                  have hp2 : ¬ (y : Int) % 2 = 1 := by omega
                  clear hpar
                  go_wp2_with fail
                  try rw [HZI.out]
                  try rw [HZT.out]
                  refine (fill_any 1024 y wr (by omega) (by first | omega | assumption)).mono ?_
                  rintro e w61 ⟨Aa, ca, rfl, hra61, hb61⟩
                  have haad61 := (Aside.row hra61 hd.top).up (Nat.le_refl _)
                  have hb061 := below_next0 hb hb61
                  have hdd61 := hd.below hb61
                  have hrg61 := hG.below hb61
                  have hagd61 := ha.up hb61.size
                  clear hb hd hG ha hb61
                  obtain ⟨La, hEa⟩ : ∃ L, L = List.replicate 1024 y := ⟨_, rfl⟩
                  rw [← hEa] at hra61
                  have HLa := Lib.hid (show La.length = 1024 by rw [hEa, List.length_replicate])
                  have HBa := Lib.hid (show Bytes La by rw [hEa]; exact rep_bytes _ _ (by first | omega | assumption))
                  have HEa := Lib.hid hEa
                  clear hEa
                  go_wp2_with fail
                  refine (dg_writeb hdd61 (z : Int) 1024 Aa ca La hra61 haad61 HBa.out (by have := HLa.out; omega) (HSM.out.c (by omega)) (HSM.out.m (by omega) 2)).mono ?_
                  rintro e w62 ⟨he, Sd62, hdd62, hg62, hc62⟩
                  obtain ⟨q62, rfl⟩ : ∃ q : Nat, e = .returned (.int .u16 (q : Nat)) := ⟨_, he⟩
                  clear he
                  have hb062 := hdd61.after hb061 hc62
                  have hrg62 := hrg61.keep hc62 hagd61.off
                  have hagd62 := hagd61.now hg62 hc62.size
                  have hra62 := own_aside hra61 haad61 hc62
                  have haad62 := haad61.now hg62 hc62.size
                  clear hdd61 hb061 hrg61 hagd61 hra61 haad61 hc62 hg62
                  clear hra62 haad62
                  have hwr : (D.write (z : Int) La).2 = (D.go 2).put (8 * z) La 8 := by rw [HCA.out.write z (by rw [HPG.out]; exact hzm) La (by have := HLa.out; omega), HLa.out]
                  rw [hwr] at hdd62
                  obtain ⟨D', hD'⟩ : ∃ D', D' = (D.go 2).put (8 * z) La 8 := ⟨_, rfl⟩
                  rw [← hD'] at hdd62
                  have HDD := Lib.hid hD'
                  have HIN : Hid (KeepsIn w.heap.size w62 pd gb Sd62 D' L (fun i => bs.getD i false) D.cache (8 * z) La 0) := Lib.hid ⟨LL, X, hdd62, hrg62, hagd62, by rw [puts, List.append_nil, Nat.add_zero]; exact HL.out⟩
                  have HBI := Lib.hid hb062
                  clear hdd62 hrg62 hagd62 hb062 hwr hD' c0
                  go_wp2_with fail
                  go_loopw [17, 22] (fun mn i wi => ∃ kk : Nat, kk ≤ 8 ∧ i = .int .i64 kk ∧ (∃ mm : Nat, mn = .int .i64 (mm : Int) ∧ mm = cn + kk) ∧ KeepsIn w.heap.size wi pd gb Sd62 D' L (fun i => bs.getD i false) D.cache (8 * z) La kk ∧ Below w.heap.size w wi) (fun _ i _ => 8 - (intOf i).toNat)
                  case atStart => exact ⟨0, by omega, rfl, ⟨cn, rfl, rfl⟩, HIN.out, HBI.out⟩
                  case round =>
                    clear HIN HBI
                    obtain ⟨kk, hkk, rfl, ⟨mm, rfl, hmm⟩, ⟨L', X', hd, hG, ha, hL'⟩, hb⟩ := hrel
                    have HL' := Lib.hid hL'
                    have HLL := Lib.hid (show L'.length = N by rw [hL', settled_length]; exact HLN.out)
                    have HMM := Lib.hid hmm
                    have hm800 : mm ≤ 1000 := by omega
                    clear hL' hmm
                    by_cases hkl : kk < 8
                    · have h5 : (kk : Int) < 8 := by omega
                      have h51 : 128 * (kk : Int) < 1024 := by omega
                      have hlt8 : 8 * z + kk < N := by have := HN.out; omega
                      have HLT8 := Lib.hid hlt8
                      have h6 : 8 * (z : Int) + (kk : Int) < (N : Int) := by omega
                      have heq := keeps_step L D.cache (8 * z) La (fun i => bs.getD i false) kk
                      rw [show D.cache.length + kk = mm by rw [HCC.out, HMM.out]] at heq
                      have HEQ := Lib.hid heq
                      have HPR := Lib.hid (show (La.drop (128 * kk)).take 128 = List.replicate 128 y by rw [HEa.out]; exact part_rep y 1024 kk (by omega))
                      have HML := Lib.hid (show D.cache.length + kk = mm by rw [HCC.out, HMM.out])
                      clear hlt8 heq
                      by_cases hmb : mm < bs.length
                      · obtain ⟨gk, ok, e, hr⟩ := (HCT.out.below hb) (by intro e; have := congrArg List.length e; simp at this; rw [this] at hmb; simp at hmb)
                        have hcK : wr.cell? ⟨gk, ok + mm, none⟩ = some (.bool (bs.getD mm false)) := hr mm _ (by simp [hmb, List.getD_eq_getElem?_getD])
                        subst e
                        have h7 : (mm : Int) < (bs.length : Int) := by omega
                        by_cases hkv : bs.getD mm false = true
                        · rw [hkv] at hcK
                          have HKV := Lib.hid hkv
                          clear hkv hr
                          go_wp2_with fail
                          refine (fill_any 128 y wr (by omega) (by first | omega | assumption)).mono ?_
                          rintro e w31 ⟨A31, c31, rfl, hr31, hb31⟩
                          have hG31 := hG.below hb31
                          have hd31 := hd.below hb31
                          have ha31 := ha.up hb31.size
                          have hb031 := below_next0 hb hb31
                          obtain ⟨A5, c5, hcell, _⟩ := hG31.cell (8 * z + kk) (by rw [HLL.out]; exact HLT8.out)
                          have hfr := hG31.frozen (8 * z + kk)
                          obtain ⟨j1, j2, j3, j4⟩ := grid_store hd31 hG31 ha31 (8 * z + kk) (by rw [HLL.out]; exact HLT8.out) (own_down hr31 hb.size) (fun x hx => by
                            have := (row_lt hr31 hx).1
                            have h1 := (hG.lt _ hG.here).2
                            exact ⟨by omega, fun h => by have := hd.top x h; omega⟩)
                          have HB5 := Lib.hid (hb031.trans (j4.below hb031.size (fun x hx => by rw [show x = gb from hx]; exact (hG.lt _ hG.here).1)))
                          have J1 := Lib.hid j1
                          have J2 := Lib.hid j2
                          have J3 := Lib.hid j3
                          have HR31 := Lib.hid hr31
                          clear hG31 hd31 ha31 hb031 j1 j2 j3 j4 hd hG ha hb hr31 hb31
                          go_wp2_with fail
                          case roundEnd =>
                            refine ⟨⟨kk + 1, by omega, by go_num, ⟨mm + 1, by go_num, by have := HMM.out; omega⟩, ⟨_, _, J1.out, J2.out, J3.out, ?_⟩, HB5.out⟩, by simp only [intOf]; omega⟩
                            rw [HEQ.out, HKV.out, HPR.out, ← HML.out, ← HL'.out]; simp
                        · rw [show bs.getD mm false = false by simpa using hkv] at hcK
                          have HKV := Lib.hid (show bs.getD mm false = false by simpa using hkv)
                          clear hkv hr
                          have HD5 := Lib.hid hd
                          have HG5 := Lib.hid hG
                          have HA5 := Lib.hid ha
                          have HB5 := Lib.hid hb
                          clear hd hG ha hb
                          go_wp2_with fail
                          case roundEnd =>
                            refine ⟨⟨kk + 1, by omega, by go_num, ⟨mm + 1, by go_num, by have := HMM.out; omega⟩, ⟨_, _, HD5.out, HG5.out, HA5.out, ?_⟩, HB5.out⟩, by simp only [intOf]; omega⟩
                            rw [HEQ.out, HKV.out, ← HML.out, ← HL'.out]; simp
                      · have h7 : ¬ (mm : Int) < (bs.length : Int) := by omega
                        have HKV := Lib.hid (show bs.getD mm false = false by rw [List.getD_eq_getElem?_getD, List.getElem?_eq_none (by omega)]; rfl)
                        have HD5 := Lib.hid hd
                        have HG5 := Lib.hid hG
                        have HA5 := Lib.hid ha
                        have HB5 := Lib.hid hb
                        clear hd hG ha hb
                        go_wp2_with fail
                        case roundEnd =>
                          refine ⟨⟨kk + 1, by omega, by go_num, ⟨mm + 1, by go_num, by have := HMM.out; omega⟩, ⟨_, _, HD5.out, HG5.out, HA5.out, ?_⟩, HB5.out⟩, by simp only [intOf]; omega⟩
                          rw [HEQ.out, HKV.out, ← HML.out, ← HL'.out]; simp
                    · obtain rfl : 8 = kk := by omega
                      have HD9 := Lib.hid hd
                      have HG9 := Lib.hid hG
                      have HA9 := Lib.hid ha
                      have HB9 := Lib.hid hb
                      clear hd hG ha hb
                      go_wp2_with fail
                      case roundEnd =>
                        have hcc : D'.cache = D.cache ++ puts (8 * z) La 8 := by rw [HDD.out]; rfl
                        refine ⟨⟨k + 1, by omega, by go_num, ⟨mm, rfl, by have := HMM.out; omega, _, _, _, _, HD9.out, HG9.out, HA9.out, ?_, ?_, ?_, ?_, ?_, ?_⟩, HB9.out⟩, by simp only [intOf]; omega⟩
                        · rw [HL'.out, hcc, List.length_append, puts_length]
                        · rw [HDD.out]; exact HZD.out
                        · rw [HDD.out]; exact (HCA.out.go 2).put _ _ _
                        · rw [HDD.out]; exact HPG.out
                        · have := HSM.out.write (z : Int) La
                          rw [HCA.out.write z (by rw [HPG.out]; exact hzm) La (by have := HLa.out; omega), HLa.out] at this
                          rw [HDD.out]; exact this
                        · rw [hcc, List.length_append, puts_length, HCC.out]; exact HMM.out.symm
              · go_wp2_with fail
                all_goals
                  refine (dg_cut hd hd.new_n C cc bs (HSM.out.c (by omega)) (fun w' hc' => HCT.out.below (hd.after hb hc'))).mono ?_
                  rintro e w81 ⟨rfl, Sd81, hdd81, hg81, hc81⟩
                  have hb081 := hd.after hb hc81
                  have hrg81 := hG.keep hc81 ha.off
                  have hagd81 := ha.now hg81 hc81.size
                  clear hd hb hG ha hc81 hg81
                  have hlast : (D.cut bs).last = LL := by rw [HL.out, ← HZD.out]; rfl
                  have h128 : ∀ s ∈ LL, s.length = 128 := fun s hs => (hdd81.ok.last s (by rw [hlast]; exact hs)).1
                  have hLLn : LL.length = N := by rw [HL.out, settled_length]; exact HLN.out
                  obtain ⟨FI, hFI⟩ : ∃ F, F = (D.cut bs).last.flatten := ⟨_, rfl⟩
                  have HFI := Lib.hid hFI
                  have hFI2 : FI = LL.flatten := by rw [hFI, hlast]
                  have hFL : FI.length = 128 * N := by rw [hFI2, rows_length h128, hLLn]
                  obtain ⟨FN, hFN⟩ : ∃ n : Nat, n = FI.length := ⟨_, rfl⟩
                  have hfn1 : ((FN : Int) != 1024 * (m : Int)) = false := by have := HN.out; simp; omega
                  have hfn2 : (FN : Int) = 1024 * (m : Int) := by have := HN.out; omega
                  have HFN2 := Lib.hid hfn2
                  have HFN := Lib.hid hFN
                  have HFL := Lib.hid hFL
                  have HF2 := Lib.hid hFI2
                  have H128 := Lib.hid h128
                  have HLLN := Lib.hid hLLn
                  clear hlast h128 hLLn hFI hFI2 hFL hFN hfn2
                  go_wp2_with fail
                  refine (dg_imagel hdd81 HFI.out).mono ?_
                  rintro e w82 ⟨Ai, ci, he, hri82, hb82⟩
                  rw [← HFN.out] at he
                  subst he
                  have haid82 := (Aside.row hri82 hdd81.top).up (Nat.le_refl _)
                  have hb082 := below_next0 hb081 hb82
                  have hdd82 := hdd81.below hb82
                  have hrg82 := hrg81.below hb82
                  have hagd82 := hagd81.up hb82.size
                  clear hb081 hdd81 hrg81 hagd81 hb82
                  go_wp2_with fail
                  refine (dg_pending hdd82 (by show 0 ≤ _; omega)).mono ?_
                  rintro e w83 ⟨Ap, cp, he, hrp83, hb83⟩
                  rw [show ((D.cut bs).cache.map (·.1)).length = 0 from rfl] at he
                  subst he
                  skip
                  have hb083 := below_next0 hb082 hb83
                  have hdd83 := hdd82.below hb83
                  have hrg83 := hrg82.below hb83
                  have hagd83 := hagd82.up hb83.size
                  have hri83 := own_below hri82 hb83
                  have haid83 := haid82.up hb83.size
                  clear hb082 hdd82 hrg82 hagd82 hri82 haid82 hb83
                  obtain ⟨gi, capi, hvi, _, hgi2, hci, _⟩ := own_form hri83 (by have := HFL.out; have := HM.out; have := HN.out; omega)
                  injection hvi with e1 e2 e3
                  have HCI := Lib.hid (show FI.length ≤ ci by rw [e3]; exact hci)
                  subst e1
                  clear e2 e3 hci
                  have hai : At w83 (some ⟨gi, 0, none⟩) (ns .u8 FI) := by
                    have := At.own hri83
                    obtain ⟨A', c', e, h1, _⟩ := this
                    injection e with e1
                    rw [← e1] at h1; exact h1
                  have HAI := Lib.hid hai
                  have HGR := Lib.hid hrg83
                  have HBE := Lib.hid hb083
                  clear hai hri83 hrg83 hb083 hdd83 haid83 hagd83
                  have hfz : ¬ (0 : Int) < 0 := by omega
                  go_wp2_with fail
                  go_loopw [24] (fun i wr => ∃ j : Nat, j ≤ N ∧ i = .int .i64 j ∧ At wr (some ⟨gi, 0, none⟩) (ns .u8 FI) ∧ Grid w.heap.size wr gb LL X ∧ Below w.heap.size w wr) (fun i _ => N - (intOf i).toNat)
                  case atStart => exact ⟨0, by omega, rfl, HAI.out, HGR.out, HBE.out⟩
                  case round =>
                    clear HAI HGR HBE
                    obtain ⟨j, hj, rfl, hai, hgr, hb⟩ := hrel
                    by_cases hjl : j < N
                    · obtain ⟨A5, c5, hcell, hA5⟩ := hgr.cell j (by rw [HLLN.out]; exact hjl)
                      have hl5 : (LL.getD j []).length = 128 := H128.out _ (by rw [List.getD_eq_getElem?_getD, List.getElem?_eq_getElem (by rw [HLLN.out]; exact hjl)]; exact List.getElem_mem _)
                      have hpt := hai.part (128 * j) 128
                      rw [Nat.zero_add, HF2.out, flat_part H128.out j (by rw [HLLN.out]; exact hjl)] at hpt
                      rw [hl5] at hcell
                      generalize LL.getD j [] = row at *
                      have HL5 := Lib.hid hl5
                      have HPT := Lib.hid hpt
                      have HA5 := Lib.hid hA5
                      have HAI := Lib.hid hai
                      have HGR := Lib.hid hgr
                      have HB := Lib.hid hb
                      have h1 : (j : Int) < (N : Int) := by omega
                      have hFNN : FN = 128 * N := by have := HFN.out; have := HFL.out; omega
                      have hk1 : IntKind.i64.wrap (128 * (j : Int)) = 128 * (j : Int) := by rw [IntKind.wrap_i64]; omega
                      have hk2 : IntKind.i64.wrap (128 * (j : Int) + 128) = 128 * (j : Int) + 128 := by rw [IntKind.wrap_i64]; omega
                      have hk3 : (128 * (j : Int)).toNat = 128 * j := by omega
                      have hk4 : (128 * (j : Int) + 128).toNat = 128 * j + 128 := by omega
                      have hk5 : 0 ≤ 128 * (j : Int) := by omega
                      have hk6 : 128 * (j : Int) + 128 ≤ (FN : Int) := by omega
                      have hk7 : 128 * (j : Int) ≤ 128 * (j : Int) + 128 := by omega
                      have hk8 : 0 ≤ 128 * (j : Int) + 128 := by omega
                      have hk9 : 128 * j ≤ FN := by omega
                      have hkc : FN ≤ ci := by have := HCI.out; have := HFN.out; omega
                      have HLT97 := Lib.hid (show gb < wr.drew.heap.size from World.block_lt_of_cell? wr _ hcell)
                      have hk10 : ¬ ci = 128 * j := by omega
                      have hbr : Below wr.heap.size wr wr.drew := below_drew0 (Below.refl _ wr)
                      replace HPT := Lib.hid (HPT.out.below hbr)
                      replace HA5 := Lib.hid (HA5.out.below hbr)
                      replace HAI := Lib.hid (HAI.out.below hbr)
                      replace HGR := Lib.hid (HGR.out.below hbr)
                      replace HB := Lib.hid (below_next0 HB.out hbr)
                      clear hbr
                      have hka : 128 * (j : Int) + 128 ≤ (ci : Int) := by omega
                      clear hl5 hpt hA5 hai hgr hb hFNN
                      go_wp2_with fail
                      go_region_held3 (fun W' => W'.cell? ⟨gb, j, none⟩ = some (.slice A5 128 c5)) (first | exact hcell | exact (hb97.cell (p := ⟨gb, j, none⟩) HLT97.out).trans hcell | assumption) (first | (go_at_call 45; refine (same_eq _ _ 128 128 _ _ row row _ HL5.out.symm HL5.out.symm (by have := HL5.out; omega) rfl HPT.out HA5.out).mono ?_; rintro e w97 ⟨rfl, hb97⟩))
                      have HAI2 := Lib.hid (HAI.out.below hb97)
                      have HGR2 := Lib.hid (HGR.out.below hb97)
                      have HB2 := Lib.hid (below_next0 HB.out hb97)
                      clear hk1 hk2 hk3 hk4 hcell hb97
                      go_wp2
                      case roundEnd => exact ⟨⟨j + 1, by omega, by go_num, HAI2.out, HGR2.out, HB2.out⟩, by simp [intOf]; omega⟩
                    · go_wp2
                      go_ret
                      exact ⟨rfl, hb⟩
end Go.Proofs.Ytfbjjblgcgjndaa
