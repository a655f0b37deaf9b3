/- Walk of PageTurned. -/
import Derived.Test.YtfbjjblgcgjndaaNewest
import Derived.Test.YtfbjjblgcgjndaaR00a
set_option linter.unusedVariables false
set_option linter.unusedSimpArgs false
namespace Go.Proofs.Ytfbjjblgcgjndaa
open Go.RowKit

/-- a state as a sector, or none: both in one -/
def PutSaid (m : Meta) (w : World) (e : Ending) (w' : World) : Prop :=
  ∃ A l c f, e = .returned (.tuple #[.slice A l.length c, .int .u16 (f : Nat)]) ∧ (⟨A, l, c⟩ : Inner).Ok w' ∧ ((f = 0 ∧ MayBe m ∧ l = sector m) ∨ (f = 80 ∧ l = [])) ∧ Below w.heap.size w w'
theorem put_both (m : Meta) (w : World) (h : m.Ok) : Calls Try.prog 71 #[m.val] w (PutSaid m w) := by
  by_cases hm : MayBe m
  · refine (put_ok m w h hm).mono ?_
    rintro e w1 ⟨v, rfl, hv, hb, hs⟩
    obtain ⟨A, c, rfl, hI⟩ := hv.inner (sector_bytes m) (by rw [sector_length]; omega)
    exact ⟨A, _, c, 0, rfl, hI, .inl ⟨rfl, hm, rfl⟩, hb⟩
  · refine (put_no m w h hm).mono ?_
    rintro e w1 ⟨rfl, hb⟩
    exact ⟨none, [], 0, 80, rfl, ⟨At.nil _ _, fun _ => rfl, Nat.le_refl _, by simp, Bytes.nil⟩, .inr ⟨rfl, rfl⟩, hb⟩
theorem torn_page (k n number : Nat) (p : List Nat) {x : List Nat} {kk frm ch : Nat} (hk : k < 256) (hp : Bytes p) (h : Crc.Turned (sealed k n p) x kk frm ch 32) (hx : Bytes x) (hw : Crc.window ch kk 32 ≠ 0) : ¬ IsPage number x := by
  intro hi
  have hkx : kindOf x < 256 := by have := hi.2.2.1.2.1; omega
  have hpx : Bytes (payOf x) := (hx.drop 12).take _
  have h3 := hi.2.2.2
  exact hw (turned_closed h (fill_bytes _ _ ((front_bytes _ _ _ hk).append hp)) (fill_bytes _ _ ((front_bytes _ _ _ hkx).append hpx)) hx h3)

set_option maxRecDepth 100000 in
set_option maxHeartbeats 4000000 in
theorem pageTurned_any (k n n2 : Nat) (r : Inner) (M : Meta) (at_ : Int) (ch : Nat) (w : World) (hr : r.Ok w) (hm : M.Ok) (hk : k < 256) (hn : n < 4294967296) (hn2 : n2 < 4294967296) (hch : ch < 4294967296) :
    Calls Try.prog 19 #[.int .u8 (k : Int), .int .u32 (n : Int), .int .u32 (n2 : Int), .slice r.A r.l.length r.c, M.val, .int .i64 at_, .int .u32 (ch : Int)] w fun e w' => e = .returned (.bool true) ∧ Below w.heap.size w w' := by
  by_cases hbig : r.l.length ≤ 20000
  · have hX0 := MetaBox.new w M
    have hb0 := below_alloc0 (Below.refl w.heap.size w) (.cells M.cells 116)
    have hput := fun w => put_both M w hm
    simp only [Meta.val] at hput ⊢
    have HPut := Lib.hid hput
    clear hput
    go_enter Try.func19, Try.ntmps19
    go_wp2_with fail
    generalize w.alloc (.cells M.cells 116) = w0 at *
    refine (known08_any _).mono ?_
    rintro e w1 ⟨rfl, hb1⟩
    have hX1 := hX0.below hb1 (box_lt hX0)
    replace hb1 := below_next0 hb0 hb1
    clear hX0 hb0
    have hr1 := hr.below hb1
    obtain ⟨c0, c1, c2, c3, c4⟩ := meta_cells hX1
    by_cases hs1 : SealOk k r.l
    · go_wp2_with fail
      refine (seal_ok k n r.A r.c r.l w1 hs1 hk hn hr.bytes hr1.lies hr1.nil).mono ?_
      rintro e w2 ⟨v2, rfl, hv2, hb2, hz2⟩
      have hX2 := hX1.below hb2 (box_lt hX1)
      replace hb2 := below_next0 hb1 hb2
      clear hX1 hb1 hr1 c0 c1 c2 c3 c4
      have hsa := sealed_bytes k n r.l hk hr.bytes
      have hla := sealed_length k n r.l hs1.2.2
      have hpn := fun m hm => isPage_number m n k r.l hs1 hm hn
      obtain ⟨hp1, _, hp3, _⟩ := sealed_parts k n r.l hs1.2.2
      have htp := fun x kk frm (h : Crc.Turned (sealed k n r.l) x kk frm ch 32) hx hw => torn_page k n n r.l hk hr.bytes h hx hw
      obtain ⟨SA, hSA⟩ : ∃ SA, sealed k n r.l = SA := ⟨_, rfl⟩
      rw [hSA] at hv2 hsa hla hp1 hp3 htp
      simp only [hSA] at hpn
      clear hSA
      have HLA := Lib.hid hla
      have HP1 := Lib.hid hp1
      have HP3 := Lib.hid hp3
      have HPN := Lib.hid hpn
      have HTP := Lib.hid htp
      clear hla hp1 hp3 hpn htp
      obtain ⟨A2, k2, rfl, hI2⟩ := hv2.inner hsa (by have := HLA.out; omega)
      clear hv2
      rw [HLA.out]
      obtain ⟨c0, c1, c2, c3, c4⟩ := meta_cells hX2
      go_wp2_with fail
      refine (HPut.out _).mono ?_
      rintro e w4 ⟨A4, l4, k4, f4, rfl, hI4, hm4, hb4⟩
      have hI24 := hI2.below hb4
      replace hb4 := below_next0 hb2 hb4
      clear hX2 hb2 hI2 c0 c1 c2 c3 c4
      have HM4 := Lib.hid hm4
      clear hm4
      -- its own number
      have hop := open_yes n ⟨A2, SA, k2⟩ w4 hI24 hn ((HPN.out n hn).2 rfl)
      simp only at hop
      rw [HLA.out, HP1.out, HP3.out] at hop
      have HOP := Lib.hid hop
      clear hop
      go_wp2_with fail
      refine HOP.out.mono ?_
      rintro e w5 ⟨v5, rfl, hv5, hb5, hz5⟩
      obtain ⟨A5, k5, rfl, hI5⟩ := hv5.inner hr.bytes (by omega)
      clear hv5 HOP
      have hI25 := hI24.below hb5
      have hI45 := hI4.below hb5
      replace hb5 := below_next0 hb4 hb5
      clear hI24 hI4 hb4
      have htn := turned_any A2 k2 SA at_ ch
      by_cases ho : n2 = n
      · have g1 : ((n2 : Int) == (n : Int)) = true := by simp [ho]
        have g2 : (n2 == n) = true := by simp [ho]
        have hop := open_yes n2 ⟨A2, SA, k2⟩ w5 hI25 hn2 ((HPN.out n2 hn2).2 ho)
        simp only at hop
        rw [HLA.out, HP1.out, HP3.out] at hop
        have HOP := Lib.hid hop
        clear hop ho htn
        go_wp2_with fail
        refine HOP.out.mono ?_
        rintro e w6 ⟨v6, rfl, hv6, hb6, hz6⟩
        obtain ⟨A6, k6, rfl, hI6⟩ := hv6.inner hr.bytes (by omega)
        clear hv6 HOP
        have hI26 := hI25.below hb6
        have hI46 := hI45.below hb6
        have hI56 := hI5.below hb6
        replace hb6 := below_next0 hb5 hb6
        clear hI25 hI45 hI5 hb5
        have htn := turned_any A2 k2 SA at_ ch w6 hsa hI26.lies hI26.nil (by have := HLA.out; omega) (by have := HLA.out; omega) hch
        rw [HLA.out] at htn
        have HTN := Lib.hid htn
        clear htn
        go_wp2_with fail
        refine HTN.out.mono ?_
        rintro e w7 ⟨v7, x, kk, frm, rfl, hT7, hx0, hxb, hv7, hb7⟩
        have hxl : x.length = 1024 := by rw [hT7.1, HLA.out]
        obtain ⟨A7, k7, rfl, hx7⟩ := hv7.inner hxb (by omega)
        rw [hxl]
        have hI47 := hI46.below hb7
        have hI57 := hI56.below hb7
        replace hb7 := below_next0 hb6 hb7
        clear hI26 hI46 hI56 hb6 HTN hv7
        by_cases hw : Crc.window ch kk 32 ≠ 0
        · have hop := open_no n ⟨A7, x, k7⟩ w7 hx7 hn (HTP.out x kk frm hT7 hxb hw)
          simp only at hop
          rw [hxl] at hop
          rw [decide_eq_true hw]
          have HOP := Lib.hid hop
          clear hop hw hT7 hx0 hxl
          go_wp2_with fail
          refine HOP.out.mono ?_
          rintro e w8 ⟨rfl, hb8⟩
          have hI48 := hI47.below hb8
          have hI58 := hI57.below hb8
          have hr8 := hr.below (below_next0 hb7 hb8)
          replace hb8 := below_next0 hb7 hb8
          clear hI47 hI57 hb7 HOP
          have hsm := same_any A5 r.A k5 r.c r.l r.l w8 (by omega) (by omega) hI58.lies hr8.lies
          rw [decide_eq_true rfl] at hsm
          have HSM := Lib.hid hsm
          clear hsm
          go_wp2_with fail
          refine HSM.out.mono ?_
          rintro e w9 ⟨rfl, hb9⟩
          have hI4 := hI48.below hb9
          have hB := below_next0 hb8 hb9
          have hm4 := HM4.out
          clear hI48 hI58 hr8 hb8 HSM
          rcases hm4 with ⟨rfl, mm, rfl⟩ | ⟨rfl, rfl⟩
          · rw [sector_length]
            have hIok := hI4
            have htn := turned_any A4 k4 (sector M) at_ ch _ (sector_bytes M) hI4.lies hI4.nil (by rw [sector_length]; omega) (by rw [sector_length]; omega) hch
            rw [sector_length] at htn
            have HTN := Lib.hid htn
            have HMM := Lib.hid mm
            clear htn mm
            go_wp2_with fail
            refine HTN.out.mono ?_
            rintro e w9 ⟨v9, x, kk, frm, rfl, hT9, hx0, hxb, hv9, hb9⟩
            have hxl : x.length = 128 := by rw [hT9.1, sector_length]
            obtain ⟨A9, c9, rfl, hx9⟩ := hv9.inner hxb (by omega)
            rw [hxl]
            replace hb9 := below_next0 hB hb9
            obtain ⟨hms1, hms2⟩ := isMeta_sector0 M hm HMM.out
            by_cases hw : Crc.window ch kk 32 ≠ 0
            · have hget := get_no ⟨A9, x, c9⟩ _ hx9 (torn_none M hT9 hxb hw)
              rw [decide_eq_true hw]
              simp only [Meta.val, Meta.cells] at hget
              rw [hxl] at hget
              have HG := Lib.hid hget
              clear hget hw hT9 hx0 hxl hms1 hms2
              go_wp2_with fail
              refine HG.out.mono ?_
              rintro e w10 ⟨rfl, hb10⟩
              have hbf := below_next0 hb9 hb10
              go_wp2_with fail
              go_ret
              exact ⟨rfl, below_alloc0 hbf _⟩
            · have hxe := hx0 (by omega)
              have hget := get_yes ⟨A9, x, c9⟩ _ hx9 (by rw [show (⟨A9, x, c9⟩ : Inner).l = x from rfl, hxe]; exact hms1)
              rw [show (⟨A9, x, c9⟩ : Inner).l = x from rfl, hxe, hms2] at hget
              rw [decide_eq_false hw]
              simp only [Meta.val, Meta.cells] at hget
              rw [sector_length] at hget
              have HG := Lib.hid hget
              clear hget hw hT9 hx0 hxl hms1 hms2 hxe
              go_wp2_with fail
              refine HG.out.mono ?_
              rintro e w10 ⟨rfl, hb10⟩
              have hbf := below_next0 hb9 hb10
              go_wp2_with fail
              go_ret
              exact ⟨rfl, below_alloc0 hbf _⟩
          · go_wp2_with fail
            go_ret
            exact ⟨rfl, hB⟩
        · have hxe := hx0 (by omega)
          have hop := open_yes n ⟨A7, x, k7⟩ w7 hx7 hn (by rw [show (⟨A7, x, k7⟩ : Inner).l = x from rfl, hxe]; exact (HPN.out n hn).2 rfl)
          simp only at hop
          rw [hxe, HLA.out, HP1.out, HP3.out] at hop
          rw [decide_eq_false hw]
          have HOP := Lib.hid hop
          clear hop hw hT7 hx0 hxl hxe
          go_wp2_with fail
          refine HOP.out.mono ?_
          rintro e w8 ⟨v8, rfl, hv8, hb8, hz8⟩
          have hI48 := hI47.below hb8
          have hI58 := hI57.below hb8
          have hr8 := hr.below (below_next0 hb7 hb8)
          replace hb8 := below_next0 hb7 hb8
          clear hI47 hI57 hb7 HOP
          have hsm := same_any A5 r.A k5 r.c r.l r.l w8 (by omega) (by omega) hI58.lies hr8.lies
          rw [decide_eq_true rfl] at hsm
          have HSM := Lib.hid hsm
          clear hsm
          go_wp2_with fail
          refine HSM.out.mono ?_
          rintro e w9 ⟨rfl, hb9⟩
          have hI4 := hI48.below hb9
          have hB := below_next0 hb8 hb9
          have hm4 := HM4.out
          clear hI48 hI58 hr8 hb8 HSM
          rcases hm4 with ⟨rfl, mm, rfl⟩ | ⟨rfl, rfl⟩
          · rw [sector_length]
            have hIok := hI4
            have htn := turned_any A4 k4 (sector M) at_ ch _ (sector_bytes M) hI4.lies hI4.nil (by rw [sector_length]; omega) (by rw [sector_length]; omega) hch
            rw [sector_length] at htn
            have HTN := Lib.hid htn
            have HMM := Lib.hid mm
            clear htn mm
            go_wp2_with fail
            refine HTN.out.mono ?_
            rintro e w9 ⟨v9, x, kk, frm, rfl, hT9, hx0, hxb, hv9, hb9⟩
            have hxl : x.length = 128 := by rw [hT9.1, sector_length]
            obtain ⟨A9, c9, rfl, hx9⟩ := hv9.inner hxb (by omega)
            rw [hxl]
            replace hb9 := below_next0 hB hb9
            obtain ⟨hms1, hms2⟩ := isMeta_sector0 M hm HMM.out
            by_cases hw : Crc.window ch kk 32 ≠ 0
            · have hget := get_no ⟨A9, x, c9⟩ _ hx9 (torn_none M hT9 hxb hw)
              rw [decide_eq_true hw]
              simp only [Meta.val, Meta.cells] at hget
              rw [hxl] at hget
              have HG := Lib.hid hget
              clear hget hw hT9 hx0 hxl hms1 hms2
              go_wp2_with fail
              refine HG.out.mono ?_
              rintro e w10 ⟨rfl, hb10⟩
              have hbf := below_next0 hb9 hb10
              go_wp2_with fail
              go_ret
              exact ⟨rfl, below_alloc0 hbf _⟩
            · have hxe := hx0 (by omega)
              have hget := get_yes ⟨A9, x, c9⟩ _ hx9 (by rw [show (⟨A9, x, c9⟩ : Inner).l = x from rfl, hxe]; exact hms1)
              rw [show (⟨A9, x, c9⟩ : Inner).l = x from rfl, hxe, hms2] at hget
              rw [decide_eq_false hw]
              simp only [Meta.val, Meta.cells] at hget
              rw [sector_length] at hget
              have HG := Lib.hid hget
              clear hget hw hT9 hx0 hxl hms1 hms2 hxe
              go_wp2_with fail
              refine HG.out.mono ?_
              rintro e w10 ⟨rfl, hb10⟩
              have hbf := below_next0 hb9 hb10
              go_wp2_with fail
              go_ret
              exact ⟨rfl, below_alloc0 hbf _⟩
          · go_wp2_with fail
            go_ret
            exact ⟨rfl, hB⟩
      · have g1 : ((n2 : Int) == (n : Int)) = false := by simp; omega
        have g2 : (n2 == n) = false := by simp [ho]
        have hop := open_no n2 ⟨A2, SA, k2⟩ w5 hI25 hn2 (fun h => ho ((HPN.out n2 hn2).1 h))
        simp only at hop
        rw [HLA.out] at hop
        have HOP := Lib.hid hop
        clear hop ho htn
        go_wp2_with fail
        refine HOP.out.mono ?_
        rintro e w6 ⟨rfl, hb6⟩
        clear HOP
        have hI26 := hI25.below hb6
        have hI46 := hI45.below hb6
        have hI56 := hI5.below hb6
        replace hb6 := below_next0 hb5 hb6
        clear hI25 hI45 hI5 hb5
        have htn := turned_any A2 k2 SA at_ ch w6 hsa hI26.lies hI26.nil (by have := HLA.out; omega) (by have := HLA.out; omega) hch
        rw [HLA.out] at htn
        have HTN := Lib.hid htn
        clear htn
        go_wp2_with fail
        refine HTN.out.mono ?_
        rintro e w7 ⟨v7, x, kk, frm, rfl, hT7, hx0, hxb, hv7, hb7⟩
        have hxl : x.length = 1024 := by rw [hT7.1, HLA.out]
        obtain ⟨A7, k7, rfl, hx7⟩ := hv7.inner hxb (by omega)
        rw [hxl]
        have hI47 := hI46.below hb7
        have hI57 := hI56.below hb7
        replace hb7 := below_next0 hb6 hb7
        clear hI26 hI46 hI56 hb6 HTN hv7
        by_cases hw : Crc.window ch kk 32 ≠ 0
        · have hop := open_no n ⟨A7, x, k7⟩ w7 hx7 hn (HTP.out x kk frm hT7 hxb hw)
          simp only at hop
          rw [hxl] at hop
          rw [decide_eq_true hw]
          have HOP := Lib.hid hop
          clear hop hw hT7 hx0 hxl
          go_wp2_with fail
          refine HOP.out.mono ?_
          rintro e w8 ⟨rfl, hb8⟩
          have hI48 := hI47.below hb8
          have hI58 := hI57.below hb8
          have hr8 := hr.below (below_next0 hb7 hb8)
          replace hb8 := below_next0 hb7 hb8
          clear hI47 hI57 hb7 HOP
          have hsm := same_any A5 r.A k5 r.c r.l r.l w8 (by omega) (by omega) hI58.lies hr8.lies
          rw [decide_eq_true rfl] at hsm
          have HSM := Lib.hid hsm
          clear hsm
          go_wp2_with fail
          refine HSM.out.mono ?_
          rintro e w9 ⟨rfl, hb9⟩
          have hI4 := hI48.below hb9
          have hB := below_next0 hb8 hb9
          have hm4 := HM4.out
          clear hI48 hI58 hr8 hb8 HSM
          rcases hm4 with ⟨rfl, mm, rfl⟩ | ⟨rfl, rfl⟩
          · rw [sector_length]
            have hIok := hI4
            have htn := turned_any A4 k4 (sector M) at_ ch _ (sector_bytes M) hI4.lies hI4.nil (by rw [sector_length]; omega) (by rw [sector_length]; omega) hch
            rw [sector_length] at htn
            have HTN := Lib.hid htn
            have HMM := Lib.hid mm
            clear htn mm
            go_wp2_with fail
            refine HTN.out.mono ?_
            rintro e w9 ⟨v9, x, kk, frm, rfl, hT9, hx0, hxb, hv9, hb9⟩
            have hxl : x.length = 128 := by rw [hT9.1, sector_length]
            obtain ⟨A9, c9, rfl, hx9⟩ := hv9.inner hxb (by omega)
            rw [hxl]
            replace hb9 := below_next0 hB hb9
            obtain ⟨hms1, hms2⟩ := isMeta_sector0 M hm HMM.out
            by_cases hw : Crc.window ch kk 32 ≠ 0
            · have hget := get_no ⟨A9, x, c9⟩ _ hx9 (torn_none M hT9 hxb hw)
              rw [decide_eq_true hw]
              simp only [Meta.val, Meta.cells] at hget
              rw [hxl] at hget
              have HG := Lib.hid hget
              clear hget hw hT9 hx0 hxl hms1 hms2
              go_wp2_with fail
              refine HG.out.mono ?_
              rintro e w10 ⟨rfl, hb10⟩
              have hbf := below_next0 hb9 hb10
              go_wp2_with fail
              go_ret
              exact ⟨rfl, below_alloc0 hbf _⟩
            · have hxe := hx0 (by omega)
              have hget := get_yes ⟨A9, x, c9⟩ _ hx9 (by rw [show (⟨A9, x, c9⟩ : Inner).l = x from rfl, hxe]; exact hms1)
              rw [show (⟨A9, x, c9⟩ : Inner).l = x from rfl, hxe, hms2] at hget
              rw [decide_eq_false hw]
              simp only [Meta.val, Meta.cells] at hget
              rw [sector_length] at hget
              have HG := Lib.hid hget
              clear hget hw hT9 hx0 hxl hms1 hms2 hxe
              go_wp2_with fail
              refine HG.out.mono ?_
              rintro e w10 ⟨rfl, hb10⟩
              have hbf := below_next0 hb9 hb10
              go_wp2_with fail
              go_ret
              exact ⟨rfl, below_alloc0 hbf _⟩
          · go_wp2_with fail
            go_ret
            exact ⟨rfl, hB⟩
        · have hxe := hx0 (by omega)
          have hop := open_yes n ⟨A7, x, k7⟩ w7 hx7 hn (by rw [show (⟨A7, x, k7⟩ : Inner).l = x from rfl, hxe]; exact (HPN.out n hn).2 rfl)
          simp only at hop
          rw [hxe, HLA.out, HP1.out, HP3.out] at hop
          rw [decide_eq_false hw]
          have HOP := Lib.hid hop
          clear hop hw hT7 hx0 hxl hxe
          go_wp2_with fail
          refine HOP.out.mono ?_
          rintro e w8 ⟨v8, rfl, hv8, hb8, hz8⟩
          have hI48 := hI47.below hb8
          have hI58 := hI57.below hb8
          have hr8 := hr.below (below_next0 hb7 hb8)
          replace hb8 := below_next0 hb7 hb8
          clear hI47 hI57 hb7 HOP
          have hsm := same_any A5 r.A k5 r.c r.l r.l w8 (by omega) (by omega) hI58.lies hr8.lies
          rw [decide_eq_true rfl] at hsm
          have HSM := Lib.hid hsm
          clear hsm
          go_wp2_with fail
          refine HSM.out.mono ?_
          rintro e w9 ⟨rfl, hb9⟩
          have hI4 := hI48.below hb9
          have hB := below_next0 hb8 hb9
          have hm4 := HM4.out
          clear hI48 hI58 hr8 hb8 HSM
          rcases hm4 with ⟨rfl, mm, rfl⟩ | ⟨rfl, rfl⟩
          · rw [sector_length]
            have hIok := hI4
            have htn := turned_any A4 k4 (sector M) at_ ch _ (sector_bytes M) hI4.lies hI4.nil (by rw [sector_length]; omega) (by rw [sector_length]; omega) hch
            rw [sector_length] at htn
            have HTN := Lib.hid htn
            have HMM := Lib.hid mm
            clear htn mm
            go_wp2_with fail
            refine HTN.out.mono ?_
            rintro e w9 ⟨v9, x, kk, frm, rfl, hT9, hx0, hxb, hv9, hb9⟩
            have hxl : x.length = 128 := by rw [hT9.1, sector_length]
            obtain ⟨A9, c9, rfl, hx9⟩ := hv9.inner hxb (by omega)
            rw [hxl]
            replace hb9 := below_next0 hB hb9
            obtain ⟨hms1, hms2⟩ := isMeta_sector0 M hm HMM.out
            by_cases hw : Crc.window ch kk 32 ≠ 0
            · have hget := get_no ⟨A9, x, c9⟩ _ hx9 (torn_none M hT9 hxb hw)
              rw [decide_eq_true hw]
              simp only [Meta.val, Meta.cells] at hget
              rw [hxl] at hget
              have HG := Lib.hid hget
              clear hget hw hT9 hx0 hxl hms1 hms2
              go_wp2_with fail
              refine HG.out.mono ?_
              rintro e w10 ⟨rfl, hb10⟩
              have hbf := below_next0 hb9 hb10
              go_wp2_with fail
              go_ret
              exact ⟨rfl, below_alloc0 hbf _⟩
            · have hxe := hx0 (by omega)
              have hget := get_yes ⟨A9, x, c9⟩ _ hx9 (by rw [show (⟨A9, x, c9⟩ : Inner).l = x from rfl, hxe]; exact hms1)
              rw [show (⟨A9, x, c9⟩ : Inner).l = x from rfl, hxe, hms2] at hget
              rw [decide_eq_false hw]
              simp only [Meta.val, Meta.cells] at hget
              rw [sector_length] at hget
              have HG := Lib.hid hget
              clear hget hw hT9 hx0 hxl hms1 hms2 hxe
              go_wp2_with fail
              refine HG.out.mono ?_
              rintro e w10 ⟨rfl, hb10⟩
              have hbf := below_next0 hb9 hb10
              go_wp2_with fail
              go_ret
              exact ⟨rfl, below_alloc0 hbf _⟩
          · go_wp2_with fail
            go_ret
            exact ⟨rfl, hB⟩
    · go_wp2_with fail
      refine (seal_no k n r.A r.c r.l w1 hs1).mono ?_
      rintro e w2 ⟨rfl, rfl⟩
      clear hs1
      go_wp2_with fail
      refine (HPut.out _).mono ?_
      rintro e w4 ⟨A4, l4, k4, f4, rfl, hI4, hm4, hb4⟩
      have hB := below_next0 hb1 hb4
      clear c0 c1 c2 c3 c4
      rcases hm4 with ⟨rfl, mm, rfl⟩ | ⟨rfl, rfl⟩
      · rw [sector_length]
        have hIok := hI4
        have htn := turned_any A4 k4 (sector M) at_ ch _ (sector_bytes M) hI4.lies hI4.nil (by rw [sector_length]; omega) (by rw [sector_length]; omega) hch
        rw [sector_length] at htn
        have HTN := Lib.hid htn
        have HMM := Lib.hid mm
        clear htn mm
        go_wp2_with fail
        refine HTN.out.mono ?_
        rintro e w9 ⟨v9, x, kk, frm, rfl, hT9, hx0, hxb, hv9, hb9⟩
        have hxl : x.length = 128 := by rw [hT9.1, sector_length]
        obtain ⟨A9, c9, rfl, hx9⟩ := hv9.inner hxb (by omega)
        rw [hxl]
        replace hb9 := below_next0 hB hb9
        obtain ⟨hms1, hms2⟩ := isMeta_sector0 M hm HMM.out
        by_cases hw : Crc.window ch kk 32 ≠ 0
        · have hget := get_no ⟨A9, x, c9⟩ _ hx9 (torn_none M hT9 hxb hw)
          rw [decide_eq_true hw]
          simp only [Meta.val, Meta.cells] at hget
          rw [hxl] at hget
          have HG := Lib.hid hget
          clear hget hw hT9 hx0 hxl hms1 hms2
          go_wp2_with fail
          refine HG.out.mono ?_
          rintro e w10 ⟨rfl, hb10⟩
          have hbf := below_next0 hb9 hb10
          go_wp2_with fail
          go_ret
          exact ⟨rfl, below_alloc0 hbf _⟩
        · have hxe := hx0 (by omega)
          have hget := get_yes ⟨A9, x, c9⟩ _ hx9 (by rw [show (⟨A9, x, c9⟩ : Inner).l = x from rfl, hxe]; exact hms1)
          rw [show (⟨A9, x, c9⟩ : Inner).l = x from rfl, hxe, hms2] at hget
          rw [decide_eq_false hw]
          simp only [Meta.val, Meta.cells] at hget
          rw [sector_length] at hget
          have HG := Lib.hid hget
          clear hget hw hT9 hx0 hxl hms1 hms2 hxe
          go_wp2_with fail
          refine HG.out.mono ?_
          rintro e w10 ⟨rfl, hb10⟩
          have hbf := below_next0 hb9 hb10
          go_wp2_with fail
          go_ret
          exact ⟨rfl, below_alloc0 hbf _⟩
      · go_wp2_with fail
        go_ret
        exact ⟨rfl, hB⟩
  · simp only [Meta.val]
    go_enter Try.func19, Try.ntmps19
    go_wp2_with fail
    refine (known08_any _).mono ?_
    rintro e w1 ⟨rfl, hb1⟩
    go_wp2_with fail
    go_ret
    exact ⟨rfl, below_next0 (below_alloc0 (Below.refl _ _) _) hb1⟩
end Go.Proofs.Ytfbjjblgcgjndaa
