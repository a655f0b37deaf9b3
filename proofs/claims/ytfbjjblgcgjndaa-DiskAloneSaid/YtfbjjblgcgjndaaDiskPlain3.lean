/- Disk, plain laws: how far the counts and the cache have come. -/
import Derived.Test.YtfbjjblgcgjndaaDiskPlain2
set_option linter.unusedVariables false
set_option linter.unusedSimpArgs false
namespace Go.Proofs.Ytfbjjblgcgjndaa

/-- behind k operations at most -/
def Small (D : Dsk) (k : Nat) : Prop := D.cache.length ≤ 8 * k ∧ ∀ j, D.n j ≤ (k : Int)
theorem Small.new (p : Nat) : Small (Dsk.new p) 0 := ⟨Nat.zero_le _, fun j => by simp [Dsk.new]⟩
theorem Small.mono {D : Dsk} {k m : Nat} (h : Small D k) (hk : k ≤ m) : Small D m := ⟨by have := h.1; omega, fun j => by have := h.2 j; omega⟩
theorem Small.more {D D' : Dsk} {k : Nat} (h : Small D k) (hc : D'.cache.length ≤ D.cache.length + 8) (hn : ∀ j, D'.n j ≤ D.n j + 1) : Small D' (k + 1) :=
  ⟨by have := h.1; omega, fun j => by have := h.2 j; have := hn j; omega⟩
theorem turn_le (n : Nat → Int) (k j : Nat) : turn n k (n k + 1) j ≤ n j + 1 := by
  by_cases e : j = k
  · subst e; rw [turn_same]; omega
  · rw [turn_other _ _ _ _ e]; omega
theorem Dsk.begin_n (D : Dsk) (k j : Nat) : (D.begin k).2.n j ≤ D.n j + 1 := by
  unfold Dsk.begin
  split
  · show D.n j ≤ _; omega
  · split
    · show D.n j ≤ _; omega
    · split
      · exact turn_le D.n k j
      · exact turn_le D.n k j
theorem Small.begin {D : Dsk} {k : Nat} (h : Small D k) (i : Nat) : Small (D.begin i).2 (k + 1) :=
  h.more (by rw [(D.begin_last i).2]; omega) (D.begin_n i)
theorem Small.go {D : Dsk} {k : Nat} (h : Small D k) (i : Nat) : Small (D.go i) (k + 1) :=
  h.more (by show D.cache.length ≤ _; omega) (turn_le D.n i)
theorem Small.write {D : Dsk} {k : Nat} (h : Small D k) (pg : Int) (b : List Nat) : Small (D.write pg b).2 (k + 1) := by
  unfold Dsk.write
  split
  · exact h.begin 2
  · split
    · exact h.go 2
    · split
      · exact h.go 2
      · rename_i hb
        refine h.more ?_ (turn_le D.n 2)
        show (D.cache ++ puts (8 * pg.toNat) b (b.length / 128)).length ≤ _
        rw [List.length_append, puts_length]
        have : b.length = 1024 ∨ b.length = 128 := by omega
        rcases this with e | e <;> rw [e] <;> omega
theorem Small.sync {D : Dsk} {k : Nat} (h : Small D k) : Small D.sync.2 (k + 1) := by
  unfold Dsk.sync
  split
  · exact h.begin 3
  · exact h.more (by show 0 ≤ _; omega) (turn_le D.n 3)
theorem Small.read {D : Dsk} {k : Nat} (h : Small D k) (pg : Int) : Small (D.read pg).2.2 (k + 1) := by
  unfold Dsk.read
  split
  · exact h.begin 1
  · split
    · exact h.go 1
    · exact h.go 1
theorem Small.cut {D : Dsk} {k : Nat} (h : Small D k) (bs : List Bool) : Small (D.cut bs) k := ⟨Nat.zero_le _, h.2⟩
theorem Small.setTrip {D : Dsk} {k : Nat} (h : Small D k) (n : Int) : Small (D.setTrip n).2 k := by
  unfold Dsk.setTrip
  split
  · exact h
  · split <;> exact h
theorem Small.setFail {D : Dsk} {k : Nat} (h : Small D k) (i n : Int) : Small (D.setFail i n).2 k := by
  unfold Dsk.setFail
  split
  · exact h
  · split <;> exact h
theorem Small.c {D : Dsk} {k : Nat} (h : Small D k) (hk : k ≤ 100000000) : D.cache.length ≤ 1000000000000 := by have := h.1; omega
theorem Small.m {D : Dsk} {k : Nat} (h : Small D k) (hk : k ≤ 100000000) (j : Nat) : D.n j ≤ 4611686018427387904 := by have := h.2 j; omega
end Go.Proofs.Ytfbjjblgcgjndaa
