/- Seal and Open, what they tell in one: yes and no. -/
import Derived.Test.YtfbjjblgcgjndaaPageKnown
set_option linter.unusedVariables false
set_option linter.unusedSimpArgs false
namespace Go.Proofs.Ytfbjjblgcgjndaa
open Go.RowKit

def sealOut (k n : Nat) (p : List Nat) : List Nat := if SealOk k p then sealed k n p else []
def sealErr (k : Nat) (p : List Nat) : Nat := if SealOk k p then 0 else 80
theorem sealOut_length (k n : Nat) (p : List Nat) : (sealOut k n p).length ≤ 1024 := by
  unfold sealOut
  split
  · rename_i h; rw [sealed_length _ _ _ h.2.2]; omega
  · simp
theorem sealOut_bytes (k n : Nat) (p : List Nat) (hk : k < 256) (hp : Bytes p) : Bytes (sealOut k n p) := by
  unfold sealOut
  split
  · exact sealed_bytes _ _ _ hk hp
  · exact Bytes.nil
def GivesBuf (l : List Nat) (x : Nat) (w : World) (e : Ending) (w' : World) : Prop :=
  ∃ A c, e = .returned (.tuple #[.slice A l.length c, .int .u16 (x : Nat)]) ∧ Buf w.heap.size w' (.slice A l.length c) l ∧ Below w.heap.size w w'
theorem seal_call (kind number : Nat) (A : Option Addr) (c : Nat) (p : List Nat) (w : World) (hk : kind < 256) (hn : number < 4294967296) (hp : Bytes p) (hA : At w A (ns .u8 p)) (hnil : A = none → c = 0) :
    Calls Try.prog 66 #[.int .u8 (kind : Int), .int .u32 (number : Int), .slice A p.length c] w (GivesBuf (sealOut kind number p) (sealErr kind p) w) := by
  by_cases h : SealOk kind p
  · unfold sealOut sealErr
    rw [if_pos h, if_pos h]
    refine (seal_ok kind number A c p w h hk hn hp hA hnil).mono ?_
    rintro e w' ⟨v, rfl, hv, hb, _⟩
    obtain ⟨A', c', rfl, _⟩ := hv.at
    exact ⟨A', c', rfl, hv, hb⟩
  · unfold sealOut sealErr
    rw [if_neg h, if_neg h]
    refine (seal_no kind number A c p w h).mono ?_
    rintro e w' ⟨rfl, rfl⟩
    exact ⟨none, 0, rfl, Buf.nil _ _, Below.refl _ _⟩
theorem rseal_call (kind number : Nat) (A : Option Addr) (c : Nat) (p : List Nat) (w : World) (hk : kind < 256) (hn : number < 4294967296) (hp : Bytes p) (hA : At w A (ns .u8 p)) (hnil : A = none → c = 0) :
    Calls Try.prog 67 #[.int .u8 (kind : Int), .int .u32 (number : Int), .slice A p.length c] w (GivesBuf (sealOut kind number p) (sealErr kind p) w) := by
  by_cases h : SealOk kind p
  · unfold sealOut sealErr
    rw [if_pos h, if_pos h]
    refine (rseal_ok kind number A c p w h hk hn hp hA hnil).mono ?_
    rintro e w' ⟨v, rfl, hv, hb, _⟩
    obtain ⟨A', c', rfl, _⟩ := hv.at
    exact ⟨A', c', rfl, hv, hb⟩
  · unfold sealOut sealErr
    rw [if_neg h, if_neg h]
    refine (rseal_no kind number A c p w h).mono ?_
    rintro e w' ⟨rfl, rfl⟩
    exact ⟨none, 0, rfl, Buf.nil _ _, Below.refl _ _⟩

def openKind (n : Nat) (l : List Nat) : Nat := if IsPage n l then kindOf l else 0
def openPay (n : Nat) (l : List Nat) : List Nat := if IsPage n l then payOf l else []
def openErr (n : Nat) (l : List Nat) : Nat := if IsPage n l then 0 else 80
theorem openPay_length (n : Nat) (l : List Nat) : (openPay n l).length ≤ 1008 := by
  unfold openPay
  split
  · rename_i h; exact h.2.2.1.2.2
  · simp
theorem openPay_bytes (n : Nat) (l : List Nat) (h : Bytes l) : Bytes (openPay n l) := by
  unfold openPay
  split
  · exact (h.drop 12).take _
  · exact Bytes.nil
theorem openKind_lt (n : Nat) (l : List Nat) (h : Bytes l) : openKind n l < 256 := by
  unfold openKind
  split
  · rename_i h1; have := h1.2.2.1.2.1; omega
  · omega
def GivesPage (k : Nat) (l : List Nat) (x : Nat) (w : World) (e : Ending) (w' : World) : Prop :=
  ∃ A c, e = .returned (.tuple #[.int .u8 (k : Nat), .slice A l.length c, .int .u16 (x : Nat)]) ∧ Buf w.heap.size w' (.slice A l.length c) l ∧ Below w.heap.size w w'
theorem open_call (number : Nat) (r : Inner) (w : World) (h : r.Ok w) (hn : number < 4294967296) :
    Calls Try.prog 69 #[.int .u32 (number : Int), .slice r.A r.l.length r.c] w (GivesPage (openKind number r.l) (openPay number r.l) (openErr number r.l) w) := by
  by_cases hp : IsPage number r.l
  · unfold openKind openPay openErr
    rw [if_pos hp, if_pos hp, if_pos hp]
    refine (open_yes number r w h hn hp).mono ?_
    rintro e w' ⟨v, rfl, hv, hb, _⟩
    obtain ⟨A', c', rfl, _⟩ := hv.at
    exact ⟨A', c', rfl, hv, hb⟩
  · unfold openKind openPay openErr
    rw [if_neg hp, if_neg hp, if_neg hp]
    refine (open_no number r w h hn hp).mono ?_
    rintro e w' ⟨rfl, hb⟩
    exact ⟨none, 0, rfl, Buf.nil _ _, hb⟩
theorem ropen_call (number : Nat) (r : Inner) (w : World) (h : r.Ok w) (hs : r.l.length ≤ 1000000000) (hn : number < 4294967296) :
    Calls Try.prog 70 #[.int .u32 (number : Int), .slice r.A r.l.length r.c] w (GivesPage (openKind number r.l) (openPay number r.l) (openErr number r.l) w) := by
  by_cases hp : IsPage number r.l
  · unfold openKind openPay openErr
    rw [if_pos hp, if_pos hp, if_pos hp]
    refine (ropen_yes number r.A r.c r.l w hs h.lies h.bytes h.le hn hp).mono ?_
    rintro e w' ⟨v, rfl, hv, hb, _⟩
    obtain ⟨A', c', rfl, _⟩ := hv.at
    exact ⟨A', c', rfl, hv, hb⟩
  · unfold openKind openPay openErr
    rw [if_neg hp, if_neg hp, if_neg hp]
    refine (ropen_no number r.A r.c r.l w hs h.lies h.bytes h.le hn hp).mono ?_
    rintro e w' ⟨rfl, hb⟩
    exact ⟨none, 0, rfl, Buf.nil _ _, hb⟩
end Go.Proofs.Ytfbjjblgcgjndaa
