/-
  Contracts: are two slices, two graphs, two slices of slices the same? The program's and the reference's tests.
-/
import Derived.Test.YtmkahbephidmbaaQcGB
namespace Go.Proofs.Ytmkahbephidmbaa
open Go.RowKit

/-- Two slices of integers hold the same. -/
def sl (n : Nat) (x : Nat → Int) (m : Nat) (y : Nat → Int) : Bool := decide (n = m ∧ ∀ i, i < n → x i = y i)
theorem sl_len {n m : Nat} {x y : Nat → Int} (h : n ≠ m) : sl n x m y = false := by
  unfold sl; exact decide_eq_false fun k => h k.1
theorem sl_no {n : Nat} {x y : Nat → Int} {k : Nat} (hk : k < n) (h : x k ≠ y k) : sl n x n y = false := by
  unfold sl; exact decide_eq_false fun q => h (q.2 k hk)
theorem sl_yes {n : Nat} {x y : Nat → Int} (h : ∀ i, i < n → x i = y i) : sl n x n y = true := by
  unfold sl; exact decide_eq_true ⟨rfl, h⟩
set_option maxHeartbeats 1000000 in
theorem Equal_any (A1 A2 : Option Addr) (n1 n2 c1 c2 : Nat) (x1 x2 : Nat → Int) (w : World) (B : Nat) (h1 : Rd w B A1 n1 c1 x1) (h2 : Rd w B A2 n2 c2 x2) (hB : B ≤ w.heap.size) (hn1 : n1 ≤ 1073741824) (hn2 : n2 ≤ 1073741824) :
    Calls Try.prog 67 #[.slice A1 n1 c1, .slice A2 n2 c2] w fun e w' => e = .returned (.bool (sl n1 x1 n2 x2)) ∧ Below w.heap.size w w' := by
  by_cases hne : n1 = n2
  rotate_left
  · have e := Lib.hid (sl_len (x := x1) (y := x2) hne)
    have hne' : (n1 : Int) ≠ (n2 : Int) := by omega
    go_enter Try.func67, Try.ntmps67
    go_wp2
    go_ret
    exact ⟨ret_bool e.out.symm, Below.refl _ _⟩
  subst hne
  have H1 := Lib.hid h1
  have H2 := Lib.hid h2
  clear h1 h2
  go_enter Try.func67, Try.ntmps67
  go_wp2
  go_loopw [13] (fun i wr => ∃ k : Nat, k ≤ n1 ∧ i = .int .i64 k ∧ Hid (∀ j, j < k → x1 j = x2 j) ∧ Below w.heap.size w wr) (fun i _ => n1 - (intOf i).toNat)
  case atStart => exact ⟨0, Nat.zero_le _, rfl, (fun j hj => absurd hj (by omega)), Below.refl _ _⟩
  case round =>
    obtain ⟨k, hk, rfl, hall, hbr⟩ := hrel
    by_cases hlt : k < n1
    · obtain ⟨b1, o1, rfl, l1, c1'⟩ := H1.out.pos (by omega)
      obtain ⟨b2, o2, rfl, l2, c2'⟩ := H2.out.pos (by omega)
      have f1 := (hbr.cell (p := ⟨b1, o1 + k, none⟩) (by show b1 < _; omega)).trans (c1' k hlt)
      have f2 := (hbr.cell (p := ⟨b2, o2 + k, none⟩) (by show b2 < _; omega)).trans (c2' k hlt)
      have hi : (k : Int) < (n1 : Int) := by omega
      clear c1' c2'
      by_cases hq : x1 k = x2 k
      · have HB := Lib.hid hbr
        have Hq := Lib.hid hq
        rw [← hq] at f2
        clear hbr hq
        go_wp2
        go_quiet (fail)
        go_wp2
        go_roundw
        case rel =>
          refine ⟨k + 1, by omega, by go_num, fun j hj => ?_, below_drewN HB.out _⟩
          by_cases hjk : j < k
          · exact hall.out j hjk
          · obtain rfl : j = k := by omega
            exact Hq.out
        case measure => simp [intOf]; omega
      · have HB := Lib.hid hbr
        have e := Lib.hid (sl_no hlt hq)
        clear hbr
        go_wp2
        go_quiet (fail)
        go_wp2
        go_ret
        exact ⟨ret_bool e.out.symm, below_drewN HB.out _⟩
    · have hge : (n1 : Int) ≤ (k : Int) := by omega
      have HB := Lib.hid hbr
      have e := Lib.hid (sl_yes (n := n1) (x := x1) (y := x2) fun j hj => hall.out j (by omega))
      clear hbr
      go_wp2
      go_ret
      exact ⟨ret_bool e.out.symm, HB.out⟩
end Go.Proofs.Ytmkahbephidmbaa
