/-
  Contracts: are two graphs the same? The program's and the reference's tests.
-/
import Derived.Test.YtmkahbephidmbaaQcSame
import Derived.Test.YtmkahbephidmbaaQcGL
namespace Go.Proofs.Ytmkahbephidmbaa
open Go.RowKit

/-- Two graphs are the same. -/
def gsl (s : Int) (n : Nat) (x : Nat → Int) (t : Int) (m : Nat) (y : Nat → Int) : Bool := decide (s = t) && sl n x m y
theorem gsl_sz {s t : Int} {n m : Nat} {x y : Nat → Int} (h : s ≠ t) : gsl s n x t m y = false := by
  unfold gsl; rw [decide_eq_false h]; rfl
theorem gsl_rows {s : Int} {n m : Nat} {x y : Nat → Int} : gsl s n x s m y = sl n x m y := by
  unfold gsl; rw [decide_eq_true rfl]; rfl

set_option maxHeartbeats 1000000 in
theorem EqualGraphs_i (s1 s2 : Int) (A1 A2 : Option Addr) (n1 n2 c1 c2 : Nat) (x1 x2 : Nat → Int) (w : World) (B : Nat) (h1 : Rd w B A1 n1 c1 x1) (h2 : Rd w B A2 n2 c2 x2) (hB : B ≤ w.heap.size) (hn1 : n1 ≤ 1073741824) (hn2 : n2 ≤ 1073741824) :
    Calls Try.prog 45 #[.agg #[.int .i64 s1, .slice A1 n1 c1], .agg #[.int .i64 s2, .slice A2 n2 c2]] w fun e w' => e = .returned (.bool (gsl s1 n1 x1 s2 n2 x2)) ∧ Below w.heap.size w w' := by
  have HB : Hid (Below w.heap.size w ((w.alloc (Obj.cells #[Value.int IntKind.i64 s1, Value.slice A1 n1 c1] 27)).alloc (Obj.cells #[Value.int IntKind.i64 s2, Value.slice A2 n2 c2] 27))) := ((Below.refl _ _).alloc (Nat.le_refl _) _).alloc (by simp) _
  have HK := Lib.hid (Equal_any A1 A2 n1 n2 c1 c2 x1 x2 _ B (h1.keep (HB.out.mono hB) (Nat.le_refl _)) (h2.keep (HB.out.mono hB) (Nat.le_refl _)) (by simp; omega) hn1 hn2)
  clear h1 h2
  by_cases hs : s1 = s2
  · subst hs
    rw [gsl_rows]
    go_enter Try.func45, Try.ntmps45
    go_wp2_with fail
    refine HK.out.mono ?_
    rintro e w1 ⟨rfl, hb⟩
    have HC : Hid (Below w.heap.size w w1) := HB.out.trans (hb.mono HB.out.size)
    clear hb
    go_wp2
    go_ret
    exact ⟨rfl, HC.out⟩
  · have e := Lib.hid (gsl_sz (n := n1) (m := n2) (x := x1) (y := x2) hs)
    clear HK
    go_enter Try.func45, Try.ntmps45
    go_wp2
    go_ret
    exact ⟨ret_bool e.out.symm, HB.out⟩

set_option maxHeartbeats 1000000 in
theorem EqualGraphs_s (s1 s2 : Int) (A1 A2 : Option Addr) (n1 n2 c1 c2 : Nat) (x1 x2 : Nat → Int) (w : World) (B : Nat) (h1 : Rd w B A1 n1 c1 x1) (h2 : Rd w B A2 n2 c2 x2) (hB : B ≤ w.heap.size) (hn1 : n1 ≤ 1073741824) (hn2 : n2 ≤ 1073741824) :
    Calls Try.prog 36 #[.agg #[.int .i64 s1, .slice A1 n1 c1], .agg #[.int .i64 s2, .slice A2 n2 c2]] w fun e w' => e = .returned (.bool (gsl s1 n1 x1 s2 n2 x2)) ∧ Below w.heap.size w w' := by
  obtain ⟨W, hW⟩ : ∃ W : World, W = ((w.alloc (Obj.cells #[Value.int IntKind.i64 s1, Value.slice A1 n1 c1] 27)).alloc (Obj.cells #[Value.int IntKind.i64 s2, Value.slice A2 n2 c2] 27)) := ⟨_, rfl⟩
  have HB : Hid (Below w.heap.size w W) := by rw [hW]; exact ((Below.refl _ _).alloc (Nat.le_refl _) _).alloc (by simp) _
  have hWz : W.heap.size = w.heap.size + 1 + 1 := by rw [hW]; simp
  have g1 : W.cell? ⟨w.heap.size, 1, none⟩ = some (.slice A1 n1 c1) := by rw [hW]; simp [go_sem]
  have g2 : W.cell? ⟨w.heap.size + 1, 1, none⟩ = some (.slice A2 n2 c2) := by rw [hW]; simp [go_sem]
  by_cases hs : s1 = s2
  rotate_left
  · have e := Lib.hid (gsl_sz (n := n1) (m := n2) (x := x1) (y := x2) hs)
    have HW := Lib.hid hW
    clear h1 h2 g1 g2 hW hWz
    go_enter Try.func36, Try.ntmps36
    go_wp2
    go_ret
    rw [← HW.out]
    exact ⟨ret_bool e.out.symm, HB.out⟩
  subst hs
  rw [gsl_rows]
  by_cases hne : n1 = n2
  rotate_left
  · have e := Lib.hid (sl_len (x := x1) (y := x2) hne)
    have hne' : (n1 : Int) ≠ (n2 : Int) := by omega
    have HW := Lib.hid hW
    clear h1 h2 g1 g2 hW hWz
    go_enter Try.func36, Try.ntmps36
    go_wp2
    go_ret
    rw [← HW.out]
    exact ⟨ret_bool e.out.symm, HB.out⟩
  subst hne
  have H1 := Lib.hid h1
  have H2 := Lib.hid h2
  have G1 := Lib.hid g1
  have G2 := Lib.hid g2
  have HW := Lib.hid hW
  clear h1 h2 g1 g2 hW
  go_enter Try.func36, Try.ntmps36
  go_wp2
  rw [← HW.out]
  go_loopw [5] (fun i wr => ∃ k : Nat, k ≤ n1 ∧ i = .int .i64 k ∧ Hid (∀ j, j < k → x1 j = x2 j) ∧ Below W.heap.size W wr) (fun i _ => n1 - (intOf i).toNat)
  case atStart => exact ⟨0, Nat.zero_le _, rfl, (fun j hj => absurd hj (by omega)), Below.refl _ _⟩
  case round =>
    obtain ⟨k, hk, rfl, hall, hbr⟩ := hrel
    have q1 := up hbr G1.out (by omega)
    have q2 := up hbr G2.out (by omega)
    by_cases hlt : k < n1
    · have hbw := HB.out.trans (hbr.mono HB.out.size)
      obtain ⟨b1, o1, rfl, l1, c1'⟩ := H1.out.pos (by omega)
      obtain ⟨b2, o2, rfl, l2, c2'⟩ := H2.out.pos (by omega)
      have f1 := (hbw.cell (p := ⟨b1, o1 + k, none⟩) (by show b1 < _; omega)).trans (c1' k hlt)
      have f2 := (hbw.cell (p := ⟨b2, o2 + k, none⟩) (by show b2 < _; omega)).trans (c2' k hlt)
      have hi : (k : Int) < (n1 : Int) := by omega
      clear c1' c2'
      by_cases hq : x1 k = x2 k
      · have HB := Lib.hid hbr
        have Hq := Lib.hid hq
        rw [← hq] at f2
        clear hbr hq hbw
        go_wp2
        go_quiet (fail)
        go_wp2
        go_roundw
        case rel =>
          refine ⟨k + 1, by omega, by go_num, fun j hj => ?_, below_drewN HB.out _⟩
          by_cases hjk : j < k
          · exact hall.out j hjk
          · obtain rfl : j = k := by omega
            exact Hq.out
        case measure => simp [intOf]; omega
      · have HBW := Lib.hid hbw
        have e := Lib.hid (sl_no hlt hq)
        clear hbr hbw
        go_wp2
        go_quiet (fail)
        go_wp2
        go_ret
        exact ⟨ret_bool e.out.symm, below_drewN HBW.out _⟩
    · have hge : (n1 : Int) ≤ (k : Int) := by omega
      have HBW : Hid (Below w.heap.size w wr) := HB.out.trans (hbr.mono HB.out.size)
      have e := Lib.hid (sl_yes (n := n1) (x := x1) (y := x2) fun j hj => hall.out j (by omega))
      clear hbr
      go_wp2
      go_ret
      exact ⟨ret_bool e.out.symm, HBW.out⟩
end Go.Proofs.Ytmkahbephidmbaa
