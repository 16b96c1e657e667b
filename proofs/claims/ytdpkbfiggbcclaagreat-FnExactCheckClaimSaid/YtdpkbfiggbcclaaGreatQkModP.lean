/-
  Several texts in one.
-/
import Derived.Test.YtdpkbfiggbcclaaGreatQkGB
import Derived.Test.YtdpkbfiggbcclaaGreatQkElzI
import Derived.Test.YtdpkbfiggbcclaaGreatQkWgtS
/-
-/
namespace Go.Proofs.YtdpkbfiggbcclaaGreat
open Go.RowKit
def sl (n : Nat) (x : Nat → Int) (m : Nat) (y : Nat → Int) : Bool := decide (n = m ∧ ∀ i, i < n → x i = y i)
theorem sl_len {n m : Nat} {x y : Nat → Int} (h : n ≠ m) : sl n x m y = false := by
 unfold sl; exact decide_eq_false fun k => h k.1
theorem sl_no {n : Nat} {x y : Nat → Int} {k : Nat} (hk : k < n) (h : x k ≠ y k) : sl n x n y = false := by
 unfold sl; exact decide_eq_false fun q => h (q.2 k hk)
theorem sl_yes {n : Nat} {x y : Nat → Int} (h : ∀ i, i < n → x i = y i) : sl n x n y = true := by
 unfold sl; exact decide_eq_true ⟨rfl, h⟩
set_option maxHeartbeats 1000000 in
theorem Equal_any (A1 A2 : Option Addr) (n1 n2 c1 c2 : Nat) (x1 x2 : Nat → Int) (w : World) (B : Nat) (h1 : Rd w B A1 n1 c1 x1) (h2 : Rd w B A2 n2 c2 x2) (hB : B ≤ w.heap.size) (hn1 : n1 ≤ 1073741824) (hn2 : n2 ≤ 1073741824) :
 Calls Tryz.prog 387 #[.slice A1 n1 c1, .slice A2 n2 c2] w fun e w' => e = .returned (.bool (sl n1 x1 n2 x2)) ∧ Below w.heap.size w w' := by
 by_cases hne : n1 = n2
 rotate_left
 ·have e := Lib.hid (sl_len (x := x1) (y := x2) hne)
  have hne' : (n1 : Int) ≠ (n2 : Int) := by omega
  go_enter Tryz.func387, Tryz.ntmps387
  go_wp2
  go_ret
  exact ⟨ret_bool e.out.symm, Below.refl _ _⟩
 subst hne
 have H1 := Lib.hid h1
 have H2 := Lib.hid h2
 clear h1 h2
 go_enter Tryz.func387, Tryz.ntmps387
 go_wp2
 go_loopw [13] (fun i wr => ∃ k : Nat, k ≤ n1 ∧ i = .int .i64 k ∧ Hid (∀ j, j < k → x1 j = x2 j) ∧ Below w.heap.size w wr) (fun i _ => n1 - (intOf i).toNat)
 case atStart => exact ⟨0, Nat.zero_le _, rfl, (fun j hj => absurd hj (by omega)), Below.refl _ _⟩
 case round =>
  obtain ⟨k, hk, rfl, hall, hbr⟩ := hrel
  by_cases hlt : k < n1
  ·obtain ⟨b1, o1, rfl, l1, c1'⟩ := H1.out.pos (by omega)
   obtain ⟨b2, o2, rfl, l2, c2'⟩ := H2.out.pos (by omega)
   have f1 := (hbr.cell (p := ⟨b1, o1 + k, none⟩) (by show b1 < _; omega)).trans (c1' k hlt)
   have f2 := (hbr.cell (p := ⟨b2, o2 + k, none⟩) (by show b2 < _; omega)).trans (c2' k hlt)
   have hi : (k : Int) < (n1 : Int) := by omega
   clear c1' c2'
   by_cases hq : x1 k = x2 k
   ·have HB := Lib.hid hbr
    have Hq := Lib.hid hq
    rw [← hq] at f2
    clear hbr hq
    go_wp2
    go_quiet (fail)
    go_wp2
    go_roundw
    case rel =>
     refine ⟨k + 1, by omega, by go_num, fun j hj => ?_, below_drewN HB.out _⟩
     by_cases hjk : j < k
     ·exact hall.out j hjk
     ·obtain rfl : j = k := by omega
      exact Hq.out
    case measure => simp [intOf]; omega
   ·have HB := Lib.hid hbr
    have e := Lib.hid (sl_no hlt hq)
    clear hbr
    go_wp2
    go_quiet (fail)
    go_wp2
    go_ret
    exact ⟨ret_bool e.out.symm, below_drewN HB.out _⟩
  ·have hge : (n1 : Int) ≤ (k : Int) := by omega
   have HB := Lib.hid hbr
   have e := Lib.hid (sl_yes (n := n1) (x := x1) (y := x2) fun j hj => hall.out j (by omega))
   clear hbr
   go_wp2
   go_ret
   exact ⟨ret_bool e.out.symm, HB.out⟩
end Go.Proofs.YtdpkbfiggbcclaaGreat

/-
-/
namespace Go.Proofs.YtdpkbfiggbcclaaGreat
open Go.RowKit
def gsl (s : Int) (n : Nat) (x : Nat → Int) (t : Int) (m : Nat) (y : Nat → Int) : Bool := decide (s = t) && sl n x m y
theorem gsl_sz {s t : Int} {n m : Nat} {x y : Nat → Int} (h : s ≠ t) : gsl s n x t m y = false := by
 unfold gsl; rw [decide_eq_false h]; rfl
theorem gsl_rows {s : Int} {n m : Nat} {x y : Nat → Int} : gsl s n x s m y = sl n x m y := by
 unfold gsl; rw [decide_eq_true rfl]; rfl
set_option maxHeartbeats 1000000 in
theorem EqualGraphs_i (s1 s2 : Int) (A1 A2 : Option Addr) (n1 n2 c1 c2 : Nat) (x1 x2 : Nat → Int) (w : World) (B : Nat) (h1 : Rd w B A1 n1 c1 x1) (h2 : Rd w B A2 n2 c2 x2) (hB : B ≤ w.heap.size) (hn1 : n1 ≤ 1073741824) (hn2 : n2 ≤ 1073741824) :
 Calls Tryz.prog 343 #[.agg #[.int .i64 s1, .slice A1 n1 c1], .agg #[.int .i64 s2, .slice A2 n2 c2]] w fun e w' => e = .returned (.bool (gsl s1 n1 x1 s2 n2 x2)) ∧ Below w.heap.size w w' := by
 have HB : Hid (Below w.heap.size w ((w.alloc (Obj.cells #[Value.int IntKind.i64 s1, Value.slice A1 n1 c1] 28)).alloc (Obj.cells #[Value.int IntKind.i64 s2, Value.slice A2 n2 c2] 28))) := ((Below.refl _ _).alloc (Nat.le_refl _) _).alloc (by simp) _
 have HK := Lib.hid (Equal_any A1 A2 n1 n2 c1 c2 x1 x2 _ B (h1.keep (HB.out.mono hB) (Nat.le_refl _)) (h2.keep (HB.out.mono hB) (Nat.le_refl _)) (by simp; omega) hn1 hn2)
 clear h1 h2
 by_cases hs : s1 = s2
 ·subst hs
  rw [gsl_rows]
  go_enter Tryz.func343, Tryz.ntmps343
  go_wp2_with fail
  refine HK.out.mono ?_
  rintro e w1 ⟨rfl, hb⟩
  have HC : Hid (Below w.heap.size w w1) := HB.out.trans (hb.mono HB.out.size)
  clear hb
  go_wp2
  go_ret
  exact ⟨rfl, HC.out⟩
 ·have e := Lib.hid (gsl_sz (n := n1) (m := n2) (x := x1) (y := x2) hs)
  clear HK
  go_enter Tryz.func343, Tryz.ntmps343
  go_wp2
  go_ret
  exact ⟨ret_bool e.out.symm, HB.out⟩
set_option maxHeartbeats 1000000 in
theorem EqualGraphs_s (s1 s2 : Int) (A1 A2 : Option Addr) (n1 n2 c1 c2 : Nat) (x1 x2 : Nat → Int) (w : World) (B : Nat) (h1 : Rd w B A1 n1 c1 x1) (h2 : Rd w B A2 n2 c2 x2) (hB : B ≤ w.heap.size) (hn1 : n1 ≤ 1073741824) (hn2 : n2 ≤ 1073741824) :
 Calls Tryz.prog 50 #[.agg #[.int .i64 s1, .slice A1 n1 c1], .agg #[.int .i64 s2, .slice A2 n2 c2]] w fun e w' => e = .returned (.bool (gsl s1 n1 x1 s2 n2 x2)) ∧ Below w.heap.size w w' := by
 obtain ⟨W, hW⟩ : ∃ W : World, W = ((w.alloc (Obj.cells #[Value.int IntKind.i64 s1, Value.slice A1 n1 c1] 28)).alloc (Obj.cells #[Value.int IntKind.i64 s2, Value.slice A2 n2 c2] 28)) := ⟨_, rfl⟩
 have HB : Hid (Below w.heap.size w W) := by rw [hW]; exact ((Below.refl _ _).alloc (Nat.le_refl _) _).alloc (by simp) _
 have hWz : W.heap.size = w.heap.size + 1 + 1 := by rw [hW]; simp
 have g1 : W.cell? ⟨w.heap.size, 1, none⟩ = some (.slice A1 n1 c1) := by rw [hW]; simp [go_sem]
 have g2 : W.cell? ⟨w.heap.size + 1, 1, none⟩ = some (.slice A2 n2 c2) := by rw [hW]; simp [go_sem]
 by_cases hs : s1 = s2
 rotate_left
 ·have e := Lib.hid (gsl_sz (n := n1) (m := n2) (x := x1) (y := x2) hs)
  have HW := Lib.hid hW
  clear h1 h2 g1 g2 hW hWz
  go_enter Tryz.func50, Tryz.ntmps50
  go_wp2
  go_ret
  rw [← HW.out]
  exact ⟨ret_bool e.out.symm, HB.out⟩
 subst hs
 rw [gsl_rows]
 by_cases hne : n1 = n2
 rotate_left
 ·have e := Lib.hid (sl_len (x := x1) (y := x2) hne)
  have hne' : (n1 : Int) ≠ (n2 : Int) := by omega
  have HW := Lib.hid hW
  clear h1 h2 g1 g2 hW hWz
  go_enter Tryz.func50, Tryz.ntmps50
  go_wp2
  go_ret
  rw [← HW.out]
  exact ⟨ret_bool e.out.symm, HB.out⟩
 subst hne
 have H1 := Lib.hid h1
 have H2 := Lib.hid h2
 have G1 := Lib.hid g1
 have G2 := Lib.hid g2
 have HW := Lib.hid hW
 clear h1 h2 g1 g2 hW
 go_enter Tryz.func50, Tryz.ntmps50
 go_wp2
 rw [← HW.out]
 go_loopw [5] (fun i wr => ∃ k : Nat, k ≤ n1 ∧ i = .int .i64 k ∧ Hid (∀ j, j < k → x1 j = x2 j) ∧ Below W.heap.size W wr) (fun i _ => n1 - (intOf i).toNat)
 case atStart => exact ⟨0, Nat.zero_le _, rfl, (fun j hj => absurd hj (by omega)), Below.refl _ _⟩
 case round =>
  obtain ⟨k, hk, rfl, hall, hbr⟩ := hrel
  have q1 := up hbr G1.out (by omega)
  have q2 := up hbr G2.out (by omega)
  by_cases hlt : k < n1
  ·have hbw := HB.out.trans (hbr.mono HB.out.size)
   obtain ⟨b1, o1, rfl, l1, c1'⟩ := H1.out.pos (by omega)
   obtain ⟨b2, o2, rfl, l2, c2'⟩ := H2.out.pos (by omega)
   have f1 := (hbw.cell (p := ⟨b1, o1 + k, none⟩) (by show b1 < _; omega)).trans (c1' k hlt)
   have f2 := (hbw.cell (p := ⟨b2, o2 + k, none⟩) (by show b2 < _; omega)).trans (c2' k hlt)
   have hi : (k : Int) < (n1 : Int) := by omega
   clear c1' c2'
   by_cases hq : x1 k = x2 k
   ·have HB := Lib.hid hbr
    have Hq := Lib.hid hq
    rw [← hq] at f2
    clear hbr hq hbw
    go_wp2
    go_quiet (fail)
    go_wp2
    go_roundw
    case rel =>
     refine ⟨k + 1, by omega, by go_num, fun j hj => ?_, below_drewN HB.out _⟩
     by_cases hjk : j < k
     ·exact hall.out j hjk
     ·obtain rfl : j = k := by omega
      exact Hq.out
    case measure => simp [intOf]; omega
   ·have HBW := Lib.hid hbw
    have e := Lib.hid (sl_no hlt hq)
    clear hbr hbw
    go_wp2
    go_quiet (fail)
    go_wp2
    go_ret
    exact ⟨ret_bool e.out.symm, below_drewN HBW.out _⟩
  ·have hge : (n1 : Int) ≤ (k : Int) := by omega
   have HBW : Hid (Below w.heap.size w wr) := HB.out.trans (hbr.mono HB.out.size)
   have e := Lib.hid (sl_yes (n := n1) (x := x1) (y := x2) fun j hj => hall.out j (by omega))
   clear hbr
   go_wp2
   go_ret
   exact ⟨ret_bool e.out.symm, HBW.out⟩
end Go.Proofs.YtdpkbfiggbcclaaGreat

/-
-/
namespace Go.Proofs.YtdpkbfiggbcclaaGreat
open Go.RowKit
def Im1 (L R : List Int) (k : Nat) : Prop := ∀ i, i < k → 0 ≤ L.getD i 0 ∧ L.getD i 0 ≤ R.getD i 0 ∧ R.getD i 0 ≤ 99
noncomputable def imB (L R : List Int) : Bool := decide (1 ≤ L.length ∧ L.length ≤ 7) && decide (R.length = L.length) && @decide (Im1 L R L.length) (Classical.propDecidable _)
section
variable {L R : List Int} {k : Nat}
theorem im_len (h : ¬ (1 ≤ L.length ∧ L.length ≤ 7)) : imB L R = false := by unfold imB; rw [decide_eq_false h]; rfl
theorem im_same (h : R.length ≠ L.length) : imB L R = false := by unfold imB; rw [decide_eq_false h, Bool.and_false]; rfl
theorem im_no (hk : k < L.length) (h : ¬ (0 ≤ L.getD k 0 ∧ L.getD k 0 ≤ R.getD k 0 ∧ R.getD k 0 ≤ 99)) : imB L R = false := by
 unfold imB
 rw [@decide_eq_false _ (Classical.propDecidable _) fun hb => h (hb k hk), Bool.and_false]
theorem im_yes (h1 : 1 ≤ L.length ∧ L.length ≤ 7) (h2 : R.length = L.length) (h3 : Im1 L R L.length) : imB L R = true := by
 unfold imB
 rw [decide_eq_true h1, decide_eq_true h2, @decide_eq_true _ (Classical.propDecidable _) h3]; rfl
theorem Im1.zero : Im1 L R 0 := fun i h => absurd h (by omega)
theorem Im1.step (h : Im1 L R k) (h2 : 0 ≤ L.getD k 0 ∧ L.getD k 0 ≤ R.getD k 0 ∧ R.getD k 0 ≤ 99) : Im1 L R (k + 1) := fun i hi => by
 by_cases e : i < k
 ·exact h i e
 ·obtain rfl : i = k := by omega
  exact h2
theorem im_parts (h : imB L R = true) : (1 ≤ L.length ∧ L.length ≤ 7) ∧ R.length = L.length ∧ Im1 L R L.length := by
 unfold imB at h
 simp only [Bool.and_eq_true, decide_eq_true_eq] at h
 exact ⟨h.1.1, h.1.2, h.2⟩
end
structure IB (w : World) (q : Nat) (Al : Option Addr) (n cl : Nat) (Ar : Option Addr) (k cr : Nat) : Prop where
 c0 : w.cell? ⟨q, 0, none⟩ = some (.slice Al n cl)
 c1 : w.cell? ⟨q, 1, none⟩ = some (.slice Ar k cr)
theorem IB.keep {w w' : World} {q : Nat} {Al : Option Addr} {n cl : Nat} {Ar : Option Addr} {k cr : Nat} (h : IB w q Al n cl Ar k cr) (hb : Below w.heap.size w w') : IB w' q Al n cl Ar k cr := ⟨up_ hb h.c0, up_ hb h.c1⟩
theorem IB.lt {w : World} {q : Nat} {Al : Option Addr} {n cl : Nat} {Ar : Option Addr} {k cr : Nat} (h : IB w q Al n cl Ar k cr) : q < w.heap.size := World.block_lt_of_cell? _ _ h.c0
end Go.Proofs.YtdpkbfiggbcclaaGreat
