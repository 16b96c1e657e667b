/-
  The program's ApplyEdits answers as the reference's at every input: the law FnExactApplyEdits answers true.
  No condition.
-/
import Derived.Test.YtnnlmdenffnjbaaApplyI
import Derived.Test.YtnnlmdenffnjbaaApplyS
import Derived.Test.YtnnlmdenffnjbaaLawEdit
import Derived.Test.YtnnlmdenffnjbaaLawGraph2
import Derived.Test.YtnnlmdenffnjbaaOpen3
import Derived.Deep.RegionHeld3
namespace Go.Proofs.Ytnnlmdenffnjbaa.fnExactApplyEdits
open Go.ChangeShapes Go.WideShapes Go.ChangeAt Go.RowKit

theorem le_drew {a : Nat} {w : World} (h : a ≤ w.heap.size) : a ≤ w.drew.heap.size := h
set_option maxRecDepth 100000 in
set_option maxHeartbeats 1600000 in
theorem walk (s1 : Int) (A1 : Option Addr) (m1 : Nat) (c1 : Nat) (x1 : Nat → Int) (A2 : Option Addr) (m2 : Nat) (c2 : Nat) (a2 : Nat → Bool) (v2 : Nat → Int) (u2 : Nat → Int) (w : World) (h1 : Rd w w.heap.size A1 m1 c1 x1) (n1 : m1 ≤ maxLen) (h2 : RdE w w.heap.size A2 m2 c2 a2 v2 u2) (n2 : m2 ≤ maxLen) :
    Calls Try.prog 3 #[.agg #[.int .i64 s1, .slice A1 m1 c1], .slice A2 m2 c2] w fun e w' => e = .returned (.bool true) ∧ Below w.heap.size w w' := by
  obtain ⟨w0, hW⟩ : ∃ W : World, W = (w.alloc (Obj.cells #[.int .i64 s1, .slice A1 m1 c1] 24)) := ⟨_, rfl⟩
  have HB : Hid (Below w.heap.size w w0) := by rw [hW]; exact ((Below.refl _ _).alloc (by simp) _)
  have z0_0 : w.heap.size < w0.heap.size := by rw [hW]; simp <;> omega
  have e1a_0 : w0.cell? ⟨w.heap.size, 0, none⟩ = some (.int .i64 s1) := by rw [hW]; simp [go_sem]
  have e1b_0 : w0.cell? ⟨w.heap.size, 1, none⟩ = some (.slice A1 m1 c1) := by rw [hW]; simp [go_sem]
  have SZ : Hid (w.heap.size + 1 ≤ w0.heap.size) := by rw [hW]; simp [Hid]
  have HW := Lib.hid hW
  clear hW
  go_enter Try.func3, Try.ntmps3
  go_wp2_with fail
  rw [← HW.out]
  clear HW
  refine (szGraph_any s1 A1 m1 c1 ((1048576 : Int)) w0 n1 (by omega) (by omega)).mono ?_
  rintro e w1 ⟨rfl, hb⟩
  have zz := hb.size
  have e1a_1 := up hb e1a_0 z0_0
  have e1b_1 := up hb e1b_0 z0_0
  have z0_1 := Nat.lt_of_lt_of_le z0_0 zz
  replace HB := Lib.hid (HB.out.trans (hb.mono HB.out.size))
  replace SZ := Lib.hid (And.intro SZ.out zz)
  clear zz hb e1a_0 e1b_0 z0_0
  by_cases p1 : (1048576 : Int) < m1
  · have q1 : szl ((1048576 : Int)) m1 < 0 := by unfold szl; rw [if_pos p1]; omega
    clear p1
    go_wp2
    go_ret
    exact ⟨rfl, HB.out⟩
  have q1 : szl ((1048576 : Int)) m1 = (1048576 : Int) - m1 := by unfold szl; rw [if_neg p1]
  rw [q1]
  clear q1 n1
  go_wp2_with fail
  refine (szEditS_max A2 m2 c2 ((1048576 : Int) - m1) w1 n2 (by omega) (by omega)).mono ?_
  rintro e w' ⟨rfl, rfl⟩
  by_cases p2 : (1048576 : Int) - m1 < m2
  · have q1 : szl ((1048576 : Int) - m1) m2 < 0 := by unfold szl; rw [if_pos p2]; omega
    clear p2
    go_wp2
    go_ret
    exact ⟨rfl, HB.out⟩
  have q1 : szl ((1048576 : Int) - m1) m2 = (1048576 : Int) - m1 - m2 := by unfold szl; rw [if_neg p2]
  rw [q1]
  clear q1 n2
  go_wp2_with fail
  refine (toGraph_any s1 A1 m1 c1 x1 _ _ (h1.keep HB.out (Nat.le_refl _)) HB.out.size (by omega)).mono ?_
  rintro e w2 ⟨ky1, hky1, rfl, hoy1, hb⟩
  have Oy1 := Lib.hid hoy1
  clear hoy1
  have zz := hb.size
  have e1a_2 := up hb e1a_1 z0_1
  have e1b_2 := up hb e1b_1 z0_1
  have z0_2 := Nat.lt_of_lt_of_le z0_1 zz
  replace HB := Lib.hid (HB.out.trans (hb.mono HB.out.size))
  replace SZ := Lib.hid (And.intro SZ.out zz)
  clear zz hb e1a_1 e1b_1 z0_1
  clear hky1
  go_wp2_with fail
  refine (toEditS_any A2 m2 c2 a2 v2 u2 _ _ (h2.keep HB.out (Nat.le_refl _)) HB.out.size (by omega)).mono ?_
  rintro e w3 ⟨ky2, hky2, rfl, hoy2, hb⟩
  have Oy2 := Lib.hid hoy2
  clear hoy2
  have zz := hb.size
  have e1a_3 := up hb e1a_2 z0_2
  have e1b_3 := up hb e1b_2 z0_2
  have z0_3 := Nat.lt_of_lt_of_le z0_2 zz
  replace Oy1 := Lib.hid (Oy1.out.keepB hb (by have := SZ.out; omega))
  replace HB := Lib.hid (HB.out.trans (hb.mono HB.out.size))
  replace SZ := Lib.hid (And.intro SZ.out zz)
  clear zz hb e1a_2 e1b_2 z0_2
  clear hky2
  go_wp2_with fail
  refine (ApplyEdits_s s1 _ m1 m1 x1 _ m2 m2 a2 v2 u2 w3 w3.heap.size (Oy1.out.rd.keep (Below.refl _ _) (by have := SZ.out; omega)) (Oy2.out.rdE.keep (Below.refl _ _) (by have := SZ.out; omega)) (Nat.le_refl _) (by omega) (by omega) ).mono ?_
  rintro e w4 ⟨Aw0, cw0, rfl, how0, hb⟩
  have Ow0 := Lib.hid how0
  clear how0
  have zz := hb.size
  have e1a_4 := up hb e1a_3 z0_3
  have e1b_4 := up hb e1b_3 z0_3
  have z0_4 := Nat.lt_of_lt_of_le z0_3 zz
  replace Oy1 := Lib.hid (Oy1.out.keepB hb (by have := SZ.out; omega))
  replace Oy2 := Lib.hid (Oy2.out.keepB hb (by have := SZ.out; omega))
  replace HB := Lib.hid (HB.out.trans (hb.mono HB.out.size))
  replace SZ := Lib.hid (And.intro SZ.out zz)
  clear zz hb e1a_3 e1b_3 z0_3
  clear Oy1
  clear Oy2
  obtain ⟨w5, hW⟩ : ∃ W : World, W = w4.alloc (Obj.cells #[.int .i64 ((apZ s1 m1 x1 m2 a2 v2 u2)), .slice Aw0 ((apN s1 m1 x1 m2 a2 v2 u2)) cw0] 28) := ⟨_, rfl⟩
  obtain ⟨Xw0, hX⟩ : ∃ X : Nat, X = w4.heap.size := ⟨_, rfl⟩
  have hb : Below w4.heap.size w4 w5 := by rw [hW]; exact (Below.refl _ _).alloc (Nat.le_refl _) _
  have y0 : w5.cell? ⟨Xw0, 0, none⟩ = some (.int .i64 ((apZ s1 m1 x1 m2 a2 v2 u2))) := by rw [hW, hX]; simp [go_sem]
  have y1 : w5.cell? ⟨Xw0, 1, none⟩ = some (.slice Aw0 ((apN s1 m1 x1 m2 a2 v2 u2)) cw0) := by rw [hW, hX]; simp [go_sem]
  have yz : Xw0 < w5.heap.size := by rw [hW, hX]; simp
  have ys : w4.heap.size ≤ Xw0 := by rw [hX]; exact Nat.le_refl _
  have HWx := Lib.hid hW
  have HX := Lib.hid hX
  clear hW hX
  have zz := hb.size
  have e1a_5 := up hb e1a_4 z0_4
  have e1b_5 := up hb e1b_4 z0_4
  have z0_5 := Nat.lt_of_lt_of_le z0_4 zz
  replace Ow0 := Lib.hid (Ow0.out.keepB hb (by have := SZ.out; omega))
  replace HB := Lib.hid (HB.out.trans (hb.mono HB.out.size))
  replace SZ := Lib.hid (And.intro SZ.out zz)
  clear zz hb 
  replace SZ := Lib.hid (And.intro SZ.out (And.intro ys yz))
  clear ys
  have bw00_5 := y0
  clear y0
  have bw01_5 := y1
  clear y1
  have zbw0_5 := yz
  clear yz
  go_wp2_with fail
  rw [← HWx.out, ← HX.out]
  clear HWx HX e1a_4 e1b_4 z0_4
  go_wp2_with fail
  refine (toGraph_any s1 A1 m1 c1 x1 _ _ (h1.keep HB.out (Nat.le_refl _)) HB.out.size (by omega)).mono ?_
  rintro e w6 ⟨kx1, hkx1, rfl, hox1, hb⟩
  have Ox1 := Lib.hid hox1
  clear hox1
  have zz := hb.size
  have e1a_6 := up hb e1a_5 z0_5
  have e1b_6 := up hb e1b_5 z0_5
  have bw00_6 := up hb bw00_5 zbw0_5
  have bw01_6 := up hb bw01_5 zbw0_5
  have z0_6 := Nat.lt_of_lt_of_le z0_5 zz
  have zbw0_6 := Nat.lt_of_lt_of_le zbw0_5 zz
  replace Ow0 := Lib.hid (Ow0.out.keepB hb (by have := SZ.out; omega))
  replace HB := Lib.hid (HB.out.trans (hb.mono HB.out.size))
  replace SZ := Lib.hid (And.intro SZ.out zz)
  clear zz hb e1a_5 e1b_5 bw00_5 bw01_5 z0_5 zbw0_5
  clear hkx1
  obtain ⟨w7, hW⟩ : ∃ W : World, W = w6.alloc (Obj.cells #[.int .i64 s1, .slice (some ⟨kx1, 0, none⟩) m1 m1] 28) := ⟨_, rfl⟩
  obtain ⟨Xx1, hX⟩ : ∃ X : Nat, X = w6.heap.size := ⟨_, rfl⟩
  have hb : Below w6.heap.size w6 w7 := by rw [hW]; exact (Below.refl _ _).alloc (Nat.le_refl _) _
  have y0 : w7.cell? ⟨Xx1, 0, none⟩ = some (.int .i64 s1) := by rw [hW, hX]; simp [go_sem]
  have y1 : w7.cell? ⟨Xx1, 1, none⟩ = some (.slice (some ⟨kx1, 0, none⟩) m1 m1) := by rw [hW, hX]; simp [go_sem]
  have yz : Xx1 < w7.heap.size := by rw [hW, hX]; simp
  have ys : w6.heap.size ≤ Xx1 := by rw [hX]; exact Nat.le_refl _
  have HWx := Lib.hid hW
  have HX := Lib.hid hX
  clear hW hX
  have zz := hb.size
  have e1a_7 := up hb e1a_6 z0_6
  have e1b_7 := up hb e1b_6 z0_6
  have bw00_7 := up hb bw00_6 zbw0_6
  have bw01_7 := up hb bw01_6 zbw0_6
  have z0_7 := Nat.lt_of_lt_of_le z0_6 zz
  have zbw0_7 := Nat.lt_of_lt_of_le zbw0_6 zz
  replace Ow0 := Lib.hid (Ow0.out.keepB hb (by have := SZ.out; omega))
  replace Ox1 := Lib.hid (Ox1.out.keepB hb (by have := SZ.out; omega))
  replace HB := Lib.hid (HB.out.trans (hb.mono HB.out.size))
  replace SZ := Lib.hid (And.intro SZ.out zz)
  clear zz hb 
  replace SZ := Lib.hid (And.intro SZ.out (And.intro ys yz))
  clear ys
  have bx10_7 := y0
  clear y0
  have bx11_7 := y1
  clear y1
  have zbx1_7 := yz
  clear yz
  go_wp2_with fail
  rw [← HWx.out, ← HX.out]
  clear HWx HX e1a_6 e1b_6 bw00_6 bw01_6 z0_6 zbw0_6
  go_wp2_with fail
  refine (toEditS_any A2 m2 c2 a2 v2 u2 _ _ (h2.keep HB.out (Nat.le_refl _)) HB.out.size (by omega)).mono ?_
  rintro e w8 ⟨kx2, hkx2, rfl, hox2, hb⟩
  have Ox2 := Lib.hid hox2
  clear hox2
  have zz := hb.size
  have e1a_8 := up hb e1a_7 z0_7
  have e1b_8 := up hb e1b_7 z0_7
  have bw00_8 := up hb bw00_7 zbw0_7
  have bw01_8 := up hb bw01_7 zbw0_7
  have bx10_8 := up hb bx10_7 zbx1_7
  have bx11_8 := up hb bx11_7 zbx1_7
  have z0_8 := Nat.lt_of_lt_of_le z0_7 zz
  have zbw0_8 := Nat.lt_of_lt_of_le zbw0_7 zz
  have zbx1_8 := Nat.lt_of_lt_of_le zbx1_7 zz
  replace Ow0 := Lib.hid (Ow0.out.keepB hb (by have := SZ.out; omega))
  replace Ox1 := Lib.hid (Ox1.out.keepB hb (by have := SZ.out; omega))
  replace HB := Lib.hid (HB.out.trans (hb.mono HB.out.size))
  replace SZ := Lib.hid (And.intro SZ.out zz)
  clear zz hb e1a_7 e1b_7 bw00_7 bw01_7 bx10_7 bx11_7 z0_7 zbw0_7 zbx1_7
  clear hkx2
  go_wp2_with fail
  refine (ApplyEdits_i s1 _ m1 m1 x1 _ m2 m2 a2 v2 u2 w8 w8.heap.size (Ox1.out.rd.keep (Below.refl _ _) (by have := SZ.out; omega)) (Ox2.out.rdE.keep (Below.refl _ _) (by have := SZ.out; omega)) (Nat.le_refl _) (by omega) (by omega) ).mono ?_
  rintro e w9 ⟨Ag0, cg0, rfl, hog0, hb⟩
  have Og0 := Lib.hid hog0
  clear hog0
  have zz := hb.size
  have e1a_9 := up hb e1a_8 z0_8
  have e1b_9 := up hb e1b_8 z0_8
  have bw00_9 := up hb bw00_8 zbw0_8
  have bw01_9 := up hb bw01_8 zbw0_8
  have bx10_9 := up hb bx10_8 zbx1_8
  have bx11_9 := up hb bx11_8 zbx1_8
  have z0_9 := Nat.lt_of_lt_of_le z0_8 zz
  have zbw0_9 := Nat.lt_of_lt_of_le zbw0_8 zz
  have zbx1_9 := Nat.lt_of_lt_of_le zbx1_8 zz
  replace Ow0 := Lib.hid (Ow0.out.keepB hb (by have := SZ.out; omega))
  replace Ox1 := Lib.hid (Ox1.out.keepB hb (by have := SZ.out; omega))
  replace Ox2 := Lib.hid (Ox2.out.keepB hb (by have := SZ.out; omega))
  replace HB := Lib.hid (HB.out.trans (hb.mono HB.out.size))
  replace SZ := Lib.hid (And.intro SZ.out zz)
  clear zz hb e1a_8 e1b_8 bw00_8 bw01_8 bx10_8 bx11_8 z0_8 zbw0_8 zbx1_8
  obtain ⟨w10, hW⟩ : ∃ W : World, W = w9.alloc (Obj.cells #[.int .i64 ((apZ s1 m1 x1 m2 a2 v2 u2)), .slice Ag0 ((apN s1 m1 x1 m2 a2 v2 u2)) cg0] 28) := ⟨_, rfl⟩
  obtain ⟨Xg0, hX⟩ : ∃ X : Nat, X = w9.heap.size := ⟨_, rfl⟩
  have hb : Below w9.heap.size w9 w10 := by rw [hW]; exact (Below.refl _ _).alloc (Nat.le_refl _) _
  have y0 : w10.cell? ⟨Xg0, 0, none⟩ = some (.int .i64 ((apZ s1 m1 x1 m2 a2 v2 u2))) := by rw [hW, hX]; simp [go_sem]
  have y1 : w10.cell? ⟨Xg0, 1, none⟩ = some (.slice Ag0 ((apN s1 m1 x1 m2 a2 v2 u2)) cg0) := by rw [hW, hX]; simp [go_sem]
  have yz : Xg0 < w10.heap.size := by rw [hW, hX]; simp
  have ys : w9.heap.size ≤ Xg0 := by rw [hX]; exact Nat.le_refl _
  have HWx := Lib.hid hW
  have HX := Lib.hid hX
  clear hW hX
  have zz := hb.size
  have e1a_10 := up hb e1a_9 z0_9
  have e1b_10 := up hb e1b_9 z0_9
  have bw00_10 := up hb bw00_9 zbw0_9
  have bw01_10 := up hb bw01_9 zbw0_9
  have bx10_10 := up hb bx10_9 zbx1_9
  have bx11_10 := up hb bx11_9 zbx1_9
  have z0_10 := Nat.lt_of_lt_of_le z0_9 zz
  have zbw0_10 := Nat.lt_of_lt_of_le zbw0_9 zz
  have zbx1_10 := Nat.lt_of_lt_of_le zbx1_9 zz
  replace Ow0 := Lib.hid (Ow0.out.keepB hb (by have := SZ.out; omega))
  replace Ox1 := Lib.hid (Ox1.out.keepB hb (by have := SZ.out; omega))
  replace Ox2 := Lib.hid (Ox2.out.keepB hb (by have := SZ.out; omega))
  replace Og0 := Lib.hid (Og0.out.keepB hb (by have := SZ.out; omega))
  replace HB := Lib.hid (HB.out.trans (hb.mono HB.out.size))
  replace SZ := Lib.hid (And.intro SZ.out zz)
  clear zz hb 
  replace SZ := Lib.hid (And.intro SZ.out (And.intro ys yz))
  clear ys
  have bg00_10 := y0
  clear y0
  have bg01_10 := y1
  clear y1
  have zbg0_10 := yz
  clear yz
  go_wp2_with fail
  rw [← HWx.out, ← HX.out]
  clear HWx HX e1a_9 e1b_9 bw00_9 bw01_9 bx10_9 bx11_9 z0_9 zbw0_9 zbx1_9
  go_wp2_with fail
  refine (eqGraph_yes _ _ _ _ _ _ _ w10 w10.heap.size w10.heap.size (Og0.out.rd.keep (Below.refl _ _) (by have := SZ.out; omega)) (Ow0.out.rd.keep (Below.refl _ _) (by have := SZ.out; omega)) (Nat.le_refl _) (Nat.le_refl _) (Nat.le_trans apN_le (by omega))).mono ?_
  rintro e w11 ⟨rfl, hb⟩
  have zz := hb.size
  have e1a_11 := up hb e1a_10 z0_10
  have e1b_11 := up hb e1b_10 z0_10
  have bw00_11 := up hb bw00_10 zbw0_10
  have bw01_11 := up hb bw01_10 zbw0_10
  have bx10_11 := up hb bx10_10 zbx1_10
  have bx11_11 := up hb bx11_10 zbx1_10
  have bg00_11 := up hb bg00_10 zbg0_10
  have bg01_11 := up hb bg01_10 zbg0_10
  have z0_11 := Nat.lt_of_lt_of_le z0_10 zz
  have zbw0_11 := Nat.lt_of_lt_of_le zbw0_10 zz
  have zbx1_11 := Nat.lt_of_lt_of_le zbx1_10 zz
  have zbg0_11 := Nat.lt_of_lt_of_le zbg0_10 zz
  replace Ow0 := Lib.hid (Ow0.out.keepB hb (by have := SZ.out; omega))
  replace Ox1 := Lib.hid (Ox1.out.keepB hb (by have := SZ.out; omega))
  replace Ox2 := Lib.hid (Ox2.out.keepB hb (by have := SZ.out; omega))
  replace Og0 := Lib.hid (Og0.out.keepB hb (by have := SZ.out; omega))
  replace HB := Lib.hid (HB.out.trans (hb.mono HB.out.size))
  replace SZ := Lib.hid (And.intro SZ.out zz)
  clear zz hb e1a_10 e1b_10 bw00_10 bw01_10 bx10_10 bx11_10 bg00_10 bg01_10 z0_10 zbw0_10 zbx1_10 zbg0_10
  have HK : Hid (∀ a b : World, (w.heap.size < a.heap.size ∧ Xw0 < a.heap.size ∧ Xx1 < a.heap.size ∧ Xg0 < a.heap.size ∧ a.cell? ⟨w.heap.size, 0, none⟩ = some (.int .i64 s1) ∧ a.cell? ⟨w.heap.size, 1, none⟩ = some (.slice A1 m1 c1) ∧ a.cell? ⟨Xw0, 0, none⟩ = some (.int .i64 ((apZ s1 m1 x1 m2 a2 v2 u2))) ∧ a.cell? ⟨Xw0, 1, none⟩ = some (.slice Aw0 ((apN s1 m1 x1 m2 a2 v2 u2)) cw0) ∧ a.cell? ⟨Xx1, 0, none⟩ = some (.int .i64 s1) ∧ a.cell? ⟨Xx1, 1, none⟩ = some (.slice (some ⟨kx1, 0, none⟩) m1 m1) ∧ a.cell? ⟨Xg0, 0, none⟩ = some (.int .i64 ((apZ s1 m1 x1 m2 a2 v2 u2))) ∧ a.cell? ⟨Xg0, 1, none⟩ = some (.slice Ag0 ((apN s1 m1 x1 m2 a2 v2 u2)) cg0)) → Below a.heap.size a b → (w.heap.size < b.heap.size ∧ Xw0 < b.heap.size ∧ Xx1 < b.heap.size ∧ Xg0 < b.heap.size ∧ b.cell? ⟨w.heap.size, 0, none⟩ = some (.int .i64 s1) ∧ b.cell? ⟨w.heap.size, 1, none⟩ = some (.slice A1 m1 c1) ∧ b.cell? ⟨Xw0, 0, none⟩ = some (.int .i64 ((apZ s1 m1 x1 m2 a2 v2 u2))) ∧ b.cell? ⟨Xw0, 1, none⟩ = some (.slice Aw0 ((apN s1 m1 x1 m2 a2 v2 u2)) cw0) ∧ b.cell? ⟨Xx1, 0, none⟩ = some (.int .i64 s1) ∧ b.cell? ⟨Xx1, 1, none⟩ = some (.slice (some ⟨kx1, 0, none⟩) m1 m1) ∧ b.cell? ⟨Xg0, 0, none⟩ = some (.int .i64 ((apZ s1 m1 x1 m2 a2 v2 u2))) ∧ b.cell? ⟨Xg0, 1, none⟩ = some (.slice Ag0 ((apN s1 m1 x1 m2 a2 v2 u2)) cg0))) := by
    rintro a b ⟨r0, r1, r2, r3, r4, r5, r6, r7, r8, r9, r10, r11⟩ hb
    have := hb.size
    exact ⟨by omega, by omega, by omega, by omega, up hb r4 (by omega), up hb r5 (by omega), up hb r6 (by omega), up hb r7 (by omega), up hb r8 (by omega), up hb r9 (by omega), up hb r10 (by omega), up hb r11 (by omega)⟩
  go_wp2_with fail
  have H11 : Hid (Below w.heap.size w w11.drew) := HB.out.drew
  go_region_held3 (fun a => w.heap.size < a.heap.size ∧ Xw0 < a.heap.size ∧ Xx1 < a.heap.size ∧ Xg0 < a.heap.size ∧ a.cell? ⟨w.heap.size, 0, none⟩ = some (.int .i64 s1) ∧ a.cell? ⟨w.heap.size, 1, none⟩ = some (.slice A1 m1 c1) ∧ a.cell? ⟨Xw0, 0, none⟩ = some (.int .i64 ((apZ s1 m1 x1 m2 a2 v2 u2))) ∧ a.cell? ⟨Xw0, 1, none⟩ = some (.slice Aw0 ((apN s1 m1 x1 m2 a2 v2 u2)) cw0) ∧ a.cell? ⟨Xx1, 0, none⟩ = some (.int .i64 s1) ∧ a.cell? ⟨Xx1, 1, none⟩ = some (.slice (some ⟨kx1, 0, none⟩) m1 m1) ∧ a.cell? ⟨Xg0, 0, none⟩ = some (.int .i64 ((apZ s1 m1 x1 m2 a2 v2 u2))) ∧ a.cell? ⟨Xg0, 1, none⟩ = some (.slice Ag0 ((apN s1 m1 x1 m2 a2 v2 u2)) cg0))
    (first | (refine ⟨?_, ?_, ?_, ?_, ?_, ?_, ?_, ?_, ?_, ?_, ?_, ?_⟩ <;> assumption) | exact HK.out _ _ (by assumption) hb13 | exact HK.out _ _ (by assumption) hb12)
    (first
      | (go_at_call 15; ((with_reducible refine (toGraph_any s1 A1 m1 c1 x1 _ _ (h1.keep H11.out (Nat.le_refl _)) H11.out.size (by omega)).mono ?_); rintro e w12 ⟨kt1, hkt1, rfl, hot1, hb12⟩; have H12 := Lib.hid (H11.out.trans (hb12.mono H11.out.size))))
      | (go_at_call 18; ((with_reducible refine (eqGraph_yes _ _ _ _ _ _ _ w12 w12.heap.size w12.heap.size ((Ox1.out.rd.keep (Below.drew (Below.refl _ w11)) (le_drew (by have := SZ.out; omega))).keep hb12 hb12.size) (hot1.rd) (Nat.le_refl _) (Nat.le_refl _) (by omega)).mono ?_); rintro e w13 ⟨rfl, hb13⟩; have H13 := Lib.hid (H12.out.trans (hb13.mono H12.out.size)))))
  clear H12
  clear H13
  clear HK H11
  replace hb12 := bd hb12
  have Ot1 := Lib.hid hot1
  clear hot1
  have zz := hb12.size
  have e1a_12 := up hb12 e1a_11 z0_11
  have e1b_12 := up hb12 e1b_11 z0_11
  have bw00_12 := up hb12 bw00_11 zbw0_11
  have bw01_12 := up hb12 bw01_11 zbw0_11
  have bx10_12 := up hb12 bx10_11 zbx1_11
  have bx11_12 := up hb12 bx11_11 zbx1_11
  have bg00_12 := up hb12 bg00_11 zbg0_11
  have bg01_12 := up hb12 bg01_11 zbg0_11
  have z0_12 := Nat.lt_of_lt_of_le z0_11 zz
  have zbw0_12 := Nat.lt_of_lt_of_le zbw0_11 zz
  have zbx1_12 := Nat.lt_of_lt_of_le zbx1_11 zz
  have zbg0_12 := Nat.lt_of_lt_of_le zbg0_11 zz
  replace Ow0 := Lib.hid (Ow0.out.keepB hb12 (by have := SZ.out; omega))
  replace Ox1 := Lib.hid (Ox1.out.keepB hb12 (by have := SZ.out; omega))
  replace Ox2 := Lib.hid (Ox2.out.keepB hb12 (by have := SZ.out; omega))
  replace Og0 := Lib.hid (Og0.out.keepB hb12 (by have := SZ.out; omega))
  replace HB := Lib.hid (HB.out.trans (hb12.mono HB.out.size))
  replace SZ := Lib.hid (And.intro SZ.out zz)
  clear zz hb12 e1a_11 e1b_11 bw00_11 bw01_11 bx10_11 bx11_11 bg00_11 bg01_11 z0_11 zbw0_11 zbx1_11 zbg0_11
  clear hkt1
  have zz := hb13.size
  have e1a_13 := up hb13 e1a_12 z0_12
  have e1b_13 := up hb13 e1b_12 z0_12
  have bw00_13 := up hb13 bw00_12 zbw0_12
  have bw01_13 := up hb13 bw01_12 zbw0_12
  have bx10_13 := up hb13 bx10_12 zbx1_12
  have bx11_13 := up hb13 bx11_12 zbx1_12
  have bg00_13 := up hb13 bg00_12 zbg0_12
  have bg01_13 := up hb13 bg01_12 zbg0_12
  have z0_13 := Nat.lt_of_lt_of_le z0_12 zz
  have zbw0_13 := Nat.lt_of_lt_of_le zbw0_12 zz
  have zbx1_13 := Nat.lt_of_lt_of_le zbx1_12 zz
  have zbg0_13 := Nat.lt_of_lt_of_le zbg0_12 zz
  replace Ow0 := Lib.hid (Ow0.out.keepB hb13 (by have := SZ.out; omega))
  replace Ox1 := Lib.hid (Ox1.out.keepB hb13 (by have := SZ.out; omega))
  replace Ox2 := Lib.hid (Ox2.out.keepB hb13 (by have := SZ.out; omega))
  replace Og0 := Lib.hid (Og0.out.keepB hb13 (by have := SZ.out; omega))
  replace Ot1 := Lib.hid (Ot1.out.keepB hb13 (by have := SZ.out; omega))
  replace HB := Lib.hid (HB.out.trans (hb13.mono HB.out.size))
  replace SZ := Lib.hid (And.intro SZ.out zz)
  clear zz hb13 e1a_12 e1b_12 bw00_12 bw01_12 bx10_12 bx11_12 bg00_12 bg01_12 z0_12 zbw0_12 zbx1_12 zbg0_12
  clear Ot1
  go_wp2_with fail
  refine (toEditS_any A2 m2 c2 a2 v2 u2 _ _ (h2.keep HB.out (Nat.le_refl _)) HB.out.size (by omega)).mono ?_
  rintro e w14 ⟨kt2, hkt2, rfl, hot2, hb⟩
  have Ot2 := Lib.hid hot2
  clear hot2
  have zz := hb.size
  have e1a_14 := up hb e1a_13 z0_13
  have e1b_14 := up hb e1b_13 z0_13
  have bw00_14 := up hb bw00_13 zbw0_13
  have bw01_14 := up hb bw01_13 zbw0_13
  have bx10_14 := up hb bx10_13 zbx1_13
  have bx11_14 := up hb bx11_13 zbx1_13
  have bg00_14 := up hb bg00_13 zbg0_13
  have bg01_14 := up hb bg01_13 zbg0_13
  have z0_14 := Nat.lt_of_lt_of_le z0_13 zz
  have zbw0_14 := Nat.lt_of_lt_of_le zbw0_13 zz
  have zbx1_14 := Nat.lt_of_lt_of_le zbx1_13 zz
  have zbg0_14 := Nat.lt_of_lt_of_le zbg0_13 zz
  replace Ow0 := Lib.hid (Ow0.out.keepB hb (by have := SZ.out; omega))
  replace Ox1 := Lib.hid (Ox1.out.keepB hb (by have := SZ.out; omega))
  replace Ox2 := Lib.hid (Ox2.out.keepB hb (by have := SZ.out; omega))
  replace Og0 := Lib.hid (Og0.out.keepB hb (by have := SZ.out; omega))
  replace HB := Lib.hid (HB.out.trans (hb.mono HB.out.size))
  replace SZ := Lib.hid (And.intro SZ.out zz)
  clear zz hb e1a_13 e1b_13 bw00_13 bw01_13 bx10_13 bx11_13 bg00_13 bg01_13 z0_13 zbw0_13 zbx1_13 zbg0_13
  clear hkt2
  go_wp2_with fail
  refine (eqEditS_yes _ _ _ _ _ _ _ _ w14 w14.heap.size w14.heap.size (Ox2.out.rdE.keep (Below.refl _ _) (by have := SZ.out; omega)) (Ot2.out.rdE.keep (Below.refl _ _) (by have := SZ.out; omega)) (Nat.le_refl _) (Nat.le_refl _) (by omega)).mono ?_
  rintro e w15 ⟨rfl, hb⟩
  have zz := hb.size
  have e1a_15 := up hb e1a_14 z0_14
  have e1b_15 := up hb e1b_14 z0_14
  have bw00_15 := up hb bw00_14 zbw0_14
  have bw01_15 := up hb bw01_14 zbw0_14
  have bx10_15 := up hb bx10_14 zbx1_14
  have bx11_15 := up hb bx11_14 zbx1_14
  have bg00_15 := up hb bg00_14 zbg0_14
  have bg01_15 := up hb bg01_14 zbg0_14
  have z0_15 := Nat.lt_of_lt_of_le z0_14 zz
  have zbw0_15 := Nat.lt_of_lt_of_le zbw0_14 zz
  have zbx1_15 := Nat.lt_of_lt_of_le zbx1_14 zz
  have zbg0_15 := Nat.lt_of_lt_of_le zbg0_14 zz
  replace Ow0 := Lib.hid (Ow0.out.keepB hb (by have := SZ.out; omega))
  replace Ox1 := Lib.hid (Ox1.out.keepB hb (by have := SZ.out; omega))
  replace Ox2 := Lib.hid (Ox2.out.keepB hb (by have := SZ.out; omega))
  replace Og0 := Lib.hid (Og0.out.keepB hb (by have := SZ.out; omega))
  replace Ot2 := Lib.hid (Ot2.out.keepB hb (by have := SZ.out; omega))
  replace HB := Lib.hid (HB.out.trans (hb.mono HB.out.size))
  replace SZ := Lib.hid (And.intro SZ.out zz)
  clear zz hb e1a_14 e1b_14 bw00_14 bw01_14 bx10_14 bx11_14 bg00_14 bg01_14 z0_14 zbw0_14 zbx1_14 zbg0_14
  clear Ot2
  go_wp2_with fail
  refine (markGraph_any _ _ _ _ _ (1 : Int) w15 _ _ Ox1.out (by omega) (by omega) (by omega) (by have := SZ.out; omega)).mono ?_
  rintro e w16 ⟨rfl, ho, hf⟩
  replace Ox1 := Lib.hid (Own.marked ho)
  clear ho
  have zz := hf.size
  have e1a_16 := upFr hf e1a_15 z0_15 (by have := SZ.out; omega)
  have e1b_16 := upFr hf e1b_15 z0_15 (by have := SZ.out; omega)
  have bw00_16 := upFr hf bw00_15 zbw0_15 (by have := SZ.out; omega)
  have bw01_16 := upFr hf bw01_15 zbw0_15 (by have := SZ.out; omega)
  have bx10_16 := upFr hf bx10_15 zbx1_15 (by have := SZ.out; omega)
  have bx11_16 := upFr hf bx11_15 zbx1_15 (by have := SZ.out; omega)
  have bg00_16 := upFr hf bg00_15 zbg0_15 (by have := SZ.out; omega)
  have bg01_16 := upFr hf bg01_15 zbg0_15 (by have := SZ.out; omega)
  have z0_16 := Nat.lt_of_lt_of_le z0_15 zz
  have zbw0_16 := Nat.lt_of_lt_of_le zbw0_15 zz
  have zbx1_16 := Nat.lt_of_lt_of_le zbx1_15 zz
  have zbg0_16 := Nat.lt_of_lt_of_le zbg0_15 zz
  replace Ow0 := Lib.hid (Ow0.out.keep hf (by have := SZ.out; omega))
  replace Ox2 := Lib.hid (Ox2.out.keep hf (by have := SZ.out; omega))
  replace Og0 := Lib.hid (Og0.out.keep hf (by have := SZ.out; omega))
  replace HB := Lib.hid (HB.out.trans (hf.below (by have := SZ.out; have := HB.out.size; omega) HB.out.size))
  replace SZ := Lib.hid (And.intro SZ.out zz)
  clear zz hf e1a_15 e1b_15 bw00_15 bw01_15 bx10_15 bx11_15 bg00_15 bg01_15 z0_15 zbw0_15 zbx1_15 zbg0_15
  clear Ox1
  go_wp2_with fail
  refine (markEditS_any _ _ _ _ _ _ ((1 : Int) + m1) w16 _ _ Ox2.out (by omega) (by omega) (by omega)).mono ?_
  rintro e w17 ⟨rfl, ho, hf⟩
  replace Ox2 := Lib.hid (Own.markedE ho)
  clear ho
  have zz := hf.size
  have e1a_17 := upFr hf e1a_16 z0_16 (by have := SZ.out; omega)
  have e1b_17 := upFr hf e1b_16 z0_16 (by have := SZ.out; omega)
  have bw00_17 := upFr hf bw00_16 zbw0_16 (by have := SZ.out; omega)
  have bw01_17 := upFr hf bw01_16 zbw0_16 (by have := SZ.out; omega)
  have bx10_17 := upFr hf bx10_16 zbx1_16 (by have := SZ.out; omega)
  have bx11_17 := upFr hf bx11_16 zbx1_16 (by have := SZ.out; omega)
  have bg00_17 := upFr hf bg00_16 zbg0_16 (by have := SZ.out; omega)
  have bg01_17 := upFr hf bg01_16 zbg0_16 (by have := SZ.out; omega)
  have z0_17 := Nat.lt_of_lt_of_le z0_16 zz
  have zbw0_17 := Nat.lt_of_lt_of_le zbw0_16 zz
  have zbx1_17 := Nat.lt_of_lt_of_le zbx1_16 zz
  have zbg0_17 := Nat.lt_of_lt_of_le zbg0_16 zz
  replace Ow0 := Lib.hid (Ow0.out.keep hf (by have := SZ.out; omega))
  replace Og0 := Lib.hid (Og0.out.keep hf (by have := SZ.out; omega))
  replace HB := Lib.hid (HB.out.trans (hf.below (by have := SZ.out; have := HB.out.size; omega) HB.out.size))
  replace SZ := Lib.hid (And.intro SZ.out zz)
  clear zz hf e1a_16 e1b_16 bw00_16 bw01_16 bx10_16 bx11_16 bg00_16 bg01_16 z0_16 zbw0_16 zbx1_16 zbg0_16
  clear Ox2
  go_wp2_with fail
  refine (eqGraph_yes _ _ _ _ _ _ _ w17 w17.heap.size w17.heap.size (Og0.out.rd.keep (Below.refl _ _) (by have := SZ.out; omega)) (Ow0.out.rd.keep (Below.refl _ _) (by have := SZ.out; omega)) (Nat.le_refl _) (Nat.le_refl _) (Nat.le_trans apN_le (by omega))).mono ?_
  rintro e w18 ⟨rfl, hb⟩
  have zz := hb.size
  have e1a_18 := up hb e1a_17 z0_17
  have e1b_18 := up hb e1b_17 z0_17
  have bw00_18 := up hb bw00_17 zbw0_17
  have bw01_18 := up hb bw01_17 zbw0_17
  have bx10_18 := up hb bx10_17 zbx1_17
  have bx11_18 := up hb bx11_17 zbx1_17
  have bg00_18 := up hb bg00_17 zbg0_17
  have bg01_18 := up hb bg01_17 zbg0_17
  have z0_18 := Nat.lt_of_lt_of_le z0_17 zz
  have zbw0_18 := Nat.lt_of_lt_of_le zbw0_17 zz
  have zbx1_18 := Nat.lt_of_lt_of_le zbx1_17 zz
  have zbg0_18 := Nat.lt_of_lt_of_le zbg0_17 zz
  replace Ow0 := Lib.hid (Ow0.out.keepB hb (by have := SZ.out; omega))
  replace Og0 := Lib.hid (Og0.out.keepB hb (by have := SZ.out; omega))
  replace HB := Lib.hid (HB.out.trans (hb.mono HB.out.size))
  replace SZ := Lib.hid (And.intro SZ.out zz)
  clear zz hb e1a_17 e1b_17 bw00_17 bw01_17 bx10_17 bx11_17 bg00_17 bg01_17 z0_17 zbw0_17 zbx1_17 zbg0_17
  go_wp2_with fail
  refine (markGraph_any _ _ _ _ _ (1 : Int) w18 _ _ Og0.out (Nat.le_trans apN_le (by omega)) (by omega) (by omega) (by have := SZ.out; omega)).mono ?_
  rintro e w19 ⟨rfl, ho, hf⟩
  replace Og0 := Lib.hid (Own.marked ho)
  clear ho
  have zz := hf.size
  have e1a_19 := upFr hf e1a_18 z0_18 (by have := SZ.out; omega)
  have e1b_19 := upFr hf e1b_18 z0_18 (by have := SZ.out; omega)
  have bw00_19 := upFr hf bw00_18 zbw0_18 (by have := SZ.out; omega)
  have bw01_19 := upFr hf bw01_18 zbw0_18 (by have := SZ.out; omega)
  have bx10_19 := upFr hf bx10_18 zbx1_18 (by have := SZ.out; omega)
  have bx11_19 := upFr hf bx11_18 zbx1_18 (by have := SZ.out; omega)
  have bg00_19 := upFr hf bg00_18 zbg0_18 (by have := SZ.out; omega)
  have bg01_19 := upFr hf bg01_18 zbg0_18 (by have := SZ.out; omega)
  have z0_19 := Nat.lt_of_lt_of_le z0_18 zz
  have zbw0_19 := Nat.lt_of_lt_of_le zbw0_18 zz
  have zbx1_19 := Nat.lt_of_lt_of_le zbx1_18 zz
  have zbg0_19 := Nat.lt_of_lt_of_le zbg0_18 zz
  replace Ow0 := Lib.hid (Ow0.out.keep hf (by have := SZ.out; omega))
  replace HB := Lib.hid (HB.out.trans (hf.below (by have := SZ.out; have := HB.out.size; omega) HB.out.size))
  replace SZ := Lib.hid (And.intro SZ.out zz)
  clear zz hf e1a_18 e1b_18 bw00_18 bw01_18 bx10_18 bx11_18 bg00_18 bg01_18 z0_18 zbw0_18 zbx1_18 zbg0_18
  go_wp2_with fail
  refine (heldGraph_yes _ _ _ _ (1 : Int) w19 _ Og0.out.rd (Nat.le_trans apN_le (by omega)) (by omega) (by omega) (by have := SZ.out; omega)).mono ?_
  rintro e w20 ⟨rfl, hb⟩
  have zz := hb.size
  have e1a_20 := up hb e1a_19 z0_19
  have e1b_20 := up hb e1b_19 z0_19
  have bw00_20 := up hb bw00_19 zbw0_19
  have bw01_20 := up hb bw01_19 zbw0_19
  have bx10_20 := up hb bx10_19 zbx1_19
  have bx11_20 := up hb bx11_19 zbx1_19
  have bg00_20 := up hb bg00_19 zbg0_19
  have bg01_20 := up hb bg01_19 zbg0_19
  have z0_20 := Nat.lt_of_lt_of_le z0_19 zz
  have zbw0_20 := Nat.lt_of_lt_of_le zbw0_19 zz
  have zbx1_20 := Nat.lt_of_lt_of_le zbx1_19 zz
  have zbg0_20 := Nat.lt_of_lt_of_le zbg0_19 zz
  replace Ow0 := Lib.hid (Ow0.out.keepB hb (by have := SZ.out; omega))
  replace Og0 := Lib.hid (Og0.out.keepB hb (by have := SZ.out; omega))
  replace HB := Lib.hid (HB.out.trans (hb.mono HB.out.size))
  replace SZ := Lib.hid (And.intro SZ.out zz)
  clear zz hb e1a_19 e1b_19 bw00_19 bw01_19 bx10_19 bx11_19 bg00_19 bg01_19 z0_19 zbw0_19 zbx1_19 zbg0_19
  go_wp2_with fail
  refine (toGraph_any s1 A1 m1 c1 x1 _ _ (h1.keep HB.out (Nat.le_refl _)) HB.out.size (by omega)).mono ?_
  rintro e w21 ⟨ky1, hky1, rfl, hoy1, hb⟩
  have Oy1 := Lib.hid hoy1
  clear hoy1
  have zz := hb.size
  have e1a_21 := up hb e1a_20 z0_20
  have e1b_21 := up hb e1b_20 z0_20
  have bw00_21 := up hb bw00_20 zbw0_20
  have bw01_21 := up hb bw01_20 zbw0_20
  have bx10_21 := up hb bx10_20 zbx1_20
  have bx11_21 := up hb bx11_20 zbx1_20
  have bg00_21 := up hb bg00_20 zbg0_20
  have bg01_21 := up hb bg01_20 zbg0_20
  have z0_21 := Nat.lt_of_lt_of_le z0_20 zz
  have zbw0_21 := Nat.lt_of_lt_of_le zbw0_20 zz
  have zbx1_21 := Nat.lt_of_lt_of_le zbx1_20 zz
  have zbg0_21 := Nat.lt_of_lt_of_le zbg0_20 zz
  replace Ow0 := Lib.hid (Ow0.out.keepB hb (by have := SZ.out; omega))
  replace Og0 := Lib.hid (Og0.out.keepB hb (by have := SZ.out; omega))
  replace HB := Lib.hid (HB.out.trans (hb.mono HB.out.size))
  replace SZ := Lib.hid (And.intro SZ.out zz)
  clear zz hb e1a_20 e1b_20 bw00_20 bw01_20 bx10_20 bx11_20 bg00_20 bg01_20 z0_20 zbw0_20 zbx1_20 zbg0_20
  clear hky1
  go_wp2_with fail
  refine (toEditS_any A2 m2 c2 a2 v2 u2 _ _ (h2.keep HB.out (Nat.le_refl _)) HB.out.size (by omega)).mono ?_
  rintro e w22 ⟨ky2, hky2, rfl, hoy2, hb⟩
  have Oy2 := Lib.hid hoy2
  clear hoy2
  have zz := hb.size
  have e1a_22 := up hb e1a_21 z0_21
  have e1b_22 := up hb e1b_21 z0_21
  have bw00_22 := up hb bw00_21 zbw0_21
  have bw01_22 := up hb bw01_21 zbw0_21
  have bx10_22 := up hb bx10_21 zbx1_21
  have bx11_22 := up hb bx11_21 zbx1_21
  have bg00_22 := up hb bg00_21 zbg0_21
  have bg01_22 := up hb bg01_21 zbg0_21
  have z0_22 := Nat.lt_of_lt_of_le z0_21 zz
  have zbw0_22 := Nat.lt_of_lt_of_le zbw0_21 zz
  have zbx1_22 := Nat.lt_of_lt_of_le zbx1_21 zz
  have zbg0_22 := Nat.lt_of_lt_of_le zbg0_21 zz
  replace Ow0 := Lib.hid (Ow0.out.keepB hb (by have := SZ.out; omega))
  replace Og0 := Lib.hid (Og0.out.keepB hb (by have := SZ.out; omega))
  replace Oy1 := Lib.hid (Oy1.out.keepB hb (by have := SZ.out; omega))
  replace HB := Lib.hid (HB.out.trans (hb.mono HB.out.size))
  replace SZ := Lib.hid (And.intro SZ.out zz)
  clear zz hb e1a_21 e1b_21 bw00_21 bw01_21 bx10_21 bx11_21 bg00_21 bg01_21 z0_21 zbw0_21 zbx1_21 zbg0_21
  clear hky2
  go_wp2_with fail
  refine (ApplyEdits_i s1 _ m1 m1 x1 _ m2 m2 a2 v2 u2 w22 w22.heap.size (Oy1.out.rd.keep (Below.refl _ _) (by have := SZ.out; omega)) (Oy2.out.rdE.keep (Below.refl _ _) (by have := SZ.out; omega)) (Nat.le_refl _) (by omega) (by omega) ).mono ?_
  rintro e w23 ⟨Ah0, ch0, rfl, hoh0, hb⟩
  have Oh0 := Lib.hid hoh0
  clear hoh0
  have zz := hb.size
  have e1a_23 := up hb e1a_22 z0_22
  have e1b_23 := up hb e1b_22 z0_22
  have bw00_23 := up hb bw00_22 zbw0_22
  have bw01_23 := up hb bw01_22 zbw0_22
  have bx10_23 := up hb bx10_22 zbx1_22
  have bx11_23 := up hb bx11_22 zbx1_22
  have bg00_23 := up hb bg00_22 zbg0_22
  have bg01_23 := up hb bg01_22 zbg0_22
  have z0_23 := Nat.lt_of_lt_of_le z0_22 zz
  have zbw0_23 := Nat.lt_of_lt_of_le zbw0_22 zz
  have zbx1_23 := Nat.lt_of_lt_of_le zbx1_22 zz
  have zbg0_23 := Nat.lt_of_lt_of_le zbg0_22 zz
  replace Ow0 := Lib.hid (Ow0.out.keepB hb (by have := SZ.out; omega))
  replace Og0 := Lib.hid (Og0.out.keepB hb (by have := SZ.out; omega))
  replace Oy1 := Lib.hid (Oy1.out.keepB hb (by have := SZ.out; omega))
  replace Oy2 := Lib.hid (Oy2.out.keepB hb (by have := SZ.out; omega))
  replace HB := Lib.hid (HB.out.trans (hb.mono HB.out.size))
  replace SZ := Lib.hid (And.intro SZ.out zz)
  clear zz hb e1a_22 e1b_22 bw00_22 bw01_22 bx10_22 bx11_22 bg00_22 bg01_22 z0_22 zbw0_22 zbx1_22 zbg0_22
  clear Oy1
  clear Oy2
  obtain ⟨w24, hW⟩ : ∃ W : World, W = w23.alloc (Obj.cells #[.int .i64 ((apZ s1 m1 x1 m2 a2 v2 u2)), .slice Ah0 ((apN s1 m1 x1 m2 a2 v2 u2)) ch0] 28) := ⟨_, rfl⟩
  obtain ⟨Xh0, hX⟩ : ∃ X : Nat, X = w23.heap.size := ⟨_, rfl⟩
  have hb : Below w23.heap.size w23 w24 := by rw [hW]; exact (Below.refl _ _).alloc (Nat.le_refl _) _
  have y0 : w24.cell? ⟨Xh0, 0, none⟩ = some (.int .i64 ((apZ s1 m1 x1 m2 a2 v2 u2))) := by rw [hW, hX]; simp [go_sem]
  have y1 : w24.cell? ⟨Xh0, 1, none⟩ = some (.slice Ah0 ((apN s1 m1 x1 m2 a2 v2 u2)) ch0) := by rw [hW, hX]; simp [go_sem]
  have yz : Xh0 < w24.heap.size := by rw [hW, hX]; simp
  have ys : w23.heap.size ≤ Xh0 := by rw [hX]; exact Nat.le_refl _
  have HWx := Lib.hid hW
  have HX := Lib.hid hX
  clear hW hX
  have zz := hb.size
  have e1a_24 := up hb e1a_23 z0_23
  have e1b_24 := up hb e1b_23 z0_23
  have bw00_24 := up hb bw00_23 zbw0_23
  have bw01_24 := up hb bw01_23 zbw0_23
  have bx10_24 := up hb bx10_23 zbx1_23
  have bx11_24 := up hb bx11_23 zbx1_23
  have bg00_24 := up hb bg00_23 zbg0_23
  have bg01_24 := up hb bg01_23 zbg0_23
  have z0_24 := Nat.lt_of_lt_of_le z0_23 zz
  have zbw0_24 := Nat.lt_of_lt_of_le zbw0_23 zz
  have zbx1_24 := Nat.lt_of_lt_of_le zbx1_23 zz
  have zbg0_24 := Nat.lt_of_lt_of_le zbg0_23 zz
  replace Ow0 := Lib.hid (Ow0.out.keepB hb (by have := SZ.out; omega))
  replace Og0 := Lib.hid (Og0.out.keepB hb (by have := SZ.out; omega))
  replace Oh0 := Lib.hid (Oh0.out.keepB hb (by have := SZ.out; omega))
  replace HB := Lib.hid (HB.out.trans (hb.mono HB.out.size))
  replace SZ := Lib.hid (And.intro SZ.out zz)
  clear zz hb 
  replace SZ := Lib.hid (And.intro SZ.out (And.intro ys yz))
  clear ys
  have bh00_24 := y0
  clear y0
  have bh01_24 := y1
  clear y1
  have zbh0_24 := yz
  clear yz
  go_wp2_with fail
  rw [← HWx.out, ← HX.out]
  clear HWx HX e1a_23 e1b_23 bw00_23 bw01_23 bx10_23 bx11_23 bg00_23 bg01_23 z0_23 zbw0_23 zbx1_23 zbg0_23
  go_wp2_with fail
  refine (eqGraph_yes _ _ _ _ _ _ _ w24 w24.heap.size w24.heap.size (Oh0.out.rd.keep (Below.refl _ _) (by have := SZ.out; omega)) (Ow0.out.rd.keep (Below.refl _ _) (by have := SZ.out; omega)) (Nat.le_refl _) (Nat.le_refl _) (Nat.le_trans apN_le (by omega))).mono ?_
  rintro e w25 ⟨rfl, hb⟩
  have zz := hb.size
  have e1a_25 := up hb e1a_24 z0_24
  have e1b_25 := up hb e1b_24 z0_24
  have bw00_25 := up hb bw00_24 zbw0_24
  have bw01_25 := up hb bw01_24 zbw0_24
  have bx10_25 := up hb bx10_24 zbx1_24
  have bx11_25 := up hb bx11_24 zbx1_24
  have bg00_25 := up hb bg00_24 zbg0_24
  have bg01_25 := up hb bg01_24 zbg0_24
  have bh00_25 := up hb bh00_24 zbh0_24
  have bh01_25 := up hb bh01_24 zbh0_24
  have z0_25 := Nat.lt_of_lt_of_le z0_24 zz
  have zbw0_25 := Nat.lt_of_lt_of_le zbw0_24 zz
  have zbx1_25 := Nat.lt_of_lt_of_le zbx1_24 zz
  have zbg0_25 := Nat.lt_of_lt_of_le zbg0_24 zz
  have zbh0_25 := Nat.lt_of_lt_of_le zbh0_24 zz
  replace Ow0 := Lib.hid (Ow0.out.keepB hb (by have := SZ.out; omega))
  replace Og0 := Lib.hid (Og0.out.keepB hb (by have := SZ.out; omega))
  replace Oh0 := Lib.hid (Oh0.out.keepB hb (by have := SZ.out; omega))
  replace HB := Lib.hid (HB.out.trans (hb.mono HB.out.size))
  replace SZ := Lib.hid (And.intro SZ.out zz)
  clear zz hb e1a_24 e1b_24 bw00_24 bw01_24 bx10_24 bx11_24 bg00_24 bg01_24 bh00_24 bh01_24 z0_24 zbw0_24 zbx1_24 zbg0_24 zbh0_24
  go_wp2_with fail
  refine (heldGraph_yes _ _ _ _ (1 : Int) w25 _ Og0.out.rd (Nat.le_trans apN_le (by omega)) (by omega) (by omega) (by have := SZ.out; omega)).mono ?_
  rintro e w26 ⟨rfl, hb⟩
  have zz := hb.size
  have e1a_26 := up hb e1a_25 z0_25
  have e1b_26 := up hb e1b_25 z0_25
  have bw00_26 := up hb bw00_25 zbw0_25
  have bw01_26 := up hb bw01_25 zbw0_25
  have bx10_26 := up hb bx10_25 zbx1_25
  have bx11_26 := up hb bx11_25 zbx1_25
  have bg00_26 := up hb bg00_25 zbg0_25
  have bg01_26 := up hb bg01_25 zbg0_25
  have bh00_26 := up hb bh00_25 zbh0_25
  have bh01_26 := up hb bh01_25 zbh0_25
  have z0_26 := Nat.lt_of_lt_of_le z0_25 zz
  have zbw0_26 := Nat.lt_of_lt_of_le zbw0_25 zz
  have zbx1_26 := Nat.lt_of_lt_of_le zbx1_25 zz
  have zbg0_26 := Nat.lt_of_lt_of_le zbg0_25 zz
  have zbh0_26 := Nat.lt_of_lt_of_le zbh0_25 zz
  replace Ow0 := Lib.hid (Ow0.out.keepB hb (by have := SZ.out; omega))
  replace Og0 := Lib.hid (Og0.out.keepB hb (by have := SZ.out; omega))
  replace Oh0 := Lib.hid (Oh0.out.keepB hb (by have := SZ.out; omega))
  replace HB := Lib.hid (HB.out.trans (hb.mono HB.out.size))
  replace SZ := Lib.hid (And.intro SZ.out zz)
  clear zz hb e1a_25 e1b_25 bw00_25 bw01_25 bx10_25 bx11_25 bg00_25 bg01_25 bh00_25 bh01_25 z0_25 zbw0_25 zbx1_25 zbg0_25 zbh0_25
  go_wp2
  go_ret
  exact ⟨rfl, HB.out⟩

set_option maxRecDepth 100000 in
theorem lifted (os : Os) (started : os.Started) (H : Type) (enc : TypeId × Value → H) :
    ReturnsInHanded {} Try.checked os 3 .any (Rows.fnExactApplyEditsSpec.pre6 enc Try.prog Try.f3 Rows.fnExactApplyEditsRow.domain false) (Rows.fnExactApplyEditsSpec.post enc Try.prog Try.f3 false true false false) := by
  refine returnsInHanded_of_change (C := Try.checked) own started (by kernel_rfl) Try.func3
    (ChangeSpec.witness6 (enc := enc) (C := Try.checked) false ⟨#[], #[.agg #[.int .i64 0, .slice none 0 0], .slice none 0 0], []⟩ 8 (by kernel_rfl) (by kernel_rfl) (by kernel_rfl) (by kernel_rfl)) ?_
  intro W base args ds gs before hval0 hW hcnd _
  have hval : ∀ (j : Nat) t v, Try.f3.params[j]? = some t → args[j]? = some v → Value.okWide Try.prog W .any base t v := hval0
  have hW' := hW
  obtain ⟨p, q, hA0, hV, rfl, hfz, hnd⟩ := hW
  have hA : DataW.TrodAll enc Try.prog W 0 (fun _ => true) true Try.f3.params.toList args.toList ds p := hA0
  rw [Try.params3] at hA hval
  obtain ⟨v0, vs0, d0, ds0, p0, q0, hargs, rfl, rfl, l0, r0⟩ := trodAll_cons hA
  obtain ⟨v1, vs1, d1, ds1, p1, q1, rfl, rfl, rfl, l1, r1⟩ := trodAll_cons r0
  obtain ⟨rfl, rfl, rfl⟩ := trodAll_nil r1
  obtain rfl : args = #[v0, v1] := by cases args; simp_all
  obtain ⟨rfl, rfl⟩ := trodVars_none hV
  have lt0 := places_lt l0
  obtain ⟨s1, A1, m1, c1, x1, rfl, h1, n1⟩ := open_graph (hval 0 24 v0 rfl rfl) l0
  have lt1 := places_lt l1
  obtain ⟨A2, m2, c2, a2, v2, u2, rfl, h2, n2⟩ := open_edits (hval 1 25 v1 rfl rfl) l1
  clear hA0 hval0
  refine (walk s1 A1 m1 c1 x1 A2 m2 c2 a2 v2 u2 W h1 n1 h2 n2).mono fun e W' ⟨he, bel⟩ => ?_
  subst he
  exact ⟨_, rfl, _, _, _, [], _, [], hW', trodAll_mk1 (shut_bool Try.underlying4 _), (trodAll_cons_mk (Below.trod laidOut (by kernel_rfl) (of_decide_eq_true (by kernel_rfl)) l0 bel lt0) (trodAll_cons_mk (Below.trod laidOut (by kernel_rfl) (of_decide_eq_true (by kernel_rfl)) l1 bel lt1) trodAll_mk0)), rfl, bel.frame _, fun h => by cases h⟩

theorem over : Rows.fnExactApplyEditsRow.holds Try.pinned (OpenSpec.ofChange Rows.fnExactApplyEditsSpec) :=
  OpenClaim.holds_of_wide 3 Try.f3 rfl rfl rfl rfl rfl rfl rfl ⟨rfl, rfl, rfl, rfl, rfl⟩ rfl rfl rfl rfl rfl (by kernel_rfl) Try.func3 (by kernel_rfl)
    (of_decide_eq_true (by kernel_rfl)) (by unfold Func.isWrapper; first | (rw [if_pos (by decide +kernel)]; kernel_rfl) | (rw [if_neg (by decide +kernel)]; exact ⟨rfl, rfl⟩))
    (fun os started H enc _ => lifted os started H enc)

/-- The statement. -/
theorem proved : Rows.FnExactApplyEditsSaid := over
#print axioms proved
end Go.Proofs.Ytnnlmdenffnjbaa.fnExactApplyEdits
