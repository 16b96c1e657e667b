/-
  The program's ClaimOfColors answers as the reference's at every input: the law FnExactClaimOfColors answers true.
  No condition.
-/
import Derived.Test.YtnnlmdenffnjbaaQbClrI
import Derived.Test.YtnnlmdenffnjbaaQbClrS
import Derived.Test.YtnnlmdenffnjbaaQbGA
import Derived.Test.YtnnlmdenffnjbaaQbGL
import Derived.Test.YtnnlmdenffnjbaaQbClaim
import Derived.ChangeMaps5
import Derived.Deep.RegionHeld3
namespace Go.Proofs.Ytnnlmdenffnjbaa.fnExactClaimOfColors
open Go.ChangeShapes Go.WideShapes Go.ChangeAt Go.RowKit

theorem le_drew {a : Nat} {w : World} (h : a ≤ w.heap.size) : a ≤ w.drew.heap.size := h
set_option maxRecDepth 100000 in
set_option maxHeartbeats 1600000 in
theorem walk (s1 : Int) (A1 : Option Addr) (m1 : Nat) (c1 : Nat) (x1 : Nat → Int) (w : World) (h1 : Rd w w.heap.size A1 m1 c1 x1) (n1 : m1 ≤ maxLen) :
    Calls Try.prog 8 #[.agg #[.int .i64 s1, .slice A1 m1 c1]] w fun e w' => e = .returned (.bool true) ∧ Below w.heap.size w w' := by
  obtain ⟨w0, hW⟩ : ∃ W : World, W = (w.alloc (Obj.cells #[.int .i64 s1, .slice A1 m1 c1] 24)) := ⟨_, rfl⟩
  have HB : Hid (Below w.heap.size w w0) := by rw [hW]; exact ((Below.refl _ _).alloc (by simp) _)
  have z0_0 : w.heap.size < w0.heap.size := by rw [hW]; simp <;> omega
  have e1a_0 : w0.cell? ⟨w.heap.size, 0, none⟩ = some (.int .i64 s1) := by rw [hW]; simp [go_sem]
  have e1b_0 : w0.cell? ⟨w.heap.size, 1, none⟩ = some (.slice A1 m1 c1) := by rw [hW]; simp [go_sem]
  have SZ : Hid (w.heap.size + 1 ≤ w0.heap.size) := by rw [hW]; simp [Hid]
  have HW := Lib.hid hW
  clear hW
  go_enter Try.func8, Try.ntmps8
  go_wp2_with fail
  rw [← HW.out]
  clear HW
  refine (szGraph_any s1 A1 m1 c1 ((1048576 : Int)) w0 n1 (by omega) (by omega)).mono ?_
  rintro e w1 ⟨rfl, hb⟩
  have zz := hb.size
  have e1a_1 := up hb e1a_0 z0_0
  have e1b_1 := up hb e1b_0 z0_0
  have z0_1 := Nat.lt_of_lt_of_le z0_0 zz
  replace HB := Lib.hid (HB.out.trans (hb.mono HB.out.size))
  replace SZ := Lib.hid (And.intro SZ.out zz)
  clear zz hb e1a_0 e1b_0 z0_0
  by_cases p1 : (1048576 : Int) < m1
  · have q1 : szl ((1048576 : Int)) m1 < 0 := by unfold szl; rw [if_pos p1]; omega
    clear p1
    go_wp2
    go_ret
    exact ⟨rfl, HB.out⟩
  have q1 : szl ((1048576 : Int)) m1 = (1048576 : Int) - m1 := by unfold szl; rw [if_neg p1]
  rw [q1]
  clear q1 n1
  go_wp2_with fail
  refine (toGraph_any s1 A1 m1 c1 x1 _ _ (h1.keep HB.out (Nat.le_refl _)) HB.out.size (by omega)).mono ?_
  rintro e w2 ⟨ky1, hky1, rfl, hoy1, hb⟩
  have Oy1 := Lib.hid hoy1
  clear hoy1
  have zz := hb.size
  have e1a_2 := up hb e1a_1 z0_1
  have e1b_2 := up hb e1b_1 z0_1
  have z0_2 := Nat.lt_of_lt_of_le z0_1 zz
  replace HB := Lib.hid (HB.out.trans (hb.mono HB.out.size))
  replace SZ := Lib.hid (And.intro SZ.out zz)
  clear zz hb e1a_1 e1b_1 z0_1
  clear hky1
  go_wp2_with fail
  refine (ClaimOfColors_s s1 _ m1 m1 x1 w2 w2.heap.size (Oy1.out.rd.keep (Below.refl _ _) (by have := SZ.out; omega)) (Nat.le_refl _) (by omega) ).mono ?_
  rintro e w3 ⟨Kw0, rfl, hlw0, hpw0, how0, hb⟩
  have Ow0 := Lib.hid how0
  clear how0
  have Lw0 := Lib.hid hlw0
  clear hlw0
  have Pw0 := Lib.hid hpw0
  clear hpw0
  have zz := hb.size
  have e1a_3 := up hb e1a_2 z0_2
  have e1b_3 := up hb e1b_2 z0_2
  have z0_3 := Nat.lt_of_lt_of_le z0_2 zz
  replace Oy1 := Lib.hid (Oy1.out.keepB hb (by have := SZ.out; omega))
  replace HB := Lib.hid (HB.out.trans (hb.mono HB.out.size))
  replace SZ := Lib.hid (And.intro SZ.out zz)
  clear zz hb e1a_2 e1b_2 z0_2
  clear Oy1
  obtain ⟨w4, hW⟩ : ∃ W : World, W = w3.alloc (Obj.cells #[.int .i64 Kw0.K, .int .i64 Kw0.s, .slice Kw0.A0 Kw0.n0 Kw0.c0, .string Kw0.t, .slice Kw0.A1 Kw0.n1 Kw0.c1, .slice Kw0.A2 Kw0.n2 Kw0.c2, .slice Kw0.A3 Kw0.D.length Kw0.c3] 46) := ⟨_, rfl⟩
  obtain ⟨Xw0, hX⟩ : ∃ X : Nat, X = w3.heap.size := ⟨_, rfl⟩
  have hb : Below w3.heap.size w3 w4 := by rw [hW]; exact (Below.refl _ _).alloc (Nat.le_refl _) _
  have y0 : w4.cell? ⟨Xw0, 0, none⟩ = some (.int .i64 Kw0.K) := by rw [hW, hX]; simp [go_sem]
  have y1 : w4.cell? ⟨Xw0, 1, none⟩ = some (.int .i64 Kw0.s) := by rw [hW, hX]; simp [go_sem]
  have y2 : w4.cell? ⟨Xw0, 2, none⟩ = some (.slice Kw0.A0 Kw0.n0 Kw0.c0) := by rw [hW, hX]; simp [go_sem]
  have y3 : w4.cell? ⟨Xw0, 3, none⟩ = some (.string Kw0.t) := by rw [hW, hX]; simp [go_sem]
  have y4 : w4.cell? ⟨Xw0, 4, none⟩ = some (.slice Kw0.A1 Kw0.n1 Kw0.c1) := by rw [hW, hX]; simp [go_sem]
  have y5 : w4.cell? ⟨Xw0, 5, none⟩ = some (.slice Kw0.A2 Kw0.n2 Kw0.c2) := by rw [hW, hX]; simp [go_sem]
  have y6 : w4.cell? ⟨Xw0, 6, none⟩ = some (.slice Kw0.A3 Kw0.D.length Kw0.c3) := by rw [hW, hX]; simp [go_sem]
  have yz : Xw0 < w4.heap.size := by rw [hW, hX]; simp
  have ys : w3.heap.size ≤ Xw0 := by rw [hX]; exact Nat.le_refl _
  have HWx := Lib.hid hW
  have HX := Lib.hid hX
  clear hW hX
  have zz := hb.size
  have e1a_4 := up hb e1a_3 z0_3
  have e1b_4 := up hb e1b_3 z0_3
  have z0_4 := Nat.lt_of_lt_of_le z0_3 zz
  replace Ow0 := Lib.hid (Ow0.out.keepB hb (by have := SZ.out; omega))
  replace HB := Lib.hid (HB.out.trans (hb.mono HB.out.size))
  replace SZ := Lib.hid (And.intro SZ.out zz)
  clear zz hb 
  replace SZ := Lib.hid (And.intro SZ.out (And.intro ys yz))
  clear ys
  have bw00_4 := y0
  clear y0
  have bw01_4 := y1
  clear y1
  have bw02_4 := y2
  clear y2
  have bw03_4 := y3
  clear y3
  have bw04_4 := y4
  clear y4
  have bw05_4 := y5
  clear y5
  have bw06_4 := y6
  clear y6
  have zbw0_4 := yz
  clear yz
  go_wp2_with fail
  rw [← HWx.out, ← HX.out]
  clear HWx HX e1a_3 e1b_3 z0_3
  go_wp2_with fail
  refine (toGraph_any s1 A1 m1 c1 x1 _ _ (h1.keep HB.out (Nat.le_refl _)) HB.out.size (by omega)).mono ?_
  rintro e w5 ⟨kx1, hkx1, rfl, hox1, hb⟩
  have Ox1 := Lib.hid hox1
  clear hox1
  have zz := hb.size
  have e1a_5 := up hb e1a_4 z0_4
  have e1b_5 := up hb e1b_4 z0_4
  have bw00_5 := up hb bw00_4 zbw0_4
  have bw01_5 := up hb bw01_4 zbw0_4
  have bw02_5 := up hb bw02_4 zbw0_4
  have bw03_5 := up hb bw03_4 zbw0_4
  have bw04_5 := up hb bw04_4 zbw0_4
  have bw05_5 := up hb bw05_4 zbw0_4
  have bw06_5 := up hb bw06_4 zbw0_4
  have z0_5 := Nat.lt_of_lt_of_le z0_4 zz
  have zbw0_5 := Nat.lt_of_lt_of_le zbw0_4 zz
  replace Ow0 := Lib.hid (Ow0.out.keepB hb (by have := SZ.out; omega))
  replace HB := Lib.hid (HB.out.trans (hb.mono HB.out.size))
  replace SZ := Lib.hid (And.intro SZ.out zz)
  clear zz hb e1a_4 e1b_4 bw00_4 bw01_4 bw02_4 bw03_4 bw04_4 bw05_4 bw06_4 z0_4 zbw0_4
  clear hkx1
  obtain ⟨w6, hW⟩ : ∃ W : World, W = w5.alloc (Obj.cells #[.int .i64 s1, .slice (some ⟨kx1, 0, none⟩) m1 m1] 28) := ⟨_, rfl⟩
  obtain ⟨Xx1, hX⟩ : ∃ X : Nat, X = w5.heap.size := ⟨_, rfl⟩
  have hb : Below w5.heap.size w5 w6 := by rw [hW]; exact (Below.refl _ _).alloc (Nat.le_refl _) _
  have y0 : w6.cell? ⟨Xx1, 0, none⟩ = some (.int .i64 s1) := by rw [hW, hX]; simp [go_sem]
  have y1 : w6.cell? ⟨Xx1, 1, none⟩ = some (.slice (some ⟨kx1, 0, none⟩) m1 m1) := by rw [hW, hX]; simp [go_sem]
  have yz : Xx1 < w6.heap.size := by rw [hW, hX]; simp
  have ys : w5.heap.size ≤ Xx1 := by rw [hX]; exact Nat.le_refl _
  have HWx := Lib.hid hW
  have HX := Lib.hid hX
  clear hW hX
  have zz := hb.size
  have e1a_6 := up hb e1a_5 z0_5
  have e1b_6 := up hb e1b_5 z0_5
  have bw00_6 := up hb bw00_5 zbw0_5
  have bw01_6 := up hb bw01_5 zbw0_5
  have bw02_6 := up hb bw02_5 zbw0_5
  have bw03_6 := up hb bw03_5 zbw0_5
  have bw04_6 := up hb bw04_5 zbw0_5
  have bw05_6 := up hb bw05_5 zbw0_5
  have bw06_6 := up hb bw06_5 zbw0_5
  have z0_6 := Nat.lt_of_lt_of_le z0_5 zz
  have zbw0_6 := Nat.lt_of_lt_of_le zbw0_5 zz
  replace Ow0 := Lib.hid (Ow0.out.keepB hb (by have := SZ.out; omega))
  replace Ox1 := Lib.hid (Ox1.out.keepB hb (by have := SZ.out; omega))
  replace HB := Lib.hid (HB.out.trans (hb.mono HB.out.size))
  replace SZ := Lib.hid (And.intro SZ.out zz)
  clear zz hb 
  replace SZ := Lib.hid (And.intro SZ.out (And.intro ys yz))
  clear ys
  have bx10_6 := y0
  clear y0
  have bx11_6 := y1
  clear y1
  have zbx1_6 := yz
  clear yz
  go_wp2_with fail
  rw [← HWx.out, ← HX.out]
  clear HWx HX e1a_5 e1b_5 bw00_5 bw01_5 bw02_5 bw03_5 bw04_5 bw05_5 bw06_5 z0_5 zbw0_5
  go_wp2_with fail
  refine (ClaimOfColors_i s1 _ m1 m1 x1 w6 w6.heap.size (Ox1.out.rd.keep (Below.refl _ _) (by have := SZ.out; omega)) (Nat.le_refl _) (by omega) ).mono ?_
  rintro e w7 ⟨Kg0, rfl, hlg0, hpg0, hog0, hb⟩
  have Og0 := Lib.hid hog0
  clear hog0
  have Lg0 := Lib.hid hlg0
  clear hlg0
  have Pg0 := Lib.hid hpg0
  clear hpg0
  have zz := hb.size
  have e1a_7 := up hb e1a_6 z0_6
  have e1b_7 := up hb e1b_6 z0_6
  have bw00_7 := up hb bw00_6 zbw0_6
  have bw01_7 := up hb bw01_6 zbw0_6
  have bw02_7 := up hb bw02_6 zbw0_6
  have bw03_7 := up hb bw03_6 zbw0_6
  have bw04_7 := up hb bw04_6 zbw0_6
  have bw05_7 := up hb bw05_6 zbw0_6
  have bw06_7 := up hb bw06_6 zbw0_6
  have bx10_7 := up hb bx10_6 zbx1_6
  have bx11_7 := up hb bx11_6 zbx1_6
  have z0_7 := Nat.lt_of_lt_of_le z0_6 zz
  have zbw0_7 := Nat.lt_of_lt_of_le zbw0_6 zz
  have zbx1_7 := Nat.lt_of_lt_of_le zbx1_6 zz
  replace Ow0 := Lib.hid (Ow0.out.keepB hb (by have := SZ.out; omega))
  replace Ox1 := Lib.hid (Ox1.out.keepB hb (by have := SZ.out; omega))
  replace HB := Lib.hid (HB.out.trans (hb.mono HB.out.size))
  replace SZ := Lib.hid (And.intro SZ.out zz)
  clear zz hb e1a_6 e1b_6 bw00_6 bw01_6 bw02_6 bw03_6 bw04_6 bw05_6 bw06_6 bx10_6 bx11_6 z0_6 zbw0_6 zbx1_6
  obtain ⟨w8, hW⟩ : ∃ W : World, W = w7.alloc (Obj.cells #[.int .i64 Kg0.K, .int .i64 Kg0.s, .slice Kg0.A0 Kg0.n0 Kg0.c0, .string Kg0.t, .slice Kg0.A1 Kg0.n1 Kg0.c1, .slice Kg0.A2 Kg0.n2 Kg0.c2, .slice Kg0.A3 Kg0.D.length Kg0.c3] 46) := ⟨_, rfl⟩
  obtain ⟨Xg0, hX⟩ : ∃ X : Nat, X = w7.heap.size := ⟨_, rfl⟩
  have hb : Below w7.heap.size w7 w8 := by rw [hW]; exact (Below.refl _ _).alloc (Nat.le_refl _) _
  have y0 : w8.cell? ⟨Xg0, 0, none⟩ = some (.int .i64 Kg0.K) := by rw [hW, hX]; simp [go_sem]
  have y1 : w8.cell? ⟨Xg0, 1, none⟩ = some (.int .i64 Kg0.s) := by rw [hW, hX]; simp [go_sem]
  have y2 : w8.cell? ⟨Xg0, 2, none⟩ = some (.slice Kg0.A0 Kg0.n0 Kg0.c0) := by rw [hW, hX]; simp [go_sem]
  have y3 : w8.cell? ⟨Xg0, 3, none⟩ = some (.string Kg0.t) := by rw [hW, hX]; simp [go_sem]
  have y4 : w8.cell? ⟨Xg0, 4, none⟩ = some (.slice Kg0.A1 Kg0.n1 Kg0.c1) := by rw [hW, hX]; simp [go_sem]
  have y5 : w8.cell? ⟨Xg0, 5, none⟩ = some (.slice Kg0.A2 Kg0.n2 Kg0.c2) := by rw [hW, hX]; simp [go_sem]
  have y6 : w8.cell? ⟨Xg0, 6, none⟩ = some (.slice Kg0.A3 Kg0.D.length Kg0.c3) := by rw [hW, hX]; simp [go_sem]
  have yz : Xg0 < w8.heap.size := by rw [hW, hX]; simp
  have ys : w7.heap.size ≤ Xg0 := by rw [hX]; exact Nat.le_refl _
  have HWx := Lib.hid hW
  have HX := Lib.hid hX
  clear hW hX
  have zz := hb.size
  have e1a_8 := up hb e1a_7 z0_7
  have e1b_8 := up hb e1b_7 z0_7
  have bw00_8 := up hb bw00_7 zbw0_7
  have bw01_8 := up hb bw01_7 zbw0_7
  have bw02_8 := up hb bw02_7 zbw0_7
  have bw03_8 := up hb bw03_7 zbw0_7
  have bw04_8 := up hb bw04_7 zbw0_7
  have bw05_8 := up hb bw05_7 zbw0_7
  have bw06_8 := up hb bw06_7 zbw0_7
  have bx10_8 := up hb bx10_7 zbx1_7
  have bx11_8 := up hb bx11_7 zbx1_7
  have z0_8 := Nat.lt_of_lt_of_le z0_7 zz
  have zbw0_8 := Nat.lt_of_lt_of_le zbw0_7 zz
  have zbx1_8 := Nat.lt_of_lt_of_le zbx1_7 zz
  replace Ow0 := Lib.hid (Ow0.out.keepB hb (by have := SZ.out; omega))
  replace Ox1 := Lib.hid (Ox1.out.keepB hb (by have := SZ.out; omega))
  replace Og0 := Lib.hid (Og0.out.keepB hb (by have := SZ.out; omega))
  replace HB := Lib.hid (HB.out.trans (hb.mono HB.out.size))
  replace SZ := Lib.hid (And.intro SZ.out zz)
  clear zz hb 
  replace SZ := Lib.hid (And.intro SZ.out (And.intro ys yz))
  clear ys
  have bg00_8 := y0
  clear y0
  have bg01_8 := y1
  clear y1
  have bg02_8 := y2
  clear y2
  have bg03_8 := y3
  clear y3
  have bg04_8 := y4
  clear y4
  have bg05_8 := y5
  clear y5
  have bg06_8 := y6
  clear y6
  have zbg0_8 := yz
  clear yz
  go_wp2_with fail
  rw [← HWx.out, ← HX.out]
  clear HWx HX e1a_7 e1b_7 bw00_7 bw01_7 bw02_7 bw03_7 bw04_7 bw05_7 bw06_7 bx10_7 bx11_7 z0_7 zbw0_7 zbx1_7
  go_wp2_with fail
  refine (eqClaim_yes Kg0 Kw0 w8 w8.heap.size w8.heap.size (Og0.out.rdK.keep (Below.refl _ _) (by have := SZ.out; omega)) (Ow0.out.rdK.keep (Below.refl _ _) (by have := SZ.out; omega)) (Nat.le_refl _) (Nat.le_refl _) (Lg0.out.trans Lw0.out.symm) (Lg0.out.symm.small (coK_small (by omega)))).mono ?_
  rintro e w9 ⟨rfl, hb⟩
  have zz := hb.size
  have e1a_9 := up hb e1a_8 z0_8
  have e1b_9 := up hb e1b_8 z0_8
  have bw00_9 := up hb bw00_8 zbw0_8
  have bw01_9 := up hb bw01_8 zbw0_8
  have bw02_9 := up hb bw02_8 zbw0_8
  have bw03_9 := up hb bw03_8 zbw0_8
  have bw04_9 := up hb bw04_8 zbw0_8
  have bw05_9 := up hb bw05_8 zbw0_8
  have bw06_9 := up hb bw06_8 zbw0_8
  have bx10_9 := up hb bx10_8 zbx1_8
  have bx11_9 := up hb bx11_8 zbx1_8
  have bg00_9 := up hb bg00_8 zbg0_8
  have bg01_9 := up hb bg01_8 zbg0_8
  have bg02_9 := up hb bg02_8 zbg0_8
  have bg03_9 := up hb bg03_8 zbg0_8
  have bg04_9 := up hb bg04_8 zbg0_8
  have bg05_9 := up hb bg05_8 zbg0_8
  have bg06_9 := up hb bg06_8 zbg0_8
  have z0_9 := Nat.lt_of_lt_of_le z0_8 zz
  have zbw0_9 := Nat.lt_of_lt_of_le zbw0_8 zz
  have zbx1_9 := Nat.lt_of_lt_of_le zbx1_8 zz
  have zbg0_9 := Nat.lt_of_lt_of_le zbg0_8 zz
  replace Ow0 := Lib.hid (Ow0.out.keepB hb (by have := SZ.out; omega))
  replace Ox1 := Lib.hid (Ox1.out.keepB hb (by have := SZ.out; omega))
  replace Og0 := Lib.hid (Og0.out.keepB hb (by have := SZ.out; omega))
  replace HB := Lib.hid (HB.out.trans (hb.mono HB.out.size))
  replace SZ := Lib.hid (And.intro SZ.out zz)
  clear zz hb e1a_8 e1b_8 bw00_8 bw01_8 bw02_8 bw03_8 bw04_8 bw05_8 bw06_8 bx10_8 bx11_8 bg00_8 bg01_8 bg02_8 bg03_8 bg04_8 bg05_8 bg06_8 z0_8 zbw0_8 zbx1_8 zbg0_8
  have HK : Hid (∀ a b : World, (w.heap.size < a.heap.size ∧ Xw0 < a.heap.size ∧ Xx1 < a.heap.size ∧ Xg0 < a.heap.size ∧ a.cell? ⟨w.heap.size, 0, none⟩ = some (.int .i64 s1) ∧ a.cell? ⟨w.heap.size, 1, none⟩ = some (.slice A1 m1 c1) ∧ a.cell? ⟨Xw0, 0, none⟩ = some (.int .i64 Kw0.K) ∧ a.cell? ⟨Xw0, 1, none⟩ = some (.int .i64 Kw0.s) ∧ a.cell? ⟨Xw0, 2, none⟩ = some (.slice Kw0.A0 Kw0.n0 Kw0.c0) ∧ a.cell? ⟨Xw0, 3, none⟩ = some (.string Kw0.t) ∧ a.cell? ⟨Xw0, 4, none⟩ = some (.slice Kw0.A1 Kw0.n1 Kw0.c1) ∧ a.cell? ⟨Xw0, 5, none⟩ = some (.slice Kw0.A2 Kw0.n2 Kw0.c2) ∧ a.cell? ⟨Xw0, 6, none⟩ = some (.slice Kw0.A3 Kw0.D.length Kw0.c3) ∧ a.cell? ⟨Xx1, 0, none⟩ = some (.int .i64 s1) ∧ a.cell? ⟨Xx1, 1, none⟩ = some (.slice (some ⟨kx1, 0, none⟩) m1 m1) ∧ a.cell? ⟨Xg0, 0, none⟩ = some (.int .i64 Kg0.K) ∧ a.cell? ⟨Xg0, 1, none⟩ = some (.int .i64 Kg0.s) ∧ a.cell? ⟨Xg0, 2, none⟩ = some (.slice Kg0.A0 Kg0.n0 Kg0.c0) ∧ a.cell? ⟨Xg0, 3, none⟩ = some (.string Kg0.t) ∧ a.cell? ⟨Xg0, 4, none⟩ = some (.slice Kg0.A1 Kg0.n1 Kg0.c1) ∧ a.cell? ⟨Xg0, 5, none⟩ = some (.slice Kg0.A2 Kg0.n2 Kg0.c2) ∧ a.cell? ⟨Xg0, 6, none⟩ = some (.slice Kg0.A3 Kg0.D.length Kg0.c3)) → Below a.heap.size a b → (w.heap.size < b.heap.size ∧ Xw0 < b.heap.size ∧ Xx1 < b.heap.size ∧ Xg0 < b.heap.size ∧ b.cell? ⟨w.heap.size, 0, none⟩ = some (.int .i64 s1) ∧ b.cell? ⟨w.heap.size, 1, none⟩ = some (.slice A1 m1 c1) ∧ b.cell? ⟨Xw0, 0, none⟩ = some (.int .i64 Kw0.K) ∧ b.cell? ⟨Xw0, 1, none⟩ = some (.int .i64 Kw0.s) ∧ b.cell? ⟨Xw0, 2, none⟩ = some (.slice Kw0.A0 Kw0.n0 Kw0.c0) ∧ b.cell? ⟨Xw0, 3, none⟩ = some (.string Kw0.t) ∧ b.cell? ⟨Xw0, 4, none⟩ = some (.slice Kw0.A1 Kw0.n1 Kw0.c1) ∧ b.cell? ⟨Xw0, 5, none⟩ = some (.slice Kw0.A2 Kw0.n2 Kw0.c2) ∧ b.cell? ⟨Xw0, 6, none⟩ = some (.slice Kw0.A3 Kw0.D.length Kw0.c3) ∧ b.cell? ⟨Xx1, 0, none⟩ = some (.int .i64 s1) ∧ b.cell? ⟨Xx1, 1, none⟩ = some (.slice (some ⟨kx1, 0, none⟩) m1 m1) ∧ b.cell? ⟨Xg0, 0, none⟩ = some (.int .i64 Kg0.K) ∧ b.cell? ⟨Xg0, 1, none⟩ = some (.int .i64 Kg0.s) ∧ b.cell? ⟨Xg0, 2, none⟩ = some (.slice Kg0.A0 Kg0.n0 Kg0.c0) ∧ b.cell? ⟨Xg0, 3, none⟩ = some (.string Kg0.t) ∧ b.cell? ⟨Xg0, 4, none⟩ = some (.slice Kg0.A1 Kg0.n1 Kg0.c1) ∧ b.cell? ⟨Xg0, 5, none⟩ = some (.slice Kg0.A2 Kg0.n2 Kg0.c2) ∧ b.cell? ⟨Xg0, 6, none⟩ = some (.slice Kg0.A3 Kg0.D.length Kg0.c3))) := by
    rintro a b ⟨r0, r1, r2, r3, r4, r5, r6, r7, r8, r9, r10, r11, r12, r13, r14, r15, r16, r17, r18, r19, r20, r21⟩ hb
    have := hb.size
    exact ⟨by omega, by omega, by omega, by omega, up hb r4 (by omega), up hb r5 (by omega), up hb r6 (by omega), up hb r7 (by omega), up hb r8 (by omega), up hb r9 (by omega), up hb r10 (by omega), up hb r11 (by omega), up hb r12 (by omega), up hb r13 (by omega), up hb r14 (by omega), up hb r15 (by omega), up hb r16 (by omega), up hb r17 (by omega), up hb r18 (by omega), up hb r19 (by omega), up hb r20 (by omega), up hb r21 (by omega)⟩
  go_wp2_with fail
  have H9 : Hid (Below w.heap.size w w9.drew) := HB.out.drew
  go_region_held3 (fun a => w.heap.size < a.heap.size ∧ Xw0 < a.heap.size ∧ Xx1 < a.heap.size ∧ Xg0 < a.heap.size ∧ a.cell? ⟨w.heap.size, 0, none⟩ = some (.int .i64 s1) ∧ a.cell? ⟨w.heap.size, 1, none⟩ = some (.slice A1 m1 c1) ∧ a.cell? ⟨Xw0, 0, none⟩ = some (.int .i64 Kw0.K) ∧ a.cell? ⟨Xw0, 1, none⟩ = some (.int .i64 Kw0.s) ∧ a.cell? ⟨Xw0, 2, none⟩ = some (.slice Kw0.A0 Kw0.n0 Kw0.c0) ∧ a.cell? ⟨Xw0, 3, none⟩ = some (.string Kw0.t) ∧ a.cell? ⟨Xw0, 4, none⟩ = some (.slice Kw0.A1 Kw0.n1 Kw0.c1) ∧ a.cell? ⟨Xw0, 5, none⟩ = some (.slice Kw0.A2 Kw0.n2 Kw0.c2) ∧ a.cell? ⟨Xw0, 6, none⟩ = some (.slice Kw0.A3 Kw0.D.length Kw0.c3) ∧ a.cell? ⟨Xx1, 0, none⟩ = some (.int .i64 s1) ∧ a.cell? ⟨Xx1, 1, none⟩ = some (.slice (some ⟨kx1, 0, none⟩) m1 m1) ∧ a.cell? ⟨Xg0, 0, none⟩ = some (.int .i64 Kg0.K) ∧ a.cell? ⟨Xg0, 1, none⟩ = some (.int .i64 Kg0.s) ∧ a.cell? ⟨Xg0, 2, none⟩ = some (.slice Kg0.A0 Kg0.n0 Kg0.c0) ∧ a.cell? ⟨Xg0, 3, none⟩ = some (.string Kg0.t) ∧ a.cell? ⟨Xg0, 4, none⟩ = some (.slice Kg0.A1 Kg0.n1 Kg0.c1) ∧ a.cell? ⟨Xg0, 5, none⟩ = some (.slice Kg0.A2 Kg0.n2 Kg0.c2) ∧ a.cell? ⟨Xg0, 6, none⟩ = some (.slice Kg0.A3 Kg0.D.length Kg0.c3))
    (first | (refine ⟨?_, ?_, ?_, ?_, ?_, ?_, ?_, ?_, ?_, ?_, ?_, ?_, ?_, ?_, ?_, ?_, ?_, ?_, ?_, ?_, ?_, ?_⟩ <;> assumption) | exact HK.out _ _ (by assumption) hb11 | exact HK.out _ _ (by assumption) hb10)
    (first
      | (go_at_call 15; ((with_reducible refine (toGraph_any s1 A1 m1 c1 x1 _ _ (h1.keep H9.out (Nat.le_refl _)) H9.out.size (by omega)).mono ?_); rintro e w10 ⟨kt1, hkt1, rfl, hot1, hb10⟩; have H10 := Lib.hid (H9.out.trans (hb10.mono H9.out.size))))
      | (go_at_call 18; ((with_reducible refine (eqGraph_yes _ _ _ _ _ _ _ w10 w10.heap.size w10.heap.size ((Ox1.out.rd.keep (Below.drew (Below.refl _ w9)) (le_drew (by have := SZ.out; omega))).keep hb10 hb10.size) (hot1.rd) (Nat.le_refl _) (Nat.le_refl _) (by omega)).mono ?_); rintro e w11 ⟨rfl, hb11⟩; have H11 := Lib.hid (H10.out.trans (hb11.mono H10.out.size)))))
  clear H10
  clear H11
  clear HK H9
  replace hb10 := bd hb10
  have Ot1 := Lib.hid hot1
  clear hot1
  have zz := hb10.size
  have e1a_10 := up hb10 e1a_9 z0_9
  have e1b_10 := up hb10 e1b_9 z0_9
  have bw00_10 := up hb10 bw00_9 zbw0_9
  have bw01_10 := up hb10 bw01_9 zbw0_9
  have bw02_10 := up hb10 bw02_9 zbw0_9
  have bw03_10 := up hb10 bw03_9 zbw0_9
  have bw04_10 := up hb10 bw04_9 zbw0_9
  have bw05_10 := up hb10 bw05_9 zbw0_9
  have bw06_10 := up hb10 bw06_9 zbw0_9
  have bx10_10 := up hb10 bx10_9 zbx1_9
  have bx11_10 := up hb10 bx11_9 zbx1_9
  have bg00_10 := up hb10 bg00_9 zbg0_9
  have bg01_10 := up hb10 bg01_9 zbg0_9
  have bg02_10 := up hb10 bg02_9 zbg0_9
  have bg03_10 := up hb10 bg03_9 zbg0_9
  have bg04_10 := up hb10 bg04_9 zbg0_9
  have bg05_10 := up hb10 bg05_9 zbg0_9
  have bg06_10 := up hb10 bg06_9 zbg0_9
  have z0_10 := Nat.lt_of_lt_of_le z0_9 zz
  have zbw0_10 := Nat.lt_of_lt_of_le zbw0_9 zz
  have zbx1_10 := Nat.lt_of_lt_of_le zbx1_9 zz
  have zbg0_10 := Nat.lt_of_lt_of_le zbg0_9 zz
  replace Ow0 := Lib.hid (Ow0.out.keepB hb10 (by have := SZ.out; omega))
  replace Ox1 := Lib.hid (Ox1.out.keepB hb10 (by have := SZ.out; omega))
  replace Og0 := Lib.hid (Og0.out.keepB hb10 (by have := SZ.out; omega))
  replace HB := Lib.hid (HB.out.trans (hb10.mono HB.out.size))
  replace SZ := Lib.hid (And.intro SZ.out zz)
  clear zz hb10 e1a_9 e1b_9 bw00_9 bw01_9 bw02_9 bw03_9 bw04_9 bw05_9 bw06_9 bx10_9 bx11_9 bg00_9 bg01_9 bg02_9 bg03_9 bg04_9 bg05_9 bg06_9 z0_9 zbw0_9 zbx1_9 zbg0_9
  clear hkt1
  have zz := hb11.size
  have e1a_11 := up hb11 e1a_10 z0_10
  have e1b_11 := up hb11 e1b_10 z0_10
  have bw00_11 := up hb11 bw00_10 zbw0_10
  have bw01_11 := up hb11 bw01_10 zbw0_10
  have bw02_11 := up hb11 bw02_10 zbw0_10
  have bw03_11 := up hb11 bw03_10 zbw0_10
  have bw04_11 := up hb11 bw04_10 zbw0_10
  have bw05_11 := up hb11 bw05_10 zbw0_10
  have bw06_11 := up hb11 bw06_10 zbw0_10
  have bx10_11 := up hb11 bx10_10 zbx1_10
  have bx11_11 := up hb11 bx11_10 zbx1_10
  have bg00_11 := up hb11 bg00_10 zbg0_10
  have bg01_11 := up hb11 bg01_10 zbg0_10
  have bg02_11 := up hb11 bg02_10 zbg0_10
  have bg03_11 := up hb11 bg03_10 zbg0_10
  have bg04_11 := up hb11 bg04_10 zbg0_10
  have bg05_11 := up hb11 bg05_10 zbg0_10
  have bg06_11 := up hb11 bg06_10 zbg0_10
  have z0_11 := Nat.lt_of_lt_of_le z0_10 zz
  have zbw0_11 := Nat.lt_of_lt_of_le zbw0_10 zz
  have zbx1_11 := Nat.lt_of_lt_of_le zbx1_10 zz
  have zbg0_11 := Nat.lt_of_lt_of_le zbg0_10 zz
  replace Ow0 := Lib.hid (Ow0.out.keepB hb11 (by have := SZ.out; omega))
  replace Ox1 := Lib.hid (Ox1.out.keepB hb11 (by have := SZ.out; omega))
  replace Og0 := Lib.hid (Og0.out.keepB hb11 (by have := SZ.out; omega))
  replace Ot1 := Lib.hid (Ot1.out.keepB hb11 (by have := SZ.out; omega))
  replace HB := Lib.hid (HB.out.trans (hb11.mono HB.out.size))
  replace SZ := Lib.hid (And.intro SZ.out zz)
  clear zz hb11 e1a_10 e1b_10 bw00_10 bw01_10 bw02_10 bw03_10 bw04_10 bw05_10 bw06_10 bx10_10 bx11_10 bg00_10 bg01_10 bg02_10 bg03_10 bg04_10 bg05_10 bg06_10 z0_10 zbw0_10 zbx1_10 zbg0_10
  clear Ot1
  go_wp2_with fail
  refine (markGraph_any _ _ _ _ _ (1 : Int) w11 _ _ Ox1.out (by omega) (by omega) (by omega) (by have := SZ.out; omega)).mono ?_
  rintro e w12 ⟨rfl, ho, hf⟩
  replace Ox1 := Lib.hid (Own.marked ho)
  clear ho
  have zz := hf.size
  have e1a_12 := upFr hf e1a_11 z0_11 (by have := SZ.out; omega)
  have e1b_12 := upFr hf e1b_11 z0_11 (by have := SZ.out; omega)
  have bw00_12 := upFr hf bw00_11 zbw0_11 (by have := SZ.out; omega)
  have bw01_12 := upFr hf bw01_11 zbw0_11 (by have := SZ.out; omega)
  have bw02_12 := upFr hf bw02_11 zbw0_11 (by have := SZ.out; omega)
  have bw03_12 := upFr hf bw03_11 zbw0_11 (by have := SZ.out; omega)
  have bw04_12 := upFr hf bw04_11 zbw0_11 (by have := SZ.out; omega)
  have bw05_12 := upFr hf bw05_11 zbw0_11 (by have := SZ.out; omega)
  have bw06_12 := upFr hf bw06_11 zbw0_11 (by have := SZ.out; omega)
  have bx10_12 := upFr hf bx10_11 zbx1_11 (by have := SZ.out; omega)
  have bx11_12 := upFr hf bx11_11 zbx1_11 (by have := SZ.out; omega)
  have bg00_12 := upFr hf bg00_11 zbg0_11 (by have := SZ.out; omega)
  have bg01_12 := upFr hf bg01_11 zbg0_11 (by have := SZ.out; omega)
  have bg02_12 := upFr hf bg02_11 zbg0_11 (by have := SZ.out; omega)
  have bg03_12 := upFr hf bg03_11 zbg0_11 (by have := SZ.out; omega)
  have bg04_12 := upFr hf bg04_11 zbg0_11 (by have := SZ.out; omega)
  have bg05_12 := upFr hf bg05_11 zbg0_11 (by have := SZ.out; omega)
  have bg06_12 := upFr hf bg06_11 zbg0_11 (by have := SZ.out; omega)
  have z0_12 := Nat.lt_of_lt_of_le z0_11 zz
  have zbw0_12 := Nat.lt_of_lt_of_le zbw0_11 zz
  have zbx1_12 := Nat.lt_of_lt_of_le zbx1_11 zz
  have zbg0_12 := Nat.lt_of_lt_of_le zbg0_11 zz
  replace Ow0 := Lib.hid (Ow0.out.keep hf (by have := SZ.out; omega))
  replace Og0 := Lib.hid (Og0.out.keep hf (by have := SZ.out; omega))
  replace HB := Lib.hid (HB.out.trans (hf.below (by have := SZ.out; have := HB.out.size; omega) HB.out.size))
  replace SZ := Lib.hid (And.intro SZ.out zz)
  clear zz hf e1a_11 e1b_11 bw00_11 bw01_11 bw02_11 bw03_11 bw04_11 bw05_11 bw06_11 bx10_11 bx11_11 bg00_11 bg01_11 bg02_11 bg03_11 bg04_11 bg05_11 bg06_11 z0_11 zbw0_11 zbx1_11 zbg0_11
  clear Ox1
  go_wp2_with fail
  refine (eqClaim_yes Kg0 Kw0 w12 w12.heap.size w12.heap.size (Og0.out.rdK.keep (Below.refl _ _) (by have := SZ.out; omega)) (Ow0.out.rdK.keep (Below.refl _ _) (by have := SZ.out; omega)) (Nat.le_refl _) (Nat.le_refl _) (Lg0.out.trans Lw0.out.symm) (Lg0.out.symm.small (coK_small (by omega)))).mono ?_
  rintro e w13 ⟨rfl, hb⟩
  have zz := hb.size
  have e1a_13 := up hb e1a_12 z0_12
  have e1b_13 := up hb e1b_12 z0_12
  have bw00_13 := up hb bw00_12 zbw0_12
  have bw01_13 := up hb bw01_12 zbw0_12
  have bw02_13 := up hb bw02_12 zbw0_12
  have bw03_13 := up hb bw03_12 zbw0_12
  have bw04_13 := up hb bw04_12 zbw0_12
  have bw05_13 := up hb bw05_12 zbw0_12
  have bw06_13 := up hb bw06_12 zbw0_12
  have bx10_13 := up hb bx10_12 zbx1_12
  have bx11_13 := up hb bx11_12 zbx1_12
  have bg00_13 := up hb bg00_12 zbg0_12
  have bg01_13 := up hb bg01_12 zbg0_12
  have bg02_13 := up hb bg02_12 zbg0_12
  have bg03_13 := up hb bg03_12 zbg0_12
  have bg04_13 := up hb bg04_12 zbg0_12
  have bg05_13 := up hb bg05_12 zbg0_12
  have bg06_13 := up hb bg06_12 zbg0_12
  have z0_13 := Nat.lt_of_lt_of_le z0_12 zz
  have zbw0_13 := Nat.lt_of_lt_of_le zbw0_12 zz
  have zbx1_13 := Nat.lt_of_lt_of_le zbx1_12 zz
  have zbg0_13 := Nat.lt_of_lt_of_le zbg0_12 zz
  replace Ow0 := Lib.hid (Ow0.out.keepB hb (by have := SZ.out; omega))
  replace Og0 := Lib.hid (Og0.out.keepB hb (by have := SZ.out; omega))
  replace HB := Lib.hid (HB.out.trans (hb.mono HB.out.size))
  replace SZ := Lib.hid (And.intro SZ.out zz)
  clear zz hb e1a_12 e1b_12 bw00_12 bw01_12 bw02_12 bw03_12 bw04_12 bw05_12 bw06_12 bx10_12 bx11_12 bg00_12 bg01_12 bg02_12 bg03_12 bg04_12 bg05_12 bg06_12 z0_12 zbw0_12 zbx1_12 zbg0_12
  go_wp2_with fail
  refine (markClaim_any Kg0 (1 : Int) w13 _ _ Og0.out Pg0.out (Lg0.out.symm.small (coK_small (by omega))) (by omega) (by omega) (by have := SZ.out; omega)).mono ?_
  rintro e w14 ⟨rfl, ho, hf⟩
  replace Og0 := Lib.hid ho
  clear ho
  have zz := hf.size
  have e1a_14 := upFr hf e1a_13 z0_13 (by have := SZ.out; omega)
  have e1b_14 := upFr hf e1b_13 z0_13 (by have := SZ.out; omega)
  have bw00_14 := upFr hf bw00_13 zbw0_13 (by have := SZ.out; omega)
  have bw01_14 := upFr hf bw01_13 zbw0_13 (by have := SZ.out; omega)
  have bw02_14 := upFr hf bw02_13 zbw0_13 (by have := SZ.out; omega)
  have bw03_14 := upFr hf bw03_13 zbw0_13 (by have := SZ.out; omega)
  have bw04_14 := upFr hf bw04_13 zbw0_13 (by have := SZ.out; omega)
  have bw05_14 := upFr hf bw05_13 zbw0_13 (by have := SZ.out; omega)
  have bw06_14 := upFr hf bw06_13 zbw0_13 (by have := SZ.out; omega)
  have bx10_14 := upFr hf bx10_13 zbx1_13 (by have := SZ.out; omega)
  have bx11_14 := upFr hf bx11_13 zbx1_13 (by have := SZ.out; omega)
  have bg00_14 := upFr hf bg00_13 zbg0_13 (by have := SZ.out; omega)
  have bg01_14 := upFr hf bg01_13 zbg0_13 (by have := SZ.out; omega)
  have bg02_14 := upFr hf bg02_13 zbg0_13 (by have := SZ.out; omega)
  have bg03_14 := upFr hf bg03_13 zbg0_13 (by have := SZ.out; omega)
  have bg04_14 := upFr hf bg04_13 zbg0_13 (by have := SZ.out; omega)
  have bg05_14 := upFr hf bg05_13 zbg0_13 (by have := SZ.out; omega)
  have bg06_14 := upFr hf bg06_13 zbg0_13 (by have := SZ.out; omega)
  have z0_14 := Nat.lt_of_lt_of_le z0_13 zz
  have zbw0_14 := Nat.lt_of_lt_of_le zbw0_13 zz
  have zbx1_14 := Nat.lt_of_lt_of_le zbx1_13 zz
  have zbg0_14 := Nat.lt_of_lt_of_le zbg0_13 zz
  replace Ow0 := Lib.hid (Ow0.out.keep hf (by have := SZ.out; omega))
  replace HB := Lib.hid (HB.out.trans (hf.below (by have := SZ.out; have := HB.out.size; omega) HB.out.size))
  replace SZ := Lib.hid (And.intro SZ.out zz)
  clear zz hf e1a_13 e1b_13 bw00_13 bw01_13 bw02_13 bw03_13 bw04_13 bw05_13 bw06_13 bx10_13 bx11_13 bg00_13 bg01_13 bg02_13 bg03_13 bg04_13 bg05_13 bg06_13 z0_13 zbw0_13 zbx1_13 zbg0_13
  go_wp2_with fail
  refine (heldClaim_yes Kg0 (1 : Int) w14 (Og0.out.rdK.keep (Below.refl _ _) (by have := SZ.out; omega)) (Lg0.out.symm.small (coK_small (by omega))) (by omega) (by omega)).mono ?_
  rintro e w15 ⟨rfl, hb⟩
  have zz := hb.size
  have e1a_15 := up hb e1a_14 z0_14
  have e1b_15 := up hb e1b_14 z0_14
  have bw00_15 := up hb bw00_14 zbw0_14
  have bw01_15 := up hb bw01_14 zbw0_14
  have bw02_15 := up hb bw02_14 zbw0_14
  have bw03_15 := up hb bw03_14 zbw0_14
  have bw04_15 := up hb bw04_14 zbw0_14
  have bw05_15 := up hb bw05_14 zbw0_14
  have bw06_15 := up hb bw06_14 zbw0_14
  have bx10_15 := up hb bx10_14 zbx1_14
  have bx11_15 := up hb bx11_14 zbx1_14
  have bg00_15 := up hb bg00_14 zbg0_14
  have bg01_15 := up hb bg01_14 zbg0_14
  have bg02_15 := up hb bg02_14 zbg0_14
  have bg03_15 := up hb bg03_14 zbg0_14
  have bg04_15 := up hb bg04_14 zbg0_14
  have bg05_15 := up hb bg05_14 zbg0_14
  have bg06_15 := up hb bg06_14 zbg0_14
  have z0_15 := Nat.lt_of_lt_of_le z0_14 zz
  have zbw0_15 := Nat.lt_of_lt_of_le zbw0_14 zz
  have zbx1_15 := Nat.lt_of_lt_of_le zbx1_14 zz
  have zbg0_15 := Nat.lt_of_lt_of_le zbg0_14 zz
  replace Ow0 := Lib.hid (Ow0.out.keepB hb (by have := SZ.out; omega))
  replace Og0 := Lib.hid (Og0.out.keepB hb (by have := SZ.out; omega))
  replace HB := Lib.hid (HB.out.trans (hb.mono HB.out.size))
  replace SZ := Lib.hid (And.intro SZ.out zz)
  clear zz hb e1a_14 e1b_14 bw00_14 bw01_14 bw02_14 bw03_14 bw04_14 bw05_14 bw06_14 bx10_14 bx11_14 bg00_14 bg01_14 bg02_14 bg03_14 bg04_14 bg05_14 bg06_14 z0_14 zbw0_14 zbx1_14 zbg0_14
  go_wp2_with fail
  refine (toGraph_any s1 A1 m1 c1 x1 _ _ (h1.keep HB.out (Nat.le_refl _)) HB.out.size (by omega)).mono ?_
  rintro e w16 ⟨ky1, hky1, rfl, hoy1, hb⟩
  have Oy1 := Lib.hid hoy1
  clear hoy1
  have zz := hb.size
  have e1a_16 := up hb e1a_15 z0_15
  have e1b_16 := up hb e1b_15 z0_15
  have bw00_16 := up hb bw00_15 zbw0_15
  have bw01_16 := up hb bw01_15 zbw0_15
  have bw02_16 := up hb bw02_15 zbw0_15
  have bw03_16 := up hb bw03_15 zbw0_15
  have bw04_16 := up hb bw04_15 zbw0_15
  have bw05_16 := up hb bw05_15 zbw0_15
  have bw06_16 := up hb bw06_15 zbw0_15
  have bx10_16 := up hb bx10_15 zbx1_15
  have bx11_16 := up hb bx11_15 zbx1_15
  have bg00_16 := up hb bg00_15 zbg0_15
  have bg01_16 := up hb bg01_15 zbg0_15
  have bg02_16 := up hb bg02_15 zbg0_15
  have bg03_16 := up hb bg03_15 zbg0_15
  have bg04_16 := up hb bg04_15 zbg0_15
  have bg05_16 := up hb bg05_15 zbg0_15
  have bg06_16 := up hb bg06_15 zbg0_15
  have z0_16 := Nat.lt_of_lt_of_le z0_15 zz
  have zbw0_16 := Nat.lt_of_lt_of_le zbw0_15 zz
  have zbx1_16 := Nat.lt_of_lt_of_le zbx1_15 zz
  have zbg0_16 := Nat.lt_of_lt_of_le zbg0_15 zz
  replace Ow0 := Lib.hid (Ow0.out.keepB hb (by have := SZ.out; omega))
  replace Og0 := Lib.hid (Og0.out.keepB hb (by have := SZ.out; omega))
  replace HB := Lib.hid (HB.out.trans (hb.mono HB.out.size))
  replace SZ := Lib.hid (And.intro SZ.out zz)
  clear zz hb e1a_15 e1b_15 bw00_15 bw01_15 bw02_15 bw03_15 bw04_15 bw05_15 bw06_15 bx10_15 bx11_15 bg00_15 bg01_15 bg02_15 bg03_15 bg04_15 bg05_15 bg06_15 z0_15 zbw0_15 zbx1_15 zbg0_15
  clear hky1
  go_wp2_with fail
  refine (ClaimOfColors_i s1 _ m1 m1 x1 w16 w16.heap.size (Oy1.out.rd.keep (Below.refl _ _) (by have := SZ.out; omega)) (Nat.le_refl _) (by omega) ).mono ?_
  rintro e w17 ⟨Kh0, rfl, hlh0, hph0, hoh0, hb⟩
  have Oh0 := Lib.hid hoh0
  clear hoh0
  have Lh0 := Lib.hid hlh0
  clear hlh0
  have Ph0 := Lib.hid hph0
  clear hph0
  have zz := hb.size
  have e1a_17 := up hb e1a_16 z0_16
  have e1b_17 := up hb e1b_16 z0_16
  have bw00_17 := up hb bw00_16 zbw0_16
  have bw01_17 := up hb bw01_16 zbw0_16
  have bw02_17 := up hb bw02_16 zbw0_16
  have bw03_17 := up hb bw03_16 zbw0_16
  have bw04_17 := up hb bw04_16 zbw0_16
  have bw05_17 := up hb bw05_16 zbw0_16
  have bw06_17 := up hb bw06_16 zbw0_16
  have bx10_17 := up hb bx10_16 zbx1_16
  have bx11_17 := up hb bx11_16 zbx1_16
  have bg00_17 := up hb bg00_16 zbg0_16
  have bg01_17 := up hb bg01_16 zbg0_16
  have bg02_17 := up hb bg02_16 zbg0_16
  have bg03_17 := up hb bg03_16 zbg0_16
  have bg04_17 := up hb bg04_16 zbg0_16
  have bg05_17 := up hb bg05_16 zbg0_16
  have bg06_17 := up hb bg06_16 zbg0_16
  have z0_17 := Nat.lt_of_lt_of_le z0_16 zz
  have zbw0_17 := Nat.lt_of_lt_of_le zbw0_16 zz
  have zbx1_17 := Nat.lt_of_lt_of_le zbx1_16 zz
  have zbg0_17 := Nat.lt_of_lt_of_le zbg0_16 zz
  replace Ow0 := Lib.hid (Ow0.out.keepB hb (by have := SZ.out; omega))
  replace Og0 := Lib.hid (Og0.out.keepB hb (by have := SZ.out; omega))
  replace Oy1 := Lib.hid (Oy1.out.keepB hb (by have := SZ.out; omega))
  replace HB := Lib.hid (HB.out.trans (hb.mono HB.out.size))
  replace SZ := Lib.hid (And.intro SZ.out zz)
  clear zz hb e1a_16 e1b_16 bw00_16 bw01_16 bw02_16 bw03_16 bw04_16 bw05_16 bw06_16 bx10_16 bx11_16 bg00_16 bg01_16 bg02_16 bg03_16 bg04_16 bg05_16 bg06_16 z0_16 zbw0_16 zbx1_16 zbg0_16
  clear Oy1
  obtain ⟨w18, hW⟩ : ∃ W : World, W = w17.alloc (Obj.cells #[.int .i64 Kh0.K, .int .i64 Kh0.s, .slice Kh0.A0 Kh0.n0 Kh0.c0, .string Kh0.t, .slice Kh0.A1 Kh0.n1 Kh0.c1, .slice Kh0.A2 Kh0.n2 Kh0.c2, .slice Kh0.A3 Kh0.D.length Kh0.c3] 46) := ⟨_, rfl⟩
  obtain ⟨Xh0, hX⟩ : ∃ X : Nat, X = w17.heap.size := ⟨_, rfl⟩
  have hb : Below w17.heap.size w17 w18 := by rw [hW]; exact (Below.refl _ _).alloc (Nat.le_refl _) _
  have y0 : w18.cell? ⟨Xh0, 0, none⟩ = some (.int .i64 Kh0.K) := by rw [hW, hX]; simp [go_sem]
  have y1 : w18.cell? ⟨Xh0, 1, none⟩ = some (.int .i64 Kh0.s) := by rw [hW, hX]; simp [go_sem]
  have y2 : w18.cell? ⟨Xh0, 2, none⟩ = some (.slice Kh0.A0 Kh0.n0 Kh0.c0) := by rw [hW, hX]; simp [go_sem]
  have y3 : w18.cell? ⟨Xh0, 3, none⟩ = some (.string Kh0.t) := by rw [hW, hX]; simp [go_sem]
  have y4 : w18.cell? ⟨Xh0, 4, none⟩ = some (.slice Kh0.A1 Kh0.n1 Kh0.c1) := by rw [hW, hX]; simp [go_sem]
  have y5 : w18.cell? ⟨Xh0, 5, none⟩ = some (.slice Kh0.A2 Kh0.n2 Kh0.c2) := by rw [hW, hX]; simp [go_sem]
  have y6 : w18.cell? ⟨Xh0, 6, none⟩ = some (.slice Kh0.A3 Kh0.D.length Kh0.c3) := by rw [hW, hX]; simp [go_sem]
  have yz : Xh0 < w18.heap.size := by rw [hW, hX]; simp
  have ys : w17.heap.size ≤ Xh0 := by rw [hX]; exact Nat.le_refl _
  have HWx := Lib.hid hW
  have HX := Lib.hid hX
  clear hW hX
  have zz := hb.size
  have e1a_18 := up hb e1a_17 z0_17
  have e1b_18 := up hb e1b_17 z0_17
  have bw00_18 := up hb bw00_17 zbw0_17
  have bw01_18 := up hb bw01_17 zbw0_17
  have bw02_18 := up hb bw02_17 zbw0_17
  have bw03_18 := up hb bw03_17 zbw0_17
  have bw04_18 := up hb bw04_17 zbw0_17
  have bw05_18 := up hb bw05_17 zbw0_17
  have bw06_18 := up hb bw06_17 zbw0_17
  have bx10_18 := up hb bx10_17 zbx1_17
  have bx11_18 := up hb bx11_17 zbx1_17
  have bg00_18 := up hb bg00_17 zbg0_17
  have bg01_18 := up hb bg01_17 zbg0_17
  have bg02_18 := up hb bg02_17 zbg0_17
  have bg03_18 := up hb bg03_17 zbg0_17
  have bg04_18 := up hb bg04_17 zbg0_17
  have bg05_18 := up hb bg05_17 zbg0_17
  have bg06_18 := up hb bg06_17 zbg0_17
  have z0_18 := Nat.lt_of_lt_of_le z0_17 zz
  have zbw0_18 := Nat.lt_of_lt_of_le zbw0_17 zz
  have zbx1_18 := Nat.lt_of_lt_of_le zbx1_17 zz
  have zbg0_18 := Nat.lt_of_lt_of_le zbg0_17 zz
  replace Ow0 := Lib.hid (Ow0.out.keepB hb (by have := SZ.out; omega))
  replace Og0 := Lib.hid (Og0.out.keepB hb (by have := SZ.out; omega))
  replace Oh0 := Lib.hid (Oh0.out.keepB hb (by have := SZ.out; omega))
  replace HB := Lib.hid (HB.out.trans (hb.mono HB.out.size))
  replace SZ := Lib.hid (And.intro SZ.out zz)
  clear zz hb 
  replace SZ := Lib.hid (And.intro SZ.out (And.intro ys yz))
  clear ys
  have bh00_18 := y0
  clear y0
  have bh01_18 := y1
  clear y1
  have bh02_18 := y2
  clear y2
  have bh03_18 := y3
  clear y3
  have bh04_18 := y4
  clear y4
  have bh05_18 := y5
  clear y5
  have bh06_18 := y6
  clear y6
  have zbh0_18 := yz
  clear yz
  go_wp2_with fail
  rw [← HWx.out, ← HX.out]
  clear HWx HX e1a_17 e1b_17 bw00_17 bw01_17 bw02_17 bw03_17 bw04_17 bw05_17 bw06_17 bx10_17 bx11_17 bg00_17 bg01_17 bg02_17 bg03_17 bg04_17 bg05_17 bg06_17 z0_17 zbw0_17 zbx1_17 zbg0_17
  go_wp2_with fail
  refine (eqClaim_yes Kh0 Kw0 w18 w18.heap.size w18.heap.size (Oh0.out.rdK.keep (Below.refl _ _) (by have := SZ.out; omega)) (Ow0.out.rdK.keep (Below.refl _ _) (by have := SZ.out; omega)) (Nat.le_refl _) (Nat.le_refl _) (Lh0.out.trans Lw0.out.symm) (Lh0.out.symm.small (coK_small (by omega)))).mono ?_
  rintro e w19 ⟨rfl, hb⟩
  have zz := hb.size
  have e1a_19 := up hb e1a_18 z0_18
  have e1b_19 := up hb e1b_18 z0_18
  have bw00_19 := up hb bw00_18 zbw0_18
  have bw01_19 := up hb bw01_18 zbw0_18
  have bw02_19 := up hb bw02_18 zbw0_18
  have bw03_19 := up hb bw03_18 zbw0_18
  have bw04_19 := up hb bw04_18 zbw0_18
  have bw05_19 := up hb bw05_18 zbw0_18
  have bw06_19 := up hb bw06_18 zbw0_18
  have bx10_19 := up hb bx10_18 zbx1_18
  have bx11_19 := up hb bx11_18 zbx1_18
  have bg00_19 := up hb bg00_18 zbg0_18
  have bg01_19 := up hb bg01_18 zbg0_18
  have bg02_19 := up hb bg02_18 zbg0_18
  have bg03_19 := up hb bg03_18 zbg0_18
  have bg04_19 := up hb bg04_18 zbg0_18
  have bg05_19 := up hb bg05_18 zbg0_18
  have bg06_19 := up hb bg06_18 zbg0_18
  have bh00_19 := up hb bh00_18 zbh0_18
  have bh01_19 := up hb bh01_18 zbh0_18
  have bh02_19 := up hb bh02_18 zbh0_18
  have bh03_19 := up hb bh03_18 zbh0_18
  have bh04_19 := up hb bh04_18 zbh0_18
  have bh05_19 := up hb bh05_18 zbh0_18
  have bh06_19 := up hb bh06_18 zbh0_18
  have z0_19 := Nat.lt_of_lt_of_le z0_18 zz
  have zbw0_19 := Nat.lt_of_lt_of_le zbw0_18 zz
  have zbx1_19 := Nat.lt_of_lt_of_le zbx1_18 zz
  have zbg0_19 := Nat.lt_of_lt_of_le zbg0_18 zz
  have zbh0_19 := Nat.lt_of_lt_of_le zbh0_18 zz
  replace Ow0 := Lib.hid (Ow0.out.keepB hb (by have := SZ.out; omega))
  replace Og0 := Lib.hid (Og0.out.keepB hb (by have := SZ.out; omega))
  replace Oh0 := Lib.hid (Oh0.out.keepB hb (by have := SZ.out; omega))
  replace HB := Lib.hid (HB.out.trans (hb.mono HB.out.size))
  replace SZ := Lib.hid (And.intro SZ.out zz)
  clear zz hb e1a_18 e1b_18 bw00_18 bw01_18 bw02_18 bw03_18 bw04_18 bw05_18 bw06_18 bx10_18 bx11_18 bg00_18 bg01_18 bg02_18 bg03_18 bg04_18 bg05_18 bg06_18 bh00_18 bh01_18 bh02_18 bh03_18 bh04_18 bh05_18 bh06_18 z0_18 zbw0_18 zbx1_18 zbg0_18 zbh0_18
  go_wp2_with fail
  refine (heldClaim_yes Kg0 (1 : Int) w19 (Og0.out.rdK.keep (Below.refl _ _) (by have := SZ.out; omega)) (Lg0.out.symm.small (coK_small (by omega))) (by omega) (by omega)).mono ?_
  rintro e w20 ⟨rfl, hb⟩
  have zz := hb.size
  have e1a_20 := up hb e1a_19 z0_19
  have e1b_20 := up hb e1b_19 z0_19
  have bw00_20 := up hb bw00_19 zbw0_19
  have bw01_20 := up hb bw01_19 zbw0_19
  have bw02_20 := up hb bw02_19 zbw0_19
  have bw03_20 := up hb bw03_19 zbw0_19
  have bw04_20 := up hb bw04_19 zbw0_19
  have bw05_20 := up hb bw05_19 zbw0_19
  have bw06_20 := up hb bw06_19 zbw0_19
  have bx10_20 := up hb bx10_19 zbx1_19
  have bx11_20 := up hb bx11_19 zbx1_19
  have bg00_20 := up hb bg00_19 zbg0_19
  have bg01_20 := up hb bg01_19 zbg0_19
  have bg02_20 := up hb bg02_19 zbg0_19
  have bg03_20 := up hb bg03_19 zbg0_19
  have bg04_20 := up hb bg04_19 zbg0_19
  have bg05_20 := up hb bg05_19 zbg0_19
  have bg06_20 := up hb bg06_19 zbg0_19
  have bh00_20 := up hb bh00_19 zbh0_19
  have bh01_20 := up hb bh01_19 zbh0_19
  have bh02_20 := up hb bh02_19 zbh0_19
  have bh03_20 := up hb bh03_19 zbh0_19
  have bh04_20 := up hb bh04_19 zbh0_19
  have bh05_20 := up hb bh05_19 zbh0_19
  have bh06_20 := up hb bh06_19 zbh0_19
  have z0_20 := Nat.lt_of_lt_of_le z0_19 zz
  have zbw0_20 := Nat.lt_of_lt_of_le zbw0_19 zz
  have zbx1_20 := Nat.lt_of_lt_of_le zbx1_19 zz
  have zbg0_20 := Nat.lt_of_lt_of_le zbg0_19 zz
  have zbh0_20 := Nat.lt_of_lt_of_le zbh0_19 zz
  replace Ow0 := Lib.hid (Ow0.out.keepB hb (by have := SZ.out; omega))
  replace Og0 := Lib.hid (Og0.out.keepB hb (by have := SZ.out; omega))
  replace Oh0 := Lib.hid (Oh0.out.keepB hb (by have := SZ.out; omega))
  replace HB := Lib.hid (HB.out.trans (hb.mono HB.out.size))
  replace SZ := Lib.hid (And.intro SZ.out zz)
  clear zz hb e1a_19 e1b_19 bw00_19 bw01_19 bw02_19 bw03_19 bw04_19 bw05_19 bw06_19 bx10_19 bx11_19 bg00_19 bg01_19 bg02_19 bg03_19 bg04_19 bg05_19 bg06_19 bh00_19 bh01_19 bh02_19 bh03_19 bh04_19 bh05_19 bh06_19 z0_19 zbw0_19 zbx1_19 zbg0_19 zbh0_19
  go_wp2
  go_ret
  exact ⟨rfl, HB.out⟩

set_option maxRecDepth 100000 in
theorem lifted (os : Os) (started : os.Started) (H : Type) (enc : TypeId × Value → H) :
    ReturnsInHanded {} Try.checked os 8 .any (Rows.fnExactClaimOfColorsSpec.pre6 enc Try.prog Try.f8 Rows.fnExactClaimOfColorsRow.domain false) (Rows.fnExactClaimOfColorsSpec.post enc Try.prog Try.f8 false true false false) := by
  refine returnsInHanded_of_change (C := Try.checked) own started (by kernel_rfl) Try.func8
    (ChangeSpec.witness6 (enc := enc) (C := Try.checked) false ⟨#[], #[.agg #[.int .i64 0, .slice none 0 0]], []⟩ 8 (by kernel_rfl) (by kernel_rfl) (by kernel_rfl) (by kernel_rfl)) ?_
  intro W base args ds gs before hval0 hW hcnd _
  have hval : ∀ (j : Nat) t v, Try.f8.params[j]? = some t → args[j]? = some v → Value.okWide Try.prog W .any base t v := hval0
  have hW' := hW
  obtain ⟨p, q, hA0, hV, rfl, hfz, hnd⟩ := hW
  have hA : DataW.TrodAll enc Try.prog W 0 (fun _ => true) true Try.f8.params.toList args.toList ds p := hA0
  rw [Try.params8] at hA hval
  obtain ⟨v0, vs0, d0, ds0, p0, q0, hargs, rfl, rfl, l0, r0⟩ := trodAll_cons hA
  obtain ⟨rfl, rfl, rfl⟩ := trodAll_nil r0
  obtain rfl : args = #[v0] := by cases args; simp_all
  obtain ⟨rfl, rfl⟩ := trodVars_none hV
  have lt0 := places_lt l0
  obtain ⟨s1, A1, m1, c1, x1, rfl, h1, n1⟩ := open_graph (hval 0 24 v0 rfl rfl) l0
  clear hA0 hval0
  refine (walk s1 A1 m1 c1 x1 W h1 n1).mono fun e W' ⟨he, bel⟩ => ?_
  subst he
  exact ⟨_, rfl, _, _, _, [], _, [], hW', trodAll_mk1 (shut_bool Try.underlying4 _), (trodAll_cons_mk (Below.trod laidOut (by kernel_rfl) (of_decide_eq_true (by kernel_rfl)) l0 bel lt0) trodAll_mk0), rfl, bel.frame _, fun h => by cases h⟩

theorem over : Rows.fnExactClaimOfColorsRow.holds Try.pinned (OpenSpec.ofChange Rows.fnExactClaimOfColorsSpec) :=
  OpenClaim.holds_of_wide 8 Try.f8 rfl rfl rfl rfl rfl rfl rfl ⟨rfl, rfl, rfl, rfl, rfl⟩ rfl rfl rfl rfl rfl (by kernel_rfl) Try.func8 (by kernel_rfl)
    (of_decide_eq_true (by kernel_rfl)) (by unfold Func.isWrapper; first | (rw [if_pos (by decide +kernel)]; kernel_rfl) | (rw [if_neg (by decide +kernel)]; exact ⟨rfl, rfl⟩))
    (fun os started H enc _ => lifted os started H enc)

/-- The statement. -/
theorem proved : Rows.FnExactClaimOfColorsSaid := over
#print axioms proved
end Go.Proofs.Ytnnlmdenffnjbaa.fnExactClaimOfColors
