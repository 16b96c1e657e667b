/-
  The program's IsModelFor answers as the reference's at every input: the law FnExactIsModelFor answers true.
  No condition.
-/
import Derived.Test.YtmkahbephidmbaaQcMdfL
import Derived.Test.YtmkahbephidmbaaQcGA
import Derived.Test.YtmkahbephidmbaaQcGL
import Derived.Test.YtmkahbephidmbaaQcOpen4
import Derived.Deep.RegionHeld3
namespace Go.Proofs.Ytmkahbephidmbaa.fnExactIsModelFor
open Go.ChangeShapes Go.WideShapes Go.ChangeAt Go.RowKit

theorem le_drew {a : Nat} {w : World} (h : a ≤ w.heap.size) : a ≤ w.drew.heap.size := h
set_option maxRecDepth 100000 in
set_option maxHeartbeats 1600000 in
theorem walk (s1 : Int) (A1 : Option Addr) (m1 : Nat) (c1 : Nat) (x1 : Nat → Int) (t2 : ByteArray) (A3 : Option Addr) (m3 : Nat) (c3 : Nat) (x3 : Nat → Int) (A4 : Option Addr) (m4 : Nat) (c4 : Nat) (x4 : Nat → Int) (w : World) (h1 : Rd w w.heap.size A1 m1 c1 x1) (n1 : m1 ≤ maxLen) (n2 : t2.size ≤ maxLen) (h3 : Rd w w.heap.size A3 m3 c3 x3) (n3 : m3 ≤ maxLen) (h4 : Rd w w.heap.size A4 m4 c4 x4) (n4 : m4 ≤ maxLen) :
    Calls Try.prog 3 #[.agg #[.int .i64 s1, .slice A1 m1 c1], .string t2, .slice A3 m3 c3, .slice A4 m4 c4] w fun e w' => e = .returned (.bool true) ∧ Below w.heap.size w w' := by
  obtain ⟨w0, hW⟩ : ∃ W : World, W = (w.alloc (Obj.cells #[.int .i64 s1, .slice A1 m1 c1] 24)) := ⟨_, rfl⟩
  have HB : Hid (Below w.heap.size w w0) := by rw [hW]; exact ((Below.refl _ _).alloc (by simp) _)
  have z0_0 : w.heap.size < w0.heap.size := by rw [hW]; simp <;> omega
  have e1a_0 : w0.cell? ⟨w.heap.size, 0, none⟩ = some (.int .i64 s1) := by rw [hW]; simp [go_sem]
  have e1b_0 : w0.cell? ⟨w.heap.size, 1, none⟩ = some (.slice A1 m1 c1) := by rw [hW]; simp [go_sem]
  have SZ : Hid (w.heap.size + 1 ≤ w0.heap.size) := by rw [hW]; simp [Hid]
  have HW := Lib.hid hW
  clear hW
  go_enter Try.func3, Try.ntmps3
  unfold maxLen at n2
  by_cases p2 : (1048576 : Int) < t2.size
  · go_wp2
    go_ret
    exact ⟨rfl, by rw [← HW.out]; exact HB.out⟩
  unfold maxLen at n3
  by_cases p3 : (1048576 : Int) < m3
  · go_wp2
    go_ret
    exact ⟨rfl, by rw [← HW.out]; exact HB.out⟩
  unfold maxLen at n4
  by_cases p4 : (1048576 : Int) < m4
  · go_wp2
    go_ret
    exact ⟨rfl, by rw [← HW.out]; exact HB.out⟩
  go_wp2_with fail
  rw [← HW.out]
  clear HW
  refine (szGraph_any s1 A1 m1 c1 ((1048576 : Int)) w0 n1 (by omega) (by omega)).mono ?_
  rintro e w1 ⟨rfl, hb⟩
  have zz := hb.size
  have e1a_1 := up hb e1a_0 z0_0
  have e1b_1 := up hb e1b_0 z0_0
  have z0_1 := Nat.lt_of_lt_of_le z0_0 zz
  replace HB := Lib.hid (HB.out.trans (hb.mono HB.out.size))
  replace SZ := Lib.hid (And.intro SZ.out zz)
  clear zz hb e1a_0 e1b_0 z0_0
  by_cases p1 : (1048576 : Int) < m1
  · have q1 : szl ((1048576 : Int)) m1 < 0 := by unfold szl; rw [if_pos p1]; omega
    clear p1
    go_wp2
    go_ret
    exact ⟨rfl, HB.out⟩
  have q1 : szl ((1048576 : Int)) m1 = (1048576 : Int) - m1 := by unfold szl; rw [if_neg p1]
  rw [q1]
  clear q1 n1
  go_wp2_with fail
  refine (toGraph_any s1 A1 m1 c1 x1 _ _ (h1.keep HB.out (Nat.le_refl _)) HB.out.size (by omega)).mono ?_
  rintro e w2 ⟨ky1, hky1, rfl, hoy1, hb⟩
  have Oy1 := Lib.hid hoy1
  clear hoy1
  have zz := hb.size
  have e1a_2 := up hb e1a_1 z0_1
  have e1b_2 := up hb e1b_1 z0_1
  have z0_2 := Nat.lt_of_lt_of_le z0_1 zz
  replace HB := Lib.hid (HB.out.trans (hb.mono HB.out.size))
  replace SZ := Lib.hid (And.intro SZ.out zz)
  clear zz hb e1a_1 e1b_1 z0_1
  clear hky1
  go_wp2_with fail
  refine (toIntS_any A3 m3 c3 x3 _ _ (h3.keep HB.out (Nat.le_refl _)) HB.out.size (by omega)).mono ?_
  rintro e w3 ⟨ky3, hky3, rfl, hoy3, hb⟩
  have Oy3 := Lib.hid hoy3
  clear hoy3
  have zz := hb.size
  have e1a_3 := up hb e1a_2 z0_2
  have e1b_3 := up hb e1b_2 z0_2
  have z0_3 := Nat.lt_of_lt_of_le z0_2 zz
  replace Oy1 := Lib.hid (Oy1.out.keepB hb (by have := SZ.out; omega))
  replace HB := Lib.hid (HB.out.trans (hb.mono HB.out.size))
  replace SZ := Lib.hid (And.intro SZ.out zz)
  clear zz hb e1a_2 e1b_2 z0_2
  clear hky3
  go_wp2_with fail
  refine (toIntS_any A4 m4 c4 x4 _ _ (h4.keep HB.out (Nat.le_refl _)) HB.out.size (by omega)).mono ?_
  rintro e w4 ⟨ky4, hky4, rfl, hoy4, hb⟩
  have Oy4 := Lib.hid hoy4
  clear hoy4
  have zz := hb.size
  have e1a_4 := up hb e1a_3 z0_3
  have e1b_4 := up hb e1b_3 z0_3
  have z0_4 := Nat.lt_of_lt_of_le z0_3 zz
  replace Oy1 := Lib.hid (Oy1.out.keepB hb (by have := SZ.out; omega))
  replace Oy3 := Lib.hid (Oy3.out.keepB hb (by have := SZ.out; omega))
  replace HB := Lib.hid (HB.out.trans (hb.mono HB.out.size))
  replace SZ := Lib.hid (And.intro SZ.out zz)
  clear zz hb e1a_3 e1b_3 z0_3
  clear hky4
  go_wp2_with fail
  refine (IsModelFor_sL s1 _ m1 m1 x1 t2 _ m3 m3 x3 _ m4 m4 x4 w4 w4.heap.size (Oy1.out.rd.keep (Below.refl _ _) (by have := SZ.out; omega)) (Oy3.out.rd.keep (Below.refl _ _) (by have := SZ.out; omega)) (Oy4.out.rd.keep (Below.refl _ _) (by have := SZ.out; omega)) (Nat.le_refl _) (by omega) (by omega) (by omega) (by omega)).mono ?_
  rintro e w5 ⟨rfl, hb⟩
  have zz := hb.size
  have e1a_5 := up hb e1a_4 z0_4
  have e1b_5 := up hb e1b_4 z0_4
  have z0_5 := Nat.lt_of_lt_of_le z0_4 zz
  replace Oy1 := Lib.hid (Oy1.out.keepB hb (by have := SZ.out; omega))
  replace Oy3 := Lib.hid (Oy3.out.keepB hb (by have := SZ.out; omega))
  replace Oy4 := Lib.hid (Oy4.out.keepB hb (by have := SZ.out; omega))
  replace HB := Lib.hid (HB.out.trans (hb.mono HB.out.size))
  replace SZ := Lib.hid (And.intro SZ.out zz)
  clear zz hb e1a_4 e1b_4 z0_4
  clear Oy1
  clear Oy3
  clear Oy4
  go_wp2_with fail
  refine (toGraph_any s1 A1 m1 c1 x1 _ _ (h1.keep HB.out (Nat.le_refl _)) HB.out.size (by omega)).mono ?_
  rintro e w6 ⟨kx1, hkx1, rfl, hox1, hb⟩
  have Ox1 := Lib.hid hox1
  clear hox1
  have zz := hb.size
  have e1a_6 := up hb e1a_5 z0_5
  have e1b_6 := up hb e1b_5 z0_5
  have z0_6 := Nat.lt_of_lt_of_le z0_5 zz
  replace HB := Lib.hid (HB.out.trans (hb.mono HB.out.size))
  replace SZ := Lib.hid (And.intro SZ.out zz)
  clear zz hb e1a_5 e1b_5 z0_5
  clear hkx1
  obtain ⟨w7, hW⟩ : ∃ W : World, W = w6.alloc (Obj.cells #[.int .i64 s1, .slice (some ⟨kx1, 0, none⟩) m1 m1] 27) := ⟨_, rfl⟩
  obtain ⟨Xx1, hX⟩ : ∃ X : Nat, X = w6.heap.size := ⟨_, rfl⟩
  have hb : Below w6.heap.size w6 w7 := by rw [hW]; exact (Below.refl _ _).alloc (Nat.le_refl _) _
  have y0 : w7.cell? ⟨Xx1, 0, none⟩ = some (.int .i64 s1) := by rw [hW, hX]; simp [go_sem]
  have y1 : w7.cell? ⟨Xx1, 1, none⟩ = some (.slice (some ⟨kx1, 0, none⟩) m1 m1) := by rw [hW, hX]; simp [go_sem]
  have yz : Xx1 < w7.heap.size := by rw [hW, hX]; simp
  have ys : w6.heap.size ≤ Xx1 := by rw [hX]; exact Nat.le_refl _
  have HWx := Lib.hid hW
  have HX := Lib.hid hX
  clear hW hX
  have zz := hb.size
  have e1a_7 := up hb e1a_6 z0_6
  have e1b_7 := up hb e1b_6 z0_6
  have z0_7 := Nat.lt_of_lt_of_le z0_6 zz
  replace Ox1 := Lib.hid (Ox1.out.keepB hb (by have := SZ.out; omega))
  replace HB := Lib.hid (HB.out.trans (hb.mono HB.out.size))
  replace SZ := Lib.hid (And.intro SZ.out zz)
  clear zz hb 
  replace SZ := Lib.hid (And.intro SZ.out (And.intro ys yz))
  clear ys
  have bx10_7 := y0
  clear y0
  have bx11_7 := y1
  clear y1
  have zbx1_7 := yz
  clear yz
  go_wp2_with fail
  rw [← HWx.out, ← HX.out]
  clear HWx HX e1a_6 e1b_6 z0_6
  go_wp2_with fail
  refine (toIntS_any A3 m3 c3 x3 _ _ (h3.keep HB.out (Nat.le_refl _)) HB.out.size (by omega)).mono ?_
  rintro e w8 ⟨kx3, hkx3, rfl, hox3, hb⟩
  have Ox3 := Lib.hid hox3
  clear hox3
  have zz := hb.size
  have e1a_8 := up hb e1a_7 z0_7
  have e1b_8 := up hb e1b_7 z0_7
  have bx10_8 := up hb bx10_7 zbx1_7
  have bx11_8 := up hb bx11_7 zbx1_7
  have z0_8 := Nat.lt_of_lt_of_le z0_7 zz
  have zbx1_8 := Nat.lt_of_lt_of_le zbx1_7 zz
  replace Ox1 := Lib.hid (Ox1.out.keepB hb (by have := SZ.out; omega))
  replace HB := Lib.hid (HB.out.trans (hb.mono HB.out.size))
  replace SZ := Lib.hid (And.intro SZ.out zz)
  clear zz hb e1a_7 e1b_7 bx10_7 bx11_7 z0_7 zbx1_7
  clear hkx3
  go_wp2_with fail
  refine (toIntS_any A4 m4 c4 x4 _ _ (h4.keep HB.out (Nat.le_refl _)) HB.out.size (by omega)).mono ?_
  rintro e w9 ⟨kx4, hkx4, rfl, hox4, hb⟩
  have Ox4 := Lib.hid hox4
  clear hox4
  have zz := hb.size
  have e1a_9 := up hb e1a_8 z0_8
  have e1b_9 := up hb e1b_8 z0_8
  have bx10_9 := up hb bx10_8 zbx1_8
  have bx11_9 := up hb bx11_8 zbx1_8
  have z0_9 := Nat.lt_of_lt_of_le z0_8 zz
  have zbx1_9 := Nat.lt_of_lt_of_le zbx1_8 zz
  replace Ox1 := Lib.hid (Ox1.out.keepB hb (by have := SZ.out; omega))
  replace Ox3 := Lib.hid (Ox3.out.keepB hb (by have := SZ.out; omega))
  replace HB := Lib.hid (HB.out.trans (hb.mono HB.out.size))
  replace SZ := Lib.hid (And.intro SZ.out zz)
  clear zz hb e1a_8 e1b_8 bx10_8 bx11_8 z0_8 zbx1_8
  clear hkx4
  go_wp2_with fail
  refine (IsModelFor_iL s1 _ m1 m1 x1 t2 _ m3 m3 x3 _ m4 m4 x4 w9 w9.heap.size (Ox1.out.rd.keep (Below.refl _ _) (by have := SZ.out; omega)) (Ox3.out.rd.keep (Below.refl _ _) (by have := SZ.out; omega)) (Ox4.out.rd.keep (Below.refl _ _) (by have := SZ.out; omega)) (Nat.le_refl _) (by omega) (by omega) (by omega) (by omega)).mono ?_
  rintro e w10 ⟨rfl, hb⟩
  have zz := hb.size
  have e1a_10 := up hb e1a_9 z0_9
  have e1b_10 := up hb e1b_9 z0_9
  have bx10_10 := up hb bx10_9 zbx1_9
  have bx11_10 := up hb bx11_9 zbx1_9
  have z0_10 := Nat.lt_of_lt_of_le z0_9 zz
  have zbx1_10 := Nat.lt_of_lt_of_le zbx1_9 zz
  replace Ox1 := Lib.hid (Ox1.out.keepB hb (by have := SZ.out; omega))
  replace Ox3 := Lib.hid (Ox3.out.keepB hb (by have := SZ.out; omega))
  replace Ox4 := Lib.hid (Ox4.out.keepB hb (by have := SZ.out; omega))
  replace HB := Lib.hid (HB.out.trans (hb.mono HB.out.size))
  replace SZ := Lib.hid (And.intro SZ.out zz)
  clear zz hb e1a_9 e1b_9 bx10_9 bx11_9 z0_9 zbx1_9
  have HK : Hid (∀ a b : World, (w.heap.size < a.heap.size ∧ Xx1 < a.heap.size ∧ a.cell? ⟨w.heap.size, 0, none⟩ = some (.int .i64 s1) ∧ a.cell? ⟨w.heap.size, 1, none⟩ = some (.slice A1 m1 c1) ∧ a.cell? ⟨Xx1, 0, none⟩ = some (.int .i64 s1) ∧ a.cell? ⟨Xx1, 1, none⟩ = some (.slice (some ⟨kx1, 0, none⟩) m1 m1)) → Below a.heap.size a b → (w.heap.size < b.heap.size ∧ Xx1 < b.heap.size ∧ b.cell? ⟨w.heap.size, 0, none⟩ = some (.int .i64 s1) ∧ b.cell? ⟨w.heap.size, 1, none⟩ = some (.slice A1 m1 c1) ∧ b.cell? ⟨Xx1, 0, none⟩ = some (.int .i64 s1) ∧ b.cell? ⟨Xx1, 1, none⟩ = some (.slice (some ⟨kx1, 0, none⟩) m1 m1))) := by
    rintro a b ⟨r0, r1, r2, r3, r4, r5⟩ hb
    have := hb.size
    exact ⟨by omega, by omega, up hb r2 (by omega), up hb r3 (by omega), up hb r4 (by omega), up hb r5 (by omega)⟩
  go_wp2_with fail
  have H10 : Hid (Below w.heap.size w w10.drew) := HB.out.drew
  go_region_held3 (fun a => w.heap.size < a.heap.size ∧ Xx1 < a.heap.size ∧ a.cell? ⟨w.heap.size, 0, none⟩ = some (.int .i64 s1) ∧ a.cell? ⟨w.heap.size, 1, none⟩ = some (.slice A1 m1 c1) ∧ a.cell? ⟨Xx1, 0, none⟩ = some (.int .i64 s1) ∧ a.cell? ⟨Xx1, 1, none⟩ = some (.slice (some ⟨kx1, 0, none⟩) m1 m1))
    (first | (refine ⟨?_, ?_, ?_, ?_, ?_, ?_⟩ <;> assumption) | exact HK.out _ _ (by assumption) hb12 | exact HK.out _ _ (by assumption) hb11)
    (first
      | (go_at_call 6; ((with_reducible refine (toGraph_any s1 A1 m1 c1 x1 _ _ (h1.keep H10.out (Nat.le_refl _)) H10.out.size (by omega)).mono ?_); rintro e w11 ⟨kt1, hkt1, rfl, hot1, hb11⟩; have H11 := Lib.hid (H10.out.trans (hb11.mono H10.out.size))))
      | (go_at_call 9; ((with_reducible refine (eqGraph_yes _ _ _ _ _ _ _ w11 w11.heap.size w11.heap.size ((Ox1.out.rd.keep (Below.drew (Below.refl _ w10)) (le_drew (by have := SZ.out; omega))).keep hb11 hb11.size) (hot1.rd) (Nat.le_refl _) (Nat.le_refl _) (by omega)).mono ?_); rintro e w12 ⟨rfl, hb12⟩; have H12 := Lib.hid (H11.out.trans (hb12.mono H11.out.size)))))
  clear H11
  clear H12
  clear HK H10
  replace hb11 := bd hb11
  have Ot1 := Lib.hid hot1
  clear hot1
  have zz := hb11.size
  have e1a_11 := up hb11 e1a_10 z0_10
  have e1b_11 := up hb11 e1b_10 z0_10
  have bx10_11 := up hb11 bx10_10 zbx1_10
  have bx11_11 := up hb11 bx11_10 zbx1_10
  have z0_11 := Nat.lt_of_lt_of_le z0_10 zz
  have zbx1_11 := Nat.lt_of_lt_of_le zbx1_10 zz
  replace Ox1 := Lib.hid (Ox1.out.keepB hb11 (by have := SZ.out; omega))
  replace Ox3 := Lib.hid (Ox3.out.keepB hb11 (by have := SZ.out; omega))
  replace Ox4 := Lib.hid (Ox4.out.keepB hb11 (by have := SZ.out; omega))
  replace HB := Lib.hid (HB.out.trans (hb11.mono HB.out.size))
  replace SZ := Lib.hid (And.intro SZ.out zz)
  clear zz hb11 e1a_10 e1b_10 bx10_10 bx11_10 z0_10 zbx1_10
  clear hkt1
  have zz := hb12.size
  have e1a_12 := up hb12 e1a_11 z0_11
  have e1b_12 := up hb12 e1b_11 z0_11
  have bx10_12 := up hb12 bx10_11 zbx1_11
  have bx11_12 := up hb12 bx11_11 zbx1_11
  have z0_12 := Nat.lt_of_lt_of_le z0_11 zz
  have zbx1_12 := Nat.lt_of_lt_of_le zbx1_11 zz
  replace Ox1 := Lib.hid (Ox1.out.keepB hb12 (by have := SZ.out; omega))
  replace Ox3 := Lib.hid (Ox3.out.keepB hb12 (by have := SZ.out; omega))
  replace Ox4 := Lib.hid (Ox4.out.keepB hb12 (by have := SZ.out; omega))
  replace Ot1 := Lib.hid (Ot1.out.keepB hb12 (by have := SZ.out; omega))
  replace HB := Lib.hid (HB.out.trans (hb12.mono HB.out.size))
  replace SZ := Lib.hid (And.intro SZ.out zz)
  clear zz hb12 e1a_11 e1b_11 bx10_11 bx11_11 z0_11 zbx1_11
  clear Ot1
  go_wp2_with fail
  refine (toIntS_any A3 m3 c3 x3 _ _ (h3.keep HB.out (Nat.le_refl _)) HB.out.size (by omega)).mono ?_
  rintro e w13 ⟨kt3, hkt3, rfl, hot3, hb⟩
  have Ot3 := Lib.hid hot3
  clear hot3
  have zz := hb.size
  have e1a_13 := up hb e1a_12 z0_12
  have e1b_13 := up hb e1b_12 z0_12
  have bx10_13 := up hb bx10_12 zbx1_12
  have bx11_13 := up hb bx11_12 zbx1_12
  have z0_13 := Nat.lt_of_lt_of_le z0_12 zz
  have zbx1_13 := Nat.lt_of_lt_of_le zbx1_12 zz
  replace Ox1 := Lib.hid (Ox1.out.keepB hb (by have := SZ.out; omega))
  replace Ox3 := Lib.hid (Ox3.out.keepB hb (by have := SZ.out; omega))
  replace Ox4 := Lib.hid (Ox4.out.keepB hb (by have := SZ.out; omega))
  replace HB := Lib.hid (HB.out.trans (hb.mono HB.out.size))
  replace SZ := Lib.hid (And.intro SZ.out zz)
  clear zz hb e1a_12 e1b_12 bx10_12 bx11_12 z0_12 zbx1_12
  clear hkt3
  go_wp2_with fail
  refine (eqIntS_yes _ _ _ _ _ _ w13 w13.heap.size w13.heap.size (Ox3.out.rd.keep (Below.refl _ _) (by have := SZ.out; omega)) (Ot3.out.rd.keep (Below.refl _ _) (by have := SZ.out; omega)) (Nat.le_refl _) (Nat.le_refl _) (by omega)).mono ?_
  rintro e w14 ⟨rfl, hb⟩
  have zz := hb.size
  have e1a_14 := up hb e1a_13 z0_13
  have e1b_14 := up hb e1b_13 z0_13
  have bx10_14 := up hb bx10_13 zbx1_13
  have bx11_14 := up hb bx11_13 zbx1_13
  have z0_14 := Nat.lt_of_lt_of_le z0_13 zz
  have zbx1_14 := Nat.lt_of_lt_of_le zbx1_13 zz
  replace Ox1 := Lib.hid (Ox1.out.keepB hb (by have := SZ.out; omega))
  replace Ox3 := Lib.hid (Ox3.out.keepB hb (by have := SZ.out; omega))
  replace Ox4 := Lib.hid (Ox4.out.keepB hb (by have := SZ.out; omega))
  replace Ot3 := Lib.hid (Ot3.out.keepB hb (by have := SZ.out; omega))
  replace HB := Lib.hid (HB.out.trans (hb.mono HB.out.size))
  replace SZ := Lib.hid (And.intro SZ.out zz)
  clear zz hb e1a_13 e1b_13 bx10_13 bx11_13 z0_13 zbx1_13
  clear Ot3
  go_wp2_with fail
  refine (toIntS_any A4 m4 c4 x4 _ _ (h4.keep HB.out (Nat.le_refl _)) HB.out.size (by omega)).mono ?_
  rintro e w15 ⟨kt4, hkt4, rfl, hot4, hb⟩
  have Ot4 := Lib.hid hot4
  clear hot4
  have zz := hb.size
  have e1a_15 := up hb e1a_14 z0_14
  have e1b_15 := up hb e1b_14 z0_14
  have bx10_15 := up hb bx10_14 zbx1_14
  have bx11_15 := up hb bx11_14 zbx1_14
  have z0_15 := Nat.lt_of_lt_of_le z0_14 zz
  have zbx1_15 := Nat.lt_of_lt_of_le zbx1_14 zz
  replace Ox1 := Lib.hid (Ox1.out.keepB hb (by have := SZ.out; omega))
  replace Ox3 := Lib.hid (Ox3.out.keepB hb (by have := SZ.out; omega))
  replace Ox4 := Lib.hid (Ox4.out.keepB hb (by have := SZ.out; omega))
  replace HB := Lib.hid (HB.out.trans (hb.mono HB.out.size))
  replace SZ := Lib.hid (And.intro SZ.out zz)
  clear zz hb e1a_14 e1b_14 bx10_14 bx11_14 z0_14 zbx1_14
  clear hkt4
  go_wp2_with fail
  refine (eqIntS_yes _ _ _ _ _ _ w15 w15.heap.size w15.heap.size (Ox4.out.rd.keep (Below.refl _ _) (by have := SZ.out; omega)) (Ot4.out.rd.keep (Below.refl _ _) (by have := SZ.out; omega)) (Nat.le_refl _) (Nat.le_refl _) (by omega)).mono ?_
  rintro e w16 ⟨rfl, hb⟩
  have zz := hb.size
  have e1a_16 := up hb e1a_15 z0_15
  have e1b_16 := up hb e1b_15 z0_15
  have bx10_16 := up hb bx10_15 zbx1_15
  have bx11_16 := up hb bx11_15 zbx1_15
  have z0_16 := Nat.lt_of_lt_of_le z0_15 zz
  have zbx1_16 := Nat.lt_of_lt_of_le zbx1_15 zz
  replace Ox1 := Lib.hid (Ox1.out.keepB hb (by have := SZ.out; omega))
  replace Ox3 := Lib.hid (Ox3.out.keepB hb (by have := SZ.out; omega))
  replace Ox4 := Lib.hid (Ox4.out.keepB hb (by have := SZ.out; omega))
  replace Ot4 := Lib.hid (Ot4.out.keepB hb (by have := SZ.out; omega))
  replace HB := Lib.hid (HB.out.trans (hb.mono HB.out.size))
  replace SZ := Lib.hid (And.intro SZ.out zz)
  clear zz hb e1a_15 e1b_15 bx10_15 bx11_15 z0_15 zbx1_15
  clear Ot4
  go_wp2
  go_ret
  exact ⟨rfl, HB.out⟩

set_option maxRecDepth 100000 in
theorem lifted (os : Os) (started : os.Started) (H : Type) (enc : TypeId × Value → H) :
    ReturnsInHanded {} Try.checked os 3 .any (Rows.fnExactIsModelForSpec.pre6 enc Try.prog Try.f3 Rows.fnExactIsModelForRow.domain false) (Rows.fnExactIsModelForSpec.post enc Try.prog Try.f3 false true false false) := by
  refine returnsInHanded_of_change (C := Try.checked) own started (by kernel_rfl) Try.func3
    (ChangeSpec.witness6 (enc := enc) (C := Try.checked) false ⟨#[], #[.agg #[.int .i64 0, .slice none 0 0], .string ⟨#[]⟩, .slice none 0 0, .slice none 0 0], []⟩ 8 (by kernel_rfl) (by kernel_rfl) (by kernel_rfl) (by kernel_rfl)) ?_
  intro W base args ds gs before hval0 hW hcnd _
  have hval : ∀ (j : Nat) t v, Try.f3.params[j]? = some t → args[j]? = some v → Value.okWide Try.prog W .any base t v := hval0
  have hW' := hW
  obtain ⟨p, q, hA0, hV, rfl, hfz, hnd⟩ := hW
  have hA : DataW.TrodAll enc Try.prog W 0 (fun _ => true) true Try.f3.params.toList args.toList ds p := hA0
  rw [Try.params3] at hA hval
  obtain ⟨v0, vs0, d0, ds0, p0, q0, hargs, rfl, rfl, l0, r0⟩ := trodAll_cons hA
  obtain ⟨v1, vs1, d1, ds1, p1, q1, rfl, rfl, rfl, l1, r1⟩ := trodAll_cons r0
  obtain ⟨v2, vs2, d2, ds2, p2, q2, rfl, rfl, rfl, l2, r2⟩ := trodAll_cons r1
  obtain ⟨v3, vs3, d3, ds3, p3, q3, rfl, rfl, rfl, l3, r3⟩ := trodAll_cons r2
  obtain ⟨rfl, rfl, rfl⟩ := trodAll_nil r3
  obtain rfl : args = #[v0, v1, v2, v3] := by cases args; simp_all
  obtain ⟨rfl, rfl⟩ := trodVars_none hV
  have lt0 := places_lt l0
  obtain ⟨s1, A1, m1, c1, x1, rfl, h1, n1⟩ := open_graph (hval 0 24 v0 rfl rfl) l0
  have lt1 := places_lt l1
  obtain ⟨t2, rfl, n2⟩ := open_string_arg (hval 1 9 v1 rfl rfl) l1
  have lt2 := places_lt l2
  obtain ⟨A3, m3, c3, x3, rfl, h3, n3⟩ := open_slice_int (hval 2 22 v2 rfl rfl) l2
  have lt3 := places_lt l3
  obtain ⟨A4, m4, c4, x4, rfl, h4, n4⟩ := open_slice_int (hval 3 22 v3 rfl rfl) l3
  clear hA0 hval0
  refine (walk s1 A1 m1 c1 x1 t2 A3 m3 c3 x3 A4 m4 c4 x4 W h1 n1 n2 h3 n3 h4 n4).mono fun e W' ⟨he, bel⟩ => ?_
  subst he
  exact ⟨_, rfl, _, _, _, [], _, [], hW', trodAll_mk1 (shut_bool Try.underlying4 _), (trodAll_cons_mk (Below.trod laidOut (by kernel_rfl) (of_decide_eq_true (by kernel_rfl)) l0 bel lt0) (trodAll_cons_mk (Below.trod laidOut (by kernel_rfl) (of_decide_eq_true (by kernel_rfl)) l1 bel lt1) (trodAll_cons_mk (Below.trod laidOut (by kernel_rfl) (of_decide_eq_true (by kernel_rfl)) l2 bel lt2) (trodAll_cons_mk (Below.trod laidOut (by kernel_rfl) (of_decide_eq_true (by kernel_rfl)) l3 bel lt3) trodAll_mk0)))), rfl, bel.frame _, fun h => by cases h⟩

theorem over : Rows.fnExactIsModelForRow.holds Try.pinned (OpenSpec.ofChange Rows.fnExactIsModelForSpec) :=
  OpenClaim.holds_of_wide 3 Try.f3 rfl rfl rfl rfl rfl rfl rfl ⟨rfl, rfl, rfl, rfl, rfl⟩ rfl rfl rfl rfl rfl (by kernel_rfl) Try.func3 (by kernel_rfl)
    (of_decide_eq_true (by kernel_rfl)) (by unfold Func.isWrapper; first | (rw [if_pos (by decide +kernel)]; kernel_rfl) | (rw [if_neg (by decide +kernel)]; exact ⟨rfl, rfl⟩))
    (fun os started H enc _ => lifted os started H enc)

/-- The statement. -/
theorem proved : Rows.FnExactIsModelForSaid := over
#print axioms proved
end Go.Proofs.Ytmkahbephidmbaa.fnExactIsModelFor
