/-
  The program's ObstacleFor answers as the reference's at every input: the law FnExactObstacleFor answers true.
  No condition.
-/
import Derived.Test.YtdpkbfiggbcclaaGreatQjGreat
import Derived.Test.YtdpkbfiggbcclaaGreatQjOpen4
import Derived.Test.YtdpkbfiggbcclaaGreatQjGA
import Derived.Test.YtdpkbfiggbcclaaGreatQjGL
import Derived.Deep.RegionHeld3
namespace Go.Proofs.YtdpkbfiggbcclaaGreat.fnExactObstacleFor
open Go.ChangeShapes Go.WideShapes Go.ChangeAt Go.RowKit

theorem le_drew {a : Nat} {w : World} (h : a ≤ w.heap.size) : a ≤ w.drew.heap.size := h
set_option maxRecDepth 100000 in
set_option maxHeartbeats 1600000 in
theorem walk (s1 : Int) (A1 : Option Addr) (m1 : Nat) (c1 : Nat) (x1 : Nat → Int) (t2 : ByteArray) (w : World) (h1 : Rd w w.heap.size A1 m1 c1 x1) (n1 : m1 ≤ maxLen) (n2 : t2.size ≤ maxLen) :
    Calls Tryz.prog 6 #[.agg #[.int .i64 s1, .slice A1 m1 c1], .string t2] w fun e w' => e = .returned (.bool true) ∧ Below w.heap.size w w' := by
  obtain ⟨w0, hW⟩ : ∃ W : World, W = (w.alloc (Obj.cells #[.int .i64 s1, .slice A1 m1 c1] 24)) := ⟨_, rfl⟩
  have HB : Hid (Below w.heap.size w w0) := by rw [hW]; exact ((Below.refl _ _).alloc (by simp) _)
  have z0_0 : w.heap.size < w0.heap.size := by rw [hW]; simp <;> omega
  have e1a_0 : w0.cell? ⟨w.heap.size, 0, none⟩ = some (.int .i64 s1) := by rw [hW]; simp [go_sem]
  have e1b_0 : w0.cell? ⟨w.heap.size, 1, none⟩ = some (.slice A1 m1 c1) := by rw [hW]; simp [go_sem]
  have SZ : Hid (w.heap.size + 1 ≤ w0.heap.size) := by rw [hW]; simp [Hid]
  have HW := Lib.hid hW
  clear hW
  go_enter Tryz.func6, Tryz.ntmps6
  unfold maxLen at n2
  by_cases p2 : (1048576 : Int) < t2.size
  · go_wp2
    go_ret
    exact ⟨rfl, by rw [← HW.out]; exact HB.out⟩
  go_wp2_with fail
  rw [← HW.out]
  clear HW
  refine (szGraph_any s1 A1 m1 c1 ((1048576 : Int)) w0 n1 (by omega) (by omega)).mono ?_
  rintro e w1 ⟨rfl, hb⟩
  have zz := hb.size
  have e1a_1 := up hb e1a_0 z0_0
  have e1b_1 := up hb e1b_0 z0_0
  have z0_1 := Nat.lt_of_lt_of_le z0_0 zz
  replace HB := Lib.hid (HB.out.trans (hb.mono HB.out.size))
  replace SZ := Lib.hid (And.intro SZ.out zz)
  clear zz hb e1a_0 e1b_0 z0_0
  by_cases p1 : (1048576 : Int) < m1
  · have q1 : szl ((1048576 : Int)) m1 < 0 := by unfold szl; rw [if_pos p1]; omega
    clear p1
    go_wp2
    go_ret
    exact ⟨rfl, HB.out⟩
  have q1 : szl ((1048576 : Int)) m1 = (1048576 : Int) - m1 := by unfold szl; rw [if_neg p1]
  rw [q1]
  clear q1 n1
  go_wp2_with fail
  refine (toGraph_any s1 A1 m1 c1 x1 _ _ (h1.keep HB.out (Nat.le_refl _)) HB.out.size (by omega)).mono ?_
  rintro e w2 ⟨ky1, hky1, rfl, hoy1, hb⟩
  have Oy1 := Lib.hid hoy1
  clear hoy1
  have zz := hb.size
  have e1a_2 := up hb e1a_1 z0_1
  have e1b_2 := up hb e1b_1 z0_1
  have z0_2 := Nat.lt_of_lt_of_le z0_1 zz
  replace HB := Lib.hid (HB.out.trans (hb.mono HB.out.size))
  replace SZ := Lib.hid (And.intro SZ.out zz)
  clear zz hb e1a_1 e1b_1 z0_1
  clear hky1
  go_wp2_with fail
  refine (ObstacleFor_sL s1 _ m1 m1 x1 t2 w2 w2.heap.size (Oy1.out.rd.keep (Below.refl _ _) (by have := SZ.out; omega)) (Nat.le_refl _) (by omega) (by omega)).mono ?_
  rintro e w3 ⟨Aw0, cw0, rfl, how0, hb⟩
  have Ow0 := Lib.hid how0
  clear how0
  have zz := hb.size
  have e1a_3 := up hb e1a_2 z0_2
  have e1b_3 := up hb e1b_2 z0_2
  have z0_3 := Nat.lt_of_lt_of_le z0_2 zz
  replace Oy1 := Lib.hid (Oy1.out.keepB hb (by have := SZ.out; omega))
  replace HB := Lib.hid (HB.out.trans (hb.mono HB.out.size))
  replace SZ := Lib.hid (And.intro SZ.out zz)
  clear zz hb e1a_2 e1b_2 z0_2
  clear Oy1
  go_wp2_with fail
  refine (toGraph_any s1 A1 m1 c1 x1 _ _ (h1.keep HB.out (Nat.le_refl _)) HB.out.size (by omega)).mono ?_
  rintro e w4 ⟨kx1, hkx1, rfl, hox1, hb⟩
  have Ox1 := Lib.hid hox1
  clear hox1
  have zz := hb.size
  have e1a_4 := up hb e1a_3 z0_3
  have e1b_4 := up hb e1b_3 z0_3
  have z0_4 := Nat.lt_of_lt_of_le z0_3 zz
  replace Ow0 := Lib.hid (Ow0.out.keepB hb (by have := SZ.out; omega))
  replace HB := Lib.hid (HB.out.trans (hb.mono HB.out.size))
  replace SZ := Lib.hid (And.intro SZ.out zz)
  clear zz hb e1a_3 e1b_3 z0_3
  clear hkx1
  obtain ⟨w5, hW⟩ : ∃ W : World, W = w4.alloc (Obj.cells #[.int .i64 s1, .slice (some ⟨kx1, 0, none⟩) m1 m1] 28) := ⟨_, rfl⟩
  obtain ⟨Xx1, hX⟩ : ∃ X : Nat, X = w4.heap.size := ⟨_, rfl⟩
  have hb : Below w4.heap.size w4 w5 := by rw [hW]; exact (Below.refl _ _).alloc (Nat.le_refl _) _
  have y0 : w5.cell? ⟨Xx1, 0, none⟩ = some (.int .i64 s1) := by rw [hW, hX]; simp [go_sem]
  have y1 : w5.cell? ⟨Xx1, 1, none⟩ = some (.slice (some ⟨kx1, 0, none⟩) m1 m1) := by rw [hW, hX]; simp [go_sem]
  have yz : Xx1 < w5.heap.size := by rw [hW, hX]; simp
  have ys : w4.heap.size ≤ Xx1 := by rw [hX]; exact Nat.le_refl _
  have HWx := Lib.hid hW
  have HX := Lib.hid hX
  clear hW hX
  have zz := hb.size
  have e1a_5 := up hb e1a_4 z0_4
  have e1b_5 := up hb e1b_4 z0_4
  have z0_5 := Nat.lt_of_lt_of_le z0_4 zz
  replace Ow0 := Lib.hid (Ow0.out.keepB hb (by have := SZ.out; omega))
  replace Ox1 := Lib.hid (Ox1.out.keepB hb (by have := SZ.out; omega))
  replace HB := Lib.hid (HB.out.trans (hb.mono HB.out.size))
  replace SZ := Lib.hid (And.intro SZ.out zz)
  clear zz hb 
  replace SZ := Lib.hid (And.intro SZ.out (And.intro ys yz))
  clear ys
  have bx10_5 := y0
  clear y0
  have bx11_5 := y1
  clear y1
  have zbx1_5 := yz
  clear yz
  go_wp2_with fail
  rw [← HWx.out, ← HX.out]
  clear HWx HX e1a_4 e1b_4 z0_4
  go_wp2_with fail
  refine (ObstacleFor_iL s1 _ m1 m1 x1 t2 w5 w5.heap.size (Ox1.out.rd.keep (Below.refl _ _) (by have := SZ.out; omega)) (Nat.le_refl _) (by omega) (by omega)).mono ?_
  rintro e w6 ⟨Ag0, cg0, rfl, hog0, hb⟩
  have Og0 := Lib.hid hog0
  clear hog0
  have zz := hb.size
  have e1a_6 := up hb e1a_5 z0_5
  have e1b_6 := up hb e1b_5 z0_5
  have bx10_6 := up hb bx10_5 zbx1_5
  have bx11_6 := up hb bx11_5 zbx1_5
  have z0_6 := Nat.lt_of_lt_of_le z0_5 zz
  have zbx1_6 := Nat.lt_of_lt_of_le zbx1_5 zz
  replace Ow0 := Lib.hid (Ow0.out.keepB hb (by have := SZ.out; omega))
  replace Ox1 := Lib.hid (Ox1.out.keepB hb (by have := SZ.out; omega))
  replace HB := Lib.hid (HB.out.trans (hb.mono HB.out.size))
  replace SZ := Lib.hid (And.intro SZ.out zz)
  clear zz hb e1a_5 e1b_5 bx10_5 bx11_5 z0_5 zbx1_5
  go_wp2_with fail
  refine (eqIntS_yes _ _ _ _ _ _ w6 w6.heap.size w6.heap.size (Og0.out.rd.keep (Below.refl _ _) (by have := SZ.out; omega)) (Ow0.out.rd.keep (Below.refl _ _) (by have := SZ.out; omega)) (Nat.le_refl _) (Nat.le_refl _) (Nat.le_trans (obO_len _ _ _ _) (by omega))).mono ?_
  rintro e w7 ⟨rfl, hb⟩
  have zz := hb.size
  have e1a_7 := up hb e1a_6 z0_6
  have e1b_7 := up hb e1b_6 z0_6
  have bx10_7 := up hb bx10_6 zbx1_6
  have bx11_7 := up hb bx11_6 zbx1_6
  have z0_7 := Nat.lt_of_lt_of_le z0_6 zz
  have zbx1_7 := Nat.lt_of_lt_of_le zbx1_6 zz
  replace Ow0 := Lib.hid (Ow0.out.keepB hb (by have := SZ.out; omega))
  replace Ox1 := Lib.hid (Ox1.out.keepB hb (by have := SZ.out; omega))
  replace Og0 := Lib.hid (Og0.out.keepB hb (by have := SZ.out; omega))
  replace HB := Lib.hid (HB.out.trans (hb.mono HB.out.size))
  replace SZ := Lib.hid (And.intro SZ.out zz)
  clear zz hb e1a_6 e1b_6 bx10_6 bx11_6 z0_6 zbx1_6
  have HK : Hid (∀ a b : World, (w.heap.size < a.heap.size ∧ Xx1 < a.heap.size ∧ a.cell? ⟨w.heap.size, 0, none⟩ = some (.int .i64 s1) ∧ a.cell? ⟨w.heap.size, 1, none⟩ = some (.slice A1 m1 c1) ∧ a.cell? ⟨Xx1, 0, none⟩ = some (.int .i64 s1) ∧ a.cell? ⟨Xx1, 1, none⟩ = some (.slice (some ⟨kx1, 0, none⟩) m1 m1)) → Below a.heap.size a b → (w.heap.size < b.heap.size ∧ Xx1 < b.heap.size ∧ b.cell? ⟨w.heap.size, 0, none⟩ = some (.int .i64 s1) ∧ b.cell? ⟨w.heap.size, 1, none⟩ = some (.slice A1 m1 c1) ∧ b.cell? ⟨Xx1, 0, none⟩ = some (.int .i64 s1) ∧ b.cell? ⟨Xx1, 1, none⟩ = some (.slice (some ⟨kx1, 0, none⟩) m1 m1))) := by
    rintro a b ⟨r0, r1, r2, r3, r4, r5⟩ hb
    have := hb.size
    exact ⟨by omega, by omega, up hb r2 (by omega), up hb r3 (by omega), up hb r4 (by omega), up hb r5 (by omega)⟩
  go_wp2_with fail
  have H7 : Hid (Below w.heap.size w w7.drew) := HB.out.drew
  go_region_held3 (fun a => w.heap.size < a.heap.size ∧ Xx1 < a.heap.size ∧ a.cell? ⟨w.heap.size, 0, none⟩ = some (.int .i64 s1) ∧ a.cell? ⟨w.heap.size, 1, none⟩ = some (.slice A1 m1 c1) ∧ a.cell? ⟨Xx1, 0, none⟩ = some (.int .i64 s1) ∧ a.cell? ⟨Xx1, 1, none⟩ = some (.slice (some ⟨kx1, 0, none⟩) m1 m1))
    (first | (refine ⟨?_, ?_, ?_, ?_, ?_, ?_⟩ <;> assumption) | exact HK.out _ _ (by assumption) hb9 | exact HK.out _ _ (by assumption) hb8)
    (first
      | (go_at_call 13; ((with_reducible refine (toGraph_any s1 A1 m1 c1 x1 _ _ (h1.keep H7.out (Nat.le_refl _)) H7.out.size (by omega)).mono ?_); rintro e w8 ⟨kt1, hkt1, rfl, hot1, hb8⟩; have H8 := Lib.hid (H7.out.trans (hb8.mono H7.out.size))))
      | (go_at_call 16; ((with_reducible refine (eqGraph_yes _ _ _ _ _ _ _ w8 w8.heap.size w8.heap.size ((Ox1.out.rd.keep (Below.drew (Below.refl _ w7)) (le_drew (by have := SZ.out; omega))).keep hb8 hb8.size) (hot1.rd) (Nat.le_refl _) (Nat.le_refl _) (by omega)).mono ?_); rintro e w9 ⟨rfl, hb9⟩; have H9 := Lib.hid (H8.out.trans (hb9.mono H8.out.size)))))
  clear H8
  clear H9
  clear HK H7
  replace hb8 := bd hb8
  have Ot1 := Lib.hid hot1
  clear hot1
  have zz := hb8.size
  have e1a_8 := up hb8 e1a_7 z0_7
  have e1b_8 := up hb8 e1b_7 z0_7
  have bx10_8 := up hb8 bx10_7 zbx1_7
  have bx11_8 := up hb8 bx11_7 zbx1_7
  have z0_8 := Nat.lt_of_lt_of_le z0_7 zz
  have zbx1_8 := Nat.lt_of_lt_of_le zbx1_7 zz
  replace Ow0 := Lib.hid (Ow0.out.keepB hb8 (by have := SZ.out; omega))
  replace Ox1 := Lib.hid (Ox1.out.keepB hb8 (by have := SZ.out; omega))
  replace Og0 := Lib.hid (Og0.out.keepB hb8 (by have := SZ.out; omega))
  replace HB := Lib.hid (HB.out.trans (hb8.mono HB.out.size))
  replace SZ := Lib.hid (And.intro SZ.out zz)
  clear zz hb8 e1a_7 e1b_7 bx10_7 bx11_7 z0_7 zbx1_7
  clear hkt1
  have zz := hb9.size
  have e1a_9 := up hb9 e1a_8 z0_8
  have e1b_9 := up hb9 e1b_8 z0_8
  have bx10_9 := up hb9 bx10_8 zbx1_8
  have bx11_9 := up hb9 bx11_8 zbx1_8
  have z0_9 := Nat.lt_of_lt_of_le z0_8 zz
  have zbx1_9 := Nat.lt_of_lt_of_le zbx1_8 zz
  replace Ow0 := Lib.hid (Ow0.out.keepB hb9 (by have := SZ.out; omega))
  replace Ox1 := Lib.hid (Ox1.out.keepB hb9 (by have := SZ.out; omega))
  replace Og0 := Lib.hid (Og0.out.keepB hb9 (by have := SZ.out; omega))
  replace Ot1 := Lib.hid (Ot1.out.keepB hb9 (by have := SZ.out; omega))
  replace HB := Lib.hid (HB.out.trans (hb9.mono HB.out.size))
  replace SZ := Lib.hid (And.intro SZ.out zz)
  clear zz hb9 e1a_8 e1b_8 bx10_8 bx11_8 z0_8 zbx1_8
  clear Ot1
  go_wp2_with fail
  refine (markGraph_any _ _ _ _ _ (1 : Int) w9 _ _ Ox1.out (by omega) (by omega) (by omega) (by have := SZ.out; omega)).mono ?_
  rintro e w10 ⟨rfl, ho, hf⟩
  replace Ox1 := Lib.hid (Own.marked ho)
  clear ho
  have zz := hf.size
  have e1a_10 := upFr hf e1a_9 z0_9 (by have := SZ.out; omega)
  have e1b_10 := upFr hf e1b_9 z0_9 (by have := SZ.out; omega)
  have bx10_10 := upFr hf bx10_9 zbx1_9 (by have := SZ.out; omega)
  have bx11_10 := upFr hf bx11_9 zbx1_9 (by have := SZ.out; omega)
  have z0_10 := Nat.lt_of_lt_of_le z0_9 zz
  have zbx1_10 := Nat.lt_of_lt_of_le zbx1_9 zz
  replace Ow0 := Lib.hid (Ow0.out.keep hf (by have := SZ.out; omega))
  replace Og0 := Lib.hid (Og0.out.keep hf (by have := SZ.out; omega))
  replace HB := Lib.hid (HB.out.trans (hf.below (by have := SZ.out; have := HB.out.size; omega) HB.out.size))
  replace SZ := Lib.hid (And.intro SZ.out zz)
  clear zz hf e1a_9 e1b_9 bx10_9 bx11_9 z0_9 zbx1_9
  clear Ox1
  go_wp2_with fail
  refine (eqIntS_yes _ _ _ _ _ _ w10 w10.heap.size w10.heap.size (Og0.out.rd.keep (Below.refl _ _) (by have := SZ.out; omega)) (Ow0.out.rd.keep (Below.refl _ _) (by have := SZ.out; omega)) (Nat.le_refl _) (Nat.le_refl _) (Nat.le_trans (obO_len _ _ _ _) (by omega))).mono ?_
  rintro e w11 ⟨rfl, hb⟩
  have zz := hb.size
  have e1a_11 := up hb e1a_10 z0_10
  have e1b_11 := up hb e1b_10 z0_10
  have bx10_11 := up hb bx10_10 zbx1_10
  have bx11_11 := up hb bx11_10 zbx1_10
  have z0_11 := Nat.lt_of_lt_of_le z0_10 zz
  have zbx1_11 := Nat.lt_of_lt_of_le zbx1_10 zz
  replace Ow0 := Lib.hid (Ow0.out.keepB hb (by have := SZ.out; omega))
  replace Og0 := Lib.hid (Og0.out.keepB hb (by have := SZ.out; omega))
  replace HB := Lib.hid (HB.out.trans (hb.mono HB.out.size))
  replace SZ := Lib.hid (And.intro SZ.out zz)
  clear zz hb e1a_10 e1b_10 bx10_10 bx11_10 z0_10 zbx1_10
  go_wp2_with fail
  refine (markIntS_any _ _ _ _ (1 : Int) w11 _ _ Og0.out (Nat.le_trans (obO_len _ _ _ _) (by omega)) (by omega) (by omega)).mono ?_
  rintro e w12 ⟨rfl, ho, hf⟩
  replace Og0 := Lib.hid (Own.marked ho)
  clear ho
  have zz := hf.size
  have e1a_12 := upFr hf e1a_11 z0_11 (by have := SZ.out; omega)
  have e1b_12 := upFr hf e1b_11 z0_11 (by have := SZ.out; omega)
  have bx10_12 := upFr hf bx10_11 zbx1_11 (by have := SZ.out; omega)
  have bx11_12 := upFr hf bx11_11 zbx1_11 (by have := SZ.out; omega)
  have z0_12 := Nat.lt_of_lt_of_le z0_11 zz
  have zbx1_12 := Nat.lt_of_lt_of_le zbx1_11 zz
  replace Ow0 := Lib.hid (Ow0.out.keep hf (by have := SZ.out; omega))
  replace HB := Lib.hid (HB.out.trans (hf.below (by have := SZ.out; have := HB.out.size; omega) HB.out.size))
  replace SZ := Lib.hid (And.intro SZ.out zz)
  clear zz hf e1a_11 e1b_11 bx10_11 bx11_11 z0_11 zbx1_11
  go_wp2_with fail
  refine (heldIntS_yes _ _ _ (1 : Int) w12 _ Og0.out.rd (Nat.le_trans (obO_len _ _ _ _) (by omega)) (by omega) (by omega)).mono ?_
  rintro e w' ⟨rfl, rfl⟩
  go_wp2_with fail
  refine (toGraph_any s1 A1 m1 c1 x1 _ _ (h1.keep HB.out (Nat.le_refl _)) HB.out.size (by omega)).mono ?_
  rintro e w13 ⟨ky1, hky1, rfl, hoy1, hb⟩
  have Oy1 := Lib.hid hoy1
  clear hoy1
  have zz := hb.size
  have e1a_13 := up hb e1a_12 z0_12
  have e1b_13 := up hb e1b_12 z0_12
  have bx10_13 := up hb bx10_12 zbx1_12
  have bx11_13 := up hb bx11_12 zbx1_12
  have z0_13 := Nat.lt_of_lt_of_le z0_12 zz
  have zbx1_13 := Nat.lt_of_lt_of_le zbx1_12 zz
  replace Ow0 := Lib.hid (Ow0.out.keepB hb (by have := SZ.out; omega))
  replace Og0 := Lib.hid (Og0.out.keepB hb (by have := SZ.out; omega))
  replace HB := Lib.hid (HB.out.trans (hb.mono HB.out.size))
  replace SZ := Lib.hid (And.intro SZ.out zz)
  clear zz hb e1a_12 e1b_12 bx10_12 bx11_12 z0_12 zbx1_12
  clear hky1
  go_wp2_with fail
  refine (ObstacleFor_iL s1 _ m1 m1 x1 t2 w13 w13.heap.size (Oy1.out.rd.keep (Below.refl _ _) (by have := SZ.out; omega)) (Nat.le_refl _) (by omega) (by omega)).mono ?_
  rintro e w14 ⟨Ah0, ch0, rfl, hoh0, hb⟩
  have Oh0 := Lib.hid hoh0
  clear hoh0
  have zz := hb.size
  have e1a_14 := up hb e1a_13 z0_13
  have e1b_14 := up hb e1b_13 z0_13
  have bx10_14 := up hb bx10_13 zbx1_13
  have bx11_14 := up hb bx11_13 zbx1_13
  have z0_14 := Nat.lt_of_lt_of_le z0_13 zz
  have zbx1_14 := Nat.lt_of_lt_of_le zbx1_13 zz
  replace Ow0 := Lib.hid (Ow0.out.keepB hb (by have := SZ.out; omega))
  replace Og0 := Lib.hid (Og0.out.keepB hb (by have := SZ.out; omega))
  replace Oy1 := Lib.hid (Oy1.out.keepB hb (by have := SZ.out; omega))
  replace HB := Lib.hid (HB.out.trans (hb.mono HB.out.size))
  replace SZ := Lib.hid (And.intro SZ.out zz)
  clear zz hb e1a_13 e1b_13 bx10_13 bx11_13 z0_13 zbx1_13
  clear Oy1
  go_wp2_with fail
  refine (eqIntS_yes _ _ _ _ _ _ w14 w14.heap.size w14.heap.size (Oh0.out.rd.keep (Below.refl _ _) (by have := SZ.out; omega)) (Ow0.out.rd.keep (Below.refl _ _) (by have := SZ.out; omega)) (Nat.le_refl _) (Nat.le_refl _) (Nat.le_trans (obO_len _ _ _ _) (by omega))).mono ?_
  rintro e w15 ⟨rfl, hb⟩
  have zz := hb.size
  have e1a_15 := up hb e1a_14 z0_14
  have e1b_15 := up hb e1b_14 z0_14
  have bx10_15 := up hb bx10_14 zbx1_14
  have bx11_15 := up hb bx11_14 zbx1_14
  have z0_15 := Nat.lt_of_lt_of_le z0_14 zz
  have zbx1_15 := Nat.lt_of_lt_of_le zbx1_14 zz
  replace Ow0 := Lib.hid (Ow0.out.keepB hb (by have := SZ.out; omega))
  replace Og0 := Lib.hid (Og0.out.keepB hb (by have := SZ.out; omega))
  replace Oh0 := Lib.hid (Oh0.out.keepB hb (by have := SZ.out; omega))
  replace HB := Lib.hid (HB.out.trans (hb.mono HB.out.size))
  replace SZ := Lib.hid (And.intro SZ.out zz)
  clear zz hb e1a_14 e1b_14 bx10_14 bx11_14 z0_14 zbx1_14
  go_wp2_with fail
  refine (heldIntS_yes _ _ _ (1 : Int) w15 _ Og0.out.rd (Nat.le_trans (obO_len _ _ _ _) (by omega)) (by omega) (by omega)).mono ?_
  rintro e w' ⟨rfl, rfl⟩
  go_wp2
  go_ret
  exact ⟨rfl, HB.out⟩

set_option maxRecDepth 100000 in
theorem lifted (os : Os) (started : os.Started) (H : Type) (enc : TypeId × Value → H) :
    ReturnsInHanded {} Tryz.checked os 6 .any (Rows.fnExactObstacleForSpec.pre6 enc Tryz.prog Tryz.f6 Rows.fnExactObstacleForRow.domain false) (Rows.fnExactObstacleForSpec.post enc Tryz.prog Tryz.f6 false true false false) := by
  refine returnsInHanded_of_change (C := Tryz.checked) own started (by kernel_rfl) Tryz.func6
    (ChangeSpec.witness6 (enc := enc) (C := Tryz.checked) false ⟨#[], #[.agg #[.int .i64 0, .slice none 0 0], .string ⟨#[]⟩], []⟩ 8 (by kernel_rfl) (by kernel_rfl) (by kernel_rfl) (by kernel_rfl)) ?_
  intro W base args ds gs before hval0 hW hcnd _
  have hval : ∀ (j : Nat) t v, Tryz.f6.params[j]? = some t → args[j]? = some v → Value.okWide Tryz.prog W .any base t v := hval0
  have hW' := hW
  obtain ⟨p, q, hA0, hV, rfl, hfz, hnd⟩ := hW
  have hA : DataW.TrodAll enc Tryz.prog W 0 (fun _ => true) true Tryz.f6.params.toList args.toList ds p := hA0
  rw [Tryz.params6] at hA hval
  obtain ⟨fv0, vs0, d0, ds0, p0, q0, hargs, rfl, rfl, l0, r0⟩ := trodAll_cons hA
  obtain ⟨fv1, vs1, d1, ds1, p1, q1, rfl, rfl, rfl, l1, r1⟩ := trodAll_cons r0
  obtain ⟨rfl, rfl, rfl⟩ := trodAll_nil r1
  obtain rfl : args = #[fv0, fv1] := by cases args; simp_all
  obtain ⟨rfl, rfl⟩ := trodVars_none hV
  have lt0 := places_lt l0
  obtain ⟨s1, A1, m1, c1, x1, rfl, h1, n1⟩ := open_graph (hval 0 24 fv0 rfl rfl) l0
  have lt1 := places_lt l1
  obtain ⟨t2, rfl, n2⟩ := open_string_arg (hval 1 9 fv1 rfl rfl) l1
  clear hA0 hval0
  refine (walk s1 A1 m1 c1 x1 t2 W h1 n1 n2).mono fun e W' ⟨he, bel⟩ => ?_
  subst he
  exact ⟨_, rfl, _, _, _, [], _, [], hW', trodAll_mk1 (shut_bool Tryz.underlying4 _), (trodAll_cons_mk (Below.trod laidOut (by kernel_rfl) (of_decide_eq_true (by kernel_rfl)) l0 bel lt0) (trodAll_cons_mk (Below.trod laidOut (by kernel_rfl) (of_decide_eq_true (by kernel_rfl)) l1 bel lt1) trodAll_mk0)), rfl, bel.frame _, fun h => by cases h⟩

theorem unf : Tryz.pinned.checked.prog.unfollowed 6 = true := unfollowed_of (closure_step (closure_step (closure_step closure_self (h := 30) (by kernel_rfl)) (h := 107) (by kernel_rfl)) (h := 215) (by kernel_rfl)) (by kernel_rfl)
theorem closed : joinedFacts Tryz.pinned.checked.prog 6 Tryz.f6 Rows.fnExactObstacleForSpec Rows.fnExactObstacleForRow = true := by
  unfold joinedFacts
  rw [inPlace_none (f := 6) all_own (by decide) (by decide), varsNamed_none (f := 6) all_own (by decide) (by decide), recurses_of unf, unf]
  kernel_rfl
theorem over : Rows.fnExactObstacleForRow.holds Tryz.pinned (OpenSpec.ofChange Rows.fnExactObstacleForSpec) :=
  OpenClaim.holds_of_wide 6 Tryz.f6 rfl rfl rfl rfl rfl rfl rfl ⟨rfl, rfl, rfl, rfl, rfl⟩ rfl rfl rfl rfl rfl (by kernel_rfl) Tryz.func6 closed
    (of_decide_eq_true (by kernel_rfl)) (by unfold Func.isWrapper; first | (rw [if_pos (by decide +kernel)]; kernel_rfl) | (rw [if_neg (by decide +kernel)]; exact ⟨rfl, rfl⟩))
    (fun os started H enc _ => lifted os started H enc)

/-- The statement. -/
theorem proved : Rows.FnExactObstacleForSaid := over
#print axioms proved
end Go.Proofs.YtdpkbfiggbcclaaGreat.fnExactObstacleFor
