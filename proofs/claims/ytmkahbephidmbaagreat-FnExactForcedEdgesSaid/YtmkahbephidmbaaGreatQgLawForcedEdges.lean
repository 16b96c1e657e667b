/-
  The program's ForcedEdges answers as the reference's at every input: the law FnExactForcedEdges answers true.
  No condition.
-/
import Derived.Test.YtmkahbephidmbaaGreatQgGreat
import Derived.Test.YtmkahbephidmbaaGreatQgOpen4
import Derived.Test.YtmkahbephidmbaaGreatQgGB
import Derived.Test.YtmkahbephidmbaaGreatQgGA
import Derived.Test.YtmkahbephidmbaaGreatQgGL
import Derived.Deep.RegionHeld3
namespace Go.Proofs.YtmkahbephidmbaaGreat.fnExactForcedEdges
open Go.ChangeShapes Go.WideShapes Go.ChangeAt Go.RowKit

theorem le_drew {a : Nat} {w : World} (h : a ≤ w.heap.size) : a ≤ w.drew.heap.size := h
set_option maxRecDepth 100000 in
set_option maxHeartbeats 1600000 in
theorem walk (s1 : Int) (A1 : Option Addr) (m1 : Nat) (c1 : Nat) (x1 : Nat → Int) (s2 : Int) (A2 : Option Addr) (m2 : Nat) (c2 : Nat) (x2 : Nat → Int) (t3 : ByteArray) (w : World) (h1 : Rd w w.heap.size A1 m1 c1 x1) (n1 : m1 ≤ maxLen) (h2 : Rd w w.heap.size A2 m2 c2 x2) (n2 : m2 ≤ maxLen) (n3 : t3.size ≤ maxLen) :
    Calls Tryz.prog 12 #[.agg #[.int .i64 s1, .slice A1 m1 c1], .agg #[.int .i64 s2, .slice A2 m2 c2], .string t3] w fun e w' => e = .returned (.bool true) ∧ Below w.heap.size w w' := by
  obtain ⟨w0, hW⟩ : ∃ W : World, W = ((w.alloc (Obj.cells #[.int .i64 s1, .slice A1 m1 c1] 24)).alloc (Obj.cells #[.int .i64 s2, .slice A2 m2 c2] 24)) := ⟨_, rfl⟩
  have HB : Hid (Below w.heap.size w w0) := by rw [hW]; exact (((Below.refl _ _).alloc (by simp) _).alloc (by simp) _)
  have z0_0 : w.heap.size < w0.heap.size := by rw [hW]; simp <;> omega
  have z1_0 : w.heap.size + 1 < w0.heap.size := by rw [hW]; simp <;> omega
  have e1a_0 : w0.cell? ⟨w.heap.size, 0, none⟩ = some (.int .i64 s1) := by rw [hW]; simp [go_sem]
  have e1b_0 : w0.cell? ⟨w.heap.size, 1, none⟩ = some (.slice A1 m1 c1) := by rw [hW]; simp [go_sem]
  have e2a_0 : w0.cell? ⟨w.heap.size + 1, 0, none⟩ = some (.int .i64 s2) := by rw [hW]; simp [go_sem]
  have e2b_0 : w0.cell? ⟨w.heap.size + 1, 1, none⟩ = some (.slice A2 m2 c2) := by rw [hW]; simp [go_sem]
  have SZ : Hid (w.heap.size + 2 ≤ w0.heap.size) := by rw [hW]; simp [Hid]
  have HW := Lib.hid hW
  clear hW
  go_enter Tryz.func12, Tryz.ntmps12
  unfold maxLen at n3
  by_cases p3 : (1048576 : Int) < t3.size
  · go_wp2
    go_ret
    exact ⟨rfl, by rw [← HW.out]; exact HB.out⟩
  go_wp2_with fail
  rw [← HW.out]
  clear HW
  refine (szGraph_any s1 A1 m1 c1 ((1048576 : Int)) w0 n1 (by omega) (by omega)).mono ?_
  rintro e w1 ⟨rfl, hb⟩
  have zz := hb.size
  have e1a_1 := up hb e1a_0 z0_0
  have e1b_1 := up hb e1b_0 z0_0
  have e2a_1 := up hb e2a_0 z1_0
  have e2b_1 := up hb e2b_0 z1_0
  have z0_1 := Nat.lt_of_lt_of_le z0_0 zz
  have z1_1 := Nat.lt_of_lt_of_le z1_0 zz
  replace HB := Lib.hid (HB.out.trans (hb.mono HB.out.size))
  replace SZ := Lib.hid (And.intro SZ.out zz)
  clear zz hb e1a_0 e1b_0 e2a_0 e2b_0 z0_0 z1_0
  by_cases p1 : (1048576 : Int) < m1
  · have q1 : szl ((1048576 : Int)) m1 < 0 := by unfold szl; rw [if_pos p1]; omega
    clear p1
    go_wp2
    go_ret
    exact ⟨rfl, HB.out⟩
  have q1 : szl ((1048576 : Int)) m1 = (1048576 : Int) - m1 := by unfold szl; rw [if_neg p1]
  rw [q1]
  clear q1 n1
  go_wp2_with fail
  refine (szGraph_any s2 A2 m2 c2 ((1048576 : Int) - m1) w1 n2 (by omega) (by omega)).mono ?_
  rintro e w2 ⟨rfl, hb⟩
  have zz := hb.size
  have e1a_2 := up hb e1a_1 z0_1
  have e1b_2 := up hb e1b_1 z0_1
  have e2a_2 := up hb e2a_1 z1_1
  have e2b_2 := up hb e2b_1 z1_1
  have z0_2 := Nat.lt_of_lt_of_le z0_1 zz
  have z1_2 := Nat.lt_of_lt_of_le z1_1 zz
  replace HB := Lib.hid (HB.out.trans (hb.mono HB.out.size))
  replace SZ := Lib.hid (And.intro SZ.out zz)
  clear zz hb e1a_1 e1b_1 e2a_1 e2b_1 z0_1 z1_1
  by_cases p2 : (1048576 : Int) - m1 < m2
  · have q1 : szl ((1048576 : Int) - m1) m2 < 0 := by unfold szl; rw [if_pos p2]; omega
    clear p2
    go_wp2
    go_ret
    exact ⟨rfl, HB.out⟩
  have q1 : szl ((1048576 : Int) - m1) m2 = (1048576 : Int) - m1 - m2 := by unfold szl; rw [if_neg p2]
  rw [q1]
  clear q1 n2
  have HK : Hid (∀ a b : World, (w.heap.size < a.heap.size ∧ w.heap.size + 1 < a.heap.size ∧ a.cell? ⟨w.heap.size, 0, none⟩ = some (.int .i64 s1) ∧ a.cell? ⟨w.heap.size, 1, none⟩ = some (.slice A1 m1 c1) ∧ a.cell? ⟨w.heap.size + 1, 0, none⟩ = some (.int .i64 s2) ∧ a.cell? ⟨w.heap.size + 1, 1, none⟩ = some (.slice A2 m2 c2)) → Below a.heap.size a b → (w.heap.size < b.heap.size ∧ w.heap.size + 1 < b.heap.size ∧ b.cell? ⟨w.heap.size, 0, none⟩ = some (.int .i64 s1) ∧ b.cell? ⟨w.heap.size, 1, none⟩ = some (.slice A1 m1 c1) ∧ b.cell? ⟨w.heap.size + 1, 0, none⟩ = some (.int .i64 s2) ∧ b.cell? ⟨w.heap.size + 1, 1, none⟩ = some (.slice A2 m2 c2))) := by
    rintro a b ⟨r0, r1, r2, r3, r4, r5⟩ hb
    have := hb.size
    exact ⟨by omega, by omega, up hb r2 (by omega), up hb r3 (by omega), up hb r4 (by omega), up hb r5 (by omega)⟩
  go_wp2_with fail
  have H2 : Hid (Below w.heap.size w w2.drew) := HB.out.drew
  go_region_held3 (fun a => w.heap.size < a.heap.size ∧ w.heap.size + 1 < a.heap.size ∧ a.cell? ⟨w.heap.size, 0, none⟩ = some (.int .i64 s1) ∧ a.cell? ⟨w.heap.size, 1, none⟩ = some (.slice A1 m1 c1) ∧ a.cell? ⟨w.heap.size + 1, 0, none⟩ = some (.int .i64 s2) ∧ a.cell? ⟨w.heap.size + 1, 1, none⟩ = some (.slice A2 m2 c2))
    (first | (refine ⟨?_, ?_, ?_, ?_, ?_, ?_⟩ <;> assumption) | exact HK.out _ _ (by assumption) hb5 | exact HK.out _ _ (by assumption) hb4 | exact HK.out _ _ (by assumption) hb3)
    (first
      | (go_at_call 21; ((with_reducible refine (toGraph_any s1 A1 m1 c1 x1 _ _ (h1.keep H2.out (Nat.le_refl _)) H2.out.size (by omega)).mono ?_); rintro e w3 ⟨ky1, hky1, rfl, hoy1, hb3⟩; have H3 := Lib.hid (H2.out.trans (hb3.mono H2.out.size))))
      | (go_at_call 21; ((with_reducible refine (toGraph_any s2 A2 m2 c2 x2 _ _ (h2.keep H3.out (Nat.le_refl _)) H3.out.size (by omega)).mono ?_); rintro e w4 ⟨ky2, hky2, rfl, hoy2, hb4⟩; have H4 := Lib.hid (H3.out.trans (hb4.mono H3.out.size))))
      | (go_at_call 43; ((with_reducible refine (ForcedEdges_sL s1 _ m1 m1 x1 s2 _ m2 m2 x2 t3 w4 w4.heap.size ((hoy1.rd.keep hb4 hb4.size)) (hoy2.rd) (Nat.le_refl _) (by omega) (by omega) (by omega)).mono ?_); rintro e w5 ⟨Aw0, cw0, Dw0, rfl, hlw0, how0, hb5⟩; have H5 := Lib.hid (H4.out.trans (hb5.mono H4.out.size)))))
  clear H3
  clear H4
  clear H5
  clear HK H2
  replace hb3 := bd hb3
  have Oy1 := Lib.hid hoy1
  clear hoy1
  have zz := hb3.size
  have e1a_3 := up hb3 e1a_2 z0_2
  have e1b_3 := up hb3 e1b_2 z0_2
  have e2a_3 := up hb3 e2a_2 z1_2
  have e2b_3 := up hb3 e2b_2 z1_2
  have z0_3 := Nat.lt_of_lt_of_le z0_2 zz
  have z1_3 := Nat.lt_of_lt_of_le z1_2 zz
  replace HB := Lib.hid (HB.out.trans (hb3.mono HB.out.size))
  replace SZ := Lib.hid (And.intro SZ.out zz)
  clear zz hb3 e1a_2 e1b_2 e2a_2 e2b_2 z0_2 z1_2
  clear hky1
  have Oy2 := Lib.hid hoy2
  clear hoy2
  have zz := hb4.size
  have e1a_4 := up hb4 e1a_3 z0_3
  have e1b_4 := up hb4 e1b_3 z0_3
  have e2a_4 := up hb4 e2a_3 z1_3
  have e2b_4 := up hb4 e2b_3 z1_3
  have z0_4 := Nat.lt_of_lt_of_le z0_3 zz
  have z1_4 := Nat.lt_of_lt_of_le z1_3 zz
  replace Oy1 := Lib.hid (Oy1.out.keepB hb4 (by have := SZ.out; omega))
  replace HB := Lib.hid (HB.out.trans (hb4.mono HB.out.size))
  replace SZ := Lib.hid (And.intro SZ.out zz)
  clear zz hb4 e1a_3 e1b_3 e2a_3 e2b_3 z0_3 z1_3
  clear hky2
  have Ow0 := Lib.hid how0
  clear how0
  have Lw0 := Lib.hid hlw0
  clear hlw0
  have zz := hb5.size
  have e1a_5 := up hb5 e1a_4 z0_4
  have e1b_5 := up hb5 e1b_4 z0_4
  have e2a_5 := up hb5 e2a_4 z1_4
  have e2b_5 := up hb5 e2b_4 z1_4
  have z0_5 := Nat.lt_of_lt_of_le z0_4 zz
  have z1_5 := Nat.lt_of_lt_of_le z1_4 zz
  replace Oy1 := Lib.hid (Oy1.out.keepB hb5 (by have := SZ.out; omega))
  replace Oy2 := Lib.hid (Oy2.out.keepB hb5 (by have := SZ.out; omega))
  replace HB := Lib.hid (HB.out.trans (hb5.mono HB.out.size))
  replace SZ := Lib.hid (And.intro SZ.out zz)
  clear zz hb5 e1a_4 e1b_4 e2a_4 e2b_4 z0_4 z1_4
  clear Oy1
  clear Oy2
  go_wp2_with fail
  refine (toGraph_any s1 A1 m1 c1 x1 _ _ (h1.keep HB.out (Nat.le_refl _)) HB.out.size (by omega)).mono ?_
  rintro e w6 ⟨kx1, hkx1, rfl, hox1, hb⟩
  have Ox1 := Lib.hid hox1
  clear hox1
  have zz := hb.size
  have e1a_6 := up hb e1a_5 z0_5
  have e1b_6 := up hb e1b_5 z0_5
  have e2a_6 := up hb e2a_5 z1_5
  have e2b_6 := up hb e2b_5 z1_5
  have z0_6 := Nat.lt_of_lt_of_le z0_5 zz
  have z1_6 := Nat.lt_of_lt_of_le z1_5 zz
  replace Ow0 := Lib.hid (Ow0.out.keepB hb (by have := SZ.out; omega))
  replace HB := Lib.hid (HB.out.trans (hb.mono HB.out.size))
  replace SZ := Lib.hid (And.intro SZ.out zz)
  clear zz hb e1a_5 e1b_5 e2a_5 e2b_5 z0_5 z1_5
  clear hkx1
  obtain ⟨w7, hW⟩ : ∃ W : World, W = w6.alloc (Obj.cells #[.int .i64 s1, .slice (some ⟨kx1, 0, none⟩) m1 m1] 30) := ⟨_, rfl⟩
  obtain ⟨Xx1, hX⟩ : ∃ X : Nat, X = w6.heap.size := ⟨_, rfl⟩
  have hb : Below w6.heap.size w6 w7 := by rw [hW]; exact (Below.refl _ _).alloc (Nat.le_refl _) _
  have y0 : w7.cell? ⟨Xx1, 0, none⟩ = some (.int .i64 s1) := by rw [hW, hX]; simp [go_sem]
  have y1 : w7.cell? ⟨Xx1, 1, none⟩ = some (.slice (some ⟨kx1, 0, none⟩) m1 m1) := by rw [hW, hX]; simp [go_sem]
  have yz : Xx1 < w7.heap.size := by rw [hW, hX]; simp
  have ys : w6.heap.size ≤ Xx1 := by rw [hX]; exact Nat.le_refl _
  have HWx := Lib.hid hW
  have HX := Lib.hid hX
  clear hW hX
  have zz := hb.size
  have e1a_7 := up hb e1a_6 z0_6
  have e1b_7 := up hb e1b_6 z0_6
  have e2a_7 := up hb e2a_6 z1_6
  have e2b_7 := up hb e2b_6 z1_6
  have z0_7 := Nat.lt_of_lt_of_le z0_6 zz
  have z1_7 := Nat.lt_of_lt_of_le z1_6 zz
  replace Ow0 := Lib.hid (Ow0.out.keepB hb (by have := SZ.out; omega))
  replace Ox1 := Lib.hid (Ox1.out.keepB hb (by have := SZ.out; omega))
  replace HB := Lib.hid (HB.out.trans (hb.mono HB.out.size))
  replace SZ := Lib.hid (And.intro SZ.out zz)
  clear zz hb 
  replace SZ := Lib.hid (And.intro SZ.out (And.intro ys yz))
  clear ys
  have bx10_7 := y0
  clear y0
  have bx11_7 := y1
  clear y1
  have zbx1_7 := yz
  clear yz
  go_wp2_with fail
  rw [← HWx.out, ← HX.out]
  clear HWx HX e1a_6 e1b_6 e2a_6 e2b_6 z0_6 z1_6
  go_wp2_with fail
  refine (toGraph_any s2 A2 m2 c2 x2 _ _ (h2.keep HB.out (Nat.le_refl _)) HB.out.size (by omega)).mono ?_
  rintro e w8 ⟨kx2, hkx2, rfl, hox2, hb⟩
  have Ox2 := Lib.hid hox2
  clear hox2
  have zz := hb.size
  have e1a_8 := up hb e1a_7 z0_7
  have e1b_8 := up hb e1b_7 z0_7
  have e2a_8 := up hb e2a_7 z1_7
  have e2b_8 := up hb e2b_7 z1_7
  have bx10_8 := up hb bx10_7 zbx1_7
  have bx11_8 := up hb bx11_7 zbx1_7
  have z0_8 := Nat.lt_of_lt_of_le z0_7 zz
  have z1_8 := Nat.lt_of_lt_of_le z1_7 zz
  have zbx1_8 := Nat.lt_of_lt_of_le zbx1_7 zz
  replace Ow0 := Lib.hid (Ow0.out.keepB hb (by have := SZ.out; omega))
  replace Ox1 := Lib.hid (Ox1.out.keepB hb (by have := SZ.out; omega))
  replace HB := Lib.hid (HB.out.trans (hb.mono HB.out.size))
  replace SZ := Lib.hid (And.intro SZ.out zz)
  clear zz hb e1a_7 e1b_7 e2a_7 e2b_7 bx10_7 bx11_7 z0_7 z1_7 zbx1_7
  clear hkx2
  obtain ⟨w9, hW⟩ : ∃ W : World, W = w8.alloc (Obj.cells #[.int .i64 s2, .slice (some ⟨kx2, 0, none⟩) m2 m2] 30) := ⟨_, rfl⟩
  obtain ⟨Xx2, hX⟩ : ∃ X : Nat, X = w8.heap.size := ⟨_, rfl⟩
  have hb : Below w8.heap.size w8 w9 := by rw [hW]; exact (Below.refl _ _).alloc (Nat.le_refl _) _
  have y0 : w9.cell? ⟨Xx2, 0, none⟩ = some (.int .i64 s2) := by rw [hW, hX]; simp [go_sem]
  have y1 : w9.cell? ⟨Xx2, 1, none⟩ = some (.slice (some ⟨kx2, 0, none⟩) m2 m2) := by rw [hW, hX]; simp [go_sem]
  have yz : Xx2 < w9.heap.size := by rw [hW, hX]; simp
  have ys : w8.heap.size ≤ Xx2 := by rw [hX]; exact Nat.le_refl _
  have HWx := Lib.hid hW
  have HX := Lib.hid hX
  clear hW hX
  have zz := hb.size
  have e1a_9 := up hb e1a_8 z0_8
  have e1b_9 := up hb e1b_8 z0_8
  have e2a_9 := up hb e2a_8 z1_8
  have e2b_9 := up hb e2b_8 z1_8
  have bx10_9 := up hb bx10_8 zbx1_8
  have bx11_9 := up hb bx11_8 zbx1_8
  have z0_9 := Nat.lt_of_lt_of_le z0_8 zz
  have z1_9 := Nat.lt_of_lt_of_le z1_8 zz
  have zbx1_9 := Nat.lt_of_lt_of_le zbx1_8 zz
  replace Ow0 := Lib.hid (Ow0.out.keepB hb (by have := SZ.out; omega))
  replace Ox1 := Lib.hid (Ox1.out.keepB hb (by have := SZ.out; omega))
  replace Ox2 := Lib.hid (Ox2.out.keepB hb (by have := SZ.out; omega))
  replace HB := Lib.hid (HB.out.trans (hb.mono HB.out.size))
  replace SZ := Lib.hid (And.intro SZ.out zz)
  clear zz hb 
  replace SZ := Lib.hid (And.intro SZ.out (And.intro ys yz))
  clear ys
  have bx20_9 := y0
  clear y0
  have bx21_9 := y1
  clear y1
  have zbx2_9 := yz
  clear yz
  go_wp2_with fail
  rw [← HWx.out, ← HX.out]
  clear HWx HX e1a_8 e1b_8 e2a_8 e2b_8 bx10_8 bx11_8 z0_8 z1_8 zbx1_8
  go_wp2_with fail
  refine (ForcedEdges_iL s1 _ m1 m1 x1 s2 _ m2 m2 x2 t3 w9 w9.heap.size (Ox1.out.rd.keep (Below.refl _ _) (by have := SZ.out; omega)) (Ox2.out.rd.keep (Below.refl _ _) (by have := SZ.out; omega)) (Nat.le_refl _) (by omega) (by omega) (by omega)).mono ?_
  rintro e w10 ⟨Ag0, cg0, Dg0, rfl, hlg0, hog0, hb⟩
  have Og0 := Lib.hid hog0
  clear hog0
  have Lg0 := Lib.hid hlg0
  clear hlg0
  have zz := hb.size
  have e1a_10 := up hb e1a_9 z0_9
  have e1b_10 := up hb e1b_9 z0_9
  have e2a_10 := up hb e2a_9 z1_9
  have e2b_10 := up hb e2b_9 z1_9
  have bx10_10 := up hb bx10_9 zbx1_9
  have bx11_10 := up hb bx11_9 zbx1_9
  have bx20_10 := up hb bx20_9 zbx2_9
  have bx21_10 := up hb bx21_9 zbx2_9
  have z0_10 := Nat.lt_of_lt_of_le z0_9 zz
  have z1_10 := Nat.lt_of_lt_of_le z1_9 zz
  have zbx1_10 := Nat.lt_of_lt_of_le zbx1_9 zz
  have zbx2_10 := Nat.lt_of_lt_of_le zbx2_9 zz
  replace Ow0 := Lib.hid (Ow0.out.keepB hb (by have := SZ.out; omega))
  replace Ox1 := Lib.hid (Ox1.out.keepB hb (by have := SZ.out; omega))
  replace Ox2 := Lib.hid (Ox2.out.keepB hb (by have := SZ.out; omega))
  replace HB := Lib.hid (HB.out.trans (hb.mono HB.out.size))
  replace SZ := Lib.hid (And.intro SZ.out zz)
  clear zz hb e1a_9 e1b_9 e2a_9 e2b_9 bx10_9 bx11_9 bx20_9 bx21_9 z0_9 z1_9 zbx1_9 zbx2_9
  go_wp2_with fail
  refine (eqIntSS_yes _ _ _ _ Dg0 Dw0 w10 w10.heap.size w10.heap.size (Og0.out.rdD.keep (Below.refl _ _) (by have := SZ.out; omega)) (Ow0.out.rdD.keep (Below.refl _ _) (by have := SZ.out; omega)) (Nat.le_refl _) (Nat.le_refl _) (Lg0.out.trans Lw0.out.symm) (fo_len Lg0.out) (fo_tot Lg0.out)).mono ?_
  rintro e w11 ⟨rfl, hb⟩
  have zz := hb.size
  have e1a_11 := up hb e1a_10 z0_10
  have e1b_11 := up hb e1b_10 z0_10
  have e2a_11 := up hb e2a_10 z1_10
  have e2b_11 := up hb e2b_10 z1_10
  have bx10_11 := up hb bx10_10 zbx1_10
  have bx11_11 := up hb bx11_10 zbx1_10
  have bx20_11 := up hb bx20_10 zbx2_10
  have bx21_11 := up hb bx21_10 zbx2_10
  have z0_11 := Nat.lt_of_lt_of_le z0_10 zz
  have z1_11 := Nat.lt_of_lt_of_le z1_10 zz
  have zbx1_11 := Nat.lt_of_lt_of_le zbx1_10 zz
  have zbx2_11 := Nat.lt_of_lt_of_le zbx2_10 zz
  replace Ow0 := Lib.hid (Ow0.out.keepB hb (by have := SZ.out; omega))
  replace Ox1 := Lib.hid (Ox1.out.keepB hb (by have := SZ.out; omega))
  replace Ox2 := Lib.hid (Ox2.out.keepB hb (by have := SZ.out; omega))
  replace Og0 := Lib.hid (Og0.out.keepB hb (by have := SZ.out; omega))
  replace HB := Lib.hid (HB.out.trans (hb.mono HB.out.size))
  replace SZ := Lib.hid (And.intro SZ.out zz)
  clear zz hb e1a_10 e1b_10 e2a_10 e2b_10 bx10_10 bx11_10 bx20_10 bx21_10 z0_10 z1_10 zbx1_10 zbx2_10
  have HK : Hid (∀ a b : World, (w.heap.size < a.heap.size ∧ w.heap.size + 1 < a.heap.size ∧ Xx1 < a.heap.size ∧ Xx2 < a.heap.size ∧ a.cell? ⟨w.heap.size, 0, none⟩ = some (.int .i64 s1) ∧ a.cell? ⟨w.heap.size, 1, none⟩ = some (.slice A1 m1 c1) ∧ a.cell? ⟨w.heap.size + 1, 0, none⟩ = some (.int .i64 s2) ∧ a.cell? ⟨w.heap.size + 1, 1, none⟩ = some (.slice A2 m2 c2) ∧ a.cell? ⟨Xx1, 0, none⟩ = some (.int .i64 s1) ∧ a.cell? ⟨Xx1, 1, none⟩ = some (.slice (some ⟨kx1, 0, none⟩) m1 m1) ∧ a.cell? ⟨Xx2, 0, none⟩ = some (.int .i64 s2) ∧ a.cell? ⟨Xx2, 1, none⟩ = some (.slice (some ⟨kx2, 0, none⟩) m2 m2)) → Below a.heap.size a b → (w.heap.size < b.heap.size ∧ w.heap.size + 1 < b.heap.size ∧ Xx1 < b.heap.size ∧ Xx2 < b.heap.size ∧ b.cell? ⟨w.heap.size, 0, none⟩ = some (.int .i64 s1) ∧ b.cell? ⟨w.heap.size, 1, none⟩ = some (.slice A1 m1 c1) ∧ b.cell? ⟨w.heap.size + 1, 0, none⟩ = some (.int .i64 s2) ∧ b.cell? ⟨w.heap.size + 1, 1, none⟩ = some (.slice A2 m2 c2) ∧ b.cell? ⟨Xx1, 0, none⟩ = some (.int .i64 s1) ∧ b.cell? ⟨Xx1, 1, none⟩ = some (.slice (some ⟨kx1, 0, none⟩) m1 m1) ∧ b.cell? ⟨Xx2, 0, none⟩ = some (.int .i64 s2) ∧ b.cell? ⟨Xx2, 1, none⟩ = some (.slice (some ⟨kx2, 0, none⟩) m2 m2))) := by
    rintro a b ⟨r0, r1, r2, r3, r4, r5, r6, r7, r8, r9, r10, r11⟩ hb
    have := hb.size
    exact ⟨by omega, by omega, by omega, by omega, up hb r4 (by omega), up hb r5 (by omega), up hb r6 (by omega), up hb r7 (by omega), up hb r8 (by omega), up hb r9 (by omega), up hb r10 (by omega), up hb r11 (by omega)⟩
  go_wp2_with fail
  have H11 : Hid (Below w.heap.size w w11.drew) := HB.out.drew
  go_region_held3 (fun a => w.heap.size < a.heap.size ∧ w.heap.size + 1 < a.heap.size ∧ Xx1 < a.heap.size ∧ Xx2 < a.heap.size ∧ a.cell? ⟨w.heap.size, 0, none⟩ = some (.int .i64 s1) ∧ a.cell? ⟨w.heap.size, 1, none⟩ = some (.slice A1 m1 c1) ∧ a.cell? ⟨w.heap.size + 1, 0, none⟩ = some (.int .i64 s2) ∧ a.cell? ⟨w.heap.size + 1, 1, none⟩ = some (.slice A2 m2 c2) ∧ a.cell? ⟨Xx1, 0, none⟩ = some (.int .i64 s1) ∧ a.cell? ⟨Xx1, 1, none⟩ = some (.slice (some ⟨kx1, 0, none⟩) m1 m1) ∧ a.cell? ⟨Xx2, 0, none⟩ = some (.int .i64 s2) ∧ a.cell? ⟨Xx2, 1, none⟩ = some (.slice (some ⟨kx2, 0, none⟩) m2 m2))
    (first | (refine ⟨?_, ?_, ?_, ?_, ?_, ?_, ?_, ?_, ?_, ?_, ?_, ?_⟩ <;> assumption) | exact HK.out _ _ (by assumption) hb13 | exact HK.out _ _ (by assumption) hb12)
    (first
      | (go_at_call 21; ((with_reducible refine (toGraph_any s1 A1 m1 c1 x1 _ _ (h1.keep H11.out (Nat.le_refl _)) H11.out.size (by omega)).mono ?_); rintro e w12 ⟨kt1, hkt1, rfl, hot1, hb12⟩; have H12 := Lib.hid (H11.out.trans (hb12.mono H11.out.size))))
      | (go_at_call 23; ((with_reducible refine (eqGraph_yes _ _ _ _ _ _ _ w12 w12.heap.size w12.heap.size ((Ox1.out.rd.keep (Below.drew (Below.refl _ w11)) (le_drew (by have := SZ.out; omega))).keep hb12 hb12.size) (hot1.rd) (Nat.le_refl _) (Nat.le_refl _) (by omega)).mono ?_); rintro e w13 ⟨rfl, hb13⟩; have H13 := Lib.hid (H12.out.trans (hb13.mono H12.out.size)))))
  clear H12
  clear H13
  clear HK H11
  replace hb12 := bd hb12
  have Ot1 := Lib.hid hot1
  clear hot1
  have zz := hb12.size
  have e1a_12 := up hb12 e1a_11 z0_11
  have e1b_12 := up hb12 e1b_11 z0_11
  have e2a_12 := up hb12 e2a_11 z1_11
  have e2b_12 := up hb12 e2b_11 z1_11
  have bx10_12 := up hb12 bx10_11 zbx1_11
  have bx11_12 := up hb12 bx11_11 zbx1_11
  have bx20_12 := up hb12 bx20_11 zbx2_11
  have bx21_12 := up hb12 bx21_11 zbx2_11
  have z0_12 := Nat.lt_of_lt_of_le z0_11 zz
  have z1_12 := Nat.lt_of_lt_of_le z1_11 zz
  have zbx1_12 := Nat.lt_of_lt_of_le zbx1_11 zz
  have zbx2_12 := Nat.lt_of_lt_of_le zbx2_11 zz
  replace Ow0 := Lib.hid (Ow0.out.keepB hb12 (by have := SZ.out; omega))
  replace Ox1 := Lib.hid (Ox1.out.keepB hb12 (by have := SZ.out; omega))
  replace Ox2 := Lib.hid (Ox2.out.keepB hb12 (by have := SZ.out; omega))
  replace Og0 := Lib.hid (Og0.out.keepB hb12 (by have := SZ.out; omega))
  replace HB := Lib.hid (HB.out.trans (hb12.mono HB.out.size))
  replace SZ := Lib.hid (And.intro SZ.out zz)
  clear zz hb12 e1a_11 e1b_11 e2a_11 e2b_11 bx10_11 bx11_11 bx20_11 bx21_11 z0_11 z1_11 zbx1_11 zbx2_11
  clear hkt1
  have zz := hb13.size
  have e1a_13 := up hb13 e1a_12 z0_12
  have e1b_13 := up hb13 e1b_12 z0_12
  have e2a_13 := up hb13 e2a_12 z1_12
  have e2b_13 := up hb13 e2b_12 z1_12
  have bx10_13 := up hb13 bx10_12 zbx1_12
  have bx11_13 := up hb13 bx11_12 zbx1_12
  have bx20_13 := up hb13 bx20_12 zbx2_12
  have bx21_13 := up hb13 bx21_12 zbx2_12
  have z0_13 := Nat.lt_of_lt_of_le z0_12 zz
  have z1_13 := Nat.lt_of_lt_of_le z1_12 zz
  have zbx1_13 := Nat.lt_of_lt_of_le zbx1_12 zz
  have zbx2_13 := Nat.lt_of_lt_of_le zbx2_12 zz
  replace Ow0 := Lib.hid (Ow0.out.keepB hb13 (by have := SZ.out; omega))
  replace Ox1 := Lib.hid (Ox1.out.keepB hb13 (by have := SZ.out; omega))
  replace Ox2 := Lib.hid (Ox2.out.keepB hb13 (by have := SZ.out; omega))
  replace Og0 := Lib.hid (Og0.out.keepB hb13 (by have := SZ.out; omega))
  replace Ot1 := Lib.hid (Ot1.out.keepB hb13 (by have := SZ.out; omega))
  replace HB := Lib.hid (HB.out.trans (hb13.mono HB.out.size))
  replace SZ := Lib.hid (And.intro SZ.out zz)
  clear zz hb13 e1a_12 e1b_12 e2a_12 e2b_12 bx10_12 bx11_12 bx20_12 bx21_12 z0_12 z1_12 zbx1_12 zbx2_12
  clear Ot1
  have HK : Hid (∀ a b : World, (w.heap.size < a.heap.size ∧ w.heap.size + 1 < a.heap.size ∧ Xx1 < a.heap.size ∧ Xx2 < a.heap.size ∧ a.cell? ⟨w.heap.size, 0, none⟩ = some (.int .i64 s1) ∧ a.cell? ⟨w.heap.size, 1, none⟩ = some (.slice A1 m1 c1) ∧ a.cell? ⟨w.heap.size + 1, 0, none⟩ = some (.int .i64 s2) ∧ a.cell? ⟨w.heap.size + 1, 1, none⟩ = some (.slice A2 m2 c2) ∧ a.cell? ⟨Xx1, 0, none⟩ = some (.int .i64 s1) ∧ a.cell? ⟨Xx1, 1, none⟩ = some (.slice (some ⟨kx1, 0, none⟩) m1 m1) ∧ a.cell? ⟨Xx2, 0, none⟩ = some (.int .i64 s2) ∧ a.cell? ⟨Xx2, 1, none⟩ = some (.slice (some ⟨kx2, 0, none⟩) m2 m2)) → Below a.heap.size a b → (w.heap.size < b.heap.size ∧ w.heap.size + 1 < b.heap.size ∧ Xx1 < b.heap.size ∧ Xx2 < b.heap.size ∧ b.cell? ⟨w.heap.size, 0, none⟩ = some (.int .i64 s1) ∧ b.cell? ⟨w.heap.size, 1, none⟩ = some (.slice A1 m1 c1) ∧ b.cell? ⟨w.heap.size + 1, 0, none⟩ = some (.int .i64 s2) ∧ b.cell? ⟨w.heap.size + 1, 1, none⟩ = some (.slice A2 m2 c2) ∧ b.cell? ⟨Xx1, 0, none⟩ = some (.int .i64 s1) ∧ b.cell? ⟨Xx1, 1, none⟩ = some (.slice (some ⟨kx1, 0, none⟩) m1 m1) ∧ b.cell? ⟨Xx2, 0, none⟩ = some (.int .i64 s2) ∧ b.cell? ⟨Xx2, 1, none⟩ = some (.slice (some ⟨kx2, 0, none⟩) m2 m2))) := by
    rintro a b ⟨r0, r1, r2, r3, r4, r5, r6, r7, r8, r9, r10, r11⟩ hb
    have := hb.size
    exact ⟨by omega, by omega, by omega, by omega, up hb r4 (by omega), up hb r5 (by omega), up hb r6 (by omega), up hb r7 (by omega), up hb r8 (by omega), up hb r9 (by omega), up hb r10 (by omega), up hb r11 (by omega)⟩
  go_wp2_with fail
  have H13 : Hid (Below w.heap.size w w13.drew) := HB.out.drew
  go_region_held3 (fun a => w.heap.size < a.heap.size ∧ w.heap.size + 1 < a.heap.size ∧ Xx1 < a.heap.size ∧ Xx2 < a.heap.size ∧ a.cell? ⟨w.heap.size, 0, none⟩ = some (.int .i64 s1) ∧ a.cell? ⟨w.heap.size, 1, none⟩ = some (.slice A1 m1 c1) ∧ a.cell? ⟨w.heap.size + 1, 0, none⟩ = some (.int .i64 s2) ∧ a.cell? ⟨w.heap.size + 1, 1, none⟩ = some (.slice A2 m2 c2) ∧ a.cell? ⟨Xx1, 0, none⟩ = some (.int .i64 s1) ∧ a.cell? ⟨Xx1, 1, none⟩ = some (.slice (some ⟨kx1, 0, none⟩) m1 m1) ∧ a.cell? ⟨Xx2, 0, none⟩ = some (.int .i64 s2) ∧ a.cell? ⟨Xx2, 1, none⟩ = some (.slice (some ⟨kx2, 0, none⟩) m2 m2))
    (first | (refine ⟨?_, ?_, ?_, ?_, ?_, ?_, ?_, ?_, ?_, ?_, ?_, ?_⟩ <;> assumption) | exact HK.out _ _ (by assumption) hb15 | exact HK.out _ _ (by assumption) hb14)
    (first
      | (go_at_call 21; ((with_reducible refine (toGraph_any s2 A2 m2 c2 x2 _ _ (h2.keep H13.out (Nat.le_refl _)) H13.out.size (by omega)).mono ?_); rintro e w14 ⟨kt2, hkt2, rfl, hot2, hb14⟩; have H14 := Lib.hid (H13.out.trans (hb14.mono H13.out.size))))
      | (go_at_call 23; ((with_reducible refine (eqGraph_yes _ _ _ _ _ _ _ w14 w14.heap.size w14.heap.size ((Ox2.out.rd.keep (Below.drew (Below.refl _ w13)) (le_drew (by have := SZ.out; omega))).keep hb14 hb14.size) (hot2.rd) (Nat.le_refl _) (Nat.le_refl _) (by omega)).mono ?_); rintro e w15 ⟨rfl, hb15⟩; have H15 := Lib.hid (H14.out.trans (hb15.mono H14.out.size)))))
  clear H14
  clear H15
  clear HK H13
  replace hb14 := bd hb14
  have Ot2 := Lib.hid hot2
  clear hot2
  have zz := hb14.size
  have e1a_14 := up hb14 e1a_13 z0_13
  have e1b_14 := up hb14 e1b_13 z0_13
  have e2a_14 := up hb14 e2a_13 z1_13
  have e2b_14 := up hb14 e2b_13 z1_13
  have bx10_14 := up hb14 bx10_13 zbx1_13
  have bx11_14 := up hb14 bx11_13 zbx1_13
  have bx20_14 := up hb14 bx20_13 zbx2_13
  have bx21_14 := up hb14 bx21_13 zbx2_13
  have z0_14 := Nat.lt_of_lt_of_le z0_13 zz
  have z1_14 := Nat.lt_of_lt_of_le z1_13 zz
  have zbx1_14 := Nat.lt_of_lt_of_le zbx1_13 zz
  have zbx2_14 := Nat.lt_of_lt_of_le zbx2_13 zz
  replace Ow0 := Lib.hid (Ow0.out.keepB hb14 (by have := SZ.out; omega))
  replace Ox1 := Lib.hid (Ox1.out.keepB hb14 (by have := SZ.out; omega))
  replace Ox2 := Lib.hid (Ox2.out.keepB hb14 (by have := SZ.out; omega))
  replace Og0 := Lib.hid (Og0.out.keepB hb14 (by have := SZ.out; omega))
  replace HB := Lib.hid (HB.out.trans (hb14.mono HB.out.size))
  replace SZ := Lib.hid (And.intro SZ.out zz)
  clear zz hb14 e1a_13 e1b_13 e2a_13 e2b_13 bx10_13 bx11_13 bx20_13 bx21_13 z0_13 z1_13 zbx1_13 zbx2_13
  clear hkt2
  have zz := hb15.size
  have e1a_15 := up hb15 e1a_14 z0_14
  have e1b_15 := up hb15 e1b_14 z0_14
  have e2a_15 := up hb15 e2a_14 z1_14
  have e2b_15 := up hb15 e2b_14 z1_14
  have bx10_15 := up hb15 bx10_14 zbx1_14
  have bx11_15 := up hb15 bx11_14 zbx1_14
  have bx20_15 := up hb15 bx20_14 zbx2_14
  have bx21_15 := up hb15 bx21_14 zbx2_14
  have z0_15 := Nat.lt_of_lt_of_le z0_14 zz
  have z1_15 := Nat.lt_of_lt_of_le z1_14 zz
  have zbx1_15 := Nat.lt_of_lt_of_le zbx1_14 zz
  have zbx2_15 := Nat.lt_of_lt_of_le zbx2_14 zz
  replace Ow0 := Lib.hid (Ow0.out.keepB hb15 (by have := SZ.out; omega))
  replace Ox1 := Lib.hid (Ox1.out.keepB hb15 (by have := SZ.out; omega))
  replace Ox2 := Lib.hid (Ox2.out.keepB hb15 (by have := SZ.out; omega))
  replace Og0 := Lib.hid (Og0.out.keepB hb15 (by have := SZ.out; omega))
  replace Ot2 := Lib.hid (Ot2.out.keepB hb15 (by have := SZ.out; omega))
  replace HB := Lib.hid (HB.out.trans (hb15.mono HB.out.size))
  replace SZ := Lib.hid (And.intro SZ.out zz)
  clear zz hb15 e1a_14 e1b_14 e2a_14 e2b_14 bx10_14 bx11_14 bx20_14 bx21_14 z0_14 z1_14 zbx1_14 zbx2_14
  clear Ot2
  go_wp2_with fail
  refine (markGraph_any _ _ _ _ _ (1 : Int) w15 _ _ Ox1.out (by omega) (by omega) (by omega) (by have := SZ.out; omega)).mono ?_
  rintro e w16 ⟨rfl, ho, hf⟩
  replace Ox1 := Lib.hid (Own.marked ho)
  clear ho
  have zz := hf.size
  have e1a_16 := upFr hf e1a_15 z0_15 (by have := SZ.out; omega)
  have e1b_16 := upFr hf e1b_15 z0_15 (by have := SZ.out; omega)
  have e2a_16 := upFr hf e2a_15 z1_15 (by have := SZ.out; omega)
  have e2b_16 := upFr hf e2b_15 z1_15 (by have := SZ.out; omega)
  have bx10_16 := upFr hf bx10_15 zbx1_15 (by have := SZ.out; omega)
  have bx11_16 := upFr hf bx11_15 zbx1_15 (by have := SZ.out; omega)
  have bx20_16 := upFr hf bx20_15 zbx2_15 (by have := SZ.out; omega)
  have bx21_16 := upFr hf bx21_15 zbx2_15 (by have := SZ.out; omega)
  have z0_16 := Nat.lt_of_lt_of_le z0_15 zz
  have z1_16 := Nat.lt_of_lt_of_le z1_15 zz
  have zbx1_16 := Nat.lt_of_lt_of_le zbx1_15 zz
  have zbx2_16 := Nat.lt_of_lt_of_le zbx2_15 zz
  replace Ow0 := Lib.hid (Ow0.out.keep hf (by have := SZ.out; omega))
  replace Ox2 := Lib.hid (Ox2.out.keep hf (by have := SZ.out; omega))
  replace Og0 := Lib.hid (Og0.out.keep hf (by have := SZ.out; omega))
  replace HB := Lib.hid (HB.out.trans (hf.below (by have := SZ.out; have := HB.out.size; omega) HB.out.size))
  replace SZ := Lib.hid (And.intro SZ.out zz)
  clear zz hf e1a_15 e1b_15 e2a_15 e2b_15 bx10_15 bx11_15 bx20_15 bx21_15 z0_15 z1_15 zbx1_15 zbx2_15
  clear Ox1
  go_wp2_with fail
  refine (markGraph_any _ _ _ _ _ ((1 : Int) + m1) w16 _ _ Ox2.out (by omega) (by omega) (by omega) (by have := SZ.out; omega)).mono ?_
  rintro e w17 ⟨rfl, ho, hf⟩
  replace Ox2 := Lib.hid (Own.marked ho)
  clear ho
  have zz := hf.size
  have e1a_17 := upFr hf e1a_16 z0_16 (by have := SZ.out; omega)
  have e1b_17 := upFr hf e1b_16 z0_16 (by have := SZ.out; omega)
  have e2a_17 := upFr hf e2a_16 z1_16 (by have := SZ.out; omega)
  have e2b_17 := upFr hf e2b_16 z1_16 (by have := SZ.out; omega)
  have bx10_17 := upFr hf bx10_16 zbx1_16 (by have := SZ.out; omega)
  have bx11_17 := upFr hf bx11_16 zbx1_16 (by have := SZ.out; omega)
  have bx20_17 := upFr hf bx20_16 zbx2_16 (by have := SZ.out; omega)
  have bx21_17 := upFr hf bx21_16 zbx2_16 (by have := SZ.out; omega)
  have z0_17 := Nat.lt_of_lt_of_le z0_16 zz
  have z1_17 := Nat.lt_of_lt_of_le z1_16 zz
  have zbx1_17 := Nat.lt_of_lt_of_le zbx1_16 zz
  have zbx2_17 := Nat.lt_of_lt_of_le zbx2_16 zz
  replace Ow0 := Lib.hid (Ow0.out.keep hf (by have := SZ.out; omega))
  replace Og0 := Lib.hid (Og0.out.keep hf (by have := SZ.out; omega))
  replace HB := Lib.hid (HB.out.trans (hf.below (by have := SZ.out; have := HB.out.size; omega) HB.out.size))
  replace SZ := Lib.hid (And.intro SZ.out zz)
  clear zz hf e1a_16 e1b_16 e2a_16 e2b_16 bx10_16 bx11_16 bx20_16 bx21_16 z0_16 z1_16 zbx1_16 zbx2_16
  clear Ox2
  go_wp2_with fail
  refine (eqIntSS_yes _ _ _ _ Dg0 Dw0 w17 w17.heap.size w17.heap.size (Og0.out.rdD.keep (Below.refl _ _) (by have := SZ.out; omega)) (Ow0.out.rdD.keep (Below.refl _ _) (by have := SZ.out; omega)) (Nat.le_refl _) (Nat.le_refl _) (Lg0.out.trans Lw0.out.symm) (fo_len Lg0.out) (fo_tot Lg0.out)).mono ?_
  rintro e w18 ⟨rfl, hb⟩
  have zz := hb.size
  have e1a_18 := up hb e1a_17 z0_17
  have e1b_18 := up hb e1b_17 z0_17
  have e2a_18 := up hb e2a_17 z1_17
  have e2b_18 := up hb e2b_17 z1_17
  have bx10_18 := up hb bx10_17 zbx1_17
  have bx11_18 := up hb bx11_17 zbx1_17
  have bx20_18 := up hb bx20_17 zbx2_17
  have bx21_18 := up hb bx21_17 zbx2_17
  have z0_18 := Nat.lt_of_lt_of_le z0_17 zz
  have z1_18 := Nat.lt_of_lt_of_le z1_17 zz
  have zbx1_18 := Nat.lt_of_lt_of_le zbx1_17 zz
  have zbx2_18 := Nat.lt_of_lt_of_le zbx2_17 zz
  replace Ow0 := Lib.hid (Ow0.out.keepB hb (by have := SZ.out; omega))
  replace Og0 := Lib.hid (Og0.out.keepB hb (by have := SZ.out; omega))
  replace HB := Lib.hid (HB.out.trans (hb.mono HB.out.size))
  replace SZ := Lib.hid (And.intro SZ.out zz)
  clear zz hb e1a_17 e1b_17 e2a_17 e2b_17 bx10_17 bx11_17 bx20_17 bx21_17 z0_17 z1_17 zbx1_17 zbx2_17
  go_wp2_with fail
  refine (markIntSS_any _ _ Dg0 (1 : Int) w18 _ _ Og0.out (by have := SZ.out; omega) (fo_len Lg0.out) (fo_tot Lg0.out) (by omega) (by omega)).mono ?_
  rintro e w19 ⟨rfl, ho, hf⟩
  replace Og0 := Lib.hid ho
  clear ho
  have zz := hf.size
  have e1a_19 := upFr hf e1a_18 z0_18 (by have := SZ.out; omega)
  have e1b_19 := upFr hf e1b_18 z0_18 (by have := SZ.out; omega)
  have e2a_19 := upFr hf e2a_18 z1_18 (by have := SZ.out; omega)
  have e2b_19 := upFr hf e2b_18 z1_18 (by have := SZ.out; omega)
  have bx10_19 := upFr hf bx10_18 zbx1_18 (by have := SZ.out; omega)
  have bx11_19 := upFr hf bx11_18 zbx1_18 (by have := SZ.out; omega)
  have bx20_19 := upFr hf bx20_18 zbx2_18 (by have := SZ.out; omega)
  have bx21_19 := upFr hf bx21_18 zbx2_18 (by have := SZ.out; omega)
  have z0_19 := Nat.lt_of_lt_of_le z0_18 zz
  have z1_19 := Nat.lt_of_lt_of_le z1_18 zz
  have zbx1_19 := Nat.lt_of_lt_of_le zbx1_18 zz
  have zbx2_19 := Nat.lt_of_lt_of_le zbx2_18 zz
  replace Ow0 := Lib.hid (Ow0.out.keep hf (by have := SZ.out; omega))
  replace HB := Lib.hid (HB.out.trans (hf.below (by have := SZ.out; have := HB.out.size; omega) HB.out.size))
  replace SZ := Lib.hid (And.intro SZ.out zz)
  clear zz hf e1a_18 e1b_18 e2a_18 e2b_18 bx10_18 bx11_18 bx20_18 bx21_18 z0_18 z1_18 zbx1_18 zbx2_18
  go_wp2_with fail
  refine (heldIntSS_yes _ _ Dg0 (1 : Int) w19 _ Og0.out.rdD (fo_len Lg0.out) (fo_tot Lg0.out) (by omega) (by omega)).mono ?_
  rintro e w' ⟨rfl, rfl⟩
  have HK : Hid (∀ a b : World, (w.heap.size < a.heap.size ∧ w.heap.size + 1 < a.heap.size ∧ Xx1 < a.heap.size ∧ Xx2 < a.heap.size ∧ a.cell? ⟨w.heap.size, 0, none⟩ = some (.int .i64 s1) ∧ a.cell? ⟨w.heap.size, 1, none⟩ = some (.slice A1 m1 c1) ∧ a.cell? ⟨w.heap.size + 1, 0, none⟩ = some (.int .i64 s2) ∧ a.cell? ⟨w.heap.size + 1, 1, none⟩ = some (.slice A2 m2 c2) ∧ a.cell? ⟨Xx1, 0, none⟩ = some (.int .i64 s1) ∧ a.cell? ⟨Xx1, 1, none⟩ = some (.slice (some ⟨kx1, 0, none⟩) m1 m1) ∧ a.cell? ⟨Xx2, 0, none⟩ = some (.int .i64 s2) ∧ a.cell? ⟨Xx2, 1, none⟩ = some (.slice (some ⟨kx2, 0, none⟩) m2 m2)) → Below a.heap.size a b → (w.heap.size < b.heap.size ∧ w.heap.size + 1 < b.heap.size ∧ Xx1 < b.heap.size ∧ Xx2 < b.heap.size ∧ b.cell? ⟨w.heap.size, 0, none⟩ = some (.int .i64 s1) ∧ b.cell? ⟨w.heap.size, 1, none⟩ = some (.slice A1 m1 c1) ∧ b.cell? ⟨w.heap.size + 1, 0, none⟩ = some (.int .i64 s2) ∧ b.cell? ⟨w.heap.size + 1, 1, none⟩ = some (.slice A2 m2 c2) ∧ b.cell? ⟨Xx1, 0, none⟩ = some (.int .i64 s1) ∧ b.cell? ⟨Xx1, 1, none⟩ = some (.slice (some ⟨kx1, 0, none⟩) m1 m1) ∧ b.cell? ⟨Xx2, 0, none⟩ = some (.int .i64 s2) ∧ b.cell? ⟨Xx2, 1, none⟩ = some (.slice (some ⟨kx2, 0, none⟩) m2 m2))) := by
    rintro a b ⟨r0, r1, r2, r3, r4, r5, r6, r7, r8, r9, r10, r11⟩ hb
    have := hb.size
    exact ⟨by omega, by omega, by omega, by omega, up hb r4 (by omega), up hb r5 (by omega), up hb r6 (by omega), up hb r7 (by omega), up hb r8 (by omega), up hb r9 (by omega), up hb r10 (by omega), up hb r11 (by omega)⟩
  go_wp2_with fail
  have H19 : Hid (Below w.heap.size w w19.drew) := HB.out.drew
  go_region_held3 (fun a => w.heap.size < a.heap.size ∧ w.heap.size + 1 < a.heap.size ∧ Xx1 < a.heap.size ∧ Xx2 < a.heap.size ∧ a.cell? ⟨w.heap.size, 0, none⟩ = some (.int .i64 s1) ∧ a.cell? ⟨w.heap.size, 1, none⟩ = some (.slice A1 m1 c1) ∧ a.cell? ⟨w.heap.size + 1, 0, none⟩ = some (.int .i64 s2) ∧ a.cell? ⟨w.heap.size + 1, 1, none⟩ = some (.slice A2 m2 c2) ∧ a.cell? ⟨Xx1, 0, none⟩ = some (.int .i64 s1) ∧ a.cell? ⟨Xx1, 1, none⟩ = some (.slice (some ⟨kx1, 0, none⟩) m1 m1) ∧ a.cell? ⟨Xx2, 0, none⟩ = some (.int .i64 s2) ∧ a.cell? ⟨Xx2, 1, none⟩ = some (.slice (some ⟨kx2, 0, none⟩) m2 m2))
    (first | (refine ⟨?_, ?_, ?_, ?_, ?_, ?_, ?_, ?_, ?_, ?_, ?_, ?_⟩ <;> assumption) | exact HK.out _ _ (by assumption) hb22 | exact HK.out _ _ (by assumption) hb21 | exact HK.out _ _ (by assumption) hb20)
    (first
      | (go_at_call 21; ((with_reducible refine (toGraph_any s1 A1 m1 c1 x1 _ _ (h1.keep H19.out (Nat.le_refl _)) H19.out.size (by omega)).mono ?_); rintro e w20 ⟨ky1, hky1, rfl, hoy1, hb20⟩; have H20 := Lib.hid (H19.out.trans (hb20.mono H19.out.size))))
      | (go_at_call 21; ((with_reducible refine (toGraph_any s2 A2 m2 c2 x2 _ _ (h2.keep H20.out (Nat.le_refl _)) H20.out.size (by omega)).mono ?_); rintro e w21 ⟨ky2, hky2, rfl, hoy2, hb21⟩; have H21 := Lib.hid (H20.out.trans (hb21.mono H20.out.size))))
      | (go_at_call 44; ((with_reducible refine (ForcedEdges_iL s1 _ m1 m1 x1 s2 _ m2 m2 x2 t3 w21 w21.heap.size ((hoy1.rd.keep hb21 hb21.size)) (hoy2.rd) (Nat.le_refl _) (by omega) (by omega) (by omega)).mono ?_); rintro e w22 ⟨Ah0, ch0, Dh0, rfl, hlh0, hoh0, hb22⟩; have H22 := Lib.hid (H21.out.trans (hb22.mono H21.out.size)))))
  clear H20
  clear H21
  clear H22
  clear HK H19
  replace hb20 := bd hb20
  have Oy1 := Lib.hid hoy1
  clear hoy1
  have zz := hb20.size
  have e1a_20 := up hb20 e1a_19 z0_19
  have e1b_20 := up hb20 e1b_19 z0_19
  have e2a_20 := up hb20 e2a_19 z1_19
  have e2b_20 := up hb20 e2b_19 z1_19
  have bx10_20 := up hb20 bx10_19 zbx1_19
  have bx11_20 := up hb20 bx11_19 zbx1_19
  have bx20_20 := up hb20 bx20_19 zbx2_19
  have bx21_20 := up hb20 bx21_19 zbx2_19
  have z0_20 := Nat.lt_of_lt_of_le z0_19 zz
  have z1_20 := Nat.lt_of_lt_of_le z1_19 zz
  have zbx1_20 := Nat.lt_of_lt_of_le zbx1_19 zz
  have zbx2_20 := Nat.lt_of_lt_of_le zbx2_19 zz
  replace Ow0 := Lib.hid (Ow0.out.keepB hb20 (by have := SZ.out; omega))
  replace Og0 := Lib.hid (Og0.out.keepB hb20 (by have := SZ.out; omega))
  replace HB := Lib.hid (HB.out.trans (hb20.mono HB.out.size))
  replace SZ := Lib.hid (And.intro SZ.out zz)
  clear zz hb20 e1a_19 e1b_19 e2a_19 e2b_19 bx10_19 bx11_19 bx20_19 bx21_19 z0_19 z1_19 zbx1_19 zbx2_19
  clear hky1
  have Oy2 := Lib.hid hoy2
  clear hoy2
  have zz := hb21.size
  have e1a_21 := up hb21 e1a_20 z0_20
  have e1b_21 := up hb21 e1b_20 z0_20
  have e2a_21 := up hb21 e2a_20 z1_20
  have e2b_21 := up hb21 e2b_20 z1_20
  have bx10_21 := up hb21 bx10_20 zbx1_20
  have bx11_21 := up hb21 bx11_20 zbx1_20
  have bx20_21 := up hb21 bx20_20 zbx2_20
  have bx21_21 := up hb21 bx21_20 zbx2_20
  have z0_21 := Nat.lt_of_lt_of_le z0_20 zz
  have z1_21 := Nat.lt_of_lt_of_le z1_20 zz
  have zbx1_21 := Nat.lt_of_lt_of_le zbx1_20 zz
  have zbx2_21 := Nat.lt_of_lt_of_le zbx2_20 zz
  replace Ow0 := Lib.hid (Ow0.out.keepB hb21 (by have := SZ.out; omega))
  replace Og0 := Lib.hid (Og0.out.keepB hb21 (by have := SZ.out; omega))
  replace Oy1 := Lib.hid (Oy1.out.keepB hb21 (by have := SZ.out; omega))
  replace HB := Lib.hid (HB.out.trans (hb21.mono HB.out.size))
  replace SZ := Lib.hid (And.intro SZ.out zz)
  clear zz hb21 e1a_20 e1b_20 e2a_20 e2b_20 bx10_20 bx11_20 bx20_20 bx21_20 z0_20 z1_20 zbx1_20 zbx2_20
  clear hky2
  have Oh0 := Lib.hid hoh0
  clear hoh0
  have Lh0 := Lib.hid hlh0
  clear hlh0
  have zz := hb22.size
  have e1a_22 := up hb22 e1a_21 z0_21
  have e1b_22 := up hb22 e1b_21 z0_21
  have e2a_22 := up hb22 e2a_21 z1_21
  have e2b_22 := up hb22 e2b_21 z1_21
  have bx10_22 := up hb22 bx10_21 zbx1_21
  have bx11_22 := up hb22 bx11_21 zbx1_21
  have bx20_22 := up hb22 bx20_21 zbx2_21
  have bx21_22 := up hb22 bx21_21 zbx2_21
  have z0_22 := Nat.lt_of_lt_of_le z0_21 zz
  have z1_22 := Nat.lt_of_lt_of_le z1_21 zz
  have zbx1_22 := Nat.lt_of_lt_of_le zbx1_21 zz
  have zbx2_22 := Nat.lt_of_lt_of_le zbx2_21 zz
  replace Ow0 := Lib.hid (Ow0.out.keepB hb22 (by have := SZ.out; omega))
  replace Og0 := Lib.hid (Og0.out.keepB hb22 (by have := SZ.out; omega))
  replace Oy1 := Lib.hid (Oy1.out.keepB hb22 (by have := SZ.out; omega))
  replace Oy2 := Lib.hid (Oy2.out.keepB hb22 (by have := SZ.out; omega))
  replace HB := Lib.hid (HB.out.trans (hb22.mono HB.out.size))
  replace SZ := Lib.hid (And.intro SZ.out zz)
  clear zz hb22 e1a_21 e1b_21 e2a_21 e2b_21 bx10_21 bx11_21 bx20_21 bx21_21 z0_21 z1_21 zbx1_21 zbx2_21
  clear Oy1
  clear Oy2
  go_wp2_with fail
  refine (eqIntSS_yes _ _ _ _ Dh0 Dw0 w22 w22.heap.size w22.heap.size (Oh0.out.rdD.keep (Below.refl _ _) (by have := SZ.out; omega)) (Ow0.out.rdD.keep (Below.refl _ _) (by have := SZ.out; omega)) (Nat.le_refl _) (Nat.le_refl _) (Lh0.out.trans Lw0.out.symm) (fo_len Lh0.out) (fo_tot Lh0.out)).mono ?_
  rintro e w23 ⟨rfl, hb⟩
  have zz := hb.size
  have e1a_23 := up hb e1a_22 z0_22
  have e1b_23 := up hb e1b_22 z0_22
  have e2a_23 := up hb e2a_22 z1_22
  have e2b_23 := up hb e2b_22 z1_22
  have bx10_23 := up hb bx10_22 zbx1_22
  have bx11_23 := up hb bx11_22 zbx1_22
  have bx20_23 := up hb bx20_22 zbx2_22
  have bx21_23 := up hb bx21_22 zbx2_22
  have z0_23 := Nat.lt_of_lt_of_le z0_22 zz
  have z1_23 := Nat.lt_of_lt_of_le z1_22 zz
  have zbx1_23 := Nat.lt_of_lt_of_le zbx1_22 zz
  have zbx2_23 := Nat.lt_of_lt_of_le zbx2_22 zz
  replace Ow0 := Lib.hid (Ow0.out.keepB hb (by have := SZ.out; omega))
  replace Og0 := Lib.hid (Og0.out.keepB hb (by have := SZ.out; omega))
  replace Oh0 := Lib.hid (Oh0.out.keepB hb (by have := SZ.out; omega))
  replace HB := Lib.hid (HB.out.trans (hb.mono HB.out.size))
  replace SZ := Lib.hid (And.intro SZ.out zz)
  clear zz hb e1a_22 e1b_22 e2a_22 e2b_22 bx10_22 bx11_22 bx20_22 bx21_22 z0_22 z1_22 zbx1_22 zbx2_22
  go_wp2_with fail
  refine (heldIntSS_yes _ _ Dg0 (1 : Int) w23 _ Og0.out.rdD (fo_len Lg0.out) (fo_tot Lg0.out) (by omega) (by omega)).mono ?_
  rintro e w' ⟨rfl, rfl⟩
  go_wp2
  go_ret
  exact ⟨rfl, HB.out⟩

set_option maxRecDepth 100000 in
theorem lifted (os : Os) (started : os.Started) (H : Type) (enc : TypeId × Value → H) :
    ReturnsInHanded {} Tryz.checked os 12 .any (Rows.fnExactForcedEdgesSpec.pre6 enc Tryz.prog Tryz.f12 Rows.fnExactForcedEdgesRow.domain false) (Rows.fnExactForcedEdgesSpec.post enc Tryz.prog Tryz.f12 false true false false) := by
  refine returnsInHanded_of_change (C := Tryz.checked) own started (by kernel_rfl) Tryz.func12
    (ChangeSpec.witness6 (enc := enc) (C := Tryz.checked) false ⟨#[], #[.agg #[.int .i64 0, .slice none 0 0], .agg #[.int .i64 0, .slice none 0 0], .string ⟨#[]⟩], []⟩ 8 (by kernel_rfl) (by kernel_rfl) (by kernel_rfl) (by kernel_rfl)) ?_
  intro W base args ds gs before hval0 hW hcnd _
  have hval : ∀ (j : Nat) t v, Tryz.f12.params[j]? = some t → args[j]? = some v → Value.okWide Tryz.prog W .any base t v := hval0
  have hW' := hW
  obtain ⟨p, q, hA0, hV, rfl, hfz, hnd⟩ := hW
  have hA : DataW.TrodAll enc Tryz.prog W 0 (fun _ => true) true Tryz.f12.params.toList args.toList ds p := hA0
  rw [Tryz.params12] at hA hval
  obtain ⟨v0, vs0, d0, ds0, p0, q0, hargs, rfl, rfl, l0, r0⟩ := trodAll_cons hA
  obtain ⟨v1, vs1, d1, ds1, p1, q1, rfl, rfl, rfl, l1, r1⟩ := trodAll_cons r0
  obtain ⟨v2, vs2, d2, ds2, p2, q2, rfl, rfl, rfl, l2, r2⟩ := trodAll_cons r1
  obtain ⟨rfl, rfl, rfl⟩ := trodAll_nil r2
  obtain rfl : args = #[v0, v1, v2] := by cases args; simp_all
  obtain ⟨rfl, rfl⟩ := trodVars_none hV
  have lt0 := places_lt l0
  obtain ⟨s1, A1, m1, c1, x1, rfl, h1, n1⟩ := open_graph (hval 0 24 v0 rfl rfl) l0
  have lt1 := places_lt l1
  obtain ⟨s2, A2, m2, c2, x2, rfl, h2, n2⟩ := open_graph (hval 1 24 v1 rfl rfl) l1
  have lt2 := places_lt l2
  obtain ⟨t3, rfl, n3⟩ := open_string_arg (hval 2 9 v2 rfl rfl) l2
  clear hA0 hval0
  refine (walk s1 A1 m1 c1 x1 s2 A2 m2 c2 x2 t3 W h1 n1 h2 n2 n3).mono fun e W' ⟨he, bel⟩ => ?_
  subst he
  exact ⟨_, rfl, _, _, _, [], _, [], hW', trodAll_mk1 (shut_bool Tryz.underlying4 _), (trodAll_cons_mk (Below.trod laidOut (by kernel_rfl) (of_decide_eq_true (by kernel_rfl)) l0 bel lt0) (trodAll_cons_mk (Below.trod laidOut (by kernel_rfl) (of_decide_eq_true (by kernel_rfl)) l1 bel lt1) (trodAll_cons_mk (Below.trod laidOut (by kernel_rfl) (of_decide_eq_true (by kernel_rfl)) l2 bel lt2) trodAll_mk0))), rfl, bel.frame _, fun h => by cases h⟩

theorem unf : Tryz.pinned.checked.prog.unfollowed 12 = true := unfollowed_of (closure_step (closure_step (closure_step (closure_step (closure_step (closure_step closure_self (h := 44) (by kernel_rfl)) (h := 116) (by kernel_rfl)) (h := 22) (by kernel_rfl)) (h := 90) (by kernel_rfl)) (h := 198) (by kernel_rfl)) (h := 221) (by kernel_rfl)) (by kernel_rfl)
theorem closed : joinedFacts Tryz.pinned.checked.prog 12 Tryz.f12 Rows.fnExactForcedEdgesSpec Rows.fnExactForcedEdgesRow = true := by
  unfold joinedFacts
  rw [inPlace_none (f := 12) all_own (by decide) (by decide), varsNamed_none (f := 12) all_own (by decide) (by decide), recurses_of unf, unf]
  kernel_rfl
theorem over : Rows.fnExactForcedEdgesRow.holds Tryz.pinned (OpenSpec.ofChange Rows.fnExactForcedEdgesSpec) :=
  OpenClaim.holds_of_wide 12 Tryz.f12 rfl rfl rfl rfl rfl rfl rfl ⟨rfl, rfl, rfl, rfl, rfl⟩ rfl rfl rfl rfl rfl (by kernel_rfl) Tryz.func12 closed
    (of_decide_eq_true (by kernel_rfl)) (by unfold Func.isWrapper; first | (rw [if_pos (by decide +kernel)]; kernel_rfl) | (rw [if_neg (by decide +kernel)]; exact ⟨rfl, rfl⟩))
    (fun os started H enc _ => lifted os started H enc)

/-- The statement. -/
theorem proved : Rows.FnExactForcedEdgesSaid := over
#print axioms proved
end Go.Proofs.YtmkahbephidmbaaGreat.fnExactForcedEdges
