/-
  The program's CountSandwiches answers as the reference's at every input: the law FnExactCountSandwiches answers true.
  No condition.
-/
import Derived.Test.YtmkahbephidmbaaGreatQfGreat
import Derived.Test.YtmkahbephidmbaaGreatQfOpen4
import Derived.Test.YtmkahbephidmbaaGreatQfGA
import Derived.Test.YtmkahbephidmbaaGreatQfNms
import Derived.Deep.RegionHeld3
namespace Go.Proofs.YtmkahbephidmbaaGreat.fnExactCountSandwiches
open Go.ChangeShapes Go.WideShapes Go.ChangeAt Go.RowKit

theorem le_drew {a : Nat} {w : World} (h : a ≤ w.heap.size) : a ≤ w.drew.heap.size := h
set_option maxRecDepth 100000 in
set_option maxHeartbeats 1600000 in
theorem walk (s1 : Int) (A1 : Option Addr) (m1 : Nat) (c1 : Nat) (x1 : Nat → Int) (s2 : Int) (A2 : Option Addr) (m2 : Nat) (c2 : Nat) (x2 : Nat → Int) (t3 : ByteArray) (w : World) (h1 : Rd w w.heap.size A1 m1 c1 x1) (n1 : m1 ≤ maxLen) (h2 : Rd w w.heap.size A2 m2 c2 x2) (n2 : m2 ≤ maxLen) (n3 : t3.size ≤ maxLen) :
    Calls Tryz.prog 10 #[.agg #[.int .i64 s1, .slice A1 m1 c1], .agg #[.int .i64 s2, .slice A2 m2 c2], .string t3] w fun e w' => e = .returned (.bool true) ∧ Below w.heap.size w w' := by
  obtain ⟨w0, hW⟩ : ∃ W : World, W = ((w.alloc (Obj.cells #[.int .i64 s1, .slice A1 m1 c1] 24)).alloc (Obj.cells #[.int .i64 s2, .slice A2 m2 c2] 24)) := ⟨_, rfl⟩
  have HB : Hid (Below w.heap.size w w0) := by rw [hW]; exact (((Below.refl _ _).alloc (by simp) _).alloc (by simp) _)
  have z0_0 : w.heap.size < w0.heap.size := by rw [hW]; simp <;> omega
  have z1_0 : w.heap.size + 1 < w0.heap.size := by rw [hW]; simp <;> omega
  have e1a_0 : w0.cell? ⟨w.heap.size, 0, none⟩ = some (.int .i64 s1) := by rw [hW]; simp [go_sem]
  have e1b_0 : w0.cell? ⟨w.heap.size, 1, none⟩ = some (.slice A1 m1 c1) := by rw [hW]; simp [go_sem]
  have e2a_0 : w0.cell? ⟨w.heap.size + 1, 0, none⟩ = some (.int .i64 s2) := by rw [hW]; simp [go_sem]
  have e2b_0 : w0.cell? ⟨w.heap.size + 1, 1, none⟩ = some (.slice A2 m2 c2) := by rw [hW]; simp [go_sem]
  have SZ : Hid (w.heap.size + 2 ≤ w0.heap.size) := by rw [hW]; simp [Hid]
  have HW := Lib.hid hW
  clear hW
  go_enter Tryz.func10, Tryz.ntmps10
  unfold maxLen at n3
  by_cases p3 : (1048576 : Int) < t3.size
  · go_wp2
    go_ret
    exact ⟨rfl, by rw [← HW.out]; exact HB.out⟩
  go_wp2_with fail
  rw [← HW.out]
  clear HW
  refine (szGraph_any s1 A1 m1 c1 ((1048576 : Int)) w0 n1 (by omega) (by omega)).mono ?_
  rintro e w1 ⟨rfl, hb⟩
  have zz := hb.size
  have e1a_1 := up hb e1a_0 z0_0
  have e1b_1 := up hb e1b_0 z0_0
  have e2a_1 := up hb e2a_0 z1_0
  have e2b_1 := up hb e2b_0 z1_0
  have z0_1 := Nat.lt_of_lt_of_le z0_0 zz
  have z1_1 := Nat.lt_of_lt_of_le z1_0 zz
  replace HB := Lib.hid (HB.out.trans (hb.mono HB.out.size))
  replace SZ := Lib.hid (And.intro SZ.out zz)
  clear zz hb e1a_0 e1b_0 e2a_0 e2b_0 z0_0 z1_0
  by_cases p1 : (1048576 : Int) < m1
  · have q1 : szl ((1048576 : Int)) m1 < 0 := by unfold szl; rw [if_pos p1]; omega
    clear p1
    go_wp2
    go_ret
    exact ⟨rfl, HB.out⟩
  have q1 : szl ((1048576 : Int)) m1 = (1048576 : Int) - m1 := by unfold szl; rw [if_neg p1]
  rw [q1]
  clear q1 n1
  go_wp2_with fail
  refine (szGraph_any s2 A2 m2 c2 ((1048576 : Int) - m1) w1 n2 (by omega) (by omega)).mono ?_
  rintro e w2 ⟨rfl, hb⟩
  have zz := hb.size
  have e1a_2 := up hb e1a_1 z0_1
  have e1b_2 := up hb e1b_1 z0_1
  have e2a_2 := up hb e2a_1 z1_1
  have e2b_2 := up hb e2b_1 z1_1
  have z0_2 := Nat.lt_of_lt_of_le z0_1 zz
  have z1_2 := Nat.lt_of_lt_of_le z1_1 zz
  replace HB := Lib.hid (HB.out.trans (hb.mono HB.out.size))
  replace SZ := Lib.hid (And.intro SZ.out zz)
  clear zz hb e1a_1 e1b_1 e2a_1 e2b_1 z0_1 z1_1
  by_cases p2 : (1048576 : Int) - m1 < m2
  · have q1 : szl ((1048576 : Int) - m1) m2 < 0 := by unfold szl; rw [if_pos p2]; omega
    clear p2
    go_wp2
    go_ret
    exact ⟨rfl, HB.out⟩
  have q1 : szl ((1048576 : Int) - m1) m2 = (1048576 : Int) - m1 - m2 := by unfold szl; rw [if_neg p2]
  rw [q1]
  clear q1 n2
  have HK : Hid (∀ a b : World, (w.heap.size < a.heap.size ∧ w.heap.size + 1 < a.heap.size ∧ a.cell? ⟨w.heap.size, 0, none⟩ = some (.int .i64 s1) ∧ a.cell? ⟨w.heap.size, 1, none⟩ = some (.slice A1 m1 c1) ∧ a.cell? ⟨w.heap.size + 1, 0, none⟩ = some (.int .i64 s2) ∧ a.cell? ⟨w.heap.size + 1, 1, none⟩ = some (.slice A2 m2 c2)) → Below a.heap.size a b → (w.heap.size < b.heap.size ∧ w.heap.size + 1 < b.heap.size ∧ b.cell? ⟨w.heap.size, 0, none⟩ = some (.int .i64 s1) ∧ b.cell? ⟨w.heap.size, 1, none⟩ = some (.slice A1 m1 c1) ∧ b.cell? ⟨w.heap.size + 1, 0, none⟩ = some (.int .i64 s2) ∧ b.cell? ⟨w.heap.size + 1, 1, none⟩ = some (.slice A2 m2 c2))) := by
    rintro a b ⟨r0, r1, r2, r3, r4, r5⟩ hb
    have := hb.size
    exact ⟨by omega, by omega, up hb r2 (by omega), up hb r3 (by omega), up hb r4 (by omega), up hb r5 (by omega)⟩
  go_wp2_with fail
  have H2 : Hid (Below w.heap.size w w2.drew) := HB.out.drew
  go_region_held3 (fun a => w.heap.size < a.heap.size ∧ w.heap.size + 1 < a.heap.size ∧ a.cell? ⟨w.heap.size, 0, none⟩ = some (.int .i64 s1) ∧ a.cell? ⟨w.heap.size, 1, none⟩ = some (.slice A1 m1 c1) ∧ a.cell? ⟨w.heap.size + 1, 0, none⟩ = some (.int .i64 s2) ∧ a.cell? ⟨w.heap.size + 1, 1, none⟩ = some (.slice A2 m2 c2))
    (first | (refine ⟨?_, ?_, ?_, ?_, ?_, ?_⟩ <;> assumption) | exact HK.out _ _ (by assumption) hb5 | exact HK.out _ _ (by assumption) hb4 | exact HK.out _ _ (by assumption) hb3)
    (first
      | (go_at_call 21; ((with_reducible refine (toGraph_any s1 A1 m1 c1 x1 _ _ (h1.keep H2.out (Nat.le_refl _)) H2.out.size (by omega)).mono ?_); rintro e w3 ⟨ky1, hky1, rfl, hoy1, hb3⟩; have H3 := Lib.hid (H2.out.trans (hb3.mono H2.out.size))))
      | (go_at_call 21; ((with_reducible refine (toGraph_any s2 A2 m2 c2 x2 _ _ (h2.keep H3.out (Nat.le_refl _)) H3.out.size (by omega)).mono ?_); rintro e w4 ⟨ky2, hky2, rfl, hoy2, hb4⟩; have H4 := Lib.hid (H3.out.trans (hb4.mono H3.out.size))))
      | (go_at_call 39; ((with_reducible refine (CountSandwiches_sL s1 _ m1 m1 x1 s2 _ m2 m2 x2 t3 w4 w4.heap.size ((hoy1.rd.keep hb4 hb4.size)) (hoy2.rd) (Nat.le_refl _) (by omega) (by omega) (by omega)).mono ?_); rintro e w5 ⟨rfl, hb5⟩; have H5 := Lib.hid (H4.out.trans (hb5.mono H4.out.size)))))
  clear H3
  clear H4
  clear H5
  clear HK H2
  replace hb3 := bd hb3
  have Oy1 := Lib.hid hoy1
  clear hoy1
  have zz := hb3.size
  have e1a_3 := up hb3 e1a_2 z0_2
  have e1b_3 := up hb3 e1b_2 z0_2
  have e2a_3 := up hb3 e2a_2 z1_2
  have e2b_3 := up hb3 e2b_2 z1_2
  have z0_3 := Nat.lt_of_lt_of_le z0_2 zz
  have z1_3 := Nat.lt_of_lt_of_le z1_2 zz
  replace HB := Lib.hid (HB.out.trans (hb3.mono HB.out.size))
  replace SZ := Lib.hid (And.intro SZ.out zz)
  clear zz hb3 e1a_2 e1b_2 e2a_2 e2b_2 z0_2 z1_2
  clear hky1
  have Oy2 := Lib.hid hoy2
  clear hoy2
  have zz := hb4.size
  have e1a_4 := up hb4 e1a_3 z0_3
  have e1b_4 := up hb4 e1b_3 z0_3
  have e2a_4 := up hb4 e2a_3 z1_3
  have e2b_4 := up hb4 e2b_3 z1_3
  have z0_4 := Nat.lt_of_lt_of_le z0_3 zz
  have z1_4 := Nat.lt_of_lt_of_le z1_3 zz
  replace Oy1 := Lib.hid (Oy1.out.keepB hb4 (by have := SZ.out; omega))
  replace HB := Lib.hid (HB.out.trans (hb4.mono HB.out.size))
  replace SZ := Lib.hid (And.intro SZ.out zz)
  clear zz hb4 e1a_3 e1b_3 e2a_3 e2b_3 z0_3 z1_3
  clear hky2
  have zz := hb5.size
  have e1a_5 := up hb5 e1a_4 z0_4
  have e1b_5 := up hb5 e1b_4 z0_4
  have e2a_5 := up hb5 e2a_4 z1_4
  have e2b_5 := up hb5 e2b_4 z1_4
  have z0_5 := Nat.lt_of_lt_of_le z0_4 zz
  have z1_5 := Nat.lt_of_lt_of_le z1_4 zz
  replace Oy1 := Lib.hid (Oy1.out.keepB hb5 (by have := SZ.out; omega))
  replace Oy2 := Lib.hid (Oy2.out.keepB hb5 (by have := SZ.out; omega))
  replace HB := Lib.hid (HB.out.trans (hb5.mono HB.out.size))
  replace SZ := Lib.hid (And.intro SZ.out zz)
  clear zz hb5 e1a_4 e1b_4 e2a_4 e2b_4 z0_4 z1_4
  clear Oy1
  clear Oy2
  go_wp2_with fail
  refine (toGraph_any s1 A1 m1 c1 x1 _ _ (h1.keep HB.out (Nat.le_refl _)) HB.out.size (by omega)).mono ?_
  rintro e w6 ⟨kx1, hkx1, rfl, hox1, hb⟩
  have Ox1 := Lib.hid hox1
  clear hox1
  have zz := hb.size
  have e1a_6 := up hb e1a_5 z0_5
  have e1b_6 := up hb e1b_5 z0_5
  have e2a_6 := up hb e2a_5 z1_5
  have e2b_6 := up hb e2b_5 z1_5
  have z0_6 := Nat.lt_of_lt_of_le z0_5 zz
  have z1_6 := Nat.lt_of_lt_of_le z1_5 zz
  replace HB := Lib.hid (HB.out.trans (hb.mono HB.out.size))
  replace SZ := Lib.hid (And.intro SZ.out zz)
  clear zz hb e1a_5 e1b_5 e2a_5 e2b_5 z0_5 z1_5
  clear hkx1
  obtain ⟨w7, hW⟩ : ∃ W : World, W = w6.alloc (Obj.cells #[.int .i64 s1, .slice (some ⟨kx1, 0, none⟩) m1 m1] 30) := ⟨_, rfl⟩
  obtain ⟨Xx1, hX⟩ : ∃ X : Nat, X = w6.heap.size := ⟨_, rfl⟩
  have hb : Below w6.heap.size w6 w7 := by rw [hW]; exact (Below.refl _ _).alloc (Nat.le_refl _) _
  have y0 : w7.cell? ⟨Xx1, 0, none⟩ = some (.int .i64 s1) := by rw [hW, hX]; simp [go_sem]
  have y1 : w7.cell? ⟨Xx1, 1, none⟩ = some (.slice (some ⟨kx1, 0, none⟩) m1 m1) := by rw [hW, hX]; simp [go_sem]
  have yz : Xx1 < w7.heap.size := by rw [hW, hX]; simp
  have ys : w6.heap.size ≤ Xx1 := by rw [hX]; exact Nat.le_refl _
  have HWx := Lib.hid hW
  have HX := Lib.hid hX
  clear hW hX
  have zz := hb.size
  have e1a_7 := up hb e1a_6 z0_6
  have e1b_7 := up hb e1b_6 z0_6
  have e2a_7 := up hb e2a_6 z1_6
  have e2b_7 := up hb e2b_6 z1_6
  have z0_7 := Nat.lt_of_lt_of_le z0_6 zz
  have z1_7 := Nat.lt_of_lt_of_le z1_6 zz
  replace Ox1 := Lib.hid (Ox1.out.keepB hb (by have := SZ.out; omega))
  replace HB := Lib.hid (HB.out.trans (hb.mono HB.out.size))
  replace SZ := Lib.hid (And.intro SZ.out zz)
  clear zz hb 
  replace SZ := Lib.hid (And.intro SZ.out (And.intro ys yz))
  clear ys
  have bx10_7 := y0
  clear y0
  have bx11_7 := y1
  clear y1
  have zbx1_7 := yz
  clear yz
  go_wp2_with fail
  rw [← HWx.out, ← HX.out]
  clear HWx HX e1a_6 e1b_6 e2a_6 e2b_6 z0_6 z1_6
  go_wp2_with fail
  refine (toGraph_any s2 A2 m2 c2 x2 _ _ (h2.keep HB.out (Nat.le_refl _)) HB.out.size (by omega)).mono ?_
  rintro e w8 ⟨kx2, hkx2, rfl, hox2, hb⟩
  have Ox2 := Lib.hid hox2
  clear hox2
  have zz := hb.size
  have e1a_8 := up hb e1a_7 z0_7
  have e1b_8 := up hb e1b_7 z0_7
  have e2a_8 := up hb e2a_7 z1_7
  have e2b_8 := up hb e2b_7 z1_7
  have bx10_8 := up hb bx10_7 zbx1_7
  have bx11_8 := up hb bx11_7 zbx1_7
  have z0_8 := Nat.lt_of_lt_of_le z0_7 zz
  have z1_8 := Nat.lt_of_lt_of_le z1_7 zz
  have zbx1_8 := Nat.lt_of_lt_of_le zbx1_7 zz
  replace Ox1 := Lib.hid (Ox1.out.keepB hb (by have := SZ.out; omega))
  replace HB := Lib.hid (HB.out.trans (hb.mono HB.out.size))
  replace SZ := Lib.hid (And.intro SZ.out zz)
  clear zz hb e1a_7 e1b_7 e2a_7 e2b_7 bx10_7 bx11_7 z0_7 z1_7 zbx1_7
  clear hkx2
  obtain ⟨w9, hW⟩ : ∃ W : World, W = w8.alloc (Obj.cells #[.int .i64 s2, .slice (some ⟨kx2, 0, none⟩) m2 m2] 30) := ⟨_, rfl⟩
  obtain ⟨Xx2, hX⟩ : ∃ X : Nat, X = w8.heap.size := ⟨_, rfl⟩
  have hb : Below w8.heap.size w8 w9 := by rw [hW]; exact (Below.refl _ _).alloc (Nat.le_refl _) _
  have y0 : w9.cell? ⟨Xx2, 0, none⟩ = some (.int .i64 s2) := by rw [hW, hX]; simp [go_sem]
  have y1 : w9.cell? ⟨Xx2, 1, none⟩ = some (.slice (some ⟨kx2, 0, none⟩) m2 m2) := by rw [hW, hX]; simp [go_sem]
  have yz : Xx2 < w9.heap.size := by rw [hW, hX]; simp
  have ys : w8.heap.size ≤ Xx2 := by rw [hX]; exact Nat.le_refl _
  have HWx := Lib.hid hW
  have HX := Lib.hid hX
  clear hW hX
  have zz := hb.size
  have e1a_9 := up hb e1a_8 z0_8
  have e1b_9 := up hb e1b_8 z0_8
  have e2a_9 := up hb e2a_8 z1_8
  have e2b_9 := up hb e2b_8 z1_8
  have bx10_9 := up hb bx10_8 zbx1_8
  have bx11_9 := up hb bx11_8 zbx1_8
  have z0_9 := Nat.lt_of_lt_of_le z0_8 zz
  have z1_9 := Nat.lt_of_lt_of_le z1_8 zz
  have zbx1_9 := Nat.lt_of_lt_of_le zbx1_8 zz
  replace Ox1 := Lib.hid (Ox1.out.keepB hb (by have := SZ.out; omega))
  replace Ox2 := Lib.hid (Ox2.out.keepB hb (by have := SZ.out; omega))
  replace HB := Lib.hid (HB.out.trans (hb.mono HB.out.size))
  replace SZ := Lib.hid (And.intro SZ.out zz)
  clear zz hb 
  replace SZ := Lib.hid (And.intro SZ.out (And.intro ys yz))
  clear ys
  have bx20_9 := y0
  clear y0
  have bx21_9 := y1
  clear y1
  have zbx2_9 := yz
  clear yz
  go_wp2_with fail
  rw [← HWx.out, ← HX.out]
  clear HWx HX e1a_8 e1b_8 e2a_8 e2b_8 bx10_8 bx11_8 z0_8 z1_8 zbx1_8
  go_wp2_with fail
  refine (CountSandwiches_iL s1 _ m1 m1 x1 s2 _ m2 m2 x2 t3 w9 w9.heap.size (Ox1.out.rd.keep (Below.refl _ _) (by have := SZ.out; omega)) (Ox2.out.rd.keep (Below.refl _ _) (by have := SZ.out; omega)) (Nat.le_refl _) (by omega) (by omega) (by omega)).mono ?_
  rintro e w10 ⟨rfl, hb⟩
  have zz := hb.size
  have e1a_10 := up hb e1a_9 z0_9
  have e1b_10 := up hb e1b_9 z0_9
  have e2a_10 := up hb e2a_9 z1_9
  have e2b_10 := up hb e2b_9 z1_9
  have bx10_10 := up hb bx10_9 zbx1_9
  have bx11_10 := up hb bx11_9 zbx1_9
  have bx20_10 := up hb bx20_9 zbx2_9
  have bx21_10 := up hb bx21_9 zbx2_9
  have z0_10 := Nat.lt_of_lt_of_le z0_9 zz
  have z1_10 := Nat.lt_of_lt_of_le z1_9 zz
  have zbx1_10 := Nat.lt_of_lt_of_le zbx1_9 zz
  have zbx2_10 := Nat.lt_of_lt_of_le zbx2_9 zz
  replace Ox1 := Lib.hid (Ox1.out.keepB hb (by have := SZ.out; omega))
  replace Ox2 := Lib.hid (Ox2.out.keepB hb (by have := SZ.out; omega))
  replace HB := Lib.hid (HB.out.trans (hb.mono HB.out.size))
  replace SZ := Lib.hid (And.intro SZ.out zz)
  clear zz hb e1a_9 e1b_9 e2a_9 e2b_9 bx10_9 bx11_9 bx20_9 bx21_9 z0_9 z1_9 zbx1_9 zbx2_9
  have HK : Hid (∀ a b : World, (w.heap.size < a.heap.size ∧ w.heap.size + 1 < a.heap.size ∧ Xx1 < a.heap.size ∧ Xx2 < a.heap.size ∧ a.cell? ⟨w.heap.size, 0, none⟩ = some (.int .i64 s1) ∧ a.cell? ⟨w.heap.size, 1, none⟩ = some (.slice A1 m1 c1) ∧ a.cell? ⟨w.heap.size + 1, 0, none⟩ = some (.int .i64 s2) ∧ a.cell? ⟨w.heap.size + 1, 1, none⟩ = some (.slice A2 m2 c2) ∧ a.cell? ⟨Xx1, 0, none⟩ = some (.int .i64 s1) ∧ a.cell? ⟨Xx1, 1, none⟩ = some (.slice (some ⟨kx1, 0, none⟩) m1 m1) ∧ a.cell? ⟨Xx2, 0, none⟩ = some (.int .i64 s2) ∧ a.cell? ⟨Xx2, 1, none⟩ = some (.slice (some ⟨kx2, 0, none⟩) m2 m2)) → Below a.heap.size a b → (w.heap.size < b.heap.size ∧ w.heap.size + 1 < b.heap.size ∧ Xx1 < b.heap.size ∧ Xx2 < b.heap.size ∧ b.cell? ⟨w.heap.size, 0, none⟩ = some (.int .i64 s1) ∧ b.cell? ⟨w.heap.size, 1, none⟩ = some (.slice A1 m1 c1) ∧ b.cell? ⟨w.heap.size + 1, 0, none⟩ = some (.int .i64 s2) ∧ b.cell? ⟨w.heap.size + 1, 1, none⟩ = some (.slice A2 m2 c2) ∧ b.cell? ⟨Xx1, 0, none⟩ = some (.int .i64 s1) ∧ b.cell? ⟨Xx1, 1, none⟩ = some (.slice (some ⟨kx1, 0, none⟩) m1 m1) ∧ b.cell? ⟨Xx2, 0, none⟩ = some (.int .i64 s2) ∧ b.cell? ⟨Xx2, 1, none⟩ = some (.slice (some ⟨kx2, 0, none⟩) m2 m2))) := by
    rintro a b ⟨r0, r1, r2, r3, r4, r5, r6, r7, r8, r9, r10, r11⟩ hb
    have := hb.size
    exact ⟨by omega, by omega, by omega, by omega, up hb r4 (by omega), up hb r5 (by omega), up hb r6 (by omega), up hb r7 (by omega), up hb r8 (by omega), up hb r9 (by omega), up hb r10 (by omega), up hb r11 (by omega)⟩
  go_wp2_with fail
  have H10 : Hid (Below w.heap.size w w10.drew) := HB.out.drew
  go_region_held3 (fun a => w.heap.size < a.heap.size ∧ w.heap.size + 1 < a.heap.size ∧ Xx1 < a.heap.size ∧ Xx2 < a.heap.size ∧ a.cell? ⟨w.heap.size, 0, none⟩ = some (.int .i64 s1) ∧ a.cell? ⟨w.heap.size, 1, none⟩ = some (.slice A1 m1 c1) ∧ a.cell? ⟨w.heap.size + 1, 0, none⟩ = some (.int .i64 s2) ∧ a.cell? ⟨w.heap.size + 1, 1, none⟩ = some (.slice A2 m2 c2) ∧ a.cell? ⟨Xx1, 0, none⟩ = some (.int .i64 s1) ∧ a.cell? ⟨Xx1, 1, none⟩ = some (.slice (some ⟨kx1, 0, none⟩) m1 m1) ∧ a.cell? ⟨Xx2, 0, none⟩ = some (.int .i64 s2) ∧ a.cell? ⟨Xx2, 1, none⟩ = some (.slice (some ⟨kx2, 0, none⟩) m2 m2))
    (first | (refine ⟨?_, ?_, ?_, ?_, ?_, ?_, ?_, ?_, ?_, ?_, ?_, ?_⟩ <;> assumption) | exact HK.out _ _ (by assumption) hb12 | exact HK.out _ _ (by assumption) hb11)
    (first
      | (go_at_call 21; ((with_reducible refine (toGraph_any s1 A1 m1 c1 x1 _ _ (h1.keep H10.out (Nat.le_refl _)) H10.out.size (by omega)).mono ?_); rintro e w11 ⟨kt1, hkt1, rfl, hot1, hb11⟩; have H11 := Lib.hid (H10.out.trans (hb11.mono H10.out.size))))
      | (go_at_call 23; ((with_reducible refine (eqGraph_yes _ _ _ _ _ _ _ w11 w11.heap.size w11.heap.size ((Ox1.out.rd.keep (Below.drew (Below.refl _ w10)) (le_drew (by have := SZ.out; omega))).keep hb11 hb11.size) (hot1.rd) (Nat.le_refl _) (Nat.le_refl _) (by omega)).mono ?_); rintro e w12 ⟨rfl, hb12⟩; have H12 := Lib.hid (H11.out.trans (hb12.mono H11.out.size)))))
  clear H11
  clear H12
  clear HK H10
  replace hb11 := bd hb11
  have Ot1 := Lib.hid hot1
  clear hot1
  have zz := hb11.size
  have e1a_11 := up hb11 e1a_10 z0_10
  have e1b_11 := up hb11 e1b_10 z0_10
  have e2a_11 := up hb11 e2a_10 z1_10
  have e2b_11 := up hb11 e2b_10 z1_10
  have bx10_11 := up hb11 bx10_10 zbx1_10
  have bx11_11 := up hb11 bx11_10 zbx1_10
  have bx20_11 := up hb11 bx20_10 zbx2_10
  have bx21_11 := up hb11 bx21_10 zbx2_10
  have z0_11 := Nat.lt_of_lt_of_le z0_10 zz
  have z1_11 := Nat.lt_of_lt_of_le z1_10 zz
  have zbx1_11 := Nat.lt_of_lt_of_le zbx1_10 zz
  have zbx2_11 := Nat.lt_of_lt_of_le zbx2_10 zz
  replace Ox1 := Lib.hid (Ox1.out.keepB hb11 (by have := SZ.out; omega))
  replace Ox2 := Lib.hid (Ox2.out.keepB hb11 (by have := SZ.out; omega))
  replace HB := Lib.hid (HB.out.trans (hb11.mono HB.out.size))
  replace SZ := Lib.hid (And.intro SZ.out zz)
  clear zz hb11 e1a_10 e1b_10 e2a_10 e2b_10 bx10_10 bx11_10 bx20_10 bx21_10 z0_10 z1_10 zbx1_10 zbx2_10
  clear hkt1
  have zz := hb12.size
  have e1a_12 := up hb12 e1a_11 z0_11
  have e1b_12 := up hb12 e1b_11 z0_11
  have e2a_12 := up hb12 e2a_11 z1_11
  have e2b_12 := up hb12 e2b_11 z1_11
  have bx10_12 := up hb12 bx10_11 zbx1_11
  have bx11_12 := up hb12 bx11_11 zbx1_11
  have bx20_12 := up hb12 bx20_11 zbx2_11
  have bx21_12 := up hb12 bx21_11 zbx2_11
  have z0_12 := Nat.lt_of_lt_of_le z0_11 zz
  have z1_12 := Nat.lt_of_lt_of_le z1_11 zz
  have zbx1_12 := Nat.lt_of_lt_of_le zbx1_11 zz
  have zbx2_12 := Nat.lt_of_lt_of_le zbx2_11 zz
  replace Ox1 := Lib.hid (Ox1.out.keepB hb12 (by have := SZ.out; omega))
  replace Ox2 := Lib.hid (Ox2.out.keepB hb12 (by have := SZ.out; omega))
  replace Ot1 := Lib.hid (Ot1.out.keepB hb12 (by have := SZ.out; omega))
  replace HB := Lib.hid (HB.out.trans (hb12.mono HB.out.size))
  replace SZ := Lib.hid (And.intro SZ.out zz)
  clear zz hb12 e1a_11 e1b_11 e2a_11 e2b_11 bx10_11 bx11_11 bx20_11 bx21_11 z0_11 z1_11 zbx1_11 zbx2_11
  clear Ot1
  have HK : Hid (∀ a b : World, (w.heap.size < a.heap.size ∧ w.heap.size + 1 < a.heap.size ∧ Xx1 < a.heap.size ∧ Xx2 < a.heap.size ∧ a.cell? ⟨w.heap.size, 0, none⟩ = some (.int .i64 s1) ∧ a.cell? ⟨w.heap.size, 1, none⟩ = some (.slice A1 m1 c1) ∧ a.cell? ⟨w.heap.size + 1, 0, none⟩ = some (.int .i64 s2) ∧ a.cell? ⟨w.heap.size + 1, 1, none⟩ = some (.slice A2 m2 c2) ∧ a.cell? ⟨Xx1, 0, none⟩ = some (.int .i64 s1) ∧ a.cell? ⟨Xx1, 1, none⟩ = some (.slice (some ⟨kx1, 0, none⟩) m1 m1) ∧ a.cell? ⟨Xx2, 0, none⟩ = some (.int .i64 s2) ∧ a.cell? ⟨Xx2, 1, none⟩ = some (.slice (some ⟨kx2, 0, none⟩) m2 m2)) → Below a.heap.size a b → (w.heap.size < b.heap.size ∧ w.heap.size + 1 < b.heap.size ∧ Xx1 < b.heap.size ∧ Xx2 < b.heap.size ∧ b.cell? ⟨w.heap.size, 0, none⟩ = some (.int .i64 s1) ∧ b.cell? ⟨w.heap.size, 1, none⟩ = some (.slice A1 m1 c1) ∧ b.cell? ⟨w.heap.size + 1, 0, none⟩ = some (.int .i64 s2) ∧ b.cell? ⟨w.heap.size + 1, 1, none⟩ = some (.slice A2 m2 c2) ∧ b.cell? ⟨Xx1, 0, none⟩ = some (.int .i64 s1) ∧ b.cell? ⟨Xx1, 1, none⟩ = some (.slice (some ⟨kx1, 0, none⟩) m1 m1) ∧ b.cell? ⟨Xx2, 0, none⟩ = some (.int .i64 s2) ∧ b.cell? ⟨Xx2, 1, none⟩ = some (.slice (some ⟨kx2, 0, none⟩) m2 m2))) := by
    rintro a b ⟨r0, r1, r2, r3, r4, r5, r6, r7, r8, r9, r10, r11⟩ hb
    have := hb.size
    exact ⟨by omega, by omega, by omega, by omega, up hb r4 (by omega), up hb r5 (by omega), up hb r6 (by omega), up hb r7 (by omega), up hb r8 (by omega), up hb r9 (by omega), up hb r10 (by omega), up hb r11 (by omega)⟩
  go_wp2_with fail
  have H12 : Hid (Below w.heap.size w w12.drew) := HB.out.drew
  go_region_held3 (fun a => w.heap.size < a.heap.size ∧ w.heap.size + 1 < a.heap.size ∧ Xx1 < a.heap.size ∧ Xx2 < a.heap.size ∧ a.cell? ⟨w.heap.size, 0, none⟩ = some (.int .i64 s1) ∧ a.cell? ⟨w.heap.size, 1, none⟩ = some (.slice A1 m1 c1) ∧ a.cell? ⟨w.heap.size + 1, 0, none⟩ = some (.int .i64 s2) ∧ a.cell? ⟨w.heap.size + 1, 1, none⟩ = some (.slice A2 m2 c2) ∧ a.cell? ⟨Xx1, 0, none⟩ = some (.int .i64 s1) ∧ a.cell? ⟨Xx1, 1, none⟩ = some (.slice (some ⟨kx1, 0, none⟩) m1 m1) ∧ a.cell? ⟨Xx2, 0, none⟩ = some (.int .i64 s2) ∧ a.cell? ⟨Xx2, 1, none⟩ = some (.slice (some ⟨kx2, 0, none⟩) m2 m2))
    (first | (refine ⟨?_, ?_, ?_, ?_, ?_, ?_, ?_, ?_, ?_, ?_, ?_, ?_⟩ <;> assumption) | exact HK.out _ _ (by assumption) hb14 | exact HK.out _ _ (by assumption) hb13)
    (first
      | (go_at_call 21; ((with_reducible refine (toGraph_any s2 A2 m2 c2 x2 _ _ (h2.keep H12.out (Nat.le_refl _)) H12.out.size (by omega)).mono ?_); rintro e w13 ⟨kt2, hkt2, rfl, hot2, hb13⟩; have H13 := Lib.hid (H12.out.trans (hb13.mono H12.out.size))))
      | (go_at_call 23; ((with_reducible refine (eqGraph_yes _ _ _ _ _ _ _ w13 w13.heap.size w13.heap.size ((Ox2.out.rd.keep (Below.drew (Below.refl _ w12)) (le_drew (by have := SZ.out; omega))).keep hb13 hb13.size) (hot2.rd) (Nat.le_refl _) (Nat.le_refl _) (by omega)).mono ?_); rintro e w14 ⟨rfl, hb14⟩; have H14 := Lib.hid (H13.out.trans (hb14.mono H13.out.size)))))
  clear H13
  clear H14
  clear HK H12
  replace hb13 := bd hb13
  have Ot2 := Lib.hid hot2
  clear hot2
  have zz := hb13.size
  have e1a_13 := up hb13 e1a_12 z0_12
  have e1b_13 := up hb13 e1b_12 z0_12
  have e2a_13 := up hb13 e2a_12 z1_12
  have e2b_13 := up hb13 e2b_12 z1_12
  have bx10_13 := up hb13 bx10_12 zbx1_12
  have bx11_13 := up hb13 bx11_12 zbx1_12
  have bx20_13 := up hb13 bx20_12 zbx2_12
  have bx21_13 := up hb13 bx21_12 zbx2_12
  have z0_13 := Nat.lt_of_lt_of_le z0_12 zz
  have z1_13 := Nat.lt_of_lt_of_le z1_12 zz
  have zbx1_13 := Nat.lt_of_lt_of_le zbx1_12 zz
  have zbx2_13 := Nat.lt_of_lt_of_le zbx2_12 zz
  replace Ox1 := Lib.hid (Ox1.out.keepB hb13 (by have := SZ.out; omega))
  replace Ox2 := Lib.hid (Ox2.out.keepB hb13 (by have := SZ.out; omega))
  replace HB := Lib.hid (HB.out.trans (hb13.mono HB.out.size))
  replace SZ := Lib.hid (And.intro SZ.out zz)
  clear zz hb13 e1a_12 e1b_12 e2a_12 e2b_12 bx10_12 bx11_12 bx20_12 bx21_12 z0_12 z1_12 zbx1_12 zbx2_12
  clear hkt2
  have zz := hb14.size
  have e1a_14 := up hb14 e1a_13 z0_13
  have e1b_14 := up hb14 e1b_13 z0_13
  have e2a_14 := up hb14 e2a_13 z1_13
  have e2b_14 := up hb14 e2b_13 z1_13
  have bx10_14 := up hb14 bx10_13 zbx1_13
  have bx11_14 := up hb14 bx11_13 zbx1_13
  have bx20_14 := up hb14 bx20_13 zbx2_13
  have bx21_14 := up hb14 bx21_13 zbx2_13
  have z0_14 := Nat.lt_of_lt_of_le z0_13 zz
  have z1_14 := Nat.lt_of_lt_of_le z1_13 zz
  have zbx1_14 := Nat.lt_of_lt_of_le zbx1_13 zz
  have zbx2_14 := Nat.lt_of_lt_of_le zbx2_13 zz
  replace Ox1 := Lib.hid (Ox1.out.keepB hb14 (by have := SZ.out; omega))
  replace Ox2 := Lib.hid (Ox2.out.keepB hb14 (by have := SZ.out; omega))
  replace Ot2 := Lib.hid (Ot2.out.keepB hb14 (by have := SZ.out; omega))
  replace HB := Lib.hid (HB.out.trans (hb14.mono HB.out.size))
  replace SZ := Lib.hid (And.intro SZ.out zz)
  clear zz hb14 e1a_13 e1b_13 e2a_13 e2b_13 bx10_13 bx11_13 bx20_13 bx21_13 z0_13 z1_13 zbx1_13 zbx2_13
  clear Ot2
  go_wp2
  go_ret
  exact ⟨rfl, HB.out⟩

set_option maxRecDepth 100000 in
theorem lifted (os : Os) (started : os.Started) (H : Type) (enc : TypeId × Value → H) :
    ReturnsInHanded {} Tryz.checked os 10 .any (Rows.fnExactCountSandwichesSpec.pre6 enc Tryz.prog Tryz.f10 Rows.fnExactCountSandwichesRow.domain false) (Rows.fnExactCountSandwichesSpec.post enc Tryz.prog Tryz.f10 false true false false) := by
  refine returnsInHanded_of_change (C := Tryz.checked) own started (by kernel_rfl) Tryz.func10
    (ChangeSpec.witness6 (enc := enc) (C := Tryz.checked) false ⟨#[], #[.agg #[.int .i64 0, .slice none 0 0], .agg #[.int .i64 0, .slice none 0 0], .string ⟨#[]⟩], []⟩ 8 (by kernel_rfl) (by kernel_rfl) (by kernel_rfl) (by kernel_rfl)) ?_
  intro W base args ds gs before hval0 hW hcnd _
  have hval : ∀ (j : Nat) t v, Tryz.f10.params[j]? = some t → args[j]? = some v → Value.okWide Tryz.prog W .any base t v := hval0
  have hW' := hW
  obtain ⟨p, q, hA0, hV, rfl, hfz, hnd⟩ := hW
  have hA : DataW.TrodAll enc Tryz.prog W 0 (fun _ => true) true Tryz.f10.params.toList args.toList ds p := hA0
  rw [Tryz.params10] at hA hval
  obtain ⟨v0, vs0, d0, ds0, p0, q0, hargs, rfl, rfl, l0, r0⟩ := trodAll_cons hA
  obtain ⟨v1, vs1, d1, ds1, p1, q1, rfl, rfl, rfl, l1, r1⟩ := trodAll_cons r0
  obtain ⟨v2, vs2, d2, ds2, p2, q2, rfl, rfl, rfl, l2, r2⟩ := trodAll_cons r1
  obtain ⟨rfl, rfl, rfl⟩ := trodAll_nil r2
  obtain rfl : args = #[v0, v1, v2] := by cases args; simp_all
  obtain ⟨rfl, rfl⟩ := trodVars_none hV
  have lt0 := places_lt l0
  obtain ⟨s1, A1, m1, c1, x1, rfl, h1, n1⟩ := open_graph (hval 0 24 v0 rfl rfl) l0
  have lt1 := places_lt l1
  obtain ⟨s2, A2, m2, c2, x2, rfl, h2, n2⟩ := open_graph (hval 1 24 v1 rfl rfl) l1
  have lt2 := places_lt l2
  obtain ⟨t3, rfl, n3⟩ := open_string_arg (hval 2 9 v2 rfl rfl) l2
  clear hA0 hval0
  refine (walk s1 A1 m1 c1 x1 s2 A2 m2 c2 x2 t3 W h1 n1 h2 n2 n3).mono fun e W' ⟨he, bel⟩ => ?_
  subst he
  exact ⟨_, rfl, _, _, _, [], _, [], hW', trodAll_mk1 (shut_bool Tryz.underlying4 _), (trodAll_cons_mk (Below.trod laidOut (by kernel_rfl) (of_decide_eq_true (by kernel_rfl)) l0 bel lt0) (trodAll_cons_mk (Below.trod laidOut (by kernel_rfl) (of_decide_eq_true (by kernel_rfl)) l1 bel lt1) (trodAll_cons_mk (Below.trod laidOut (by kernel_rfl) (of_decide_eq_true (by kernel_rfl)) l2 bel lt2) trodAll_mk0))), rfl, bel.frame _, fun h => by cases h⟩

theorem unf : Tryz.pinned.checked.prog.unfollowed 10 = true := unfollowed_of (closure_step (closure_step (closure_step (closure_step (closure_step (closure_step closure_self (h := 40) (by kernel_rfl)) (h := 116) (by kernel_rfl)) (h := 22) (by kernel_rfl)) (h := 90) (by kernel_rfl)) (h := 198) (by kernel_rfl)) (h := 221) (by kernel_rfl)) (by kernel_rfl)
theorem closed : joinedFacts Tryz.pinned.checked.prog 10 Tryz.f10 Rows.fnExactCountSandwichesSpec Rows.fnExactCountSandwichesRow = true := by
  unfold joinedFacts
  rw [inPlace_none (f := 10) all_own (by decide) (by decide), varsNamed_none (f := 10) all_own (by decide) (by decide), recurses_of unf, unf]
  kernel_rfl
theorem over : Rows.fnExactCountSandwichesRow.holds Tryz.pinned (OpenSpec.ofChange Rows.fnExactCountSandwichesSpec) :=
  OpenClaim.holds_of_wide 10 Tryz.f10 rfl rfl rfl rfl rfl rfl rfl ⟨rfl, rfl, rfl, rfl, rfl⟩ rfl rfl rfl rfl rfl (by kernel_rfl) Tryz.func10 closed
    (of_decide_eq_true (by kernel_rfl)) (by unfold Func.isWrapper; first | (rw [if_pos (by decide +kernel)]; kernel_rfl) | (rw [if_neg (by decide +kernel)]; exact ⟨rfl, rfl⟩))
    (fun os started H enc _ => lifted os started H enc)

/-- The statement. -/
theorem proved : Rows.FnExactCountSandwichesSaid := over
#print axioms proved
end Go.Proofs.YtmkahbephidmbaaGreat.fnExactCountSandwiches
