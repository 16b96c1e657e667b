/-
  The program's IsSandwich answers as the reference's for every three graphs: the law FnExactIsSandwich answers true at every input.
  No condition.
-/
import Derived.Test.YtccblehcemggjaaSandwich
import Derived.Test.YtccblehcemggjaaOpen
import Derived.Deep.RegionHeld3
namespace Go.Proofs.Ytccblehcemggjaa.fnExactIsSandwich
open Go.ChangeShapes Go.WideShapes Go.ChangeAt Go.RowKit

theorem cs (s1 : Int) (A1 : Option Addr) (m1 : Nat) (c1 : Nat) (x1 : Nat → Int) (s2 : Int) (A2 : Option Addr) (m2 : Nat) (c2 : Nat) (x2 : Nat → Int) (s3 : Int) (A3 : Option Addr) (m3 : Nat) (c3 : Nat) (x3 : Nat → Int) (W : World) (B : Nat) (h1 : Rd W B A1 m1 c1 x1) (h2 : Rd W B A2 m2 c2 x2) (h3 : Rd W B A3 m3 c3 x3) (hB : B ≤ W.heap.size) (hm1 : m1 ≤ 1048576) (hm2 : m2 ≤ 1048576) (hm3 : m3 ≤ 1048576) :
    Calls Try.prog 30 #[.agg #[.int .i64 s1, .slice A1 m1 c1], .agg #[.int .i64 s2, .slice A2 m2 c2], .agg #[.int .i64 s3, .slice A3 m3 c3]] W fun e w' => e = .returned (.bool (wiB s1 m1 x1 s3 m3 x3 && wiB s3 m3 x3 s2 m2 x2)) ∧ Below W.heap.size W w' :=
  IsSandwich_sany s1 s2 s3 A1 A2 A3 m1 m2 m3 c1 c2 c3 x1 x2 x3 W B h1 h2 h3 hB hm1 hm2 hm3
theorem ci (s1 : Int) (A1 : Option Addr) (m1 : Nat) (c1 : Nat) (x1 : Nat → Int) (s2 : Int) (A2 : Option Addr) (m2 : Nat) (c2 : Nat) (x2 : Nat → Int) (s3 : Int) (A3 : Option Addr) (m3 : Nat) (c3 : Nat) (x3 : Nat → Int) (W : World) (B : Nat) (h1 : Rd W B A1 m1 c1 x1) (h2 : Rd W B A2 m2 c2 x2) (h3 : Rd W B A3 m3 c3 x3) (hB : B ≤ W.heap.size) (hm1 : m1 ≤ 1048576) (hm2 : m2 ≤ 1048576) (hm3 : m3 ≤ 1048576) :
    Calls Try.prog 32 #[.agg #[.int .i64 s1, .slice A1 m1 c1], .agg #[.int .i64 s2, .slice A2 m2 c2], .agg #[.int .i64 s3, .slice A3 m3 c3]] W fun e w' => e = .returned (.bool (wiB s1 m1 x1 s3 m3 x3 && wiB s3 m3 x3 s2 m2 x2)) ∧ Below W.heap.size W w' :=
  IsSandwich_any s1 s2 s3 A1 A2 A3 m1 m2 m3 c1 c2 c3 x1 x2 x3 W B h1 h2 h3 hB hm1 hm2 hm3

set_option maxRecDepth 100000 in
set_option maxHeartbeats 1000000 in
theorem walk (s1 : Int) (A1 : Option Addr) (m1 : Nat) (c1 : Nat) (x1 : Nat → Int) (s2 : Int) (A2 : Option Addr) (m2 : Nat) (c2 : Nat) (x2 : Nat → Int) (s3 : Int) (A3 : Option Addr) (m3 : Nat) (c3 : Nat) (x3 : Nat → Int) (w : World) (h1 : Rd w w.heap.size A1 m1 c1 x1) (n1 : m1 ≤ maxLen) (h2 : Rd w w.heap.size A2 m2 c2 x2) (n2 : m2 ≤ maxLen) (h3 : Rd w w.heap.size A3 m3 c3 x3) (n3 : m3 ≤ maxLen) :
    Calls Try.prog 6 #[.agg #[.int .i64 s1, .slice A1 m1 c1], .agg #[.int .i64 s2, .slice A2 m2 c2], .agg #[.int .i64 s3, .slice A3 m3 c3]] w fun e w' => e = .returned (.bool true) ∧ Below w.heap.size w w' := by
  obtain ⟨w0, hW⟩ : ∃ W : World, W = (((w.alloc (Obj.cells #[Value.int IntKind.i64 s1, Value.slice A1 m1 c1] 39)).alloc (Obj.cells #[Value.int IntKind.i64 s2, Value.slice A2 m2 c2] 39)).alloc (Obj.cells #[Value.int IntKind.i64 s3, Value.slice A3 m3 c3] 39)) := ⟨_, rfl⟩
  have HB0 : Hid (Below w.heap.size w w0) := by rw [hW]; exact ((((Below.refl _ _).alloc (by simp) _).alloc (by simp) _).alloc (by simp; omega) _)
  have z0_0 : w.heap.size < w0.heap.size := by rw [hW]; simp <;> omega
  have z1_0 : w.heap.size + 1 < w0.heap.size := by rw [hW]; simp <;> omega
  have z2_0 : w.heap.size + 1 + 1 < w0.heap.size := by rw [hW]; simp <;> omega
  have e1a_0 : w0.cell? ⟨w.heap.size, 0, none⟩ = some (.int .i64 s1) := by rw [hW]; simp [go_sem]
  have e1b_0 : w0.cell? ⟨w.heap.size, 1, none⟩ = some (.slice A1 m1 c1) := by rw [hW]; simp [go_sem]
  have e2a_0 : w0.cell? ⟨w.heap.size + 1, 0, none⟩ = some (.int .i64 s2) := by rw [hW]; simp [go_sem]
  have e2b_0 : w0.cell? ⟨w.heap.size + 1, 1, none⟩ = some (.slice A2 m2 c2) := by rw [hW]; simp [go_sem]
  have e3a_0 : w0.cell? ⟨w.heap.size + 1 + 1, 0, none⟩ = some (.int .i64 s3) := by rw [hW]; simp [go_sem]
  have e3b_0 : w0.cell? ⟨w.heap.size + 1 + 1, 1, none⟩ = some (.slice A3 m3 c3) := by rw [hW]; simp [go_sem]
  have HW := Lib.hid hW
  clear hW
  go_enter Try.func6, Try.ntmps6
  go_wp2_with fail
  rw [← HW.out]
  clear HW
  refine (szGraph_any s1 A1 m1 c1 (1048576) w0 n1 (by omega) (by omega)).mono ?_
  rintro e w1 ⟨rfl, hb⟩
  have zz := hb.size
  have e1a_1 := up hb e1a_0 (by omega)
  have e1b_1 := up hb e1b_0 (by omega)
  have e2a_1 := up hb e2a_0 (by omega)
  have e2b_1 := up hb e2b_0 (by omega)
  have e3a_1 := up hb e3a_0 (by omega)
  have e3b_1 := up hb e3b_0 (by omega)
  have z0_1 : w.heap.size < w1.heap.size := by omega
  have z1_1 : w.heap.size + 1 < w1.heap.size := by omega
  have z2_1 : w.heap.size + 1 + 1 < w1.heap.size := by omega
  have HB1 := Lib.hid (HB0.out.trans (hb.mono HB0.out.size))
  clear zz hb e1a_0 e1b_0 e2a_0 e2b_0 e3a_0 e3b_0 z0_0 z1_0 z2_0 HB0
  by_cases p1 : (1048576 : Int) < m1
  · have q1 : szl (1048576) m1 < 0 := by unfold szl; rw [if_pos p1]; omega
    clear p1
    go_wp2
    go_ret
    exact ⟨rfl, HB1.out⟩
  have q1 : szl (1048576) m1 = (1048576 : Int) - m1 := by unfold szl; rw [if_neg p1]
  rw [q1]
  clear q1 n1
  go_wp2_with fail
  refine (szGraph_any s2 A2 m2 c2 (1048576 - m1) w1 n2 (by omega) (by omega)).mono ?_
  rintro e w2 ⟨rfl, hb⟩
  have zz := hb.size
  have e1a_2 := up hb e1a_1 (by omega)
  have e1b_2 := up hb e1b_1 (by omega)
  have e2a_2 := up hb e2a_1 (by omega)
  have e2b_2 := up hb e2b_1 (by omega)
  have e3a_2 := up hb e3a_1 (by omega)
  have e3b_2 := up hb e3b_1 (by omega)
  have z0_2 : w.heap.size < w2.heap.size := by omega
  have z1_2 : w.heap.size + 1 < w2.heap.size := by omega
  have z2_2 : w.heap.size + 1 + 1 < w2.heap.size := by omega
  have HB2 := Lib.hid (HB1.out.trans (hb.mono HB1.out.size))
  clear zz hb e1a_1 e1b_1 e2a_1 e2b_1 e3a_1 e3b_1 z0_1 z1_1 z2_1 HB1
  by_cases p2 : (1048576 - m1 : Int) < m2
  · have q1 : szl (1048576 - m1) m2 < 0 := by unfold szl; rw [if_pos p2]; omega
    clear p2
    go_wp2
    go_ret
    exact ⟨rfl, HB2.out⟩
  have q1 : szl (1048576 - m1) m2 = (1048576 : Int) - m1 - m2 := by unfold szl; rw [if_neg p2]
  rw [q1]
  clear q1 n2
  go_wp2_with fail
  refine (szGraph_any s3 A3 m3 c3 (1048576 - m1 - m2) w2 n3 (by omega) (by omega)).mono ?_
  rintro e w3 ⟨rfl, hb⟩
  have zz := hb.size
  have e1a_3 := up hb e1a_2 (by omega)
  have e1b_3 := up hb e1b_2 (by omega)
  have e2a_3 := up hb e2a_2 (by omega)
  have e2b_3 := up hb e2b_2 (by omega)
  have e3a_3 := up hb e3a_2 (by omega)
  have e3b_3 := up hb e3b_2 (by omega)
  have z0_3 : w.heap.size < w3.heap.size := by omega
  have z1_3 : w.heap.size + 1 < w3.heap.size := by omega
  have z2_3 : w.heap.size + 1 + 1 < w3.heap.size := by omega
  have HB3 := Lib.hid (HB2.out.trans (hb.mono HB2.out.size))
  clear zz hb e1a_2 e1b_2 e2a_2 e2b_2 e3a_2 e3b_2 z0_2 z1_2 z2_2 HB2
  by_cases p3 : (1048576 - m1 - m2 : Int) < m3
  · have q1 : szl (1048576 - m1 - m2) m3 < 0 := by unfold szl; rw [if_pos p3]; omega
    clear p3
    go_wp2
    go_ret
    exact ⟨rfl, HB3.out⟩
  have q1 : szl (1048576 - m1 - m2) m3 = (1048576 : Int) - m1 - m2 - m3 := by unfold szl; rw [if_neg p3]
  rw [q1]
  clear q1 n3
  have HBd : Hid (Below w.heap.size w w3.drew) := HB3.out.drew
  have HK : Hid (∀ a b : World, (w.heap.size < a.heap.size ∧ w.heap.size + 1 < a.heap.size ∧ w.heap.size + 1 + 1 < a.heap.size ∧ a.cell? ⟨w.heap.size, 0, none⟩ = some (.int .i64 s1) ∧ a.cell? ⟨w.heap.size, 1, none⟩ = some (.slice A1 m1 c1) ∧ a.cell? ⟨w.heap.size + 1, 0, none⟩ = some (.int .i64 s2) ∧ a.cell? ⟨w.heap.size + 1, 1, none⟩ = some (.slice A2 m2 c2) ∧ a.cell? ⟨w.heap.size + 1 + 1, 0, none⟩ = some (.int .i64 s3) ∧ a.cell? ⟨w.heap.size + 1 + 1, 1, none⟩ = some (.slice A3 m3 c3)) → Below a.heap.size a b → (w.heap.size < b.heap.size ∧ w.heap.size + 1 < b.heap.size ∧ w.heap.size + 1 + 1 < b.heap.size ∧ b.cell? ⟨w.heap.size, 0, none⟩ = some (.int .i64 s1) ∧ b.cell? ⟨w.heap.size, 1, none⟩ = some (.slice A1 m1 c1) ∧ b.cell? ⟨w.heap.size + 1, 0, none⟩ = some (.int .i64 s2) ∧ b.cell? ⟨w.heap.size + 1, 1, none⟩ = some (.slice A2 m2 c2) ∧ b.cell? ⟨w.heap.size + 1 + 1, 0, none⟩ = some (.int .i64 s3) ∧ b.cell? ⟨w.heap.size + 1 + 1, 1, none⟩ = some (.slice A3 m3 c3))) := by
    rintro a b ⟨r0, r1, r2, r3, r4, r5, r6, r7, r8⟩ hb
    have := hb.size
    exact ⟨by omega, by omega, by omega, up hb r3 (by omega), up hb r4 (by omega), up hb r5 (by omega), up hb r6 (by omega), up hb r7 (by omega), up hb r8 (by omega)⟩
  go_wp2_with fail
  go_region_held3 (fun a => w.heap.size < a.heap.size ∧ w.heap.size + 1 < a.heap.size ∧ w.heap.size + 1 + 1 < a.heap.size ∧ a.cell? ⟨w.heap.size, 0, none⟩ = some (.int .i64 s1) ∧ a.cell? ⟨w.heap.size, 1, none⟩ = some (.slice A1 m1 c1) ∧ a.cell? ⟨w.heap.size + 1, 0, none⟩ = some (.int .i64 s2) ∧ a.cell? ⟨w.heap.size + 1, 1, none⟩ = some (.slice A2 m2 c2) ∧ a.cell? ⟨w.heap.size + 1 + 1, 0, none⟩ = some (.int .i64 s3) ∧ a.cell? ⟨w.heap.size + 1 + 1, 1, none⟩ = some (.slice A3 m3 c3))
    (first | (refine ⟨?_, ?_, ?_, ?_, ?_, ?_, ?_, ?_, ?_⟩ <;> assumption) | exact HK.out _ _ (by assumption) byy | exact HK.out _ _ (by assumption) by3 | exact HK.out _ _ (by assumption) by2 | exact HK.out _ _ (by assumption) by1)
    (first
      | (go_at_call 31; ((with_reducible refine (toGraph_any s1 A1 m1 c1 x1 _ _ (h1.keep HBd.out (Nat.le_refl _)) HBd.out.size (by omega)).mono ?_); rintro e y1 ⟨gy1, hgy1, rfl, hoy1, by1⟩; have Hy1 := Lib.hid (HBd.out.trans (by1.mono HBd.out.size))))
      | (go_at_call 31; ((with_reducible refine (toGraph_any s2 A2 m2 c2 x2 _ _ (h2.keep Hy1.out (Nat.le_refl _)) Hy1.out.size (by omega)).mono ?_); rintro e y2 ⟨gy2, hgy2, rfl, hoy2, by2⟩; have Hy2 := Lib.hid (Hy1.out.trans (by2.mono Hy1.out.size))))
      | (go_at_call 31; ((with_reducible refine (toGraph_any s3 A3 m3 c3 x3 _ _ (h3.keep Hy2.out (Nat.le_refl _)) Hy2.out.size (by omega)).mono ?_); rintro e y3 ⟨gy3, hgy3, rfl, hoy3, by3⟩; have Hy3 := Lib.hid (Hy2.out.trans (by3.mono Hy2.out.size))))
      | (go_at_call 30; ((refine (cs s1 _ m1 m1 x1 s2 _ m2 m2 x2 s3 _ m3 m3 x3 y3 y3.heap.size (((hoy1.rd.keep by2 by2.size).keep by3 by3.size)) ((hoy2.rd.keep by3 by3.size)) (hoy3.rd) (Nat.le_refl _) (by omega) (by omega) (by omega)).mono ?_); rintro e yy ⟨rfl, byy⟩; have Hyy := Lib.hid (Hy3.out.trans (byy.mono Hy3.out.size)))))
  obtain ⟨z0_4, z1_4, z2_4, e1a_4, e1b_4, e2a_4, e2b_4, e3a_4, e3b_4⟩ := HK.out _ _ (HK.out _ _ (HK.out _ _ (HK.out w3.drew _ ⟨z0_3, z1_3, z2_3, e1a_3, e1b_3, e2a_3, e2b_3, e3a_3, e3b_3⟩ by1) by2) by3) byy
  have HB4 := Hyy
  clear z0_3 z1_3 z2_3 e1a_3 e1b_3 e2a_3 e2b_3 e3a_3 e3b_3 by1 by2 by3 hoy1 hoy2 hoy3 hgy1 hgy2 hgy3 Hy1 Hy2 Hy3 byy Hyy HB3 HBd HK
  obtain ⟨w4, rfl⟩ : ∃ W : World, W = yy := ⟨_, rfl⟩
  go_wp2_with fail
  refine (toGraph_any s1 A1 m1 c1 x1 _ _ (h1.keep HB4.out (Nat.le_refl _)) HB4.out.size (by omega)).mono ?_
  rintro e w5 ⟨k1, hk, rfl, ho, hb⟩
  have K1 := Lib.hid ho.rd
  have zz := hb.size
  have e1a_5 := up hb e1a_4 (by omega)
  have e1b_5 := up hb e1b_4 (by omega)
  have e2a_5 := up hb e2a_4 (by omega)
  have e2b_5 := up hb e2b_4 (by omega)
  have e3a_5 := up hb e3a_4 (by omega)
  have e3b_5 := up hb e3b_4 (by omega)
  have z0_5 : w.heap.size < w5.heap.size := by omega
  have z1_5 : w.heap.size + 1 < w5.heap.size := by omega
  have z2_5 : w.heap.size + 1 + 1 < w5.heap.size := by omega
  have HB5 := Lib.hid (HB4.out.trans (hb.mono HB4.out.size))
  clear zz hb e1a_4 e1b_4 e2a_4 e2b_4 e3a_4 e3b_4 z0_4 z1_4 z2_4 HB4
  clear ho hk
  obtain ⟨w6, hW⟩ : ∃ W : World, W = w5.alloc (Obj.cells #[Value.int IntKind.i64 s1, Value.slice (some ⟨k1, 0, none⟩) m1 m1] 42) := ⟨_, rfl⟩
  obtain ⟨X1, hX1⟩ : ∃ X : Nat, X = w5.heap.size := ⟨_, rfl⟩
  have hb : Below w5.heap.size w5 w6 := by rw [hW]; exact (Below.refl _ _).alloc (Nat.le_refl _) _
  have y0 : w6.cell? ⟨X1, 0, none⟩ = some (.int .i64 s1) := by rw [hW, hX1]; simp [go_sem]
  have y1 : w6.cell? ⟨X1, 1, none⟩ = some (.slice (some ⟨k1, 0, none⟩) m1 m1) := by rw [hW, hX1]; simp [go_sem]
  have y2 : X1 < w6.heap.size := by rw [hW, hX1]; simp
  have HW := Lib.hid hW
  have HX := Lib.hid hX1
  clear hW hX1
  have K1 := Lib.hid (K1.out.keep hb hb.size)
  have zz := hb.size
  have e1a_6 := up hb e1a_5 (by omega)
  have e1b_6 := up hb e1b_5 (by omega)
  have e2a_6 := up hb e2a_5 (by omega)
  have e2b_6 := up hb e2b_5 (by omega)
  have e3a_6 := up hb e3a_5 (by omega)
  have e3b_6 := up hb e3b_5 (by omega)
  have z0_6 : w.heap.size < w6.heap.size := by omega
  have z1_6 : w.heap.size + 1 < w6.heap.size := by omega
  have z2_6 : w.heap.size + 1 + 1 < w6.heap.size := by omega
  have HB6 := Lib.hid (HB5.out.trans (hb.mono HB5.out.size))
  clear zz hb 
  have x1a_6 := y0
  have x1b_6 := y1
  have zx1_6 := y2
  clear y0 y1 y2
  go_wp2_with fail
  rw [← HW.out, ← HX.out]
  clear HW HX e1a_5 e1b_5 e2a_5 e2b_5 e3a_5 e3b_5 z0_5 z1_5 z2_5 HB5
  go_wp2_with fail
  refine (toGraph_any s2 A2 m2 c2 x2 _ _ (h2.keep HB6.out (Nat.le_refl _)) HB6.out.size (by omega)).mono ?_
  rintro e w7 ⟨k2, hk, rfl, ho, hb⟩
  have K2 := Lib.hid ho.rd
  have K1 := Lib.hid (K1.out.keep hb hb.size)
  have zz := hb.size
  have e1a_7 := up hb e1a_6 (by omega)
  have e1b_7 := up hb e1b_6 (by omega)
  have e2a_7 := up hb e2a_6 (by omega)
  have e2b_7 := up hb e2b_6 (by omega)
  have e3a_7 := up hb e3a_6 (by omega)
  have e3b_7 := up hb e3b_6 (by omega)
  have x1a_7 := up hb x1a_6 (by omega)
  have x1b_7 := up hb x1b_6 (by omega)
  have z0_7 : w.heap.size < w7.heap.size := by omega
  have z1_7 : w.heap.size + 1 < w7.heap.size := by omega
  have z2_7 : w.heap.size + 1 + 1 < w7.heap.size := by omega
  have zx1_7 : X1 < w7.heap.size := by omega
  have HB7 := Lib.hid (HB6.out.trans (hb.mono HB6.out.size))
  clear zz hb e1a_6 e1b_6 e2a_6 e2b_6 e3a_6 e3b_6 x1a_6 x1b_6 z0_6 z1_6 z2_6 zx1_6 HB6
  clear ho hk
  obtain ⟨w8, hW⟩ : ∃ W : World, W = w7.alloc (Obj.cells #[Value.int IntKind.i64 s2, Value.slice (some ⟨k2, 0, none⟩) m2 m2] 42) := ⟨_, rfl⟩
  obtain ⟨X2, hX2⟩ : ∃ X : Nat, X = w7.heap.size := ⟨_, rfl⟩
  have hb : Below w7.heap.size w7 w8 := by rw [hW]; exact (Below.refl _ _).alloc (Nat.le_refl _) _
  have y0 : w8.cell? ⟨X2, 0, none⟩ = some (.int .i64 s2) := by rw [hW, hX2]; simp [go_sem]
  have y1 : w8.cell? ⟨X2, 1, none⟩ = some (.slice (some ⟨k2, 0, none⟩) m2 m2) := by rw [hW, hX2]; simp [go_sem]
  have y2 : X2 < w8.heap.size := by rw [hW, hX2]; simp
  have HW := Lib.hid hW
  have HX := Lib.hid hX2
  clear hW hX2
  have K1 := Lib.hid (K1.out.keep hb hb.size)
  have K2 := Lib.hid (K2.out.keep hb hb.size)
  have zz := hb.size
  have e1a_8 := up hb e1a_7 (by omega)
  have e1b_8 := up hb e1b_7 (by omega)
  have e2a_8 := up hb e2a_7 (by omega)
  have e2b_8 := up hb e2b_7 (by omega)
  have e3a_8 := up hb e3a_7 (by omega)
  have e3b_8 := up hb e3b_7 (by omega)
  have x1a_8 := up hb x1a_7 (by omega)
  have x1b_8 := up hb x1b_7 (by omega)
  have z0_8 : w.heap.size < w8.heap.size := by omega
  have z1_8 : w.heap.size + 1 < w8.heap.size := by omega
  have z2_8 : w.heap.size + 1 + 1 < w8.heap.size := by omega
  have zx1_8 : X1 < w8.heap.size := by omega
  have HB8 := Lib.hid (HB7.out.trans (hb.mono HB7.out.size))
  clear zz hb 
  have x2a_8 := y0
  have x2b_8 := y1
  have zx2_8 := y2
  clear y0 y1 y2
  go_wp2_with fail
  rw [← HW.out, ← HX.out]
  clear HW HX e1a_7 e1b_7 e2a_7 e2b_7 e3a_7 e3b_7 x1a_7 x1b_7 z0_7 z1_7 z2_7 zx1_7 HB7
  go_wp2_with fail
  refine (toGraph_any s3 A3 m3 c3 x3 _ _ (h3.keep HB8.out (Nat.le_refl _)) HB8.out.size (by omega)).mono ?_
  rintro e w9 ⟨k3, hk, rfl, ho, hb⟩
  have K3 := Lib.hid ho.rd
  have K1 := Lib.hid (K1.out.keep hb hb.size)
  have K2 := Lib.hid (K2.out.keep hb hb.size)
  have zz := hb.size
  have e1a_9 := up hb e1a_8 (by omega)
  have e1b_9 := up hb e1b_8 (by omega)
  have e2a_9 := up hb e2a_8 (by omega)
  have e2b_9 := up hb e2b_8 (by omega)
  have e3a_9 := up hb e3a_8 (by omega)
  have e3b_9 := up hb e3b_8 (by omega)
  have x1a_9 := up hb x1a_8 (by omega)
  have x1b_9 := up hb x1b_8 (by omega)
  have x2a_9 := up hb x2a_8 (by omega)
  have x2b_9 := up hb x2b_8 (by omega)
  have z0_9 : w.heap.size < w9.heap.size := by omega
  have z1_9 : w.heap.size + 1 < w9.heap.size := by omega
  have z2_9 : w.heap.size + 1 + 1 < w9.heap.size := by omega
  have zx1_9 : X1 < w9.heap.size := by omega
  have zx2_9 : X2 < w9.heap.size := by omega
  have HB9 := Lib.hid (HB8.out.trans (hb.mono HB8.out.size))
  clear zz hb e1a_8 e1b_8 e2a_8 e2b_8 e3a_8 e3b_8 x1a_8 x1b_8 x2a_8 x2b_8 z0_8 z1_8 z2_8 zx1_8 zx2_8 HB8
  clear ho hk
  obtain ⟨w10, hW⟩ : ∃ W : World, W = w9.alloc (Obj.cells #[Value.int IntKind.i64 s3, Value.slice (some ⟨k3, 0, none⟩) m3 m3] 42) := ⟨_, rfl⟩
  obtain ⟨X3, hX3⟩ : ∃ X : Nat, X = w9.heap.size := ⟨_, rfl⟩
  have hb : Below w9.heap.size w9 w10 := by rw [hW]; exact (Below.refl _ _).alloc (Nat.le_refl _) _
  have y0 : w10.cell? ⟨X3, 0, none⟩ = some (.int .i64 s3) := by rw [hW, hX3]; simp [go_sem]
  have y1 : w10.cell? ⟨X3, 1, none⟩ = some (.slice (some ⟨k3, 0, none⟩) m3 m3) := by rw [hW, hX3]; simp [go_sem]
  have y2 : X3 < w10.heap.size := by rw [hW, hX3]; simp
  have HW := Lib.hid hW
  have HX := Lib.hid hX3
  clear hW hX3
  have K1 := Lib.hid (K1.out.keep hb hb.size)
  have K2 := Lib.hid (K2.out.keep hb hb.size)
  have K3 := Lib.hid (K3.out.keep hb hb.size)
  have zz := hb.size
  have e1a_10 := up hb e1a_9 (by omega)
  have e1b_10 := up hb e1b_9 (by omega)
  have e2a_10 := up hb e2a_9 (by omega)
  have e2b_10 := up hb e2b_9 (by omega)
  have e3a_10 := up hb e3a_9 (by omega)
  have e3b_10 := up hb e3b_9 (by omega)
  have x1a_10 := up hb x1a_9 (by omega)
  have x1b_10 := up hb x1b_9 (by omega)
  have x2a_10 := up hb x2a_9 (by omega)
  have x2b_10 := up hb x2b_9 (by omega)
  have z0_10 : w.heap.size < w10.heap.size := by omega
  have z1_10 : w.heap.size + 1 < w10.heap.size := by omega
  have z2_10 : w.heap.size + 1 + 1 < w10.heap.size := by omega
  have zx1_10 : X1 < w10.heap.size := by omega
  have zx2_10 : X2 < w10.heap.size := by omega
  have HB10 := Lib.hid (HB9.out.trans (hb.mono HB9.out.size))
  clear zz hb 
  have x3a_10 := y0
  have x3b_10 := y1
  have zx3_10 := y2
  clear y0 y1 y2
  go_wp2_with fail
  rw [← HW.out, ← HX.out]
  clear HW HX e1a_9 e1b_9 e2a_9 e2b_9 e3a_9 e3b_9 x1a_9 x1b_9 x2a_9 x2b_9 z0_9 z1_9 z2_9 zx1_9 zx2_9 HB9
  refine (ci s1 _ m1 m1 x1 s2 _ m2 m2 x2 s3 _ m3 m3 x3 w10 w10.heap.size K1.out K2.out K3.out (Nat.le_refl _) (by omega) (by omega) (by omega)).mono ?_
  rintro e w11 ⟨rfl, hb⟩
  have K1 := Lib.hid (K1.out.keep hb hb.size)
  have K2 := Lib.hid (K2.out.keep hb hb.size)
  have K3 := Lib.hid (K3.out.keep hb hb.size)
  have zz := hb.size
  have e1a_11 := up hb e1a_10 (by omega)
  have e1b_11 := up hb e1b_10 (by omega)
  have e2a_11 := up hb e2a_10 (by omega)
  have e2b_11 := up hb e2b_10 (by omega)
  have e3a_11 := up hb e3a_10 (by omega)
  have e3b_11 := up hb e3b_10 (by omega)
  have x1a_11 := up hb x1a_10 (by omega)
  have x1b_11 := up hb x1b_10 (by omega)
  have x2a_11 := up hb x2a_10 (by omega)
  have x2b_11 := up hb x2b_10 (by omega)
  have x3a_11 := up hb x3a_10 (by omega)
  have x3b_11 := up hb x3b_10 (by omega)
  have z0_11 : w.heap.size < w11.heap.size := by omega
  have z1_11 : w.heap.size + 1 < w11.heap.size := by omega
  have z2_11 : w.heap.size + 1 + 1 < w11.heap.size := by omega
  have zx1_11 : X1 < w11.heap.size := by omega
  have zx2_11 : X2 < w11.heap.size := by omega
  have zx3_11 : X3 < w11.heap.size := by omega
  have HB11 := Lib.hid (HB10.out.trans (hb.mono HB10.out.size))
  clear zz hb e1a_10 e1b_10 e2a_10 e2b_10 e3a_10 e3b_10 x1a_10 x1b_10 x2a_10 x2b_10 x3a_10 x3b_10 z0_10 z1_10 z2_10 zx1_10 zx2_10 zx3_10 HB10
  have HBd : Hid (Below w.heap.size w w11.drew) := HB11.out.drew
  have HK : Hid (∀ a b : World, (w.heap.size < a.heap.size ∧ w.heap.size + 1 < a.heap.size ∧ w.heap.size + 1 + 1 < a.heap.size ∧ X1 < a.heap.size ∧ X2 < a.heap.size ∧ X3 < a.heap.size ∧ a.cell? ⟨w.heap.size, 0, none⟩ = some (.int .i64 s1) ∧ a.cell? ⟨w.heap.size, 1, none⟩ = some (.slice A1 m1 c1) ∧ a.cell? ⟨w.heap.size + 1, 0, none⟩ = some (.int .i64 s2) ∧ a.cell? ⟨w.heap.size + 1, 1, none⟩ = some (.slice A2 m2 c2) ∧ a.cell? ⟨w.heap.size + 1 + 1, 0, none⟩ = some (.int .i64 s3) ∧ a.cell? ⟨w.heap.size + 1 + 1, 1, none⟩ = some (.slice A3 m3 c3) ∧ a.cell? ⟨X1, 0, none⟩ = some (.int .i64 s1) ∧ a.cell? ⟨X1, 1, none⟩ = some (.slice (some ⟨k1, 0, none⟩) m1 m1) ∧ a.cell? ⟨X2, 0, none⟩ = some (.int .i64 s2) ∧ a.cell? ⟨X2, 1, none⟩ = some (.slice (some ⟨k2, 0, none⟩) m2 m2) ∧ a.cell? ⟨X3, 0, none⟩ = some (.int .i64 s3) ∧ a.cell? ⟨X3, 1, none⟩ = some (.slice (some ⟨k3, 0, none⟩) m3 m3)) → Below a.heap.size a b → (w.heap.size < b.heap.size ∧ w.heap.size + 1 < b.heap.size ∧ w.heap.size + 1 + 1 < b.heap.size ∧ X1 < b.heap.size ∧ X2 < b.heap.size ∧ X3 < b.heap.size ∧ b.cell? ⟨w.heap.size, 0, none⟩ = some (.int .i64 s1) ∧ b.cell? ⟨w.heap.size, 1, none⟩ = some (.slice A1 m1 c1) ∧ b.cell? ⟨w.heap.size + 1, 0, none⟩ = some (.int .i64 s2) ∧ b.cell? ⟨w.heap.size + 1, 1, none⟩ = some (.slice A2 m2 c2) ∧ b.cell? ⟨w.heap.size + 1 + 1, 0, none⟩ = some (.int .i64 s3) ∧ b.cell? ⟨w.heap.size + 1 + 1, 1, none⟩ = some (.slice A3 m3 c3) ∧ b.cell? ⟨X1, 0, none⟩ = some (.int .i64 s1) ∧ b.cell? ⟨X1, 1, none⟩ = some (.slice (some ⟨k1, 0, none⟩) m1 m1) ∧ b.cell? ⟨X2, 0, none⟩ = some (.int .i64 s2) ∧ b.cell? ⟨X2, 1, none⟩ = some (.slice (some ⟨k2, 0, none⟩) m2 m2) ∧ b.cell? ⟨X3, 0, none⟩ = some (.int .i64 s3) ∧ b.cell? ⟨X3, 1, none⟩ = some (.slice (some ⟨k3, 0, none⟩) m3 m3))) := by
    rintro a b ⟨r0, r1, r2, r3, r4, r5, r6, r7, r8, r9, r10, r11, r12, r13, r14, r15, r16, r17⟩ hb
    have := hb.size
    exact ⟨by omega, by omega, by omega, by omega, by omega, by omega, up hb r6 (by omega), up hb r7 (by omega), up hb r8 (by omega), up hb r9 (by omega), up hb r10 (by omega), up hb r11 (by omega), up hb r12 (by omega), up hb r13 (by omega), up hb r14 (by omega), up hb r15 (by omega), up hb r16 (by omega), up hb r17 (by omega)⟩
  go_wp2_with fail
  go_region_held3 (fun a => w.heap.size < a.heap.size ∧ w.heap.size + 1 < a.heap.size ∧ w.heap.size + 1 + 1 < a.heap.size ∧ X1 < a.heap.size ∧ X2 < a.heap.size ∧ X3 < a.heap.size ∧ a.cell? ⟨w.heap.size, 0, none⟩ = some (.int .i64 s1) ∧ a.cell? ⟨w.heap.size, 1, none⟩ = some (.slice A1 m1 c1) ∧ a.cell? ⟨w.heap.size + 1, 0, none⟩ = some (.int .i64 s2) ∧ a.cell? ⟨w.heap.size + 1, 1, none⟩ = some (.slice A2 m2 c2) ∧ a.cell? ⟨w.heap.size + 1 + 1, 0, none⟩ = some (.int .i64 s3) ∧ a.cell? ⟨w.heap.size + 1 + 1, 1, none⟩ = some (.slice A3 m3 c3) ∧ a.cell? ⟨X1, 0, none⟩ = some (.int .i64 s1) ∧ a.cell? ⟨X1, 1, none⟩ = some (.slice (some ⟨k1, 0, none⟩) m1 m1) ∧ a.cell? ⟨X2, 0, none⟩ = some (.int .i64 s2) ∧ a.cell? ⟨X2, 1, none⟩ = some (.slice (some ⟨k2, 0, none⟩) m2 m2) ∧ a.cell? ⟨X3, 0, none⟩ = some (.int .i64 s3) ∧ a.cell? ⟨X3, 1, none⟩ = some (.slice (some ⟨k3, 0, none⟩) m3 m3))
    (first | (refine ⟨?_, ?_, ?_, ?_, ?_, ?_, ?_, ?_, ?_, ?_, ?_, ?_, ?_, ?_, ?_, ?_, ?_, ?_⟩ <;> assumption) | exact HK.out _ _ (by assumption) byu | exact HK.out _ _ (by assumption) byt)
    (first
      | (go_at_call 31; ((with_reducible refine (toGraph_any s1 A1 m1 c1 x1 _ _ (h1.keep HBd.out (Nat.le_refl _)) HBd.out.size (by omega)).mono ?_); rintro e yt ⟨gyt, hgyt, rfl, hoyt, byt⟩; have Hyt := Lib.hid (HBd.out.trans (byt.mono HBd.out.size))))
      | (go_at_call 33; ((refine (eqGraph_yes s1 _ _ m1 m1 m1 x1 _ yt.heap.size yt.heap.size (K1.out.keep (Below.trans (Below.drew (Below.refl _ _)) byt) byt.size) hoyt.rd (Nat.le_refl _) (Nat.le_refl _) (by omega)).mono ?_); rintro e yu ⟨rfl, byu⟩)))
  obtain ⟨z0_12, z1_12, z2_12, zx1_12, zx2_12, zx3_12, e1a_12, e1b_12, e2a_12, e2b_12, e3a_12, e3b_12, x1a_12, x1b_12, x2a_12, x2b_12, x3a_12, x3b_12⟩ := HK.out _ _ (HK.out w11.drew _ ⟨z0_11, z1_11, z2_11, zx1_11, zx2_11, zx3_11, e1a_11, e1b_11, e2a_11, e2b_11, e3a_11, e3b_11, x1a_11, x1b_11, x2a_11, x2b_11, x3a_11, x3b_11⟩ byt) byu
  have HB12 := Lib.hid (Hyt.out.trans (byu.mono Hyt.out.size))
  have K1 := Lib.hid ((K1.out.keep (Below.trans (Below.drew (Below.refl _ _)) byt) byt.size).keep byu byu.size)
  have K2 := Lib.hid ((K2.out.keep (Below.trans (Below.drew (Below.refl _ _)) byt) byt.size).keep byu byu.size)
  have K3 := Lib.hid ((K3.out.keep (Below.trans (Below.drew (Below.refl _ _)) byt) byt.size).keep byu byu.size)
  clear z0_11 z1_11 z2_11 zx1_11 zx2_11 zx3_11 e1a_11 e1b_11 e2a_11 e2b_11 e3a_11 e3b_11 x1a_11 x1b_11 x2a_11 x2b_11 x3a_11 x3b_11 byt hoyt hgyt Hyt byu HB11 HBd HK
  obtain ⟨w12, rfl⟩ : ∃ W : World, W = yu := ⟨_, rfl⟩
  have HBd : Hid (Below w.heap.size w w12.drew) := HB12.out.drew
  have HK : Hid (∀ a b : World, (w.heap.size < a.heap.size ∧ w.heap.size + 1 < a.heap.size ∧ w.heap.size + 1 + 1 < a.heap.size ∧ X1 < a.heap.size ∧ X2 < a.heap.size ∧ X3 < a.heap.size ∧ a.cell? ⟨w.heap.size, 0, none⟩ = some (.int .i64 s1) ∧ a.cell? ⟨w.heap.size, 1, none⟩ = some (.slice A1 m1 c1) ∧ a.cell? ⟨w.heap.size + 1, 0, none⟩ = some (.int .i64 s2) ∧ a.cell? ⟨w.heap.size + 1, 1, none⟩ = some (.slice A2 m2 c2) ∧ a.cell? ⟨w.heap.size + 1 + 1, 0, none⟩ = some (.int .i64 s3) ∧ a.cell? ⟨w.heap.size + 1 + 1, 1, none⟩ = some (.slice A3 m3 c3) ∧ a.cell? ⟨X1, 0, none⟩ = some (.int .i64 s1) ∧ a.cell? ⟨X1, 1, none⟩ = some (.slice (some ⟨k1, 0, none⟩) m1 m1) ∧ a.cell? ⟨X2, 0, none⟩ = some (.int .i64 s2) ∧ a.cell? ⟨X2, 1, none⟩ = some (.slice (some ⟨k2, 0, none⟩) m2 m2) ∧ a.cell? ⟨X3, 0, none⟩ = some (.int .i64 s3) ∧ a.cell? ⟨X3, 1, none⟩ = some (.slice (some ⟨k3, 0, none⟩) m3 m3)) → Below a.heap.size a b → (w.heap.size < b.heap.size ∧ w.heap.size + 1 < b.heap.size ∧ w.heap.size + 1 + 1 < b.heap.size ∧ X1 < b.heap.size ∧ X2 < b.heap.size ∧ X3 < b.heap.size ∧ b.cell? ⟨w.heap.size, 0, none⟩ = some (.int .i64 s1) ∧ b.cell? ⟨w.heap.size, 1, none⟩ = some (.slice A1 m1 c1) ∧ b.cell? ⟨w.heap.size + 1, 0, none⟩ = some (.int .i64 s2) ∧ b.cell? ⟨w.heap.size + 1, 1, none⟩ = some (.slice A2 m2 c2) ∧ b.cell? ⟨w.heap.size + 1 + 1, 0, none⟩ = some (.int .i64 s3) ∧ b.cell? ⟨w.heap.size + 1 + 1, 1, none⟩ = some (.slice A3 m3 c3) ∧ b.cell? ⟨X1, 0, none⟩ = some (.int .i64 s1) ∧ b.cell? ⟨X1, 1, none⟩ = some (.slice (some ⟨k1, 0, none⟩) m1 m1) ∧ b.cell? ⟨X2, 0, none⟩ = some (.int .i64 s2) ∧ b.cell? ⟨X2, 1, none⟩ = some (.slice (some ⟨k2, 0, none⟩) m2 m2) ∧ b.cell? ⟨X3, 0, none⟩ = some (.int .i64 s3) ∧ b.cell? ⟨X3, 1, none⟩ = some (.slice (some ⟨k3, 0, none⟩) m3 m3))) := by
    rintro a b ⟨r0, r1, r2, r3, r4, r5, r6, r7, r8, r9, r10, r11, r12, r13, r14, r15, r16, r17⟩ hb
    have := hb.size
    exact ⟨by omega, by omega, by omega, by omega, by omega, by omega, up hb r6 (by omega), up hb r7 (by omega), up hb r8 (by omega), up hb r9 (by omega), up hb r10 (by omega), up hb r11 (by omega), up hb r12 (by omega), up hb r13 (by omega), up hb r14 (by omega), up hb r15 (by omega), up hb r16 (by omega), up hb r17 (by omega)⟩
  go_wp2_with fail
  go_region_held3 (fun a => w.heap.size < a.heap.size ∧ w.heap.size + 1 < a.heap.size ∧ w.heap.size + 1 + 1 < a.heap.size ∧ X1 < a.heap.size ∧ X2 < a.heap.size ∧ X3 < a.heap.size ∧ a.cell? ⟨w.heap.size, 0, none⟩ = some (.int .i64 s1) ∧ a.cell? ⟨w.heap.size, 1, none⟩ = some (.slice A1 m1 c1) ∧ a.cell? ⟨w.heap.size + 1, 0, none⟩ = some (.int .i64 s2) ∧ a.cell? ⟨w.heap.size + 1, 1, none⟩ = some (.slice A2 m2 c2) ∧ a.cell? ⟨w.heap.size + 1 + 1, 0, none⟩ = some (.int .i64 s3) ∧ a.cell? ⟨w.heap.size + 1 + 1, 1, none⟩ = some (.slice A3 m3 c3) ∧ a.cell? ⟨X1, 0, none⟩ = some (.int .i64 s1) ∧ a.cell? ⟨X1, 1, none⟩ = some (.slice (some ⟨k1, 0, none⟩) m1 m1) ∧ a.cell? ⟨X2, 0, none⟩ = some (.int .i64 s2) ∧ a.cell? ⟨X2, 1, none⟩ = some (.slice (some ⟨k2, 0, none⟩) m2 m2) ∧ a.cell? ⟨X3, 0, none⟩ = some (.int .i64 s3) ∧ a.cell? ⟨X3, 1, none⟩ = some (.slice (some ⟨k3, 0, none⟩) m3 m3))
    (first | (refine ⟨?_, ?_, ?_, ?_, ?_, ?_, ?_, ?_, ?_, ?_, ?_, ?_, ?_, ?_, ?_, ?_, ?_, ?_⟩ <;> assumption) | exact HK.out _ _ (by assumption) byu | exact HK.out _ _ (by assumption) byt)
    (first
      | (go_at_call 31; ((with_reducible refine (toGraph_any s2 A2 m2 c2 x2 _ _ (h2.keep HBd.out (Nat.le_refl _)) HBd.out.size (by omega)).mono ?_); rintro e yt ⟨gyt, hgyt, rfl, hoyt, byt⟩; have Hyt := Lib.hid (HBd.out.trans (byt.mono HBd.out.size))))
      | (go_at_call 33; ((refine (eqGraph_yes s2 _ _ m2 m2 m2 x2 _ yt.heap.size yt.heap.size (K2.out.keep (Below.trans (Below.drew (Below.refl _ _)) byt) byt.size) hoyt.rd (Nat.le_refl _) (Nat.le_refl _) (by omega)).mono ?_); rintro e yu ⟨rfl, byu⟩)))
  obtain ⟨z0_13, z1_13, z2_13, zx1_13, zx2_13, zx3_13, e1a_13, e1b_13, e2a_13, e2b_13, e3a_13, e3b_13, x1a_13, x1b_13, x2a_13, x2b_13, x3a_13, x3b_13⟩ := HK.out _ _ (HK.out w12.drew _ ⟨z0_12, z1_12, z2_12, zx1_12, zx2_12, zx3_12, e1a_12, e1b_12, e2a_12, e2b_12, e3a_12, e3b_12, x1a_12, x1b_12, x2a_12, x2b_12, x3a_12, x3b_12⟩ byt) byu
  have HB13 := Lib.hid (Hyt.out.trans (byu.mono Hyt.out.size))
  have K1 := Lib.hid ((K1.out.keep (Below.trans (Below.drew (Below.refl _ _)) byt) byt.size).keep byu byu.size)
  have K2 := Lib.hid ((K2.out.keep (Below.trans (Below.drew (Below.refl _ _)) byt) byt.size).keep byu byu.size)
  have K3 := Lib.hid ((K3.out.keep (Below.trans (Below.drew (Below.refl _ _)) byt) byt.size).keep byu byu.size)
  clear z0_12 z1_12 z2_12 zx1_12 zx2_12 zx3_12 e1a_12 e1b_12 e2a_12 e2b_12 e3a_12 e3b_12 x1a_12 x1b_12 x2a_12 x2b_12 x3a_12 x3b_12 byt hoyt hgyt Hyt byu HB12 HBd HK
  obtain ⟨w13, rfl⟩ : ∃ W : World, W = yu := ⟨_, rfl⟩
  have HBd : Hid (Below w.heap.size w w13.drew) := HB13.out.drew
  have HK : Hid (∀ a b : World, (w.heap.size < a.heap.size ∧ w.heap.size + 1 < a.heap.size ∧ w.heap.size + 1 + 1 < a.heap.size ∧ X1 < a.heap.size ∧ X2 < a.heap.size ∧ X3 < a.heap.size ∧ a.cell? ⟨w.heap.size, 0, none⟩ = some (.int .i64 s1) ∧ a.cell? ⟨w.heap.size, 1, none⟩ = some (.slice A1 m1 c1) ∧ a.cell? ⟨w.heap.size + 1, 0, none⟩ = some (.int .i64 s2) ∧ a.cell? ⟨w.heap.size + 1, 1, none⟩ = some (.slice A2 m2 c2) ∧ a.cell? ⟨w.heap.size + 1 + 1, 0, none⟩ = some (.int .i64 s3) ∧ a.cell? ⟨w.heap.size + 1 + 1, 1, none⟩ = some (.slice A3 m3 c3) ∧ a.cell? ⟨X1, 0, none⟩ = some (.int .i64 s1) ∧ a.cell? ⟨X1, 1, none⟩ = some (.slice (some ⟨k1, 0, none⟩) m1 m1) ∧ a.cell? ⟨X2, 0, none⟩ = some (.int .i64 s2) ∧ a.cell? ⟨X2, 1, none⟩ = some (.slice (some ⟨k2, 0, none⟩) m2 m2) ∧ a.cell? ⟨X3, 0, none⟩ = some (.int .i64 s3) ∧ a.cell? ⟨X3, 1, none⟩ = some (.slice (some ⟨k3, 0, none⟩) m3 m3)) → Below a.heap.size a b → (w.heap.size < b.heap.size ∧ w.heap.size + 1 < b.heap.size ∧ w.heap.size + 1 + 1 < b.heap.size ∧ X1 < b.heap.size ∧ X2 < b.heap.size ∧ X3 < b.heap.size ∧ b.cell? ⟨w.heap.size, 0, none⟩ = some (.int .i64 s1) ∧ b.cell? ⟨w.heap.size, 1, none⟩ = some (.slice A1 m1 c1) ∧ b.cell? ⟨w.heap.size + 1, 0, none⟩ = some (.int .i64 s2) ∧ b.cell? ⟨w.heap.size + 1, 1, none⟩ = some (.slice A2 m2 c2) ∧ b.cell? ⟨w.heap.size + 1 + 1, 0, none⟩ = some (.int .i64 s3) ∧ b.cell? ⟨w.heap.size + 1 + 1, 1, none⟩ = some (.slice A3 m3 c3) ∧ b.cell? ⟨X1, 0, none⟩ = some (.int .i64 s1) ∧ b.cell? ⟨X1, 1, none⟩ = some (.slice (some ⟨k1, 0, none⟩) m1 m1) ∧ b.cell? ⟨X2, 0, none⟩ = some (.int .i64 s2) ∧ b.cell? ⟨X2, 1, none⟩ = some (.slice (some ⟨k2, 0, none⟩) m2 m2) ∧ b.cell? ⟨X3, 0, none⟩ = some (.int .i64 s3) ∧ b.cell? ⟨X3, 1, none⟩ = some (.slice (some ⟨k3, 0, none⟩) m3 m3))) := by
    rintro a b ⟨r0, r1, r2, r3, r4, r5, r6, r7, r8, r9, r10, r11, r12, r13, r14, r15, r16, r17⟩ hb
    have := hb.size
    exact ⟨by omega, by omega, by omega, by omega, by omega, by omega, up hb r6 (by omega), up hb r7 (by omega), up hb r8 (by omega), up hb r9 (by omega), up hb r10 (by omega), up hb r11 (by omega), up hb r12 (by omega), up hb r13 (by omega), up hb r14 (by omega), up hb r15 (by omega), up hb r16 (by omega), up hb r17 (by omega)⟩
  go_wp2_with fail
  go_region_held3 (fun a => w.heap.size < a.heap.size ∧ w.heap.size + 1 < a.heap.size ∧ w.heap.size + 1 + 1 < a.heap.size ∧ X1 < a.heap.size ∧ X2 < a.heap.size ∧ X3 < a.heap.size ∧ a.cell? ⟨w.heap.size, 0, none⟩ = some (.int .i64 s1) ∧ a.cell? ⟨w.heap.size, 1, none⟩ = some (.slice A1 m1 c1) ∧ a.cell? ⟨w.heap.size + 1, 0, none⟩ = some (.int .i64 s2) ∧ a.cell? ⟨w.heap.size + 1, 1, none⟩ = some (.slice A2 m2 c2) ∧ a.cell? ⟨w.heap.size + 1 + 1, 0, none⟩ = some (.int .i64 s3) ∧ a.cell? ⟨w.heap.size + 1 + 1, 1, none⟩ = some (.slice A3 m3 c3) ∧ a.cell? ⟨X1, 0, none⟩ = some (.int .i64 s1) ∧ a.cell? ⟨X1, 1, none⟩ = some (.slice (some ⟨k1, 0, none⟩) m1 m1) ∧ a.cell? ⟨X2, 0, none⟩ = some (.int .i64 s2) ∧ a.cell? ⟨X2, 1, none⟩ = some (.slice (some ⟨k2, 0, none⟩) m2 m2) ∧ a.cell? ⟨X3, 0, none⟩ = some (.int .i64 s3) ∧ a.cell? ⟨X3, 1, none⟩ = some (.slice (some ⟨k3, 0, none⟩) m3 m3))
    (first | (refine ⟨?_, ?_, ?_, ?_, ?_, ?_, ?_, ?_, ?_, ?_, ?_, ?_, ?_, ?_, ?_, ?_, ?_, ?_⟩ <;> assumption) | exact HK.out _ _ (by assumption) byu | exact HK.out _ _ (by assumption) byt)
    (first
      | (go_at_call 31; ((with_reducible refine (toGraph_any s3 A3 m3 c3 x3 _ _ (h3.keep HBd.out (Nat.le_refl _)) HBd.out.size (by omega)).mono ?_); rintro e yt ⟨gyt, hgyt, rfl, hoyt, byt⟩; have Hyt := Lib.hid (HBd.out.trans (byt.mono HBd.out.size))))
      | (go_at_call 33; ((refine (eqGraph_yes s3 _ _ m3 m3 m3 x3 _ yt.heap.size yt.heap.size (K3.out.keep (Below.trans (Below.drew (Below.refl _ _)) byt) byt.size) hoyt.rd (Nat.le_refl _) (Nat.le_refl _) (by omega)).mono ?_); rintro e yu ⟨rfl, byu⟩)))
  obtain ⟨z0_14, z1_14, z2_14, zx1_14, zx2_14, zx3_14, e1a_14, e1b_14, e2a_14, e2b_14, e3a_14, e3b_14, x1a_14, x1b_14, x2a_14, x2b_14, x3a_14, x3b_14⟩ := HK.out _ _ (HK.out w13.drew _ ⟨z0_13, z1_13, z2_13, zx1_13, zx2_13, zx3_13, e1a_13, e1b_13, e2a_13, e2b_13, e3a_13, e3b_13, x1a_13, x1b_13, x2a_13, x2b_13, x3a_13, x3b_13⟩ byt) byu
  have HB14 := Lib.hid (Hyt.out.trans (byu.mono Hyt.out.size))
  have K1 := Lib.hid ((K1.out.keep (Below.trans (Below.drew (Below.refl _ _)) byt) byt.size).keep byu byu.size)
  have K2 := Lib.hid ((K2.out.keep (Below.trans (Below.drew (Below.refl _ _)) byt) byt.size).keep byu byu.size)
  have K3 := Lib.hid ((K3.out.keep (Below.trans (Below.drew (Below.refl _ _)) byt) byt.size).keep byu byu.size)
  clear z0_13 z1_13 z2_13 zx1_13 zx2_13 zx3_13 e1a_13 e1b_13 e2a_13 e2b_13 e3a_13 e3b_13 x1a_13 x1b_13 x2a_13 x2b_13 x3a_13 x3b_13 byt hoyt hgyt Hyt byu HB13 HBd HK
  obtain ⟨w14, rfl⟩ : ∃ W : World, W = yu := ⟨_, rfl⟩
  go_wp2
  go_ret
  exact ⟨rfl, HB14.out⟩

set_option maxRecDepth 100000 in
theorem lifted (os : Os) (started : os.Started) (H : Type) (enc : TypeId × Value → H) :
    ReturnsInHanded {} Try.checked os 6 .any (Rows.fnExactIsSandwichSpec.pre6 enc Try.prog Try.f6 Rows.fnExactIsSandwichRow.domain false) (Rows.fnExactIsSandwichSpec.post enc Try.prog Try.f6 false true false false) := by
  refine returnsInHanded_of_change (C := Try.checked) own started (by kernel_rfl) Try.func6
    (ChangeSpec.witness6 (enc := enc) (C := Try.checked) false ⟨#[], #[.agg #[.int .i64 0, .slice none 0 0], .agg #[.int .i64 0, .slice none 0 0], .agg #[.int .i64 0, .slice none 0 0]], []⟩ 8 (by kernel_rfl) (by kernel_rfl) (by kernel_rfl) (by kernel_rfl)) ?_
  intro W base args ds gs before hval0 hW hcnd _
  have hval : ∀ (j : Nat) t v, Try.f6.params[j]? = some t → args[j]? = some v → Value.okWide Try.prog W .any base t v := hval0
  have hW' := hW
  obtain ⟨p, q, hA0, hV, rfl, hfz, hnd⟩ := hW
  have hA : DataW.TrodAll enc Try.prog W 0 (fun _ => true) true Try.f6.params.toList args.toList ds p := hA0
  rw [Try.params6] at hA hval
  obtain ⟨v0, vs0, d0, ds0, p0, q0, hargs, rfl, rfl, l0, r0⟩ := trodAll_cons hA
  obtain ⟨v1, vs1, d1, ds1, p1, q1, rfl, rfl, rfl, l1, r1⟩ := trodAll_cons r0
  obtain ⟨v2, vs2, d2, ds2, p2, q2, rfl, rfl, rfl, l2, r2⟩ := trodAll_cons r1
  obtain ⟨rfl, rfl, rfl⟩ := trodAll_nil r2
  obtain rfl : args = #[v0, v1, v2] := by cases args; simp_all
  obtain ⟨rfl, rfl⟩ := trodVars_none hV
  have lt0 := places_lt l0
  obtain ⟨s1, A1, m1, c1, x1, rfl, h1, n1⟩ := open_graph (hval 0 39 v0 rfl rfl) l0
  have lt1 := places_lt l1
  obtain ⟨s2, A2, m2, c2, x2, rfl, h2, n2⟩ := open_graph (hval 1 39 v1 rfl rfl) l1
  have lt2 := places_lt l2
  obtain ⟨s3, A3, m3, c3, x3, rfl, h3, n3⟩ := open_graph (hval 2 39 v2 rfl rfl) l2
  clear hA0 hval0
  refine (walk s1 A1 m1 c1 x1 s2 A2 m2 c2 x2 s3 A3 m3 c3 x3 W h1 n1 h2 n2 h3 n3).mono fun e W' ⟨he, bel⟩ => ?_
  subst he
  exact ⟨_, rfl, _, _, _, [], _, [], hW', trodAll_mk1 (shut_bool Try.underlying4 _), (trodAll_cons_mk (Below.trod laidOut (by kernel_rfl) (of_decide_eq_true (by kernel_rfl)) l0 bel lt0) (trodAll_cons_mk (Below.trod laidOut (by kernel_rfl) (of_decide_eq_true (by kernel_rfl)) l1 bel lt1) (trodAll_cons_mk (Below.trod laidOut (by kernel_rfl) (of_decide_eq_true (by kernel_rfl)) l2 bel lt2) trodAll_mk0))), rfl, bel.frame _, fun h => by cases h⟩

theorem over : Rows.fnExactIsSandwichRow.holds Try.pinned (OpenSpec.ofChange Rows.fnExactIsSandwichSpec) :=
  OpenClaim.holds_of_wide 6 Try.f6 rfl rfl rfl rfl rfl rfl rfl ⟨rfl, rfl, rfl, rfl, rfl⟩ rfl rfl rfl rfl rfl (by kernel_rfl) Try.func6 (by kernel_rfl)
    (of_decide_eq_true (by kernel_rfl)) (by unfold Func.isWrapper; first | (rw [if_pos (by decide +kernel)]; kernel_rfl) | (rw [if_neg (by decide +kernel)]; exact ⟨rfl, rfl⟩))
    (fun os started H enc _ => lifted os started H enc)

/-- The statement. -/
theorem proved : Rows.FnExactIsSandwichSaid := over
#print axioms proved
end Go.Proofs.Ytccblehcemggjaa.fnExactIsSandwich
