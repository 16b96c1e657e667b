/-
  The program's EqualClaims answers as the reference's at every input: the law FnExactEqualClaims answers true.
  No condition.
-/
import Derived.Test.YtccblehcemggjaaEqClaims
import Derived.Test.YtccblehcemggjaaOpen4
import Derived.Deep.RegionHeld3
namespace Go.Proofs.Ytccblehcemggjaa.fnExactEqualClaims
open Go.ChangeShapes Go.WideShapes Go.ChangeAt Go.RowKit

theorem le_drew {a : Nat} {w : World} (h : a ≤ w.heap.size) : a ≤ w.drew.heap.size := h
set_option maxRecDepth 100000 in
set_option maxHeartbeats 1600000 in
theorem walk (k1 : Clm) (k2 : Clm) (w : World) (h1 : RdK w w.heap.size k1) (n1 : LenK k1) (h2 : RdK w w.heap.size k2) (n2 : LenK k2) :
    Calls Try.prog 10 #[.agg #[.int .i64 k1.K, .int .i64 k1.s, .slice k1.A0 k1.n0 k1.c0, .string k1.t, .slice k1.A1 k1.n1 k1.c1, .slice k1.A2 k1.n2 k1.c2, .slice k1.A3 k1.D.length k1.c3], .agg #[.int .i64 k2.K, .int .i64 k2.s, .slice k2.A0 k2.n0 k2.c0, .string k2.t, .slice k2.A1 k2.n1 k2.c1, .slice k2.A2 k2.n2 k2.c2, .slice k2.A3 k2.D.length k2.c3]] w fun e w' => e = .returned (.bool true) ∧ Below w.heap.size w w' := by
  obtain ⟨w0, hW⟩ : ∃ W : World, W = ((w.alloc (Obj.cells #[.int .i64 k1.K, .int .i64 k1.s, .slice k1.A0 k1.n0 k1.c0, .string k1.t, .slice k1.A1 k1.n1 k1.c1, .slice k1.A2 k1.n2 k1.c2, .slice k1.A3 k1.D.length k1.c3] 55)).alloc (Obj.cells #[.int .i64 k2.K, .int .i64 k2.s, .slice k2.A0 k2.n0 k2.c0, .string k2.t, .slice k2.A1 k2.n1 k2.c1, .slice k2.A2 k2.n2 k2.c2, .slice k2.A3 k2.D.length k2.c3] 55)) := ⟨_, rfl⟩
  have HB : Hid (Below w.heap.size w w0) := by rw [hW]; exact (((Below.refl _ _).alloc (by simp) _).alloc (by simp) _)
  have z0_0 : w.heap.size < w0.heap.size := by rw [hW]; simp <;> omega
  have z1_0 : w.heap.size + 1 < w0.heap.size := by rw [hW]; simp <;> omega
  have e1a_0 : w0.cell? ⟨w.heap.size, 0, none⟩ = some (.int .i64 k1.K) := by rw [hW]; simp [go_sem]
  have e1b_0 : w0.cell? ⟨w.heap.size, 1, none⟩ = some (.int .i64 k1.s) := by rw [hW]; simp [go_sem]
  have e1c_0 : w0.cell? ⟨w.heap.size, 2, none⟩ = some (.slice k1.A0 k1.n0 k1.c0) := by rw [hW]; simp [go_sem]
  have e1d_0 : w0.cell? ⟨w.heap.size, 3, none⟩ = some (.string k1.t) := by rw [hW]; simp [go_sem]
  have e1e_0 : w0.cell? ⟨w.heap.size, 4, none⟩ = some (.slice k1.A1 k1.n1 k1.c1) := by rw [hW]; simp [go_sem]
  have e1f_0 : w0.cell? ⟨w.heap.size, 5, none⟩ = some (.slice k1.A2 k1.n2 k1.c2) := by rw [hW]; simp [go_sem]
  have e1g_0 : w0.cell? ⟨w.heap.size, 6, none⟩ = some (.slice k1.A3 k1.D.length k1.c3) := by rw [hW]; simp [go_sem]
  have e2a_0 : w0.cell? ⟨w.heap.size + 1, 0, none⟩ = some (.int .i64 k2.K) := by rw [hW]; simp [go_sem]
  have e2b_0 : w0.cell? ⟨w.heap.size + 1, 1, none⟩ = some (.int .i64 k2.s) := by rw [hW]; simp [go_sem]
  have e2c_0 : w0.cell? ⟨w.heap.size + 1, 2, none⟩ = some (.slice k2.A0 k2.n0 k2.c0) := by rw [hW]; simp [go_sem]
  have e2d_0 : w0.cell? ⟨w.heap.size + 1, 3, none⟩ = some (.string k2.t) := by rw [hW]; simp [go_sem]
  have e2e_0 : w0.cell? ⟨w.heap.size + 1, 4, none⟩ = some (.slice k2.A1 k2.n1 k2.c1) := by rw [hW]; simp [go_sem]
  have e2f_0 : w0.cell? ⟨w.heap.size + 1, 5, none⟩ = some (.slice k2.A2 k2.n2 k2.c2) := by rw [hW]; simp [go_sem]
  have e2g_0 : w0.cell? ⟨w.heap.size + 1, 6, none⟩ = some (.slice k2.A3 k2.D.length k2.c3) := by rw [hW]; simp [go_sem]
  have SZ : Hid (w.heap.size + 2 ≤ w0.heap.size) := by rw [hW]; simp [Hid]
  have HW := Lib.hid hW
  clear hW
  go_enter Try.func10, Try.ntmps10
  obtain ⟨m1, hm1⟩ : ∃ t, t = ttK k1 := ⟨_, rfl⟩
  have HM1 := Lib.hid hm1
  clear hm1
  go_wp2_with fail
  rw [← HW.out]
  clear HW
  refine (szClaim_any k1 ((1048576 : Int)) w0 _ (h1.keep HB.out (Nat.le_refl _)) HB.out.size n1 (by omega) (by omega)).mono ?_
  rintro e w1 ⟨rfl, hb⟩
  have zz := hb.size
  have e1a_1 := up hb e1a_0 z0_0
  have e1b_1 := up hb e1b_0 z0_0
  have e1c_1 := up hb e1c_0 z0_0
  have e1d_1 := up hb e1d_0 z0_0
  have e1e_1 := up hb e1e_0 z0_0
  have e1f_1 := up hb e1f_0 z0_0
  have e1g_1 := up hb e1g_0 z0_0
  have e2a_1 := up hb e2a_0 z1_0
  have e2b_1 := up hb e2b_0 z1_0
  have e2c_1 := up hb e2c_0 z1_0
  have e2d_1 := up hb e2d_0 z1_0
  have e2e_1 := up hb e2e_0 z1_0
  have e2f_1 := up hb e2f_0 z1_0
  have e2g_1 := up hb e2g_0 z1_0
  have z0_1 := Nat.lt_of_lt_of_le z0_0 zz
  have z1_1 := Nat.lt_of_lt_of_le z1_0 zz
  replace HB := Lib.hid (HB.out.trans (hb.mono HB.out.size))
  replace SZ := Lib.hid (And.intro SZ.out zz)
  clear zz hb e1a_0 e1b_0 e1c_0 e1d_0 e1e_0 e1f_0 e1g_0 e2a_0 e2b_0 e2c_0 e2d_0 e2e_0 e2f_0 e2g_0 z0_0 z1_0
  rw [← HM1.out]
  by_cases p1 : (1048576 : Int) < m1
  · have q1 : szl ((1048576 : Int)) m1 < 0 := by unfold szl; rw [if_pos p1]; omega
    clear p1
    go_wp2
    go_ret
    exact ⟨rfl, HB.out⟩
  have q1 : szl ((1048576 : Int)) m1 = (1048576 : Int) - m1 := by unfold szl; rw [if_neg p1]
  rw [q1]
  clear q1 n1
  have sm1 : Hid (SmK k1) := SmK.of_tt (by rw [← HM1.out]; omega)
  obtain ⟨m2, hm2⟩ : ∃ t, t = ttK k2 := ⟨_, rfl⟩
  have HM2 := Lib.hid hm2
  clear hm2
  go_wp2_with fail
  refine (szClaim_any k2 ((1048576 : Int) - m1) w1 _ (h2.keep HB.out (Nat.le_refl _)) HB.out.size n2 (by omega) (by omega)).mono ?_
  rintro e w2 ⟨rfl, hb⟩
  have zz := hb.size
  have e1a_2 := up hb e1a_1 z0_1
  have e1b_2 := up hb e1b_1 z0_1
  have e1c_2 := up hb e1c_1 z0_1
  have e1d_2 := up hb e1d_1 z0_1
  have e1e_2 := up hb e1e_1 z0_1
  have e1f_2 := up hb e1f_1 z0_1
  have e1g_2 := up hb e1g_1 z0_1
  have e2a_2 := up hb e2a_1 z1_1
  have e2b_2 := up hb e2b_1 z1_1
  have e2c_2 := up hb e2c_1 z1_1
  have e2d_2 := up hb e2d_1 z1_1
  have e2e_2 := up hb e2e_1 z1_1
  have e2f_2 := up hb e2f_1 z1_1
  have e2g_2 := up hb e2g_1 z1_1
  have z0_2 := Nat.lt_of_lt_of_le z0_1 zz
  have z1_2 := Nat.lt_of_lt_of_le z1_1 zz
  replace HB := Lib.hid (HB.out.trans (hb.mono HB.out.size))
  replace SZ := Lib.hid (And.intro SZ.out zz)
  clear zz hb e1a_1 e1b_1 e1c_1 e1d_1 e1e_1 e1f_1 e1g_1 e2a_1 e2b_1 e2c_1 e2d_1 e2e_1 e2f_1 e2g_1 z0_1 z1_1
  rw [← HM2.out]
  by_cases p2 : (1048576 : Int) - m1 < m2
  · have q1 : szl ((1048576 : Int) - m1) m2 < 0 := by unfold szl; rw [if_pos p2]; omega
    clear p2
    go_wp2
    go_ret
    exact ⟨rfl, HB.out⟩
  have q1 : szl ((1048576 : Int) - m1) m2 = (1048576 : Int) - m1 - m2 := by unfold szl; rw [if_neg p2]
  rw [q1]
  clear q1 n2
  have sm2 : Hid (SmK k2) := SmK.of_tt (by rw [← HM2.out]; omega)
  have HK : Hid (∀ a b : World, (w.heap.size < a.heap.size ∧ w.heap.size + 1 < a.heap.size ∧ a.cell? ⟨w.heap.size, 0, none⟩ = some (.int .i64 k1.K) ∧ a.cell? ⟨w.heap.size, 1, none⟩ = some (.int .i64 k1.s) ∧ a.cell? ⟨w.heap.size, 2, none⟩ = some (.slice k1.A0 k1.n0 k1.c0) ∧ a.cell? ⟨w.heap.size, 3, none⟩ = some (.string k1.t) ∧ a.cell? ⟨w.heap.size, 4, none⟩ = some (.slice k1.A1 k1.n1 k1.c1) ∧ a.cell? ⟨w.heap.size, 5, none⟩ = some (.slice k1.A2 k1.n2 k1.c2) ∧ a.cell? ⟨w.heap.size, 6, none⟩ = some (.slice k1.A3 k1.D.length k1.c3) ∧ a.cell? ⟨w.heap.size + 1, 0, none⟩ = some (.int .i64 k2.K) ∧ a.cell? ⟨w.heap.size + 1, 1, none⟩ = some (.int .i64 k2.s) ∧ a.cell? ⟨w.heap.size + 1, 2, none⟩ = some (.slice k2.A0 k2.n0 k2.c0) ∧ a.cell? ⟨w.heap.size + 1, 3, none⟩ = some (.string k2.t) ∧ a.cell? ⟨w.heap.size + 1, 4, none⟩ = some (.slice k2.A1 k2.n1 k2.c1) ∧ a.cell? ⟨w.heap.size + 1, 5, none⟩ = some (.slice k2.A2 k2.n2 k2.c2) ∧ a.cell? ⟨w.heap.size + 1, 6, none⟩ = some (.slice k2.A3 k2.D.length k2.c3)) → Below a.heap.size a b → (w.heap.size < b.heap.size ∧ w.heap.size + 1 < b.heap.size ∧ b.cell? ⟨w.heap.size, 0, none⟩ = some (.int .i64 k1.K) ∧ b.cell? ⟨w.heap.size, 1, none⟩ = some (.int .i64 k1.s) ∧ b.cell? ⟨w.heap.size, 2, none⟩ = some (.slice k1.A0 k1.n0 k1.c0) ∧ b.cell? ⟨w.heap.size, 3, none⟩ = some (.string k1.t) ∧ b.cell? ⟨w.heap.size, 4, none⟩ = some (.slice k1.A1 k1.n1 k1.c1) ∧ b.cell? ⟨w.heap.size, 5, none⟩ = some (.slice k1.A2 k1.n2 k1.c2) ∧ b.cell? ⟨w.heap.size, 6, none⟩ = some (.slice k1.A3 k1.D.length k1.c3) ∧ b.cell? ⟨w.heap.size + 1, 0, none⟩ = some (.int .i64 k2.K) ∧ b.cell? ⟨w.heap.size + 1, 1, none⟩ = some (.int .i64 k2.s) ∧ b.cell? ⟨w.heap.size + 1, 2, none⟩ = some (.slice k2.A0 k2.n0 k2.c0) ∧ b.cell? ⟨w.heap.size + 1, 3, none⟩ = some (.string k2.t) ∧ b.cell? ⟨w.heap.size + 1, 4, none⟩ = some (.slice k2.A1 k2.n1 k2.c1) ∧ b.cell? ⟨w.heap.size + 1, 5, none⟩ = some (.slice k2.A2 k2.n2 k2.c2) ∧ b.cell? ⟨w.heap.size + 1, 6, none⟩ = some (.slice k2.A3 k2.D.length k2.c3))) := by
    rintro a b ⟨r0, r1, r2, r3, r4, r5, r6, r7, r8, r9, r10, r11, r12, r13, r14, r15⟩ hb
    have := hb.size
    exact ⟨by omega, by omega, up hb r2 (by omega), up hb r3 (by omega), up hb r4 (by omega), up hb r5 (by omega), up hb r6 (by omega), up hb r7 (by omega), up hb r8 (by omega), up hb r9 (by omega), up hb r10 (by omega), up hb r11 (by omega), up hb r12 (by omega), up hb r13 (by omega), up hb r14 (by omega), up hb r15 (by omega)⟩
  go_wp2_with fail
  have H2 : Hid (Below w.heap.size w w2.drew) := HB.out.drew
  go_region_held3 (fun a => w.heap.size < a.heap.size ∧ w.heap.size + 1 < a.heap.size ∧ a.cell? ⟨w.heap.size, 0, none⟩ = some (.int .i64 k1.K) ∧ a.cell? ⟨w.heap.size, 1, none⟩ = some (.int .i64 k1.s) ∧ a.cell? ⟨w.heap.size, 2, none⟩ = some (.slice k1.A0 k1.n0 k1.c0) ∧ a.cell? ⟨w.heap.size, 3, none⟩ = some (.string k1.t) ∧ a.cell? ⟨w.heap.size, 4, none⟩ = some (.slice k1.A1 k1.n1 k1.c1) ∧ a.cell? ⟨w.heap.size, 5, none⟩ = some (.slice k1.A2 k1.n2 k1.c2) ∧ a.cell? ⟨w.heap.size, 6, none⟩ = some (.slice k1.A3 k1.D.length k1.c3) ∧ a.cell? ⟨w.heap.size + 1, 0, none⟩ = some (.int .i64 k2.K) ∧ a.cell? ⟨w.heap.size + 1, 1, none⟩ = some (.int .i64 k2.s) ∧ a.cell? ⟨w.heap.size + 1, 2, none⟩ = some (.slice k2.A0 k2.n0 k2.c0) ∧ a.cell? ⟨w.heap.size + 1, 3, none⟩ = some (.string k2.t) ∧ a.cell? ⟨w.heap.size + 1, 4, none⟩ = some (.slice k2.A1 k2.n1 k2.c1) ∧ a.cell? ⟨w.heap.size + 1, 5, none⟩ = some (.slice k2.A2 k2.n2 k2.c2) ∧ a.cell? ⟨w.heap.size + 1, 6, none⟩ = some (.slice k2.A3 k2.D.length k2.c3))
    (first | (refine ⟨?_, ?_, ?_, ?_, ?_, ?_, ?_, ?_, ?_, ?_, ?_, ?_, ?_, ?_, ?_, ?_⟩ <;> assumption) | exact HK.out _ _ (by assumption) hb5 | exact HK.out _ _ (by assumption) hb4 | exact HK.out _ _ (by assumption) hb3)
    (first
      | (go_at_call 43; ((with_reducible refine (toClaim_any k1 _ _ (h1.keep H2.out (Nat.le_refl _)) H2.out.size sm1.out).mono ?_); rintro e w3 ⟨Ky1, rfl, hly1, hoy1, hb3⟩; have H3 := Lib.hid (H2.out.trans (hb3.mono H2.out.size))))
      | (go_at_call 43; ((with_reducible refine (toClaim_any k2 _ _ (h2.keep H3.out (Nat.le_refl _)) H3.out.size sm2.out).mono ?_); rintro e w4 ⟨Ky2, rfl, hly2, hoy2, hb4⟩; have H4 := Lib.hid (H3.out.trans (hb4.mono H3.out.size))))
      | (go_at_call 42; ((with_reducible refine (EqualClaims_s Ky1 Ky2 w4 w4.heap.size ((hoy1.rdK.keep hb4 hb4.size)) (hoy2.rdK) (Nat.le_refl _) (hly1.small sm1.out) (hly2.small sm2.out) k1 hly1 k2 hly2).mono ?_); rintro e w5 ⟨rfl, hb5⟩; have H5 := Lib.hid (H4.out.trans (hb5.mono H4.out.size)))))
  clear H3
  clear H4
  clear H5
  clear HK H2
  replace hb3 := bd hb3
  have Oy1 := Lib.hid hoy1
  clear hoy1
  have Ly1 := Lib.hid hly1
  clear hly1
  have zz := hb3.size
  have e1a_3 := up hb3 e1a_2 z0_2
  have e1b_3 := up hb3 e1b_2 z0_2
  have e1c_3 := up hb3 e1c_2 z0_2
  have e1d_3 := up hb3 e1d_2 z0_2
  have e1e_3 := up hb3 e1e_2 z0_2
  have e1f_3 := up hb3 e1f_2 z0_2
  have e1g_3 := up hb3 e1g_2 z0_2
  have e2a_3 := up hb3 e2a_2 z1_2
  have e2b_3 := up hb3 e2b_2 z1_2
  have e2c_3 := up hb3 e2c_2 z1_2
  have e2d_3 := up hb3 e2d_2 z1_2
  have e2e_3 := up hb3 e2e_2 z1_2
  have e2f_3 := up hb3 e2f_2 z1_2
  have e2g_3 := up hb3 e2g_2 z1_2
  have z0_3 := Nat.lt_of_lt_of_le z0_2 zz
  have z1_3 := Nat.lt_of_lt_of_le z1_2 zz
  replace HB := Lib.hid (HB.out.trans (hb3.mono HB.out.size))
  replace SZ := Lib.hid (And.intro SZ.out zz)
  clear zz hb3 e1a_2 e1b_2 e1c_2 e1d_2 e1e_2 e1f_2 e1g_2 e2a_2 e2b_2 e2c_2 e2d_2 e2e_2 e2f_2 e2g_2 z0_2 z1_2
  have Oy2 := Lib.hid hoy2
  clear hoy2
  have Ly2 := Lib.hid hly2
  clear hly2
  have zz := hb4.size
  have e1a_4 := up hb4 e1a_3 z0_3
  have e1b_4 := up hb4 e1b_3 z0_3
  have e1c_4 := up hb4 e1c_3 z0_3
  have e1d_4 := up hb4 e1d_3 z0_3
  have e1e_4 := up hb4 e1e_3 z0_3
  have e1f_4 := up hb4 e1f_3 z0_3
  have e1g_4 := up hb4 e1g_3 z0_3
  have e2a_4 := up hb4 e2a_3 z1_3
  have e2b_4 := up hb4 e2b_3 z1_3
  have e2c_4 := up hb4 e2c_3 z1_3
  have e2d_4 := up hb4 e2d_3 z1_3
  have e2e_4 := up hb4 e2e_3 z1_3
  have e2f_4 := up hb4 e2f_3 z1_3
  have e2g_4 := up hb4 e2g_3 z1_3
  have z0_4 := Nat.lt_of_lt_of_le z0_3 zz
  have z1_4 := Nat.lt_of_lt_of_le z1_3 zz
  replace Oy1 := Lib.hid (Oy1.out.keepB hb4 (by have := SZ.out; omega))
  replace HB := Lib.hid (HB.out.trans (hb4.mono HB.out.size))
  replace SZ := Lib.hid (And.intro SZ.out zz)
  clear zz hb4 e1a_3 e1b_3 e1c_3 e1d_3 e1e_3 e1f_3 e1g_3 e2a_3 e2b_3 e2c_3 e2d_3 e2e_3 e2f_3 e2g_3 z0_3 z1_3
  have zz := hb5.size
  have e1a_5 := up hb5 e1a_4 z0_4
  have e1b_5 := up hb5 e1b_4 z0_4
  have e1c_5 := up hb5 e1c_4 z0_4
  have e1d_5 := up hb5 e1d_4 z0_4
  have e1e_5 := up hb5 e1e_4 z0_4
  have e1f_5 := up hb5 e1f_4 z0_4
  have e1g_5 := up hb5 e1g_4 z0_4
  have e2a_5 := up hb5 e2a_4 z1_4
  have e2b_5 := up hb5 e2b_4 z1_4
  have e2c_5 := up hb5 e2c_4 z1_4
  have e2d_5 := up hb5 e2d_4 z1_4
  have e2e_5 := up hb5 e2e_4 z1_4
  have e2f_5 := up hb5 e2f_4 z1_4
  have e2g_5 := up hb5 e2g_4 z1_4
  have z0_5 := Nat.lt_of_lt_of_le z0_4 zz
  have z1_5 := Nat.lt_of_lt_of_le z1_4 zz
  replace Oy1 := Lib.hid (Oy1.out.keepB hb5 (by have := SZ.out; omega))
  replace Oy2 := Lib.hid (Oy2.out.keepB hb5 (by have := SZ.out; omega))
  replace HB := Lib.hid (HB.out.trans (hb5.mono HB.out.size))
  replace SZ := Lib.hid (And.intro SZ.out zz)
  clear zz hb5 e1a_4 e1b_4 e1c_4 e1d_4 e1e_4 e1f_4 e1g_4 e2a_4 e2b_4 e2c_4 e2d_4 e2e_4 e2f_4 e2g_4 z0_4 z1_4
  clear Oy1
  clear Oy2
  go_wp2_with fail
  refine (toClaim_any k1 _ _ (h1.keep HB.out (Nat.le_refl _)) HB.out.size sm1.out).mono ?_
  rintro e w6 ⟨Kx1, rfl, hlx1, hox1, hb⟩
  have Ox1 := Lib.hid hox1
  clear hox1
  have Lx1 := Lib.hid hlx1
  clear hlx1
  have zz := hb.size
  have e1a_6 := up hb e1a_5 z0_5
  have e1b_6 := up hb e1b_5 z0_5
  have e1c_6 := up hb e1c_5 z0_5
  have e1d_6 := up hb e1d_5 z0_5
  have e1e_6 := up hb e1e_5 z0_5
  have e1f_6 := up hb e1f_5 z0_5
  have e1g_6 := up hb e1g_5 z0_5
  have e2a_6 := up hb e2a_5 z1_5
  have e2b_6 := up hb e2b_5 z1_5
  have e2c_6 := up hb e2c_5 z1_5
  have e2d_6 := up hb e2d_5 z1_5
  have e2e_6 := up hb e2e_5 z1_5
  have e2f_6 := up hb e2f_5 z1_5
  have e2g_6 := up hb e2g_5 z1_5
  have z0_6 := Nat.lt_of_lt_of_le z0_5 zz
  have z1_6 := Nat.lt_of_lt_of_le z1_5 zz
  replace HB := Lib.hid (HB.out.trans (hb.mono HB.out.size))
  replace SZ := Lib.hid (And.intro SZ.out zz)
  clear zz hb e1a_5 e1b_5 e1c_5 e1d_5 e1e_5 e1f_5 e1g_5 e2a_5 e2b_5 e2c_5 e2d_5 e2e_5 e2f_5 e2g_5 z0_5 z1_5
  obtain ⟨w7, hW⟩ : ∃ W : World, W = w6.alloc (Obj.cells #[.int .i64 Kx1.K, .int .i64 Kx1.s, .slice Kx1.A0 Kx1.n0 Kx1.c0, .string Kx1.t, .slice Kx1.A1 Kx1.n1 Kx1.c1, .slice Kx1.A2 Kx1.n2 Kx1.c2, .slice Kx1.A3 Kx1.D.length Kx1.c3] 59) := ⟨_, rfl⟩
  obtain ⟨Xx1, hX⟩ : ∃ X : Nat, X = w6.heap.size := ⟨_, rfl⟩
  have hb : Below w6.heap.size w6 w7 := by rw [hW]; exact (Below.refl _ _).alloc (Nat.le_refl _) _
  have y0 : w7.cell? ⟨Xx1, 0, none⟩ = some (.int .i64 Kx1.K) := by rw [hW, hX]; simp [go_sem]
  have y1 : w7.cell? ⟨Xx1, 1, none⟩ = some (.int .i64 Kx1.s) := by rw [hW, hX]; simp [go_sem]
  have y2 : w7.cell? ⟨Xx1, 2, none⟩ = some (.slice Kx1.A0 Kx1.n0 Kx1.c0) := by rw [hW, hX]; simp [go_sem]
  have y3 : w7.cell? ⟨Xx1, 3, none⟩ = some (.string Kx1.t) := by rw [hW, hX]; simp [go_sem]
  have y4 : w7.cell? ⟨Xx1, 4, none⟩ = some (.slice Kx1.A1 Kx1.n1 Kx1.c1) := by rw [hW, hX]; simp [go_sem]
  have y5 : w7.cell? ⟨Xx1, 5, none⟩ = some (.slice Kx1.A2 Kx1.n2 Kx1.c2) := by rw [hW, hX]; simp [go_sem]
  have y6 : w7.cell? ⟨Xx1, 6, none⟩ = some (.slice Kx1.A3 Kx1.D.length Kx1.c3) := by rw [hW, hX]; simp [go_sem]
  have yz : Xx1 < w7.heap.size := by rw [hW, hX]; simp
  have ys : w6.heap.size ≤ Xx1 := by rw [hX]; exact Nat.le_refl _
  have HWx := Lib.hid hW
  have HX := Lib.hid hX
  clear hW hX
  have zz := hb.size
  have e1a_7 := up hb e1a_6 z0_6
  have e1b_7 := up hb e1b_6 z0_6
  have e1c_7 := up hb e1c_6 z0_6
  have e1d_7 := up hb e1d_6 z0_6
  have e1e_7 := up hb e1e_6 z0_6
  have e1f_7 := up hb e1f_6 z0_6
  have e1g_7 := up hb e1g_6 z0_6
  have e2a_7 := up hb e2a_6 z1_6
  have e2b_7 := up hb e2b_6 z1_6
  have e2c_7 := up hb e2c_6 z1_6
  have e2d_7 := up hb e2d_6 z1_6
  have e2e_7 := up hb e2e_6 z1_6
  have e2f_7 := up hb e2f_6 z1_6
  have e2g_7 := up hb e2g_6 z1_6
  have z0_7 := Nat.lt_of_lt_of_le z0_6 zz
  have z1_7 := Nat.lt_of_lt_of_le z1_6 zz
  replace Ox1 := Lib.hid (Ox1.out.keepB hb (by have := SZ.out; omega))
  replace HB := Lib.hid (HB.out.trans (hb.mono HB.out.size))
  replace SZ := Lib.hid (And.intro SZ.out zz)
  clear zz hb 
  replace SZ := Lib.hid (And.intro SZ.out (And.intro ys yz))
  clear ys
  have bx10_7 := y0
  clear y0
  have bx11_7 := y1
  clear y1
  have bx12_7 := y2
  clear y2
  have bx13_7 := y3
  clear y3
  have bx14_7 := y4
  clear y4
  have bx15_7 := y5
  clear y5
  have bx16_7 := y6
  clear y6
  have zbx1_7 := yz
  clear yz
  go_wp2_with fail
  rw [← HWx.out, ← HX.out]
  clear HWx HX e1a_6 e1b_6 e1c_6 e1d_6 e1e_6 e1f_6 e1g_6 e2a_6 e2b_6 e2c_6 e2d_6 e2e_6 e2f_6 e2g_6 z0_6 z1_6
  go_wp2_with fail
  refine (toClaim_any k2 _ _ (h2.keep HB.out (Nat.le_refl _)) HB.out.size sm2.out).mono ?_
  rintro e w8 ⟨Kx2, rfl, hlx2, hox2, hb⟩
  have Ox2 := Lib.hid hox2
  clear hox2
  have Lx2 := Lib.hid hlx2
  clear hlx2
  have zz := hb.size
  have e1a_8 := up hb e1a_7 z0_7
  have e1b_8 := up hb e1b_7 z0_7
  have e1c_8 := up hb e1c_7 z0_7
  have e1d_8 := up hb e1d_7 z0_7
  have e1e_8 := up hb e1e_7 z0_7
  have e1f_8 := up hb e1f_7 z0_7
  have e1g_8 := up hb e1g_7 z0_7
  have e2a_8 := up hb e2a_7 z1_7
  have e2b_8 := up hb e2b_7 z1_7
  have e2c_8 := up hb e2c_7 z1_7
  have e2d_8 := up hb e2d_7 z1_7
  have e2e_8 := up hb e2e_7 z1_7
  have e2f_8 := up hb e2f_7 z1_7
  have e2g_8 := up hb e2g_7 z1_7
  have bx10_8 := up hb bx10_7 zbx1_7
  have bx11_8 := up hb bx11_7 zbx1_7
  have bx12_8 := up hb bx12_7 zbx1_7
  have bx13_8 := up hb bx13_7 zbx1_7
  have bx14_8 := up hb bx14_7 zbx1_7
  have bx15_8 := up hb bx15_7 zbx1_7
  have bx16_8 := up hb bx16_7 zbx1_7
  have z0_8 := Nat.lt_of_lt_of_le z0_7 zz
  have z1_8 := Nat.lt_of_lt_of_le z1_7 zz
  have zbx1_8 := Nat.lt_of_lt_of_le zbx1_7 zz
  replace Ox1 := Lib.hid (Ox1.out.keepB hb (by have := SZ.out; omega))
  replace HB := Lib.hid (HB.out.trans (hb.mono HB.out.size))
  replace SZ := Lib.hid (And.intro SZ.out zz)
  clear zz hb e1a_7 e1b_7 e1c_7 e1d_7 e1e_7 e1f_7 e1g_7 e2a_7 e2b_7 e2c_7 e2d_7 e2e_7 e2f_7 e2g_7 bx10_7 bx11_7 bx12_7 bx13_7 bx14_7 bx15_7 bx16_7 z0_7 z1_7 zbx1_7
  obtain ⟨w9, hW⟩ : ∃ W : World, W = w8.alloc (Obj.cells #[.int .i64 Kx2.K, .int .i64 Kx2.s, .slice Kx2.A0 Kx2.n0 Kx2.c0, .string Kx2.t, .slice Kx2.A1 Kx2.n1 Kx2.c1, .slice Kx2.A2 Kx2.n2 Kx2.c2, .slice Kx2.A3 Kx2.D.length Kx2.c3] 59) := ⟨_, rfl⟩
  obtain ⟨Xx2, hX⟩ : ∃ X : Nat, X = w8.heap.size := ⟨_, rfl⟩
  have hb : Below w8.heap.size w8 w9 := by rw [hW]; exact (Below.refl _ _).alloc (Nat.le_refl _) _
  have y0 : w9.cell? ⟨Xx2, 0, none⟩ = some (.int .i64 Kx2.K) := by rw [hW, hX]; simp [go_sem]
  have y1 : w9.cell? ⟨Xx2, 1, none⟩ = some (.int .i64 Kx2.s) := by rw [hW, hX]; simp [go_sem]
  have y2 : w9.cell? ⟨Xx2, 2, none⟩ = some (.slice Kx2.A0 Kx2.n0 Kx2.c0) := by rw [hW, hX]; simp [go_sem]
  have y3 : w9.cell? ⟨Xx2, 3, none⟩ = some (.string Kx2.t) := by rw [hW, hX]; simp [go_sem]
  have y4 : w9.cell? ⟨Xx2, 4, none⟩ = some (.slice Kx2.A1 Kx2.n1 Kx2.c1) := by rw [hW, hX]; simp [go_sem]
  have y5 : w9.cell? ⟨Xx2, 5, none⟩ = some (.slice Kx2.A2 Kx2.n2 Kx2.c2) := by rw [hW, hX]; simp [go_sem]
  have y6 : w9.cell? ⟨Xx2, 6, none⟩ = some (.slice Kx2.A3 Kx2.D.length Kx2.c3) := by rw [hW, hX]; simp [go_sem]
  have yz : Xx2 < w9.heap.size := by rw [hW, hX]; simp
  have ys : w8.heap.size ≤ Xx2 := by rw [hX]; exact Nat.le_refl _
  have HWx := Lib.hid hW
  have HX := Lib.hid hX
  clear hW hX
  have zz := hb.size
  have e1a_9 := up hb e1a_8 z0_8
  have e1b_9 := up hb e1b_8 z0_8
  have e1c_9 := up hb e1c_8 z0_8
  have e1d_9 := up hb e1d_8 z0_8
  have e1e_9 := up hb e1e_8 z0_8
  have e1f_9 := up hb e1f_8 z0_8
  have e1g_9 := up hb e1g_8 z0_8
  have e2a_9 := up hb e2a_8 z1_8
  have e2b_9 := up hb e2b_8 z1_8
  have e2c_9 := up hb e2c_8 z1_8
  have e2d_9 := up hb e2d_8 z1_8
  have e2e_9 := up hb e2e_8 z1_8
  have e2f_9 := up hb e2f_8 z1_8
  have e2g_9 := up hb e2g_8 z1_8
  have bx10_9 := up hb bx10_8 zbx1_8
  have bx11_9 := up hb bx11_8 zbx1_8
  have bx12_9 := up hb bx12_8 zbx1_8
  have bx13_9 := up hb bx13_8 zbx1_8
  have bx14_9 := up hb bx14_8 zbx1_8
  have bx15_9 := up hb bx15_8 zbx1_8
  have bx16_9 := up hb bx16_8 zbx1_8
  have z0_9 := Nat.lt_of_lt_of_le z0_8 zz
  have z1_9 := Nat.lt_of_lt_of_le z1_8 zz
  have zbx1_9 := Nat.lt_of_lt_of_le zbx1_8 zz
  replace Ox1 := Lib.hid (Ox1.out.keepB hb (by have := SZ.out; omega))
  replace Ox2 := Lib.hid (Ox2.out.keepB hb (by have := SZ.out; omega))
  replace HB := Lib.hid (HB.out.trans (hb.mono HB.out.size))
  replace SZ := Lib.hid (And.intro SZ.out zz)
  clear zz hb 
  replace SZ := Lib.hid (And.intro SZ.out (And.intro ys yz))
  clear ys
  have bx20_9 := y0
  clear y0
  have bx21_9 := y1
  clear y1
  have bx22_9 := y2
  clear y2
  have bx23_9 := y3
  clear y3
  have bx24_9 := y4
  clear y4
  have bx25_9 := y5
  clear y5
  have bx26_9 := y6
  clear y6
  have zbx2_9 := yz
  clear yz
  go_wp2_with fail
  rw [← HWx.out, ← HX.out]
  clear HWx HX e1a_8 e1b_8 e1c_8 e1d_8 e1e_8 e1f_8 e1g_8 e2a_8 e2b_8 e2c_8 e2d_8 e2e_8 e2f_8 e2g_8 bx10_8 bx11_8 bx12_8 bx13_8 bx14_8 bx15_8 bx16_8 z0_8 z1_8 zbx1_8
  go_wp2_with fail
  refine (EqualClaims_i Kx1 Kx2 w9 w9.heap.size (Ox1.out.rdK.keep (Below.refl _ _) (by have := SZ.out; omega)) (Ox2.out.rdK.keep (Below.refl _ _) (by have := SZ.out; omega)) (Nat.le_refl _) (Lx1.out.small sm1.out) (Lx2.out.small sm2.out) k1 Lx1.out k2 Lx2.out).mono ?_
  rintro e w10 ⟨rfl, hb⟩
  have zz := hb.size
  have e1a_10 := up hb e1a_9 z0_9
  have e1b_10 := up hb e1b_9 z0_9
  have e1c_10 := up hb e1c_9 z0_9
  have e1d_10 := up hb e1d_9 z0_9
  have e1e_10 := up hb e1e_9 z0_9
  have e1f_10 := up hb e1f_9 z0_9
  have e1g_10 := up hb e1g_9 z0_9
  have e2a_10 := up hb e2a_9 z1_9
  have e2b_10 := up hb e2b_9 z1_9
  have e2c_10 := up hb e2c_9 z1_9
  have e2d_10 := up hb e2d_9 z1_9
  have e2e_10 := up hb e2e_9 z1_9
  have e2f_10 := up hb e2f_9 z1_9
  have e2g_10 := up hb e2g_9 z1_9
  have bx10_10 := up hb bx10_9 zbx1_9
  have bx11_10 := up hb bx11_9 zbx1_9
  have bx12_10 := up hb bx12_9 zbx1_9
  have bx13_10 := up hb bx13_9 zbx1_9
  have bx14_10 := up hb bx14_9 zbx1_9
  have bx15_10 := up hb bx15_9 zbx1_9
  have bx16_10 := up hb bx16_9 zbx1_9
  have bx20_10 := up hb bx20_9 zbx2_9
  have bx21_10 := up hb bx21_9 zbx2_9
  have bx22_10 := up hb bx22_9 zbx2_9
  have bx23_10 := up hb bx23_9 zbx2_9
  have bx24_10 := up hb bx24_9 zbx2_9
  have bx25_10 := up hb bx25_9 zbx2_9
  have bx26_10 := up hb bx26_9 zbx2_9
  have z0_10 := Nat.lt_of_lt_of_le z0_9 zz
  have z1_10 := Nat.lt_of_lt_of_le z1_9 zz
  have zbx1_10 := Nat.lt_of_lt_of_le zbx1_9 zz
  have zbx2_10 := Nat.lt_of_lt_of_le zbx2_9 zz
  replace Ox1 := Lib.hid (Ox1.out.keepB hb (by have := SZ.out; omega))
  replace Ox2 := Lib.hid (Ox2.out.keepB hb (by have := SZ.out; omega))
  replace HB := Lib.hid (HB.out.trans (hb.mono HB.out.size))
  replace SZ := Lib.hid (And.intro SZ.out zz)
  clear zz hb e1a_9 e1b_9 e1c_9 e1d_9 e1e_9 e1f_9 e1g_9 e2a_9 e2b_9 e2c_9 e2d_9 e2e_9 e2f_9 e2g_9 bx10_9 bx11_9 bx12_9 bx13_9 bx14_9 bx15_9 bx16_9 bx20_9 bx21_9 bx22_9 bx23_9 bx24_9 bx25_9 bx26_9 z0_9 z1_9 zbx1_9 zbx2_9
  have HK : Hid (∀ a b : World, (w.heap.size < a.heap.size ∧ w.heap.size + 1 < a.heap.size ∧ Xx1 < a.heap.size ∧ Xx2 < a.heap.size ∧ a.cell? ⟨w.heap.size, 0, none⟩ = some (.int .i64 k1.K) ∧ a.cell? ⟨w.heap.size, 1, none⟩ = some (.int .i64 k1.s) ∧ a.cell? ⟨w.heap.size, 2, none⟩ = some (.slice k1.A0 k1.n0 k1.c0) ∧ a.cell? ⟨w.heap.size, 3, none⟩ = some (.string k1.t) ∧ a.cell? ⟨w.heap.size, 4, none⟩ = some (.slice k1.A1 k1.n1 k1.c1) ∧ a.cell? ⟨w.heap.size, 5, none⟩ = some (.slice k1.A2 k1.n2 k1.c2) ∧ a.cell? ⟨w.heap.size, 6, none⟩ = some (.slice k1.A3 k1.D.length k1.c3) ∧ a.cell? ⟨w.heap.size + 1, 0, none⟩ = some (.int .i64 k2.K) ∧ a.cell? ⟨w.heap.size + 1, 1, none⟩ = some (.int .i64 k2.s) ∧ a.cell? ⟨w.heap.size + 1, 2, none⟩ = some (.slice k2.A0 k2.n0 k2.c0) ∧ a.cell? ⟨w.heap.size + 1, 3, none⟩ = some (.string k2.t) ∧ a.cell? ⟨w.heap.size + 1, 4, none⟩ = some (.slice k2.A1 k2.n1 k2.c1) ∧ a.cell? ⟨w.heap.size + 1, 5, none⟩ = some (.slice k2.A2 k2.n2 k2.c2) ∧ a.cell? ⟨w.heap.size + 1, 6, none⟩ = some (.slice k2.A3 k2.D.length k2.c3) ∧ a.cell? ⟨Xx1, 0, none⟩ = some (.int .i64 Kx1.K) ∧ a.cell? ⟨Xx1, 1, none⟩ = some (.int .i64 Kx1.s) ∧ a.cell? ⟨Xx1, 2, none⟩ = some (.slice Kx1.A0 Kx1.n0 Kx1.c0) ∧ a.cell? ⟨Xx1, 3, none⟩ = some (.string Kx1.t) ∧ a.cell? ⟨Xx1, 4, none⟩ = some (.slice Kx1.A1 Kx1.n1 Kx1.c1) ∧ a.cell? ⟨Xx1, 5, none⟩ = some (.slice Kx1.A2 Kx1.n2 Kx1.c2) ∧ a.cell? ⟨Xx1, 6, none⟩ = some (.slice Kx1.A3 Kx1.D.length Kx1.c3) ∧ a.cell? ⟨Xx2, 0, none⟩ = some (.int .i64 Kx2.K) ∧ a.cell? ⟨Xx2, 1, none⟩ = some (.int .i64 Kx2.s) ∧ a.cell? ⟨Xx2, 2, none⟩ = some (.slice Kx2.A0 Kx2.n0 Kx2.c0) ∧ a.cell? ⟨Xx2, 3, none⟩ = some (.string Kx2.t) ∧ a.cell? ⟨Xx2, 4, none⟩ = some (.slice Kx2.A1 Kx2.n1 Kx2.c1) ∧ a.cell? ⟨Xx2, 5, none⟩ = some (.slice Kx2.A2 Kx2.n2 Kx2.c2) ∧ a.cell? ⟨Xx2, 6, none⟩ = some (.slice Kx2.A3 Kx2.D.length Kx2.c3)) → Below a.heap.size a b → (w.heap.size < b.heap.size ∧ w.heap.size + 1 < b.heap.size ∧ Xx1 < b.heap.size ∧ Xx2 < b.heap.size ∧ b.cell? ⟨w.heap.size, 0, none⟩ = some (.int .i64 k1.K) ∧ b.cell? ⟨w.heap.size, 1, none⟩ = some (.int .i64 k1.s) ∧ b.cell? ⟨w.heap.size, 2, none⟩ = some (.slice k1.A0 k1.n0 k1.c0) ∧ b.cell? ⟨w.heap.size, 3, none⟩ = some (.string k1.t) ∧ b.cell? ⟨w.heap.size, 4, none⟩ = some (.slice k1.A1 k1.n1 k1.c1) ∧ b.cell? ⟨w.heap.size, 5, none⟩ = some (.slice k1.A2 k1.n2 k1.c2) ∧ b.cell? ⟨w.heap.size, 6, none⟩ = some (.slice k1.A3 k1.D.length k1.c3) ∧ b.cell? ⟨w.heap.size + 1, 0, none⟩ = some (.int .i64 k2.K) ∧ b.cell? ⟨w.heap.size + 1, 1, none⟩ = some (.int .i64 k2.s) ∧ b.cell? ⟨w.heap.size + 1, 2, none⟩ = some (.slice k2.A0 k2.n0 k2.c0) ∧ b.cell? ⟨w.heap.size + 1, 3, none⟩ = some (.string k2.t) ∧ b.cell? ⟨w.heap.size + 1, 4, none⟩ = some (.slice k2.A1 k2.n1 k2.c1) ∧ b.cell? ⟨w.heap.size + 1, 5, none⟩ = some (.slice k2.A2 k2.n2 k2.c2) ∧ b.cell? ⟨w.heap.size + 1, 6, none⟩ = some (.slice k2.A3 k2.D.length k2.c3) ∧ b.cell? ⟨Xx1, 0, none⟩ = some (.int .i64 Kx1.K) ∧ b.cell? ⟨Xx1, 1, none⟩ = some (.int .i64 Kx1.s) ∧ b.cell? ⟨Xx1, 2, none⟩ = some (.slice Kx1.A0 Kx1.n0 Kx1.c0) ∧ b.cell? ⟨Xx1, 3, none⟩ = some (.string Kx1.t) ∧ b.cell? ⟨Xx1, 4, none⟩ = some (.slice Kx1.A1 Kx1.n1 Kx1.c1) ∧ b.cell? ⟨Xx1, 5, none⟩ = some (.slice Kx1.A2 Kx1.n2 Kx1.c2) ∧ b.cell? ⟨Xx1, 6, none⟩ = some (.slice Kx1.A3 Kx1.D.length Kx1.c3) ∧ b.cell? ⟨Xx2, 0, none⟩ = some (.int .i64 Kx2.K) ∧ b.cell? ⟨Xx2, 1, none⟩ = some (.int .i64 Kx2.s) ∧ b.cell? ⟨Xx2, 2, none⟩ = some (.slice Kx2.A0 Kx2.n0 Kx2.c0) ∧ b.cell? ⟨Xx2, 3, none⟩ = some (.string Kx2.t) ∧ b.cell? ⟨Xx2, 4, none⟩ = some (.slice Kx2.A1 Kx2.n1 Kx2.c1) ∧ b.cell? ⟨Xx2, 5, none⟩ = some (.slice Kx2.A2 Kx2.n2 Kx2.c2) ∧ b.cell? ⟨Xx2, 6, none⟩ = some (.slice Kx2.A3 Kx2.D.length Kx2.c3))) := by
    rintro a b ⟨r0, r1, r2, r3, r4, r5, r6, r7, r8, r9, r10, r11, r12, r13, r14, r15, r16, r17, r18, r19, r20, r21, r22, r23, r24, r25, r26, r27, r28, r29, r30, r31⟩ hb
    have := hb.size
    exact ⟨by omega, by omega, by omega, by omega, up hb r4 (by omega), up hb r5 (by omega), up hb r6 (by omega), up hb r7 (by omega), up hb r8 (by omega), up hb r9 (by omega), up hb r10 (by omega), up hb r11 (by omega), up hb r12 (by omega), up hb r13 (by omega), up hb r14 (by omega), up hb r15 (by omega), up hb r16 (by omega), up hb r17 (by omega), up hb r18 (by omega), up hb r19 (by omega), up hb r20 (by omega), up hb r21 (by omega), up hb r22 (by omega), up hb r23 (by omega), up hb r24 (by omega), up hb r25 (by omega), up hb r26 (by omega), up hb r27 (by omega), up hb r28 (by omega), up hb r29 (by omega), up hb r30 (by omega), up hb r31 (by omega)⟩
  go_wp2_with fail
  have H10 : Hid (Below w.heap.size w w10.drew) := HB.out.drew
  go_region_held3 (fun a => w.heap.size < a.heap.size ∧ w.heap.size + 1 < a.heap.size ∧ Xx1 < a.heap.size ∧ Xx2 < a.heap.size ∧ a.cell? ⟨w.heap.size, 0, none⟩ = some (.int .i64 k1.K) ∧ a.cell? ⟨w.heap.size, 1, none⟩ = some (.int .i64 k1.s) ∧ a.cell? ⟨w.heap.size, 2, none⟩ = some (.slice k1.A0 k1.n0 k1.c0) ∧ a.cell? ⟨w.heap.size, 3, none⟩ = some (.string k1.t) ∧ a.cell? ⟨w.heap.size, 4, none⟩ = some (.slice k1.A1 k1.n1 k1.c1) ∧ a.cell? ⟨w.heap.size, 5, none⟩ = some (.slice k1.A2 k1.n2 k1.c2) ∧ a.cell? ⟨w.heap.size, 6, none⟩ = some (.slice k1.A3 k1.D.length k1.c3) ∧ a.cell? ⟨w.heap.size + 1, 0, none⟩ = some (.int .i64 k2.K) ∧ a.cell? ⟨w.heap.size + 1, 1, none⟩ = some (.int .i64 k2.s) ∧ a.cell? ⟨w.heap.size + 1, 2, none⟩ = some (.slice k2.A0 k2.n0 k2.c0) ∧ a.cell? ⟨w.heap.size + 1, 3, none⟩ = some (.string k2.t) ∧ a.cell? ⟨w.heap.size + 1, 4, none⟩ = some (.slice k2.A1 k2.n1 k2.c1) ∧ a.cell? ⟨w.heap.size + 1, 5, none⟩ = some (.slice k2.A2 k2.n2 k2.c2) ∧ a.cell? ⟨w.heap.size + 1, 6, none⟩ = some (.slice k2.A3 k2.D.length k2.c3) ∧ a.cell? ⟨Xx1, 0, none⟩ = some (.int .i64 Kx1.K) ∧ a.cell? ⟨Xx1, 1, none⟩ = some (.int .i64 Kx1.s) ∧ a.cell? ⟨Xx1, 2, none⟩ = some (.slice Kx1.A0 Kx1.n0 Kx1.c0) ∧ a.cell? ⟨Xx1, 3, none⟩ = some (.string Kx1.t) ∧ a.cell? ⟨Xx1, 4, none⟩ = some (.slice Kx1.A1 Kx1.n1 Kx1.c1) ∧ a.cell? ⟨Xx1, 5, none⟩ = some (.slice Kx1.A2 Kx1.n2 Kx1.c2) ∧ a.cell? ⟨Xx1, 6, none⟩ = some (.slice Kx1.A3 Kx1.D.length Kx1.c3) ∧ a.cell? ⟨Xx2, 0, none⟩ = some (.int .i64 Kx2.K) ∧ a.cell? ⟨Xx2, 1, none⟩ = some (.int .i64 Kx2.s) ∧ a.cell? ⟨Xx2, 2, none⟩ = some (.slice Kx2.A0 Kx2.n0 Kx2.c0) ∧ a.cell? ⟨Xx2, 3, none⟩ = some (.string Kx2.t) ∧ a.cell? ⟨Xx2, 4, none⟩ = some (.slice Kx2.A1 Kx2.n1 Kx2.c1) ∧ a.cell? ⟨Xx2, 5, none⟩ = some (.slice Kx2.A2 Kx2.n2 Kx2.c2) ∧ a.cell? ⟨Xx2, 6, none⟩ = some (.slice Kx2.A3 Kx2.D.length Kx2.c3))
    (first | (refine ⟨?_, ?_, ?_, ?_, ?_, ?_, ?_, ?_, ?_, ?_, ?_, ?_, ?_, ?_, ?_, ?_, ?_, ?_, ?_, ?_, ?_, ?_, ?_, ?_, ?_, ?_, ?_, ?_, ?_, ?_, ?_, ?_⟩ <;> assumption) | exact HK.out _ _ (by assumption) hb12 | exact HK.out _ _ (by assumption) hb11)
    (first
      | (go_at_call 43; ((with_reducible refine (toClaim_any k1 _ _ (h1.keep H10.out (Nat.le_refl _)) H10.out.size sm1.out).mono ?_); rintro e w11 ⟨Kt1, rfl, hlt1, hot1, hb11⟩; have H11 := Lib.hid (H10.out.trans (hb11.mono H10.out.size))))
      | (go_at_call 45; ((with_reducible refine (eqClaim_yes Kx1 Kt1 w11 w11.heap.size w11.heap.size ((Ox1.out.rdK.keep (Below.drew (Below.refl _ w10)) (le_drew (by have := SZ.out; omega))).keep hb11 hb11.size) (hot1.rdK) (Nat.le_refl _) (Nat.le_refl _) (Lx1.out.symm.trans hlt1) (Lx1.out.small sm1.out)).mono ?_); rintro e w12 ⟨rfl, hb12⟩; have H12 := Lib.hid (H11.out.trans (hb12.mono H11.out.size)))))
  clear H11
  clear H12
  clear HK H10
  replace hb11 := bd hb11
  have Ot1 := Lib.hid hot1
  clear hot1
  have Lt1 := Lib.hid hlt1
  clear hlt1
  have zz := hb11.size
  have e1a_11 := up hb11 e1a_10 z0_10
  have e1b_11 := up hb11 e1b_10 z0_10
  have e1c_11 := up hb11 e1c_10 z0_10
  have e1d_11 := up hb11 e1d_10 z0_10
  have e1e_11 := up hb11 e1e_10 z0_10
  have e1f_11 := up hb11 e1f_10 z0_10
  have e1g_11 := up hb11 e1g_10 z0_10
  have e2a_11 := up hb11 e2a_10 z1_10
  have e2b_11 := up hb11 e2b_10 z1_10
  have e2c_11 := up hb11 e2c_10 z1_10
  have e2d_11 := up hb11 e2d_10 z1_10
  have e2e_11 := up hb11 e2e_10 z1_10
  have e2f_11 := up hb11 e2f_10 z1_10
  have e2g_11 := up hb11 e2g_10 z1_10
  have bx10_11 := up hb11 bx10_10 zbx1_10
  have bx11_11 := up hb11 bx11_10 zbx1_10
  have bx12_11 := up hb11 bx12_10 zbx1_10
  have bx13_11 := up hb11 bx13_10 zbx1_10
  have bx14_11 := up hb11 bx14_10 zbx1_10
  have bx15_11 := up hb11 bx15_10 zbx1_10
  have bx16_11 := up hb11 bx16_10 zbx1_10
  have bx20_11 := up hb11 bx20_10 zbx2_10
  have bx21_11 := up hb11 bx21_10 zbx2_10
  have bx22_11 := up hb11 bx22_10 zbx2_10
  have bx23_11 := up hb11 bx23_10 zbx2_10
  have bx24_11 := up hb11 bx24_10 zbx2_10
  have bx25_11 := up hb11 bx25_10 zbx2_10
  have bx26_11 := up hb11 bx26_10 zbx2_10
  have z0_11 := Nat.lt_of_lt_of_le z0_10 zz
  have z1_11 := Nat.lt_of_lt_of_le z1_10 zz
  have zbx1_11 := Nat.lt_of_lt_of_le zbx1_10 zz
  have zbx2_11 := Nat.lt_of_lt_of_le zbx2_10 zz
  replace Ox1 := Lib.hid (Ox1.out.keepB hb11 (by have := SZ.out; omega))
  replace Ox2 := Lib.hid (Ox2.out.keepB hb11 (by have := SZ.out; omega))
  replace HB := Lib.hid (HB.out.trans (hb11.mono HB.out.size))
  replace SZ := Lib.hid (And.intro SZ.out zz)
  clear zz hb11 e1a_10 e1b_10 e1c_10 e1d_10 e1e_10 e1f_10 e1g_10 e2a_10 e2b_10 e2c_10 e2d_10 e2e_10 e2f_10 e2g_10 bx10_10 bx11_10 bx12_10 bx13_10 bx14_10 bx15_10 bx16_10 bx20_10 bx21_10 bx22_10 bx23_10 bx24_10 bx25_10 bx26_10 z0_10 z1_10 zbx1_10 zbx2_10
  have zz := hb12.size
  have e1a_12 := up hb12 e1a_11 z0_11
  have e1b_12 := up hb12 e1b_11 z0_11
  have e1c_12 := up hb12 e1c_11 z0_11
  have e1d_12 := up hb12 e1d_11 z0_11
  have e1e_12 := up hb12 e1e_11 z0_11
  have e1f_12 := up hb12 e1f_11 z0_11
  have e1g_12 := up hb12 e1g_11 z0_11
  have e2a_12 := up hb12 e2a_11 z1_11
  have e2b_12 := up hb12 e2b_11 z1_11
  have e2c_12 := up hb12 e2c_11 z1_11
  have e2d_12 := up hb12 e2d_11 z1_11
  have e2e_12 := up hb12 e2e_11 z1_11
  have e2f_12 := up hb12 e2f_11 z1_11
  have e2g_12 := up hb12 e2g_11 z1_11
  have bx10_12 := up hb12 bx10_11 zbx1_11
  have bx11_12 := up hb12 bx11_11 zbx1_11
  have bx12_12 := up hb12 bx12_11 zbx1_11
  have bx13_12 := up hb12 bx13_11 zbx1_11
  have bx14_12 := up hb12 bx14_11 zbx1_11
  have bx15_12 := up hb12 bx15_11 zbx1_11
  have bx16_12 := up hb12 bx16_11 zbx1_11
  have bx20_12 := up hb12 bx20_11 zbx2_11
  have bx21_12 := up hb12 bx21_11 zbx2_11
  have bx22_12 := up hb12 bx22_11 zbx2_11
  have bx23_12 := up hb12 bx23_11 zbx2_11
  have bx24_12 := up hb12 bx24_11 zbx2_11
  have bx25_12 := up hb12 bx25_11 zbx2_11
  have bx26_12 := up hb12 bx26_11 zbx2_11
  have z0_12 := Nat.lt_of_lt_of_le z0_11 zz
  have z1_12 := Nat.lt_of_lt_of_le z1_11 zz
  have zbx1_12 := Nat.lt_of_lt_of_le zbx1_11 zz
  have zbx2_12 := Nat.lt_of_lt_of_le zbx2_11 zz
  replace Ox1 := Lib.hid (Ox1.out.keepB hb12 (by have := SZ.out; omega))
  replace Ox2 := Lib.hid (Ox2.out.keepB hb12 (by have := SZ.out; omega))
  replace Ot1 := Lib.hid (Ot1.out.keepB hb12 (by have := SZ.out; omega))
  replace HB := Lib.hid (HB.out.trans (hb12.mono HB.out.size))
  replace SZ := Lib.hid (And.intro SZ.out zz)
  clear zz hb12 e1a_11 e1b_11 e1c_11 e1d_11 e1e_11 e1f_11 e1g_11 e2a_11 e2b_11 e2c_11 e2d_11 e2e_11 e2f_11 e2g_11 bx10_11 bx11_11 bx12_11 bx13_11 bx14_11 bx15_11 bx16_11 bx20_11 bx21_11 bx22_11 bx23_11 bx24_11 bx25_11 bx26_11 z0_11 z1_11 zbx1_11 zbx2_11
  clear Ot1
  have HK : Hid (∀ a b : World, (w.heap.size < a.heap.size ∧ w.heap.size + 1 < a.heap.size ∧ Xx1 < a.heap.size ∧ Xx2 < a.heap.size ∧ a.cell? ⟨w.heap.size, 0, none⟩ = some (.int .i64 k1.K) ∧ a.cell? ⟨w.heap.size, 1, none⟩ = some (.int .i64 k1.s) ∧ a.cell? ⟨w.heap.size, 2, none⟩ = some (.slice k1.A0 k1.n0 k1.c0) ∧ a.cell? ⟨w.heap.size, 3, none⟩ = some (.string k1.t) ∧ a.cell? ⟨w.heap.size, 4, none⟩ = some (.slice k1.A1 k1.n1 k1.c1) ∧ a.cell? ⟨w.heap.size, 5, none⟩ = some (.slice k1.A2 k1.n2 k1.c2) ∧ a.cell? ⟨w.heap.size, 6, none⟩ = some (.slice k1.A3 k1.D.length k1.c3) ∧ a.cell? ⟨w.heap.size + 1, 0, none⟩ = some (.int .i64 k2.K) ∧ a.cell? ⟨w.heap.size + 1, 1, none⟩ = some (.int .i64 k2.s) ∧ a.cell? ⟨w.heap.size + 1, 2, none⟩ = some (.slice k2.A0 k2.n0 k2.c0) ∧ a.cell? ⟨w.heap.size + 1, 3, none⟩ = some (.string k2.t) ∧ a.cell? ⟨w.heap.size + 1, 4, none⟩ = some (.slice k2.A1 k2.n1 k2.c1) ∧ a.cell? ⟨w.heap.size + 1, 5, none⟩ = some (.slice k2.A2 k2.n2 k2.c2) ∧ a.cell? ⟨w.heap.size + 1, 6, none⟩ = some (.slice k2.A3 k2.D.length k2.c3) ∧ a.cell? ⟨Xx1, 0, none⟩ = some (.int .i64 Kx1.K) ∧ a.cell? ⟨Xx1, 1, none⟩ = some (.int .i64 Kx1.s) ∧ a.cell? ⟨Xx1, 2, none⟩ = some (.slice Kx1.A0 Kx1.n0 Kx1.c0) ∧ a.cell? ⟨Xx1, 3, none⟩ = some (.string Kx1.t) ∧ a.cell? ⟨Xx1, 4, none⟩ = some (.slice Kx1.A1 Kx1.n1 Kx1.c1) ∧ a.cell? ⟨Xx1, 5, none⟩ = some (.slice Kx1.A2 Kx1.n2 Kx1.c2) ∧ a.cell? ⟨Xx1, 6, none⟩ = some (.slice Kx1.A3 Kx1.D.length Kx1.c3) ∧ a.cell? ⟨Xx2, 0, none⟩ = some (.int .i64 Kx2.K) ∧ a.cell? ⟨Xx2, 1, none⟩ = some (.int .i64 Kx2.s) ∧ a.cell? ⟨Xx2, 2, none⟩ = some (.slice Kx2.A0 Kx2.n0 Kx2.c0) ∧ a.cell? ⟨Xx2, 3, none⟩ = some (.string Kx2.t) ∧ a.cell? ⟨Xx2, 4, none⟩ = some (.slice Kx2.A1 Kx2.n1 Kx2.c1) ∧ a.cell? ⟨Xx2, 5, none⟩ = some (.slice Kx2.A2 Kx2.n2 Kx2.c2) ∧ a.cell? ⟨Xx2, 6, none⟩ = some (.slice Kx2.A3 Kx2.D.length Kx2.c3)) → Below a.heap.size a b → (w.heap.size < b.heap.size ∧ w.heap.size + 1 < b.heap.size ∧ Xx1 < b.heap.size ∧ Xx2 < b.heap.size ∧ b.cell? ⟨w.heap.size, 0, none⟩ = some (.int .i64 k1.K) ∧ b.cell? ⟨w.heap.size, 1, none⟩ = some (.int .i64 k1.s) ∧ b.cell? ⟨w.heap.size, 2, none⟩ = some (.slice k1.A0 k1.n0 k1.c0) ∧ b.cell? ⟨w.heap.size, 3, none⟩ = some (.string k1.t) ∧ b.cell? ⟨w.heap.size, 4, none⟩ = some (.slice k1.A1 k1.n1 k1.c1) ∧ b.cell? ⟨w.heap.size, 5, none⟩ = some (.slice k1.A2 k1.n2 k1.c2) ∧ b.cell? ⟨w.heap.size, 6, none⟩ = some (.slice k1.A3 k1.D.length k1.c3) ∧ b.cell? ⟨w.heap.size + 1, 0, none⟩ = some (.int .i64 k2.K) ∧ b.cell? ⟨w.heap.size + 1, 1, none⟩ = some (.int .i64 k2.s) ∧ b.cell? ⟨w.heap.size + 1, 2, none⟩ = some (.slice k2.A0 k2.n0 k2.c0) ∧ b.cell? ⟨w.heap.size + 1, 3, none⟩ = some (.string k2.t) ∧ b.cell? ⟨w.heap.size + 1, 4, none⟩ = some (.slice k2.A1 k2.n1 k2.c1) ∧ b.cell? ⟨w.heap.size + 1, 5, none⟩ = some (.slice k2.A2 k2.n2 k2.c2) ∧ b.cell? ⟨w.heap.size + 1, 6, none⟩ = some (.slice k2.A3 k2.D.length k2.c3) ∧ b.cell? ⟨Xx1, 0, none⟩ = some (.int .i64 Kx1.K) ∧ b.cell? ⟨Xx1, 1, none⟩ = some (.int .i64 Kx1.s) ∧ b.cell? ⟨Xx1, 2, none⟩ = some (.slice Kx1.A0 Kx1.n0 Kx1.c0) ∧ b.cell? ⟨Xx1, 3, none⟩ = some (.string Kx1.t) ∧ b.cell? ⟨Xx1, 4, none⟩ = some (.slice Kx1.A1 Kx1.n1 Kx1.c1) ∧ b.cell? ⟨Xx1, 5, none⟩ = some (.slice Kx1.A2 Kx1.n2 Kx1.c2) ∧ b.cell? ⟨Xx1, 6, none⟩ = some (.slice Kx1.A3 Kx1.D.length Kx1.c3) ∧ b.cell? ⟨Xx2, 0, none⟩ = some (.int .i64 Kx2.K) ∧ b.cell? ⟨Xx2, 1, none⟩ = some (.int .i64 Kx2.s) ∧ b.cell? ⟨Xx2, 2, none⟩ = some (.slice Kx2.A0 Kx2.n0 Kx2.c0) ∧ b.cell? ⟨Xx2, 3, none⟩ = some (.string Kx2.t) ∧ b.cell? ⟨Xx2, 4, none⟩ = some (.slice Kx2.A1 Kx2.n1 Kx2.c1) ∧ b.cell? ⟨Xx2, 5, none⟩ = some (.slice Kx2.A2 Kx2.n2 Kx2.c2) ∧ b.cell? ⟨Xx2, 6, none⟩ = some (.slice Kx2.A3 Kx2.D.length Kx2.c3))) := by
    rintro a b ⟨r0, r1, r2, r3, r4, r5, r6, r7, r8, r9, r10, r11, r12, r13, r14, r15, r16, r17, r18, r19, r20, r21, r22, r23, r24, r25, r26, r27, r28, r29, r30, r31⟩ hb
    have := hb.size
    exact ⟨by omega, by omega, by omega, by omega, up hb r4 (by omega), up hb r5 (by omega), up hb r6 (by omega), up hb r7 (by omega), up hb r8 (by omega), up hb r9 (by omega), up hb r10 (by omega), up hb r11 (by omega), up hb r12 (by omega), up hb r13 (by omega), up hb r14 (by omega), up hb r15 (by omega), up hb r16 (by omega), up hb r17 (by omega), up hb r18 (by omega), up hb r19 (by omega), up hb r20 (by omega), up hb r21 (by omega), up hb r22 (by omega), up hb r23 (by omega), up hb r24 (by omega), up hb r25 (by omega), up hb r26 (by omega), up hb r27 (by omega), up hb r28 (by omega), up hb r29 (by omega), up hb r30 (by omega), up hb r31 (by omega)⟩
  go_wp2_with fail
  have H12 : Hid (Below w.heap.size w w12.drew) := HB.out.drew
  go_region_held3 (fun a => w.heap.size < a.heap.size ∧ w.heap.size + 1 < a.heap.size ∧ Xx1 < a.heap.size ∧ Xx2 < a.heap.size ∧ a.cell? ⟨w.heap.size, 0, none⟩ = some (.int .i64 k1.K) ∧ a.cell? ⟨w.heap.size, 1, none⟩ = some (.int .i64 k1.s) ∧ a.cell? ⟨w.heap.size, 2, none⟩ = some (.slice k1.A0 k1.n0 k1.c0) ∧ a.cell? ⟨w.heap.size, 3, none⟩ = some (.string k1.t) ∧ a.cell? ⟨w.heap.size, 4, none⟩ = some (.slice k1.A1 k1.n1 k1.c1) ∧ a.cell? ⟨w.heap.size, 5, none⟩ = some (.slice k1.A2 k1.n2 k1.c2) ∧ a.cell? ⟨w.heap.size, 6, none⟩ = some (.slice k1.A3 k1.D.length k1.c3) ∧ a.cell? ⟨w.heap.size + 1, 0, none⟩ = some (.int .i64 k2.K) ∧ a.cell? ⟨w.heap.size + 1, 1, none⟩ = some (.int .i64 k2.s) ∧ a.cell? ⟨w.heap.size + 1, 2, none⟩ = some (.slice k2.A0 k2.n0 k2.c0) ∧ a.cell? ⟨w.heap.size + 1, 3, none⟩ = some (.string k2.t) ∧ a.cell? ⟨w.heap.size + 1, 4, none⟩ = some (.slice k2.A1 k2.n1 k2.c1) ∧ a.cell? ⟨w.heap.size + 1, 5, none⟩ = some (.slice k2.A2 k2.n2 k2.c2) ∧ a.cell? ⟨w.heap.size + 1, 6, none⟩ = some (.slice k2.A3 k2.D.length k2.c3) ∧ a.cell? ⟨Xx1, 0, none⟩ = some (.int .i64 Kx1.K) ∧ a.cell? ⟨Xx1, 1, none⟩ = some (.int .i64 Kx1.s) ∧ a.cell? ⟨Xx1, 2, none⟩ = some (.slice Kx1.A0 Kx1.n0 Kx1.c0) ∧ a.cell? ⟨Xx1, 3, none⟩ = some (.string Kx1.t) ∧ a.cell? ⟨Xx1, 4, none⟩ = some (.slice Kx1.A1 Kx1.n1 Kx1.c1) ∧ a.cell? ⟨Xx1, 5, none⟩ = some (.slice Kx1.A2 Kx1.n2 Kx1.c2) ∧ a.cell? ⟨Xx1, 6, none⟩ = some (.slice Kx1.A3 Kx1.D.length Kx1.c3) ∧ a.cell? ⟨Xx2, 0, none⟩ = some (.int .i64 Kx2.K) ∧ a.cell? ⟨Xx2, 1, none⟩ = some (.int .i64 Kx2.s) ∧ a.cell? ⟨Xx2, 2, none⟩ = some (.slice Kx2.A0 Kx2.n0 Kx2.c0) ∧ a.cell? ⟨Xx2, 3, none⟩ = some (.string Kx2.t) ∧ a.cell? ⟨Xx2, 4, none⟩ = some (.slice Kx2.A1 Kx2.n1 Kx2.c1) ∧ a.cell? ⟨Xx2, 5, none⟩ = some (.slice Kx2.A2 Kx2.n2 Kx2.c2) ∧ a.cell? ⟨Xx2, 6, none⟩ = some (.slice Kx2.A3 Kx2.D.length Kx2.c3))
    (first | (refine ⟨?_, ?_, ?_, ?_, ?_, ?_, ?_, ?_, ?_, ?_, ?_, ?_, ?_, ?_, ?_, ?_, ?_, ?_, ?_, ?_, ?_, ?_, ?_, ?_, ?_, ?_, ?_, ?_, ?_, ?_, ?_, ?_⟩ <;> assumption) | exact HK.out _ _ (by assumption) hb14 | exact HK.out _ _ (by assumption) hb13)
    (first
      | (go_at_call 43; ((with_reducible refine (toClaim_any k2 _ _ (h2.keep H12.out (Nat.le_refl _)) H12.out.size sm2.out).mono ?_); rintro e w13 ⟨Kt2, rfl, hlt2, hot2, hb13⟩; have H13 := Lib.hid (H12.out.trans (hb13.mono H12.out.size))))
      | (go_at_call 45; ((with_reducible refine (eqClaim_yes Kx2 Kt2 w13 w13.heap.size w13.heap.size ((Ox2.out.rdK.keep (Below.drew (Below.refl _ w12)) (le_drew (by have := SZ.out; omega))).keep hb13 hb13.size) (hot2.rdK) (Nat.le_refl _) (Nat.le_refl _) (Lx2.out.symm.trans hlt2) (Lx2.out.small sm2.out)).mono ?_); rintro e w14 ⟨rfl, hb14⟩; have H14 := Lib.hid (H13.out.trans (hb14.mono H13.out.size)))))
  clear H13
  clear H14
  clear HK H12
  replace hb13 := bd hb13
  have Ot2 := Lib.hid hot2
  clear hot2
  have Lt2 := Lib.hid hlt2
  clear hlt2
  have zz := hb13.size
  have e1a_13 := up hb13 e1a_12 z0_12
  have e1b_13 := up hb13 e1b_12 z0_12
  have e1c_13 := up hb13 e1c_12 z0_12
  have e1d_13 := up hb13 e1d_12 z0_12
  have e1e_13 := up hb13 e1e_12 z0_12
  have e1f_13 := up hb13 e1f_12 z0_12
  have e1g_13 := up hb13 e1g_12 z0_12
  have e2a_13 := up hb13 e2a_12 z1_12
  have e2b_13 := up hb13 e2b_12 z1_12
  have e2c_13 := up hb13 e2c_12 z1_12
  have e2d_13 := up hb13 e2d_12 z1_12
  have e2e_13 := up hb13 e2e_12 z1_12
  have e2f_13 := up hb13 e2f_12 z1_12
  have e2g_13 := up hb13 e2g_12 z1_12
  have bx10_13 := up hb13 bx10_12 zbx1_12
  have bx11_13 := up hb13 bx11_12 zbx1_12
  have bx12_13 := up hb13 bx12_12 zbx1_12
  have bx13_13 := up hb13 bx13_12 zbx1_12
  have bx14_13 := up hb13 bx14_12 zbx1_12
  have bx15_13 := up hb13 bx15_12 zbx1_12
  have bx16_13 := up hb13 bx16_12 zbx1_12
  have bx20_13 := up hb13 bx20_12 zbx2_12
  have bx21_13 := up hb13 bx21_12 zbx2_12
  have bx22_13 := up hb13 bx22_12 zbx2_12
  have bx23_13 := up hb13 bx23_12 zbx2_12
  have bx24_13 := up hb13 bx24_12 zbx2_12
  have bx25_13 := up hb13 bx25_12 zbx2_12
  have bx26_13 := up hb13 bx26_12 zbx2_12
  have z0_13 := Nat.lt_of_lt_of_le z0_12 zz
  have z1_13 := Nat.lt_of_lt_of_le z1_12 zz
  have zbx1_13 := Nat.lt_of_lt_of_le zbx1_12 zz
  have zbx2_13 := Nat.lt_of_lt_of_le zbx2_12 zz
  replace Ox1 := Lib.hid (Ox1.out.keepB hb13 (by have := SZ.out; omega))
  replace Ox2 := Lib.hid (Ox2.out.keepB hb13 (by have := SZ.out; omega))
  replace HB := Lib.hid (HB.out.trans (hb13.mono HB.out.size))
  replace SZ := Lib.hid (And.intro SZ.out zz)
  clear zz hb13 e1a_12 e1b_12 e1c_12 e1d_12 e1e_12 e1f_12 e1g_12 e2a_12 e2b_12 e2c_12 e2d_12 e2e_12 e2f_12 e2g_12 bx10_12 bx11_12 bx12_12 bx13_12 bx14_12 bx15_12 bx16_12 bx20_12 bx21_12 bx22_12 bx23_12 bx24_12 bx25_12 bx26_12 z0_12 z1_12 zbx1_12 zbx2_12
  have zz := hb14.size
  have e1a_14 := up hb14 e1a_13 z0_13
  have e1b_14 := up hb14 e1b_13 z0_13
  have e1c_14 := up hb14 e1c_13 z0_13
  have e1d_14 := up hb14 e1d_13 z0_13
  have e1e_14 := up hb14 e1e_13 z0_13
  have e1f_14 := up hb14 e1f_13 z0_13
  have e1g_14 := up hb14 e1g_13 z0_13
  have e2a_14 := up hb14 e2a_13 z1_13
  have e2b_14 := up hb14 e2b_13 z1_13
  have e2c_14 := up hb14 e2c_13 z1_13
  have e2d_14 := up hb14 e2d_13 z1_13
  have e2e_14 := up hb14 e2e_13 z1_13
  have e2f_14 := up hb14 e2f_13 z1_13
  have e2g_14 := up hb14 e2g_13 z1_13
  have bx10_14 := up hb14 bx10_13 zbx1_13
  have bx11_14 := up hb14 bx11_13 zbx1_13
  have bx12_14 := up hb14 bx12_13 zbx1_13
  have bx13_14 := up hb14 bx13_13 zbx1_13
  have bx14_14 := up hb14 bx14_13 zbx1_13
  have bx15_14 := up hb14 bx15_13 zbx1_13
  have bx16_14 := up hb14 bx16_13 zbx1_13
  have bx20_14 := up hb14 bx20_13 zbx2_13
  have bx21_14 := up hb14 bx21_13 zbx2_13
  have bx22_14 := up hb14 bx22_13 zbx2_13
  have bx23_14 := up hb14 bx23_13 zbx2_13
  have bx24_14 := up hb14 bx24_13 zbx2_13
  have bx25_14 := up hb14 bx25_13 zbx2_13
  have bx26_14 := up hb14 bx26_13 zbx2_13
  have z0_14 := Nat.lt_of_lt_of_le z0_13 zz
  have z1_14 := Nat.lt_of_lt_of_le z1_13 zz
  have zbx1_14 := Nat.lt_of_lt_of_le zbx1_13 zz
  have zbx2_14 := Nat.lt_of_lt_of_le zbx2_13 zz
  replace Ox1 := Lib.hid (Ox1.out.keepB hb14 (by have := SZ.out; omega))
  replace Ox2 := Lib.hid (Ox2.out.keepB hb14 (by have := SZ.out; omega))
  replace Ot2 := Lib.hid (Ot2.out.keepB hb14 (by have := SZ.out; omega))
  replace HB := Lib.hid (HB.out.trans (hb14.mono HB.out.size))
  replace SZ := Lib.hid (And.intro SZ.out zz)
  clear zz hb14 e1a_13 e1b_13 e1c_13 e1d_13 e1e_13 e1f_13 e1g_13 e2a_13 e2b_13 e2c_13 e2d_13 e2e_13 e2f_13 e2g_13 bx10_13 bx11_13 bx12_13 bx13_13 bx14_13 bx15_13 bx16_13 bx20_13 bx21_13 bx22_13 bx23_13 bx24_13 bx25_13 bx26_13 z0_13 z1_13 zbx1_13 zbx2_13
  clear Ot2
  go_wp2
  go_ret
  exact ⟨rfl, HB.out⟩

set_option maxRecDepth 100000 in
theorem lifted (os : Os) (started : os.Started) (H : Type) (enc : TypeId × Value → H) :
    ReturnsInHanded {} Try.checked os 10 .any (Rows.fnExactEqualClaimsSpec.pre6 enc Try.prog Try.f10 Rows.fnExactEqualClaimsRow.domain false) (Rows.fnExactEqualClaimsSpec.post enc Try.prog Try.f10 false true false false) := by
  refine returnsInHanded_of_change (C := Try.checked) own started (by kernel_rfl) Try.func10
    (ChangeSpec.witness6 (enc := enc) (C := Try.checked) false ⟨#[], #[.agg #[.int .i64 0, .int .i64 0, .slice none 0 0, .string ⟨#[]⟩, .slice none 0 0, .slice none 0 0, .slice none 0 0], .agg #[.int .i64 0, .int .i64 0, .slice none 0 0, .string ⟨#[]⟩, .slice none 0 0, .slice none 0 0, .slice none 0 0]], []⟩ 8 (by kernel_rfl) (by kernel_rfl) (by kernel_rfl) (by kernel_rfl)) ?_
  intro W base args ds gs before hval0 hW hcnd _
  have hval : ∀ (j : Nat) t v, Try.f10.params[j]? = some t → args[j]? = some v → Value.okWide Try.prog W .any base t v := hval0
  have hW' := hW
  obtain ⟨p, q, hA0, hV, rfl, hfz, hnd⟩ := hW
  have hA : DataW.TrodAll enc Try.prog W 0 (fun _ => true) true Try.f10.params.toList args.toList ds p := hA0
  rw [Try.params10] at hA hval
  obtain ⟨v0, vs0, d0, ds0, p0, q0, hargs, rfl, rfl, l0, r0⟩ := trodAll_cons hA
  obtain ⟨v1, vs1, d1, ds1, p1, q1, rfl, rfl, rfl, l1, r1⟩ := trodAll_cons r0
  obtain ⟨rfl, rfl, rfl⟩ := trodAll_nil r1
  obtain rfl : args = #[v0, v1] := by cases args; simp_all
  obtain ⟨rfl, rfl⟩ := trodVars_none hV
  have lt0 := places_lt l0
  obtain ⟨k1, rfl, h1, n1⟩ := open_claim (hval 0 55 v0 rfl rfl) l0
  have lt1 := places_lt l1
  obtain ⟨k2, rfl, h2, n2⟩ := open_claim (hval 1 55 v1 rfl rfl) l1
  clear hA0 hval0
  refine (walk k1 k2 W h1 n1 h2 n2).mono fun e W' ⟨he, bel⟩ => ?_
  subst he
  exact ⟨_, rfl, _, _, _, [], _, [], hW', trodAll_mk1 (shut_bool Try.underlying4 _), (trodAll_cons_mk (Below.trod laidOut (by kernel_rfl) (of_decide_eq_true (by kernel_rfl)) l0 bel lt0) (trodAll_cons_mk (Below.trod laidOut (by kernel_rfl) (of_decide_eq_true (by kernel_rfl)) l1 bel lt1) trodAll_mk0)), rfl, bel.frame _, fun h => by cases h⟩

theorem over : Rows.fnExactEqualClaimsRow.holds Try.pinned (OpenSpec.ofChange Rows.fnExactEqualClaimsSpec) :=
  OpenClaim.holds_of_wide 10 Try.f10 rfl rfl rfl rfl rfl rfl rfl ⟨rfl, rfl, rfl, rfl, rfl⟩ rfl rfl rfl rfl rfl (by kernel_rfl) Try.func10 (by kernel_rfl)
    (of_decide_eq_true (by kernel_rfl)) (by unfold Func.isWrapper; first | (rw [if_pos (by decide +kernel)]; kernel_rfl) | (rw [if_neg (by decide +kernel)]; exact ⟨rfl, rfl⟩))
    (fun os started H enc _ => lifted os started H enc)

/-- The statement. -/
theorem proved : Rows.FnExactEqualClaimsSaid := over
#print axioms proved
end Go.Proofs.Ytccblehcemggjaa.fnExactEqualClaims
