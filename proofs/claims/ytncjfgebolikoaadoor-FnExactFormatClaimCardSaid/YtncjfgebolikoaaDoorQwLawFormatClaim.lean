/-
  The program's FormatClaim answers as the reference's at every input: the law FnExactFormatClaim answers true.
  No condition.
-/
import Derived.Test.YtncjfgebolikoaaDoorQwFcL
import Derived.Test.YtncjfgebolikoaaDoorCards
import Derived.Test.YtncjfgebolikoaaDoorTie
import Derived.Test.YtncjfgebolikoaaDoorQwGL
import Derived.Test.YtncjfgebolikoaaDoorQwOpen5
import Derived.Deep.RegionHeld3
namespace Go.Proofs.YtncjfgebolikoaaDoor.fnExactFormatClaim
open Go.ChangeShapes Go.WideShapes Go.ChangeAt Go.RowKit

theorem le_drew {a : Nat} {w : World} (h : a ≤ w.heap.size) : a ≤ w.drew.heap.size := h
set_option maxRecDepth 100000 in
set_option maxHeartbeats 1600000 in
theorem walk (k1 : Clm) (w : World) (h1 : RdK w w.heap.size k1) (n1 : LenK k1) (hI : I64K k1) (hT : Tb w) :
    Calls Tryd.prog 4 #[.agg #[.int .i64 k1.K, .int .i64 k1.s, .slice k1.A0 k1.n0 k1.c0, .string k1.t, .slice k1.A1 k1.n1 k1.c1, .slice k1.A2 k1.n2 k1.c2, .slice k1.A3 k1.D.length k1.c3]] w fun e w' => e = .returned (.bool true) ∧ Below w.heap.size w w' := by
  have HI := Lib.hid hI
  clear hI
  have HT := Lib.hid hT
  clear hT
  obtain ⟨w0, hW⟩ : ∃ W : World, W = (w.alloc (Obj.cells #[.int .i64 k1.K, .int .i64 k1.s, .slice k1.A0 k1.n0 k1.c0, .string k1.t, .slice k1.A1 k1.n1 k1.c1, .slice k1.A2 k1.n2 k1.c2, .slice k1.A3 k1.D.length k1.c3] 34)) := ⟨_, rfl⟩
  have HB : Hid (Below w.heap.size w w0) := by rw [hW]; exact ((Below.refl _ _).alloc (by simp) _)
  have z0_0 : w.heap.size < w0.heap.size := by rw [hW]; simp <;> omega
  have e1a_0 : w0.cell? ⟨w.heap.size, 0, none⟩ = some (.int .i64 k1.K) := by rw [hW]; simp [go_sem]
  have e1b_0 : w0.cell? ⟨w.heap.size, 1, none⟩ = some (.int .i64 k1.s) := by rw [hW]; simp [go_sem]
  have e1c_0 : w0.cell? ⟨w.heap.size, 2, none⟩ = some (.slice k1.A0 k1.n0 k1.c0) := by rw [hW]; simp [go_sem]
  have e1d_0 : w0.cell? ⟨w.heap.size, 3, none⟩ = some (.string k1.t) := by rw [hW]; simp [go_sem]
  have e1e_0 : w0.cell? ⟨w.heap.size, 4, none⟩ = some (.slice k1.A1 k1.n1 k1.c1) := by rw [hW]; simp [go_sem]
  have e1f_0 : w0.cell? ⟨w.heap.size, 5, none⟩ = some (.slice k1.A2 k1.n2 k1.c2) := by rw [hW]; simp [go_sem]
  have e1g_0 : w0.cell? ⟨w.heap.size, 6, none⟩ = some (.slice k1.A3 k1.D.length k1.c3) := by rw [hW]; simp [go_sem]
  have SZ : Hid (w.heap.size + 1 ≤ w0.heap.size) := by rw [hW]; simp [Hid]
  have HW := Lib.hid hW
  clear hW
  go_enter Tryd.func4, Tryd.ntmps4
  obtain ⟨m1, hm1⟩ : ∃ t, t = ttK k1 := ⟨_, rfl⟩
  have HM1 := Lib.hid hm1
  clear hm1
  go_wp2_with fail
  rw [← HW.out]
  clear HW
  refine (szClaim_any k1 ((1048576 : Int)) w0 _ (h1.keep HB.out (Nat.le_refl _)) HB.out.size n1 (by omega) (by omega)).mono ?_
  rintro e w1 ⟨rfl, hb⟩
  have zz := hb.size
  have e1a_1 := up hb e1a_0 z0_0
  have e1b_1 := up hb e1b_0 z0_0
  have e1c_1 := up hb e1c_0 z0_0
  have e1d_1 := up hb e1d_0 z0_0
  have e1e_1 := up hb e1e_0 z0_0
  have e1f_1 := up hb e1f_0 z0_0
  have e1g_1 := up hb e1g_0 z0_0
  have z0_1 := Nat.lt_of_lt_of_le z0_0 zz
  replace HB := Lib.hid (HB.out.trans (hb.mono HB.out.size))
  replace SZ := Lib.hid (And.intro SZ.out zz)
  clear zz hb e1a_0 e1b_0 e1c_0 e1d_0 e1e_0 e1f_0 e1g_0 z0_0
  rw [← HM1.out]
  by_cases p1 : (1048576 : Int) < m1
  · have q1 : szl ((1048576 : Int)) m1 < 0 := by unfold szl; rw [if_pos p1]; omega
    clear p1
    go_wp2
    go_ret
    exact ⟨rfl, HB.out⟩
  have q1 : szl ((1048576 : Int)) m1 = (1048576 : Int) - m1 := by unfold szl; rw [if_neg p1]
  rw [q1]
  clear q1 n1
  have sm1 : Hid (SmK k1) := SmK.of_tt (by rw [← HM1.out]; omega)
  go_wp2_with fail
  refine (toClaim_any k1 _ _ (h1.keep HB.out (Nat.le_refl _)) HB.out.size sm1.out).mono ?_
  rintro e w2 ⟨Ky1, rfl, hly1, hoy1, hb⟩
  have Oy1 := Lib.hid hoy1
  clear hoy1
  have Ly1 := Lib.hid hly1
  clear hly1
  have zz := hb.size
  have e1a_2 := up hb e1a_1 z0_1
  have e1b_2 := up hb e1b_1 z0_1
  have e1c_2 := up hb e1c_1 z0_1
  have e1d_2 := up hb e1d_1 z0_1
  have e1e_2 := up hb e1e_1 z0_1
  have e1f_2 := up hb e1f_1 z0_1
  have e1g_2 := up hb e1g_1 z0_1
  have z0_2 := Nat.lt_of_lt_of_le z0_1 zz
  replace HB := Lib.hid (HB.out.trans (hb.mono HB.out.size))
  replace SZ := Lib.hid (And.intro SZ.out zz)
  clear zz hb e1a_1 e1b_1 e1c_1 e1d_1 e1e_1 e1f_1 e1g_1 z0_1
  go_wp2_with fail
  refine (FormatClaim_sL Ky1 w2 w2.heap.size (Oy1.out.rdK.keep (Below.refl _ _) (by have := SZ.out; omega)) (Nat.le_refl _) (Ly1.out.small sm1.out) k1 Ly1.out HI.out).mono ?_
  rintro e w3 ⟨rfl, hb⟩
  have zz := hb.size
  have e1a_3 := up hb e1a_2 z0_2
  have e1b_3 := up hb e1b_2 z0_2
  have e1c_3 := up hb e1c_2 z0_2
  have e1d_3 := up hb e1d_2 z0_2
  have e1e_3 := up hb e1e_2 z0_2
  have e1f_3 := up hb e1f_2 z0_2
  have e1g_3 := up hb e1g_2 z0_2
  have z0_3 := Nat.lt_of_lt_of_le z0_2 zz
  replace Oy1 := Lib.hid (Oy1.out.keepB hb (by have := SZ.out; omega))
  replace HB := Lib.hid (HB.out.trans (hb.mono HB.out.size))
  replace SZ := Lib.hid (And.intro SZ.out zz)
  clear zz hb e1a_2 e1b_2 e1c_2 e1d_2 e1e_2 e1f_2 e1g_2 z0_2
  clear Oy1
  go_wp2_with fail
  refine (toClaim_any k1 _ _ (h1.keep HB.out (Nat.le_refl _)) HB.out.size sm1.out).mono ?_
  rintro e w4 ⟨Kx1, rfl, hlx1, hox1, hb⟩
  have Ox1 := Lib.hid hox1
  clear hox1
  have Lx1 := Lib.hid hlx1
  clear hlx1
  have zz := hb.size
  have e1a_4 := up hb e1a_3 z0_3
  have e1b_4 := up hb e1b_3 z0_3
  have e1c_4 := up hb e1c_3 z0_3
  have e1d_4 := up hb e1d_3 z0_3
  have e1e_4 := up hb e1e_3 z0_3
  have e1f_4 := up hb e1f_3 z0_3
  have e1g_4 := up hb e1g_3 z0_3
  have z0_4 := Nat.lt_of_lt_of_le z0_3 zz
  replace HB := Lib.hid (HB.out.trans (hb.mono HB.out.size))
  replace SZ := Lib.hid (And.intro SZ.out zz)
  clear zz hb e1a_3 e1b_3 e1c_3 e1d_3 e1e_3 e1f_3 e1g_3 z0_3
  obtain ⟨w5, hW⟩ : ∃ W : World, W = w4.alloc (Obj.cells #[.int .i64 Kx1.K, .int .i64 Kx1.s, .slice Kx1.A0 Kx1.n0 Kx1.c0, .string Kx1.t, .slice Kx1.A1 Kx1.n1 Kx1.c1, .slice Kx1.A2 Kx1.n2 Kx1.c2, .slice Kx1.A3 Kx1.D.length Kx1.c3] 39) := ⟨_, rfl⟩
  obtain ⟨Xx1, hX⟩ : ∃ X : Nat, X = w4.heap.size := ⟨_, rfl⟩
  have hb : Below w4.heap.size w4 w5 := by rw [hW]; exact (Below.refl _ _).alloc (Nat.le_refl _) _
  have y0 : w5.cell? ⟨Xx1, 0, none⟩ = some (.int .i64 Kx1.K) := by rw [hW, hX]; simp [go_sem]
  have y1 : w5.cell? ⟨Xx1, 1, none⟩ = some (.int .i64 Kx1.s) := by rw [hW, hX]; simp [go_sem]
  have y2 : w5.cell? ⟨Xx1, 2, none⟩ = some (.slice Kx1.A0 Kx1.n0 Kx1.c0) := by rw [hW, hX]; simp [go_sem]
  have y3 : w5.cell? ⟨Xx1, 3, none⟩ = some (.string Kx1.t) := by rw [hW, hX]; simp [go_sem]
  have y4 : w5.cell? ⟨Xx1, 4, none⟩ = some (.slice Kx1.A1 Kx1.n1 Kx1.c1) := by rw [hW, hX]; simp [go_sem]
  have y5 : w5.cell? ⟨Xx1, 5, none⟩ = some (.slice Kx1.A2 Kx1.n2 Kx1.c2) := by rw [hW, hX]; simp [go_sem]
  have y6 : w5.cell? ⟨Xx1, 6, none⟩ = some (.slice Kx1.A3 Kx1.D.length Kx1.c3) := by rw [hW, hX]; simp [go_sem]
  have yz : Xx1 < w5.heap.size := by rw [hW, hX]; simp
  have ys : w4.heap.size ≤ Xx1 := by rw [hX]; exact Nat.le_refl _
  have HWx := Lib.hid hW
  have HX := Lib.hid hX
  clear hW hX
  have zz := hb.size
  have e1a_5 := up hb e1a_4 z0_4
  have e1b_5 := up hb e1b_4 z0_4
  have e1c_5 := up hb e1c_4 z0_4
  have e1d_5 := up hb e1d_4 z0_4
  have e1e_5 := up hb e1e_4 z0_4
  have e1f_5 := up hb e1f_4 z0_4
  have e1g_5 := up hb e1g_4 z0_4
  have z0_5 := Nat.lt_of_lt_of_le z0_4 zz
  replace Ox1 := Lib.hid (Ox1.out.keepB hb (by have := SZ.out; omega))
  replace HB := Lib.hid (HB.out.trans (hb.mono HB.out.size))
  replace SZ := Lib.hid (And.intro SZ.out zz)
  clear zz hb 
  replace SZ := Lib.hid (And.intro SZ.out (And.intro ys yz))
  clear ys
  have bx10_5 := y0
  clear y0
  have bx11_5 := y1
  clear y1
  have bx12_5 := y2
  clear y2
  have bx13_5 := y3
  clear y3
  have bx14_5 := y4
  clear y4
  have bx15_5 := y5
  clear y5
  have bx16_5 := y6
  clear y6
  have zbx1_5 := yz
  clear yz
  go_wp2_with fail
  rw [← HWx.out, ← HX.out]
  clear HWx HX e1a_4 e1b_4 e1c_4 e1d_4 e1e_4 e1f_4 e1g_4 z0_4
  go_wp2_with fail
  refine (FormatClaim_iL Kx1 w5 w5.heap.size (Ox1.out.rdK.keep (Below.refl _ _) (by have := SZ.out; omega)) (Nat.le_refl _) (Lx1.out.small sm1.out) k1 Lx1.out HI.out (HT.out.keep HB.out)).mono ?_
  rintro e w6 ⟨rfl, hb⟩
  have zz := hb.size
  have e1a_6 := up hb e1a_5 z0_5
  have e1b_6 := up hb e1b_5 z0_5
  have e1c_6 := up hb e1c_5 z0_5
  have e1d_6 := up hb e1d_5 z0_5
  have e1e_6 := up hb e1e_5 z0_5
  have e1f_6 := up hb e1f_5 z0_5
  have e1g_6 := up hb e1g_5 z0_5
  have bx10_6 := up hb bx10_5 zbx1_5
  have bx11_6 := up hb bx11_5 zbx1_5
  have bx12_6 := up hb bx12_5 zbx1_5
  have bx13_6 := up hb bx13_5 zbx1_5
  have bx14_6 := up hb bx14_5 zbx1_5
  have bx15_6 := up hb bx15_5 zbx1_5
  have bx16_6 := up hb bx16_5 zbx1_5
  have z0_6 := Nat.lt_of_lt_of_le z0_5 zz
  have zbx1_6 := Nat.lt_of_lt_of_le zbx1_5 zz
  replace Ox1 := Lib.hid (Ox1.out.keepB hb (by have := SZ.out; omega))
  replace HB := Lib.hid (HB.out.trans (hb.mono HB.out.size))
  replace SZ := Lib.hid (And.intro SZ.out zz)
  clear zz hb e1a_5 e1b_5 e1c_5 e1d_5 e1e_5 e1f_5 e1g_5 bx10_5 bx11_5 bx12_5 bx13_5 bx14_5 bx15_5 bx16_5 z0_5 zbx1_5
  have HK : Hid (∀ a b : World, (w.heap.size < a.heap.size ∧ Xx1 < a.heap.size ∧ a.cell? ⟨w.heap.size, 0, none⟩ = some (.int .i64 k1.K) ∧ a.cell? ⟨w.heap.size, 1, none⟩ = some (.int .i64 k1.s) ∧ a.cell? ⟨w.heap.size, 2, none⟩ = some (.slice k1.A0 k1.n0 k1.c0) ∧ a.cell? ⟨w.heap.size, 3, none⟩ = some (.string k1.t) ∧ a.cell? ⟨w.heap.size, 4, none⟩ = some (.slice k1.A1 k1.n1 k1.c1) ∧ a.cell? ⟨w.heap.size, 5, none⟩ = some (.slice k1.A2 k1.n2 k1.c2) ∧ a.cell? ⟨w.heap.size, 6, none⟩ = some (.slice k1.A3 k1.D.length k1.c3) ∧ a.cell? ⟨Xx1, 0, none⟩ = some (.int .i64 Kx1.K) ∧ a.cell? ⟨Xx1, 1, none⟩ = some (.int .i64 Kx1.s) ∧ a.cell? ⟨Xx1, 2, none⟩ = some (.slice Kx1.A0 Kx1.n0 Kx1.c0) ∧ a.cell? ⟨Xx1, 3, none⟩ = some (.string Kx1.t) ∧ a.cell? ⟨Xx1, 4, none⟩ = some (.slice Kx1.A1 Kx1.n1 Kx1.c1) ∧ a.cell? ⟨Xx1, 5, none⟩ = some (.slice Kx1.A2 Kx1.n2 Kx1.c2) ∧ a.cell? ⟨Xx1, 6, none⟩ = some (.slice Kx1.A3 Kx1.D.length Kx1.c3)) → Below a.heap.size a b → (w.heap.size < b.heap.size ∧ Xx1 < b.heap.size ∧ b.cell? ⟨w.heap.size, 0, none⟩ = some (.int .i64 k1.K) ∧ b.cell? ⟨w.heap.size, 1, none⟩ = some (.int .i64 k1.s) ∧ b.cell? ⟨w.heap.size, 2, none⟩ = some (.slice k1.A0 k1.n0 k1.c0) ∧ b.cell? ⟨w.heap.size, 3, none⟩ = some (.string k1.t) ∧ b.cell? ⟨w.heap.size, 4, none⟩ = some (.slice k1.A1 k1.n1 k1.c1) ∧ b.cell? ⟨w.heap.size, 5, none⟩ = some (.slice k1.A2 k1.n2 k1.c2) ∧ b.cell? ⟨w.heap.size, 6, none⟩ = some (.slice k1.A3 k1.D.length k1.c3) ∧ b.cell? ⟨Xx1, 0, none⟩ = some (.int .i64 Kx1.K) ∧ b.cell? ⟨Xx1, 1, none⟩ = some (.int .i64 Kx1.s) ∧ b.cell? ⟨Xx1, 2, none⟩ = some (.slice Kx1.A0 Kx1.n0 Kx1.c0) ∧ b.cell? ⟨Xx1, 3, none⟩ = some (.string Kx1.t) ∧ b.cell? ⟨Xx1, 4, none⟩ = some (.slice Kx1.A1 Kx1.n1 Kx1.c1) ∧ b.cell? ⟨Xx1, 5, none⟩ = some (.slice Kx1.A2 Kx1.n2 Kx1.c2) ∧ b.cell? ⟨Xx1, 6, none⟩ = some (.slice Kx1.A3 Kx1.D.length Kx1.c3))) := by
    rintro a b ⟨r0, r1, r2, r3, r4, r5, r6, r7, r8, r9, r10, r11, r12, r13, r14, r15⟩ hb
    have := hb.size
    exact ⟨by omega, by omega, up hb r2 (by omega), up hb r3 (by omega), up hb r4 (by omega), up hb r5 (by omega), up hb r6 (by omega), up hb r7 (by omega), up hb r8 (by omega), up hb r9 (by omega), up hb r10 (by omega), up hb r11 (by omega), up hb r12 (by omega), up hb r13 (by omega), up hb r14 (by omega), up hb r15 (by omega)⟩
  go_wp2_with fail
  have H6 : Hid (Below w.heap.size w w6.drew) := HB.out.drew
  go_region_held3 (fun a => w.heap.size < a.heap.size ∧ Xx1 < a.heap.size ∧ a.cell? ⟨w.heap.size, 0, none⟩ = some (.int .i64 k1.K) ∧ a.cell? ⟨w.heap.size, 1, none⟩ = some (.int .i64 k1.s) ∧ a.cell? ⟨w.heap.size, 2, none⟩ = some (.slice k1.A0 k1.n0 k1.c0) ∧ a.cell? ⟨w.heap.size, 3, none⟩ = some (.string k1.t) ∧ a.cell? ⟨w.heap.size, 4, none⟩ = some (.slice k1.A1 k1.n1 k1.c1) ∧ a.cell? ⟨w.heap.size, 5, none⟩ = some (.slice k1.A2 k1.n2 k1.c2) ∧ a.cell? ⟨w.heap.size, 6, none⟩ = some (.slice k1.A3 k1.D.length k1.c3) ∧ a.cell? ⟨Xx1, 0, none⟩ = some (.int .i64 Kx1.K) ∧ a.cell? ⟨Xx1, 1, none⟩ = some (.int .i64 Kx1.s) ∧ a.cell? ⟨Xx1, 2, none⟩ = some (.slice Kx1.A0 Kx1.n0 Kx1.c0) ∧ a.cell? ⟨Xx1, 3, none⟩ = some (.string Kx1.t) ∧ a.cell? ⟨Xx1, 4, none⟩ = some (.slice Kx1.A1 Kx1.n1 Kx1.c1) ∧ a.cell? ⟨Xx1, 5, none⟩ = some (.slice Kx1.A2 Kx1.n2 Kx1.c2) ∧ a.cell? ⟨Xx1, 6, none⟩ = some (.slice Kx1.A3 Kx1.D.length Kx1.c3))
    (first | (refine ⟨?_, ?_, ?_, ?_, ?_, ?_, ?_, ?_, ?_, ?_, ?_, ?_, ?_, ?_, ?_, ?_⟩ <;> assumption) | exact HK.out _ _ (by assumption) hb8 | exact HK.out _ _ (by assumption) hb7)
    (first
      | (go_at_call 13; ((with_reducible refine (toClaim_any k1 _ _ (h1.keep H6.out (Nat.le_refl _)) H6.out.size sm1.out).mono ?_); rintro e w7 ⟨Kt1, rfl, hlt1, hot1, hb7⟩; have H7 := Lib.hid (H6.out.trans (hb7.mono H6.out.size))))
      | (go_at_call 15; ((with_reducible refine (eqClaim_yes Kx1 Kt1 w7 w7.heap.size w7.heap.size ((Ox1.out.rdK.keep (Below.drew (Below.refl _ w6)) (le_drew (by have := SZ.out; omega))).keep hb7 hb7.size) (hot1.rdK) (Nat.le_refl _) (Nat.le_refl _) (Lx1.out.symm.trans hlt1) (Lx1.out.small sm1.out)).mono ?_); rintro e w8 ⟨rfl, hb8⟩; have H8 := Lib.hid (H7.out.trans (hb8.mono H7.out.size)))))
  clear H7
  clear H8
  clear HK H6
  replace hb7 := bd hb7
  have Ot1 := Lib.hid hot1
  clear hot1
  have Lt1 := Lib.hid hlt1
  clear hlt1
  have zz := hb7.size
  have e1a_7 := up hb7 e1a_6 z0_6
  have e1b_7 := up hb7 e1b_6 z0_6
  have e1c_7 := up hb7 e1c_6 z0_6
  have e1d_7 := up hb7 e1d_6 z0_6
  have e1e_7 := up hb7 e1e_6 z0_6
  have e1f_7 := up hb7 e1f_6 z0_6
  have e1g_7 := up hb7 e1g_6 z0_6
  have bx10_7 := up hb7 bx10_6 zbx1_6
  have bx11_7 := up hb7 bx11_6 zbx1_6
  have bx12_7 := up hb7 bx12_6 zbx1_6
  have bx13_7 := up hb7 bx13_6 zbx1_6
  have bx14_7 := up hb7 bx14_6 zbx1_6
  have bx15_7 := up hb7 bx15_6 zbx1_6
  have bx16_7 := up hb7 bx16_6 zbx1_6
  have z0_7 := Nat.lt_of_lt_of_le z0_6 zz
  have zbx1_7 := Nat.lt_of_lt_of_le zbx1_6 zz
  replace Ox1 := Lib.hid (Ox1.out.keepB hb7 (by have := SZ.out; omega))
  replace HB := Lib.hid (HB.out.trans (hb7.mono HB.out.size))
  replace SZ := Lib.hid (And.intro SZ.out zz)
  clear zz hb7 e1a_6 e1b_6 e1c_6 e1d_6 e1e_6 e1f_6 e1g_6 bx10_6 bx11_6 bx12_6 bx13_6 bx14_6 bx15_6 bx16_6 z0_6 zbx1_6
  have zz := hb8.size
  have e1a_8 := up hb8 e1a_7 z0_7
  have e1b_8 := up hb8 e1b_7 z0_7
  have e1c_8 := up hb8 e1c_7 z0_7
  have e1d_8 := up hb8 e1d_7 z0_7
  have e1e_8 := up hb8 e1e_7 z0_7
  have e1f_8 := up hb8 e1f_7 z0_7
  have e1g_8 := up hb8 e1g_7 z0_7
  have bx10_8 := up hb8 bx10_7 zbx1_7
  have bx11_8 := up hb8 bx11_7 zbx1_7
  have bx12_8 := up hb8 bx12_7 zbx1_7
  have bx13_8 := up hb8 bx13_7 zbx1_7
  have bx14_8 := up hb8 bx14_7 zbx1_7
  have bx15_8 := up hb8 bx15_7 zbx1_7
  have bx16_8 := up hb8 bx16_7 zbx1_7
  have z0_8 := Nat.lt_of_lt_of_le z0_7 zz
  have zbx1_8 := Nat.lt_of_lt_of_le zbx1_7 zz
  replace Ox1 := Lib.hid (Ox1.out.keepB hb8 (by have := SZ.out; omega))
  replace Ot1 := Lib.hid (Ot1.out.keepB hb8 (by have := SZ.out; omega))
  replace HB := Lib.hid (HB.out.trans (hb8.mono HB.out.size))
  replace SZ := Lib.hid (And.intro SZ.out zz)
  clear zz hb8 e1a_7 e1b_7 e1c_7 e1d_7 e1e_7 e1f_7 e1g_7 bx10_7 bx11_7 bx12_7 bx13_7 bx14_7 bx15_7 bx16_7 z0_7 zbx1_7
  clear Ot1
  go_wp2
  go_ret
  exact ⟨rfl, HB.out⟩

/-- The tables that the row lists. -/
def laidL : List (String × DataW Unit) := [("math/bits.deBruijn32tab", Rows.laid_math_bits_deBruijn32tab), ("math/bits.deBruijn64tab", Rows.laid_math_bits_deBruijn64tab), ("internal/strconv.uint64pow10", Rows.laid_internal_strconv_uint64pow10)]
/-- The door's own heap meets the condition. -/
theorem door_met (os : Os) (args : Array Value) : laidMetH Tryd.prog laidL ((World.doorLaid Tryd.prog 400 os).forCall (fun _ _ => 0) ⟨#[], args, []⟩).memory :=
  laidMetH_of_parts3 (fuel := 8) (laidMet_of_run' 8 (by kernel_rfl) (by kernel_rfl)) (by kernel_rfl) (by kernel_rfl)

set_option maxRecDepth 100000 in
theorem lifted (os : Os) (started : os.Started) (H : Type) (enc : TypeId × Value → H) :
    ReturnsInHanded {} Tryd.checked os 4 .any (fun w args => (Rows.fnExactFormatClaimSpec.pre enc Tryd.prog Tryd.f4 [] false w args ∧ laidMetH Tryd.prog laidL w) ∧ sizedMet enc Tryd.prog Tryd.f4 (OpenSpec.ofChange Rows.fnExactFormatClaimSpec) false w args)
      (Rows.fnExactFormatClaimSpec.post enc Tryd.prog Tryd.f4 false true false false) := by
  refine handed_shaped (C := Tryd.checked) (X := fun w _ => laidMetH Tryd.prog laidL w) (fun _ _ _ hh h => h.of_heap hh) own started (by kernel_rfl) Tryd.func4
    (ChangeSpec.witness_shaped (enc := enc) (C := Tryd.checked) (os := os) (X := fun w _ => laidMetH Tryd.prog laidL w) false (World.doorLaid Tryd.prog 400 os) #[.agg #[.int .i64 0, .int .i64 0, .slice none 0 0, .string ⟨#[]⟩, .slice none 0 0, .slice none 0 0, .slice none 0 0]] 8 rfl (World.shaped_of_RefB (by kernel_rfl) (by kernel_rfl)) (by kernel_rfl) (by kernel_rfl) (by kernel_rfl) (door_met os _)) ?_
  intro W base args ds gs before hval0 hW hsh hL _
  have hval : ∀ (j : Nat) t v, Tryd.f4.params[j]? = some t → args[j]? = some v → Value.okWide Tryd.prog W .any base t v := hval0
  have hW' := hW
  obtain ⟨p, q, hA0, hV, rfl, hfz, hnd⟩ := hW
  have hA : DataW.TrodAll enc Tryd.prog W 0 (fun _ => true) true Tryd.f4.params.toList args.toList ds p := hA0
  rw [Tryd.params4] at hA hval
  obtain ⟨fv0, vs0, d0, ds0, p0, q0, hargs, rfl, rfl, l0, r0⟩ := trodAll_cons hA
  obtain ⟨rfl, rfl, rfl⟩ := trodAll_nil r0
  obtain rfl : args = #[fv0] := by cases args; simp_all
  obtain ⟨rfl, rfl⟩ := trodVars_none hV
  have lt0 := places_lt l0
  obtain ⟨k1, rfl, h1, n1, j1⟩ := open_claim_w (hval 0 34 fv0 rfl rfl) l0
  clear hA0 hval0
  refine (walk k1 W h1 n1 j1 (tb_of hL (by kernel_rfl))).mono fun e W' ⟨he, bel⟩ => ?_
  subst he
  exact ⟨_, rfl, _, _, _, [], _, [], hW', trodAll_mk1 (shut_bool Tryd.underlying4 _), (trodAll_cons_mk (Below.trod laidOut (by kernel_rfl) (of_decide_eq_true (by kernel_rfl)) l0 bel lt0) trodAll_mk0), rfl, bel.frame _, fun h => by cases h⟩

theorem over : Rows.fnExactFormatClaimRow.holds Tryd.pinned (OpenSpec.ofChange Rows.fnExactFormatClaimSpec) :=
  OpenClaim.holds_of_wide 4 Tryd.f4 rfl rfl rfl rfl rfl rfl rfl ⟨rfl, rfl, rfl, rfl, rfl⟩ rfl rfl rfl rfl rfl (by kernel_rfl) Tryd.func4 (by kernel_rfl)
    (of_decide_eq_true (by kernel_rfl)) (by unfold Func.isWrapper; first | (rw [if_pos (by decide +kernel)]; kernel_rfl) | (rw [if_neg (by decide +kernel)]; exact ⟨rfl, rfl⟩))
    (fun os started H enc _ => lifted os started H enc)
/-- The statement: the card. -/
theorem proved : Rows.FnExactFormatClaimCardSaid :=
  Claim7.holds_tied_plain_at .later [] [.data, .data, .data] true (true, "f0daa0d13e0982d2b7af5fc949fa0591983df14b16e89276b4d402115028213a") false
    over (fun _ h => by cases h) (by kernel_rfl) (fun _ h => by cases h) fnExactFormatClaim_row_tie rfl ⟨rfl, rfl⟩ (by kernel_rfl) rfl
    (fun f fn hf hfn => by
      obtain rfl : f = 4 := Option.some.inj ((show Tryd.prog.funcNamed "loop.example/g02081/laws.FnExactFormatClaim" = some 4 by kernel_rfl).symm.trans hf) |>.symm
      obtain rfl : fn = Tryd.f4 := (Option.some.inj (Tryd.func4.symm.trans hfn)).symm
      exact ⟨by kernel_rfl, fun j t ht => by
        rw [Tryd.params4] at ht
        have hm : t ∈ [34] := by simpa using Array.mem_of_getElem? ht
        have hall : ([34].all fun u => !Tryd.prog.wantsStandIn u) = true := by kernel_rfl
        exact (show Tryd.prog.wantsStandIn t = false by simpa using List.all_eq_true.1 hall t hm)⟩)
    (by kernel_rfl)
#print axioms proved
end Go.Proofs.YtncjfgebolikoaaDoor.fnExactFormatClaim
