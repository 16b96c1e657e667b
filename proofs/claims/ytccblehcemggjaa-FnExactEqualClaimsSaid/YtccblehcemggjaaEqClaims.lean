/-
  Contracts: are two claims the same? The program's and the reference's EqualClaims.
-/
import Derived.Test.YtccblehcemggjaaSameD
import Derived.Test.YtccblehcemggjaaClaim
namespace Go.Proofs.Ytccblehcemggjaa
open Go.RowKit

/-- Two claims are the same. -/
def eqB (a b : Clm) : Bool := decide (a.K = b.K) && gsl a.s a.n0 a.x0 b.s b.n0 b.x0 && decide (a.t.toList = b.t.toList) && sl a.n1 a.x1 b.n1 b.x1 && sl a.n2 a.x2 b.n2 b.x2 && decide (lists a.D = lists b.D)
theorem eqB_same {k j a b : Clm} (h : SameK a k) (g : SameK b j) : eqB k j = eqB a b := by
  obtain ⟨h1, h2, h3, h4, h5, h6, h7, h8, h9, h10⟩ := h
  obtain ⟨g1, g2, g3, g4, g5, g6, g7, g8, g9, g10⟩ := g
  unfold eqB
  rw [h1, h2, h3, h4, h5, h6, h7, h8, h9, h10, g1, g2, g3, g4, g5, g6, g7, g8, g9, g10]

set_option maxRecDepth 100000 in
set_option maxHeartbeats 1000000 in
theorem EqualClaims_i (k j : Clm) (w : World) (B : Nat) (h1 : RdK w B k) (h2 : RdK w B j) (hB : B ≤ w.heap.size) (hk : SmK k) (hj : SmK j) (a : Clm) (hka : SameK a k) (b : Clm) (hjb : SameK b j) :
    Calls Try.prog 44 #[.agg #[.int .i64 k.K, .int .i64 k.s, .slice k.A0 k.n0 k.c0, .string k.t, .slice k.A1 k.n1 k.c1, .slice k.A2 k.n2 k.c2, .slice k.A3 k.D.length k.c3], .agg #[.int .i64 j.K, .int .i64 j.s, .slice j.A0 j.n0 j.c0, .string j.t, .slice j.A1 j.n1 j.c1, .slice j.A2 j.n2 j.c2, .slice j.A3 j.D.length j.c3]] w fun e w' => e = .returned (.bool (eqB a b)) ∧ Below w.heap.size w w' := by
  rw [← eqB_same hka hjb]
  clear hka hjb
  obtain ⟨hk0, hkt, hk1, hk2, hk3, hk4⟩ := hk
  obtain ⟨hj0, hjt, hj1, hj2, hj3, hj4⟩ := hj
  obtain ⟨R, hR⟩ : ∃ R, R = eqB k j := ⟨_, rfl⟩
  rw [← hR]
  unfold eqB at hR
  have HR := Lib.hid hR
  have H1 := Lib.hid h1
  have H2 := Lib.hid h2
  clear h1 h2 hR
  obtain ⟨w0, hW⟩ : ∃ W : World, W = (w.alloc (Obj.cells #[.int .i64 k.K, .int .i64 k.s, .slice k.A0 k.n0 k.c0, .string k.t, .slice k.A1 k.n1 k.c1, .slice k.A2 k.n2 k.c2, .slice k.A3 k.D.length k.c3] 59)).alloc (Obj.cells #[.int .i64 j.K, .int .i64 j.s, .slice j.A0 j.n0 j.c0, .string j.t, .slice j.A1 j.n1 j.c1, .slice j.A2 j.n2 j.c2, .slice j.A3 j.D.length j.c3] 59) := ⟨_, rfl⟩
  have HB : Hid (Below w.heap.size w w0) := by rw [hW]; exact ((Below.refl _ _).alloc (Nat.le_refl _) _).alloc (by simp) _
  have hz0 : w0.heap.size = w.heap.size + 2 := by rw [hW]; simp
  have a0_w0 : w0.cell? ⟨w.heap.size, 0, none⟩ = some (.int .i64 k.K) := by rw [hW]; simp [go_sem]
  have a1_w0 : w0.cell? ⟨w.heap.size, 1, none⟩ = some (.int .i64 k.s) := by rw [hW]; simp [go_sem]
  have a2_w0 : w0.cell? ⟨w.heap.size, 2, none⟩ = some (.slice k.A0 k.n0 k.c0) := by rw [hW]; simp [go_sem]
  have a3_w0 : w0.cell? ⟨w.heap.size, 3, none⟩ = some (.string k.t) := by rw [hW]; simp [go_sem]
  have a4_w0 : w0.cell? ⟨w.heap.size, 4, none⟩ = some (.slice k.A1 k.n1 k.c1) := by rw [hW]; simp [go_sem]
  have a5_w0 : w0.cell? ⟨w.heap.size, 5, none⟩ = some (.slice k.A2 k.n2 k.c2) := by rw [hW]; simp [go_sem]
  have a6_w0 : w0.cell? ⟨w.heap.size, 6, none⟩ = some (.slice k.A3 k.D.length k.c3) := by rw [hW]; simp [go_sem]
  have b0_w0 : w0.cell? ⟨w.heap.size + 1, 0, none⟩ = some (.int .i64 j.K) := by rw [hW]; simp [go_sem]
  have b1_w0 : w0.cell? ⟨w.heap.size + 1, 1, none⟩ = some (.int .i64 j.s) := by rw [hW]; simp [go_sem]
  have b2_w0 : w0.cell? ⟨w.heap.size + 1, 2, none⟩ = some (.slice j.A0 j.n0 j.c0) := by rw [hW]; simp [go_sem]
  have b3_w0 : w0.cell? ⟨w.heap.size + 1, 3, none⟩ = some (.string j.t) := by rw [hW]; simp [go_sem]
  have b4_w0 : w0.cell? ⟨w.heap.size + 1, 4, none⟩ = some (.slice j.A1 j.n1 j.c1) := by rw [hW]; simp [go_sem]
  have b5_w0 : w0.cell? ⟨w.heap.size + 1, 5, none⟩ = some (.slice j.A2 j.n2 j.c2) := by rw [hW]; simp [go_sem]
  have b6_w0 : w0.cell? ⟨w.heap.size + 1, 6, none⟩ = some (.slice j.A3 j.D.length j.c3) := by rw [hW]; simp [go_sem]
  have za_w0 : w.heap.size < w0.heap.size := by omega
  have zb_w0 : w.heap.size + 1 < w0.heap.size := by omega
  have SZ : Hid (w.heap.size + 2 ≤ w0.heap.size) := by show _ ≤ _; omega
  have HW := Lib.hid hW
  clear hW hz0
  by_cases pK : k.K = j.K
  rotate_left
  · skip
    have q2 : Hid (R = false) := by show R = false; rw [HR.out]; simp [decide_eq_false pK]
    clear H1 H2 HR a0_w0 a1_w0 a2_w0 a3_w0 a4_w0 a5_w0 a6_w0 b0_w0 b1_w0 b2_w0 b3_w0 b4_w0 b5_w0 b6_w0 za_w0 zb_w0
    go_enter Try.func44, Try.ntmps44
    go_wp2
    go_ret
    rw [← HW.out]
    exact ⟨ret_bool q2.out.symm, HB.out⟩
  have qK : (k.K == j.K) = true := by simp [pK]
  have PK := Lib.hid pK
  clear pK
  go_enter Try.func44, Try.ntmps44
  go_wp2_with fail
  rw [← HW.out]
  clear HW
  refine (EqualGraphs_i k.s j.s k.A0 j.A0 k.n0 j.n0 k.c0 j.c0 k.x0 j.x0 w0 w.heap.size (H1.out.1.keep (HB.out.mono hB) hB) (H2.out.1.keep (HB.out.mono hB) hB) HB.out.size (by omega) (by omega)).mono ?_
  rintro e w1 ⟨rfl, hb⟩
  have zz := hb.size
  have a0_w1 := up hb a0_w0 za_w0
  have a1_w1 := up hb a1_w0 za_w0
  have a2_w1 := up hb a2_w0 za_w0
  have a3_w1 := up hb a3_w0 za_w0
  have a4_w1 := up hb a4_w0 za_w0
  have a5_w1 := up hb a5_w0 za_w0
  have a6_w1 := up hb a6_w0 za_w0
  have b0_w1 := up hb b0_w0 zb_w0
  have b1_w1 := up hb b1_w0 zb_w0
  have b2_w1 := up hb b2_w0 zb_w0
  have b3_w1 := up hb b3_w0 zb_w0
  have b4_w1 := up hb b4_w0 zb_w0
  have b5_w1 := up hb b5_w0 zb_w0
  have b6_w1 := up hb b6_w0 zb_w0
  have za_w1 := Nat.lt_of_lt_of_le za_w0 zz
  have zb_w1 := Nat.lt_of_lt_of_le zb_w0 zz
  replace HB := Lib.hid (HB.out.trans (hb.mono HB.out.size))
  replace SZ := Lib.hid (And.intro SZ.out zz)
  clear zz hb a0_w0 a1_w0 a2_w0 a3_w0 a4_w0 a5_w0 a6_w0 b0_w0 b1_w0 b2_w0 b3_w0 b4_w0 b5_w0 b6_w0 za_w0 zb_w0
  cases p0 : gsl k.s k.n0 k.x0 j.s j.n0 j.x0
  · skip
    have q2 : Hid (R = false) := by show R = false; rw [HR.out]; simp [p0]
    clear H1 H2 HR
    clear p0
    go_wp2
    go_ret
    exact ⟨ret_bool q2.out.symm, HB.out⟩
  by_cases pt : k.t.toList = j.t.toList
  rotate_left
  · skip
    have q2 : Hid (R = false) := by show R = false; rw [HR.out]; simp [decide_eq_false pt]
    clear H1 H2 HR
    have qt : (k.t.toList == j.t.toList) = false := by simp [pt]
    clear pt
    go_wp2
    go_ret
    exact ⟨ret_bool q2.out.symm, HB.out⟩
  have qt : (k.t.toList == j.t.toList) = true := by simp [pt]
  have PT := Lib.hid pt
  clear pt
  go_wp2_with fail
  refine (Equal_any k.A1 j.A1 k.n1 j.n1 k.c1 j.c1 k.x1 j.x1 w1 w.heap.size (H1.out.2.1.keep (HB.out.mono hB) hB) (H2.out.2.1.keep (HB.out.mono hB) hB) HB.out.size (by omega) (by omega)).mono ?_
  rintro e w2 ⟨rfl, hb⟩
  have zz := hb.size
  have a0_w2 := up hb a0_w1 za_w1
  have a1_w2 := up hb a1_w1 za_w1
  have a2_w2 := up hb a2_w1 za_w1
  have a3_w2 := up hb a3_w1 za_w1
  have a4_w2 := up hb a4_w1 za_w1
  have a5_w2 := up hb a5_w1 za_w1
  have a6_w2 := up hb a6_w1 za_w1
  have b0_w2 := up hb b0_w1 zb_w1
  have b1_w2 := up hb b1_w1 zb_w1
  have b2_w2 := up hb b2_w1 zb_w1
  have b3_w2 := up hb b3_w1 zb_w1
  have b4_w2 := up hb b4_w1 zb_w1
  have b5_w2 := up hb b5_w1 zb_w1
  have b6_w2 := up hb b6_w1 zb_w1
  have za_w2 := Nat.lt_of_lt_of_le za_w1 zz
  have zb_w2 := Nat.lt_of_lt_of_le zb_w1 zz
  replace HB := Lib.hid (HB.out.trans (hb.mono HB.out.size))
  replace SZ := Lib.hid (And.intro SZ.out zz)
  clear zz hb a0_w1 a1_w1 a2_w1 a3_w1 a4_w1 a5_w1 a6_w1 b0_w1 b1_w1 b2_w1 b3_w1 b4_w1 b5_w1 b6_w1 za_w1 zb_w1
  cases p1 : sl k.n1 k.x1 j.n1 j.x1
  · skip
    have q2 : Hid (R = false) := by show R = false; rw [HR.out]; simp [p1]
    clear H1 H2 HR
    clear p1
    go_wp2
    go_ret
    exact ⟨ret_bool q2.out.symm, HB.out⟩
  go_wp2_with fail
  refine (Equal_any k.A2 j.A2 k.n2 j.n2 k.c2 j.c2 k.x2 j.x2 w2 w.heap.size (H1.out.2.2.1.keep (HB.out.mono hB) hB) (H2.out.2.2.1.keep (HB.out.mono hB) hB) HB.out.size (by omega) (by omega)).mono ?_
  rintro e w3 ⟨rfl, hb⟩
  have zz := hb.size
  have a0_w3 := up hb a0_w2 za_w2
  have a1_w3 := up hb a1_w2 za_w2
  have a2_w3 := up hb a2_w2 za_w2
  have a3_w3 := up hb a3_w2 za_w2
  have a4_w3 := up hb a4_w2 za_w2
  have a5_w3 := up hb a5_w2 za_w2
  have a6_w3 := up hb a6_w2 za_w2
  have b0_w3 := up hb b0_w2 zb_w2
  have b1_w3 := up hb b1_w2 zb_w2
  have b2_w3 := up hb b2_w2 zb_w2
  have b3_w3 := up hb b3_w2 zb_w2
  have b4_w3 := up hb b4_w2 zb_w2
  have b5_w3 := up hb b5_w2 zb_w2
  have b6_w3 := up hb b6_w2 zb_w2
  have za_w3 := Nat.lt_of_lt_of_le za_w2 zz
  have zb_w3 := Nat.lt_of_lt_of_le zb_w2 zz
  replace HB := Lib.hid (HB.out.trans (hb.mono HB.out.size))
  replace SZ := Lib.hid (And.intro SZ.out zz)
  clear zz hb a0_w2 a1_w2 a2_w2 a3_w2 a4_w2 a5_w2 a6_w2 b0_w2 b1_w2 b2_w2 b3_w2 b4_w2 b5_w2 b6_w2 za_w2 zb_w2
  cases p2 : sl k.n2 k.x2 j.n2 j.x2
  · skip
    have q2 : Hid (R = false) := by show R = false; rw [HR.out]; simp [p2]
    clear H1 H2 HR
    clear p2
    go_wp2
    go_ret
    exact ⟨ret_bool q2.out.symm, HB.out⟩
  go_wp2_with fail
  refine (EqualFunc_any k.A3 j.A3 k.c3 j.c3 k.D j.D w3 w.heap.size (H1.out.2.2.2.keep (HB.out.mono hB) hB) (H2.out.2.2.2.keep (HB.out.mono hB) hB) HB.out.size (by omega) (by omega) (by omega) (by omega)).mono ?_
  rintro e w4 ⟨rfl, hb⟩
  have zz := hb.size
  have a0_w4 := up hb a0_w3 za_w3
  have a1_w4 := up hb a1_w3 za_w3
  have a2_w4 := up hb a2_w3 za_w3
  have a3_w4 := up hb a3_w3 za_w3
  have a4_w4 := up hb a4_w3 za_w3
  have a5_w4 := up hb a5_w3 za_w3
  have a6_w4 := up hb a6_w3 za_w3
  have b0_w4 := up hb b0_w3 zb_w3
  have b1_w4 := up hb b1_w3 zb_w3
  have b2_w4 := up hb b2_w3 zb_w3
  have b3_w4 := up hb b3_w3 zb_w3
  have b4_w4 := up hb b4_w3 zb_w3
  have b5_w4 := up hb b5_w3 zb_w3
  have b6_w4 := up hb b6_w3 zb_w3
  have za_w4 := Nat.lt_of_lt_of_le za_w3 zz
  have zb_w4 := Nat.lt_of_lt_of_le zb_w3 zz
  replace HB := Lib.hid (HB.out.trans (hb.mono HB.out.size))
  replace SZ := Lib.hid (And.intro SZ.out zz)
  clear zz hb a0_w3 a1_w3 a2_w3 a3_w3 a4_w3 a5_w3 a6_w3 b0_w3 b1_w3 b2_w3 b3_w3 b4_w3 b5_w3 b6_w3 za_w3 zb_w3
  have q2 : Hid (R = decide (lists k.D = lists j.D)) := by show R = _; rw [HR.out]; simp [decide_eq_true PK.out, decide_eq_true PT.out, p0, p1, p2]
  clear H1 H2 HR p0 p1 p2
  go_wp2
  go_ret
  exact ⟨ret_bool q2.out.symm, HB.out⟩

set_option maxRecDepth 100000 in
set_option maxHeartbeats 1000000 in
theorem EqualClaims_s (k j : Clm) (w : World) (B : Nat) (h1 : RdK w B k) (h2 : RdK w B j) (hB : B ≤ w.heap.size) (hk : SmK k) (hj : SmK j) (a : Clm) (hka : SameK a k) (b : Clm) (hjb : SameK b j) :
    Calls Try.prog 42 #[.agg #[.int .i64 k.K, .int .i64 k.s, .slice k.A0 k.n0 k.c0, .string k.t, .slice k.A1 k.n1 k.c1, .slice k.A2 k.n2 k.c2, .slice k.A3 k.D.length k.c3], .agg #[.int .i64 j.K, .int .i64 j.s, .slice j.A0 j.n0 j.c0, .string j.t, .slice j.A1 j.n1 j.c1, .slice j.A2 j.n2 j.c2, .slice j.A3 j.D.length j.c3]] w fun e w' => e = .returned (.bool (eqB a b)) ∧ Below w.heap.size w w' := by
  rw [← eqB_same hka hjb]
  clear hka hjb
  obtain ⟨hk0, hkt, hk1, hk2, hk3, hk4⟩ := hk
  obtain ⟨hj0, hjt, hj1, hj2, hj3, hj4⟩ := hj
  obtain ⟨R, hR⟩ : ∃ R, R = eqB k j := ⟨_, rfl⟩
  rw [← hR]
  unfold eqB at hR
  have HR := Lib.hid hR
  have H1 := Lib.hid h1
  have H2 := Lib.hid h2
  clear h1 h2 hR
  obtain ⟨w0, hW⟩ : ∃ W : World, W = (w.alloc (Obj.cells #[.int .i64 k.K, .int .i64 k.s, .slice k.A0 k.n0 k.c0, .string k.t, .slice k.A1 k.n1 k.c1, .slice k.A2 k.n2 k.c2, .slice k.A3 k.D.length k.c3] 59)).alloc (Obj.cells #[.int .i64 j.K, .int .i64 j.s, .slice j.A0 j.n0 j.c0, .string j.t, .slice j.A1 j.n1 j.c1, .slice j.A2 j.n2 j.c2, .slice j.A3 j.D.length j.c3] 59) := ⟨_, rfl⟩
  have HB : Hid (Below w.heap.size w w0) := by rw [hW]; exact ((Below.refl _ _).alloc (Nat.le_refl _) _).alloc (by simp) _
  have hz0 : w0.heap.size = w.heap.size + 2 := by rw [hW]; simp
  have a0_w0 : w0.cell? ⟨w.heap.size, 0, none⟩ = some (.int .i64 k.K) := by rw [hW]; simp [go_sem]
  have a1_w0 : w0.cell? ⟨w.heap.size, 1, none⟩ = some (.int .i64 k.s) := by rw [hW]; simp [go_sem]
  have a2_w0 : w0.cell? ⟨w.heap.size, 2, none⟩ = some (.slice k.A0 k.n0 k.c0) := by rw [hW]; simp [go_sem]
  have a3_w0 : w0.cell? ⟨w.heap.size, 3, none⟩ = some (.string k.t) := by rw [hW]; simp [go_sem]
  have a4_w0 : w0.cell? ⟨w.heap.size, 4, none⟩ = some (.slice k.A1 k.n1 k.c1) := by rw [hW]; simp [go_sem]
  have a5_w0 : w0.cell? ⟨w.heap.size, 5, none⟩ = some (.slice k.A2 k.n2 k.c2) := by rw [hW]; simp [go_sem]
  have a6_w0 : w0.cell? ⟨w.heap.size, 6, none⟩ = some (.slice k.A3 k.D.length k.c3) := by rw [hW]; simp [go_sem]
  have b0_w0 : w0.cell? ⟨w.heap.size + 1, 0, none⟩ = some (.int .i64 j.K) := by rw [hW]; simp [go_sem]
  have b1_w0 : w0.cell? ⟨w.heap.size + 1, 1, none⟩ = some (.int .i64 j.s) := by rw [hW]; simp [go_sem]
  have b2_w0 : w0.cell? ⟨w.heap.size + 1, 2, none⟩ = some (.slice j.A0 j.n0 j.c0) := by rw [hW]; simp [go_sem]
  have b3_w0 : w0.cell? ⟨w.heap.size + 1, 3, none⟩ = some (.string j.t) := by rw [hW]; simp [go_sem]
  have b4_w0 : w0.cell? ⟨w.heap.size + 1, 4, none⟩ = some (.slice j.A1 j.n1 j.c1) := by rw [hW]; simp [go_sem]
  have b5_w0 : w0.cell? ⟨w.heap.size + 1, 5, none⟩ = some (.slice j.A2 j.n2 j.c2) := by rw [hW]; simp [go_sem]
  have b6_w0 : w0.cell? ⟨w.heap.size + 1, 6, none⟩ = some (.slice j.A3 j.D.length j.c3) := by rw [hW]; simp [go_sem]
  have za_w0 : w.heap.size < w0.heap.size := by omega
  have zb_w0 : w.heap.size + 1 < w0.heap.size := by omega
  have SZ : Hid (w.heap.size + 2 ≤ w0.heap.size) := by show _ ≤ _; omega
  have HW := Lib.hid hW
  clear hW hz0
  by_cases pK : k.K = j.K
  rotate_left
  · skip
    have q2 : Hid (R = false) := by show R = false; rw [HR.out]; simp [decide_eq_false pK]
    clear H1 H2 HR a0_w0 a1_w0 a2_w0 a3_w0 a4_w0 a5_w0 a6_w0 b0_w0 b1_w0 b2_w0 b3_w0 b4_w0 b5_w0 b6_w0 za_w0 zb_w0
    go_enter Try.func42, Try.ntmps42
    go_wp2
    go_ret
    rw [← HW.out]
    exact ⟨ret_bool q2.out.symm, HB.out⟩
  have qK : (k.K == j.K) = true := by simp [pK]
  have PK := Lib.hid pK
  clear pK
  go_enter Try.func42, Try.ntmps42
  go_wp2_with fail
  rw [← HW.out]
  clear HW
  refine (EqualGraphs_s k.s j.s k.A0 j.A0 k.n0 j.n0 k.c0 j.c0 k.x0 j.x0 w0 w.heap.size (H1.out.1.keep (HB.out.mono hB) hB) (H2.out.1.keep (HB.out.mono hB) hB) HB.out.size (by omega) (by omega)).mono ?_
  rintro e w1 ⟨rfl, hb⟩
  have zz := hb.size
  have a0_w1 := up hb a0_w0 za_w0
  have a1_w1 := up hb a1_w0 za_w0
  have a2_w1 := up hb a2_w0 za_w0
  have a3_w1 := up hb a3_w0 za_w0
  have a4_w1 := up hb a4_w0 za_w0
  have a5_w1 := up hb a5_w0 za_w0
  have a6_w1 := up hb a6_w0 za_w0
  have b0_w1 := up hb b0_w0 zb_w0
  have b1_w1 := up hb b1_w0 zb_w0
  have b2_w1 := up hb b2_w0 zb_w0
  have b3_w1 := up hb b3_w0 zb_w0
  have b4_w1 := up hb b4_w0 zb_w0
  have b5_w1 := up hb b5_w0 zb_w0
  have b6_w1 := up hb b6_w0 zb_w0
  have za_w1 := Nat.lt_of_lt_of_le za_w0 zz
  have zb_w1 := Nat.lt_of_lt_of_le zb_w0 zz
  replace HB := Lib.hid (HB.out.trans (hb.mono HB.out.size))
  replace SZ := Lib.hid (And.intro SZ.out zz)
  clear zz hb a0_w0 a1_w0 a2_w0 a3_w0 a4_w0 a5_w0 a6_w0 b0_w0 b1_w0 b2_w0 b3_w0 b4_w0 b5_w0 b6_w0 za_w0 zb_w0
  cases p0 : gsl k.s k.n0 k.x0 j.s j.n0 j.x0
  · skip
    have q2 : Hid (R = false) := by show R = false; rw [HR.out]; simp [p0]
    clear H1 H2 HR
    clear p0
    go_wp2
    go_ret
    exact ⟨ret_bool q2.out.symm, HB.out⟩
  by_cases pt : k.t.toList = j.t.toList
  rotate_left
  · skip
    have q2 : Hid (R = false) := by show R = false; rw [HR.out]; simp [decide_eq_false pt]
    clear H1 H2 HR
    have qt : (k.t.toList == j.t.toList) = false := by simp [pt]
    clear pt
    go_wp2
    go_ret
    exact ⟨ret_bool q2.out.symm, HB.out⟩
  have qt : (k.t.toList == j.t.toList) = true := by simp [pt]
  have PT := Lib.hid pt
  clear pt
  go_wp2_with fail
  refine (l8Same_any k.A1 j.A1 k.n1 j.n1 k.c1 j.c1 k.x1 j.x1 w1 w.heap.size (H1.out.2.1.keep (HB.out.mono hB) hB) (H2.out.2.1.keep (HB.out.mono hB) hB) HB.out.size (by omega) (by omega)).mono ?_
  rintro e w2 ⟨rfl, hb⟩
  have zz := hb.size
  have a0_w2 := up hb a0_w1 za_w1
  have a1_w2 := up hb a1_w1 za_w1
  have a2_w2 := up hb a2_w1 za_w1
  have a3_w2 := up hb a3_w1 za_w1
  have a4_w2 := up hb a4_w1 za_w1
  have a5_w2 := up hb a5_w1 za_w1
  have a6_w2 := up hb a6_w1 za_w1
  have b0_w2 := up hb b0_w1 zb_w1
  have b1_w2 := up hb b1_w1 zb_w1
  have b2_w2 := up hb b2_w1 zb_w1
  have b3_w2 := up hb b3_w1 zb_w1
  have b4_w2 := up hb b4_w1 zb_w1
  have b5_w2 := up hb b5_w1 zb_w1
  have b6_w2 := up hb b6_w1 zb_w1
  have za_w2 := Nat.lt_of_lt_of_le za_w1 zz
  have zb_w2 := Nat.lt_of_lt_of_le zb_w1 zz
  replace HB := Lib.hid (HB.out.trans (hb.mono HB.out.size))
  replace SZ := Lib.hid (And.intro SZ.out zz)
  clear zz hb a0_w1 a1_w1 a2_w1 a3_w1 a4_w1 a5_w1 a6_w1 b0_w1 b1_w1 b2_w1 b3_w1 b4_w1 b5_w1 b6_w1 za_w1 zb_w1
  cases p1 : sl k.n1 k.x1 j.n1 j.x1
  · skip
    have q2 : Hid (R = false) := by show R = false; rw [HR.out]; simp [p1]
    clear H1 H2 HR
    clear p1
    go_wp2
    go_ret
    exact ⟨ret_bool q2.out.symm, HB.out⟩
  go_wp2_with fail
  refine (l8Same_any k.A2 j.A2 k.n2 j.n2 k.c2 j.c2 k.x2 j.x2 w2 w.heap.size (H1.out.2.2.1.keep (HB.out.mono hB) hB) (H2.out.2.2.1.keep (HB.out.mono hB) hB) HB.out.size (by omega) (by omega)).mono ?_
  rintro e w3 ⟨rfl, hb⟩
  have zz := hb.size
  have a0_w3 := up hb a0_w2 za_w2
  have a1_w3 := up hb a1_w2 za_w2
  have a2_w3 := up hb a2_w2 za_w2
  have a3_w3 := up hb a3_w2 za_w2
  have a4_w3 := up hb a4_w2 za_w2
  have a5_w3 := up hb a5_w2 za_w2
  have a6_w3 := up hb a6_w2 za_w2
  have b0_w3 := up hb b0_w2 zb_w2
  have b1_w3 := up hb b1_w2 zb_w2
  have b2_w3 := up hb b2_w2 zb_w2
  have b3_w3 := up hb b3_w2 zb_w2
  have b4_w3 := up hb b4_w2 zb_w2
  have b5_w3 := up hb b5_w2 zb_w2
  have b6_w3 := up hb b6_w2 zb_w2
  have za_w3 := Nat.lt_of_lt_of_le za_w2 zz
  have zb_w3 := Nat.lt_of_lt_of_le zb_w2 zz
  replace HB := Lib.hid (HB.out.trans (hb.mono HB.out.size))
  replace SZ := Lib.hid (And.intro SZ.out zz)
  clear zz hb a0_w2 a1_w2 a2_w2 a3_w2 a4_w2 a5_w2 a6_w2 b0_w2 b1_w2 b2_w2 b3_w2 b4_w2 b5_w2 b6_w2 za_w2 zb_w2
  cases p2 : sl k.n2 k.x2 j.n2 j.x2
  · skip
    have q2 : Hid (R = false) := by show R = false; rw [HR.out]; simp [p2]
    clear H1 H2 HR
    clear p2
    go_wp2
    go_ret
    exact ⟨ret_bool q2.out.symm, HB.out⟩
  go_wp2_with fail
  refine (l33SameEdges_any k.A3 j.A3 k.c3 j.c3 k.D j.D w3 w.heap.size (H1.out.2.2.2.keep (HB.out.mono hB) hB) (H2.out.2.2.2.keep (HB.out.mono hB) hB) HB.out.size (by omega) (by omega) (by omega) (by omega)).mono ?_
  rintro e w4 ⟨rfl, hb⟩
  have zz := hb.size
  have a0_w4 := up hb a0_w3 za_w3
  have a1_w4 := up hb a1_w3 za_w3
  have a2_w4 := up hb a2_w3 za_w3
  have a3_w4 := up hb a3_w3 za_w3
  have a4_w4 := up hb a4_w3 za_w3
  have a5_w4 := up hb a5_w3 za_w3
  have a6_w4 := up hb a6_w3 za_w3
  have b0_w4 := up hb b0_w3 zb_w3
  have b1_w4 := up hb b1_w3 zb_w3
  have b2_w4 := up hb b2_w3 zb_w3
  have b3_w4 := up hb b3_w3 zb_w3
  have b4_w4 := up hb b4_w3 zb_w3
  have b5_w4 := up hb b5_w3 zb_w3
  have b6_w4 := up hb b6_w3 zb_w3
  have za_w4 := Nat.lt_of_lt_of_le za_w3 zz
  have zb_w4 := Nat.lt_of_lt_of_le zb_w3 zz
  replace HB := Lib.hid (HB.out.trans (hb.mono HB.out.size))
  replace SZ := Lib.hid (And.intro SZ.out zz)
  clear zz hb a0_w3 a1_w3 a2_w3 a3_w3 a4_w3 a5_w3 a6_w3 b0_w3 b1_w3 b2_w3 b3_w3 b4_w3 b5_w3 b6_w3 za_w3 zb_w3
  have q2 : Hid (R = decide (lists k.D = lists j.D)) := by show R = _; rw [HR.out]; simp [decide_eq_true PK.out, decide_eq_true PT.out, p0, p1, p2]
  clear H1 H2 HR p0 p1 p2
  go_wp2
  go_ret
  exact ⟨ret_bool q2.out.symm, HB.out⟩

end Go.Proofs.Ytccblehcemggjaa
