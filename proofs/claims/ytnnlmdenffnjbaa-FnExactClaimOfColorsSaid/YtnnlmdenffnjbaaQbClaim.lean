/-
  A claim as it lies in memory; contracts of the law's helpers on claims: size, copy, compare.
-/
import Derived.Test.YtnnlmdenffnjbaaQbGB
import Derived.Test.YtnnlmdenffnjbaaQbGL
namespace Go.Proofs.Ytnnlmdenffnjbaa
open Go.RowKit

/-- A claim: kind, graph, class, numbers, others, edges, each slice with its place. -/
structure Clm where
  K : Int
  s : Int
  A0 : Option Addr
  n0 : Nat
  c0 : Nat
  x0 : Nat → Int
  t : ByteArray
  A1 : Option Addr
  n1 : Nat
  c1 : Nat
  x1 : Nat → Int
  A2 : Option Addr
  n2 : Nat
  c2 : Nat
  x2 : Nat → Int
  A3 : Option Addr
  c3 : Nat
  D : List Dsc
def RdK (w : World) (B : Nat) (k : Clm) : Prop := Rd w B k.A0 k.n0 k.c0 k.x0 ∧ Rd w B k.A1 k.n1 k.c1 k.x1 ∧ Rd w B k.A2 k.n2 k.c2 k.x2 ∧ RdD w B k.A3 k.c3 k.D
def OwnK (w : World) (lo hi : Nat) (k : Clm) : Prop := Own w lo hi 3 1 k.A0 k.n0 k.c0 (fun j => .int .i64 (k.x0 j)) ∧ Own w lo hi 3 1 k.A1 k.n1 k.c1 (fun j => .int .i64 (k.x1 j)) ∧ Own w lo hi 3 1 k.A2 k.n2 k.c2 (fun j => .int .i64 (k.x2 j)) ∧ OwnD w lo hi k.A3 k.c3 k.D
/-- Lengths that the law's bound allows. -/
def SmK (k : Clm) : Prop := k.n0 ≤ 1048576 ∧ k.t.size ≤ 1048576 ∧ k.n1 ≤ 1048576 ∧ k.n2 ≤ 1048576 ∧ k.D.length ≤ 1048576 ∧ tot k.D ≤ 1048576
def SameK (a b : Clm) : Prop := a.K = b.K ∧ a.s = b.s ∧ a.n0 = b.n0 ∧ a.x0 = b.x0 ∧ a.t = b.t ∧ a.n1 = b.n1 ∧ a.x1 = b.x1 ∧ a.n2 = b.n2 ∧ a.x2 = b.x2 ∧ lists a.D = lists b.D

section
variable {w w' : World} {lo hi lo' hi' B B' : Nat} {k j : Clm}
theorem RdK.keep (h : RdK w B k) (hb : Below B w w') (hB : B ≤ B') : RdK w' B' k := ⟨h.1.keep hb hB, h.2.1.keep hb hB, h.2.2.1.keep hb hB, h.2.2.2.keep hb hB⟩
theorem OwnK.rdK (h : OwnK w lo hi k) : RdK w hi k := ⟨h.1.rd, h.2.1.rd, h.2.2.1.rd, h.2.2.2.rdD⟩
theorem OwnK.keepB (h : OwnK w lo hi k) (hf : Below B w w') (hB : hi ≤ B) : OwnK w' lo hi k := ⟨h.1.keepB hf hB, h.2.1.keepB hf hB, h.2.2.1.keepB hf hB, h.2.2.2.keepB hf hB⟩
theorem OwnK.keep {a b : Nat} (h : OwnK w lo hi k) (hf : Fr a b w w') (hab : hi ≤ a ∨ b ≤ lo) : OwnK w' lo hi k := ⟨h.1.keep hf hab, h.2.1.keep hf hab, h.2.2.1.keep hf hab, h.2.2.2.keep hf hab⟩
theorem OwnK.mono (h : OwnK w lo hi k) (h1 : lo' ≤ lo) (h2 : hi ≤ hi') : OwnK w lo' hi' k := ⟨h.1.mono h1 h2, h.2.1.mono h1 h2, h.2.2.1.mono h1 h2, h.2.2.2.mono h1 h2⟩
theorem SameK.symm (h : SameK k j) : SameK j k := by
  obtain ⟨h1, h2, h3, h4, h5, h6, h7, h8, h9, h10⟩ := h
  exact ⟨h1.symm, h2.symm, h3.symm, h4.symm, h5.symm, h6.symm, h7.symm, h8.symm, h9.symm, h10.symm⟩
theorem SameK.trans {i : Clm} (h : SameK i k) (g : SameK k j) : SameK i j := by
  obtain ⟨h1, h2, h3, h4, h5, h6, h7, h8, h9, h10⟩ := h
  obtain ⟨g1, g2, g3, g4, g5, g6, g7, g8, g9, g10⟩ := g
  exact ⟨h1.trans g1, h2.trans g2, h3.trans g3, h4.trans g4, h5.trans g5, h6.trans g6, h7.trans g7, h8.trans g8, h9.trans g9, h10.trans g10⟩
theorem SameK.small (h : SameK k j) (hs : SmK k) : SmK j := by
  obtain ⟨_, _, h3, _, h5, h6, _, h8, _, h10⟩ := h
  obtain ⟨s1, s2, s3, s4, s5, s6⟩ := hs
  exact ⟨h3 ▸ s1, h5 ▸ s2, h6 ▸ s3, h8 ▸ s4, (len_lists h10) ▸ s5, (tot_lists h10) ▸ s6⟩
end

set_option maxRecDepth 100000 in
set_option maxHeartbeats 1000000 in
theorem eqClaim_yes (k j : Clm) (w : World) (B1 B2 : Nat) (h1 : RdK w B1 k) (h2 : RdK w B2 j) (hB1 : B1 ≤ w.heap.size) (hB2 : B2 ≤ w.heap.size) (hj : SameK k j) (hs : SmK k) :
    Calls Try.prog 30 #[.agg #[.int .i64 k.K, .int .i64 k.s, .slice k.A0 k.n0 k.c0, .string k.t, .slice k.A1 k.n1 k.c1, .slice k.A2 k.n2 k.c2, .slice k.A3 k.D.length k.c3], .agg #[.int .i64 j.K, .int .i64 j.s, .slice j.A0 j.n0 j.c0, .string j.t, .slice j.A1 j.n1 j.c1, .slice j.A2 j.n2 j.c2, .slice j.A3 j.D.length j.c3]] w fun e w' => e = .returned (.bool true) ∧ Below w.heap.size w w' := by
  obtain ⟨hs0, hst, hs1, hs2, hs3, hs4⟩ := hs
  obtain ⟨K, s, A0, n0, c0, x0, t, A1, n1, c1, x1, A2, n2, c2, x2, A3, c3, D⟩ := k
  obtain ⟨K', s', C0, m0, d0, y0, t', C1, m1, d1, y1, C2, m2, d2, y2, C3, d3, E⟩ := j
  obtain ⟨e1, e2, e3, e4, e5, e6, e7, e8, e9, e10⟩ := hj
  simp only at e1 e2 e3 e4 e5 e6 e7 e8 e9 e10 hs0 hst hs1 hs2 hs3 hs4 h1 h2 ⊢
  subst e1 e2 e3 e4 e5 e6 e7 e8 e9
  have H1 := Lib.hid h1
  have H2 := Lib.hid h2
  have HL := Lib.hid e10
  clear h1 h2 e10
  obtain ⟨w0, hW⟩ : ∃ W : World, W = (w.alloc (Obj.cells #[.int .i64 K, .int .i64 s, .slice A0 n0 c0, .string t, .slice A1 n1 c1, .slice A2 n2 c2, .slice A3 D.length c3] 46)).alloc (Obj.cells #[.int .i64 K, .int .i64 s, .slice C0 n0 d0, .string t, .slice C1 n1 d1, .slice C2 n2 d2, .slice C3 E.length d3] 46) := ⟨_, rfl⟩
  have HB : Hid (Below w.heap.size w w0) := by rw [hW]; exact ((Below.refl _ _).alloc (Nat.le_refl _) _).alloc (by simp) _
  have hz0 : w0.heap.size = w.heap.size + 2 := by rw [hW]; simp
  have a0_w0 : w0.cell? ⟨w.heap.size, 0, none⟩ = some (.int .i64 K) := by rw [hW]; simp [go_sem]
  have a1_w0 : w0.cell? ⟨w.heap.size, 1, none⟩ = some (.int .i64 s) := by rw [hW]; simp [go_sem]
  have a2_w0 : w0.cell? ⟨w.heap.size, 2, none⟩ = some (.slice A0 n0 c0) := by rw [hW]; simp [go_sem]
  have a3_w0 : w0.cell? ⟨w.heap.size, 3, none⟩ = some (.string t) := by rw [hW]; simp [go_sem]
  have a4_w0 : w0.cell? ⟨w.heap.size, 4, none⟩ = some (.slice A1 n1 c1) := by rw [hW]; simp [go_sem]
  have a5_w0 : w0.cell? ⟨w.heap.size, 5, none⟩ = some (.slice A2 n2 c2) := by rw [hW]; simp [go_sem]
  have a6_w0 : w0.cell? ⟨w.heap.size, 6, none⟩ = some (.slice A3 D.length c3) := by rw [hW]; simp [go_sem]
  have b0_w0 : w0.cell? ⟨w.heap.size + 1, 0, none⟩ = some (.int .i64 K) := by rw [hW]; simp [go_sem]
  have b1_w0 : w0.cell? ⟨w.heap.size + 1, 1, none⟩ = some (.int .i64 s) := by rw [hW]; simp [go_sem]
  have b2_w0 : w0.cell? ⟨w.heap.size + 1, 2, none⟩ = some (.slice C0 n0 d0) := by rw [hW]; simp [go_sem]
  have b3_w0 : w0.cell? ⟨w.heap.size + 1, 3, none⟩ = some (.string t) := by rw [hW]; simp [go_sem]
  have b4_w0 : w0.cell? ⟨w.heap.size + 1, 4, none⟩ = some (.slice C1 n1 d1) := by rw [hW]; simp [go_sem]
  have b5_w0 : w0.cell? ⟨w.heap.size + 1, 5, none⟩ = some (.slice C2 n2 d2) := by rw [hW]; simp [go_sem]
  have b6_w0 : w0.cell? ⟨w.heap.size + 1, 6, none⟩ = some (.slice C3 E.length d3) := by rw [hW]; simp [go_sem]
  have za_w0 : w.heap.size < w0.heap.size := by omega
  have zb_w0 : w.heap.size + 1 < w0.heap.size := by omega
  have SZ : Hid (w.heap.size + 2 ≤ w0.heap.size) := by show _ ≤ _; omega
  have HW := Lib.hid hW
  clear hW hz0
  go_enter Try.func30, Try.ntmps30
  go_wp2_with fail
  rw [← HW.out]
  clear HW
  refine (eqGraph_yes s A0 C0 n0 c0 d0 x0 w0 w.heap.size w.heap.size ((H1.out.1.keep (HB.out.mono hB1) hB1)) ((H2.out.1.keep (HB.out.mono hB2) hB2)) HB.out.size HB.out.size hs0).mono ?_
  rintro e w1 ⟨rfl, hb⟩
  have zz := hb.size
  have a0_w1 := up hb a0_w0 za_w0
  have a1_w1 := up hb a1_w0 za_w0
  have a2_w1 := up hb a2_w0 za_w0
  have a3_w1 := up hb a3_w0 za_w0
  have a4_w1 := up hb a4_w0 za_w0
  have a5_w1 := up hb a5_w0 za_w0
  have a6_w1 := up hb a6_w0 za_w0
  have b0_w1 := up hb b0_w0 zb_w0
  have b1_w1 := up hb b1_w0 zb_w0
  have b2_w1 := up hb b2_w0 zb_w0
  have b3_w1 := up hb b3_w0 zb_w0
  have b4_w1 := up hb b4_w0 zb_w0
  have b5_w1 := up hb b5_w0 zb_w0
  have b6_w1 := up hb b6_w0 zb_w0
  have za_w1 := Nat.lt_of_lt_of_le za_w0 zz
  have zb_w1 := Nat.lt_of_lt_of_le zb_w0 zz
  replace HB := Lib.hid (HB.out.trans (hb.mono HB.out.size))
  replace SZ := Lib.hid (And.intro SZ.out zz)
  clear zz hb a0_w0 a1_w0 a2_w0 a3_w0 a4_w0 a5_w0 a6_w0 b0_w0 b1_w0 b2_w0 b3_w0 b4_w0 b5_w0 b6_w0 za_w0 zb_w0
  go_wp2_with fail
  refine (eqIntS_yes A1 C1 n1 c1 d1 x1 w1 w.heap.size w.heap.size ((H1.out.2.1.keep (HB.out.mono hB1) hB1)) ((H2.out.2.1.keep (HB.out.mono hB2) hB2)) HB.out.size HB.out.size (by omega)).mono ?_
  rintro e w2 ⟨rfl, hb⟩
  have zz := hb.size
  have a0_w2 := up hb a0_w1 za_w1
  have a1_w2 := up hb a1_w1 za_w1
  have a2_w2 := up hb a2_w1 za_w1
  have a3_w2 := up hb a3_w1 za_w1
  have a4_w2 := up hb a4_w1 za_w1
  have a5_w2 := up hb a5_w1 za_w1
  have a6_w2 := up hb a6_w1 za_w1
  have b0_w2 := up hb b0_w1 zb_w1
  have b1_w2 := up hb b1_w1 zb_w1
  have b2_w2 := up hb b2_w1 zb_w1
  have b3_w2 := up hb b3_w1 zb_w1
  have b4_w2 := up hb b4_w1 zb_w1
  have b5_w2 := up hb b5_w1 zb_w1
  have b6_w2 := up hb b6_w1 zb_w1
  have za_w2 := Nat.lt_of_lt_of_le za_w1 zz
  have zb_w2 := Nat.lt_of_lt_of_le zb_w1 zz
  replace HB := Lib.hid (HB.out.trans (hb.mono HB.out.size))
  replace SZ := Lib.hid (And.intro SZ.out zz)
  clear zz hb a0_w1 a1_w1 a2_w1 a3_w1 a4_w1 a5_w1 a6_w1 b0_w1 b1_w1 b2_w1 b3_w1 b4_w1 b5_w1 b6_w1 za_w1 zb_w1
  go_wp2_with fail
  refine (eqIntS_yes A2 C2 n2 c2 d2 x2 w2 w.heap.size w.heap.size ((H1.out.2.2.1.keep (HB.out.mono hB1) hB1)) ((H2.out.2.2.1.keep (HB.out.mono hB2) hB2)) HB.out.size HB.out.size (by omega)).mono ?_
  rintro e w3 ⟨rfl, hb⟩
  have zz := hb.size
  have a0_w3 := up hb a0_w2 za_w2
  have a1_w3 := up hb a1_w2 za_w2
  have a2_w3 := up hb a2_w2 za_w2
  have a3_w3 := up hb a3_w2 za_w2
  have a4_w3 := up hb a4_w2 za_w2
  have a5_w3 := up hb a5_w2 za_w2
  have a6_w3 := up hb a6_w2 za_w2
  have b0_w3 := up hb b0_w2 zb_w2
  have b1_w3 := up hb b1_w2 zb_w2
  have b2_w3 := up hb b2_w2 zb_w2
  have b3_w3 := up hb b3_w2 zb_w2
  have b4_w3 := up hb b4_w2 zb_w2
  have b5_w3 := up hb b5_w2 zb_w2
  have b6_w3 := up hb b6_w2 zb_w2
  have za_w3 := Nat.lt_of_lt_of_le za_w2 zz
  have zb_w3 := Nat.lt_of_lt_of_le zb_w2 zz
  replace HB := Lib.hid (HB.out.trans (hb.mono HB.out.size))
  replace SZ := Lib.hid (And.intro SZ.out zz)
  clear zz hb a0_w2 a1_w2 a2_w2 a3_w2 a4_w2 a5_w2 a6_w2 b0_w2 b1_w2 b2_w2 b3_w2 b4_w2 b5_w2 b6_w2 za_w2 zb_w2
  go_wp2_with fail
  refine (eqIntSS_yes A3 C3 c3 d3 D E w3 w.heap.size w.heap.size ((H1.out.2.2.2.keep (HB.out.mono hB1) hB1)) ((H2.out.2.2.2.keep (HB.out.mono hB2) hB2)) HB.out.size HB.out.size HL.out (by omega) (by omega)).mono ?_
  rintro e w4 ⟨rfl, hb⟩
  have zz := hb.size
  have a0_w4 := up hb a0_w3 za_w3
  have a1_w4 := up hb a1_w3 za_w3
  have a2_w4 := up hb a2_w3 za_w3
  have a3_w4 := up hb a3_w3 za_w3
  have a4_w4 := up hb a4_w3 za_w3
  have a5_w4 := up hb a5_w3 za_w3
  have a6_w4 := up hb a6_w3 za_w3
  have b0_w4 := up hb b0_w3 zb_w3
  have b1_w4 := up hb b1_w3 zb_w3
  have b2_w4 := up hb b2_w3 zb_w3
  have b3_w4 := up hb b3_w3 zb_w3
  have b4_w4 := up hb b4_w3 zb_w3
  have b5_w4 := up hb b5_w3 zb_w3
  have b6_w4 := up hb b6_w3 zb_w3
  have za_w4 := Nat.lt_of_lt_of_le za_w3 zz
  have zb_w4 := Nat.lt_of_lt_of_le zb_w3 zz
  replace HB := Lib.hid (HB.out.trans (hb.mono HB.out.size))
  replace SZ := Lib.hid (And.intro SZ.out zz)
  clear zz hb a0_w3 a1_w3 a2_w3 a3_w3 a4_w3 a5_w3 a6_w3 b0_w3 b1_w3 b2_w3 b3_w3 b4_w3 b5_w3 b6_w3 za_w3 zb_w3
  go_wp2
  go_ret
  exact ⟨rfl, HB.out⟩
end Go.Proofs.Ytnnlmdenffnjbaa
