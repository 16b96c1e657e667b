/-
  A claim as it lies in memory; contracts of the law's helpers on claims: size, copy, compare.
-/
import Derived.Test.YtncjfgebolikoaaDoorQwGB
import Derived.Test.YtncjfgebolikoaaDoorQwGL
namespace Go.Proofs.YtncjfgebolikoaaDoor
open Go.RowKit

/-- A claim: kind, graph, class, numbers, others, edges, each slice with its place. -/
structure Clm where
  K : Int
  s : Int
  A0 : Option Addr
  n0 : Nat
  c0 : Nat
  x0 : Nat → Int
  t : ByteArray
  A1 : Option Addr
  n1 : Nat
  c1 : Nat
  x1 : Nat → Int
  A2 : Option Addr
  n2 : Nat
  c2 : Nat
  x2 : Nat → Int
  A3 : Option Addr
  c3 : Nat
  D : List Dsc
def RdK (w : World) (B : Nat) (k : Clm) : Prop := Rd w B k.A0 k.n0 k.c0 k.x0 ∧ Rd w B k.A1 k.n1 k.c1 k.x1 ∧ Rd w B k.A2 k.n2 k.c2 k.x2 ∧ RdD w B k.A3 k.c3 k.D
def OwnK (w : World) (lo hi : Nat) (k : Clm) : Prop := Own w lo hi 3 1 k.A0 k.n0 k.c0 (fun j => .int .i64 (k.x0 j)) ∧ Own w lo hi 3 1 k.A1 k.n1 k.c1 (fun j => .int .i64 (k.x1 j)) ∧ Own w lo hi 3 1 k.A2 k.n2 k.c2 (fun j => .int .i64 (k.x2 j)) ∧ OwnD w lo hi k.A3 k.c3 k.D
/-- Lengths that memory allows. -/
def LenK (k : Clm) : Prop := k.n0 ≤ maxLen ∧ k.t.size ≤ maxLen ∧ k.n1 ≤ maxLen ∧ k.n2 ≤ maxLen ∧ k.D.length ≤ maxLen ∧ ∀ d ∈ k.D, d.2.2.length ≤ maxLen
/-- Lengths that the law's bound allows. -/
def SmK (k : Clm) : Prop := k.n0 ≤ 1048576 ∧ k.t.size ≤ 1048576 ∧ k.n1 ≤ 1048576 ∧ k.n2 ≤ 1048576 ∧ k.D.length ≤ 1048576 ∧ tot k.D ≤ 1048576
def ttK (k : Clm) : Nat := k.n0 + k.t.size + k.n1 + k.n2 + (k.D.length + tot k.D)
def SameK (a b : Clm) : Prop := a.K = b.K ∧ a.s = b.s ∧ a.n0 = b.n0 ∧ a.x0 = b.x0 ∧ a.t = b.t ∧ a.n1 = b.n1 ∧ a.x1 = b.x1 ∧ a.n2 = b.n2 ∧ a.x2 = b.x2 ∧ lists a.D = lists b.D

section
variable {w w' : World} {lo hi lo' hi' B B' : Nat} {k j : Clm}
theorem RdK.keep (h : RdK w B k) (hb : Below B w w') (hB : B ≤ B') : RdK w' B' k := ⟨h.1.keep hb hB, h.2.1.keep hb hB, h.2.2.1.keep hb hB, h.2.2.2.keep hb hB⟩
theorem OwnK.rdK (h : OwnK w lo hi k) : RdK w hi k := ⟨h.1.rd, h.2.1.rd, h.2.2.1.rd, h.2.2.2.rdD⟩
theorem OwnK.keepB (h : OwnK w lo hi k) (hf : Below B w w') (hB : hi ≤ B) : OwnK w' lo hi k := ⟨h.1.keepB hf hB, h.2.1.keepB hf hB, h.2.2.1.keepB hf hB, h.2.2.2.keepB hf hB⟩
theorem OwnK.keep {a b : Nat} (h : OwnK w lo hi k) (hf : Fr a b w w') (hab : hi ≤ a ∨ b ≤ lo) : OwnK w' lo hi k := ⟨h.1.keep hf hab, h.2.1.keep hf hab, h.2.2.1.keep hf hab, h.2.2.2.keep hf hab⟩
theorem OwnK.mono (h : OwnK w lo hi k) (h1 : lo' ≤ lo) (h2 : hi ≤ hi') : OwnK w lo' hi' k := ⟨h.1.mono h1 h2, h.2.1.mono h1 h2, h.2.2.1.mono h1 h2, h.2.2.2.mono h1 h2⟩
theorem SameK.symm (h : SameK k j) : SameK j k := by
  obtain ⟨h1, h2, h3, h4, h5, h6, h7, h8, h9, h10⟩ := h
  exact ⟨h1.symm, h2.symm, h3.symm, h4.symm, h5.symm, h6.symm, h7.symm, h8.symm, h9.symm, h10.symm⟩
theorem SameK.trans {i : Clm} (h : SameK i k) (g : SameK k j) : SameK i j := by
  obtain ⟨h1, h2, h3, h4, h5, h6, h7, h8, h9, h10⟩ := h
  obtain ⟨g1, g2, g3, g4, g5, g6, g7, g8, g9, g10⟩ := g
  exact ⟨h1.trans g1, h2.trans g2, h3.trans g3, h4.trans g4, h5.trans g5, h6.trans g6, h7.trans g7, h8.trans g8, h9.trans g9, h10.trans g10⟩
theorem SameK.small (h : SameK k j) (hs : SmK k) : SmK j := by
  obtain ⟨_, _, h3, _, h5, h6, _, h8, _, h10⟩ := h
  obtain ⟨s1, s2, s3, s4, s5, s6⟩ := hs
  exact ⟨h3 ▸ s1, h5 ▸ s2, h6 ▸ s3, h8 ▸ s4, (len_lists h10) ▸ s5, (tot_lists h10) ▸ s6⟩
theorem SmK.of_tt (h : ttK k ≤ 1048576) : SmK k := by
  unfold ttK at h
  exact ⟨by omega, by omega, by omega, by omega, by omega, by omega⟩
end

set_option maxRecDepth 100000 in
set_option maxHeartbeats 1000000 in
theorem szClaim_any (k : Clm) (left : Int) (w : World) (B : Nat) (h : RdK w B k) (hB : B ≤ w.heap.size) (hn : LenK k) (h0 : 0 ≤ left) (h1 : left ≤ 1048576) :
    Calls Tryd.prog 11 #[.agg #[.int .i64 k.K, .int .i64 k.s, .slice k.A0 k.n0 k.c0, .string k.t, .slice k.A1 k.n1 k.c1, .slice k.A2 k.n2 k.c2, .slice k.A3 k.D.length k.c3], .int .i64 left] w fun e w' => e = .returned (.int .i64 (szl left (ttK k))) ∧ Below w.heap.size w w' := by
  obtain ⟨hn0, hnt, hn1, hn2, hn3, hl⟩ := hn
  have HR := Lib.hid h
  clear h
  unfold maxLen at hnt
  obtain ⟨w0, hW⟩ : ∃ W : World, W = w.alloc (Obj.cells #[.int .i64 k.K, .int .i64 k.s, .slice k.A0 k.n0 k.c0, .string k.t, .slice k.A1 k.n1 k.c1, .slice k.A2 k.n2 k.c2, .slice k.A3 k.D.length k.c3] 34) := ⟨_, rfl⟩
  have HB : Hid (Below w.heap.size w w0) := by rw [hW]; exact (Below.refl _ _).alloc (Nat.le_refl _) _
  have hz0 : w0.heap.size = w.heap.size + 1 := by rw [hW]; simp
  have b0_w0 : w0.cell? ⟨w.heap.size, 0, none⟩ = some (.int .i64 k.K) := by rw [hW]; simp [go_sem]
  have b1_w0 : w0.cell? ⟨w.heap.size, 1, none⟩ = some (.int .i64 k.s) := by rw [hW]; simp [go_sem]
  have b2_w0 : w0.cell? ⟨w.heap.size, 2, none⟩ = some (.slice k.A0 k.n0 k.c0) := by rw [hW]; simp [go_sem]
  have b3_w0 : w0.cell? ⟨w.heap.size, 3, none⟩ = some (.string k.t) := by rw [hW]; simp [go_sem]
  have b4_w0 : w0.cell? ⟨w.heap.size, 4, none⟩ = some (.slice k.A1 k.n1 k.c1) := by rw [hW]; simp [go_sem]
  have b5_w0 : w0.cell? ⟨w.heap.size, 5, none⟩ = some (.slice k.A2 k.n2 k.c2) := by rw [hW]; simp [go_sem]
  have b6_w0 : w0.cell? ⟨w.heap.size, 6, none⟩ = some (.slice k.A3 k.D.length k.c3) := by rw [hW]; simp [go_sem]
  have z_w0 : w.heap.size < w0.heap.size := by omega
  have SZ : Hid (w.heap.size + 1 ≤ w0.heap.size) := by show _ ≤ _; omega
  have HW := Lib.hid hW
  clear hW hz0
  obtain ⟨T, hT⟩ : ∃ T, T = ttK k := ⟨_, rfl⟩
  rw [← hT]
  unfold ttK at hT
  have HT := Lib.hid hT
  clear hT
  go_enter Tryd.func11, Tryd.ntmps11
  go_wp2_with fail
  rw [← HW.out]
  clear HW
  refine (szGraph_any k.s k.A0 k.n0 k.c0 left w0 hn0 (by omega) (by omega)).mono ?_
  rintro e w1 ⟨rfl, hb⟩
  have zz := hb.size
  have b0_w1 := up hb b0_w0 z_w0
  have b1_w1 := up hb b1_w0 z_w0
  have b2_w1 := up hb b2_w0 z_w0
  have b3_w1 := up hb b3_w0 z_w0
  have b4_w1 := up hb b4_w0 z_w0
  have b5_w1 := up hb b5_w0 z_w0
  have b6_w1 := up hb b6_w0 z_w0
  have z_w1 := Nat.lt_of_lt_of_le z_w0 zz
  replace HB := Lib.hid (HB.out.trans (hb.mono HB.out.size))
  replace SZ := Lib.hid (And.intro SZ.out zz)
  clear zz hb b0_w0 b1_w0 b2_w0 b3_w0 b4_w0 b5_w0 b6_w0 z_w0
  by_cases p0 : left < k.n0
  · have q1 : szl (left) k.n0 < 0 := by unfold szl; rw [if_pos p0]; omega
    have q2 : Hid (szl left T = -1) := by show szl left T = -1; have := HT.out; unfold szl; rw [if_pos (by omega)]
    clear p0
    go_wp2
    go_ret
    exact ⟨ret_int q2.out.symm, HB.out⟩
  have q1 : szl (left) k.n0 = left - k.n0 := by unfold szl; rw [if_neg p0]
  have q3 : 0 ≤ left - k.n0 := by omega
  rw [q1]
  clear q1
  by_cases pt : left - k.n0 < k.t.size
  · have q1 : left - k.n0 - k.t.size < 0 := by omega
    have q2 : Hid (szl left T = -1) := by show szl left T = -1; have := HT.out; unfold szl; rw [if_pos (by omega)]
    clear pt
    go_wp2
    go_ret
    exact ⟨ret_int q2.out.symm, HB.out⟩
  have q4 : 0 ≤ left - k.n0 - k.t.size := by omega
  go_wp2_with fail
  refine (szIntS_max k.A1 k.n1 k.c1 (left - k.n0 - k.t.size) w1 hn1 (by omega) (by omega)).mono ?_
  rintro e w' ⟨rfl, rfl⟩
  by_cases p1 : left - k.n0 - k.t.size < k.n1
  · have q1 : szl (left - k.n0 - k.t.size) k.n1 < 0 := by unfold szl; rw [if_pos p1]; omega
    have q2 : Hid (szl left T = -1) := by show szl left T = -1; have := HT.out; unfold szl; rw [if_pos (by omega)]
    clear p1
    go_wp2
    go_ret
    exact ⟨ret_int q2.out.symm, HB.out⟩
  have q1 : szl (left - k.n0 - k.t.size) k.n1 = left - k.n0 - k.t.size - k.n1 := by unfold szl; rw [if_neg p1]
  have q3 : 0 ≤ left - k.n0 - k.t.size - k.n1 := by omega
  rw [q1]
  clear q1
  go_wp2_with fail
  refine (szIntS_max k.A2 k.n2 k.c2 (left - k.n0 - k.t.size - k.n1) w1 hn2 (by omega) (by omega)).mono ?_
  rintro e w' ⟨rfl, rfl⟩
  by_cases p2 : left - k.n0 - k.t.size - k.n1 < k.n2
  · have q1 : szl (left - k.n0 - k.t.size - k.n1) k.n2 < 0 := by unfold szl; rw [if_pos p2]; omega
    have q2 : Hid (szl left T = -1) := by show szl left T = -1; have := HT.out; unfold szl; rw [if_pos (by omega)]
    clear p2
    go_wp2
    go_ret
    exact ⟨ret_int q2.out.symm, HB.out⟩
  have q1 : szl (left - k.n0 - k.t.size - k.n1) k.n2 = left - k.n0 - k.t.size - k.n1 - k.n2 := by unfold szl; rw [if_neg p2]
  have q3 : 0 ≤ left - k.n0 - k.t.size - k.n1 - k.n2 := by omega
  rw [q1]
  clear q1
  go_wp2_with fail
  refine (szIntSS_max k.A3 k.c3 k.D (left - k.n0 - k.t.size - k.n1 - k.n2) w1 _ (HR.out.2.2.2.keep (HB.out.mono hB) (Nat.le_refl _)) hn3 hl (by omega) (by omega)).mono ?_
  rintro e w' ⟨rfl, rfl⟩
  obtain ⟨m3, hm3⟩ : ∃ t, t = k.D.length + tot k.D := ⟨_, rfl⟩
  have e3 : Hid (T = k.n0 + k.t.size + k.n1 + k.n2 + m3) := by show _ = _; rw [hm3]; exact HT.out
  rw [← hm3]
  clear HT hm3
  have HT := e3
  clear e3
  by_cases p3 : left - k.n0 - k.t.size - k.n1 - k.n2 < m3
  · have q1 : szl (left - k.n0 - k.t.size - k.n1 - k.n2) m3 < 0 := by unfold szl; rw [if_pos p3]; omega
    have q2 : Hid (szl left T = -1) := by show szl left T = -1; have := HT.out; unfold szl; rw [if_pos (by omega)]
    clear p3
    go_wp2
    go_ret
    exact ⟨ret_int q2.out.symm, HB.out⟩
  have q1 : szl (left - k.n0 - k.t.size - k.n1 - k.n2) m3 = left - k.n0 - k.t.size - k.n1 - k.n2 - m3 := by unfold szl; rw [if_neg p3]
  have q3 : 0 ≤ left - k.n0 - k.t.size - k.n1 - k.n2 - m3 := by omega
  rw [q1]
  clear q1
  have q2 : Hid (szl left T = left - k.n0 - k.t.size - k.n1 - k.n2 - m3) := by show szl left T = _; have := HT.out; unfold szl; rw [if_neg (by omega)]; omega
  go_wp2
  go_ret
  exact ⟨ret_int q2.out.symm, HB.out⟩

set_option maxRecDepth 100000 in
set_option maxHeartbeats 1000000 in
theorem toClaim_any (k : Clm) (w : World) (B : Nat) (h : RdK w B k) (hB : B ≤ w.heap.size) (hs : SmK k) :
    Calls Tryd.prog 13 #[.agg #[.int .i64 k.K, .int .i64 k.s, .slice k.A0 k.n0 k.c0, .string k.t, .slice k.A1 k.n1 k.c1, .slice k.A2 k.n2 k.c2, .slice k.A3 k.D.length k.c3]] w fun e w' => ∃ j : Clm, e = .returned (.agg #[.int .i64 j.K, .int .i64 j.s, .slice j.A0 j.n0 j.c0, .string j.t, .slice j.A1 j.n1 j.c1, .slice j.A2 j.n2 j.c2, .slice j.A3 j.D.length j.c3]) ∧ SameK k j ∧ OwnK w' w.heap.size w'.heap.size j ∧ Below w.heap.size w w' := by
  obtain ⟨hs0, hst, hs1, hs2, hs3, hs4⟩ := hs
  have HR := Lib.hid h
  clear h
  obtain ⟨w0, hW⟩ : ∃ W : World, W = ((w.alloc (Obj.cells #[.int .i64 k.K, .int .i64 k.s, .slice k.A0 k.n0 k.c0, .string k.t, .slice k.A1 k.n1 k.c1, .slice k.A2 k.n2 k.c2, .slice k.A3 k.D.length k.c3] 34)).alloc (Obj.cells #[.int .i64 0, .int .i64 0, .slice none 0 0, .string ⟨#[]⟩, .slice none 0 0, .slice none 0 0, .slice none 0 0] 39)).alloc (Obj.cells #[.int .i64 k.K, .int .i64 0, .slice none 0 0, .string ⟨#[]⟩, .slice none 0 0, .slice none 0 0, .slice none 0 0] 39) := ⟨_, rfl⟩
  have HB : Hid (Below w.heap.size w w0) := by rw [hW]; exact (((Below.refl _ _).alloc (Nat.le_refl _) _).alloc (by simp) _).alloc (by simp; omega) _
  have hz0 : w0.heap.size = w.heap.size + 3 := by rw [hW]; simp
  have b0_w0 : w0.cell? ⟨w.heap.size, 0, none⟩ = some (.int .i64 k.K) := by rw [hW]; simp [go_sem]
  have b1_w0 : w0.cell? ⟨w.heap.size, 1, none⟩ = some (.int .i64 k.s) := by rw [hW]; simp [go_sem]
  have b2_w0 : w0.cell? ⟨w.heap.size, 2, none⟩ = some (.slice k.A0 k.n0 k.c0) := by rw [hW]; simp [go_sem]
  have b3_w0 : w0.cell? ⟨w.heap.size, 3, none⟩ = some (.string k.t) := by rw [hW]; simp [go_sem]
  have b4_w0 : w0.cell? ⟨w.heap.size, 4, none⟩ = some (.slice k.A1 k.n1 k.c1) := by rw [hW]; simp [go_sem]
  have b5_w0 : w0.cell? ⟨w.heap.size, 5, none⟩ = some (.slice k.A2 k.n2 k.c2) := by rw [hW]; simp [go_sem]
  have b6_w0 : w0.cell? ⟨w.heap.size, 6, none⟩ = some (.slice k.A3 k.D.length k.c3) := by rw [hW]; simp [go_sem]
  have r0_w0 : w0.cell? ⟨w.heap.size + 1, 0, none⟩ = some (.int .i64 0) := by rw [hW]; simp [go_sem]
  have r1_w0 : w0.cell? ⟨w.heap.size + 1, 1, none⟩ = some (.int .i64 0) := by rw [hW]; simp [go_sem]
  have r2_w0 : w0.cell? ⟨w.heap.size + 1, 2, none⟩ = some (.slice none 0 0) := by rw [hW]; simp [go_sem]
  have r3_w0 : w0.cell? ⟨w.heap.size + 1, 3, none⟩ = some (.string ⟨#[]⟩) := by rw [hW]; simp [go_sem]
  have r4_w0 : w0.cell? ⟨w.heap.size + 1, 4, none⟩ = some (.slice none 0 0) := by rw [hW]; simp [go_sem]
  have r5_w0 : w0.cell? ⟨w.heap.size + 1, 5, none⟩ = some (.slice none 0 0) := by rw [hW]; simp [go_sem]
  have r6_w0 : w0.cell? ⟨w.heap.size + 1, 6, none⟩ = some (.slice none 0 0) := by rw [hW]; simp [go_sem]
  have o0_w0 : w0.cell? ⟨w.heap.size + 1 + 1, 0, none⟩ = some (.int .i64 k.K) := by rw [hW]; simp [go_sem]
  have o1_w0 : w0.cell? ⟨w.heap.size + 1 + 1, 1, none⟩ = some (.int .i64 0) := by rw [hW]; simp [go_sem]
  have o2_w0 : w0.cell? ⟨w.heap.size + 1 + 1, 2, none⟩ = some (.slice none 0 0) := by rw [hW]; simp [go_sem]
  have o3_w0 : w0.cell? ⟨w.heap.size + 1 + 1, 3, none⟩ = some (.string ⟨#[]⟩) := by rw [hW]; simp [go_sem]
  have o4_w0 : w0.cell? ⟨w.heap.size + 1 + 1, 4, none⟩ = some (.slice none 0 0) := by rw [hW]; simp [go_sem]
  have o5_w0 : w0.cell? ⟨w.heap.size + 1 + 1, 5, none⟩ = some (.slice none 0 0) := by rw [hW]; simp [go_sem]
  have o6_w0 : w0.cell? ⟨w.heap.size + 1 + 1, 6, none⟩ = some (.slice none 0 0) := by rw [hW]; simp [go_sem]
  have z_w0 : w.heap.size < w0.heap.size := by omega
  have zr_w0 : w.heap.size + 1 < w0.heap.size := by omega
  have zo_w0 : w.heap.size + 1 + 1 < w0.heap.size := by omega
  have fr_w0 : ∀ o, w0.frozen? ⟨w.heap.size + 1, o, none⟩ = false := by intro o; rw [hW]; simp [go_sem]
  have fo_w0 : ∀ o, w0.frozen? ⟨w.heap.size + 1 + 1, o, none⟩ = false := by intro o; rw [hW]; simp [go_sem]
  have SZ : Hid (w.heap.size + 3 ≤ w0.heap.size) := by show _ ≤ _; omega
  have HW := Lib.hid hW
  clear hW hz0
  go_enter Tryd.func13, Tryd.ntmps13
  go_wp2_with fail
  rw [← HW.out]
  clear HW
  refine (toGraph_any k.s k.A0 k.n0 k.c0 k.x0 w0 _ (HR.out.1.keep (HB.out.mono hB) (Nat.le_refl _)) (Nat.le_trans hB HB.out.size) hs0).mono ?_
  rintro e w2 ⟨k0, hk0, rfl, ho, hb⟩
  have O0 := Lib.hid ho
  clear ho
  have zz := hb.size
  have b0_w2 := up hb b0_w0 z_w0
  have b1_w2 := up hb b1_w0 z_w0
  have b2_w2 := up hb b2_w0 z_w0
  have b3_w2 := up hb b3_w0 z_w0
  have b4_w2 := up hb b4_w0 z_w0
  have b5_w2 := up hb b5_w0 z_w0
  have b6_w2 := up hb b6_w0 z_w0
  have r0_w2 := up hb r0_w0 zr_w0
  have r1_w2 := up hb r1_w0 zr_w0
  have r2_w2 := up hb r2_w0 zr_w0
  have r3_w2 := up hb r3_w0 zr_w0
  have r4_w2 := up hb r4_w0 zr_w0
  have r5_w2 := up hb r5_w0 zr_w0
  have r6_w2 := up hb r6_w0 zr_w0
  have o0_w2 := up hb o0_w0 zo_w0
  have o1_w2 := up hb o1_w0 zo_w0
  have o2_w2 := up hb o2_w0 zo_w0
  have o3_w2 := up hb o3_w0 zo_w0
  have o4_w2 := up hb o4_w0 zo_w0
  have o5_w2 := up hb o5_w0 zo_w0
  have o6_w2 := up hb o6_w0 zo_w0
  have fr_w2 : ∀ o, w2.frozen? ⟨w.heap.size + 1, o, none⟩ = false := fun o => (hb.frozen (p := ⟨w.heap.size + 1, o, none⟩) (by show w.heap.size + 1 < _; omega)).trans (fr_w0 o)
  have fo_w2 : ∀ o, w2.frozen? ⟨w.heap.size + 1 + 1, o, none⟩ = false := fun o => (hb.frozen (p := ⟨w.heap.size + 1 + 1, o, none⟩) (by show w.heap.size + 1 + 1 < _; omega)).trans (fo_w0 o)
  have z_w2 := Nat.lt_of_lt_of_le z_w0 zz
  have zr_w2 := Nat.lt_of_lt_of_le zr_w0 zz
  have zo_w2 := Nat.lt_of_lt_of_le zo_w0 zz
  replace HB := Lib.hid (HB.out.trans (hb.mono HB.out.size))
  replace SZ := Lib.hid (And.intro SZ.out zz)
  clear zz hb b0_w0 b1_w0 b2_w0 b3_w0 b4_w0 b5_w0 b6_w0 r0_w0 r1_w0 r2_w0 r3_w0 r4_w0 r5_w0 r6_w0 o0_w0 o1_w0 o2_w0 o3_w0 o4_w0 o5_w0 o6_w0 fr_w0 fo_w0 z_w0 zr_w0 zo_w0
  obtain ⟨w3, hW⟩ : ∃ W : World, W = (((w2.setCell ⟨w.heap.size + 1 + 1, 1, none⟩ (.int .i64 k.s)).setCell ⟨w.heap.size + 1 + 1, 2, none⟩ (.slice (some ⟨k0, 0, none⟩) k.n0 k.n0)).setCell ⟨w.heap.size + 1 + 1, 3, none⟩ (.string k.t)) := ⟨_, rfl⟩
  have HF : Fr (w.heap.size + 1) (w.heap.size + 1 + 1 + 1) w2 w3 := by rw [hW]; exact (((Fr.refl _ _ _).setCell (p := ⟨w.heap.size + 1 + 1, 1, none⟩) (by show w.heap.size + 1 ≤ w.heap.size + 1 + 1; omega) (by show w.heap.size + 1 + 1 < _; omega) (.int .i64 k.s)).setCell (p := ⟨w.heap.size + 1 + 1, 2, none⟩) (by show w.heap.size + 1 ≤ w.heap.size + 1 + 1; omega) (by show w.heap.size + 1 + 1 < _; omega) (.slice (some ⟨k0, 0, none⟩) k.n0 k.n0)).setCell (p := ⟨w.heap.size + 1 + 1, 3, none⟩) (by show w.heap.size + 1 ≤ w.heap.size + 1 + 1; omega) (by show w.heap.size + 1 + 1 < _; omega) (.string k.t)
  have zz := HF.size
  have b0_w3 := upFr HF b0_w2 z_w2 (by omega)
  have b1_w3 := upFr HF b1_w2 z_w2 (by omega)
  have b2_w3 := upFr HF b2_w2 z_w2 (by omega)
  have b3_w3 := upFr HF b3_w2 z_w2 (by omega)
  have b4_w3 := upFr HF b4_w2 z_w2 (by omega)
  have b5_w3 := upFr HF b5_w2 z_w2 (by omega)
  have b6_w3 := upFr HF b6_w2 z_w2 (by omega)
  have r0_w3 : w3.cell? ⟨w.heap.size + 1, 0, none⟩ = some (.int .i64 0) := by rw [hW]; simp [go_sem, r0_w2]
  have r1_w3 : w3.cell? ⟨w.heap.size + 1, 1, none⟩ = some (.int .i64 0) := by rw [hW]; simp [go_sem, r1_w2]
  have r2_w3 : w3.cell? ⟨w.heap.size + 1, 2, none⟩ = some (.slice none 0 0) := by rw [hW]; simp [go_sem, r2_w2]
  have r3_w3 : w3.cell? ⟨w.heap.size + 1, 3, none⟩ = some (.string ⟨#[]⟩) := by rw [hW]; simp [go_sem, r3_w2]
  have r4_w3 : w3.cell? ⟨w.heap.size + 1, 4, none⟩ = some (.slice none 0 0) := by rw [hW]; simp [go_sem, r4_w2]
  have r5_w3 : w3.cell? ⟨w.heap.size + 1, 5, none⟩ = some (.slice none 0 0) := by rw [hW]; simp [go_sem, r5_w2]
  have r6_w3 : w3.cell? ⟨w.heap.size + 1, 6, none⟩ = some (.slice none 0 0) := by rw [hW]; simp [go_sem, r6_w2]
  have o0_w3 : w3.cell? ⟨w.heap.size + 1 + 1, 0, none⟩ = some (.int .i64 k.K) := by rw [hW]; simp [go_sem, o0_w2]
  have o1_w3 : w3.cell? ⟨w.heap.size + 1 + 1, 1, none⟩ = some (.int .i64 k.s) := by rw [hW]; simp [go_sem, o1_w2]
  have o2_w3 : w3.cell? ⟨w.heap.size + 1 + 1, 2, none⟩ = some (.slice (some ⟨k0, 0, none⟩) k.n0 k.n0) := by rw [hW]; simp [go_sem, o2_w2]
  have o3_w3 : w3.cell? ⟨w.heap.size + 1 + 1, 3, none⟩ = some (.string k.t) := by rw [hW]; simp [go_sem, o3_w2]
  have o4_w3 : w3.cell? ⟨w.heap.size + 1 + 1, 4, none⟩ = some (.slice none 0 0) := by rw [hW]; simp [go_sem, o4_w2]
  have o5_w3 : w3.cell? ⟨w.heap.size + 1 + 1, 5, none⟩ = some (.slice none 0 0) := by rw [hW]; simp [go_sem, o5_w2]
  have o6_w3 : w3.cell? ⟨w.heap.size + 1 + 1, 6, none⟩ = some (.slice none 0 0) := by rw [hW]; simp [go_sem, o6_w2]
  have fr_w3 : ∀ o, w3.frozen? ⟨w.heap.size + 1, o, none⟩ = false := by intro o; rw [hW]; simpa [go_sem] using fr_w2 o
  have fo_w3 : ∀ o, w3.frozen? ⟨w.heap.size + 1 + 1, o, none⟩ = false := by intro o; rw [hW]; simpa [go_sem] using fo_w2 o
  have z_w3 := Nat.lt_of_lt_of_le z_w2 zz
  have zr_w3 := Nat.lt_of_lt_of_le zr_w2 zz
  have zo_w3 := Nat.lt_of_lt_of_le zo_w2 zz
  replace O0 := Lib.hid (O0.out.keep HF (.inr (by have := SZ.out; omega)))
  replace HB := Lib.hid (HB.out.trans (HF.below (by omega) HB.out.size))
  replace SZ := Lib.hid (And.intro SZ.out zz)
  have HW := Lib.hid hW
  clear hW zz HF
  go_wp2_with fail
  rw [← HW.out]
  clear HW b0_w2 b1_w2 b2_w2 b3_w2 b4_w2 b5_w2 b6_w2 r0_w2 r1_w2 r2_w2 r3_w2 r4_w2 r5_w2 r6_w2 o0_w2 o1_w2 o2_w2 o3_w2 o4_w2 o5_w2 o6_w2 fr_w2 fo_w2 z_w2 zr_w2 zo_w2
  refine (toIntS_any k.A1 k.n1 k.c1 k.x1 w3 _ (HR.out.2.1.keep (HB.out.mono hB) (Nat.le_refl _)) (Nat.le_trans hB HB.out.size) hs1).mono ?_
  rintro e w4 ⟨k1, hk1, rfl, ho, hb⟩
  have O1 := Lib.hid ho
  clear ho
  have zz := hb.size
  have b0_w4 := up hb b0_w3 z_w3
  have b1_w4 := up hb b1_w3 z_w3
  have b2_w4 := up hb b2_w3 z_w3
  have b3_w4 := up hb b3_w3 z_w3
  have b4_w4 := up hb b4_w3 z_w3
  have b5_w4 := up hb b5_w3 z_w3
  have b6_w4 := up hb b6_w3 z_w3
  have r0_w4 := up hb r0_w3 zr_w3
  have r1_w4 := up hb r1_w3 zr_w3
  have r2_w4 := up hb r2_w3 zr_w3
  have r3_w4 := up hb r3_w3 zr_w3
  have r4_w4 := up hb r4_w3 zr_w3
  have r5_w4 := up hb r5_w3 zr_w3
  have r6_w4 := up hb r6_w3 zr_w3
  have o0_w4 := up hb o0_w3 zo_w3
  have o1_w4 := up hb o1_w3 zo_w3
  have o2_w4 := up hb o2_w3 zo_w3
  have o3_w4 := up hb o3_w3 zo_w3
  have o4_w4 := up hb o4_w3 zo_w3
  have o5_w4 := up hb o5_w3 zo_w3
  have o6_w4 := up hb o6_w3 zo_w3
  have fr_w4 : ∀ o, w4.frozen? ⟨w.heap.size + 1, o, none⟩ = false := fun o => (hb.frozen (p := ⟨w.heap.size + 1, o, none⟩) (by show w.heap.size + 1 < _; omega)).trans (fr_w3 o)
  have fo_w4 : ∀ o, w4.frozen? ⟨w.heap.size + 1 + 1, o, none⟩ = false := fun o => (hb.frozen (p := ⟨w.heap.size + 1 + 1, o, none⟩) (by show w.heap.size + 1 + 1 < _; omega)).trans (fo_w3 o)
  have z_w4 := Nat.lt_of_lt_of_le z_w3 zz
  have zr_w4 := Nat.lt_of_lt_of_le zr_w3 zz
  have zo_w4 := Nat.lt_of_lt_of_le zo_w3 zz
  replace O0 := Lib.hid (O0.out.keepB hb (by have := SZ.out; omega))
  replace HB := Lib.hid (HB.out.trans (hb.mono HB.out.size))
  replace SZ := Lib.hid (And.intro SZ.out zz)
  clear zz hb b0_w3 b1_w3 b2_w3 b3_w3 b4_w3 b5_w3 b6_w3 r0_w3 r1_w3 r2_w3 r3_w3 r4_w3 r5_w3 r6_w3 o0_w3 o1_w3 o2_w3 o3_w3 o4_w3 o5_w3 o6_w3 fr_w3 fo_w3 z_w3 zr_w3 zo_w3
  obtain ⟨w5, hW⟩ : ∃ W : World, W = (w4.setCell ⟨w.heap.size + 1 + 1, 4, none⟩ (.slice (some ⟨k1, 0, none⟩) k.n1 k.n1)) := ⟨_, rfl⟩
  have HF : Fr (w.heap.size + 1) (w.heap.size + 1 + 1 + 1) w4 w5 := by rw [hW]; exact (Fr.refl _ _ _).setCell (p := ⟨w.heap.size + 1 + 1, 4, none⟩) (by show w.heap.size + 1 ≤ w.heap.size + 1 + 1; omega) (by show w.heap.size + 1 + 1 < _; omega) (.slice (some ⟨k1, 0, none⟩) k.n1 k.n1)
  have zz := HF.size
  have b0_w5 := upFr HF b0_w4 z_w4 (by omega)
  have b1_w5 := upFr HF b1_w4 z_w4 (by omega)
  have b2_w5 := upFr HF b2_w4 z_w4 (by omega)
  have b3_w5 := upFr HF b3_w4 z_w4 (by omega)
  have b4_w5 := upFr HF b4_w4 z_w4 (by omega)
  have b5_w5 := upFr HF b5_w4 z_w4 (by omega)
  have b6_w5 := upFr HF b6_w4 z_w4 (by omega)
  have r0_w5 : w5.cell? ⟨w.heap.size + 1, 0, none⟩ = some (.int .i64 0) := by rw [hW]; simp [go_sem, r0_w4]
  have r1_w5 : w5.cell? ⟨w.heap.size + 1, 1, none⟩ = some (.int .i64 0) := by rw [hW]; simp [go_sem, r1_w4]
  have r2_w5 : w5.cell? ⟨w.heap.size + 1, 2, none⟩ = some (.slice none 0 0) := by rw [hW]; simp [go_sem, r2_w4]
  have r3_w5 : w5.cell? ⟨w.heap.size + 1, 3, none⟩ = some (.string ⟨#[]⟩) := by rw [hW]; simp [go_sem, r3_w4]
  have r4_w5 : w5.cell? ⟨w.heap.size + 1, 4, none⟩ = some (.slice none 0 0) := by rw [hW]; simp [go_sem, r4_w4]
  have r5_w5 : w5.cell? ⟨w.heap.size + 1, 5, none⟩ = some (.slice none 0 0) := by rw [hW]; simp [go_sem, r5_w4]
  have r6_w5 : w5.cell? ⟨w.heap.size + 1, 6, none⟩ = some (.slice none 0 0) := by rw [hW]; simp [go_sem, r6_w4]
  have o0_w5 : w5.cell? ⟨w.heap.size + 1 + 1, 0, none⟩ = some (.int .i64 k.K) := by rw [hW]; simp [go_sem, o0_w4]
  have o1_w5 : w5.cell? ⟨w.heap.size + 1 + 1, 1, none⟩ = some (.int .i64 k.s) := by rw [hW]; simp [go_sem, o1_w4]
  have o2_w5 : w5.cell? ⟨w.heap.size + 1 + 1, 2, none⟩ = some (.slice (some ⟨k0, 0, none⟩) k.n0 k.n0) := by rw [hW]; simp [go_sem, o2_w4]
  have o3_w5 : w5.cell? ⟨w.heap.size + 1 + 1, 3, none⟩ = some (.string k.t) := by rw [hW]; simp [go_sem, o3_w4]
  have o4_w5 : w5.cell? ⟨w.heap.size + 1 + 1, 4, none⟩ = some (.slice (some ⟨k1, 0, none⟩) k.n1 k.n1) := by rw [hW]; simp [go_sem, o4_w4]
  have o5_w5 : w5.cell? ⟨w.heap.size + 1 + 1, 5, none⟩ = some (.slice none 0 0) := by rw [hW]; simp [go_sem, o5_w4]
  have o6_w5 : w5.cell? ⟨w.heap.size + 1 + 1, 6, none⟩ = some (.slice none 0 0) := by rw [hW]; simp [go_sem, o6_w4]
  have fr_w5 : ∀ o, w5.frozen? ⟨w.heap.size + 1, o, none⟩ = false := by intro o; rw [hW]; simpa [go_sem] using fr_w4 o
  have fo_w5 : ∀ o, w5.frozen? ⟨w.heap.size + 1 + 1, o, none⟩ = false := by intro o; rw [hW]; simpa [go_sem] using fo_w4 o
  have z_w5 := Nat.lt_of_lt_of_le z_w4 zz
  have zr_w5 := Nat.lt_of_lt_of_le zr_w4 zz
  have zo_w5 := Nat.lt_of_lt_of_le zo_w4 zz
  replace O0 := Lib.hid (O0.out.keep HF (.inr (by have := SZ.out; omega)))
  replace O1 := Lib.hid (O1.out.keep HF (.inr (by have := SZ.out; omega)))
  replace HB := Lib.hid (HB.out.trans (HF.below (by omega) HB.out.size))
  replace SZ := Lib.hid (And.intro SZ.out zz)
  have HW := Lib.hid hW
  clear hW zz HF
  go_wp2_with fail
  rw [← HW.out]
  clear HW b0_w4 b1_w4 b2_w4 b3_w4 b4_w4 b5_w4 b6_w4 r0_w4 r1_w4 r2_w4 r3_w4 r4_w4 r5_w4 r6_w4 o0_w4 o1_w4 o2_w4 o3_w4 o4_w4 o5_w4 o6_w4 fr_w4 fo_w4 z_w4 zr_w4 zo_w4
  refine (toIntS_any k.A2 k.n2 k.c2 k.x2 w5 _ (HR.out.2.2.1.keep (HB.out.mono hB) (Nat.le_refl _)) (Nat.le_trans hB HB.out.size) hs2).mono ?_
  rintro e w6 ⟨k2, hk2, rfl, ho, hb⟩
  have O2 := Lib.hid ho
  clear ho
  have zz := hb.size
  have b0_w6 := up hb b0_w5 z_w5
  have b1_w6 := up hb b1_w5 z_w5
  have b2_w6 := up hb b2_w5 z_w5
  have b3_w6 := up hb b3_w5 z_w5
  have b4_w6 := up hb b4_w5 z_w5
  have b5_w6 := up hb b5_w5 z_w5
  have b6_w6 := up hb b6_w5 z_w5
  have r0_w6 := up hb r0_w5 zr_w5
  have r1_w6 := up hb r1_w5 zr_w5
  have r2_w6 := up hb r2_w5 zr_w5
  have r3_w6 := up hb r3_w5 zr_w5
  have r4_w6 := up hb r4_w5 zr_w5
  have r5_w6 := up hb r5_w5 zr_w5
  have r6_w6 := up hb r6_w5 zr_w5
  have o0_w6 := up hb o0_w5 zo_w5
  have o1_w6 := up hb o1_w5 zo_w5
  have o2_w6 := up hb o2_w5 zo_w5
  have o3_w6 := up hb o3_w5 zo_w5
  have o4_w6 := up hb o4_w5 zo_w5
  have o5_w6 := up hb o5_w5 zo_w5
  have o6_w6 := up hb o6_w5 zo_w5
  have fr_w6 : ∀ o, w6.frozen? ⟨w.heap.size + 1, o, none⟩ = false := fun o => (hb.frozen (p := ⟨w.heap.size + 1, o, none⟩) (by show w.heap.size + 1 < _; omega)).trans (fr_w5 o)
  have fo_w6 : ∀ o, w6.frozen? ⟨w.heap.size + 1 + 1, o, none⟩ = false := fun o => (hb.frozen (p := ⟨w.heap.size + 1 + 1, o, none⟩) (by show w.heap.size + 1 + 1 < _; omega)).trans (fo_w5 o)
  have z_w6 := Nat.lt_of_lt_of_le z_w5 zz
  have zr_w6 := Nat.lt_of_lt_of_le zr_w5 zz
  have zo_w6 := Nat.lt_of_lt_of_le zo_w5 zz
  replace O0 := Lib.hid (O0.out.keepB hb (by have := SZ.out; omega))
  replace O1 := Lib.hid (O1.out.keepB hb (by have := SZ.out; omega))
  replace HB := Lib.hid (HB.out.trans (hb.mono HB.out.size))
  replace SZ := Lib.hid (And.intro SZ.out zz)
  clear zz hb b0_w5 b1_w5 b2_w5 b3_w5 b4_w5 b5_w5 b6_w5 r0_w5 r1_w5 r2_w5 r3_w5 r4_w5 r5_w5 r6_w5 o0_w5 o1_w5 o2_w5 o3_w5 o4_w5 o5_w5 o6_w5 fr_w5 fo_w5 z_w5 zr_w5 zo_w5
  obtain ⟨w7, hW⟩ : ∃ W : World, W = (w6.setCell ⟨w.heap.size + 1 + 1, 5, none⟩ (.slice (some ⟨k2, 0, none⟩) k.n2 k.n2)) := ⟨_, rfl⟩
  have HF : Fr (w.heap.size + 1) (w.heap.size + 1 + 1 + 1) w6 w7 := by rw [hW]; exact (Fr.refl _ _ _).setCell (p := ⟨w.heap.size + 1 + 1, 5, none⟩) (by show w.heap.size + 1 ≤ w.heap.size + 1 + 1; omega) (by show w.heap.size + 1 + 1 < _; omega) (.slice (some ⟨k2, 0, none⟩) k.n2 k.n2)
  have zz := HF.size
  have b0_w7 := upFr HF b0_w6 z_w6 (by omega)
  have b1_w7 := upFr HF b1_w6 z_w6 (by omega)
  have b2_w7 := upFr HF b2_w6 z_w6 (by omega)
  have b3_w7 := upFr HF b3_w6 z_w6 (by omega)
  have b4_w7 := upFr HF b4_w6 z_w6 (by omega)
  have b5_w7 := upFr HF b5_w6 z_w6 (by omega)
  have b6_w7 := upFr HF b6_w6 z_w6 (by omega)
  have r0_w7 : w7.cell? ⟨w.heap.size + 1, 0, none⟩ = some (.int .i64 0) := by rw [hW]; simp [go_sem, r0_w6]
  have r1_w7 : w7.cell? ⟨w.heap.size + 1, 1, none⟩ = some (.int .i64 0) := by rw [hW]; simp [go_sem, r1_w6]
  have r2_w7 : w7.cell? ⟨w.heap.size + 1, 2, none⟩ = some (.slice none 0 0) := by rw [hW]; simp [go_sem, r2_w6]
  have r3_w7 : w7.cell? ⟨w.heap.size + 1, 3, none⟩ = some (.string ⟨#[]⟩) := by rw [hW]; simp [go_sem, r3_w6]
  have r4_w7 : w7.cell? ⟨w.heap.size + 1, 4, none⟩ = some (.slice none 0 0) := by rw [hW]; simp [go_sem, r4_w6]
  have r5_w7 : w7.cell? ⟨w.heap.size + 1, 5, none⟩ = some (.slice none 0 0) := by rw [hW]; simp [go_sem, r5_w6]
  have r6_w7 : w7.cell? ⟨w.heap.size + 1, 6, none⟩ = some (.slice none 0 0) := by rw [hW]; simp [go_sem, r6_w6]
  have o0_w7 : w7.cell? ⟨w.heap.size + 1 + 1, 0, none⟩ = some (.int .i64 k.K) := by rw [hW]; simp [go_sem, o0_w6]
  have o1_w7 : w7.cell? ⟨w.heap.size + 1 + 1, 1, none⟩ = some (.int .i64 k.s) := by rw [hW]; simp [go_sem, o1_w6]
  have o2_w7 : w7.cell? ⟨w.heap.size + 1 + 1, 2, none⟩ = some (.slice (some ⟨k0, 0, none⟩) k.n0 k.n0) := by rw [hW]; simp [go_sem, o2_w6]
  have o3_w7 : w7.cell? ⟨w.heap.size + 1 + 1, 3, none⟩ = some (.string k.t) := by rw [hW]; simp [go_sem, o3_w6]
  have o4_w7 : w7.cell? ⟨w.heap.size + 1 + 1, 4, none⟩ = some (.slice (some ⟨k1, 0, none⟩) k.n1 k.n1) := by rw [hW]; simp [go_sem, o4_w6]
  have o5_w7 : w7.cell? ⟨w.heap.size + 1 + 1, 5, none⟩ = some (.slice (some ⟨k2, 0, none⟩) k.n2 k.n2) := by rw [hW]; simp [go_sem, o5_w6]
  have o6_w7 : w7.cell? ⟨w.heap.size + 1 + 1, 6, none⟩ = some (.slice none 0 0) := by rw [hW]; simp [go_sem, o6_w6]
  have fr_w7 : ∀ o, w7.frozen? ⟨w.heap.size + 1, o, none⟩ = false := by intro o; rw [hW]; simpa [go_sem] using fr_w6 o
  have fo_w7 : ∀ o, w7.frozen? ⟨w.heap.size + 1 + 1, o, none⟩ = false := by intro o; rw [hW]; simpa [go_sem] using fo_w6 o
  have z_w7 := Nat.lt_of_lt_of_le z_w6 zz
  have zr_w7 := Nat.lt_of_lt_of_le zr_w6 zz
  have zo_w7 := Nat.lt_of_lt_of_le zo_w6 zz
  replace O0 := Lib.hid (O0.out.keep HF (.inr (by have := SZ.out; omega)))
  replace O1 := Lib.hid (O1.out.keep HF (.inr (by have := SZ.out; omega)))
  replace O2 := Lib.hid (O2.out.keep HF (.inr (by have := SZ.out; omega)))
  replace HB := Lib.hid (HB.out.trans (HF.below (by omega) HB.out.size))
  replace SZ := Lib.hid (And.intro SZ.out zz)
  have HW := Lib.hid hW
  clear hW zz HF
  go_wp2_with fail
  rw [← HW.out]
  clear HW b0_w6 b1_w6 b2_w6 b3_w6 b4_w6 b5_w6 b6_w6 r0_w6 r1_w6 r2_w6 r3_w6 r4_w6 r5_w6 r6_w6 o0_w6 o1_w6 o2_w6 o3_w6 o4_w6 o5_w6 o6_w6 fr_w6 fo_w6 z_w6 zr_w6 zo_w6
  refine (toIntSS_any k.A3 k.c3 k.D w7 _ (HR.out.2.2.2.keep (HB.out.mono hB) (Nat.le_refl _)) (Nat.le_trans hB HB.out.size) hs3 hs4).mono ?_
  rintro e w8 ⟨k3, E, hk3, rfl, hl, ho, hb⟩
  have O3 := Lib.hid ho
  have HL := Lib.hid hl
  clear ho hl
  have zz := hb.size
  have b0_w8 := up hb b0_w7 z_w7
  have b1_w8 := up hb b1_w7 z_w7
  have b2_w8 := up hb b2_w7 z_w7
  have b3_w8 := up hb b3_w7 z_w7
  have b4_w8 := up hb b4_w7 z_w7
  have b5_w8 := up hb b5_w7 z_w7
  have b6_w8 := up hb b6_w7 z_w7
  have r0_w8 := up hb r0_w7 zr_w7
  have r1_w8 := up hb r1_w7 zr_w7
  have r2_w8 := up hb r2_w7 zr_w7
  have r3_w8 := up hb r3_w7 zr_w7
  have r4_w8 := up hb r4_w7 zr_w7
  have r5_w8 := up hb r5_w7 zr_w7
  have r6_w8 := up hb r6_w7 zr_w7
  have o0_w8 := up hb o0_w7 zo_w7
  have o1_w8 := up hb o1_w7 zo_w7
  have o2_w8 := up hb o2_w7 zo_w7
  have o3_w8 := up hb o3_w7 zo_w7
  have o4_w8 := up hb o4_w7 zo_w7
  have o5_w8 := up hb o5_w7 zo_w7
  have o6_w8 := up hb o6_w7 zo_w7
  have fr_w8 : ∀ o, w8.frozen? ⟨w.heap.size + 1, o, none⟩ = false := fun o => (hb.frozen (p := ⟨w.heap.size + 1, o, none⟩) (by show w.heap.size + 1 < _; omega)).trans (fr_w7 o)
  have fo_w8 : ∀ o, w8.frozen? ⟨w.heap.size + 1 + 1, o, none⟩ = false := fun o => (hb.frozen (p := ⟨w.heap.size + 1 + 1, o, none⟩) (by show w.heap.size + 1 + 1 < _; omega)).trans (fo_w7 o)
  have z_w8 := Nat.lt_of_lt_of_le z_w7 zz
  have zr_w8 := Nat.lt_of_lt_of_le zr_w7 zz
  have zo_w8 := Nat.lt_of_lt_of_le zo_w7 zz
  replace O0 := Lib.hid (O0.out.keepB hb (by have := SZ.out; omega))
  replace O1 := Lib.hid (O1.out.keepB hb (by have := SZ.out; omega))
  replace O2 := Lib.hid (O2.out.keepB hb (by have := SZ.out; omega))
  replace HB := Lib.hid (HB.out.trans (hb.mono HB.out.size))
  replace SZ := Lib.hid (And.intro SZ.out zz)
  clear zz hb b0_w7 b1_w7 b2_w7 b3_w7 b4_w7 b5_w7 b6_w7 r0_w7 r1_w7 r2_w7 r3_w7 r4_w7 r5_w7 r6_w7 o0_w7 o1_w7 o2_w7 o3_w7 o4_w7 o5_w7 o6_w7 fr_w7 fo_w7 z_w7 zr_w7 zo_w7
  have HK := Lib.hid (And.intro hk0 (And.intro hk1 (And.intro hk2 hk3)))
  clear hk0 hk1 hk2 hk3
  go_wp2
  have HF : Fr (w.heap.size + 1) (w.heap.size + 1 + 1 + 1) w8 _ := ((((((((Fr.refl _ _ w8).setCell (p := ⟨w.heap.size + 1 + 1, 6, none⟩) (by show w.heap.size + 1 ≤ w.heap.size + 1 + 1; omega) (by show w.heap.size + 1 + 1 < _; omega) (.slice (some ⟨k3, 0, none⟩) E.length E.length)).setCell (p := ⟨w.heap.size + 1, 0, none⟩) (by show w.heap.size + 1 ≤ w.heap.size + 1; omega) (by show w.heap.size + 1 < _; omega) (.int .i64 k.K)).setCell (p := ⟨w.heap.size + 1, 1, none⟩) (by show w.heap.size + 1 ≤ w.heap.size + 1; omega) (by show w.heap.size + 1 < _; omega) (.int .i64 k.s)).setCell (p := ⟨w.heap.size + 1, 2, none⟩) (by show w.heap.size + 1 ≤ w.heap.size + 1; omega) (by show w.heap.size + 1 < _; omega) (.slice (some ⟨k0, 0, none⟩) k.n0 k.n0)).setCell (p := ⟨w.heap.size + 1, 3, none⟩) (by show w.heap.size + 1 ≤ w.heap.size + 1; omega) (by show w.heap.size + 1 < _; omega) (.string k.t)).setCell (p := ⟨w.heap.size + 1, 4, none⟩) (by show w.heap.size + 1 ≤ w.heap.size + 1; omega) (by show w.heap.size + 1 < _; omega) (.slice (some ⟨k1, 0, none⟩) k.n1 k.n1)).setCell (p := ⟨w.heap.size + 1, 5, none⟩) (by show w.heap.size + 1 ≤ w.heap.size + 1; omega) (by show w.heap.size + 1 < _; omega) (.slice (some ⟨k2, 0, none⟩) k.n2 k.n2)).setCell (p := ⟨w.heap.size + 1, 6, none⟩) (by show w.heap.size + 1 ≤ w.heap.size + 1; omega) (by show w.heap.size + 1 < _; omega) (.slice (some ⟨k3, 0, none⟩) E.length E.length)
  have P0 := (O0.out.keep HF (.inr (by have := SZ.out; have := HK.out; omega))).mono (lo' := w.heap.size) (hi' := w8.heap.size) (by have := SZ.out; omega) (by have := SZ.out; omega)
  have P1 := (O1.out.keep HF (.inr (by have := SZ.out; have := HK.out; omega))).mono (lo' := w.heap.size) (hi' := w8.heap.size) (by have := SZ.out; omega) (by have := SZ.out; omega)
  have P2 := (O2.out.keep HF (.inr (by have := SZ.out; have := HK.out; omega))).mono (lo' := w.heap.size) (hi' := w8.heap.size) (by have := SZ.out; omega) (by have := SZ.out; omega)
  have P3 := (O3.out.keep HF (.inr (by have := SZ.out; omega))).mono (lo' := w.heap.size) (hi' := w8.heap.size) (by have := SZ.out; omega) (by have := SZ.out; omega)
  exact bodyPost_ret (v := .agg #[.int .i64 k.K, .int .i64 k.s, .slice (some ⟨k0, 0, none⟩) k.n0 k.n0, .string k.t, .slice (some ⟨k1, 0, none⟩) k.n1 k.n1, .slice (some ⟨k2, 0, none⟩) k.n2 k.n2, .slice (some ⟨k3, 0, none⟩) E.length E.length]) (by simp [results, Tryd.results13, go_sem, r0_w8, r1_w8, r2_w8, r3_w8, r4_w8, r5_w8, r6_w8]) rfl ⟨⟨k.K, k.s, some ⟨k0, 0, none⟩, k.n0, k.n0, k.x0, k.t, some ⟨k1, 0, none⟩, k.n1, k.n1, k.x1, some ⟨k2, 0, none⟩, k.n2, k.n2, k.x2, some ⟨k3, 0, none⟩, E.length, E⟩, rfl, ⟨rfl, rfl, rfl, rfl, rfl, rfl, rfl, rfl, rfl, HL.out.symm⟩, OwnK.mono (lo := w.heap.size) (hi := w8.heap.size) ⟨P0, P1, P2, P3⟩ (Nat.le_refl _) HF.size, HB.out.trans (HF.below (by omega) HB.out.size)⟩

set_option maxRecDepth 100000 in
set_option maxHeartbeats 1000000 in
theorem eqClaim_yes (k j : Clm) (w : World) (B1 B2 : Nat) (h1 : RdK w B1 k) (h2 : RdK w B2 j) (hB1 : B1 ≤ w.heap.size) (hB2 : B2 ≤ w.heap.size) (hj : SameK k j) (hs : SmK k) :
    Calls Tryd.prog 15 #[.agg #[.int .i64 k.K, .int .i64 k.s, .slice k.A0 k.n0 k.c0, .string k.t, .slice k.A1 k.n1 k.c1, .slice k.A2 k.n2 k.c2, .slice k.A3 k.D.length k.c3], .agg #[.int .i64 j.K, .int .i64 j.s, .slice j.A0 j.n0 j.c0, .string j.t, .slice j.A1 j.n1 j.c1, .slice j.A2 j.n2 j.c2, .slice j.A3 j.D.length j.c3]] w fun e w' => e = .returned (.bool true) ∧ Below w.heap.size w w' := by
  obtain ⟨hs0, hst, hs1, hs2, hs3, hs4⟩ := hs
  obtain ⟨K, s, A0, n0, c0, x0, t, A1, n1, c1, x1, A2, n2, c2, x2, A3, c3, D⟩ := k
  obtain ⟨K', s', C0, m0, d0, y0, t', C1, m1, d1, y1, C2, m2, d2, y2, C3, d3, E⟩ := j
  obtain ⟨e1, e2, e3, e4, e5, e6, e7, e8, e9, e10⟩ := hj
  simp only at e1 e2 e3 e4 e5 e6 e7 e8 e9 e10 hs0 hst hs1 hs2 hs3 hs4 h1 h2 ⊢
  subst e1 e2 e3 e4 e5 e6 e7 e8 e9
  have H1 := Lib.hid h1
  have H2 := Lib.hid h2
  have HL := Lib.hid e10
  clear h1 h2 e10
  obtain ⟨w0, hW⟩ : ∃ W : World, W = (w.alloc (Obj.cells #[.int .i64 K, .int .i64 s, .slice A0 n0 c0, .string t, .slice A1 n1 c1, .slice A2 n2 c2, .slice A3 D.length c3] 39)).alloc (Obj.cells #[.int .i64 K, .int .i64 s, .slice C0 n0 d0, .string t, .slice C1 n1 d1, .slice C2 n2 d2, .slice C3 E.length d3] 39) := ⟨_, rfl⟩
  have HB : Hid (Below w.heap.size w w0) := by rw [hW]; exact ((Below.refl _ _).alloc (Nat.le_refl _) _).alloc (by simp) _
  have hz0 : w0.heap.size = w.heap.size + 2 := by rw [hW]; simp
  have a0_w0 : w0.cell? ⟨w.heap.size, 0, none⟩ = some (.int .i64 K) := by rw [hW]; simp [go_sem]
  have a1_w0 : w0.cell? ⟨w.heap.size, 1, none⟩ = some (.int .i64 s) := by rw [hW]; simp [go_sem]
  have a2_w0 : w0.cell? ⟨w.heap.size, 2, none⟩ = some (.slice A0 n0 c0) := by rw [hW]; simp [go_sem]
  have a3_w0 : w0.cell? ⟨w.heap.size, 3, none⟩ = some (.string t) := by rw [hW]; simp [go_sem]
  have a4_w0 : w0.cell? ⟨w.heap.size, 4, none⟩ = some (.slice A1 n1 c1) := by rw [hW]; simp [go_sem]
  have a5_w0 : w0.cell? ⟨w.heap.size, 5, none⟩ = some (.slice A2 n2 c2) := by rw [hW]; simp [go_sem]
  have a6_w0 : w0.cell? ⟨w.heap.size, 6, none⟩ = some (.slice A3 D.length c3) := by rw [hW]; simp [go_sem]
  have b0_w0 : w0.cell? ⟨w.heap.size + 1, 0, none⟩ = some (.int .i64 K) := by rw [hW]; simp [go_sem]
  have b1_w0 : w0.cell? ⟨w.heap.size + 1, 1, none⟩ = some (.int .i64 s) := by rw [hW]; simp [go_sem]
  have b2_w0 : w0.cell? ⟨w.heap.size + 1, 2, none⟩ = some (.slice C0 n0 d0) := by rw [hW]; simp [go_sem]
  have b3_w0 : w0.cell? ⟨w.heap.size + 1, 3, none⟩ = some (.string t) := by rw [hW]; simp [go_sem]
  have b4_w0 : w0.cell? ⟨w.heap.size + 1, 4, none⟩ = some (.slice C1 n1 d1) := by rw [hW]; simp [go_sem]
  have b5_w0 : w0.cell? ⟨w.heap.size + 1, 5, none⟩ = some (.slice C2 n2 d2) := by rw [hW]; simp [go_sem]
  have b6_w0 : w0.cell? ⟨w.heap.size + 1, 6, none⟩ = some (.slice C3 E.length d3) := by rw [hW]; simp [go_sem]
  have za_w0 : w.heap.size < w0.heap.size := by omega
  have zb_w0 : w.heap.size + 1 < w0.heap.size := by omega
  have SZ : Hid (w.heap.size + 2 ≤ w0.heap.size) := by show _ ≤ _; omega
  have HW := Lib.hid hW
  clear hW hz0
  go_enter Tryd.func15, Tryd.ntmps15
  go_wp2_with fail
  rw [← HW.out]
  clear HW
  refine (eqGraph_yes s A0 C0 n0 c0 d0 x0 w0 w.heap.size w.heap.size ((H1.out.1.keep (HB.out.mono hB1) hB1)) ((H2.out.1.keep (HB.out.mono hB2) hB2)) HB.out.size HB.out.size hs0).mono ?_
  rintro e w1 ⟨rfl, hb⟩
  have zz := hb.size
  have a0_w1 := up hb a0_w0 za_w0
  have a1_w1 := up hb a1_w0 za_w0
  have a2_w1 := up hb a2_w0 za_w0
  have a3_w1 := up hb a3_w0 za_w0
  have a4_w1 := up hb a4_w0 za_w0
  have a5_w1 := up hb a5_w0 za_w0
  have a6_w1 := up hb a6_w0 za_w0
  have b0_w1 := up hb b0_w0 zb_w0
  have b1_w1 := up hb b1_w0 zb_w0
  have b2_w1 := up hb b2_w0 zb_w0
  have b3_w1 := up hb b3_w0 zb_w0
  have b4_w1 := up hb b4_w0 zb_w0
  have b5_w1 := up hb b5_w0 zb_w0
  have b6_w1 := up hb b6_w0 zb_w0
  have za_w1 := Nat.lt_of_lt_of_le za_w0 zz
  have zb_w1 := Nat.lt_of_lt_of_le zb_w0 zz
  replace HB := Lib.hid (HB.out.trans (hb.mono HB.out.size))
  replace SZ := Lib.hid (And.intro SZ.out zz)
  clear zz hb a0_w0 a1_w0 a2_w0 a3_w0 a4_w0 a5_w0 a6_w0 b0_w0 b1_w0 b2_w0 b3_w0 b4_w0 b5_w0 b6_w0 za_w0 zb_w0
  go_wp2_with fail
  refine (eqIntS_yes A1 C1 n1 c1 d1 x1 w1 w.heap.size w.heap.size ((H1.out.2.1.keep (HB.out.mono hB1) hB1)) ((H2.out.2.1.keep (HB.out.mono hB2) hB2)) HB.out.size HB.out.size (by omega)).mono ?_
  rintro e w2 ⟨rfl, hb⟩
  have zz := hb.size
  have a0_w2 := up hb a0_w1 za_w1
  have a1_w2 := up hb a1_w1 za_w1
  have a2_w2 := up hb a2_w1 za_w1
  have a3_w2 := up hb a3_w1 za_w1
  have a4_w2 := up hb a4_w1 za_w1
  have a5_w2 := up hb a5_w1 za_w1
  have a6_w2 := up hb a6_w1 za_w1
  have b0_w2 := up hb b0_w1 zb_w1
  have b1_w2 := up hb b1_w1 zb_w1
  have b2_w2 := up hb b2_w1 zb_w1
  have b3_w2 := up hb b3_w1 zb_w1
  have b4_w2 := up hb b4_w1 zb_w1
  have b5_w2 := up hb b5_w1 zb_w1
  have b6_w2 := up hb b6_w1 zb_w1
  have za_w2 := Nat.lt_of_lt_of_le za_w1 zz
  have zb_w2 := Nat.lt_of_lt_of_le zb_w1 zz
  replace HB := Lib.hid (HB.out.trans (hb.mono HB.out.size))
  replace SZ := Lib.hid (And.intro SZ.out zz)
  clear zz hb a0_w1 a1_w1 a2_w1 a3_w1 a4_w1 a5_w1 a6_w1 b0_w1 b1_w1 b2_w1 b3_w1 b4_w1 b5_w1 b6_w1 za_w1 zb_w1
  go_wp2_with fail
  refine (eqIntS_yes A2 C2 n2 c2 d2 x2 w2 w.heap.size w.heap.size ((H1.out.2.2.1.keep (HB.out.mono hB1) hB1)) ((H2.out.2.2.1.keep (HB.out.mono hB2) hB2)) HB.out.size HB.out.size (by omega)).mono ?_
  rintro e w3 ⟨rfl, hb⟩
  have zz := hb.size
  have a0_w3 := up hb a0_w2 za_w2
  have a1_w3 := up hb a1_w2 za_w2
  have a2_w3 := up hb a2_w2 za_w2
  have a3_w3 := up hb a3_w2 za_w2
  have a4_w3 := up hb a4_w2 za_w2
  have a5_w3 := up hb a5_w2 za_w2
  have a6_w3 := up hb a6_w2 za_w2
  have b0_w3 := up hb b0_w2 zb_w2
  have b1_w3 := up hb b1_w2 zb_w2
  have b2_w3 := up hb b2_w2 zb_w2
  have b3_w3 := up hb b3_w2 zb_w2
  have b4_w3 := up hb b4_w2 zb_w2
  have b5_w3 := up hb b5_w2 zb_w2
  have b6_w3 := up hb b6_w2 zb_w2
  have za_w3 := Nat.lt_of_lt_of_le za_w2 zz
  have zb_w3 := Nat.lt_of_lt_of_le zb_w2 zz
  replace HB := Lib.hid (HB.out.trans (hb.mono HB.out.size))
  replace SZ := Lib.hid (And.intro SZ.out zz)
  clear zz hb a0_w2 a1_w2 a2_w2 a3_w2 a4_w2 a5_w2 a6_w2 b0_w2 b1_w2 b2_w2 b3_w2 b4_w2 b5_w2 b6_w2 za_w2 zb_w2
  go_wp2_with fail
  refine (eqIntSS_yes A3 C3 c3 d3 D E w3 w.heap.size w.heap.size ((H1.out.2.2.2.keep (HB.out.mono hB1) hB1)) ((H2.out.2.2.2.keep (HB.out.mono hB2) hB2)) HB.out.size HB.out.size HL.out (by omega) (by omega)).mono ?_
  rintro e w4 ⟨rfl, hb⟩
  have zz := hb.size
  have a0_w4 := up hb a0_w3 za_w3
  have a1_w4 := up hb a1_w3 za_w3
  have a2_w4 := up hb a2_w3 za_w3
  have a3_w4 := up hb a3_w3 za_w3
  have a4_w4 := up hb a4_w3 za_w3
  have a5_w4 := up hb a5_w3 za_w3
  have a6_w4 := up hb a6_w3 za_w3
  have b0_w4 := up hb b0_w3 zb_w3
  have b1_w4 := up hb b1_w3 zb_w3
  have b2_w4 := up hb b2_w3 zb_w3
  have b3_w4 := up hb b3_w3 zb_w3
  have b4_w4 := up hb b4_w3 zb_w3
  have b5_w4 := up hb b5_w3 zb_w3
  have b6_w4 := up hb b6_w3 zb_w3
  have za_w4 := Nat.lt_of_lt_of_le za_w3 zz
  have zb_w4 := Nat.lt_of_lt_of_le zb_w3 zz
  replace HB := Lib.hid (HB.out.trans (hb.mono HB.out.size))
  replace SZ := Lib.hid (And.intro SZ.out zz)
  clear zz hb a0_w3 a1_w3 a2_w3 a3_w3 a4_w3 a5_w3 a6_w3 b0_w3 b1_w3 b2_w3 b3_w3 b4_w3 b5_w3 b6_w3 za_w3 zb_w3
  go_wp2
  go_ret
  exact ⟨rfl, HB.out⟩
end Go.Proofs.YtncjfgebolikoaaDoor
