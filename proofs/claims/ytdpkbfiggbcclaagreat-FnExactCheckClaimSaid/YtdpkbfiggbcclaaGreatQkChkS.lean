/-
-/
import Derived.Test.YtdpkbfiggbcclaaGreatQkDifI
import Derived.Test.YtdpkbfiggbcclaaGreatQkModS
import Derived.Test.YtdpkbfiggbcclaaGreatQkMdfS
import Derived.Test.YtdpkbfiggbcclaaGreatQkObForS
import Derived.Test.YtdpkbfiggbcclaaGreatQkMinFillS
import Derived.Test.YtdpkbfiggbcclaaGreatQkIclS
import Derived.Test.YtdpkbfiggbcclaaGreatQkIcvS
import Derived.Test.YtdpkbfiggbcclaaGreatQkTake
namespace Go.Proofs.YtdpkbfiggbcclaaGreat
open Go.RowKit
set_option maxRecDepth 100000 in
set_option maxHeartbeats 12800000 in
theorem CheckClaim_s (K sz : Int) (A : Option Addr) (m c : Nat) (x : Nat → Int) (str : ByteArray) (A1 : Option Addr) (n1 c1 : Nat) (l1 : List Int) (A2 : Option Addr) (n2 c2 : Nat) (l2 : List Int) (A3 : Option Addr) (c3 : Nat) (D : List Dsc) (L : List (List Int)) (w : World)
 (h : GA w A m c x) (h1 : LI w A1 n1 c1 l1) (h2 : LI w A2 n2 c2 l2) (h3 : EDG w A3 c3 D) (hm : m ≤ 1048576) (hn1 : n1 ≤ 1048576) (hn2 : n2 ≤ 1048576) (hd : D.length ≤ 1048576) (ht : tot D ≤ 1048576) (hL : lists D = L) :
 Calls Tryz.prog 35 #[.agg #[.int .i64 K, .int .i64 sz, .slice A m c, .string str, .slice A1 n1 c1, .slice A2 n2 c2, .slice A3 D.length c3]] w fun e w' => e = .returned (.bool (ckcB K sz m x str.toList l1 l2 L)) ∧ Below w.heap.size w w' := by
 obtain ⟨W, hW⟩ : ∃ W : World, W = (w.alloc (Obj.cells #[.int .i64 K, .int .i64 sz, .slice A m c, .string str, .slice A1 n1 c1, .slice A2 n2 c2, .slice A3 D.length c3] 54)) := ⟨_, rfl⟩
 have HB : Hid (From w W) := by rw [hW]; exact From.alloc _ _
 have HQ : Hid (KR W w.heap.size K sz A m c str A1 n1 c1 A2 n2 c2 A3 D.length c3) := by rw [hW]; constructor <;> simp [go_sem]
 have HG := Lib.hid (h.keep HB.out.below)
 have H1 := Lib.hid (h1.keep HB.out.below)
 have H2 := Lib.hid (h2.keep HB.out.below)
 have HE := Lib.hid (h3.keep HB.out.below)
 have HW := Lib.hid hW
 have HF : Hid (From W W) := From.refl W
 have HL := Lib.hid hL
 have HN1 := Lib.hid h1.len
 have HN2 := Lib.hid h2.len
 have HO2 := Lib.hid h2
 clear hW h h1 h2 h3 hL
 by_cases hk1 : K = 1
 ·subst hk1
  have Hv : Hid (ckcB 1 sz m x str.toList l1 l2 L = mfB sz m x str.toList l1 l2) := by show _ = _; unfold ckcB; rw [if_pos rfl]
  go_enter Tryz.func35, Tryz.ntmps35
  have q0 := HQ.out.c0
  have q1 := HQ.out.c1_
  have q2 := HQ.out.c2_
  have q3 := HQ.out.c3_
  have q4 := HQ.out.c4_
  have q5 := HQ.out.c5_
  have q6 := HQ.out.c6_
  go_wp2_with fail
  rw [← HW.out]
  clear HW
  refine (IsModelFor_s sz A m c x str A1 n1 c1 l1 A2 n2 c2 l2 W HG.out H1.out H2.out hm hn1 hn2).mono ?_
  rintro e w1 ⟨rfl, hb1⟩
  clear q0 q1 q2 q3 q4 q5 q6
  replace HB := Lib.hid (HB.out.keep hb1)
  replace HF := Lib.hid (HF.out.keep hb1)
  replace HQ := Lib.hid (HQ.out.keep hb1)
  replace HG := Lib.hid (HG.out.keep hb1)
  replace H1 := Lib.hid (H1.out.keep hb1)
  replace H2 := Lib.hid (H2.out.keep hb1)
  replace HE := Lib.hid (HE.out.keep hb1)
  clear hb1
  have q0 := HQ.out.c0
  have q1 := HQ.out.c1_
  have q2 := HQ.out.c2_
  have q3 := HQ.out.c3_
  have q4 := HQ.out.c4_
  have q5 := HQ.out.c5_
  have q6 := HQ.out.c6_
  go_wp2
  go_ret
  exact ⟨ret_bool Hv.out.symm, HB.out.below⟩
 by_cases hk2 : K = 2
 ·subst hk2
  have Hv : Hid (ckcB 2 sz m x str.toList l1 l2 L = obB sz m x str.toList l1) := by show _ = _; unfold ckcB; rw [if_neg (by decide), if_pos rfl]
  go_enter Tryz.func35, Tryz.ntmps35
  have q0 := HQ.out.c0
  have q1 := HQ.out.c1_
  have q2 := HQ.out.c2_
  have q3 := HQ.out.c3_
  have q4 := HQ.out.c4_
  have q5 := HQ.out.c5_
  have q6 := HQ.out.c6_
  go_wp2_with fail
  rw [← HW.out]
  clear HW
  refine (IsObstacleFor_s sz A m c x str A1 n1 c1 l1 W HG.out H1.out hm hn1).mono ?_
  rintro e w1 ⟨rfl, hb1⟩
  clear q0 q1 q2 q3 q4 q5 q6
  replace HB := Lib.hid (HB.out.keep hb1)
  replace HF := Lib.hid (HF.out.keep hb1)
  replace HQ := Lib.hid (HQ.out.keep hb1)
  replace HG := Lib.hid (HG.out.keep hb1)
  replace H1 := Lib.hid (H1.out.keep hb1)
  replace H2 := Lib.hid (H2.out.keep hb1)
  replace HE := Lib.hid (HE.out.keep hb1)
  clear hb1
  have q0 := HQ.out.c0
  have q1 := HQ.out.c1_
  have q2 := HQ.out.c2_
  have q3 := HQ.out.c3_
  have q4 := HQ.out.c4_
  have q5 := HQ.out.c5_
  have q6 := HQ.out.c6_
  go_wp2
  go_ret
  exact ⟨ret_bool Hv.out.symm, HB.out.below⟩
 by_cases hk5 : K = 5
 ·subst hk5
  have Hv : Hid (ckcB 5 sz m x str.toList l1 l2 L = imfB sz m x L) := by show _ = _; unfold ckcB; rw [if_neg (by decide), if_neg (by decide), if_pos rfl]
  go_enter Tryz.func35, Tryz.ntmps35
  have q0 := HQ.out.c0
  have q1 := HQ.out.c1_
  have q2 := HQ.out.c2_
  have q3 := HQ.out.c3_
  have q4 := HQ.out.c4_
  have q5 := HQ.out.c5_
  have q6 := HQ.out.c6_
  go_wp2_with fail
  rw [← HW.out]
  clear HW
  refine (IsMinimalFill_s sz A m c x A3 c3 D W W.heap.size HG.out.rd HE.out.rd (Nat.le_refl _) hm hd ht L HL.out).mono ?_
  rintro e w1 ⟨rfl, hb1⟩
  clear q0 q1 q2 q3 q4 q5 q6
  replace HB := Lib.hid (HB.out.keep hb1)
  replace HF := Lib.hid (HF.out.keep hb1)
  replace HQ := Lib.hid (HQ.out.keep hb1)
  replace HG := Lib.hid (HG.out.keep hb1)
  replace H1 := Lib.hid (H1.out.keep hb1)
  replace H2 := Lib.hid (H2.out.keep hb1)
  replace HE := Lib.hid (HE.out.keep hb1)
  clear hb1
  have q0 := HQ.out.c0
  have q1 := HQ.out.c1_
  have q2 := HQ.out.c2_
  have q3 := HQ.out.c3_
  have q4 := HQ.out.c4_
  have q5 := HQ.out.c5_
  have q6 := HQ.out.c6_
  go_wp2
  go_ret
  exact ⟨ret_bool Hv.out.symm, HB.out.below⟩
 have k1 : (K == 1) = false := by simpa using hk1
 have k2 : (K == 2) = false := by simpa using hk2
 have k5 : (K == 5) = false := by simpa using hk5
 have Hc : Hid (ckcB K sz m x str.toList l1 l2 L = if l2.length ≠ 1 then false
  else if K = 3 then (iclG sz m x l1 && clqG sz m x (l2.getD 0 0)) && decide (dfN l1 = cn (l2.getD 0 0).toNat)
  else if K = 4 then (icvG sz m x l1 && indG sz m x (l2.getD 0 0)) && decide (l1.length = cn (l2.getD 0 0).toNat)
  else if K = 6 then ((decide (l1.length = 1) && domG sz m x (l1.getD 0 0)) && pakG sz m x (l2.getD 0 0)) && decide (cn (l1.getD 0 0).toNat = cn (l2.getD 0 0).toNat)
  else false) := by show _ = _; unfold ckcB; rw [if_neg hk1, if_neg hk2, if_neg hk5]
 clear hk1 hk2 hk5
 by_cases hn : n2 = 1
 rotate_left
 ·have Hv : Hid (ckcB K sz m x str.toList l1 l2 L = false) := Hc.out.trans (by rw [if_pos (by rw [← HN2.out]; exact hn)])
  have d1 : ((n2 : Int) == 1) = false := by simp; omega
  clear hn
  by_cases hk3 : K = 3
  ·subst hk3
   go_enter Tryz.func35, Tryz.ntmps35
   have q0 := HQ.out.c0
   have q1 := HQ.out.c1_
   have q2 := HQ.out.c2_
   have q3 := HQ.out.c3_
   have q4 := HQ.out.c4_
   have q5 := HQ.out.c5_
   have q6 := HQ.out.c6_
   go_wp2
   rw [← HW.out]
   clear HW
   have HSC : Hid (∀ z : World, Below W.heap.size W z → (Below W.heap.size W z ∧ z.cell? ⟨w.heap.size, 1, none⟩ = some (.int .i64 sz))) := fun z hz => ⟨hz, up_ hz q1⟩
   have HZ0 : Hid (Below W.heap.size W W.drew) := (Below.refl _ _).drew
   have HS1 := Lib.hid (HSC.out _ HZ0.out)
   refine wp_region_held_drew (S := fun z => Below W.heap.size W z ∧ z.cell? ⟨w.heap.size, 1, none⟩ = some (.int .i64 sz)) (by kernel_rfl) HS1.out (fun hHeld => ?_)
   refine pcY 0 rfl rfl (by kernel_rfl) (by rfl) (by intro w u; (try dsimp only at u); go_simp <;> with_reducible rfl) ‹_› (fun _ _ _ h => h) ?_; simp only [Act.put, sl0, sl1, sl2]
   refine ptY rfl rfl (by kernel_rfl) (by rfl) (by intro w u; (try dsimp only at u); go_simp <;> with_reducible rfl) ‹_› (fun _ _ _ h => h) ?_; simp only [Act.put, sl0, sl1, sl2]
   iterate 5 (refine ptN rfl rfl (by kernel_rfl) (by rfl) ‹_› (fun _ _ _ h => h) ?_; simp only [Act.put, sl0, sl1, sl2])
   iterate 2 (refine ptY rfl rfl (by kernel_rfl) (by rfl) (by intro w u; (try dsimp only at u); go_simp <;> with_reducible rfl) ‹_› (fun _ _ _ h => h) ?_; simp only [Act.put, sl0, sl1, sl2])
   iterate 7 (refine ptN rfl rfl (by kernel_rfl) (by rfl) ‹_› (fun _ _ _ h => h) ?_; simp only [Act.put, sl0, sl1, sl2])
   iterate 2 (refine ptY rfl rfl (by kernel_rfl) (by rfl) (by intro w u; (try dsimp only at u); go_simp <;> with_reducible rfl) ‹_› (fun _ _ _ h => h) ?_; simp only [Act.put, sl0, sl1, sl2])
   iterate 9 (refine ptN rfl rfl (by kernel_rfl) (by rfl) ‹_› (fun _ _ _ h => h) ?_; simp only [Act.put, sl0, sl1, sl2])
   iterate 2 (refine ptY rfl rfl (by kernel_rfl) (by rfl) (by intro w u; (try dsimp only at u); go_simp <;> with_reducible rfl) ‹_› (fun _ _ _ h => h) ?_; simp only [Act.put, sl0, sl1, sl2])
   refine wpAnyH_done (by kernel_rfl) ?_ _
   clear q0 q1 q2 q3 q4 q5 q6
   replace HB := Lib.hid (HB.out.keep HZ0.out)
   replace HF := Lib.hid (HF.out.keep HZ0.out)
   replace HQ := Lib.hid (HQ.out.keep HZ0.out)
   replace HG := Lib.hid (HG.out.keep HZ0.out)
   replace H1 := Lib.hid (H1.out.keep HZ0.out)
   replace H2 := Lib.hid (H2.out.keep HZ0.out)
   replace HE := Lib.hid (HE.out.keep HZ0.out)
   clear HSC HZ0 HS1
   have q0 := HQ.out.c0
   have q1 := HQ.out.c1_
   have q2 := HQ.out.c2_
   have q3 := HQ.out.c3_
   have q4 := HQ.out.c4_
   have q5 := HQ.out.c5_
   have q6 := HQ.out.c6_
   go_wp2
   go_ret
   exact ⟨ret_bool Hv.out.symm, HB.out.below⟩
  have k3 : (K == 3) = false := by simpa using hk3
  by_cases hk4 : K = 4
  ·subst hk4
   go_enter Tryz.func35, Tryz.ntmps35
   have q0 := HQ.out.c0
   have q1 := HQ.out.c1_
   have q2 := HQ.out.c2_
   have q3 := HQ.out.c3_
   have q4 := HQ.out.c4_
   have q5 := HQ.out.c5_
   have q6 := HQ.out.c6_
   go_wp2
   rw [← HW.out]
   clear HW
   have HSC : Hid (∀ z : World, Below W.heap.size W z → (Below W.heap.size W z ∧ z.cell? ⟨w.heap.size, 1, none⟩ = some (.int .i64 sz))) := fun z hz => ⟨hz, up_ hz q1⟩
   have HZ0 : Hid (Below W.heap.size W W.drew) := (Below.refl _ _).drew
   have HS1 := Lib.hid (HSC.out _ HZ0.out)
   refine wp_region_held_drew (S := fun z => Below W.heap.size W z ∧ z.cell? ⟨w.heap.size, 1, none⟩ = some (.int .i64 sz)) (by kernel_rfl) HS1.out (fun hHeld => ?_)
   refine pcY 0 rfl rfl (by kernel_rfl) (by rfl) (by intro w u; (try dsimp only at u); go_simp <;> with_reducible rfl) ‹_› (fun _ _ _ h => h) ?_; simp only [Act.put, sl0, sl1, sl2]
   refine ptY rfl rfl (by kernel_rfl) (by rfl) (by intro w u; (try dsimp only at u); go_simp <;> with_reducible rfl) ‹_› (fun _ _ _ h => h) ?_; simp only [Act.put, sl0, sl1, sl2]
   iterate 5 (refine ptN rfl rfl (by kernel_rfl) (by rfl) ‹_› (fun _ _ _ h => h) ?_; simp only [Act.put, sl0, sl1, sl2])
   iterate 2 (refine ptY rfl rfl (by kernel_rfl) (by rfl) (by intro w u; (try dsimp only at u); go_simp <;> with_reducible rfl) ‹_› (fun _ _ _ h => h) ?_; simp only [Act.put, sl0, sl1, sl2])
   iterate 7 (refine ptN rfl rfl (by kernel_rfl) (by rfl) ‹_› (fun _ _ _ h => h) ?_; simp only [Act.put, sl0, sl1, sl2])
   iterate 2 (refine ptY rfl rfl (by kernel_rfl) (by rfl) (by intro w u; (try dsimp only at u); go_simp <;> with_reducible rfl) ‹_› (fun _ _ _ h => h) ?_; simp only [Act.put, sl0, sl1, sl2])
   iterate 9 (refine ptN rfl rfl (by kernel_rfl) (by rfl) ‹_› (fun _ _ _ h => h) ?_; simp only [Act.put, sl0, sl1, sl2])
   iterate 2 (refine ptY rfl rfl (by kernel_rfl) (by rfl) (by intro w u; (try dsimp only at u); go_simp <;> with_reducible rfl) ‹_› (fun _ _ _ h => h) ?_; simp only [Act.put, sl0, sl1, sl2])
   refine wpAnyH_done (by kernel_rfl) ?_ _
   clear q0 q1 q2 q3 q4 q5 q6
   replace HB := Lib.hid (HB.out.keep HZ0.out)
   replace HF := Lib.hid (HF.out.keep HZ0.out)
   replace HQ := Lib.hid (HQ.out.keep HZ0.out)
   replace HG := Lib.hid (HG.out.keep HZ0.out)
   replace H1 := Lib.hid (H1.out.keep HZ0.out)
   replace H2 := Lib.hid (H2.out.keep HZ0.out)
   replace HE := Lib.hid (HE.out.keep HZ0.out)
   clear HSC HZ0 HS1
   have q0 := HQ.out.c0
   have q1 := HQ.out.c1_
   have q2 := HQ.out.c2_
   have q3 := HQ.out.c3_
   have q4 := HQ.out.c4_
   have q5 := HQ.out.c5_
   have q6 := HQ.out.c6_
   go_wp2
   go_ret
   exact ⟨ret_bool Hv.out.symm, HB.out.below⟩
  have k4 : (K == 4) = false := by simpa using hk4
  by_cases hk6 : K = 6
  ·subst hk6
   go_enter Tryz.func35, Tryz.ntmps35
   have q0 := HQ.out.c0
   have q1 := HQ.out.c1_
   have q2 := HQ.out.c2_
   have q3 := HQ.out.c3_
   have q4 := HQ.out.c4_
   have q5 := HQ.out.c5_
   have q6 := HQ.out.c6_
   go_wp2
   rw [← HW.out]
   clear HW
   have HSC : Hid (∀ z : World, Below W.heap.size W z → (Below W.heap.size W z ∧ z.cell? ⟨w.heap.size, 1, none⟩ = some (.int .i64 sz))) := fun z hz => ⟨hz, up_ hz q1⟩
   have HZ0 : Hid (Below W.heap.size W W.drew) := (Below.refl _ _).drew
   have HS1 := Lib.hid (HSC.out _ HZ0.out)
   refine wp_region_held_drew (S := fun z => Below W.heap.size W z ∧ z.cell? ⟨w.heap.size, 1, none⟩ = some (.int .i64 sz)) (by kernel_rfl) HS1.out (fun hHeld => ?_)
   refine pcY 0 rfl rfl (by kernel_rfl) (by rfl) (by intro w u; (try dsimp only at u); go_simp <;> with_reducible rfl) ‹_› (fun _ _ _ h => h) ?_; simp only [Act.put, sl0, sl1, sl2]
   refine ptY rfl rfl (by kernel_rfl) (by rfl) (by intro w u; (try dsimp only at u); go_simp <;> with_reducible rfl) ‹_› (fun _ _ _ h => h) ?_; simp only [Act.put, sl0, sl1, sl2]
   iterate 4 (refine ptN rfl rfl (by kernel_rfl) (by rfl) ‹_› (fun _ _ _ h => h) ?_; simp only [Act.put, sl0, sl1, sl2])
   iterate 2 (refine ptY rfl rfl (by kernel_rfl) (by rfl) (by intro w u; (try dsimp only at u); go_simp <;> with_reducible rfl) ‹_› (fun _ _ _ h => h) ?_; simp only [Act.put, sl0, sl1, sl2])
   iterate 7 (refine ptN rfl rfl (by kernel_rfl) (by rfl) ‹_› (fun _ _ _ h => h) ?_; simp only [Act.put, sl0, sl1, sl2])
   iterate 2 (refine ptY rfl rfl (by kernel_rfl) (by rfl) (by intro w u; (try dsimp only at u); go_simp <;> with_reducible rfl) ‹_› (fun _ _ _ h => h) ?_; simp only [Act.put, sl0, sl1, sl2])
   iterate 7 (refine ptN rfl rfl (by kernel_rfl) (by rfl) ‹_› (fun _ _ _ h => h) ?_; simp only [Act.put, sl0, sl1, sl2])
   iterate 2 (refine ptY rfl rfl (by kernel_rfl) (by rfl) (by intro w u; (try dsimp only at u); go_simp <;> with_reducible rfl) ‹_› (fun _ _ _ h => h) ?_; simp only [Act.put, sl0, sl1, sl2])
   iterate 11 (refine ptN rfl rfl (by kernel_rfl) (by rfl) ‹_› (fun _ _ _ h => h) ?_; simp only [Act.put, sl0, sl1, sl2])
   iterate 2 (refine ptY rfl rfl (by kernel_rfl) (by rfl) (by intro w u; (try dsimp only at u); go_simp <;> with_reducible rfl) ‹_› (fun _ _ _ h => h) ?_; simp only [Act.put, sl0, sl1, sl2])
   refine wpAnyH_done (by kernel_rfl) ?_ _
   clear q0 q1 q2 q3 q4 q5 q6
   replace HB := Lib.hid (HB.out.keep HZ0.out)
   replace HF := Lib.hid (HF.out.keep HZ0.out)
   replace HQ := Lib.hid (HQ.out.keep HZ0.out)
   replace HG := Lib.hid (HG.out.keep HZ0.out)
   replace H1 := Lib.hid (H1.out.keep HZ0.out)
   replace H2 := Lib.hid (H2.out.keep HZ0.out)
   replace HE := Lib.hid (HE.out.keep HZ0.out)
   clear HSC HZ0 HS1
   have q0 := HQ.out.c0
   have q1 := HQ.out.c1_
   have q2 := HQ.out.c2_
   have q3 := HQ.out.c3_
   have q4 := HQ.out.c4_
   have q5 := HQ.out.c5_
   have q6 := HQ.out.c6_
   go_wp2
   go_ret
   exact ⟨ret_bool Hv.out.symm, HB.out.below⟩
  have k6 : (K == 6) = false := by simpa using hk6
  go_enter Tryz.func35, Tryz.ntmps35
  have q0 := HQ.out.c0
  have q1 := HQ.out.c1_
  have q2 := HQ.out.c2_
  have q3 := HQ.out.c3_
  have q4 := HQ.out.c4_
  have q5 := HQ.out.c5_
  have q6 := HQ.out.c6_
  go_wp2
  rw [← HW.out]
  go_ret
  exact ⟨ret_bool Hv.out.symm, HB.out.below⟩
 subst hn
 have hc := Hc.out
 rw [if_neg (by rw [← HN2.out]; simp)] at hc
 replace Hc := Lib.hid hc
 clear hc
 obtain ⟨bo, oo, rfl⟩ := H2.out.addr (by omega)
 have hp := H2.out.at (j := 0) (by omega)
 obtain ⟨a, ha⟩ : ∃ a, a = l2.getD 0 0 := ⟨_, rfl⟩
 rw [← ha] at hp Hc
 have HP : Hid (CL W bo oo (.int .i64 a)) := ⟨hp⟩
 have hpw := HO2.out.at (j := 0) (by omega)
 rw [← ha] at hpw
 have HPw : Hid (w.cell? ⟨bo, oo, none⟩ = some (.int .i64 a) ∧ bo < w.heap.size) := ⟨hpw, by
  obtain ⟨b', o', e, hlt, _⟩ := HO2.out.rd.pos (by omega)
  simp only [Option.some.injEq, Addr.mk.injEq, and_true] at e
  rw [e.1]; exact hlt⟩
 clear hpw
 have d1 : (((1 : Nat) : Int) == 1) = true := by decide
 clear hp ha
 by_cases hk3 : K = 3
 ·subst hk3
  replace Hc := Lib.hid (Hc.out.trans (if_pos rfl))
  obtain ⟨v1, hv1⟩ : ∃ b, b = iclG sz m x l1 := ⟨_, rfl⟩
  obtain ⟨v2, hv2⟩ : ∃ b, b = clqG sz m x a := ⟨_, rfl⟩
  have HGq := HG
  have H1q := H1
  have KC : Hid (∀ {z : World}, Below W.heap.size W z → Calls Tryz.prog 119 #[.agg #[.int .i64 sz, .slice A m c], .slice A1 n1 c1] z fun e w' => e = .returned (.bool v1) ∧ Below z.heap.size z w') := fun {z} hz => by rw [hv1]; exact IsColoring_s sz A m c x A1 n1 c1 l1 z (HGq.out.keep hz) (H1q.out.keep hz) hm hn1
  have KQ : Hid (∀ {z : World}, Below W.heap.size W z → Calls Tryz.prog 120 #[.agg #[.int .i64 sz, .slice A m c], .int .i64 a] z fun e w' => e = .returned (.bool v2) ∧ Below z.heap.size z w') := fun {z} hz => by rw [hv2]; exact IsClique_sg sz A m c x a z (HGq.out.keep hz) hm
  cases v1
  ·have Hv : Hid (ckcB 3 sz m x str.toList l1 l2 L = false) := Hc.out.trans (by rw [← hv1]; rfl)
   clear hv1 hv2
   go_enter Tryz.func35, Tryz.ntmps35
   have q0 := HQ.out.c0
   have q1 := HQ.out.c1_
   have q2 := HQ.out.c2_
   have q3 := HQ.out.c3_
   have q4 := HQ.out.c4_
   have q5 := HQ.out.c5_
   have q6 := HQ.out.c6_
   have p2 := HP.out.c
   go_wp2
   rw [← HW.out]
   clear HW
   have HSC : Hid (∀ z : World, Below W.heap.size W z → (Below W.heap.size W z ∧ z.cell? ⟨w.heap.size, 1, none⟩ = some (.int .i64 sz) ∧ z.cell? ⟨w.heap.size, 2, none⟩ = some (.slice A m c) ∧ z.cell? ⟨w.heap.size, 4, none⟩ = some (.slice A1 n1 c1) ∧ z.cell? ⟨w.heap.size, 5, none⟩ = some (.slice (some ⟨bo, oo, none⟩) 1 c2))) := fun z hz => ⟨hz, up_ hz q1, up_ hz q2, up_ hz q4, up_ hz q5⟩
   have HZ0 : Hid (Below W.heap.size W W.drew) := (Below.refl _ _).drew
   have HS1 := Lib.hid (HSC.out _ HZ0.out)
   have KR1 : Hid (∀ z : World, Below W.heap.size W z → _) := fun z hz => KC.out hz
   refine wp_region_held_drew (S := fun z => Below W.heap.size W z ∧ z.cell? ⟨w.heap.size, 1, none⟩ = some (.int .i64 sz) ∧ z.cell? ⟨w.heap.size, 2, none⟩ = some (.slice A m c) ∧ z.cell? ⟨w.heap.size, 4, none⟩ = some (.slice A1 n1 c1) ∧ z.cell? ⟨w.heap.size, 5, none⟩ = some (.slice (some ⟨bo, oo, none⟩) 1 c2)) (by kernel_rfl) HS1.out (fun hHeld => ?_)
   refine pcY 0 rfl rfl (by kernel_rfl) (by rfl) (by intro w u; (try dsimp only at u); go_simp <;> with_reducible rfl) ‹_› (fun _ _ _ h => h) ?_; simp only [Act.put, sl0, sl1, sl2]
   iterate 5 (refine ptY rfl rfl (by kernel_rfl) (by rfl) (by intro w u; (try dsimp only at u); go_simp <;> with_reducible rfl) ‹_› (fun _ _ _ h => h) ?_; simp only [Act.put, sl0, sl1, sl2])
   refine wpAnyH_ready (rs := [6]) (by kernel_rfl) (by simp) ?_
   refine AllReadyH.cons rfl (fun K hK => ?_) AllReadyH.nil
   go_simp
   go_at_call 119; refine (KR1.out _ HZ0.out).mono ?_
   rintro e w1 ⟨rfl, hb1⟩
   have hz1 := bl_trans HZ0.out hb1
   refine hK.out _ _ (HSC.out _ hz1) (fun hHeld => ?_)
   clear hK K
   try simp only [Act.put, sl0, sl1, sl2]
   iterate 2 (refine ptY rfl rfl (by kernel_rfl) (by rfl) (by intro w u; (try dsimp only at u); go_simp <;> with_reducible rfl) ‹_› (fun _ _ _ h => h) ?_; simp only [Act.put, sl0, sl1, sl2])
   iterate 7 (refine ptN rfl rfl (by kernel_rfl) (by rfl) ‹_› (fun _ _ _ h => h) ?_; simp only [Act.put, sl0, sl1, sl2])
   iterate 2 (refine ptY rfl rfl (by kernel_rfl) (by rfl) (by intro w u; (try dsimp only at u); go_simp <;> with_reducible rfl) ‹_› (fun _ _ _ h => h) ?_; simp only [Act.put, sl0, sl1, sl2])
   iterate 9 (refine ptN rfl rfl (by kernel_rfl) (by rfl) ‹_› (fun _ _ _ h => h) ?_; simp only [Act.put, sl0, sl1, sl2])
   iterate 2 (refine ptY rfl rfl (by kernel_rfl) (by rfl) (by intro w u; (try dsimp only at u); go_simp <;> with_reducible rfl) ‹_› (fun _ _ _ h => h) ?_; simp only [Act.put, sl0, sl1, sl2])
   refine wpAnyH_done (by kernel_rfl) ?_ _
   clear q0 q1 q2 q3 q4 q5 q6 p2
   replace HB := Lib.hid (HB.out.keep hz1)
   replace HF := Lib.hid (HF.out.keep hz1)
   replace HQ := Lib.hid (HQ.out.keep hz1)
   replace HG := Lib.hid (HG.out.keep hz1)
   replace H1 := Lib.hid (H1.out.keep hz1)
   replace H2 := Lib.hid (H2.out.keep hz1)
   replace HE := Lib.hid (HE.out.keep hz1)
   replace HP := Lib.hid (HP.out.keep hz1)
   clear hb1 hz1 HSC HZ0 HS1 KR1
   have q0 := HQ.out.c0
   have q1 := HQ.out.c1_
   have q2 := HQ.out.c2_
   have q3 := HQ.out.c3_
   have q4 := HQ.out.c4_
   have q5 := HQ.out.c5_
   have q6 := HQ.out.c6_
   have p2 := HP.out.c
   go_wp2
   go_ret
   exact ⟨ret_bool Hv.out.symm, HB.out.below⟩
  cases v2
  ·have Hv : Hid (ckcB 3 sz m x str.toList l1 l2 L = false) := Hc.out.trans (by rw [← hv1, ← hv2]; rfl)
   clear hv1 hv2
   go_enter Tryz.func35, Tryz.ntmps35
   have q0 := HQ.out.c0
   have q1 := HQ.out.c1_
   have q2 := HQ.out.c2_
   have q3 := HQ.out.c3_
   have q4 := HQ.out.c4_
   have q5 := HQ.out.c5_
   have q6 := HQ.out.c6_
   have p2 := HP.out.c
   go_wp2
   rw [← HW.out]
   clear HW
   have HSC : Hid (∀ z : World, Below W.heap.size W z → (Below W.heap.size W z ∧ z.cell? ⟨w.heap.size, 1, none⟩ = some (.int .i64 sz) ∧ z.cell? ⟨w.heap.size, 2, none⟩ = some (.slice A m c) ∧ z.cell? ⟨w.heap.size, 4, none⟩ = some (.slice A1 n1 c1) ∧ z.cell? ⟨w.heap.size, 5, none⟩ = some (.slice (some ⟨bo, oo, none⟩) 1 c2) ∧ z.cell? ⟨bo, oo, none⟩ = some (.int .i64 a))) := fun z hz => ⟨hz, up_ hz q1, up_ hz q2, up_ hz q4, up_ hz q5, up_ hz p2⟩
   have HZ0 : Hid (Below W.heap.size W W.drew) := (Below.refl _ _).drew
   have HS1 := Lib.hid (HSC.out _ HZ0.out)
   have KR1 : Hid (∀ z : World, Below W.heap.size W z → _) := fun z hz => KC.out hz
   have KR2 : Hid (∀ z : World, Below W.heap.size W z → _) := fun z hz => KQ.out hz
   refine wp_region_held_drew (S := fun z => Below W.heap.size W z ∧ z.cell? ⟨w.heap.size, 1, none⟩ = some (.int .i64 sz) ∧ z.cell? ⟨w.heap.size, 2, none⟩ = some (.slice A m c) ∧ z.cell? ⟨w.heap.size, 4, none⟩ = some (.slice A1 n1 c1) ∧ z.cell? ⟨w.heap.size, 5, none⟩ = some (.slice (some ⟨bo, oo, none⟩) 1 c2) ∧ z.cell? ⟨bo, oo, none⟩ = some (.int .i64 a)) (by kernel_rfl) HS1.out (fun hHeld => ?_)
   refine pcY 0 rfl rfl (by kernel_rfl) (by rfl) (by intro w u; (try dsimp only at u); go_simp <;> with_reducible rfl) ‹_› (fun _ _ _ h => h) ?_; simp only [Act.put, sl0, sl1, sl2]
   iterate 5 (refine ptY rfl rfl (by kernel_rfl) (by rfl) (by intro w u; (try dsimp only at u); go_simp <;> with_reducible rfl) ‹_› (fun _ _ _ h => h) ?_; simp only [Act.put, sl0, sl1, sl2])
   refine wpAnyH_ready (rs := [6]) (by kernel_rfl) (by simp) ?_
   refine AllReadyH.cons rfl (fun K hK => ?_) AllReadyH.nil
   go_simp
   go_at_call 119; refine (KR1.out _ HZ0.out).mono ?_
   rintro e w2 ⟨rfl, hb2⟩
   have hz2 := bl_trans HZ0.out hb2
   refine hK.out _ _ (HSC.out _ hz2) (fun hHeld => ?_)
   clear hK K
   try simp only [Act.put, sl0, sl1, sl2]
   iterate 8 (refine ptY rfl rfl (by kernel_rfl) (by rfl) (by intro w u; (try dsimp only at u); go_simp <;> with_reducible rfl) ‹_› (fun _ _ _ h => h) ?_; simp only [Act.put, sl0, sl1, sl2])
   refine wpAnyH_ready (rs := [15]) (by kernel_rfl) (by simp) ?_
   refine AllReadyH.cons rfl (fun K hK => ?_) AllReadyH.nil
   go_simp
   go_at_call 120; refine (KR2.out _ hz2).mono ?_
   rintro e w3 ⟨rfl, hb3⟩
   have hz3 := bl_trans hz2 hb3
   refine hK.out _ _ (HSC.out _ hz3) (fun hHeld => ?_)
   clear hK K
   try simp only [Act.put, sl0, sl1, sl2]
   iterate 2 (refine ptY rfl rfl (by kernel_rfl) (by rfl) (by intro w u; (try dsimp only at u); go_simp <;> with_reducible rfl) ‹_› (fun _ _ _ h => h) ?_; simp only [Act.put, sl0, sl1, sl2])
   iterate 9 (refine ptN rfl rfl (by kernel_rfl) (by rfl) ‹_› (fun _ _ _ h => h) ?_; simp only [Act.put, sl0, sl1, sl2])
   iterate 2 (refine ptY rfl rfl (by kernel_rfl) (by rfl) (by intro w u; (try dsimp only at u); go_simp <;> with_reducible rfl) ‹_› (fun _ _ _ h => h) ?_; simp only [Act.put, sl0, sl1, sl2])
   refine wpAnyH_done (by kernel_rfl) ?_ _
   clear q0 q1 q2 q3 q4 q5 q6 p2
   replace HB := Lib.hid (HB.out.keep hz3)
   replace HF := Lib.hid (HF.out.keep hz3)
   replace HQ := Lib.hid (HQ.out.keep hz3)
   replace HG := Lib.hid (HG.out.keep hz3)
   replace H1 := Lib.hid (H1.out.keep hz3)
   replace H2 := Lib.hid (H2.out.keep hz3)
   replace HE := Lib.hid (HE.out.keep hz3)
   replace HP := Lib.hid (HP.out.keep hz3)
   clear hb2 hz2 hb3 hz3 HSC HZ0 HS1 KR1 KR2
   have q0 := HQ.out.c0
   have q1 := HQ.out.c1_
   have q2 := HQ.out.c2_
   have q3 := HQ.out.c3_
   have q4 := HQ.out.c4_
   have q5 := HQ.out.c5_
   have q6 := HQ.out.c6_
   have p2 := HP.out.c
   go_wp2
   go_ret
   exact ⟨ret_bool Hv.out.symm, HB.out.below⟩
  obtain ⟨Ln, hLn, hl1, hl2, hl3⟩ := col_nats hv1.symm
  obtain ⟨ho, -, tt, rfl, htt⟩ := clqG_set hv2.symm
  have ht128 := set128 ho htt
  have hnl : n1 = Ln.length := by rw [HN1.out, hl1]
  obtain ⟨d, hd1⟩ : ∃ d, d = dfN l1 := ⟨_, rfl⟩
  obtain ⟨f, he1⟩ : ∃ f, f = cn tt := ⟨_, rfl⟩
  have KD : Hid (∀ {z : World}, Below W.heap.size W z → Calls Tryz.prog 121 #[.slice A1 n1 c1] z fun e w' => e = .returned (.int .i64 (d : Nat)) ∧ Below z.heap.size z w') := fun {z} hz => by
   have := H1q.out.keep hz
   rw [hLn] at this
   have hr := l33Colors_n (LI.zl this) hl3
   rw [← hnl, ← hLn, ← hd1] at hr
   exact hr
  have KS : Hid (∀ {z : World}, Below W.heap.size W z → Calls Tryz.prog 122 #[.int .i64 (tt : Nat)] z fun e w' => e = .returned (.int .i64 (f : Nat)) ∧ Below z.heap.size z w') := fun {z} hz => by rw [he1]; exact CountSet_sv tt ht128 z
  obtain ⟨b, hb⟩ : ∃ b, b = decide (d = f) := ⟨_, rfl⟩
  have d2 : ((d : Int) == (f : Int)) = b := by
   rw [hb]
   by_cases hde : d = f
   ·rw [hde]; simp
   ·rw [decide_eq_false hde]; simp; omega
  have Hv : Hid (ckcB 3 sz m x str.toList l1 l2 L = b) := Hc.out.trans (by rw [← hv1, ← hv2, Int.toNat_natCast, ← hd1, ← he1, hb]; rfl)
  clear hv1 hv2 hLn hl1 hl2 hl3 htt hnl hd1 he1 hb ho
  go_enter Tryz.func35, Tryz.ntmps35
  have q0 := HQ.out.c0
  have q1 := HQ.out.c1_
  have q2 := HQ.out.c2_
  have q3 := HQ.out.c3_
  have q4 := HQ.out.c4_
  have q5 := HQ.out.c5_
  have q6 := HQ.out.c6_
  have p2 := HP.out.c
  go_wp2
  rw [← HW.out]
  clear HW
  have HSC : Hid (∀ z : World, Below W.heap.size W z → (Below W.heap.size W z ∧ z.cell? ⟨w.heap.size, 1, none⟩ = some (.int .i64 sz) ∧ z.cell? ⟨w.heap.size, 2, none⟩ = some (.slice A m c) ∧ z.cell? ⟨w.heap.size, 4, none⟩ = some (.slice A1 n1 c1) ∧ z.cell? ⟨w.heap.size, 5, none⟩ = some (.slice (some ⟨bo, oo, none⟩) 1 c2) ∧ z.cell? ⟨bo, oo, none⟩ = some (.int .i64 (tt : Int)))) := fun z hz => ⟨hz, up_ hz q1, up_ hz q2, up_ hz q4, up_ hz q5, up_ hz p2⟩
  have hz0 : Below W.heap.size W W.drew := (Below.refl _ _).drew
  have HS1 := Lib.hid (HSC.out _ hz0)
  go_region_held3 (fun z => Below W.heap.size W z ∧ z.cell? ⟨w.heap.size, 1, none⟩ = some (.int .i64 sz) ∧ z.cell? ⟨w.heap.size, 2, none⟩ = some (.slice A m c) ∧ z.cell? ⟨w.heap.size, 4, none⟩ = some (.slice A1 n1 c1) ∧ z.cell? ⟨w.heap.size, 5, none⟩ = some (.slice (some ⟨bo, oo, none⟩) 1 c2) ∧ z.cell? ⟨bo, oo, none⟩ = some (.int .i64 (tt : Int)))
   (first | exact HS1.out | assumption | exact HSC.out _ (by assumption) | fail)
   (first
     | (go_at_call 119; ((with_reducible refine (KC.out (by assumption)).mono ?_); rintro e_1 z1 ⟨rfl, hy1⟩; have hx1 : Below W.heap.size W z1 := bl_trans (by assumption) hy1))
     | (go_at_call 120; ((with_reducible refine (KQ.out (by assumption)).mono ?_); rintro e_2 z2 ⟨rfl, hy2⟩; have hx2 : Below W.heap.size W z2 := bl_trans (by assumption) hy2))
     | (go_at_call 121; ((with_reducible refine (KD.out (by assumption)).mono ?_); rintro e_3 z3 ⟨rfl, hy3⟩; have hx3 : Below W.heap.size W z3 := bl_trans (by assumption) hy3))
     | (go_at_call 122; ((with_reducible refine (KS.out (by assumption)).mono ?_); rintro e_4 z4 ⟨rfl, hy4⟩; have hx4 : Below W.heap.size W z4 := bl_trans (by assumption) hy4))
     | fail)
  all_goals
   go_wp2
   go_ret
   exact ⟨ret_bool (by rw [Hv.out] <;> first | rfl | simp), by first | exact (HB.out.keep hx4).below | exact (HB.out.keep hx3).below | exact (HB.out.keep hx2).below | exact (HB.out.keep hx1).below⟩
 have k3 : (K == 3) = false := by simpa using hk3
 replace Hc := Lib.hid (Hc.out.trans (if_neg hk3))
 clear hk3
 by_cases hk4 : K = 4
 ·subst hk4
  replace Hc := Lib.hid (Hc.out.trans (if_pos rfl))
  obtain ⟨v1, hv1⟩ : ∃ b, b = icvG sz m x l1 := ⟨_, rfl⟩
  obtain ⟨v2, hv2⟩ : ∃ b, b = indG sz m x a := ⟨_, rfl⟩
  have HGq := HG
  have H1q := H1
  have KC : Hid (∀ {z : World}, Below W.heap.size W z → Calls Tryz.prog 123 #[.agg #[.int .i64 sz, .slice A m c], .slice A1 n1 c1] z fun e w' => e = .returned (.bool v1) ∧ Below z.heap.size z w') := fun {z} hz => by rw [hv1]; exact IsCliqueCover_s sz A m c x A1 n1 c1 l1 z (HGq.out.keep hz) (H1q.out.keep hz) hm hn1
  have KQ : Hid (∀ {z : World}, Below W.heap.size W z → Calls Tryz.prog 124 #[.agg #[.int .i64 sz, .slice A m c], .int .i64 a] z fun e w' => e = .returned (.bool v2) ∧ Below z.heap.size z w') := fun {z} hz => by rw [hv2]; exact IsIndependent_sg sz A m c x a z (HGq.out.keep hz) hm
  cases v1
  ·have Hv : Hid (ckcB 4 sz m x str.toList l1 l2 L = false) := Hc.out.trans (by rw [← hv1]; rfl)
   clear hv1 hv2
   go_enter Tryz.func35, Tryz.ntmps35
   have q0 := HQ.out.c0
   have q1 := HQ.out.c1_
   have q2 := HQ.out.c2_
   have q3 := HQ.out.c3_
   have q4 := HQ.out.c4_
   have q5 := HQ.out.c5_
   have q6 := HQ.out.c6_
   have p2 := HP.out.c
   go_wp2
   rw [← HW.out]
   clear HW
   have HSC : Hid (∀ z : World, Below W.heap.size W z → (Below W.heap.size W z ∧ z.cell? ⟨w.heap.size, 1, none⟩ = some (.int .i64 sz) ∧ z.cell? ⟨w.heap.size, 2, none⟩ = some (.slice A m c) ∧ z.cell? ⟨w.heap.size, 4, none⟩ = some (.slice A1 n1 c1) ∧ z.cell? ⟨w.heap.size, 5, none⟩ = some (.slice (some ⟨bo, oo, none⟩) 1 c2))) := fun z hz => ⟨hz, up_ hz q1, up_ hz q2, up_ hz q4, up_ hz q5⟩
   have HZ0 : Hid (Below W.heap.size W W.drew) := (Below.refl _ _).drew
   have HS1 := Lib.hid (HSC.out _ HZ0.out)
   have KR1 : Hid (∀ z : World, Below W.heap.size W z → _) := fun z hz => KC.out hz
   refine wp_region_held_drew (S := fun z => Below W.heap.size W z ∧ z.cell? ⟨w.heap.size, 1, none⟩ = some (.int .i64 sz) ∧ z.cell? ⟨w.heap.size, 2, none⟩ = some (.slice A m c) ∧ z.cell? ⟨w.heap.size, 4, none⟩ = some (.slice A1 n1 c1) ∧ z.cell? ⟨w.heap.size, 5, none⟩ = some (.slice (some ⟨bo, oo, none⟩) 1 c2)) (by kernel_rfl) HS1.out (fun hHeld => ?_)
   refine pcY 0 rfl rfl (by kernel_rfl) (by rfl) (by intro w u; (try dsimp only at u); go_simp <;> with_reducible rfl) ‹_› (fun _ _ _ h => h) ?_; simp only [Act.put, sl0, sl1, sl2]
   iterate 5 (refine ptY rfl rfl (by kernel_rfl) (by rfl) (by intro w u; (try dsimp only at u); go_simp <;> with_reducible rfl) ‹_› (fun _ _ _ h => h) ?_; simp only [Act.put, sl0, sl1, sl2])
   refine wpAnyH_ready (rs := [6]) (by kernel_rfl) (by simp) ?_
   refine AllReadyH.cons rfl (fun K hK => ?_) AllReadyH.nil
   go_simp
   go_at_call 123; refine (KR1.out _ HZ0.out).mono ?_
   rintro e w4 ⟨rfl, hb4⟩
   have hz4 := bl_trans HZ0.out hb4
   refine hK.out _ _ (HSC.out _ hz4) (fun hHeld => ?_)
   clear hK K
   try simp only [Act.put, sl0, sl1, sl2]
   iterate 2 (refine ptY rfl rfl (by kernel_rfl) (by rfl) (by intro w u; (try dsimp only at u); go_simp <;> with_reducible rfl) ‹_› (fun _ _ _ h => h) ?_; simp only [Act.put, sl0, sl1, sl2])
   iterate 7 (refine ptN rfl rfl (by kernel_rfl) (by rfl) ‹_› (fun _ _ _ h => h) ?_; simp only [Act.put, sl0, sl1, sl2])
   iterate 2 (refine ptY rfl rfl (by kernel_rfl) (by rfl) (by intro w u; (try dsimp only at u); go_simp <;> with_reducible rfl) ‹_› (fun _ _ _ h => h) ?_; simp only [Act.put, sl0, sl1, sl2])
   iterate 9 (refine ptN rfl rfl (by kernel_rfl) (by rfl) ‹_› (fun _ _ _ h => h) ?_; simp only [Act.put, sl0, sl1, sl2])
   iterate 2 (refine ptY rfl rfl (by kernel_rfl) (by rfl) (by intro w u; (try dsimp only at u); go_simp <;> with_reducible rfl) ‹_› (fun _ _ _ h => h) ?_; simp only [Act.put, sl0, sl1, sl2])
   refine wpAnyH_done (by kernel_rfl) ?_ _
   clear q0 q1 q2 q3 q4 q5 q6 p2
   replace HB := Lib.hid (HB.out.keep hz4)
   replace HF := Lib.hid (HF.out.keep hz4)
   replace HQ := Lib.hid (HQ.out.keep hz4)
   replace HG := Lib.hid (HG.out.keep hz4)
   replace H1 := Lib.hid (H1.out.keep hz4)
   replace H2 := Lib.hid (H2.out.keep hz4)
   replace HE := Lib.hid (HE.out.keep hz4)
   replace HP := Lib.hid (HP.out.keep hz4)
   clear hb4 hz4 HSC HZ0 HS1 KR1
   have q0 := HQ.out.c0
   have q1 := HQ.out.c1_
   have q2 := HQ.out.c2_
   have q3 := HQ.out.c3_
   have q4 := HQ.out.c4_
   have q5 := HQ.out.c5_
   have q6 := HQ.out.c6_
   have p2 := HP.out.c
   go_wp2
   go_ret
   exact ⟨ret_bool Hv.out.symm, HB.out.below⟩
  cases v2
  ·have Hv : Hid (ckcB 4 sz m x str.toList l1 l2 L = false) := Hc.out.trans (by rw [← hv1, ← hv2]; rfl)
   clear hv1 hv2
   go_enter Tryz.func35, Tryz.ntmps35
   have q0 := HQ.out.c0
   have q1 := HQ.out.c1_
   have q2 := HQ.out.c2_
   have q3 := HQ.out.c3_
   have q4 := HQ.out.c4_
   have q5 := HQ.out.c5_
   have q6 := HQ.out.c6_
   have p2 := HP.out.c
   go_wp2
   rw [← HW.out]
   clear HW
   have HSC : Hid (∀ z : World, Below W.heap.size W z → (Below W.heap.size W z ∧ z.cell? ⟨w.heap.size, 1, none⟩ = some (.int .i64 sz) ∧ z.cell? ⟨w.heap.size, 2, none⟩ = some (.slice A m c) ∧ z.cell? ⟨w.heap.size, 4, none⟩ = some (.slice A1 n1 c1) ∧ z.cell? ⟨w.heap.size, 5, none⟩ = some (.slice (some ⟨bo, oo, none⟩) 1 c2) ∧ z.cell? ⟨bo, oo, none⟩ = some (.int .i64 a))) := fun z hz => ⟨hz, up_ hz q1, up_ hz q2, up_ hz q4, up_ hz q5, up_ hz p2⟩
   have HZ0 : Hid (Below W.heap.size W W.drew) := (Below.refl _ _).drew
   have HS1 := Lib.hid (HSC.out _ HZ0.out)
   have KR1 : Hid (∀ z : World, Below W.heap.size W z → _) := fun z hz => KC.out hz
   have KR2 : Hid (∀ z : World, Below W.heap.size W z → _) := fun z hz => KQ.out hz
   refine wp_region_held_drew (S := fun z => Below W.heap.size W z ∧ z.cell? ⟨w.heap.size, 1, none⟩ = some (.int .i64 sz) ∧ z.cell? ⟨w.heap.size, 2, none⟩ = some (.slice A m c) ∧ z.cell? ⟨w.heap.size, 4, none⟩ = some (.slice A1 n1 c1) ∧ z.cell? ⟨w.heap.size, 5, none⟩ = some (.slice (some ⟨bo, oo, none⟩) 1 c2) ∧ z.cell? ⟨bo, oo, none⟩ = some (.int .i64 a)) (by kernel_rfl) HS1.out (fun hHeld => ?_)
   refine pcY 0 rfl rfl (by kernel_rfl) (by rfl) (by intro w u; (try dsimp only at u); go_simp <;> with_reducible rfl) ‹_› (fun _ _ _ h => h) ?_; simp only [Act.put, sl0, sl1, sl2]
   iterate 5 (refine ptY rfl rfl (by kernel_rfl) (by rfl) (by intro w u; (try dsimp only at u); go_simp <;> with_reducible rfl) ‹_› (fun _ _ _ h => h) ?_; simp only [Act.put, sl0, sl1, sl2])
   refine wpAnyH_ready (rs := [6]) (by kernel_rfl) (by simp) ?_
   refine AllReadyH.cons rfl (fun K hK => ?_) AllReadyH.nil
   go_simp
   go_at_call 123; refine (KR1.out _ HZ0.out).mono ?_
   rintro e w5 ⟨rfl, hb5⟩
   have hz5 := bl_trans HZ0.out hb5
   refine hK.out _ _ (HSC.out _ hz5) (fun hHeld => ?_)
   clear hK K
   try simp only [Act.put, sl0, sl1, sl2]
   iterate 8 (refine ptY rfl rfl (by kernel_rfl) (by rfl) (by intro w u; (try dsimp only at u); go_simp <;> with_reducible rfl) ‹_› (fun _ _ _ h => h) ?_; simp only [Act.put, sl0, sl1, sl2])
   refine wpAnyH_ready (rs := [15]) (by kernel_rfl) (by simp) ?_
   refine AllReadyH.cons rfl (fun K hK => ?_) AllReadyH.nil
   go_simp
   go_at_call 124; refine (KR2.out _ hz5).mono ?_
   rintro e w6 ⟨rfl, hb6⟩
   have hz6 := bl_trans hz5 hb6
   refine hK.out _ _ (HSC.out _ hz6) (fun hHeld => ?_)
   clear hK K
   try simp only [Act.put, sl0, sl1, sl2]
   iterate 2 (refine ptY rfl rfl (by kernel_rfl) (by rfl) (by intro w u; (try dsimp only at u); go_simp <;> with_reducible rfl) ‹_› (fun _ _ _ h => h) ?_; simp only [Act.put, sl0, sl1, sl2])
   iterate 9 (refine ptN rfl rfl (by kernel_rfl) (by rfl) ‹_› (fun _ _ _ h => h) ?_; simp only [Act.put, sl0, sl1, sl2])
   iterate 2 (refine ptY rfl rfl (by kernel_rfl) (by rfl) (by intro w u; (try dsimp only at u); go_simp <;> with_reducible rfl) ‹_› (fun _ _ _ h => h) ?_; simp only [Act.put, sl0, sl1, sl2])
   refine wpAnyH_done (by kernel_rfl) ?_ _
   clear q0 q1 q2 q3 q4 q5 q6 p2
   replace HB := Lib.hid (HB.out.keep hz6)
   replace HF := Lib.hid (HF.out.keep hz6)
   replace HQ := Lib.hid (HQ.out.keep hz6)
   replace HG := Lib.hid (HG.out.keep hz6)
   replace H1 := Lib.hid (H1.out.keep hz6)
   replace H2 := Lib.hid (H2.out.keep hz6)
   replace HE := Lib.hid (HE.out.keep hz6)
   replace HP := Lib.hid (HP.out.keep hz6)
   clear hb5 hz5 hb6 hz6 HSC HZ0 HS1 KR1 KR2
   have q0 := HQ.out.c0
   have q1 := HQ.out.c1_
   have q2 := HQ.out.c2_
   have q3 := HQ.out.c3_
   have q4 := HQ.out.c4_
   have q5 := HQ.out.c5_
   have q6 := HQ.out.c6_
   have p2 := HP.out.c
   go_wp2
   go_ret
   exact ⟨ret_bool Hv.out.symm, HB.out.below⟩
  obtain ⟨ho, -, tt, rfl, htt⟩ := indG_set hv2.symm
  have ht128 := set128 ho htt
  obtain ⟨f, he1⟩ : ∃ f, f = cn tt := ⟨_, rfl⟩
  have KS : Hid (∀ {z : World}, Below W.heap.size W z → Calls Tryz.prog 122 #[.int .i64 (tt : Nat)] z fun e w' => e = .returned (.int .i64 (f : Nat)) ∧ Below z.heap.size z w') := fun {z} hz => by rw [he1]; exact CountSet_sv tt ht128 z
  obtain ⟨b, hb⟩ : ∃ b, b = decide (n1 = f) := ⟨_, rfl⟩
  have d2 : ((n1 : Int) == (f : Int)) = b := by
   rw [hb]
   by_cases hde : n1 = f
   ·rw [hde]; simp
   ·rw [decide_eq_false hde]; simp; omega
  have Hv : Hid (ckcB 4 sz m x str.toList l1 l2 L = b) := Hc.out.trans (by rw [← hv1, ← hv2, Int.toNat_natCast, ← HN1.out, ← he1, hb]; rfl)
  clear hv1 hv2 htt he1 hb ho
  go_enter Tryz.func35, Tryz.ntmps35
  have q0 := HQ.out.c0
  have q1 := HQ.out.c1_
  have q2 := HQ.out.c2_
  have q3 := HQ.out.c3_
  have q4 := HQ.out.c4_
  have q5 := HQ.out.c5_
  have q6 := HQ.out.c6_
  have p2 := HP.out.c
  go_wp2
  rw [← HW.out]
  clear HW
  have HSC : Hid (∀ z : World, Below W.heap.size W z → (Below W.heap.size W z ∧ z.cell? ⟨w.heap.size, 1, none⟩ = some (.int .i64 sz) ∧ z.cell? ⟨w.heap.size, 2, none⟩ = some (.slice A m c) ∧ z.cell? ⟨w.heap.size, 4, none⟩ = some (.slice A1 n1 c1) ∧ z.cell? ⟨w.heap.size, 5, none⟩ = some (.slice (some ⟨bo, oo, none⟩) 1 c2) ∧ z.cell? ⟨bo, oo, none⟩ = some (.int .i64 (tt : Int)))) := fun z hz => ⟨hz, up_ hz q1, up_ hz q2, up_ hz q4, up_ hz q5, up_ hz p2⟩
  have HZ0 : Hid (Below W.heap.size W W.drew) := (Below.refl _ _).drew
  have HS1 := Lib.hid (HSC.out _ HZ0.out)
  have KR1 : Hid (∀ z : World, Below W.heap.size W z → _) := fun z hz => KC.out hz
  have KR2 : Hid (∀ z : World, Below W.heap.size W z → _) := fun z hz => KQ.out hz
  have KR3 : Hid (∀ z : World, Below W.heap.size W z → _) := fun z hz => KS.out hz
  refine wp_region_held_drew (S := fun z => Below W.heap.size W z ∧ z.cell? ⟨w.heap.size, 1, none⟩ = some (.int .i64 sz) ∧ z.cell? ⟨w.heap.size, 2, none⟩ = some (.slice A m c) ∧ z.cell? ⟨w.heap.size, 4, none⟩ = some (.slice A1 n1 c1) ∧ z.cell? ⟨w.heap.size, 5, none⟩ = some (.slice (some ⟨bo, oo, none⟩) 1 c2) ∧ z.cell? ⟨bo, oo, none⟩ = some (.int .i64 (tt : Int))) (by kernel_rfl) HS1.out (fun hHeld => ?_)
  refine pcY 0 rfl rfl (by kernel_rfl) (by rfl) (by intro w u; (try dsimp only at u); go_simp <;> with_reducible rfl) ‹_› (fun _ _ _ h => h) ?_; simp only [Act.put, sl0, sl1, sl2]
  iterate 5 (refine ptY rfl rfl (by kernel_rfl) (by rfl) (by intro w u; (try dsimp only at u); go_simp <;> with_reducible rfl) ‹_› (fun _ _ _ h => h) ?_; simp only [Act.put, sl0, sl1, sl2])
  refine wpAnyH_ready (rs := [6]) (by kernel_rfl) (by simp) ?_
  refine AllReadyH.cons rfl (fun K hK => ?_) AllReadyH.nil
  go_simp
  go_at_call 123; refine (KR1.out _ HZ0.out).mono ?_
  rintro e w7 ⟨rfl, hb7⟩
  have hz7 := bl_trans HZ0.out hb7
  refine hK.out _ _ (HSC.out _ hz7) (fun hHeld => ?_)
  clear hK K
  try simp only [Act.put, sl0, sl1, sl2]
  iterate 8 (refine ptY rfl rfl (by kernel_rfl) (by rfl) (by intro w u; (try dsimp only at u); go_simp <;> with_reducible rfl) ‹_› (fun _ _ _ h => h) ?_; simp only [Act.put, sl0, sl1, sl2])
  refine wpAnyH_ready (rs := [15]) (by kernel_rfl) (by simp) ?_
  refine AllReadyH.cons rfl (fun K hK => ?_) AllReadyH.nil
  go_simp
  go_at_call 124; refine (KR2.out _ hz7).mono ?_
  rintro e w8 ⟨rfl, hb8⟩
  have hz8 := bl_trans hz7 hb8
  refine hK.out _ _ (HSC.out _ hz8) (fun hHeld => ?_)
  clear hK K
  try simp only [Act.put, sl0, sl1, sl2]
  iterate 9 (refine ptY rfl rfl (by kernel_rfl) (by rfl) (by intro w u; (try dsimp only at u); go_simp <;> with_reducible rfl) ‹_› (fun _ _ _ h => h) ?_; simp only [Act.put, sl0, sl1, sl2])
  refine wpAnyH_ready (rs := [25]) (by kernel_rfl) (by simp) ?_
  refine AllReadyH.cons rfl (fun K hK => ?_) AllReadyH.nil
  go_simp
  go_at_call 122; refine (KR3.out _ hz8).mono ?_
  rintro e w9 ⟨rfl, hb9⟩
  have hz9 := bl_trans hz8 hb9
  refine hK.out _ _ (HSC.out _ hz9) (fun hHeld => ?_)
  clear hK K
  try simp only [Act.put, sl0, sl1, sl2]
  iterate 3 (refine ptY rfl rfl (by kernel_rfl) (by rfl) (by intro w u; (try dsimp only at u); go_simp <;> with_reducible rfl) ‹_› (fun _ _ _ h => h) ?_; simp only [Act.put, sl0, sl1, sl2])
  refine wpAnyH_done (by kernel_rfl) ?_ _
  clear q0 q1 q2 q3 q4 q5 q6 p2
  replace HB := Lib.hid (HB.out.keep hz9)
  replace HF := Lib.hid (HF.out.keep hz9)
  replace HQ := Lib.hid (HQ.out.keep hz9)
  replace HG := Lib.hid (HG.out.keep hz9)
  replace H1 := Lib.hid (H1.out.keep hz9)
  replace H2 := Lib.hid (H2.out.keep hz9)
  replace HE := Lib.hid (HE.out.keep hz9)
  replace HP := Lib.hid (HP.out.keep hz9)
  clear hb7 hz7 hb8 hz8 hb9 hz9 HSC HZ0 HS1 KR1 KR2 KR3
  have q0 := HQ.out.c0
  have q1 := HQ.out.c1_
  have q2 := HQ.out.c2_
  have q3 := HQ.out.c3_
  have q4 := HQ.out.c4_
  have q5 := HQ.out.c5_
  have q6 := HQ.out.c6_
  have p2 := HP.out.c
  go_wp2
  go_ret
  exact ⟨ret_bool (by rw [Hv.out] <;> first | rfl | simp), HB.out.below⟩
 have k4 : (K == 4) = false := by simpa using hk4
 replace Hc := Lib.hid (Hc.out.trans (if_neg hk4))
 clear hk4
 by_cases hk6 : K = 6
 ·subst hk6
  replace Hc := Lib.hid (Hc.out.trans (if_pos rfl))
  by_cases hn : n1 = 1
  rotate_left
  ·have Hv : Hid (ckcB 6 sz m x str.toList l1 l2 L = false) := Hc.out.trans (by rw [decide_eq_false (by rw [← HN1.out]; exact hn)]; rfl)
   have d2 : ((n1 : Int) == 1) = false := by simp; omega
   clear hn
   go_enter Tryz.func35, Tryz.ntmps35
   have q0 := HQ.out.c0
   have q1 := HQ.out.c1_
   have q2 := HQ.out.c2_
   have q3 := HQ.out.c3_
   have q4 := HQ.out.c4_
   have q5 := HQ.out.c5_
   have q6 := HQ.out.c6_
   have p2 := HP.out.c
   go_wp2
   rw [← HW.out]
   clear HW
   have HSC : Hid (∀ z : World, Below W.heap.size W z → (Below W.heap.size W z ∧ z.cell? ⟨w.heap.size, 1, none⟩ = some (.int .i64 sz) ∧ z.cell? ⟨w.heap.size, 2, none⟩ = some (.slice A m c) ∧ z.cell? ⟨w.heap.size, 4, none⟩ = some (.slice A1 n1 c1) ∧ z.cell? ⟨w.heap.size, 5, none⟩ = some (.slice (some ⟨bo, oo, none⟩) 1 c2))) := fun z hz => ⟨hz, up_ hz q1, up_ hz q2, up_ hz q4, up_ hz q5⟩
   have HZ0 : Hid (Below W.heap.size W W.drew) := (Below.refl _ _).drew
   have HS1 := Lib.hid (HSC.out _ HZ0.out)
   refine wp_region_held_drew (S := fun z => Below W.heap.size W z ∧ z.cell? ⟨w.heap.size, 1, none⟩ = some (.int .i64 sz) ∧ z.cell? ⟨w.heap.size, 2, none⟩ = some (.slice A m c) ∧ z.cell? ⟨w.heap.size, 4, none⟩ = some (.slice A1 n1 c1) ∧ z.cell? ⟨w.heap.size, 5, none⟩ = some (.slice (some ⟨bo, oo, none⟩) 1 c2)) (by kernel_rfl) HS1.out (fun hHeld => ?_)
   refine pcY 0 rfl rfl (by kernel_rfl) (by rfl) (by intro w u; (try dsimp only at u); go_simp <;> with_reducible rfl) ‹_› (fun _ _ _ h => h) ?_; simp only [Act.put, sl0, sl1, sl2]
   iterate 7 (refine ptY rfl rfl (by kernel_rfl) (by rfl) (by intro w u; (try dsimp only at u); go_simp <;> with_reducible rfl) ‹_› (fun _ _ _ h => h) ?_; simp only [Act.put, sl0, sl1, sl2])
   iterate 7 (refine ptN rfl rfl (by kernel_rfl) (by rfl) ‹_› (fun _ _ _ h => h) ?_; simp only [Act.put, sl0, sl1, sl2])
   iterate 2 (refine ptY rfl rfl (by kernel_rfl) (by rfl) (by intro w u; (try dsimp only at u); go_simp <;> with_reducible rfl) ‹_› (fun _ _ _ h => h) ?_; simp only [Act.put, sl0, sl1, sl2])
   iterate 7 (refine ptN rfl rfl (by kernel_rfl) (by rfl) ‹_› (fun _ _ _ h => h) ?_; simp only [Act.put, sl0, sl1, sl2])
   iterate 2 (refine ptY rfl rfl (by kernel_rfl) (by rfl) (by intro w u; (try dsimp only at u); go_simp <;> with_reducible rfl) ‹_› (fun _ _ _ h => h) ?_; simp only [Act.put, sl0, sl1, sl2])
   iterate 11 (refine ptN rfl rfl (by kernel_rfl) (by rfl) ‹_› (fun _ _ _ h => h) ?_; simp only [Act.put, sl0, sl1, sl2])
   iterate 2 (refine ptY rfl rfl (by kernel_rfl) (by rfl) (by intro w u; (try dsimp only at u); go_simp <;> with_reducible rfl) ‹_› (fun _ _ _ h => h) ?_; simp only [Act.put, sl0, sl1, sl2])
   refine wpAnyH_done (by kernel_rfl) ?_ _
   clear q0 q1 q2 q3 q4 q5 q6 p2
   replace HB := Lib.hid (HB.out.keep HZ0.out)
   replace HF := Lib.hid (HF.out.keep HZ0.out)
   replace HQ := Lib.hid (HQ.out.keep HZ0.out)
   replace HG := Lib.hid (HG.out.keep HZ0.out)
   replace H1 := Lib.hid (H1.out.keep HZ0.out)
   replace H2 := Lib.hid (H2.out.keep HZ0.out)
   replace HE := Lib.hid (HE.out.keep HZ0.out)
   replace HP := Lib.hid (HP.out.keep HZ0.out)
   clear HSC HZ0 HS1
   have q0 := HQ.out.c0
   have q1 := HQ.out.c1_
   have q2 := HQ.out.c2_
   have q3 := HQ.out.c3_
   have q4 := HQ.out.c4_
   have q5 := HQ.out.c5_
   have q6 := HQ.out.c6_
   have p2 := HP.out.c
   go_wp2
   go_ret
   exact ⟨ret_bool Hv.out.symm, HB.out.below⟩
  subst hn
  have d2 : (((1 : Nat) : Int) == 1) = true := by decide
  obtain ⟨bn, on_, rfl⟩ := H1.out.addr (by omega)
  have hp1 := H1.out.at (j := 0) (by omega)
  obtain ⟨u, hu⟩ : ∃ u, u = l1.getD 0 0 := ⟨_, rfl⟩
  rw [← hu] at hp1 Hc
  have HP1 : Hid (CL W bn on_ (.int .i64 u)) := ⟨hp1⟩
  replace Hc := Lib.hid (Hc.out.trans (by rw [← HN1.out] <;> rfl : _ = (((true && domG sz m x u) && pakG sz m x a) && decide (cn u.toNat = cn a.toNat))))
  obtain ⟨v1, hv1⟩ : ∃ b, b = domG sz m x u := ⟨_, rfl⟩
  obtain ⟨v2, hv2⟩ : ∃ b, b = pakG sz m x a := ⟨_, rfl⟩
  have HGq := HG
  clear hp1 hu
  have KC : Hid (∀ {z : World}, Below W.heap.size W z → Calls Tryz.prog 125 #[.agg #[.int .i64 sz, .slice A m c], .int .i64 u] z fun e w' => e = .returned (.bool v1) ∧ Below z.heap.size z w') := fun {z} hz => by rw [hv1]; exact IsDominating_sg sz A m c x u z (HGq.out.keep hz) hm
  have KQ : Hid (∀ {z : World}, Below W.heap.size W z → Calls Tryz.prog 126 #[.agg #[.int .i64 sz, .slice A m c], .int .i64 a] z fun e w' => e = .returned (.bool v2) ∧ Below z.heap.size z w') := fun {z} hz => by rw [hv2]; exact IsPacking_sg sz A m c x a z (HGq.out.keep hz) hm
  cases v1
  ·have Hv : Hid (ckcB 6 sz m x str.toList l1 l2 L = false) := Hc.out.trans (by rw [← hv1]; rfl)
   clear hv1 hv2
   go_enter Tryz.func35, Tryz.ntmps35
   have q0 := HQ.out.c0
   have q1 := HQ.out.c1_
   have q2 := HQ.out.c2_
   have q3 := HQ.out.c3_
   have q4 := HQ.out.c4_
   have q5 := HQ.out.c5_
   have q6 := HQ.out.c6_
   have p2 := HP.out.c
   have p1 := HP1.out.c
   go_wp2
   rw [← HW.out]
   clear HW
   have HSC : Hid (∀ z : World, Below W.heap.size W z → (Below W.heap.size W z ∧ z.cell? ⟨w.heap.size, 1, none⟩ = some (.int .i64 sz) ∧ z.cell? ⟨w.heap.size, 2, none⟩ = some (.slice A m c) ∧ z.cell? ⟨w.heap.size, 4, none⟩ = some (.slice (some ⟨bn, on_, none⟩) 1 c1) ∧ z.cell? ⟨w.heap.size, 5, none⟩ = some (.slice (some ⟨bo, oo, none⟩) 1 c2) ∧ z.cell? ⟨bn, on_, none⟩ = some (.int .i64 u))) := fun z hz => ⟨hz, up_ hz q1, up_ hz q2, up_ hz q4, up_ hz q5, up_ hz p1⟩
   have HZ0 : Hid (Below W.heap.size W W.drew) := (Below.refl _ _).drew
   have HS1 := Lib.hid (HSC.out _ HZ0.out)
   have KR1 : Hid (∀ z : World, Below W.heap.size W z → _) := fun z hz => KC.out hz
   refine wp_region_held_drew (S := fun z => Below W.heap.size W z ∧ z.cell? ⟨w.heap.size, 1, none⟩ = some (.int .i64 sz) ∧ z.cell? ⟨w.heap.size, 2, none⟩ = some (.slice A m c) ∧ z.cell? ⟨w.heap.size, 4, none⟩ = some (.slice (some ⟨bn, on_, none⟩) 1 c1) ∧ z.cell? ⟨w.heap.size, 5, none⟩ = some (.slice (some ⟨bo, oo, none⟩) 1 c2) ∧ z.cell? ⟨bn, on_, none⟩ = some (.int .i64 u)) (by kernel_rfl) HS1.out (fun hHeld => ?_)
   refine pcY 0 rfl rfl (by kernel_rfl) (by rfl) (by intro w u; (try dsimp only at u); go_simp <;> with_reducible rfl) ‹_› (fun _ _ _ h => h) ?_; simp only [Act.put, sl0, sl1, sl2]
   iterate 13 (refine ptY rfl rfl (by kernel_rfl) (by rfl) (by intro w u; (try dsimp only at u); go_simp <;> with_reducible rfl) ‹_› (fun _ _ _ h => h) ?_; simp only [Act.put, sl0, sl1, sl2])
   refine wpAnyH_ready (rs := [14]) (by kernel_rfl) (by simp) ?_
   refine AllReadyH.cons rfl (fun K hK => ?_) AllReadyH.nil
   go_simp
   go_at_call 125; refine (KR1.out _ HZ0.out).mono ?_
   rintro e w10 ⟨rfl, hb10⟩
   have hz10 := bl_trans HZ0.out hb10
   refine hK.out _ _ (HSC.out _ hz10) (fun hHeld => ?_)
   clear hK K
   try simp only [Act.put, sl0, sl1, sl2]
   iterate 2 (refine ptY rfl rfl (by kernel_rfl) (by rfl) (by intro w u; (try dsimp only at u); go_simp <;> with_reducible rfl) ‹_› (fun _ _ _ h => h) ?_; simp only [Act.put, sl0, sl1, sl2])
   iterate 7 (refine ptN rfl rfl (by kernel_rfl) (by rfl) ‹_› (fun _ _ _ h => h) ?_; simp only [Act.put, sl0, sl1, sl2])
   iterate 2 (refine ptY rfl rfl (by kernel_rfl) (by rfl) (by intro w u; (try dsimp only at u); go_simp <;> with_reducible rfl) ‹_› (fun _ _ _ h => h) ?_; simp only [Act.put, sl0, sl1, sl2])
   iterate 11 (refine ptN rfl rfl (by kernel_rfl) (by rfl) ‹_› (fun _ _ _ h => h) ?_; simp only [Act.put, sl0, sl1, sl2])
   iterate 2 (refine ptY rfl rfl (by kernel_rfl) (by rfl) (by intro w u; (try dsimp only at u); go_simp <;> with_reducible rfl) ‹_› (fun _ _ _ h => h) ?_; simp only [Act.put, sl0, sl1, sl2])
   refine wpAnyH_done (by kernel_rfl) ?_ _
   clear q0 q1 q2 q3 q4 q5 q6 p2 p1
   replace HB := Lib.hid (HB.out.keep hz10)
   replace HF := Lib.hid (HF.out.keep hz10)
   replace HQ := Lib.hid (HQ.out.keep hz10)
   replace HG := Lib.hid (HG.out.keep hz10)
   replace H1 := Lib.hid (H1.out.keep hz10)
   replace H2 := Lib.hid (H2.out.keep hz10)
   replace HE := Lib.hid (HE.out.keep hz10)
   replace HP := Lib.hid (HP.out.keep hz10)
   replace HP1 := Lib.hid (HP1.out.keep hz10)
   clear hb10 hz10 HSC HZ0 HS1 KR1
   have q0 := HQ.out.c0
   have q1 := HQ.out.c1_
   have q2 := HQ.out.c2_
   have q3 := HQ.out.c3_
   have q4 := HQ.out.c4_
   have q5 := HQ.out.c5_
   have q6 := HQ.out.c6_
   have p2 := HP.out.c
   have p1 := HP1.out.c
   go_wp2
   go_ret
   exact ⟨ret_bool Hv.out.symm, HB.out.below⟩
  cases v2
  ·have Hv : Hid (ckcB 6 sz m x str.toList l1 l2 L = false) := Hc.out.trans (by rw [← hv1, ← hv2]; rfl)
   clear hv1 hv2
   go_enter Tryz.func35, Tryz.ntmps35
   have q0 := HQ.out.c0
   have q1 := HQ.out.c1_
   have q2 := HQ.out.c2_
   have q3 := HQ.out.c3_
   have q4 := HQ.out.c4_
   have q5 := HQ.out.c5_
   have q6 := HQ.out.c6_
   have p2 := HP.out.c
   have p1 := HP1.out.c
   go_wp2
   rw [← HW.out]
   clear HW
   have HSC : Hid (∀ z : World, Below W.heap.size W z → (Below W.heap.size W z ∧ z.cell? ⟨w.heap.size, 1, none⟩ = some (.int .i64 sz) ∧ z.cell? ⟨w.heap.size, 2, none⟩ = some (.slice A m c) ∧ z.cell? ⟨w.heap.size, 4, none⟩ = some (.slice (some ⟨bn, on_, none⟩) 1 c1) ∧ z.cell? ⟨w.heap.size, 5, none⟩ = some (.slice (some ⟨bo, oo, none⟩) 1 c2) ∧ z.cell? ⟨bn, on_, none⟩ = some (.int .i64 u) ∧ z.cell? ⟨bo, oo, none⟩ = some (.int .i64 a))) := fun z hz => ⟨hz, up_ hz q1, up_ hz q2, up_ hz q4, up_ hz q5, up_ hz p1, up_ hz p2⟩
   have HZ0 : Hid (Below W.heap.size W W.drew) := (Below.refl _ _).drew
   have HS1 := Lib.hid (HSC.out _ HZ0.out)
   have KR1 : Hid (∀ z : World, Below W.heap.size W z → _) := fun z hz => KC.out hz
   have KR2 : Hid (∀ z : World, Below W.heap.size W z → _) := fun z hz => KQ.out hz
   refine wp_region_held_drew (S := fun z => Below W.heap.size W z ∧ z.cell? ⟨w.heap.size, 1, none⟩ = some (.int .i64 sz) ∧ z.cell? ⟨w.heap.size, 2, none⟩ = some (.slice A m c) ∧ z.cell? ⟨w.heap.size, 4, none⟩ = some (.slice (some ⟨bn, on_, none⟩) 1 c1) ∧ z.cell? ⟨w.heap.size, 5, none⟩ = some (.slice (some ⟨bo, oo, none⟩) 1 c2) ∧ z.cell? ⟨bn, on_, none⟩ = some (.int .i64 u) ∧ z.cell? ⟨bo, oo, none⟩ = some (.int .i64 a)) (by kernel_rfl) HS1.out (fun hHeld => ?_)
   refine pcY 0 rfl rfl (by kernel_rfl) (by rfl) (by intro w u; (try dsimp only at u); go_simp <;> with_reducible rfl) ‹_› (fun _ _ _ h => h) ?_; simp only [Act.put, sl0, sl1, sl2]
   iterate 13 (refine ptY rfl rfl (by kernel_rfl) (by rfl) (by intro w u; (try dsimp only at u); go_simp <;> with_reducible rfl) ‹_› (fun _ _ _ h => h) ?_; simp only [Act.put, sl0, sl1, sl2])
   refine wpAnyH_ready (rs := [14]) (by kernel_rfl) (by simp) ?_
   refine AllReadyH.cons rfl (fun K hK => ?_) AllReadyH.nil
   go_simp
   go_at_call 125; refine (KR1.out _ HZ0.out).mono ?_
   rintro e w11 ⟨rfl, hb11⟩
   have hz11 := bl_trans HZ0.out hb11
   refine hK.out _ _ (HSC.out _ hz11) (fun hHeld => ?_)
   clear hK K
   try simp only [Act.put, sl0, sl1, sl2]
   iterate 8 (refine ptY rfl rfl (by kernel_rfl) (by rfl) (by intro w u; (try dsimp only at u); go_simp <;> with_reducible rfl) ‹_› (fun _ _ _ h => h) ?_; simp only [Act.put, sl0, sl1, sl2])
   refine wpAnyH_ready (rs := [23]) (by kernel_rfl) (by simp) ?_
   refine AllReadyH.cons rfl (fun K hK => ?_) AllReadyH.nil
   go_simp
   go_at_call 126; refine (KR2.out _ hz11).mono ?_
   rintro e w12 ⟨rfl, hb12⟩
   have hz12 := bl_trans hz11 hb12
   refine hK.out _ _ (HSC.out _ hz12) (fun hHeld => ?_)
   clear hK K
   try simp only [Act.put, sl0, sl1, sl2]
   iterate 2 (refine ptY rfl rfl (by kernel_rfl) (by rfl) (by intro w u; (try dsimp only at u); go_simp <;> with_reducible rfl) ‹_› (fun _ _ _ h => h) ?_; simp only [Act.put, sl0, sl1, sl2])
   iterate 11 (refine ptN rfl rfl (by kernel_rfl) (by rfl) ‹_› (fun _ _ _ h => h) ?_; simp only [Act.put, sl0, sl1, sl2])
   iterate 2 (refine ptY rfl rfl (by kernel_rfl) (by rfl) (by intro w u; (try dsimp only at u); go_simp <;> with_reducible rfl) ‹_› (fun _ _ _ h => h) ?_; simp only [Act.put, sl0, sl1, sl2])
   refine wpAnyH_done (by kernel_rfl) ?_ _
   clear q0 q1 q2 q3 q4 q5 q6 p2 p1
   replace HB := Lib.hid (HB.out.keep hz12)
   replace HF := Lib.hid (HF.out.keep hz12)
   replace HQ := Lib.hid (HQ.out.keep hz12)
   replace HG := Lib.hid (HG.out.keep hz12)
   replace H1 := Lib.hid (H1.out.keep hz12)
   replace H2 := Lib.hid (H2.out.keep hz12)
   replace HE := Lib.hid (HE.out.keep hz12)
   replace HP := Lib.hid (HP.out.keep hz12)
   replace HP1 := Lib.hid (HP1.out.keep hz12)
   clear hb11 hz11 hb12 hz12 HSC HZ0 HS1 KR1 KR2
   have q0 := HQ.out.c0
   have q1 := HQ.out.c1_
   have q2 := HQ.out.c2_
   have q3 := HQ.out.c3_
   have q4 := HQ.out.c4_
   have q5 := HQ.out.c5_
   have q6 := HQ.out.c6_
   have p2 := HP.out.c
   have p1 := HP1.out.c
   go_wp2
   go_ret
   exact ⟨ret_bool Hv.out.symm, HB.out.below⟩
  obtain ⟨ho, -, uu, rfl, huu⟩ := domG_set hv1.symm
  have hu128 := set128 ho huu
  obtain ⟨-, -, tt, rfl, htt⟩ := pakG_set hv2.symm
  have ht128 := set128 ho htt
  obtain ⟨d, hd1⟩ : ∃ d, d = cn uu := ⟨_, rfl⟩
  obtain ⟨f, he1⟩ : ∃ f, f = cn tt := ⟨_, rfl⟩
  have KU : Hid (∀ {z : World}, Below W.heap.size W z → Calls Tryz.prog 122 #[.int .i64 (uu : Nat)] z fun e w' => e = .returned (.int .i64 (d : Nat)) ∧ Below z.heap.size z w') := fun {z} hz => by rw [hd1]; exact CountSet_sv uu hu128 z
  have KS : Hid (∀ {z : World}, Below W.heap.size W z → Calls Tryz.prog 122 #[.int .i64 (tt : Nat)] z fun e w' => e = .returned (.int .i64 (f : Nat)) ∧ Below z.heap.size z w') := fun {z} hz => by rw [he1]; exact CountSet_sv tt ht128 z
  obtain ⟨b, hb⟩ : ∃ b, b = decide (d = f) := ⟨_, rfl⟩
  have d3 : ((d : Int) == (f : Int)) = b := by
   rw [hb]
   by_cases hde : d = f
   ·rw [hde]; simp
   ·rw [decide_eq_false hde]; simp; omega
  have Hv : Hid (ckcB 6 sz m x str.toList l1 l2 L = b) := Hc.out.trans (by rw [← hv1, ← hv2, Int.toNat_natCast, Int.toNat_natCast, ← hd1, ← he1, hb]; rfl)
  clear hv1 hv2 huu htt hd1 he1 hb ho
  go_enter Tryz.func35, Tryz.ntmps35
  have q0 := HQ.out.c0
  have q1 := HQ.out.c1_
  have q2 := HQ.out.c2_
  have q3 := HQ.out.c3_
  have q4 := HQ.out.c4_
  have q5 := HQ.out.c5_
  have q6 := HQ.out.c6_
  have p2 := HP.out.c
  have p1 := HP1.out.c
  go_wp2
  rw [← HW.out]
  clear HW
  have HSC : Hid (∀ z : World, Below W.heap.size W z → (Below W.heap.size W z ∧ z.cell? ⟨w.heap.size, 1, none⟩ = some (.int .i64 sz) ∧ z.cell? ⟨w.heap.size, 2, none⟩ = some (.slice A m c) ∧ z.cell? ⟨w.heap.size, 4, none⟩ = some (.slice (some ⟨bn, on_, none⟩) 1 c1) ∧ z.cell? ⟨w.heap.size, 5, none⟩ = some (.slice (some ⟨bo, oo, none⟩) 1 c2) ∧ z.cell? ⟨bn, on_, none⟩ = some (.int .i64 (uu : Int)) ∧ z.cell? ⟨bo, oo, none⟩ = some (.int .i64 (tt : Int)))) := fun z hz => ⟨hz, up_ hz q1, up_ hz q2, up_ hz q4, up_ hz q5, up_ hz p1, up_ hz p2⟩
  have hz0 : Below W.heap.size W W.drew := (Below.refl _ _).drew
  have HS1 := Lib.hid (HSC.out _ hz0)
  go_region_held3 (fun z => Below W.heap.size W z ∧ z.cell? ⟨w.heap.size, 1, none⟩ = some (.int .i64 sz) ∧ z.cell? ⟨w.heap.size, 2, none⟩ = some (.slice A m c) ∧ z.cell? ⟨w.heap.size, 4, none⟩ = some (.slice (some ⟨bn, on_, none⟩) 1 c1) ∧ z.cell? ⟨w.heap.size, 5, none⟩ = some (.slice (some ⟨bo, oo, none⟩) 1 c2) ∧ z.cell? ⟨bn, on_, none⟩ = some (.int .i64 (uu : Int)) ∧ z.cell? ⟨bo, oo, none⟩ = some (.int .i64 (tt : Int)))
   (first | exact HS1.out | assumption | exact HSC.out _ (by assumption) | fail)
   (first
     | (go_at_call 125; ((with_reducible refine (KC.out (by assumption)).mono ?_); rintro e_1 z1 ⟨rfl, hy1⟩; have hx1 : Below W.heap.size W z1 := bl_trans (by assumption) hy1))
     | (go_at_call 126; ((with_reducible refine (KQ.out (by assumption)).mono ?_); rintro e_2 z2 ⟨rfl, hy2⟩; have hx2 : Below W.heap.size W z2 := bl_trans (by assumption) hy2))
     | (go_at_call 122; ((with_reducible refine (KU.out (by assumption)).mono ?_); rintro e_3 z3 ⟨rfl, hy3⟩; have hx3 : Below W.heap.size W z3 := bl_trans (by assumption) hy3))
     | (go_at_call 122; ((with_reducible refine (KS.out (by assumption)).mono ?_); rintro e_4 z4 ⟨rfl, hy4⟩; have hx4 : Below W.heap.size W z4 := bl_trans (by assumption) hy4))
     | fail)
  all_goals
   go_wp2
   go_ret
   exact ⟨ret_bool (by rw [Hv.out] <;> first | rfl | simp), by first | exact (HB.out.keep hx4).below | exact (HB.out.keep hx3).below | exact (HB.out.keep hx2).below | exact (HB.out.keep hx1).below⟩
 have k6 : (K == 6) = false := by simpa using hk6
 have Hv : Hid (ckcB K sz m x str.toList l1 l2 L = false) := Hc.out.trans (if_neg hk6)
 clear hk6
 go_enter Tryz.func35, Tryz.ntmps35
 have q0 := HQ.out.c0
 have q1 := HQ.out.c1_
 have q2 := HQ.out.c2_
 have q3 := HQ.out.c3_
 have q4 := HQ.out.c4_
 have q5 := HQ.out.c5_
 have q6 := HQ.out.c6_
 have p2 := HP.out.c
 go_wp2
 rw [← HW.out]
 go_ret
 exact ⟨ret_bool Hv.out.symm, HB.out.below⟩
end Go.Proofs.YtdpkbfiggbcclaaGreat
