/-
  Several texts in one.
-/
import Derived.Test.YtdpkbfiggbcclaaGreatQkTripK
import Derived.Test.YtdpkbfiggbcclaaGreatQkAvoidS
import Derived.Test.YtdpkbfiggbcclaaGreatQkJoinS
import Derived.Test.YtdpkbfiggbcclaaGreatQkJoinU
import Derived.Test.YtdpkbfiggbcclaaGreatQkModI
/-
-/
namespace Go.Proofs.YtdpkbfiggbcclaaGreat
open Go.RowKit
section
variable (sz : Int) (A : Option Addr) (m cA : Nat) (x : Nat → Int) (a b c : Int) (w : World)
set_option maxRecDepth 100000 in
set_option maxHeartbeats 6400000 in
theorem IsTriple_s (h : GA w A m cA x) (hm : m ≤ 1048576) :
 Calls Tryz.prog 315 #[.agg #[.int .i64 sz, .slice A m cA], .int .i64 a, .int .i64 b, .int .i64 c] w fun e w' => e = .returned (.bool (trB sz m x a b c)) ∧ Below w.heap.size w w' := by
 obtain ⟨W, hW⟩ : ∃ W : World, W = (w.alloc (Obj.cells #[Value.int IntKind.i64 sz, Value.slice A m cA] 28)) := ⟨_, rfl⟩
 have HB : Hid (From w W) := by rw [hW]; exact From.alloc _ _
 have HK := Lib.hid (h.keep HB.out.below)
 have HC : Hid (GC W w.heap.size sz A m cA) := by rw [hW]; exact GC.new _ _ _ _ _
 have HW := Lib.hid hW
 clear hW h
 have Heq : Hid (trB sz m x a b c = ((avB sz m x a b c && avB sz m x b c a && avB sz m x c a b) && ((a != b) && (b != c) && (a != c)))) := by
  show _ = _; unfold trB
  by_cases h0 : a = b <;> by_cases h1 : b = c <;> by_cases h2 : a = c <;> simp [h0, h1, h2]
 go_enter Tryz.func315, Tryz.ntmps315
 have e0 := HC.out.c0
 have e1 := HC.out.c1
 go_wp2_with fail
 rw [← HW.out]
 refine (AvoidingPath_s sz A m cA x a b c W HK.out hm).mono ?_
 rintro e w1 ⟨A5, n5, c5, rfl, hb1⟩
 clear HW
 clear e0 e1
 replace HB := Lib.hid (HB.out.keep hb1)
 replace HK := Lib.hid (HK.out.keep hb1)
 replace HC := Lib.hid (HC.out.keep hb1)
 clear hb1
 have e0 := HC.out.c0
 have e1 := HC.out.c1
 go_wp2_with fail
 refine (AvoidingPath_s sz A m cA x b c a w1 HK.out hm).mono ?_
 rintro e w2 ⟨A6, n6, c6, rfl, hb2⟩
 clear e0 e1
 replace HB := Lib.hid (HB.out.keep hb2)
 replace HK := Lib.hid (HK.out.keep hb2)
 replace HC := Lib.hid (HC.out.keep hb2)
 clear hb2
 have e0 := HC.out.c0
 have e1 := HC.out.c1
 go_wp2_with fail
 refine (AvoidingPath_s sz A m cA x c a b w2 HK.out hm).mono ?_
 rintro e w3 ⟨A7, n7, c7, rfl, hb3⟩
 clear e0 e1
 replace HB := Lib.hid (HB.out.keep hb3)
 replace HK := Lib.hid (HK.out.keep hb3)
 replace HC := Lib.hid (HC.out.keep hb3)
 clear hb3
 have e0 := HC.out.c0
 have e1 := HC.out.c1
 obtain ⟨t1, ht1⟩ : ∃ t, t = avB sz m x a b c := ⟨_, rfl⟩
 obtain ⟨t2, ht2⟩ : ∃ t, t = avB sz m x b c a := ⟨_, rfl⟩
 obtain ⟨t3, ht3⟩ : ∃ t, t = avB sz m x c a b := ⟨_, rfl⟩
 obtain ⟨d1, hd1⟩ : ∃ d, d = (a != b) := ⟨_, rfl⟩
 obtain ⟨d2, hd2⟩ : ∃ d, d = (b != c) := ⟨_, rfl⟩
 obtain ⟨d3, hd3⟩ : ∃ d, d = (a != c) := ⟨_, rfl⟩
 rw [← ht1, ← ht2, ← ht3, ← hd1, ← hd2, ← hd3] at Heq
 simp only [← ht1, ← ht2, ← ht3]
 have i1 := hd1.symm
 have i2 := hd2.symm
 have i3 := hd3.symm
 clear ht1 ht2 ht3 hd1 hd2 hd3 HK HC e0 e1
 cases t1 <;> cases t2 <;> cases t3 <;> cases d1 <;> cases d2 <;> cases d3 <;> (go_wp2; go_ret; exact ⟨ret_bool (by rw [Heq.out]; rfl), HB.out.below⟩)
end
section
variable (sz : Int) (A : Option Addr) (m c : Nat) (x : Nat → Int) (Al : Option Addr) (n cl : Nat) (l : List Int) (w : World)
set_option maxRecDepth 100000 in
set_option maxHeartbeats 3200000 in
theorem IsIntervalObstacle_s (h : GA w A m c x) (hl : LI w Al n cl l) (hm : m ≤ 1048576) (hn : n ≤ 1048576) :
 Calls Tryz.prog 239 #[.agg #[.int .i64 sz, .slice A m c], .slice Al n cl] w fun e w' => e = .returned (.bool (inB sz m x l)) ∧ Below w.heap.size w w' := by
 obtain ⟨W, hW⟩ : ∃ W : World, W = (w.alloc (Obj.cells #[Value.int IntKind.i64 sz, Value.slice A m c] 28)) := ⟨_, rfl⟩
 have HB : Hid (From w W) := by rw [hW]; exact From.alloc _ _
 have HK := Lib.hid (h.keep HB.out.below)
 have HL := Lib.hid (hl.keep HB.out.below)
 have HC : Hid (GC W w.heap.size sz A m c) := by rw [hW]; exact GC.new _ _ _ _ _
 have HW := Lib.hid hW
 have HN := Lib.hid hl.len
 clear hW h hl
 have e0 := HC.out.c0
 have e1 := HC.out.c1
 cases hh : hoB sz m x l
 rotate_left
 ·have hyes : Hid (inB sz m x l = true) := by show _ = _; unfold inB; rw [hh, Bool.true_or]
  have KH : Hid (∀ z : World, Below W.heap.size W z → Calls Tryz.prog 238 #[.agg #[.int .i64 sz, .slice A m c], .slice Al n cl] z fun e w' => e = .returned (.bool true) ∧ Below z.heap.size z w') := fun z hz => by
   have := IsHole_s sz A m c x Al n cl l z (HK.out.keep hz) (HL.out.keep hz) hm hn
   rwa [hh] at this
  clear hh
  go_enter Tryz.func239, Tryz.ntmps239
  go_wp2_with fail
  rw [← HW.out]
  have HSC : Hid (∀ z : World, Below W.heap.size W z → (Below W.heap.size W z ∧ z.cell? ⟨w.heap.size, 0, none⟩ = some (.int .i64 sz) ∧ z.cell? ⟨w.heap.size, 1, none⟩ = some (.slice A m c))) := fun z hz => ⟨hz, up_ hz e0, up_ hz e1⟩
  have HZ0 : Hid (Below W.heap.size W W.drew) := (Below.refl _ _).drew
  have HS1 := Lib.hid (HSC.out _ HZ0.out)
  have KR1 : Hid (∀ z : World, Below W.heap.size W z → _) := fun z hz => KH.out z hz
  refine wp_region_held_drew (S := fun z => Below W.heap.size W z ∧ z.cell? ⟨w.heap.size, 0, none⟩ = some (.int .i64 sz) ∧ z.cell? ⟨w.heap.size, 1, none⟩ = some (.slice A m c)) (by kernel_rfl) HS1.out (fun hHeld => ?_)
  refine pcY 0 rfl rfl (by kernel_rfl) (by rfl) (by intro w u; (try dsimp only at u); go_simp <;> with_reducible rfl) ‹_› (fun _ _ _ h => h) ?_; simp only [Act.put, sl0, sl1, sl2]
  refine ptY rfl rfl (by kernel_rfl) (by rfl) (by intro w u; (try dsimp only at u); go_simp <;> with_reducible rfl) ‹_› (fun _ _ _ h => h) ?_; simp only [Act.put, sl0, sl1, sl2]
  refine wpAnyH_ready (rs := [2]) (by kernel_rfl) (by simp) ?_
  refine AllReadyH.cons rfl (fun K hK => ?_) AllReadyH.nil
  go_simp
  go_at_call 238; refine (KR1.out _ HZ0.out).mono ?_
  rintro e w1 ⟨rfl, hb1⟩
  have hz1 := bl_trans HZ0.out hb1
  refine hK.out _ _ (HSC.out _ hz1) (fun hHeld => ?_)
  clear hK K
  try simp only [Act.put, sl0, sl1, sl2]
  refine ptY rfl rfl (by kernel_rfl) (by rfl) (by intro w u; (try dsimp only at u); go_simp <;> with_reducible rfl) ‹_› (fun _ _ _ h => h) ?_; simp only [Act.put, sl0, sl1, sl2]
  iterate 16 (refine ptN rfl rfl (by kernel_rfl) (by rfl) ‹_› (fun _ _ _ h => h) ?_; simp only [Act.put, sl0, sl1, sl2])
  iterate 2 (refine ptY rfl rfl (by kernel_rfl) (by rfl) (by intro w u; (try dsimp only at u); go_simp <;> with_reducible rfl) ‹_› (fun _ _ _ h => h) ?_; simp only [Act.put, sl0, sl1, sl2])
  refine wpAnyH_done (by kernel_rfl) ?_ _
  replace HB := Lib.hid (HB.out.keep hz1)
  clear hb1 hz1 HSC HZ0 HS1 KR1
  go_wp2
  go_ret
  exact ⟨ret_bool hyes.out.symm, HB.out.below⟩
 by_cases h3 : n = 3
 rotate_left
 ·have hno : Hid (inB sz m x l = false) := by show _ = _; unfold inB; rw [hh, decide_eq_false (by rw [← HN.out]; exact h3)]; rfl
  have KH : Hid (∀ z : World, Below W.heap.size W z → Calls Tryz.prog 238 #[.agg #[.int .i64 sz, .slice A m c], .slice Al n cl] z fun e w' => e = .returned (.bool false) ∧ Below z.heap.size z w') := fun z hz => by
   have := IsHole_s sz A m c x Al n cl l z (HK.out.keep hz) (HL.out.keep hz) hm hn
   rwa [hh] at this
  have i3 : ((n : Int) == 3) = false := by simp; omega
  clear hh h3
  go_enter Tryz.func239, Tryz.ntmps239
  go_wp2_with fail
  rw [← HW.out]
  have HSC : Hid (∀ z : World, Below W.heap.size W z → (Below W.heap.size W z ∧ z.cell? ⟨w.heap.size, 0, none⟩ = some (.int .i64 sz) ∧ z.cell? ⟨w.heap.size, 1, none⟩ = some (.slice A m c))) := fun z hz => ⟨hz, up_ hz e0, up_ hz e1⟩
  have HZ0 : Hid (Below W.heap.size W W.drew) := (Below.refl _ _).drew
  have HS1 := Lib.hid (HSC.out _ HZ0.out)
  have KR1 : Hid (∀ z : World, Below W.heap.size W z → _) := fun z hz => KH.out z hz
  refine wp_region_held_drew (S := fun z => Below W.heap.size W z ∧ z.cell? ⟨w.heap.size, 0, none⟩ = some (.int .i64 sz) ∧ z.cell? ⟨w.heap.size, 1, none⟩ = some (.slice A m c)) (by kernel_rfl) HS1.out (fun hHeld => ?_)
  refine pcY 0 rfl rfl (by kernel_rfl) (by rfl) (by intro w u; (try dsimp only at u); go_simp <;> with_reducible rfl) ‹_› (fun _ _ _ h => h) ?_; simp only [Act.put, sl0, sl1, sl2]
  refine ptY rfl rfl (by kernel_rfl) (by rfl) (by intro w u; (try dsimp only at u); go_simp <;> with_reducible rfl) ‹_› (fun _ _ _ h => h) ?_; simp only [Act.put, sl0, sl1, sl2]
  refine wpAnyH_ready (rs := [2]) (by kernel_rfl) (by simp) ?_
  refine AllReadyH.cons rfl (fun K hK => ?_) AllReadyH.nil
  go_simp
  go_at_call 238; refine (KR1.out _ HZ0.out).mono ?_
  rintro e w2 ⟨rfl, hb2⟩
  have hz2 := bl_trans HZ0.out hb2
  refine hK.out _ _ (HSC.out _ hz2) (fun hHeld => ?_)
  clear hK K
  try simp only [Act.put, sl0, sl1, sl2]
  iterate 5 (refine ptY rfl rfl (by kernel_rfl) (by rfl) (by intro w u; (try dsimp only at u); go_simp <;> with_reducible rfl) ‹_› (fun _ _ _ h => h) ?_; simp only [Act.put, sl0, sl1, sl2])
  iterate 11 (refine ptN rfl rfl (by kernel_rfl) (by rfl) ‹_› (fun _ _ _ h => h) ?_; simp only [Act.put, sl0, sl1, sl2])
  iterate 3 (refine ptY rfl rfl (by kernel_rfl) (by rfl) (by intro w u; (try dsimp only at u); go_simp <;> with_reducible rfl) ‹_› (fun _ _ _ h => h) ?_; simp only [Act.put, sl0, sl1, sl2])
  refine wpAnyH_done (by kernel_rfl) ?_ _
  replace HB := Lib.hid (HB.out.keep hz2)
  clear hb2 hz2 HSC HZ0 HS1 KR1
  go_wp2
  go_ret
  exact ⟨ret_bool hno.out.symm, HB.out.below⟩
 subst h3
 have heq : Hid (inB sz m x l = trB sz m x (l.getD 0 0) (l.getD 1 0) (l.getD 2 0)) := by show _ = _; unfold inB; rw [hh, decide_eq_true HN.out.symm]; rfl
 have KH : Hid (∀ z : World, Below W.heap.size W z → Calls Tryz.prog 238 #[.agg #[.int .i64 sz, .slice A m c], .slice Al 3 cl] z fun e w' => e = .returned (.bool false) ∧ Below z.heap.size z w') := fun z hz => by
  have := IsHole_s sz A m c x Al 3 cl l z (HK.out.keep hz) (HL.out.keep hz) hm hn
  rwa [hh] at this
 obtain ⟨b2, o2, hA⟩ := HL.out.addr (by omega)
 subst hA
 have p0 : W.cell? ⟨b2, o2, none⟩ = some (.int .i64 (l.getD 0 0)) := HL.out.at (j := 0) (by omega)
 have p1 := HL.out.at (j := 1) (by omega)
 have p2 := HL.out.at (j := 2) (by omega)
 obtain ⟨v0, hv0⟩ : ∃ v, v = l.getD 0 0 := ⟨_, rfl⟩
 obtain ⟨v1, hv1⟩ : ∃ v, v = l.getD 1 0 := ⟨_, rfl⟩
 obtain ⟨v2, hv2⟩ : ∃ v, v = l.getD 2 0 := ⟨_, rfl⟩
 rw [← hv0] at p0 heq
 rw [← hv1] at p1 heq
 rw [← hv2] at p2 heq
 have KT : Hid (∀ z : World, Below W.heap.size W z → Calls Tryz.prog 315 #[.agg #[.int .i64 sz, .slice A m c], .int .i64 v0, .int .i64 v1, .int .i64 v2] z fun e w' => e = .returned (.bool (trB sz m x v0 v1 v2)) ∧ Below z.heap.size z w') := fun z hz => IsTriple_s sz A m c x v0 v1 v2 z (HK.out.keep hz) hm
 clear hh hv0 hv1 hv2
 go_enter Tryz.func239, Tryz.ntmps239
 go_wp2_with fail
 rw [← HW.out]
 have HSC : Hid (∀ z : World, Below W.heap.size W z → (Below W.heap.size W z ∧ z.cell? ⟨w.heap.size, 0, none⟩ = some (.int .i64 sz) ∧ z.cell? ⟨w.heap.size, 1, none⟩ = some (.slice A m c) ∧ z.cell? ⟨b2, o2, none⟩ = some (.int .i64 v0) ∧ z.cell? ⟨b2, o2 + 1, none⟩ = some (.int .i64 v1) ∧ z.cell? ⟨b2, o2 + 2, none⟩ = some (.int .i64 v2))) := fun z hz => ⟨hz, up_ hz e0, up_ hz e1, up_ hz p0, up_ hz p1, up_ hz p2⟩
 have HZ0 : Hid (Below W.heap.size W W.drew) := (Below.refl _ _).drew
 have HS1 := Lib.hid (HSC.out _ HZ0.out)
 have KR1 : Hid (∀ z : World, Below W.heap.size W z → _) := fun z hz => KH.out z hz
 have KR2 : Hid (∀ z : World, Below W.heap.size W z → _) := fun z hz => KT.out z hz
 refine wp_region_held_drew (S := fun z => Below W.heap.size W z ∧ z.cell? ⟨w.heap.size, 0, none⟩ = some (.int .i64 sz) ∧ z.cell? ⟨w.heap.size, 1, none⟩ = some (.slice A m c) ∧ z.cell? ⟨b2, o2, none⟩ = some (.int .i64 v0) ∧ z.cell? ⟨b2, o2 + 1, none⟩ = some (.int .i64 v1) ∧ z.cell? ⟨b2, o2 + 2, none⟩ = some (.int .i64 v2)) (by kernel_rfl) HS1.out (fun hHeld => ?_)
 refine pcY 0 rfl rfl (by kernel_rfl) (by rfl) (by intro w u; (try dsimp only at u); go_simp <;> with_reducible rfl) ‹_› (fun _ _ _ h => h) ?_; simp only [Act.put, sl0, sl1, sl2]
 refine ptY rfl rfl (by kernel_rfl) (by rfl) (by intro w u; (try dsimp only at u); go_simp <;> with_reducible rfl) ‹_› (fun _ _ _ h => h) ?_; simp only [Act.put, sl0, sl1, sl2]
 refine wpAnyH_ready (rs := [2]) (by kernel_rfl) (by simp) ?_
 refine AllReadyH.cons rfl (fun K hK => ?_) AllReadyH.nil
 go_simp
 go_at_call 238; refine (KR1.out _ HZ0.out).mono ?_
 rintro e w3 ⟨rfl, hb3⟩
 have hz3 := bl_trans HZ0.out hb3
 refine hK.out _ _ (HSC.out _ hz3) (fun hHeld => ?_)
 clear hK K
 try simp only [Act.put, sl0, sl1, sl2]
 iterate 15 (refine ptY rfl rfl (by kernel_rfl) (by rfl) (by intro w u; (try dsimp only at u); go_simp <;> with_reducible rfl) ‹_› (fun _ _ _ h => h) ?_; simp only [Act.put, sl0, sl1, sl2])
 refine wpAnyH_ready (rs := [18]) (by kernel_rfl) (by simp) ?_
 refine AllReadyH.cons rfl (fun K hK => ?_) AllReadyH.nil
 go_simp
 go_at_call 315; refine (KR2.out _ hz3).mono ?_
 rintro e w4 ⟨rfl, hb4⟩
 have hz4 := bl_trans hz3 hb4
 refine hK.out _ _ (HSC.out _ hz4) (fun hHeld => ?_)
 clear hK K
 try simp only [Act.put, sl0, sl1, sl2]
 iterate 3 (refine ptY rfl rfl (by kernel_rfl) (by rfl) (by intro w u; (try dsimp only at u); go_simp <;> with_reducible rfl) ‹_› (fun _ _ _ h => h) ?_; simp only [Act.put, sl0, sl1, sl2])
 refine wpAnyH_done (by kernel_rfl) ?_ _
 replace HB := Lib.hid (HB.out.keep hz4)
 clear hb3 hz3 hb4 hz4 HSC HZ0 HS1 KR1 KR2
 go_wp2
 go_ret
 exact ⟨ret_bool heq.out.symm, HB.out.below⟩
set_option maxRecDepth 100000 in
set_option maxHeartbeats 3200000 in
theorem IsProperObstacle_s (h : GA w A m c x) (hl : LI w Al n cl l) (hm : m ≤ 1048576) (hn : n ≤ 1048576) :
 Calls Tryz.prog 240 #[.agg #[.int .i64 sz, .slice A m c], .slice Al n cl] w fun e w' => e = .returned (.bool (prO sz m x l)) ∧ Below w.heap.size w w' := by
 obtain ⟨W, hW⟩ : ∃ W : World, W = (w.alloc (Obj.cells #[Value.int IntKind.i64 sz, Value.slice A m c] 28)) := ⟨_, rfl⟩
 have HB : Hid (From w W) := by rw [hW]; exact From.alloc _ _
 have HK := Lib.hid (h.keep HB.out.below)
 have HL := Lib.hid (hl.keep HB.out.below)
 have HC : Hid (GC W w.heap.size sz A m c) := by rw [hW]; exact GC.new _ _ _ _ _
 have HW := Lib.hid hW
 have HN := Lib.hid hl.len
 clear hW h hl
 go_enter Tryz.func240, Tryz.ntmps240
 have e0 := HC.out.c0
 have e1 := HC.out.c1
 go_wp2_with fail
 rw [← HW.out]
 refine (IsClaw_s sz A m c x Al n cl l W HK.out HL.out hm hn).mono ?_
 rintro e w1 ⟨rfl, hb1⟩
 clear HW
 clear e0 e1
 replace HB := Lib.hid (HB.out.keep hb1)
 replace HK := Lib.hid (HK.out.keep hb1)
 replace HL := Lib.hid (HL.out.keep hb1)
 replace HC := Lib.hid (HC.out.keep hb1)
 clear hb1
 have e0 := HC.out.c0
 have e1 := HC.out.c1
 cases hh : clB sz m x l
 rotate_left
 ·have hyes : Hid (prO sz m x l = true) := by show _ = _; unfold prO; rw [hh, Bool.true_or]
  clear hh
  go_wp2
  go_ret
  exact ⟨ret_bool hyes.out.symm, HB.out.below⟩
 have heq : Hid (prO sz m x l = inB sz m x l) := by show _ = _; unfold prO; rw [hh, Bool.false_or]
 clear hh
 go_wp2_with fail
 refine (IsIntervalObstacle_s sz A m c x Al n cl l w1 HK.out HL.out hm hn).mono ?_
 rintro e w2 ⟨rfl, hb2⟩
 clear e0 e1
 replace HB := Lib.hid (HB.out.keep hb2)
 replace HK := Lib.hid (HK.out.keep hb2)
 replace HL := Lib.hid (HL.out.keep hb2)
 replace HC := Lib.hid (HC.out.keep hb2)
 clear hb2
 have e0 := HC.out.c0
 have e1 := HC.out.c1
 go_wp2
 go_ret
 exact ⟨ret_bool heq.out.symm, HB.out.below⟩
end
end Go.Proofs.YtdpkbfiggbcclaaGreat

/-
-/
namespace Go.Proofs.YtdpkbfiggbcclaaGreat
open Go.RowKit
set_option maxRecDepth 100000 in
set_option maxHeartbeats 6400000 in
theorem ComplementOf_s (sz : Int) (A : Option Addr) (m c : Nat) (x : Nat → Int) (w : World) (h : GA w A m c x) (hm : m ≤ 1048576) :
 Calls Tryz.prog 290 #[.agg #[.int .i64 sz, .slice A m c]] w fun e w' => ∃ sz' A' m' c', e = .returned (.tuple #[.agg #[.int .i64 sz', .slice A' m' c'], .bool (okB sz m x)]) ∧ (okB sz m x = true → sz' = (m : Int) ∧ m' = m ∧ GV w' A' m c' (coR (rw_ x) m)) ∧ Below w.heap.size w w' := by
 obtain ⟨W, hW⟩ : ∃ W : World, W = ((w.alloc (Obj.cells #[Value.int IntKind.i64 sz, Value.slice A m c] 28)).alloc (Obj.cells #[Value.int IntKind.i64 0, Value.slice none 0 0] 28)) := ⟨_, rfl⟩
 have HB : Hid (From w W) := by rw [hW]; exact (From.alloc _ _).alloc_ _
 have HZ : Hid (w.heap.size + 2 = W.heap.size) := by rw [hW]; simp [Hid]
 have HS : Hid (From W W) := From.refl W
 have HK := Lib.hid (h.keep HB.out.below)
 have HC : Hid (GC W w.heap.size sz A m c) := by rw [hW]; exact (GC.new _ _ _ _ _).keep ((Below.refl _ _).alloc (Nat.le_refl _) _)
 have HD : Hid (GC W (w.heap.size + 1) 0 none 0 0) := by rw [hW]; constructor <;> simp [go_sem]
 have HW := Lib.hid hW
 clear hW h
 go_enter Tryz.func290, Tryz.ntmps290
 have e0 := HC.out.c0
 have e1 := HC.out.c1
 have d0 := HD.out.c0
 have d1 := HD.out.c1
 have d2 := HD.out.f0
 have d3 := HD.out.f1
 go_wp2_with fail
 rw [← HW.out]
 refine (IsGraph_sany sz A m c x W W.heap.size HK.out.rd (Nat.le_refl _) hm).mono ?_
 rintro e w1 ⟨rfl, hb1⟩
 clear HW
 clear e0 e1 d0 d1 d2 d3
 replace HB := Lib.hid (HB.out.keep hb1)
 replace HS := Lib.hid (HS.out.keep hb1)
 replace HK := Lib.hid (HK.out.keep hb1)
 replace HC := Lib.hid (HC.out.keep hb1)
 replace HD := Lib.hid (HD.out.keep hb1)
 clear hb1
 have e0 := HC.out.c0
 have e1 := HC.out.c1
 have d0 := HD.out.c0
 have d1 := HD.out.c1
 have d2 := HD.out.f0
 have d3 := HD.out.f1
 cases ho : okB sz m x
 ·have Ho := Lib.hid ho
  clear ho
  go_wp2
  have HE := (HB.out.set (q := w.heap.size + 1) (by omega) (.int .i64 0) (.slice none 0 0)).below
  exact bodyPost_ret (v := .tuple #[.agg #[.int .i64 0, .slice none 0 0], .bool false]) (by simp [results, Tryz.results290, go_sem, *]) rfl ⟨0, none, 0, 0, by rw [Ho.out], (fun h => by rw [Ho.out] at h; cases h), HE⟩
 ·obtain ⟨_, es, vg0, _⟩ := okB_ok' ho
  subst es
  have hn1 := vg0.n1
  have hn7 := vg0.n7
  have HG : Hid (GV w1 A m c (rw_ x)) := HK.out.gv ho
  have Ho := Lib.hid ho
  have HY : Hid (w.heap.size + 2 ≤ w1.heap.size) := by have := HS.out.below.size; have := HZ.out; show _ ≤ _; omega
  obtain ⟨b, o, rfl⟩ := HG.out.addr
  obtain ⟨W2, hW2⟩ : ∃ W2 : World, W2 = (w1.alloc (Obj.cells #[Value.int IntKind.i64 (m : Int), Value.slice none 0 0] 28)) := ⟨_, rfl⟩
  have HR2 : Hid (From w1 W2) := by rw [hW2]; exact From.alloc _ _
  have HQ : Hid (GC W2 w1.heap.size m none 0 0) := by rw [hW2]; exact GC.new _ _ _ _ _
  have hz2 : w1.heap.size + 1 = W2.heap.size := by rw [hW2]; simp
  have HW2 := Lib.hid hW2
  clear hW2 ho vg0
  go_wp2_with fail
  rw [← HW2.out]
  clear HW2
  go_loopw [5] (fun k wr => ∃ (K : Nat) (A' : Option Addr) (c' : Nat), K ≤ m ∧ k = .int .i64 K ∧ Hid (GC wr w1.heap.size m A' K c') ∧ Hid (Own wr (w1.heap.size + 1) wr.heap.size 3 1 A' K c' (fun j => .int .i64 (coR (rw_ x) m j : Nat))) ∧ Hid (From w1 wr) ∧ Hid (w1.heap.size + 1 ≤ wr.heap.size)) (fun k _ => m - (intOf k).toNat)
  case atStart => exact ⟨0, none, 0, Nat.zero_le _, rfl, HQ, Own.nil _ _ _ _ _ _, HR2, Nat.le_of_eq hz2⟩
  case round =>
   obtain ⟨K, A', c', hK, rfl, HQr, HOr, HRr, HZr⟩ := hrel
   have HCr := Lib.hid (HC.out.keep HRr.out.below)
   have e0 := HCr.out.c0
   have e1 := HCr.out.c1
   have g0 := HQr.out.c0
   have g1 := HQr.out.c1
   have g2 := HQr.out.f0
   have g3 := HQr.out.f1
   by_cases hlt : K < m
   ·have HGr := Lib.hid (HG.out.keep HRr.out.below)
    have q0 := HGr.out.row hlt
    have hr := HGr.out.vg.lt K hlt
    obtain ⟨y, hy⟩ : ∃ y, y = rw_ x K := ⟨_, rfl⟩
    have hirr := HGr.out.vg.irr K hlt
    have hco : coR (rw_ x) m K = 2 ^ m - 1 - y - 2 ^ K ∧ y + 2 ^ K ≤ 2 ^ m - 1 := by rw [hy]; exact coR_sub HGr.out.vg hlt
    rw [← hy] at q0 hr
    have t1 := two_pow_int m hn7
    have t2 := two_pow_int K (by omega)
    have p1 := pow_shl m hn7
    have p2 := pow_shl K (by omega)
    have c1 : ((2 ^ m : Nat) : Int) = 2 ^ m := by simp
    have c2 : ((2 ^ K : Nat) : Int) = 2 ^ K := by simp
    have hle := hco.2
    have t3 : (y : Int) + 2 ^ K ≤ 2 ^ m - 1 := by rw [← c1, ← c2]; omega
    have s1 : IntKind.i64.wrap ((2 : Int) ^ m - 1) = 2 ^ m - 1 := Go.IntWalk.i64_in _ (by omega)
    have s2 : IntKind.i64.wrap ((2 : Int) ^ m - 1 - (y : Int)) = 2 ^ m - 1 - (y : Int) := Go.IntWalk.i64_in _ (by omega)
    have s3 : IntKind.i64.wrap ((2 : Int) ^ m - 1 - (y : Int) - 2 ^ K) = ((coR (rw_ x) m K : Nat) : Int) := by
     rw [hco.1, Go.IntWalk.i64_in _ (by omega)]
     omega
    have i1 : (K : Int) < (m : Int) := by omega
    obtain ⟨v, hv⟩ : ∃ v, v = coR (rw_ x) m K := ⟨_, rfl⟩
    rw [← hv] at s3
    have Hv := Lib.hid hv
    have HP : Hid (Own ((wr.alloc (Obj.cells #[.int .i64 (v : Int)] 3)).drew) (w1.heap.size + 1) wr.heap.size 3 1 A' K c' (fun j => .int .i64 (coR (rw_ x) m j : Nat))) := HOr.out.alloc _
    have HXn : Hid (∀ i, i < 1 → (#[Value.int .i64 (v : Int)] : Array Value)[i]? = some ((fun j => Value.int .i64 ((coR (rw_ x) m j : Nat) : Int)) (K * 1 + i))) := by
     intro i hi
     obtain rfl : i = 0 := by omega
     simp [Hv.out]
    have n5 : w1.heap.size < wr.heap.size := by have := HZr.out; omega
    have M0 : Hid (GC ((wr.alloc (Obj.cells #[.int .i64 (v : Int)] 3)).drew) w1.heap.size m A' K c') := (HQr.out.keep ((Below.refl _ _).alloc (Nat.le_refl _) _)).drew
    have n6 : K ≤ 1000 := by omega
    clear hv hco hle t1 t2 t3 c1 c2 hr hy hirr HGr HCr
    go_wp2
    go_region_law
     ((refine step_push _ (by rfl) _ _ _ (by rfl) 3 _ 1 8 Tryz.underlying22 info_int rfl (by omega) (w1.heap.size + 1) wr.heap.size A' K c' (fun j => .int .i64 (coR (rw_ x) m j : Nat)) (by rfl) HP.out (by have := HZr.out; simp; omega) wr.heap.size #[.int .i64 (v : Int)] 3 (0, 0) 1 (heap_alloc_new wr _) (by rfl) rfl HXn.out (by simp [Value.oneCell']) (by omega) (by omega) ?_; intro g6 cap w6 hp; have m0 := (hp.below.cell (p := ⟨w1.heap.size, 0, none⟩) (Nat.lt_succ_self _)).trans M0.out.c0; have m1 := (hp.below.cell (p := ⟨w1.heap.size, 1, none⟩) (Nat.lt_succ_self _)).trans M0.out.c1; have m3 := (World.frozen?_of_block (hp.below.block w1.heap.size (Nat.lt_succ_self _))).trans M0.out.f1; have m2 := (World.frozen?_of_block (hp.below.block w1.heap.size (Nat.lt_succ_self _))).trans M0.out.f0))
    all_goals
     obtain ⟨W7, hW7⟩ : ∃ W7 : World, W7 = (w6.setCell ⟨w1.heap.size, 1, none⟩ (.slice (some ⟨g6, 0, none⟩) (K + 1) cap)) := ⟨_, rfl⟩
     rw [← hW7]
     have F7 : Fr w1.heap.size (w1.heap.size + 1) w6 W7 := by rw [hW7]; exact (Fr.refl _ _ w6).setCell (p := ⟨w1.heap.size, 1, none⟩) (Nat.le_refl _) (Nat.lt_succ_self _) _
     have HQ6 : Hid (GC W7 w1.heap.size m (some ⟨g6, 0, none⟩) (K + 1) cap) := by rw [hW7]; constructor <;> simp [go_sem, m0, m1, m2, m3]
     have HO6 : Hid (Own W7 (w1.heap.size + 1) W7.heap.size 3 1 (some ⟨g6, 0, none⟩) (K + 1) cap (fun j => .int .i64 (coR (rw_ x) m j : Nat))) := (hp.own.keep F7 (.inr (Nat.le_refl _))).mono (Nat.le_refl _) F7.size
     have HR6 : Hid (From w1 W7) := by rw [hW7]; exact ⟨((HRr.out.below.trans ((Below.refl w1.heap.size wr).alloc (by omega) _).drew).trans (hp.below.mono (by omega))).setCell (p := ⟨w1.heap.size, 1, none⟩) (Nat.le_refl _) _⟩
     have HZ6 : Hid (w1.heap.size + 1 ≤ W7.heap.size) := by
      show _ ≤ _
      have h1 := hp.below.size
      have h2 : ((wr.alloc (Obj.cells #[.int .i64 (v : Int)] 3)).drew).heap.size = wr.heap.size + 1 := by simp
      have h3 := F7.size
      omega
     clear hp m0 m1 m2 m3 hW7 F7 HP HXn M0
     go_wp2
     go_roundw
     case rel => exact ⟨K + 1, some ⟨g6, 0, none⟩, cap, by omega, by go_num, HQ6, HO6, HR6, HZ6⟩
     case measure => (simp [intOf] <;> omega)
   ·obtain rfl : m = K := by omega
    have i1 : (m : Int) ≤ (m : Int) := Int.le_refl _
    have HDr := Lib.hid (HD.out.keep HRr.out.below)
    have d0 := HDr.out.c0
    have d1 := HDr.out.c1
    have d2 := HDr.out.f0
    have d3 := HDr.out.f1
    go_wp2
    have F := fr2 wr (w.heap.size + 1) (.int .i64 (m : Int)) (.slice A' m c')
    have O1 := (HOr.out.keep F (.inr (by have := HY.out; omega))).mono (Nat.le_refl _) F.size
    have HE := (((HB.out.keep HRr.out.below).set (q := w.heap.size + 1) (by omega) (.int .i64 (m : Int)) (.slice A' m c'))).below
    exact bodyPost_ret (v := .tuple #[.agg #[.int .i64 (m : Int), .slice A' m c'], .bool true]) (by simp [results, Tryz.results290, go_sem, *]) rfl ⟨m, A', m, c', by rw [Ho.out], (fun _ => ⟨rfl, rfl, ⟨coR_vg HG.out.vg, O1.rd⟩⟩), HE⟩
end Go.Proofs.YtdpkbfiggbcclaaGreat
