/-
  Several texts in one.
-/
import Derived.Test.YtdpkbfiggbcclaaGreatQkTripI
/-
-/
namespace Go.Proofs.YtdpkbfiggbcclaaGreat
open Go.RowKit
theorem three_li (z : World) (a b c : Int) : LI (z.alloc (Obj.cells #[Value.int .i64 a, Value.int .i64 b, Value.int .i64 c] 3)) (some ⟨z.heap.size, 0, none⟩) 3 3 [a, b, c] :=
 ⟨rfl, Nat.le_refl _, fun _ => ⟨z.heap.size, 0, rfl, by simp, fun j hj => by
   have h : j = 0 ∨ j = 1 ∨ j = 2 := by omega
   rcases h with rfl | rfl | rfl <;> simp [go_sem]⟩⟩
theorem ivB_three {sz a b c : Int} : ivB sz [a, b, c] = decide ((0 ≤ a ∧ a < sz) ∧ (0 ≤ b ∧ b < sz) ∧ (0 ≤ c ∧ c < sz)) := by
 unfold ivB
 simp [Bool.and_assoc]
theorem avB_iv {sz : Int} {m : Nat} {x : Nat → Int} {a b c : Int} : avB sz m x a b c = ((ivB sz [a, b, c] && okB sz m x) && avN (rw_ x) m a.toNat b.toNat c.toNat) := by
 unfold avB
 rw [ivB_three, Bool.and_comm (okB sz m x)]
section
variable (sz : Int) (A : Option Addr) (m cA : Nat) (x : Nat → Int) (a b c : Int) (w : World)
set_option maxRecDepth 100000 in
set_option maxHeartbeats 6400000 in
theorem AvoidingPath_i (h : GA w A m cA x) (hm : m ≤ 1048576) :
 Calls Tryz.prog 379 #[.agg #[.int .i64 sz, .slice A m cA], .int .i64 a, .int .i64 b, .int .i64 c] w fun e w' => ∃ A' n' c', e = .returned (.tuple #[.slice A' n' c', .bool (avB sz m x a b c)]) ∧ Below w.heap.size w w' := by
 obtain ⟨W, hW⟩ : ∃ W : World, W = ((w.alloc (Obj.cells #[Value.int IntKind.i64 sz, Value.slice A m cA] 28)).alloc (Obj.cells #[Value.int .i64 a, Value.int .i64 b, Value.int .i64 c] 3)) := ⟨_, rfl⟩
 have HB : Hid (From w W) := by rw [hW]; exact (From.alloc _ _).alloc_ _
 have HK := Lib.hid (h.keep HB.out.below)
 have HC : Hid (GC W w.heap.size sz A m cA) := by rw [hW]; exact (GC.new _ _ _ _ _).keep ((Below.refl _ _).alloc (Nat.le_refl _) _)
 have HL : Hid (LI W (some ⟨w.heap.size + 1, 0, none⟩) 3 3 [a, b, c]) := by
  rw [hW]
  have := three_li (w.alloc (Obj.cells #[Value.int IntKind.i64 sz, Value.slice A m cA] 28)) a b c
  have e : (w.alloc (Obj.cells #[Value.int IntKind.i64 sz, Value.slice A m cA] 28)).heap.size = w.heap.size + 1 := by simp
  rw [e] at this
  exact this
 have HW := Lib.hid hW
 clear hW h
 go_enter Tryz.func379, Tryz.ntmps379
 have e0 := HC.out.c0
 have e1 := HC.out.c1
 go_wp2_with fail
 rw [← HW.out]
 refine (isVertex_z sz A m cA x (some ⟨w.heap.size + 1, 0, none⟩) 3 3 [a, b, c] W HK.out HL.out hm (by omega)).mono ?_
 rintro e w1 ⟨rfl, hb1⟩
 clear HW
 clear e0 e1
 replace HB := Lib.hid (HB.out.keep hb1)
 replace HK := Lib.hid (HK.out.keep hb1)
 replace HC := Lib.hid (HC.out.keep hb1)
 clear hb1
 have e0 := HC.out.c0
 have e1 := HC.out.c1
 cases hv : ivB sz [a, b, c] && okB sz m x
 ·have Hn : Hid (avB sz m x a b c = false) := by show _ = _; rw [avB_iv, hv]; rfl
  clear hv
  go_wp2
  go_ret2
  exact ⟨none, 0, 0, by rw [Hn.out]; rfl, HB.out.below⟩
 have HA : Hid (avB sz m x a b c = avN (rw_ x) m a.toNat b.toNat c.toNat) := by show _ = _; rw [avB_iv, hv]; rfl
 rw [Bool.and_eq_true, ivB_three, decide_eq_true_eq] at hv
 obtain ⟨⟨⟨a0, a1⟩, ⟨b0, b1⟩, c0, c1⟩, ho⟩ := hv
 obtain ⟨_, es, vg0, _⟩ := okB_ok' ho
 subst es
 have hn7 := vg0.n7
 have HG : Hid (GV w1 A m cA (rw_ x)) := HK.out.gv ho
 obtain ⟨a, rfl⟩ := Int.eq_ofNat_of_zero_le a0
 obtain ⟨b, rfl⟩ := Int.eq_ofNat_of_zero_le b0
 obtain ⟨c, rfl⟩ := Int.eq_ofNat_of_zero_le c0
 have ham : a < m := by omega
 have hbm : b < m := by omega
 have hcm : c < m := by omega
 obtain ⟨bA, oA, rfl⟩ := HG.out.addr
 have q0 := HG.out.row hcm
 have hr := HG.out.vg.lt128 hcm
 have hset := avS_lt HG.out.vg hcm
 obtain ⟨y, hy⟩ : ∃ y, y = rw_ x c := ⟨_, rfl⟩
 obtain ⟨M, hM⟩ : ∃ M, M = 2 ^ m - 1 := ⟨_, rfl⟩
 have h128 := two_pow_le hn7
 have hco : (M ^^^ (M &&& y)) ^^^ ((M ^^^ (M &&& y)) &&& 2 ^ c) = avS (rw_ x) m c := by
  rw [hM, hy, coR_and, full_and (or_pow_lt HG.out.vg hcm)]
  rfl
 rw [← hy] at q0 hr
 have hMl : M < 128 := by omega
 have c2 : ((2 ^ c : Nat) : Int) = 2 ^ c := by simp
 have hx1 : M ^^^ (M &&& y) < 128 := Nat.xor_lt_two_pow (n := 7) (by omega) (Nat.and_lt_two_pow _ (by omega))
 have hK7 := two_pow_le (n := c) (by omega)
 have E1 := i64_andNot_nat M y (by omega) (by omega)
 have E2 := i64_andNot_nat (M ^^^ (M &&& y)) (2 ^ c) (by omega) (by omega)
 rw [c2, hco] at E2
 have p2 := pow_shl c (by omega)
 have KA : Hid (∀ z : World, Calls Tryz.prog 185 #[.agg #[.int .i64 (m : Int), .slice (some ⟨bA, oA, none⟩) m cA]] z fun e w' => e = .returned (.int .i64 (M : Int)) ∧ Below z.heap.size z w') := fun z => by rw [hM]; exact all_any m _ cA z hn7
 have KS : Hid (∀ z : World, Below w1.heap.size w1 z → Calls Tryz.prog 401 #[.agg #[.int .i64 m, .slice (some ⟨bA, oA, none⟩) m cA], .int .i64 (avS (rw_ x) m c : Nat), .int .i64 a, .int .i64 b] z fun e w' => ∃ A' n c', e = .returned (.tuple #[.slice A' n c', .bool (avN (rw_ x) m a b c)]) ∧ Below z.heap.size z w') := fun z hz => shortestWay_i (HG.out.keep hz) hset ham hbm
 obtain ⟨S0, hS0⟩ : ∃ S0, S0 = avS (rw_ x) m c := ⟨_, rfl⟩
 rw [← hS0] at E2 KS
 have i1 : (c : Int) < (m : Int) := by omega
 clear hy hM hco hr hMl c2 hx1 hK7 h128 hS0 hset ho vg0 HK HL
 go_wp2
 have HSC : Hid (∀ z : World, Below w1.heap.size w1 z → (Below w1.heap.size w1 z ∧ z.cell? ⟨w.heap.size, 0, none⟩ = some (.int .i64 m) ∧ z.cell? ⟨w.heap.size, 1, none⟩ = some (.slice (some ⟨bA, oA, none⟩) m cA) ∧ z.cell? ⟨bA, oA + c, none⟩ = some (.int .i64 (y : Int)))) := fun z hz => ⟨hz, up_ hz e0, up_ hz e1, up_ hz q0⟩
 have HZ0 : Hid (Below w1.heap.size w1 w1.drew) := (Below.refl _ _).drew
 have HS1 := Lib.hid (HSC.out _ HZ0.out)
 have KR1 : Hid (∀ z : World, Below w1.heap.size w1 z → _) := fun z hz => KA.out z
 have KR2 : Hid (∀ z : World, Below w1.heap.size w1 z → _) := fun z hz => KS.out z hz
 go_region_held3 (fun z => Below w1.heap.size w1 z ∧ z.cell? ⟨w.heap.size, 0, none⟩ = some (.int .i64 m) ∧ z.cell? ⟨w.heap.size, 1, none⟩ = some (.slice (some ⟨bA, oA, none⟩) m cA) ∧ z.cell? ⟨bA, oA + c, none⟩ = some (.int .i64 (y : Int)))
  (first | exact HS1.out | assumption | exact HSC.out _ hz3 | exact HSC.out _ hz2 | fail)
  (first | (go_at_call 185; ((with_reducible refine (KR1.out _ HZ0.out).mono ?_); rintro e w2 ⟨rfl, hb2⟩; have hz2 := bl_trans HZ0.out hb2)) | (go_at_call 401; ((with_reducible refine (KR2.out _ hz2).mono ?_); rintro e w3 ⟨A7, n7, c7, rfl, hb3⟩; have hz3 := bl_trans hz2 hb3)))
 clear e0 e1
 replace HB := Lib.hid (HB.out.keep hz3)
 replace HC := Lib.hid (HC.out.keep hz3)
 clear hb2 hz2 hb3 hz3 HSC HZ0 HS1 KR1 KR2
 have e0 := HC.out.c0
 have e1 := HC.out.c1
 all_goals
  go_wp2
  go_ret2
  exact ⟨A7, n7, c7, by rw [HA.out]; rfl, HB.out.below⟩
end
end Go.Proofs.YtdpkbfiggbcclaaGreat

/-
-/
namespace Go.Proofs.YtdpkbfiggbcclaaGreat
open Go.RowKit
noncomputable def inB (sz : Int) (m : Nat) (x : Nat → Int) (l : List Int) : Bool := hoB sz m x l || (decide (l.length = 3) && trB sz m x (l.getD 0 0) (l.getD 1 0) (l.getD 2 0))
noncomputable def prO (sz : Int) (m : Nat) (x : Nat → Int) (l : List Int) : Bool := clB sz m x l || inB sz m x l
section
variable (sz : Int) (A : Option Addr) (m cA : Nat) (x : Nat → Int) (a b c : Int) (w : World)
set_option maxRecDepth 100000 in
set_option maxHeartbeats 6400000 in
theorem IsTriple_i (h : GA w A m cA x) (hm : m ≤ 1048576) :
 Calls Tryz.prog 324 #[.agg #[.int .i64 sz, .slice A m cA], .int .i64 a, .int .i64 b, .int .i64 c] w fun e w' => e = .returned (.bool (trB sz m x a b c)) ∧ Below w.heap.size w w' := by
 obtain ⟨W, hW⟩ : ∃ W : World, W = (w.alloc (Obj.cells #[Value.int IntKind.i64 sz, Value.slice A m cA] 28)) := ⟨_, rfl⟩
 have HB : Hid (From w W) := by rw [hW]; exact From.alloc _ _
 have HK := Lib.hid (h.keep HB.out.below)
 have HC : Hid (GC W w.heap.size sz A m cA) := by rw [hW]; exact GC.new _ _ _ _ _
 have HW := Lib.hid hW
 clear hW h
 by_cases h0 : a = b
 ·have hno : Hid (trB sz m x a b c = false) := by show _ = _; unfold trB; subst h0; simp
  have i0 : (a == b) = true := by simpa using h0
  clear h0
  go_enter Tryz.func324, Tryz.ntmps324
  go_wp2
  rw [← HW.out]
  go_ret
  exact ⟨ret_bool hno.out.symm, HB.out.below⟩
 by_cases h1 : b = c
 ·have hno : Hid (trB sz m x a b c = false) := by show _ = _; unfold trB; subst h1; simp
  have i0 : (a == b) = false := by simpa using h0
  have i1 : (b == c) = true := by simpa using h1
  clear h0 h1
  go_enter Tryz.func324, Tryz.ntmps324
  go_wp2
  rw [← HW.out]
  go_ret
  exact ⟨ret_bool hno.out.symm, HB.out.below⟩
 by_cases h2 : c = a
 ·have hno : Hid (trB sz m x a b c = false) := by show _ = _; unfold trB; subst h2; simp
  have i0 : (a == b) = false := by simpa using h0
  have i1 : (b == c) = false := by simpa using h1
  have i2 : (c == a) = true := by simpa using h2
  clear h0 h1 h2
  go_enter Tryz.func324, Tryz.ntmps324
  go_wp2
  rw [← HW.out]
  go_ret
  exact ⟨ret_bool hno.out.symm, HB.out.below⟩
 have Heq : Hid (trB sz m x a b c = (avB sz m x a b c && avB sz m x b c a && avB sz m x c a b)) := by show _ = _; unfold trB; rw [decide_eq_true h0, decide_eq_true h1, decide_eq_true (show a ≠ c from fun e => h2 e.symm)]; simp
 have i0 : (a == b) = false := by simpa using h0
 have i1 : (b == c) = false := by simpa using h1
 have i2 : (c == a) = false := by simpa using h2
 clear h0 h1 h2
 go_enter Tryz.func324, Tryz.ntmps324
 have e0 := HC.out.c0
 have e1 := HC.out.c1
 go_wp2_with fail
 rw [← HW.out]
 refine (AvoidingPath_i sz A m cA x a b c W HK.out hm).mono ?_
 rintro e w1 ⟨A5, n5, c5, rfl, hb1⟩
 clear HW
 clear e0 e1
 replace HB := Lib.hid (HB.out.keep hb1)
 replace HK := Lib.hid (HK.out.keep hb1)
 replace HC := Lib.hid (HC.out.keep hb1)
 clear hb1
 have e0 := HC.out.c0
 have e1 := HC.out.c1
 go_wp2_with fail
 refine (AvoidingPath_i sz A m cA x b c a w1 HK.out hm).mono ?_
 rintro e w2 ⟨A6, n6, c6, rfl, hb2⟩
 clear e0 e1
 replace HB := Lib.hid (HB.out.keep hb2)
 replace HK := Lib.hid (HK.out.keep hb2)
 replace HC := Lib.hid (HC.out.keep hb2)
 clear hb2
 have e0 := HC.out.c0
 have e1 := HC.out.c1
 go_wp2_with fail
 refine (AvoidingPath_i sz A m cA x c a b w2 HK.out hm).mono ?_
 rintro e w3 ⟨A7, n7, c7, rfl, hb3⟩
 clear e0 e1
 replace HB := Lib.hid (HB.out.keep hb3)
 replace HK := Lib.hid (HK.out.keep hb3)
 replace HC := Lib.hid (HC.out.keep hb3)
 clear hb3
 have e0 := HC.out.c0
 have e1 := HC.out.c1
 obtain ⟨t1, ht1⟩ : ∃ t, t = avB sz m x a b c := ⟨_, rfl⟩
 obtain ⟨t2, ht2⟩ : ∃ t, t = avB sz m x b c a := ⟨_, rfl⟩
 obtain ⟨t3, ht3⟩ : ∃ t, t = avB sz m x c a b := ⟨_, rfl⟩
 rw [← ht1, ← ht2, ← ht3] at Heq
 simp only [← ht1, ← ht2, ← ht3]
 clear ht1 ht2 ht3 HK HC e0 e1
 cases t1 <;> cases t2 <;> cases t3 <;> (go_wp2; go_ret; exact ⟨ret_bool (by rw [Heq.out]; rfl), HB.out.below⟩)
end
section
variable (sz : Int) (A : Option Addr) (m c : Nat) (x : Nat → Int) (Al : Option Addr) (n cl : Nat) (l : List Int) (w : World)
set_option maxRecDepth 100000 in
set_option maxHeartbeats 3200000 in
theorem IsIntervalObstacle_i (h : GA w A m c x) (hl : LI w Al n cl l) (hm : m ≤ 1048576) (hn : n ≤ 1048576) :
 Calls Tryz.prog 258 #[.agg #[.int .i64 sz, .slice A m c], .slice Al n cl] w fun e w' => e = .returned (.bool (inB sz m x l)) ∧ Below w.heap.size w w' := by
 obtain ⟨W, hW⟩ : ∃ W : World, W = (w.alloc (Obj.cells #[Value.int IntKind.i64 sz, Value.slice A m c] 28)) := ⟨_, rfl⟩
 have HB : Hid (From w W) := by rw [hW]; exact From.alloc _ _
 have HK := Lib.hid (h.keep HB.out.below)
 have HL := Lib.hid (hl.keep HB.out.below)
 have HC : Hid (GC W w.heap.size sz A m c) := by rw [hW]; exact GC.new _ _ _ _ _
 have HW := Lib.hid hW
 have HN := Lib.hid hl.len
 clear hW h hl
 have e0 := HC.out.c0
 have e1 := HC.out.c1
 cases hh : hoB sz m x l
 rotate_left
 ·have hyes : Hid (inB sz m x l = true) := by show _ = _; unfold inB; rw [hh, Bool.true_or]
  have KH : Hid (∀ z : World, Below W.heap.size W z → Calls Tryz.prog 217 #[.agg #[.int .i64 sz, .slice A m c], .slice Al n cl] z fun e w' => e = .returned (.bool true) ∧ Below z.heap.size z w') := fun z hz => by
   have := IsHole_i sz A m c x Al n cl l z (HK.out.keep hz) (HL.out.keep hz) hm hn
   rwa [hh] at this
  clear hh
  go_enter Tryz.func258, Tryz.ntmps258
  go_wp2_with fail
  rw [← HW.out]
  have HSC : Hid (∀ z : World, Below W.heap.size W z → (Below W.heap.size W z ∧ z.cell? ⟨w.heap.size, 0, none⟩ = some (.int .i64 sz) ∧ z.cell? ⟨w.heap.size, 1, none⟩ = some (.slice A m c))) := fun z hz => ⟨hz, up_ hz e0, up_ hz e1⟩
  have HZ0 : Hid (Below W.heap.size W W.drew) := (Below.refl _ _).drew
  have HS1 := Lib.hid (HSC.out _ HZ0.out)
  have KR1 : Hid (∀ z : World, Below W.heap.size W z → _) := fun z hz => KH.out z hz
  refine wp_region_held_drew (S := fun z => Below W.heap.size W z ∧ z.cell? ⟨w.heap.size, 0, none⟩ = some (.int .i64 sz) ∧ z.cell? ⟨w.heap.size, 1, none⟩ = some (.slice A m c)) (by kernel_rfl) HS1.out (fun hHeld => ?_)
  refine pcY 0 rfl rfl (by kernel_rfl) (by rfl) (by intro w u; (try dsimp only at u); go_simp <;> with_reducible rfl) ‹_› (fun _ _ _ h => h) ?_; simp only [Act.put, sl0, sl1, sl2]
  refine ptY rfl rfl (by kernel_rfl) (by rfl) (by intro w u; (try dsimp only at u); go_simp <;> with_reducible rfl) ‹_› (fun _ _ _ h => h) ?_; simp only [Act.put, sl0, sl1, sl2]
  refine wpAnyH_ready (rs := [2]) (by kernel_rfl) (by simp) ?_
  refine AllReadyH.cons rfl (fun K hK => ?_) AllReadyH.nil
  go_simp
  go_at_call 217; refine (KR1.out _ HZ0.out).mono ?_
  rintro e w1 ⟨rfl, hb1⟩
  have hz1 := bl_trans HZ0.out hb1
  refine hK.out _ _ (HSC.out _ hz1) (fun hHeld => ?_)
  clear hK K
  try simp only [Act.put, sl0, sl1, sl2]
  refine ptY rfl rfl (by kernel_rfl) (by rfl) (by intro w u; (try dsimp only at u); go_simp <;> with_reducible rfl) ‹_› (fun _ _ _ h => h) ?_; simp only [Act.put, sl0, sl1, sl2]
  iterate 16 (refine ptN rfl rfl (by kernel_rfl) (by rfl) ‹_› (fun _ _ _ h => h) ?_; simp only [Act.put, sl0, sl1, sl2])
  iterate 2 (refine ptY rfl rfl (by kernel_rfl) (by rfl) (by intro w u; (try dsimp only at u); go_simp <;> with_reducible rfl) ‹_› (fun _ _ _ h => h) ?_; simp only [Act.put, sl0, sl1, sl2])
  refine wpAnyH_done (by kernel_rfl) ?_ _
  replace HB := Lib.hid (HB.out.keep hz1)
  clear hb1 hz1 HSC HZ0 HS1 KR1
  go_wp2
  go_ret
  exact ⟨ret_bool hyes.out.symm, HB.out.below⟩
 by_cases h3 : n = 3
 rotate_left
 ·have hno : Hid (inB sz m x l = false) := by show _ = _; unfold inB; rw [hh, decide_eq_false (by rw [← HN.out]; exact h3)]; rfl
  have KH : Hid (∀ z : World, Below W.heap.size W z → Calls Tryz.prog 217 #[.agg #[.int .i64 sz, .slice A m c], .slice Al n cl] z fun e w' => e = .returned (.bool false) ∧ Below z.heap.size z w') := fun z hz => by
   have := IsHole_i sz A m c x Al n cl l z (HK.out.keep hz) (HL.out.keep hz) hm hn
   rwa [hh] at this
  have i3 : ((n : Int) == 3) = false := by simp; omega
  clear hh h3
  go_enter Tryz.func258, Tryz.ntmps258
  go_wp2_with fail
  rw [← HW.out]
  have HSC : Hid (∀ z : World, Below W.heap.size W z → (Below W.heap.size W z ∧ z.cell? ⟨w.heap.size, 0, none⟩ = some (.int .i64 sz) ∧ z.cell? ⟨w.heap.size, 1, none⟩ = some (.slice A m c))) := fun z hz => ⟨hz, up_ hz e0, up_ hz e1⟩
  have HZ0 : Hid (Below W.heap.size W W.drew) := (Below.refl _ _).drew
  have HS1 := Lib.hid (HSC.out _ HZ0.out)
  have KR1 : Hid (∀ z : World, Below W.heap.size W z → _) := fun z hz => KH.out z hz
  refine wp_region_held_drew (S := fun z => Below W.heap.size W z ∧ z.cell? ⟨w.heap.size, 0, none⟩ = some (.int .i64 sz) ∧ z.cell? ⟨w.heap.size, 1, none⟩ = some (.slice A m c)) (by kernel_rfl) HS1.out (fun hHeld => ?_)
  refine pcY 0 rfl rfl (by kernel_rfl) (by rfl) (by intro w u; (try dsimp only at u); go_simp <;> with_reducible rfl) ‹_› (fun _ _ _ h => h) ?_; simp only [Act.put, sl0, sl1, sl2]
  refine ptY rfl rfl (by kernel_rfl) (by rfl) (by intro w u; (try dsimp only at u); go_simp <;> with_reducible rfl) ‹_› (fun _ _ _ h => h) ?_; simp only [Act.put, sl0, sl1, sl2]
  refine wpAnyH_ready (rs := [2]) (by kernel_rfl) (by simp) ?_
  refine AllReadyH.cons rfl (fun K hK => ?_) AllReadyH.nil
  go_simp
  go_at_call 217; refine (KR1.out _ HZ0.out).mono ?_
  rintro e w2 ⟨rfl, hb2⟩
  have hz2 := bl_trans HZ0.out hb2
  refine hK.out _ _ (HSC.out _ hz2) (fun hHeld => ?_)
  clear hK K
  try simp only [Act.put, sl0, sl1, sl2]
  iterate 5 (refine ptY rfl rfl (by kernel_rfl) (by rfl) (by intro w u; (try dsimp only at u); go_simp <;> with_reducible rfl) ‹_› (fun _ _ _ h => h) ?_; simp only [Act.put, sl0, sl1, sl2])
  iterate 11 (refine ptN rfl rfl (by kernel_rfl) (by rfl) ‹_› (fun _ _ _ h => h) ?_; simp only [Act.put, sl0, sl1, sl2])
  iterate 3 (refine ptY rfl rfl (by kernel_rfl) (by rfl) (by intro w u; (try dsimp only at u); go_simp <;> with_reducible rfl) ‹_› (fun _ _ _ h => h) ?_; simp only [Act.put, sl0, sl1, sl2])
  refine wpAnyH_done (by kernel_rfl) ?_ _
  replace HB := Lib.hid (HB.out.keep hz2)
  clear hb2 hz2 HSC HZ0 HS1 KR1
  go_wp2
  go_ret
  exact ⟨ret_bool hno.out.symm, HB.out.below⟩
 subst h3
 have heq : Hid (inB sz m x l = trB sz m x (l.getD 0 0) (l.getD 1 0) (l.getD 2 0)) := by show _ = _; unfold inB; rw [hh, decide_eq_true HN.out.symm]; rfl
 have KH : Hid (∀ z : World, Below W.heap.size W z → Calls Tryz.prog 217 #[.agg #[.int .i64 sz, .slice A m c], .slice Al 3 cl] z fun e w' => e = .returned (.bool false) ∧ Below z.heap.size z w') := fun z hz => by
  have := IsHole_i sz A m c x Al 3 cl l z (HK.out.keep hz) (HL.out.keep hz) hm hn
  rwa [hh] at this
 obtain ⟨b2, o2, hA⟩ := HL.out.addr (by omega)
 subst hA
 have p0 : W.cell? ⟨b2, o2, none⟩ = some (.int .i64 (l.getD 0 0)) := HL.out.at (j := 0) (by omega)
 have p1 := HL.out.at (j := 1) (by omega)
 have p2 := HL.out.at (j := 2) (by omega)
 obtain ⟨v0, hv0⟩ : ∃ v, v = l.getD 0 0 := ⟨_, rfl⟩
 obtain ⟨v1, hv1⟩ : ∃ v, v = l.getD 1 0 := ⟨_, rfl⟩
 obtain ⟨v2, hv2⟩ : ∃ v, v = l.getD 2 0 := ⟨_, rfl⟩
 rw [← hv0] at p0 heq
 rw [← hv1] at p1 heq
 rw [← hv2] at p2 heq
 have KT : Hid (∀ z : World, Below W.heap.size W z → Calls Tryz.prog 324 #[.agg #[.int .i64 sz, .slice A m c], .int .i64 v0, .int .i64 v1, .int .i64 v2] z fun e w' => e = .returned (.bool (trB sz m x v0 v1 v2)) ∧ Below z.heap.size z w') := fun z hz => IsTriple_i sz A m c x v0 v1 v2 z (HK.out.keep hz) hm
 clear hh hv0 hv1 hv2
 go_enter Tryz.func258, Tryz.ntmps258
 go_wp2_with fail
 rw [← HW.out]
 have HSC : Hid (∀ z : World, Below W.heap.size W z → (Below W.heap.size W z ∧ z.cell? ⟨w.heap.size, 0, none⟩ = some (.int .i64 sz) ∧ z.cell? ⟨w.heap.size, 1, none⟩ = some (.slice A m c) ∧ z.cell? ⟨b2, o2, none⟩ = some (.int .i64 v0) ∧ z.cell? ⟨b2, o2 + 1, none⟩ = some (.int .i64 v1) ∧ z.cell? ⟨b2, o2 + 2, none⟩ = some (.int .i64 v2))) := fun z hz => ⟨hz, up_ hz e0, up_ hz e1, up_ hz p0, up_ hz p1, up_ hz p2⟩
 have HZ0 : Hid (Below W.heap.size W W.drew) := (Below.refl _ _).drew
 have HS1 := Lib.hid (HSC.out _ HZ0.out)
 have KR1 : Hid (∀ z : World, Below W.heap.size W z → _) := fun z hz => KH.out z hz
 have KR2 : Hid (∀ z : World, Below W.heap.size W z → _) := fun z hz => KT.out z hz
 refine wp_region_held_drew (S := fun z => Below W.heap.size W z ∧ z.cell? ⟨w.heap.size, 0, none⟩ = some (.int .i64 sz) ∧ z.cell? ⟨w.heap.size, 1, none⟩ = some (.slice A m c) ∧ z.cell? ⟨b2, o2, none⟩ = some (.int .i64 v0) ∧ z.cell? ⟨b2, o2 + 1, none⟩ = some (.int .i64 v1) ∧ z.cell? ⟨b2, o2 + 2, none⟩ = some (.int .i64 v2)) (by kernel_rfl) HS1.out (fun hHeld => ?_)
 refine pcY 0 rfl rfl (by kernel_rfl) (by rfl) (by intro w u; (try dsimp only at u); go_simp <;> with_reducible rfl) ‹_› (fun _ _ _ h => h) ?_; simp only [Act.put, sl0, sl1, sl2]
 refine ptY rfl rfl (by kernel_rfl) (by rfl) (by intro w u; (try dsimp only at u); go_simp <;> with_reducible rfl) ‹_› (fun _ _ _ h => h) ?_; simp only [Act.put, sl0, sl1, sl2]
 refine wpAnyH_ready (rs := [2]) (by kernel_rfl) (by simp) ?_
 refine AllReadyH.cons rfl (fun K hK => ?_) AllReadyH.nil
 go_simp
 go_at_call 217; refine (KR1.out _ HZ0.out).mono ?_
 rintro e w3 ⟨rfl, hb3⟩
 have hz3 := bl_trans HZ0.out hb3
 refine hK.out _ _ (HSC.out _ hz3) (fun hHeld => ?_)
 clear hK K
 try simp only [Act.put, sl0, sl1, sl2]
 iterate 15 (refine ptY rfl rfl (by kernel_rfl) (by rfl) (by intro w u; (try dsimp only at u); go_simp <;> with_reducible rfl) ‹_› (fun _ _ _ h => h) ?_; simp only [Act.put, sl0, sl1, sl2])
 refine wpAnyH_ready (rs := [18]) (by kernel_rfl) (by simp) ?_
 refine AllReadyH.cons rfl (fun K hK => ?_) AllReadyH.nil
 go_simp
 go_at_call 324; refine (KR2.out _ hz3).mono ?_
 rintro e w4 ⟨rfl, hb4⟩
 have hz4 := bl_trans hz3 hb4
 refine hK.out _ _ (HSC.out _ hz4) (fun hHeld => ?_)
 clear hK K
 try simp only [Act.put, sl0, sl1, sl2]
 iterate 3 (refine ptY rfl rfl (by kernel_rfl) (by rfl) (by intro w u; (try dsimp only at u); go_simp <;> with_reducible rfl) ‹_› (fun _ _ _ h => h) ?_; simp only [Act.put, sl0, sl1, sl2])
 refine wpAnyH_done (by kernel_rfl) ?_ _
 replace HB := Lib.hid (HB.out.keep hz4)
 clear hb3 hz3 hb4 hz4 HSC HZ0 HS1 KR1 KR2
 go_wp2
 go_ret
 exact ⟨ret_bool heq.out.symm, HB.out.below⟩
set_option maxRecDepth 100000 in
set_option maxHeartbeats 3200000 in
theorem IsProperObstacle_i (h : GA w A m c x) (hl : LI w Al n cl l) (hm : m ≤ 1048576) (hn : n ≤ 1048576) :
 Calls Tryz.prog 259 #[.agg #[.int .i64 sz, .slice A m c], .slice Al n cl] w fun e w' => e = .returned (.bool (prO sz m x l)) ∧ Below w.heap.size w w' := by
 obtain ⟨W, hW⟩ : ∃ W : World, W = (w.alloc (Obj.cells #[Value.int IntKind.i64 sz, Value.slice A m c] 28)) := ⟨_, rfl⟩
 have HB : Hid (From w W) := by rw [hW]; exact From.alloc _ _
 have HK := Lib.hid (h.keep HB.out.below)
 have HL := Lib.hid (hl.keep HB.out.below)
 have HC : Hid (GC W w.heap.size sz A m c) := by rw [hW]; exact GC.new _ _ _ _ _
 have HW := Lib.hid hW
 have HN := Lib.hid hl.len
 clear hW h hl
 go_enter Tryz.func259, Tryz.ntmps259
 have e0 := HC.out.c0
 have e1 := HC.out.c1
 go_wp2_with fail
 rw [← HW.out]
 refine (IsClaw_i sz A m c x Al n cl l W HK.out HL.out hm hn).mono ?_
 rintro e w1 ⟨rfl, hb1⟩
 clear HW
 clear e0 e1
 replace HB := Lib.hid (HB.out.keep hb1)
 replace HK := Lib.hid (HK.out.keep hb1)
 replace HL := Lib.hid (HL.out.keep hb1)
 replace HC := Lib.hid (HC.out.keep hb1)
 clear hb1
 have e0 := HC.out.c0
 have e1 := HC.out.c1
 cases hh : clB sz m x l
 rotate_left
 ·have hyes : Hid (prO sz m x l = true) := by show _ = _; unfold prO; rw [hh, Bool.true_or]
  clear hh
  go_wp2
  go_ret
  exact ⟨ret_bool hyes.out.symm, HB.out.below⟩
 have heq : Hid (prO sz m x l = inB sz m x l) := by show _ = _; unfold prO; rw [hh, Bool.false_or]
 clear hh
 go_wp2_with fail
 refine (IsIntervalObstacle_i sz A m c x Al n cl l w1 HK.out HL.out hm hn).mono ?_
 rintro e w2 ⟨rfl, hb2⟩
 clear e0 e1
 replace HB := Lib.hid (HB.out.keep hb2)
 replace HK := Lib.hid (HK.out.keep hb2)
 replace HL := Lib.hid (HL.out.keep hb2)
 replace HC := Lib.hid (HC.out.keep hb2)
 clear hb2
 have e0 := HC.out.c0
 have e1 := HC.out.c1
 go_wp2
 go_ret
 exact ⟨ret_bool heq.out.symm, HB.out.below⟩
end
end Go.Proofs.YtdpkbfiggbcclaaGreat
