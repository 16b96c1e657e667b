/-
  Contracts: a way that avoids a vertex; an asteroidal triple: the program's.
-/
import Derived.Test.YtdpkbfiggbcclaaGreatQjTripI
namespace Go.Proofs.YtdpkbfiggbcclaaGreat
open Go.RowKit

theorem three_li (z : World) (a b c : Int) : LI (z.alloc (Obj.cells #[Value.int .i64 a, Value.int .i64 b, Value.int .i64 c] 3)) (some ⟨z.heap.size, 0, none⟩) 3 3 [a, b, c] :=
  ⟨rfl, Nat.le_refl _, fun _ => ⟨z.heap.size, 0, rfl, by simp, fun j hj => by
    have h : j = 0 ∨ j = 1 ∨ j = 2 := by omega
    rcases h with rfl | rfl | rfl <;> simp [go_sem]⟩⟩
theorem ivB_three {sz a b c : Int} : ivB sz [a, b, c] = decide ((0 ≤ a ∧ a < sz) ∧ (0 ≤ b ∧ b < sz) ∧ (0 ≤ c ∧ c < sz)) := by
  unfold ivB
  simp [Bool.and_assoc]
theorem avB_iv {sz : Int} {m : Nat} {x : Nat → Int} {a b c : Int} : avB sz m x a b c = ((ivB sz [a, b, c] && okB sz m x) && avN (rw_ x) m a.toNat b.toNat c.toNat) := by
  unfold avB
  rw [ivB_three, Bool.and_comm (okB sz m x)]

section
variable (sz : Int) (A : Option Addr) (m cA : Nat) (x : Nat → Int) (a b c : Int) (w : World)
set_option maxRecDepth 100000 in
set_option maxHeartbeats 6400000 in
theorem AvoidingPath_i (h : GA w A m cA x) (hm : m ≤ 1048576) :
    Calls Tryz.prog 379 #[.agg #[.int .i64 sz, .slice A m cA], .int .i64 a, .int .i64 b, .int .i64 c] w fun e w' => ∃ A' n' c', e = .returned (.tuple #[.slice A' n' c', .bool (avB sz m x a b c)]) ∧ Below w.heap.size w w' := by
  obtain ⟨W, hW⟩ : ∃ W : World, W = ((w.alloc (Obj.cells #[Value.int IntKind.i64 sz, Value.slice A m cA] 28)).alloc (Obj.cells #[Value.int .i64 a, Value.int .i64 b, Value.int .i64 c] 3)) := ⟨_, rfl⟩
  have HB : Hid (From w W) := by rw [hW]; exact (From.alloc _ _).alloc_ _
  have HK := Lib.hid (h.keep HB.out.below)
  have HC : Hid (GC W w.heap.size sz A m cA) := by rw [hW]; exact (GC.new _ _ _ _ _).keep ((Below.refl _ _).alloc (Nat.le_refl _) _)
  have HL : Hid (LI W (some ⟨w.heap.size + 1, 0, none⟩) 3 3 [a, b, c]) := by
    rw [hW]
    have := three_li (w.alloc (Obj.cells #[Value.int IntKind.i64 sz, Value.slice A m cA] 28)) a b c
    have e : (w.alloc (Obj.cells #[Value.int IntKind.i64 sz, Value.slice A m cA] 28)).heap.size = w.heap.size + 1 := by simp
    rw [e] at this
    exact this
  have HW := Lib.hid hW
  clear hW h
  go_enter Tryz.func379, Tryz.ntmps379
  have e0 := HC.out.c0
  have e1 := HC.out.c1
  go_wp2_with fail
  rw [← HW.out]
  refine (isVertex_z sz A m cA x (some ⟨w.heap.size + 1, 0, none⟩) 3 3 [a, b, c] W HK.out HL.out hm (by omega)).mono ?_
  rintro e w1 ⟨rfl, hb1⟩
  clear HW
  clear e0 e1
  replace HB := Lib.hid (HB.out.keep hb1)
  replace HK := Lib.hid (HK.out.keep hb1)
  replace HC := Lib.hid (HC.out.keep hb1)
  clear hb1
  have e0 := HC.out.c0
  have e1 := HC.out.c1
  cases hv : ivB sz [a, b, c] && okB sz m x
  · have Hn : Hid (avB sz m x a b c = false) := by show _ = _; rw [avB_iv, hv]; rfl
    clear hv
    go_wp2
    go_ret2
    exact ⟨none, 0, 0, by rw [Hn.out]; rfl, HB.out.below⟩
  have HA : Hid (avB sz m x a b c = avN (rw_ x) m a.toNat b.toNat c.toNat) := by show _ = _; rw [avB_iv, hv]; rfl
  rw [Bool.and_eq_true, ivB_three, decide_eq_true_eq] at hv
  obtain ⟨⟨⟨a0, a1⟩, ⟨b0, b1⟩, c0, c1⟩, ho⟩ := hv
  obtain ⟨_, es, vg0, _⟩ := okB_ok' ho
  subst es
  have hn7 := vg0.n7
  have HG : Hid (GV w1 A m cA (rw_ x)) := HK.out.gv ho
  obtain ⟨a, rfl⟩ := Int.eq_ofNat_of_zero_le a0
  obtain ⟨b, rfl⟩ := Int.eq_ofNat_of_zero_le b0
  obtain ⟨c, rfl⟩ := Int.eq_ofNat_of_zero_le c0
  have ham : a < m := by omega
  have hbm : b < m := by omega
  have hcm : c < m := by omega
  obtain ⟨bA, oA, rfl⟩ := HG.out.addr
  have q0 := HG.out.row hcm
  have hr := HG.out.vg.lt128 hcm
  have hset := avS_lt HG.out.vg hcm
  obtain ⟨y, hy⟩ : ∃ y, y = rw_ x c := ⟨_, rfl⟩
  obtain ⟨M, hM⟩ : ∃ M, M = 2 ^ m - 1 := ⟨_, rfl⟩
  have h128 := two_pow_le hn7
  have hco : (M ^^^ (M &&& y)) ^^^ ((M ^^^ (M &&& y)) &&& 2 ^ c) = avS (rw_ x) m c := by
    rw [hM, hy, coR_and, full_and (or_pow_lt HG.out.vg hcm)]
    rfl
  rw [← hy] at q0 hr
  have hMl : M < 128 := by omega
  have c2 : ((2 ^ c : Nat) : Int) = 2 ^ c := by simp
  have hx1 : M ^^^ (M &&& y) < 128 := Nat.xor_lt_two_pow (n := 7) (by omega) (Nat.and_lt_two_pow _ (by omega))
  have hK7 := two_pow_le (n := c) (by omega)
  have E1 := i64_andNot_nat M y (by omega) (by omega)
  have E2 := i64_andNot_nat (M ^^^ (M &&& y)) (2 ^ c) (by omega) (by omega)
  rw [c2, hco] at E2
  have p2 := pow_shl c (by omega)
  have KA : Hid (∀ z : World, Calls Tryz.prog 185 #[.agg #[.int .i64 (m : Int), .slice (some ⟨bA, oA, none⟩) m cA]] z fun e w' => e = .returned (.int .i64 (M : Int)) ∧ Below z.heap.size z w') := fun z => by rw [hM]; exact all_any m _ cA z hn7
  have KS : Hid (∀ z : World, Below w1.heap.size w1 z → Calls Tryz.prog 401 #[.agg #[.int .i64 m, .slice (some ⟨bA, oA, none⟩) m cA], .int .i64 (avS (rw_ x) m c : Nat), .int .i64 a, .int .i64 b] z fun e w' => ∃ A' n c', e = .returned (.tuple #[.slice A' n c', .bool (avN (rw_ x) m a b c)]) ∧ Below z.heap.size z w') := fun z hz => shortestWay_i (HG.out.keep hz) hset ham hbm
  obtain ⟨S0, hS0⟩ : ∃ S0, S0 = avS (rw_ x) m c := ⟨_, rfl⟩
  rw [← hS0] at E2 KS
  have i1 : (c : Int) < (m : Int) := by omega
  clear hy hM hco hr hMl c2 hx1 hK7 h128 hS0 hset ho vg0 HK HL
  go_wp2
  have HSC : Hid (∀ z : World, Below w1.heap.size w1 z → (Below w1.heap.size w1 z ∧ z.cell? ⟨w.heap.size, 0, none⟩ = some (.int .i64 m) ∧ z.cell? ⟨w.heap.size, 1, none⟩ = some (.slice (some ⟨bA, oA, none⟩) m cA) ∧ z.cell? ⟨bA, oA + c, none⟩ = some (.int .i64 (y : Int)))) := fun z hz => ⟨hz, up_ hz e0, up_ hz e1, up_ hz q0⟩
  have HZ0 : Hid (Below w1.heap.size w1 w1.drew) := (Below.refl _ _).drew
  have HS1 := Lib.hid (HSC.out _ HZ0.out)
  have KR1 : Hid (∀ z : World, Below w1.heap.size w1 z → _) := fun z hz => KA.out z
  have KR2 : Hid (∀ z : World, Below w1.heap.size w1 z → _) := fun z hz => KS.out z hz
  go_region_held3 (fun z => Below w1.heap.size w1 z ∧ z.cell? ⟨w.heap.size, 0, none⟩ = some (.int .i64 m) ∧ z.cell? ⟨w.heap.size, 1, none⟩ = some (.slice (some ⟨bA, oA, none⟩) m cA) ∧ z.cell? ⟨bA, oA + c, none⟩ = some (.int .i64 (y : Int)))
    (first | exact HS1.out | assumption | exact HSC.out _ hz3 | exact HSC.out _ hz2 | fail)
    (first | (go_at_call 185; ((with_reducible refine (KR1.out _ HZ0.out).mono ?_); rintro e w2 ⟨rfl, hb2⟩; have hz2 := bl_trans HZ0.out hb2)) | (go_at_call 401; ((with_reducible refine (KR2.out _ hz2).mono ?_); rintro e w3 ⟨A7, n7, c7, rfl, hb3⟩; have hz3 := bl_trans hz2 hb3)))
  clear e0 e1
  replace HB := Lib.hid (HB.out.keep hz3)
  replace HC := Lib.hid (HC.out.keep hz3)
  clear hb2 hz2 hb3 hz3 HSC HZ0 HS1 KR1 KR2
  have e0 := HC.out.c0
  have e1 := HC.out.c1
  all_goals
    go_wp2
    go_ret2
    exact ⟨A7, n7, c7, by rw [HA.out]; rfl, HB.out.below⟩
end
end Go.Proofs.YtdpkbfiggbcclaaGreat
