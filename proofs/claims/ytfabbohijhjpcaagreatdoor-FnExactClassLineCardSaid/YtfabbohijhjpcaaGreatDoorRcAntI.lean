/-
  Several texts in one.
-/
import Derived.Test.YtfabbohijhjpcaaGreatDoorRcTripI
import Derived.Test.YtfabbohijhjpcaaGreatDoorRcPthI
import Derived.Test.YtfabbohijhjpcaaGreatDoorRcBarP
import Derived.Test.YtfabbohijhjpcaaGreatDoorRcFirst
import Derived.Test.YtfabbohijhjpcaaGreatDoorRcListZ
import Derived.Test.YtfabbohijhjpcaaGreatDoorRcObsI
import Derived.Test.YtfabbohijhjpcaaGreatDoorRcHolJ
/-
-/
namespace Go.Proofs.YtfabbohijhjpcaaGreatDoor
open Go.RowKit
theorem three_li (z : World) (a b c : Int) : LI (z.alloc (Obj.cells #[Value.int .i64 a, Value.int .i64 b, Value.int .i64 c] 3)) (some ⟨z.heap.size, 0, none⟩) 3 3 [a, b, c] :=
 ⟨rfl, Nat.le_refl _, fun _ => ⟨z.heap.size, 0, rfl, by simp, fun j hj => by
   have h : j = 0 ∨ j = 1 ∨ j = 2 := by omega
   rcases h with rfl | rfl | rfl <;> simp [go_sem]⟩⟩
theorem ivB_three {sz a b c : Int} : ivB sz [a, b, c] = decide ((0 ≤ a ∧ a < sz) ∧ (0 ≤ b ∧ b < sz) ∧ (0 ≤ c ∧ c < sz)) := by
 unfold ivB
 simp [Bool.and_assoc]
theorem avB_iv {sz : Int} {m : Nat} {x : Nat → Int} {a b c : Int} : avB sz m x a b c = ((ivB sz [a, b, c] && okB sz m x) && avN (rw_ x) m a.toNat b.toNat c.toNat) := by
 unfold avB
 rw [ivB_three, Bool.and_comm (okB sz m x)]
section
variable (sz : Int) (A : Option Addr) (m cA : Nat) (x : Nat → Int) (a b c : Int) (w : World)
set_option maxRecDepth 100000 in
set_option maxHeartbeats 6400000 in
theorem AvoidingPath_i (h : GA w A m cA x) (hm : m ≤ 1048576) :
 Calls Tryz.prog 332 #[.agg #[.int .i64 sz, .slice A m cA], .int .i64 a, .int .i64 b, .int .i64 c] w fun e w' => ∃ A' n' c', e = .returned (.tuple #[.slice A' n' c', .bool (avB sz m x a b c)]) ∧ Below w.heap.size w w' := by
 obtain ⟨W, hW⟩ : ∃ W : World, W = ((w.alloc (Obj.cells #[Value.int IntKind.i64 sz, Value.slice A m cA] 26)).alloc (Obj.cells #[Value.int .i64 a, Value.int .i64 b, Value.int .i64 c] 3)) := ⟨_, rfl⟩
 have HB : Hid (From w W) := by rw [hW]; exact (From.alloc _ _).alloc_ _
 have HK := Lib.hid (h.keep HB.out.below)
 have HC : Hid (GC W w.heap.size sz A m cA) := by rw [hW]; exact (GC.new _ _ _ _ _).keep ((Below.refl _ _).alloc (Nat.le_refl _) _)
 have HL : Hid (LI W (some ⟨w.heap.size + 1, 0, none⟩) 3 3 [a, b, c]) := by
  rw [hW]
  have := three_li (w.alloc (Obj.cells #[Value.int IntKind.i64 sz, Value.slice A m cA] 26)) a b c
  have e : (w.alloc (Obj.cells #[Value.int IntKind.i64 sz, Value.slice A m cA] 26)).heap.size = w.heap.size + 1 := by simp
  rw [e] at this
  exact this
 have HW := Lib.hid hW
 clear hW h
 go_enter Tryz.func332, Tryz.ntmps332
 have e0 := HC.out.c0
 have e1 := HC.out.c1
 go_wp2_with fail
 rw [← HW.out]
 refine (isVertex_z sz A m cA x (some ⟨w.heap.size + 1, 0, none⟩) 3 3 [a, b, c] W HK.out HL.out hm (by omega)).mono ?_
 rintro e w1 ⟨rfl, hb1⟩
 clear HW
 clear e0 e1
 replace HB := Lib.hid (HB.out.keep hb1)
 replace HK := Lib.hid (HK.out.keep hb1)
 replace HC := Lib.hid (HC.out.keep hb1)
 clear hb1
 have e0 := HC.out.c0
 have e1 := HC.out.c1
 cases hv : ivB sz [a, b, c] && okB sz m x
 ·have Hn : Hid (avB sz m x a b c = false) := by show _ = _; rw [avB_iv, hv]; rfl
  clear hv
  go_wp2
  go_ret2
  exact ⟨none, 0, 0, by rw [Hn.out]; rfl, HB.out.below⟩
 have HA : Hid (avB sz m x a b c = avN (rw_ x) m a.toNat b.toNat c.toNat) := by show _ = _; rw [avB_iv, hv]; rfl
 rw [Bool.and_eq_true, ivB_three, decide_eq_true_eq] at hv
 obtain ⟨⟨⟨a0, a1⟩, ⟨b0, b1⟩, c0, c1⟩, ho⟩ := hv
 obtain ⟨_, es, vg0, _⟩ := okB_ok' ho
 subst es
 have hn7 := vg0.n7
 have HG : Hid (GV w1 A m cA (rw_ x)) := HK.out.gv ho
 obtain ⟨a, rfl⟩ := Int.eq_ofNat_of_zero_le a0
 obtain ⟨b, rfl⟩ := Int.eq_ofNat_of_zero_le b0
 obtain ⟨c, rfl⟩ := Int.eq_ofNat_of_zero_le c0
 have ham : a < m := by omega
 have hbm : b < m := by omega
 have hcm : c < m := by omega
 obtain ⟨bA, oA, rfl⟩ := HG.out.addr
 have q0 := HG.out.row hcm
 have hr := HG.out.vg.lt128 hcm
 have hset := avS_lt HG.out.vg hcm
 obtain ⟨y, hy⟩ : ∃ y, y = rw_ x c := ⟨_, rfl⟩
 obtain ⟨M, hM⟩ : ∃ M, M = 2 ^ m - 1 := ⟨_, rfl⟩
 have h128 := two_pow_le hn7
 have hco : (M ^^^ (M &&& y)) ^^^ ((M ^^^ (M &&& y)) &&& 2 ^ c) = avS (rw_ x) m c := by
  rw [hM, hy, coR_and, full_and (or_pow_lt HG.out.vg hcm)]
  rfl
 rw [← hy] at q0 hr
 have hMl : M < 128 := by omega
 have c2 : ((2 ^ c : Nat) : Int) = 2 ^ c := by simp
 have hx1 : M ^^^ (M &&& y) < 128 := Nat.xor_lt_two_pow (n := 7) (by omega) (Nat.and_lt_two_pow _ (by omega))
 have hK7 := two_pow_le (n := c) (by omega)
 have E1 := i64_andNot_nat M y (by omega) (by omega)
 have E2 := i64_andNot_nat (M ^^^ (M &&& y)) (2 ^ c) (by omega) (by omega)
 rw [c2, hco] at E2
 have p2 := pow_shl c (by omega)
 have KA : Hid (∀ z : World, Calls Tryz.prog 225 #[.agg #[.int .i64 (m : Int), .slice (some ⟨bA, oA, none⟩) m cA]] z fun e w' => e = .returned (.int .i64 (M : Int)) ∧ Below z.heap.size z w') := fun z => by rw [hM]; exact all_any m _ cA z hn7
 have KS : Hid (∀ z : World, Below w1.heap.size w1 z → Calls Tryz.prog 348 #[.agg #[.int .i64 m, .slice (some ⟨bA, oA, none⟩) m cA], .int .i64 (avS (rw_ x) m c : Nat), .int .i64 a, .int .i64 b] z fun e w' => ∃ A' n c', e = .returned (.tuple #[.slice A' n c', .bool (avN (rw_ x) m a b c)]) ∧ Below z.heap.size z w') := fun z hz => shortestWay_i (HG.out.keep hz) hset ham hbm
 obtain ⟨S0, hS0⟩ : ∃ S0, S0 = avS (rw_ x) m c := ⟨_, rfl⟩
 rw [← hS0] at E2 KS
 have i1 : (c : Int) < (m : Int) := by omega
 clear hy hM hco hr hMl c2 hx1 hK7 h128 hS0 hset ho vg0 HK HL
 go_wp2
 have HSC : Hid (∀ z : World, Below w1.heap.size w1 z → (Below w1.heap.size w1 z ∧ z.cell? ⟨w.heap.size, 0, none⟩ = some (.int .i64 m) ∧ z.cell? ⟨w.heap.size, 1, none⟩ = some (.slice (some ⟨bA, oA, none⟩) m cA) ∧ z.cell? ⟨bA, oA + c, none⟩ = some (.int .i64 (y : Int)))) := fun z hz => ⟨hz, up_ hz e0, up_ hz e1, up_ hz q0⟩
 have HZ0 : Hid (Below w1.heap.size w1 w1.drew) := (Below.refl _ _).drew
 have HS1 := Lib.hid (HSC.out _ HZ0.out)
 have KR1 : Hid (∀ z : World, Below w1.heap.size w1 z → _) := fun z hz => KA.out z
 have KR2 : Hid (∀ z : World, Below w1.heap.size w1 z → _) := fun z hz => KS.out z hz
 go_region_held3 (fun z => Below w1.heap.size w1 z ∧ z.cell? ⟨w.heap.size, 0, none⟩ = some (.int .i64 m) ∧ z.cell? ⟨w.heap.size, 1, none⟩ = some (.slice (some ⟨bA, oA, none⟩) m cA) ∧ z.cell? ⟨bA, oA + c, none⟩ = some (.int .i64 (y : Int)))
  (first | exact HS1.out | assumption | exact HSC.out _ hz3 | exact HSC.out _ hz2 | fail)
  (first | (go_at_call 225; ((with_reducible refine (KR1.out _ HZ0.out).mono ?_); rintro e w2 ⟨rfl, hb2⟩; have hz2 := bl_trans HZ0.out hb2)) | (go_at_call 348; ((with_reducible refine (KR2.out _ hz2).mono ?_); rintro e w3 ⟨A7, n7, c7, rfl, hb3⟩; have hz3 := bl_trans hz2 hb3)))
 clear e0 e1
 replace HB := Lib.hid (HB.out.keep hz3)
 replace HC := Lib.hid (HC.out.keep hz3)
 clear hb2 hz2 hb3 hz3 HSC HZ0 HS1 KR1 KR2
 have e0 := HC.out.c0
 have e1 := HC.out.c1
 all_goals
  go_wp2
  go_ret2
  exact ⟨A7, n7, c7, by rw [HA.out]; rfl, HB.out.below⟩
end
end Go.Proofs.YtfabbohijhjpcaaGreatDoor

/-
-/
namespace Go.Proofs.YtfabbohijhjpcaaGreatDoor
open Go.RowKit
section
variable (sz : Int) (A : Option Addr) (m cA : Nat) (x : Nat → Int) (a b c : Int) (w : World)
set_option maxRecDepth 100000 in
set_option maxHeartbeats 6400000 in
theorem IsTriple_i (h : GA w A m cA x) (hm : m ≤ 1048576) :
 Calls Tryz.prog 285 #[.agg #[.int .i64 sz, .slice A m cA], .int .i64 a, .int .i64 b, .int .i64 c] w fun e w' => e = .returned (.bool (trB sz m x a b c)) ∧ Below w.heap.size w w' := by
 obtain ⟨W, hW⟩ : ∃ W : World, W = (w.alloc (Obj.cells #[Value.int IntKind.i64 sz, Value.slice A m cA] 26)) := ⟨_, rfl⟩
 have HB : Hid (From w W) := by rw [hW]; exact From.alloc _ _
 have HK := Lib.hid (h.keep HB.out.below)
 have HC : Hid (GC W w.heap.size sz A m cA) := by rw [hW]; exact GC.new _ _ _ _ _
 have HW := Lib.hid hW
 clear hW h
 by_cases h0 : a = b
 ·have hno : Hid (trB sz m x a b c = false) := by show _ = _; unfold trB; subst h0; simp
  have i0 : (a == b) = true := by simpa using h0
  clear h0
  go_enter Tryz.func285, Tryz.ntmps285
  go_wp2
  rw [← HW.out]
  go_ret
  exact ⟨ret_bool hno.out.symm, HB.out.below⟩
 by_cases h1 : b = c
 ·have hno : Hid (trB sz m x a b c = false) := by show _ = _; unfold trB; subst h1; simp
  have i0 : (a == b) = false := by simpa using h0
  have i1 : (b == c) = true := by simpa using h1
  clear h0 h1
  go_enter Tryz.func285, Tryz.ntmps285
  go_wp2
  rw [← HW.out]
  go_ret
  exact ⟨ret_bool hno.out.symm, HB.out.below⟩
 by_cases h2 : c = a
 ·have hno : Hid (trB sz m x a b c = false) := by show _ = _; unfold trB; subst h2; simp
  have i0 : (a == b) = false := by simpa using h0
  have i1 : (b == c) = false := by simpa using h1
  have i2 : (c == a) = true := by simpa using h2
  clear h0 h1 h2
  go_enter Tryz.func285, Tryz.ntmps285
  go_wp2
  rw [← HW.out]
  go_ret
  exact ⟨ret_bool hno.out.symm, HB.out.below⟩
 have Heq : Hid (trB sz m x a b c = (avB sz m x a b c && avB sz m x b c a && avB sz m x c a b)) := by show _ = _; unfold trB; rw [decide_eq_true h0, decide_eq_true h1, decide_eq_true (show a ≠ c from fun e => h2 e.symm)]; simp
 have i0 : (a == b) = false := by simpa using h0
 have i1 : (b == c) = false := by simpa using h1
 have i2 : (c == a) = false := by simpa using h2
 clear h0 h1 h2
 go_enter Tryz.func285, Tryz.ntmps285
 have e0 := HC.out.c0
 have e1 := HC.out.c1
 go_wp2_with fail
 rw [← HW.out]
 refine (AvoidingPath_i sz A m cA x a b c W HK.out hm).mono ?_
 rintro e w1 ⟨A5, n5, c5, rfl, hb1⟩
 clear HW
 clear e0 e1
 replace HB := Lib.hid (HB.out.keep hb1)
 replace HK := Lib.hid (HK.out.keep hb1)
 replace HC := Lib.hid (HC.out.keep hb1)
 clear hb1
 have e0 := HC.out.c0
 have e1 := HC.out.c1
 go_wp2_with fail
 refine (AvoidingPath_i sz A m cA x b c a w1 HK.out hm).mono ?_
 rintro e w2 ⟨A6, n6, c6, rfl, hb2⟩
 clear e0 e1
 replace HB := Lib.hid (HB.out.keep hb2)
 replace HK := Lib.hid (HK.out.keep hb2)
 replace HC := Lib.hid (HC.out.keep hb2)
 clear hb2
 have e0 := HC.out.c0
 have e1 := HC.out.c1
 go_wp2_with fail
 refine (AvoidingPath_i sz A m cA x c a b w2 HK.out hm).mono ?_
 rintro e w3 ⟨A7, n7, c7, rfl, hb3⟩
 clear e0 e1
 replace HB := Lib.hid (HB.out.keep hb3)
 replace HK := Lib.hid (HK.out.keep hb3)
 replace HC := Lib.hid (HC.out.keep hb3)
 clear hb3
 have e0 := HC.out.c0
 have e1 := HC.out.c1
 obtain ⟨t1, ht1⟩ : ∃ t, t = avB sz m x a b c := ⟨_, rfl⟩
 obtain ⟨t2, ht2⟩ : ∃ t, t = avB sz m x b c a := ⟨_, rfl⟩
 obtain ⟨t3, ht3⟩ : ∃ t, t = avB sz m x c a b := ⟨_, rfl⟩
 rw [← ht1, ← ht2, ← ht3] at Heq
 simp only [← ht1, ← ht2, ← ht3]
 clear ht1 ht2 ht3 HK HC e0 e1
 cases t1 <;> cases t2 <;> cases t3 <;> (go_wp2; go_ret; exact ⟨ret_bool (by rw [Heq.out]; rfl), HB.out.below⟩)
end
section
variable (sz : Int) (A : Option Addr) (m c : Nat) (x : Nat → Int) (Al : Option Addr) (n cl : Nat) (l : List Int) (w : World)
end
end Go.Proofs.YtfabbohijhjpcaaGreatDoor

/-
-/
namespace Go.Proofs.YtfabbohijhjpcaaGreatDoor
open Go.RowKit
noncomputable def triC (r : Nat → Nat) (m a b c : Nat) : Option (List Nat) := if a < b ∧ b < c ∧ trB (m : Int) m (fun v => (r v : Int)) (a : Nat) (b : Nat) (c : Nat) = true then some [a, b, c] else none
noncomputable def triB (r : Nat → Nat) (m a b : Nat) : Option (List Nat) := (List.range m).findSome? (triC r m a b)
noncomputable def triA (r : Nat → Nat) (m a : Nat) : Option (List Nat) := (List.range m).findSome? (triB r m a)
noncomputable def triO (r : Nat → Nat) (m : Nat) : Option (List Nat) := (List.range m).findSome? (triA r m)
section
variable {r : Nat → Nat} {m a b c : Nat}
theorem triC_lo (h : c ≤ b) : triC r m a b c = none := by unfold triC; rw [if_neg (fun hh => by omega)]
theorem triC_no (h : trB (m : Int) m (fun v => (r v : Int)) (a : Nat) (b : Nat) (c : Nat) = false) : triC r m a b c = none := by unfold triC; rw [if_neg (fun hh => by rw [h] at hh; exact absurd hh.2.2 (by simp))]
theorem triC_yes (h1 : a < b) (h2 : b < c) (h : trB (m : Int) m (fun v => (r v : Int)) (a : Nat) (b : Nat) (c : Nat) = true) : triC r m a b c = some [a, b, c] := by unfold triC; rw [if_pos ⟨h1, h2, h⟩]
theorem triB_lo (h : b ≤ a) : triB r m a b = none := range_none fun u _ => by unfold triC; rw [if_neg (fun hh => by omega)]
end
theorem ON.three (w : World) (a b c : Nat) : ON w.heap.size (w.alloc (Obj.cells #[.int .i64 (a : Int), .int .i64 (b : Int), .int .i64 (c : Int)] 3)) (some ⟨w.heap.size, 0, none⟩) 3 [a, b, c] :=
 ⟨.inr ⟨w.heap.size, _, rfl, Nat.le_refl _, by simp, heap_alloc_new w _, Nat.le_refl _, by unfold maxLen; omega, rfl, fun j hj => by
   have hj3 : j < 3 := hj
   have hc : j = 0 ∨ j = 1 ∨ j = 2 := by omega
   rcases hc with rfl | rfl | rfl <;> rfl⟩⟩
set_option maxRecDepth 100000 in
set_option maxHeartbeats 6400000 in
theorem FindTriple_v {A : Option Addr} {m c : Nat} {r : Nat → Nat} {w : World} (h : GV w A m c r) : Calls Tryz.prog 206 #[.agg #[.int .i64 m, .slice A m c]] w (lsQ w (triO r m)) := by
 have hm7 := h.vg.n7
 obtain ⟨W, hW⟩ : ∃ W : World, W = (w.alloc (Obj.cells #[Value.int IntKind.i64 m, Value.slice A m c] 26)) := ⟨_, rfl⟩
 have HB : Hid (From w W) := by rw [hW]; exact From.alloc _ _
 have HG : Hid (GBox W w.heap.size A m c r) := by rw [hW]; exact h.box
 have HW := Lib.hid hW
 clear hW h
 have e0 := HG.out.c0
 have e1 := HG.out.c1
 go_enter Tryz.func206, Tryz.ntmps206
 go_wp2_with fail
 rw [← HW.out]
 refine (IsGraph_v HG.out.gv).mono ?_
 rintro e w1 ⟨rfl, hb1⟩
 clear HW
 clear e0 e1
 replace HB := Lib.hid (HB.out.keep hb1)
 replace HG := Lib.hid (HG.out.keep hb1)
 clear hb1
 have e0 := HG.out.c0
 have e1 := HG.out.c1
 go_wp2
 go_loopw [12] (fun i wr => ∃ a : Nat, a ≤ m ∧ i = .int .i64 a ∧ Hid (∀ u, u < a → triA r m u = none) ∧ Hid (From w1 wr)) (fun i _ => m - (intOf i).toNat)
 case atStart => exact ⟨0, Nat.zero_le _, rfl, (fun u hu => absurd hu (by omega)), From.refl _⟩
 case round =>
  clear e0 e1
  obtain ⟨a, ha, rfl, hall, HR⟩ := hrel
  have HB1 := Lib.hid (HB.out.up HR.out)
  have HG1 := Lib.hid (HG.out.keep HR.out.below)
  have e0 := HG1.out.c0
  have e1 := HG1.out.c1
  by_cases ham : a < m
  ·have i1 : (a : Int) < (m : Int) := by omega
   go_wp2
   clear e0 e1 HB1 HG1
   go_loopw [5] (fun i wr => ∃ b : Nat, a + 1 ≤ b ∧ b ≤ m ∧ i = .int .i64 b ∧ Hid (∀ u, u < b → triB r m a u = none) ∧ Hid (From w1 wr)) (fun i _ => m - (intOf i).toNat)
   case atStart => exact ⟨a + 1, Nat.le_refl _, by omega, by go_num, (fun u hu => triB_lo (by omega)), HR⟩
   case round =>
    clear HR
    obtain ⟨b, hab, hb, rfl, hallb, HR⟩ := hrel
    have HB1 := Lib.hid (HB.out.up HR.out)
    have HG1 := Lib.hid (HG.out.keep HR.out.below)
    have e0 := HG1.out.c0
    have e1 := HG1.out.c1
    by_cases hbm : b < m
    ·have i2 : (b : Int) < (m : Int) := by omega
     go_wp2
     clear e0 e1 HB1 HG1
     go_loopw [6] (fun i wr => ∃ c : Nat, b + 1 ≤ c ∧ c ≤ m ∧ i = .int .i64 c ∧ Hid (∀ u, u < c → triC r m a b u = none) ∧ Hid (From w1 wr)) (fun i _ => m - (intOf i).toNat)
     case atStart => exact ⟨b + 1, Nat.le_refl _, by omega, by go_num, (fun u hu => triC_lo (by omega)), HR⟩
     case round =>
      clear HR
      obtain ⟨k, hbk, hk, rfl, hallc, HR⟩ := hrel
      have HB1 := Lib.hid (HB.out.up HR.out)
      have HG1 := Lib.hid (HG.out.keep HR.out.below)
      have e0 := HG1.out.c0
      have e1 := HG1.out.c1
      by_cases hkm : k < m
      ·have i3 : (k : Int) < (m : Int) := by omega
       obtain ⟨t, ht⟩ : ∃ t, t = trB (m : Int) m (fun v => (r v : Int)) (a : Nat) (b : Nat) (k : Nat) := ⟨_, rfl⟩
       have KT : Hid (∀ {z : World}, GV z A m c r → Calls Tryz.prog 285 #[.agg #[.int .i64 m, .slice A m c], .int .i64 a, .int .i64 b, .int .i64 k] z fun e w' => e = .returned (.bool t) ∧ Below z.heap.size z w') := by rw [ht]; exact fun h => IsTriple_i m A m c _ a b k _ h.ga (by omega)
       cases t
       ·have Hn : Hid (triC r m a b k = none) := triC_no ht.symm
        clear ht
        go_wp2_with fail
        refine (KT.out HG1.out.gv).mono ?_
        rintro e w2 ⟨rfl, hb2⟩
        clear e0 e1
        replace HB1 := Lib.hid (HB1.out.keep hb2)
        replace HG1 := Lib.hid (HG1.out.keep hb2)
        replace HR := Lib.hid (HR.out.keep hb2)
        clear hb2
        have e0 := HG1.out.c0
        have e1 := HG1.out.c1
        go_wp2
        go_roundw
        case rel =>
         refine ⟨k + 1, by omega, by omega, by go_num, fun u hu => ?_, HR⟩
         by_cases huv : u < k
         ·exact hallc.out u huv
         ·obtain rfl : u = k := by omega
          exact Hn.out
        case measure => (simp [intOf] <;> omega)
       ·have Hs : Hid (triO r m = some [a, b, k]) := range_some ham (range_some hbm (range_some hkm (triC_yes (by omega) (by omega) ht.symm) hallc.out) hallb.out) hall.out
        clear ht
        go_wp2_with fail
        refine (KT.out HG1.out.gv).mono ?_
        rintro e w3 ⟨rfl, hb3⟩
        clear e0 e1
        replace HB1 := Lib.hid (HB1.out.keep hb3)
        replace HG1 := Lib.hid (HG1.out.keep hb3)
        replace HR := Lib.hid (HR.out.keep hb3)
        clear hb3
        have e0 := HG1.out.c0
        have e1 := HG1.out.c1
        have HON := Lib.hid (ON.three w3 a b k)
        have HBz := Lib.hid (HB1.out.alloc_ (Obj.cells #[.int .i64 (a : Int), .int .i64 (b : Int), .int .i64 (k : Int)] 3))
        go_wp2
        go_ret2
        rw [Hs.out]
        exact lsQ.yes (HON.out.mono HB1.out.below.size) HBz.out.below
      ·have Hn : Hid (triB r m a b = none) := range_none fun u hu => hallc.out u (by omega)
       have i3 : (m : Int) ≤ (k : Int) := by omega
       go_wp2
       go_roundw
       case rel =>
        refine ⟨b + 1, by omega, by omega, by go_num, fun u hu => ?_, HR⟩
        by_cases huv : u < b
        ·exact hallb.out u huv
        ·obtain rfl : u = b := by omega
         exact Hn.out
       case measure => (simp [intOf] <;> omega)
    ·have Hn : Hid (triA r m a = none) := range_none fun u hu => hallb.out u (by omega)
     have i3 : (m : Int) ≤ (b : Int) := by omega
     go_wp2
     go_roundw
     case rel =>
      refine ⟨a + 1, by omega, by go_num, fun u hu => ?_, HR⟩
      by_cases huv : u < a
      ·exact hall.out u huv
      ·obtain rfl : u = a := by omega
       exact Hn.out
     case measure => (simp [intOf] <;> omega)
  ·have Hn : Hid (triO r m = none) := range_none fun u hu => hall.out u (by omega)
   have i1 : (m : Int) ≤ (a : Int) := by omega
   go_wp2
   go_ret2
   rw [Hn.out]
   exact lsQ.no HB1.out.below
set_option maxRecDepth 100000 in
set_option maxHeartbeats 3200000 in
theorem FindTriple_no (sz : Int) (A : Option Addr) (m c : Nat) (x : Nat → Int) (w : World) (h : GA w A m c x) (hm : m ≤ 1048576) (hok : okB sz m x = false) :
 Calls Tryz.prog 206 #[.agg #[.int .i64 sz, .slice A m c]] w (lsQ w none) := by
 obtain ⟨W, hW⟩ : ∃ W : World, W = (w.alloc (Obj.cells #[Value.int IntKind.i64 sz, Value.slice A m c] 26)) := ⟨_, rfl⟩
 have HB : Hid (From w W) := by rw [hW]; exact From.alloc _ _
 have HK := Lib.hid (h.keep HB.out.below)
 have HC : Hid (GC W w.heap.size sz A m c) := by rw [hW]; exact GC.new _ _ _ _ _
 have HW := Lib.hid hW
 have Ho := Lib.hid hok
 have HR0 : Hid (From W W) := From.refl W
 clear hW h hok
 go_enter Tryz.func206, Tryz.ntmps206
 have e0 := HC.out.c0
 have e1 := HC.out.c1
 go_wp2_with fail
 rw [← HW.out]
 clear HW
 refine (IsGraph_any sz A m c x W W.heap.size HK.out.rd (Nat.le_refl _) hm).mono ?_
 rintro e w1 ⟨rfl, hb1⟩
 rw [Ho.out]
 clear e0 e1
 replace HB := Lib.hid (HB.out.keep hb1)
 replace HK := Lib.hid (HK.out.keep hb1)
 replace HC := Lib.hid (HC.out.keep hb1)
 clear hb1
 have e0 := HC.out.c0
 have e1 := HC.out.c1
 go_wp2
 go_ret2
 exact lsQ.no HB.out.below
end Go.Proofs.YtfabbohijhjpcaaGreatDoor

/-
-/
namespace Go.Proofs.YtfabbohijhjpcaaGreatDoor
open Go.RowKit
section
variable {A : Option Addr} {m c : Nat} {r : Nat → Nat}
theorem ComplementOf_v {w : World} (h : GV w A m c r) :
 Calls Tryz.prog 221 #[.agg #[.int .i64 m, .slice A m c]] w fun e w' => ∃ A' c', e = .returned (.tuple #[.agg #[.int .i64 m, .slice A' m c'], .bool true]) ∧ GV w' A' m c' (coR r m) ∧ Below w.heap.size w w' := by
 have hk := ComplementOf_i (m : Int) A m c _ w ⟨h.rd⟩ (by have := h.vg.n7; omega)
 rw [h.ok] at hk
 refine hk.mono ?_
 rintro e w' ⟨sz', A', m', c', rfl, h2, h3⟩
 obtain ⟨rfl, rfl, h4⟩ := h2 rfl
 rw [rw_cast] at h4
 exact ⟨A', c', rfl, h4, h3⟩
theorem made_own (w : World) (n : Nat) (hn : n ≤ 1048576) : ∃ W : World, (Instr.makeSlice 24 (.int .i64 (n : Int)) (.int .i64 (n : Int))).run Tryz.prog w = .ok (.slice (some ⟨w.heap.size, 0, none⟩) n n) W ∧ Own W w.heap.size (w.heap.size + 1) 3 1 (some ⟨w.heap.size, 0, none⟩) n n (fun _ => .int .i64 0) ∧ Below w.heap.size w W := by
 refine ⟨_, run_make_row' (P := Tryz.prog) 24 3 (.int .i64 0) 8 Tryz.underlying24 info_int rfl .i64 .i64 n (by omega) (by omega) w, ?_, (Below.refl _ _).alloc (Nat.le_refl _) _⟩
 obtain ⟨cc, q1, q2, q3⟩ := World.rowIs_made w (.int .i64 0) n 3
 exact .inr ⟨_, cc, rfl, Nat.le_refl _, Nat.lt_succ_self _, q1, Nat.le_refl _, by unfold maxLen; omega, by omega, fun j hj => by rw [q3 j (by omega)]⟩
end
end Go.Proofs.YtfabbohijhjpcaaGreatDoor

/-
-/
namespace Go.Proofs.YtfabbohijhjpcaaGreatDoor
open Go.RowKit
noncomputable def ahO (r : Nat → Nat) (m : Nat) : Option (List Nat) := oddhO (coR r m) m
set_option maxRecDepth 100000 in
set_option maxHeartbeats 1600000 in
theorem ComplementOf_no (sz : Int) (A : Option Addr) (m c : Nat) (x : Nat → Int) (w : World) (h : GA w A m c x) (hm : m ≤ 1048576) (hok : okB sz m x = false) :
 Calls Tryz.prog 221 #[.agg #[.int .i64 sz, .slice A m c]] w fun e w' => e = .returned (.tuple #[.agg #[.int .i64 0, .slice none 0 0], .bool false]) ∧ Below w.heap.size w w' := by
 obtain ⟨W, hW⟩ : ∃ W : World, W = ((w.alloc (Obj.cells #[Value.int IntKind.i64 sz, Value.slice A m c] 26)).alloc (Obj.cells #[Value.int IntKind.i64 0, Value.slice none 0 0] 26)) := ⟨_, rfl⟩
 have HB : Hid (From w W) := by rw [hW]; exact (From.alloc _ _).alloc_ _
 have HK := Lib.hid (h.keep HB.out.below)
 have HC : Hid (GC W w.heap.size sz A m c) := by rw [hW]; exact (GC.new _ _ _ _ _).keep ((Below.refl _ _).alloc (Nat.le_refl _) _)
 have HD : Hid (GC W (w.heap.size + 1) 0 none 0 0) := by rw [hW]; constructor <;> simp [go_sem]
 have HW := Lib.hid hW
 have Ho := Lib.hid hok
 clear hW h hok
 go_enter Tryz.func221, Tryz.ntmps221
 have e0 := HC.out.c0
 have e1 := HC.out.c1
 have d0 := HD.out.c0
 have d1 := HD.out.c1
 have d2 := HD.out.f0
 have d3 := HD.out.f1
 go_wp2_with fail
 rw [← HW.out]
 clear HW
 refine (IsGraph_any sz A m c x W W.heap.size HK.out.rd (Nat.le_refl _) hm).mono ?_
 rintro e w1 ⟨rfl, hb1⟩
 rw [Ho.out]
 clear e0 e1 d0 d1 d2 d3
 replace HB := Lib.hid (HB.out.keep hb1)
 replace HK := Lib.hid (HK.out.keep hb1)
 replace HC := Lib.hid (HC.out.keep hb1)
 replace HD := Lib.hid (HD.out.keep hb1)
 clear hb1
 have e0 := HC.out.c0
 have e1 := HC.out.c1
 have d0 := HD.out.c0
 have d1 := HD.out.c1
 have d2 := HD.out.f0
 have d3 := HD.out.f1
 go_wp2
 have HE := (HB.out.set (q := w.heap.size + 1) (by omega) (.int .i64 0) (.slice none 0 0)).below
 exact bodyPost_ret (v := .tuple #[.agg #[.int .i64 0, .slice none 0 0], .bool false]) (by simp [results, Tryz.results221, go_sem, *]) rfl ⟨rfl, HE⟩
set_option maxRecDepth 100000 in
set_option maxHeartbeats 1600000 in
theorem FindAntihole_v {A : Option Addr} {m c : Nat} {r : Nat → Nat} {w : World} (h : GV w A m c r) : Calls Tryz.prog 217 #[.agg #[.int .i64 m, .slice A m c]] w (lsQ w (ahO r m)) := by
 obtain ⟨W, hW⟩ : ∃ W : World, W = (w.alloc (Obj.cells #[Value.int IntKind.i64 m, Value.slice A m c] 26)) := ⟨_, rfl⟩
 have HB : Hid (From w W) := by rw [hW]; exact From.alloc _ _
 have HG : Hid (GBox W w.heap.size A m c r) := by rw [hW]; exact h.box
 have HW := Lib.hid hW
 clear hW h
 have e0 := HG.out.c0
 have e1 := HG.out.c1
 go_enter Tryz.func217, Tryz.ntmps217
 go_wp2_with fail
 rw [← HW.out]
 refine (ComplementOf_v HG.out.gv).mono ?_
 rintro e w1 ⟨A2, c2, rfl, hG2, hb1⟩
 clear HW
 clear e0 e1
 replace HB := Lib.hid (HB.out.keep hb1)
 replace HG := Lib.hid (HG.out.keep hb1)
 clear hb1
 have e0 := HG.out.c0
 have e1 := HG.out.c1
 obtain ⟨W2, hW2⟩ : ∃ W2 : World, W2 = (w1.alloc (Obj.cells #[Value.int IntKind.i64 m, Value.slice A2 m c2] 26)) := ⟨_, rfl⟩
 have hb2 : Below w1.heap.size w1 W2 := by rw [hW2]; exact (Below.refl _ _).alloc (Nat.le_refl _) _
 have HG2 : Hid (GV W2 A2 m c2 (coR r m)) := hG2.keep hb2
 have HQ : Hid (GC W2 w1.heap.size m A2 m c2) := by rw [hW2]; exact GC.new _ _ _ _ _
 have HB2 : Hid (From w W2) := HB.out.keep hb2
 have HZ2 : Hid (w.heap.size ≤ W2.heap.size) := HB2.out.below.size
 have HW2 := Lib.hid hW2
 clear hW2 hb2 hG2 HB HG e0 e1
 have d0 := HQ.out.c0
 have d1 := HQ.out.c1
 go_wp2_with fail
 rw [← HW2.out]
 clear HW2
 refine (FindOddHole_v HG2.out).mono ?_
 rintro e w3 ⟨A3, c3, rfl, ho3, hb3⟩
 have HO3 := Lib.hid (ho3.mono HZ2.out)
 clear ho3
 clear d0 d1
 replace HB2 := Lib.hid (HB2.out.keep hb3)
 replace HQ := Lib.hid (HQ.out.keep hb3)
 clear hb3
 have d0 := HQ.out.c0
 have d1 := HQ.out.c1
 go_wp2
 go_ret2
 exact ⟨_, _, rfl, HO3.out, HB2.out.below⟩
theorem ok_zero : okB 0 0 (fun _ => 0) = false := okB_no fun h => by
 obtain ⟨r, _, vg, _⟩ := h
 have := vg.n1
 omega
set_option maxRecDepth 100000 in
set_option maxHeartbeats 1600000 in
theorem FindAntihole_no (sz : Int) (A : Option Addr) (m c : Nat) (x : Nat → Int) (w : World) (h : GA w A m c x) (hm : m ≤ 1048576) (hok : okB sz m x = false) :
 Calls Tryz.prog 217 #[.agg #[.int .i64 sz, .slice A m c]] w (lsQ w none) := by
 obtain ⟨W, hW⟩ : ∃ W : World, W = (w.alloc (Obj.cells #[Value.int IntKind.i64 sz, Value.slice A m c] 26)) := ⟨_, rfl⟩
 have HB : Hid (From w W) := by rw [hW]; exact From.alloc _ _
 have HK := Lib.hid (h.keep HB.out.below)
 have HC : Hid (GC W w.heap.size sz A m c) := by rw [hW]; exact GC.new _ _ _ _ _
 have HW := Lib.hid hW
 have K1 := Lib.hid (ComplementOf_no sz A m c x W HK.out hm hok)
 clear hW h hok
 go_enter Tryz.func217, Tryz.ntmps217
 have e0 := HC.out.c0
 have e1 := HC.out.c1
 go_wp2_with fail
 rw [← HW.out]
 refine (K1.out).mono ?_
 rintro e w1 ⟨rfl, hb1⟩
 clear HW
 clear e0 e1
 replace HB := Lib.hid (HB.out.keep hb1)
 replace HK := Lib.hid (HK.out.keep hb1)
 replace HC := Lib.hid (HC.out.keep hb1)
 clear hb1
 have e0 := HC.out.c0
 have e1 := HC.out.c1
 clear K1
 obtain ⟨W2, hW2⟩ : ∃ W2 : World, W2 = (w1.alloc (Obj.cells #[Value.int IntKind.i64 0, Value.slice none 0 0] 26)) := ⟨_, rfl⟩
 have hb2 : Below w1.heap.size w1 W2 := by rw [hW2]; exact (Below.refl _ _).alloc (Nat.le_refl _) _
 have HG2 : Hid (GA W2 none 0 0 (fun _ => 0)) := ⟨⟨Nat.le_refl _, fun hn => absurd hn (by omega)⟩⟩
 have HQ : Hid (GC W2 w1.heap.size 0 none 0 0) := by rw [hW2]; exact GC.new _ _ _ _ _
 have HB2 : Hid (From w W2) := HB.out.keep hb2
 have HZ2 : Hid (w.heap.size ≤ W2.heap.size) := HB2.out.below.size
 have HW2 := Lib.hid hW2
 have K2 := Lib.hid (FindOddHole_no 0 none 0 0 (fun _ => 0) W2 HG2.out (by omega) ok_zero)
 clear hW2 hb2 HB HC HK e0 e1
 have d0 := HQ.out.c0
 have d1 := HQ.out.c1
 go_wp2_with fail
 rw [← HW2.out]
 clear HW2
 refine K2.out.mono ?_
 rintro e w3 ⟨A3, c3, rfl, ho3, hb3⟩
 have HO3 := Lib.hid (ho3.mono HZ2.out)
 clear ho3 K2
 clear d0 d1
 replace HB2 := Lib.hid (HB2.out.keep hb3)
 replace HQ := Lib.hid (HQ.out.keep hb3)
 clear hb3
 have d0 := HQ.out.c0
 have d1 := HQ.out.c1
 go_wp2
 go_ret2
 exact ⟨_, _, rfl, HO3.out, HB2.out.below⟩
end Go.Proofs.YtfabbohijhjpcaaGreatDoor
