/-
  Several texts in one.
-/
import Derived.Test.YtdpkbfiggbcclaaGreatQmTripI
import Derived.Test.YtdpkbfiggbcclaaGreatQmOdd
import Derived.Test.YtdpkbfiggbcclaaGreatQmHolJ
import Derived.Test.YtdpkbfiggbcclaaGreatQmSidP
import Derived.Test.YtdpkbfiggbcclaaGreatQmHolK
/-
-/
namespace Go.Proofs.YtdpkbfiggbcclaaGreat
open Go.RowKit
set_option maxHeartbeats 6400000
theorem three_li (z : World) (a b c : Int) : LI (z.alloc (Obj.cells #[.int .i64 a, Value.int .i64 b, Value.int .i64 c] 3)) (some ⟨z.heap.size, 0, none⟩) 3 3 [a, b, c] :=
 ⟨rfl, nr_, fun _ => ⟨z.heap.size, 0, rfl, by simp, fun j hj => by
   have h : j = 0 ∨ j = 1 ∨ j = 2 := by omega
   rcases h with rfl | rfl | rfl <;> simp [go_sem]⟩⟩
theorem ivB_three {sz a b c : Int} : ivB sz [a, b, c] = decide ((0 ≤ a ∧ a < sz) ∧ (0 ≤ b ∧ b < sz) ∧ (0 ≤ c ∧ c < sz)) := by
 unfold ivB;simp [Bool.and_assoc]
theorem avB_iv {sz : Int} {m : Nat} {x : Nat → Int} {a b c : Int} : avB sz m x a b c = ((ivB sz [a, b, c] && okB sz m x) && avN (rw_ x) m a.toNat b.toNat c.toNat) := by
 unfold avB;rw [ivB_three, Bool.and_comm (okB sz m x)]
section
variable (sz : Int) (A : Option Addr) (m cA : Nat) (x : Nat → Int) (a b c : Int) (w : World)
set_option maxRecDepth 100000 in
theorem AvoidingPath_i (h : GA w A m cA x) (hm : m ≤ 1048576) :
 Calls Tryz.prog 379 #[.agg #[.int .i64 sz, .slice A m cA], .int .i64 a, .int .i64 b, .int .i64 c] w fun e w' => ∃ A' n' c', e = .returned (.tuple #[.slice A' n' c', .bool (avB sz m x a b c)]) ∧ Below w.heap.size w w' := by
 obtain ⟨W, hW⟩ : ∃ W, W = ((w.alloc (Obj.cells #[.int .i64 sz, .slice A m cA] 28)).alloc (Obj.cells #[.int .i64 a, Value.int .i64 b, Value.int .i64 c] 3)) := ⟨_, rfl⟩;have HB : Hid (From w W) := by rw [hW]; exact (From.alloc _ _).alloc_ _
 have HK := hh_ (h.keep HB.below);have HC : Hid (GC W w.heap.size sz A m cA) := by rw [hW]; exact (GC.new _ _ _ _ _).keep (br_.alloc nr_ _)
 have HL : Hid (LI W (some ⟨w.heap.size + 1, 0, none⟩) 3 3 [a, b, c]) := by
  rw [hW];have := three_li (w.alloc (Obj.cells #[.int .i64 sz, .slice A m cA] 28)) a b c;have e : (w.alloc (Obj.cells #[.int .i64 sz, .slice A m cA] 28)).heap.size = w.heap.size + 1 := by simp
  rw [e] at this;exact this
 have HW := hh_ hW;clear hW h;go_enter Tryz.func379, Tryz.ntmps379;obtain ⟨e0, e1⟩ := gc_ HC;go_wp2_with fail
 rw [← HW.out];refine (isVertex_z sz A m cA x (some ⟨w.heap.size + 1, 0, none⟩) 3 3 [a, b, c] W HK HL.out hm (by omega)).mono ?_;rintro e w1 ⟨rfl, hb1⟩;clear HW;clear e0 e1;obtain ⟨HB, HK, HC, e0, e1⟩ := kC_ HB HK HC hb1;clear hb1;cases hv : ivB sz [a, b, c] && okB sz m x
 ·have Hn : Hid (avB sz m x a b c = false) := by show _ = _; rw [avB_iv, hv]; rfl
  clear hv;go_wp2;go_ret2;exact ⟨none, 0, 0, by rw [Hn.out]; rfl, HB.below⟩
 have HA : Hid (avB sz m x a b c = avN (rw_ x) m a.toNat b.toNat c.toNat) := by show _ = _; rw [avB_iv, hv]; rfl
 rw [Bool.and_eq_true, ivB_three, decide_eq_true_eq] at hv;obtain ⟨⟨⟨a0, a1⟩, ⟨b0, b1⟩, c0, c1⟩, ho⟩ := hv;obtain ⟨_, es, vg0, _⟩ := okB_ok' ho;subst es;have hn7 := vg0.n7;have HG : Hid (GV w1 A m cA (rw_ x)) := HK.gv ho;obtain ⟨a, rfl⟩ := Int.eq_ofNat_of_zero_le a0;obtain ⟨b, rfl⟩ := Int.eq_ofNat_of_zero_le b0;obtain ⟨c, rfl⟩ := Int.eq_ofNat_of_zero_le c0;have ham : a < m := by omega
 have hbm : b < m := by omega
 have hcm : c < m := by omega
 obtain ⟨bA, oA, rfl⟩ := HG.addr;have q0 := HG.row hcm;have hr := HG.vg.lt128 hcm;have hset := avS_lt HG.vg hcm;obtain ⟨y, hy⟩ : ∃ y, y = rw_ x c := ⟨_, rfl⟩;obtain ⟨M, hM⟩ : ∃ M, M = 2 ^ m - 1 := ⟨_, rfl⟩;have h128 := two_pow_le hn7;have hco : (M ^^^ (M &&& y)) ^^^ ((M ^^^ (M &&& y)) &&& 2 ^ c) = avS (rw_ x) m c := by
  rw [hM, hy, coR_and, full_and (or_pow_lt HG.vg hcm)];rfl
 rw [← hy] at q0 hr;have hMl : M < 128 := by omega
 have c2 : ((2 ^ c : Nat) : Int) = 2 ^ c := by simp
 have hx1 : M ^^^ (M &&& y) < 128 := Nat.xor_lt_two_pow (n := 7) (by omega) (Nat.and_lt_two_pow _ (by omega));have hK7 := two_pow_le (n := c) (by omega);have E1 := i64_andNot_nat M y (by omega) (by omega);have E2 := i64_andNot_nat (M ^^^ (M &&& y)) (2 ^ c) (by omega) (by omega);rw [c2, hco] at E2;have p2 := pow_shl c (by omega);have KA : Hid (∀ z : World, Calls Tryz.prog 185 #[.agg #[.int .i64 (m : Int), .slice (some ⟨bA, oA, none⟩) m cA]] z fun e w' => e = .returned (.int .i64 (M : Int)) ∧ Below z.heap.size z w') := fun z => by rw [hM]; exact all_any m _ cA z hn7
 have KS : Hid (∀ z : World, Below w1.heap.size w1 z → Calls Tryz.prog 401 #[.agg #[.int .i64 m, .slice (some ⟨bA, oA, none⟩) m cA], .int .i64 (avS (rw_ x) m c : Nat), .int .i64 a, .int .i64 b] z fun e w' => ∃ A' n c', e = .returned (.tuple #[.slice A' n c', .bool (avN (rw_ x) m a b c)]) ∧ Below z.heap.size z w') := fun z hz => shortestWay_i (HG.keep hz) hset ham hbm
 obtain ⟨S0, hS0⟩ : ∃ S0, S0 = avS (rw_ x) m c := ⟨_, rfl⟩;rw [← hS0] at E2 KS;have i1 : (c : Int) < m := by omega
 clear hy hM hco hr hMl c2 hx1 hK7 h128 hS0 hset ho vg0 HK HL;go_wp2;obtain ⟨HSC, HZ0, HS1⟩ := hsc3 e0 e1 q0;have KR1 : Hid (∀ z : World, Below w1.heap.size w1 z → _) := fun z hz => KA.out z
 have KR2 : Hid (∀ z : World, Below w1.heap.size w1 z → _) := fun z hz => KS.out z hz
 go_region_held3 (fun z => Below w1.heap.size w1 z ∧ z.cell? ⟨w.heap.size, 0, none⟩ = some (.int .i64 m) ∧ z.cell? ⟨w.heap.size, 1, none⟩ = some (.slice (some ⟨bA, oA, none⟩) m cA) ∧ z.cell? ⟨bA, oA + c, none⟩ = some (.int .i64 (y : Int)))
  (first | exact HS1.out | assumption | exact HSC.out _ hz3 | exact HSC.out _ hz2 | fail)
  (first | (go_at_call 185; ((with_reducible refine (KR1.out _ HZ0.out).mono ?_); rintro e w2 ⟨rfl, hb2⟩; have hz2 := bl_trans HZ0.out hb2)) | (go_at_call 401; ((with_reducible refine (KR2.out _ hz2).mono ?_); rintro e w3 ⟨A7, n7, c7, rfl, hb3⟩; have hz3 := bl_trans hz2 hb3)))
 clear e0 e1;replace HB := hh_ (HB.keep hz3);replace HC := hh_ (HC.keep hz3);clear hb2 hz2 hb3 hz3 HSC HZ0 HS1 KR1 KR2;obtain ⟨e0, e1⟩ := gc_ HC;all_goals
  go_wp2;go_ret2;exact ⟨A7, n7, c7, by rw [HA.out]; rfl, HB.below⟩
end
set_option maxHeartbeats 6400000
section
variable (sz : Int) (A : Option Addr) (m cA : Nat) (x : Nat → Int) (a b c : Int) (w : World)
set_option maxRecDepth 100000 in
theorem IsTriple_i (h : GA w A m cA x) (hm : m ≤ 1048576) :
 Calls Tryz.prog 324 #[.agg #[.int .i64 sz, .slice A m cA], .int .i64 a, .int .i64 b, .int .i64 c] w fun e w' => e = .returned (.bool (trB sz m x a b c)) ∧ Below w.heap.size w w' := by
 obtain ⟨W, hW⟩ : ∃ W, W = (w.alloc (Obj.cells #[.int .i64 sz, .slice A m cA] 28)) := ⟨_, rfl⟩;have HB : Hid (From w W) := by rw [hW]; exact From.alloc _ _
 have HK := hh_ (h.keep HB.below);have HC : Hid (GC W w.heap.size sz A m cA) := by rw [hW]; exact GC.new _ _ _ _ _
 have HW := hh_ hW;clear hW h;by_cases h0 : a = b
 ·have hno : Hid (trB sz m x a b c = false) := by show _ = _; unfold trB; subst h0; simp
  have i0 : (a == b) = true := by simpa using h0
  clear h0;go_enter Tryz.func324, Tryz.ntmps324;go_wp2;rw [← HW.out];go_ret;exact ⟨ret_bool hno.symm, HB.below⟩
 by_cases h1 : b = c
 ·have hno : Hid (trB sz m x a b c = false) := by show _ = _; unfold trB; subst h1; simp
  have i0 : (a == b) = false := by simpa using h0
  have i1 : (b == c) = true := by simpa using h1
  clear h0 h1;go_enter Tryz.func324, Tryz.ntmps324;go_wp2;rw [← HW.out];go_ret;exact ⟨ret_bool hno.symm, HB.below⟩
 by_cases h2 : c = a
 ·have hno : Hid (trB sz m x a b c = false) := by show _ = _; unfold trB; subst h2; simp
  have i0 : (a == b) = false := by simpa using h0
  have i1 : (b == c) = false := by simpa using h1
  have i2 : (c == a) = true := by simpa using h2
  clear h0 h1 h2;go_enter Tryz.func324, Tryz.ntmps324;go_wp2;rw [← HW.out];go_ret;exact ⟨ret_bool hno.symm, HB.below⟩
 have Heq : Hid (trB sz m x a b c = (avB sz m x a b c && avB sz m x b c a && avB sz m x c a b)) := by show _ = _; unfold trB; rw [decide_eq_true h0, decide_eq_true h1, decide_eq_true (show a ≠ c from fun e => h2 e.symm)]; simp
 have i0 : (a == b) = false := by simpa using h0
 have i1 : (b == c) = false := by simpa using h1
 have i2 : (c == a) = false := by simpa using h2
 clear h0 h1 h2;go_enter Tryz.func324, Tryz.ntmps324;obtain ⟨e0, e1⟩ := gc_ HC;go_wp2_with fail
 rw [← HW.out];refine (AvoidingPath_i sz A m cA x a b c W HK hm).mono ?_;rintro e w1 ⟨A5, n5, c5, rfl, hb1⟩;clear HW;clear e0 e1;obtain ⟨HB, HK, HC, e0, e1⟩ := kC_ HB HK HC hb1;clear hb1;go_wp2_with fail
 refine (AvoidingPath_i sz A m cA x b c a w1 HK hm).mono ?_;rintro e w2 ⟨A6, n6, c6, rfl, hb2⟩;clear e0 e1;obtain ⟨HB, HK, HC, e0, e1⟩ := kC_ HB HK HC hb2;clear hb2;go_wp2_with fail
 refine (AvoidingPath_i sz A m cA x c a b w2 HK hm).mono ?_;rintro e w3 ⟨A7, n7, c7, rfl, hb3⟩;clear e0 e1;obtain ⟨HB, HK, HC, e0, e1⟩ := kC_ HB HK HC hb3;clear hb3;obtain ⟨t1, ht1⟩ : ∃ t, t = avB sz m x a b c := ⟨_, rfl⟩;obtain ⟨t2, ht2⟩ : ∃ t, t = avB sz m x b c a := ⟨_, rfl⟩;obtain ⟨t3, ht3⟩ : ∃ t, t = avB sz m x c a b := ⟨_, rfl⟩;rw [← ht1, ← ht2, ← ht3] at Heq;simp only [← ht1, ← ht2, ← ht3];clear ht1 ht2 ht3 HK HC e0 e1;cases t1 <;> cases t2 <;> cases t3 <;> (go_wp2; go_ret; exact ⟨ret_bool (by rw [Heq.out]; rfl), HB.below⟩)
end
section
variable (sz : Int) (A : Option Addr) (m c : Nat) (x : Nat → Int) (Al : Option Addr) (n cl : Nat) (l : List Int) (w : World)
end
set_option maxHeartbeats 6400000
noncomputable def triC (r : Nat → Nat) (m a b c : Nat) : Option (List Nat) := if a < b ∧ b < c ∧ trB (m : Int) m (fun v => (r v : Int)) (a : Nat) (b : Nat) (c : Nat) = true then some [a, b, c] else none
noncomputable def triB (r : Nat → Nat) (m a b : Nat) : Option (List Nat) := (List.range m).findSome? (triC r m a b)
noncomputable def triA (r : Nat → Nat) (m a : Nat) : Option (List Nat) := (List.range m).findSome? (triB r m a)
noncomputable def triO (r : Nat → Nat) (m : Nat) : Option (List Nat) := (List.range m).findSome? (triA r m)
section
variable {r : Nat → Nat} {m a b c : Nat}
theorem triC_lo (h : c ≤ b) : triC r m a b c = none := by unfold triC; rw [if_neg (fun hh => by omega)]
theorem triC_no (h : trB (m : Int) m (fun v => (r v : Int)) (a : Nat) (b : Nat) (c : Nat) = false) : triC r m a b c = none := by unfold triC; rw [if_neg (fun hh => by rw [h] at hh; exact absurd hh.2.2 (by simp))]
theorem triC_yes (h1 : a < b) (h2 : b < c) (h : trB (m : Int) m (fun v => (r v : Int)) (a : Nat) (b : Nat) (c : Nat) = true) : triC r m a b c = some [a, b, c] := by unfold triC; rw [if_pos ⟨h1, h2, h⟩]
theorem triB_lo (h : b ≤ a) : triB r m a b = none := range_none fun u _ => by unfold triC; rw [if_neg (fun hh => by omega)]
end
theorem ON.three (w : World) (a b c : Nat) : ON w.heap.size (w.alloc (Obj.cells #[.int .i64 (a : Int), .int .i64 (b : Int), .int .i64 (c : Int)] 3)) (some ⟨w.heap.size, 0, none⟩) 3 [a, b, c] :=
 ⟨.inr ⟨w.heap.size, _, rfl, nr_, by simp, heap_alloc_new w _, nr_, by unfold maxLen; omega, rfl, fun j hj => by
   have hj3 : j < 3 := hj
   have hc : j = 0 ∨ j = 1 ∨ j = 2 := by omega
   rcases hc with rfl | rfl | rfl <;> rfl⟩⟩
set_option maxRecDepth 100000 in
theorem FindTriple_v {A : Option Addr} {m c : Nat} {r : Nat → Nat} {w : World} (h : GV w A m c r) : Calls Tryz.prog 218 #[.agg #[.int .i64 m, .slice A m c]] w (lsQ w (triO r m)) := by
 have hm7 := h.vg.n7;obtain ⟨W, hW, HB, HG⟩ := gbW h;have HW := hh_ hW;clear hW h;obtain ⟨e0, e1⟩ := gx_ HG;go_enter Tryz.func218, Tryz.ntmps218;go_wp2_with fail
 rw [← HW.out];refine (IsGraph_v HG.gv).mono ?_;rintro e w1 ⟨rfl, hb1⟩;clear HW;clear e0 e1;obtain ⟨HB, HG, e0, e1⟩ := kG_ HB HG hb1;clear hb1;go_wp2;go_loopw [12] (fun i wr => ∃ a : Nat, a ≤ m ∧ i = .int .i64 a ∧ Hid (∀ u, u < a → triA r m u = none) ∧ Hid (From w1 wr)) (fun i _ => m - (intOf i).toNat);case atStart => exact ⟨0, Nat.zero_le _, rfl, (fun u hu => absurd hu (by omega)), From.refl _⟩
 case round =>
  clear e0 e1;obtain ⟨a, ha, rfl, hall, HR⟩ := hrel;have HB1 := hh_ (HB.up HR.out);have HG1 := hh_ (HG.keep HR.below);have e0 := HG1.c0;have e1 := HG1.c1;by_cases ham : a < m
  ·have i1 : (a : Int) < m := by omega
   go_wp2;clear e0 e1 HB1 HG1;go_loopw [5] (fun i wr => ∃ b : Nat, a + 1 ≤ b ∧ b ≤ m ∧ i = .int .i64 b ∧ Hid (∀ u, u < b → triB r m a u = none) ∧ Hid (From w1 wr)) (fun i _ => m - (intOf i).toNat);case atStart => exact ⟨a + 1, nr_, by omega, by go_num, (fun u hu => triB_lo (by omega)), HR⟩
   case round =>
    clear HR;obtain ⟨b, hab, hb, rfl, hallb, HR⟩ := hrel;have HB1 := hh_ (HB.up HR.out);have HG1 := hh_ (HG.keep HR.below);have e0 := HG1.c0;have e1 := HG1.c1;by_cases hbm : b < m
    ·have i2 : (b : Int) < m := by omega
     go_wp2;clear e0 e1 HB1 HG1;go_loopw [6] (fun i wr => ∃ c : Nat, b + 1 ≤ c ∧ c ≤ m ∧ i = .int .i64 c ∧ Hid (∀ u, u < c → triC r m a b u = none) ∧ Hid (From w1 wr)) (fun i _ => m - (intOf i).toNat);case atStart => exact ⟨b + 1, nr_, by omega, by go_num, (fun u hu => triC_lo (by omega)), HR⟩
     case round =>
      clear HR;obtain ⟨k, hbk, hk, rfl, hallc, HR⟩ := hrel;have HB1 := hh_ (HB.up HR.out);have HG1 := hh_ (HG.keep HR.below);have e0 := HG1.c0;have e1 := HG1.c1;by_cases hkm : k < m
      ·have i3 : (k : Int) < m := by omega
       obtain ⟨t, ht⟩ : ∃ t, t = trB (m : Int) m (fun v => (r v : Int)) (a : Nat) (b : Nat) (k : Nat) := ⟨_, rfl⟩;have KT : Hid (∀ {z : World}, GV z A m c r → Calls Tryz.prog 324 #[.agg #[.int .i64 m, .slice A m c], .int .i64 a, .int .i64 b, .int .i64 k] z fun e w' => e = .returned (.bool t) ∧ Below z.heap.size z w') := by rw [ht]; exact fun h => IsTriple_i m A m c _ a b k _ h.ga (by omega)
       cases t
       ·have Hn : Hid (triC r m a b k = none) := triC_no ht.symm;clear ht;go_wp2_with fail
        refine (KT.out HG1.gv).mono ?_;rintro e w2 ⟨rfl, hb2⟩;clear e0 e1;replace HB1 := hh_ (HB1.keep hb2);replace HG1 := hh_ (HG1.keep hb2);replace HR := hh_ (HR.keep hb2);clear hb2;have e0 := HG1.c0;have e1 := HG1.c1;go_wp2;go_roundw;case rel =>
         refine ⟨k + 1, by omega, by omega, by go_num, fun u hu => ?_, HR⟩;by_cases huv : u < k
         ·exact hallc.out u huv
         ·obtain rfl : u = k := by omega
          exact Hn.out
        case measure => (simp [intOf] <;> omega)
       ·have Hs : Hid (triO r m = some [a, b, k]) := range_some ham (range_some hbm (range_some hkm (triC_yes (by omega) (by omega) ht.symm) hallc.out) hallb.out) hall.out;clear ht;go_wp2_with fail
        refine (KT.out HG1.gv).mono ?_;rintro e w3 ⟨rfl, hb3⟩;clear e0 e1;replace HB1 := hh_ (HB1.keep hb3);replace HG1 := hh_ (HG1.keep hb3);replace HR := hh_ (HR.keep hb3);clear hb3;have e0 := HG1.c0;have e1 := HG1.c1;have HON := hh_ (ON.three w3 a b k);have HBz := hh_ (HB1.alloc_ (Obj.cells #[.int .i64 (a : Int), .int .i64 (b : Int), .int .i64 (k : Int)] 3));go_wp2;go_ret2;rw [Hs.out];exact lsQ.yes (HON.mono HB1.below.size) HBz.below
      ·have Hn : Hid (triB r m a b = none) := range_none fun u hu => hallc.out u (by omega)
       have i3 : (m : Int) ≤ k := by omega
       go_wp2;go_roundw;case rel =>
        refine ⟨b + 1, by omega, by omega, by go_num, fun u hu => ?_, HR⟩;by_cases huv : u < b
        ·exact hallb.out u huv
        ·obtain rfl : u = b := by omega
         exact Hn.out
       case measure => (simp [intOf] <;> omega)
    ·have Hn : Hid (triA r m a = none) := range_none fun u hu => hallb.out u (by omega)
     have i3 : (m : Int) ≤ b := by omega
     go_wp2;go_roundw;case rel =>
      refine ⟨a + 1, by omega, by go_num, fun u hu => ?_, HR⟩;by_cases huv : u < a
      ·exact hall.out u huv
      ·obtain rfl : u = a := by omega
       exact Hn.out
     case measure => (simp [intOf] <;> omega)
  ·have Hn : Hid (triO r m = none) := range_none fun u hu => hall.out u (by omega)
   have i1 : (m : Int) ≤ a := by omega
   go_wp2;go_ret2;rw [Hn.out];exact lsQ.no HB1.below
set_option maxRecDepth 100000 in
theorem FindTriple_no (sz : Int) (A : Option Addr) (m c : Nat) (x : Nat → Int) (w : World) (h : GA w A m c x) (hm : m ≤ 1048576) (hok : okB sz m x = false) :
 Calls Tryz.prog 218 #[.agg #[.int .i64 sz, .slice A m c]] w (lsQ w none) := by
 obtain ⟨W, hW, HB, HK, HC⟩ := gaW sz h;have HW := hh_ hW;have Ho := hh_ hok;have HR0 : Hid (From W W) := From.refl W;clear hW h hok;go_enter Tryz.func218, Tryz.ntmps218;obtain ⟨e0, e1⟩ := gc_ HC;go_wp2_with fail
 rw [← HW.out];clear HW;refine (IsGraph_any sz A m c x W W.heap.size HK.rd nr_ hm).mono ?_;rintro e w1 ⟨rfl, hb1⟩;rw [Ho.out];clear e0 e1;obtain ⟨HB, HK, HC, e0, e1⟩ := kC_ HB HK HC hb1;clear hb1;go_wp2;go_ret2;exact lsQ.no HB.below
set_option maxHeartbeats 1600000
noncomputable def ahO (r : Nat → Nat) (m : Nat) : Option (List Nat) := oddhO (coR r m) m
set_option maxRecDepth 100000 in
theorem ComplementOf_no (sz : Int) (A : Option Addr) (m c : Nat) (x : Nat → Int) (w : World) (h : GA w A m c x) (hm : m ≤ 1048576) (hok : okB sz m x = false) :
 Calls Tryz.prog 335 #[.agg #[.int .i64 sz, .slice A m c]] w fun e w' => e = .returned (.tuple #[.agg #[.int .i64 0, .slice none 0 0], .bool false]) ∧ Below w.heap.size w w' := by
 obtain ⟨W, hW⟩ : ∃ W, W = ((w.alloc (Obj.cells #[.int .i64 sz, .slice A m c] 28)).alloc (Obj.cells #[.int .i64 0, .slice none 0 0] 28)) := ⟨_, rfl⟩;have HB : Hid (From w W) := by rw [hW]; exact (From.alloc _ _).alloc_ _
 have HK := hh_ (h.keep HB.below);have HC : Hid (GC W w.heap.size sz A m c) := by rw [hW]; exact (GC.new _ _ _ _ _).keep (br_.alloc nr_ _)
 have HD : Hid (GC W (w.heap.size + 1) 0 none 0 0) := by rw [hW]; constructor <;> simp [go_sem]
 have HW := hh_ hW;have Ho := hh_ hok;clear hW h hok;go_enter Tryz.func335, Tryz.ntmps335;obtain ⟨e0, e1⟩ := gc_ HC;have d0 := HD.c0;have d1 := HD.c1;have d2 := HD.f0;have d3 := HD.f1;go_wp2_with fail
 rw [← HW.out];clear HW;refine (IsGraph_any sz A m c x W W.heap.size HK.rd nr_ hm).mono ?_;rintro e w1 ⟨rfl, hb1⟩;rw [Ho.out];clear e0 e1 d0 d1 d2 d3;replace HB := hh_ (HB.keep hb1);replace HK := hh_ (HK.keep hb1);replace HC := hh_ (HC.keep hb1);replace HD := hh_ (HD.keep hb1);clear hb1;obtain ⟨e0, e1⟩ := gc_ HC;have d0 := HD.c0;have d1 := HD.c1;have d2 := HD.f0;have d3 := HD.f1;go_wp2;have HE := (HB.set (q := w.heap.size + 1) (by omega) (.int .i64 0) (.slice none 0 0)).below;exact bodyPost_ret (v := .tuple #[.agg #[.int .i64 0, .slice none 0 0], .bool false]) (by simp [results, Tryz.results335, go_sem, *]) rfl ⟨rfl, HE⟩
set_option maxRecDepth 100000 in
theorem FindAntihole_v {A : Option Addr} {m c : Nat} {r : Nat → Nat} {w : World} (h : GV w A m c r) : Calls Tryz.prog 229 #[.agg #[.int .i64 m, .slice A m c]] w (lsQ w (ahO r m)) := by
 obtain ⟨W, hW, HB, HG⟩ := gbW h;have HW := hh_ hW;clear hW h;obtain ⟨e0, e1⟩ := gx_ HG;go_enter Tryz.func229, Tryz.ntmps229;go_wp2_with fail
 rw [← HW.out];refine (ComplementOf_v HG.gv).mono ?_;rintro e w1 ⟨A2, c2, rfl, hG2, hb1⟩;clear HW;clear e0 e1;obtain ⟨HB, HG, e0, e1⟩ := kG_ HB HG hb1;clear hb1;obtain ⟨W2, hW2⟩ : ∃ W2, W2 = (w1.alloc (Obj.cells #[.int .i64 m, .slice A2 m c2] 28)) := ⟨_, rfl⟩;have hb2 : Below w1.heap.size w1 W2 := by rw [hW2]; exact br_.alloc nr_ _
 have HG2 : Hid (GV W2 A2 m c2 (coR r m)) := hG2.keep hb2;have HQ : Hid (GC W2 w1.heap.size m A2 m c2) := by rw [hW2]; exact GC.new _ _ _ _ _
 have HB2 : Hid (From w W2) := HB.keep hb2;have HZ2 : Hid (w.heap.size ≤ W2.heap.size) := HB2.below.size;have HW2 := hh_ hW2;clear hW2 hb2 hG2 HB HG e0 e1;have d0 := HQ.c0;have d1 := HQ.c1;go_wp2_with fail
 rw [← HW2.out];clear HW2;refine (FindOddHole_v HG2).mono ?_;rintro e w3 ⟨A3, c3, rfl, ho3, hb3⟩;have HO3 := hh_ (ho3.mono HZ2.out);clear ho3;clear d0 d1;replace HB2 := hh_ (HB2.keep hb3);replace HQ := hh_ (HQ.keep hb3);clear hb3;have d0 := HQ.c0;have d1 := HQ.c1;go_wp2;go_ret2;exact ⟨_, _, rfl, HO3.out, HB2.below⟩
theorem ok_zero : okB 0 0 (fun _ => 0) = false := okB_no fun h => by
 obtain ⟨r, _, vg, _⟩ := h
 have := vg.n1
 omega
set_option maxRecDepth 100000 in
theorem FindAntihole_no (sz : Int) (A : Option Addr) (m c : Nat) (x : Nat → Int) (w : World) (h : GA w A m c x) (hm : m ≤ 1048576) (hok : okB sz m x = false) :
 Calls Tryz.prog 229 #[.agg #[.int .i64 sz, .slice A m c]] w (lsQ w none) := by
 obtain ⟨W, hW, HB, HK, HC⟩ := gaW sz h;have HW := hh_ hW;have K1 := hh_ (ComplementOf_no sz A m c x W HK hm hok);clear hW h hok;go_enter Tryz.func229, Tryz.ntmps229;obtain ⟨e0, e1⟩ := gc_ HC;go_wp2_with fail
 rw [← HW.out];refine (K1.out).mono ?_;rintro e w1 ⟨rfl, hb1⟩;clear HW;clear e0 e1;obtain ⟨HB, HK, HC, e0, e1⟩ := kC_ HB HK HC hb1;clear hb1;clear K1;obtain ⟨W2, hW2⟩ : ∃ W2, W2 = (w1.alloc (Obj.cells #[.int .i64 0, .slice none 0 0] 28)) := ⟨_, rfl⟩;have hb2 : Below w1.heap.size w1 W2 := by rw [hW2]; exact br_.alloc nr_ _
 have HG2 : Hid (GA W2 none 0 0 (fun _ => 0)) := ⟨⟨nr_, fun hn => absurd hn (by omega)⟩⟩;have HQ : Hid (GC W2 w1.heap.size 0 none 0 0) := by rw [hW2]; exact GC.new _ _ _ _ _
 have HB2 : Hid (From w W2) := HB.keep hb2;have HZ2 : Hid (w.heap.size ≤ W2.heap.size) := HB2.below.size;have HW2 := hh_ hW2;have K2 := hh_ (FindOddHole_no 0 none 0 0 (fun _ => 0) W2 HG2 (by omega) ok_zero);clear hW2 hb2 HB HC HK e0 e1;have d0 := HQ.c0;have d1 := HQ.c1;go_wp2_with fail
 rw [← HW2.out];clear HW2;refine K2.mono ?_;rintro e w3 ⟨A3, c3, rfl, ho3, hb3⟩;have HO3 := hh_ (ho3.mono HZ2.out);clear ho3 K2;clear d0 d1;replace HB2 := hh_ (HB2.keep hb3);replace HQ := hh_ (HQ.keep hb3);clear hb3;have d0 := HQ.c0;have d1 := HQ.c1;go_wp2;go_ret2;exact ⟨_, _, rfl, HO3.out, HB2.below⟩
set_option maxHeartbeats 1600000
noncomputable def ioO (r : Nat → Nat) (m : Nat) : Option (List Nat) := (holeO r m).or (triO r m)
noncomputable def poO (r : Nat → Nat) (m : Nat) : Option (List Nat) := (cwO r m).or (ioO r m)
noncomputable def soO (r : Nat → Nat) (m : Nat) : Option (List Nat) := (teO r m).or (holeO r m)
noncomputable def sgO (r : Nat → Nat) (m : Nat) : Option (List Nat) := (holeO r m).or (snO r m)
noncomputable def pfcO (r : Nat → Nat) (m : Nat) : Option (List Nat) := (oddhO r m).or (ahO r m)
set_option maxRecDepth 100000 in
theorem IntervalObstacle_v {A : Option Addr} {m c : Nat} {r : Nat → Nat} {w : World} (h : GV w A m c r) : Calls Tryz.prog 108 #[.agg #[.int .i64 m, .slice A m c]] w (lsQ w (ioO r m)) := by
 obtain ⟨W, hW, HB, HG⟩ := gbW h;have HW := hh_ hW;clear hW h;obtain ⟨e0, e1⟩ := gx_ HG;have HZ : Hid (w.heap.size ≤ W.heap.size) := HB.below.size;have K1 := hh_ (FindHole_v HG.gv);have HD : Hid (ioO r m = (holeO r m).or (triO r m)) := rfl;rw [HD.out];obtain ⟨o1, h1⟩ : ∃ o, o = holeO r m := ⟨_, rfl⟩;rw [← h1] at K1 ⊢;clear h1 HD;go_enter Tryz.func108, Tryz.ntmps108;go_wp2_with fail
 rw [← HW.out];refine (K1.out).mono ?_;rintro e w1 ⟨A1, c1, rfl, ho1, hb1⟩;clear HW;clear e0 e1;obtain ⟨HB, HG, e0, e1⟩ := kG_ HB HG hb1;clear hb1;have HO1 := hh_ (ho1.mono HZ.out);clear ho1 K1;cases o1 with
 | none =>
   clear HO1;have HZ1 : Hid (w.heap.size ≤ w1.heap.size) := HB.below.size;have K2 := hh_ (FindTriple_v HG.gv);go_wp2_with fail
   refine (K2.out).mono ?_;rintro e w2 ⟨A2, c2, rfl, ho2, hb2⟩;clear e0 e1;obtain ⟨HB, HG, e0, e1⟩ := kG_ HB HG hb2;clear hb2;have HO2 := hh_ (ho2.mono HZ1.out);clear ho2 K2;go_wp2;go_ret2;exact ⟨A2, c2, rfl, HO2.out, HB.below⟩
 | some l =>
   go_wp2;go_ret2;exact lsQ.yes HO1.out HB.below
set_option maxRecDepth 100000 in
theorem IntervalObstacle_no (sz : Int) (A : Option Addr) (m c : Nat) (x : Nat → Int) (w : World) (h : GA w A m c x) (hm : m ≤ 1048576) (hok : okB sz m x = false) :
 Calls Tryz.prog 108 #[.agg #[.int .i64 sz, .slice A m c]] w (lsQ w none) := by
 obtain ⟨W, hW, HB, HK, HC⟩ := gaW sz h;have HW := hh_ hW;have K1 := hh_ (FindHole_no sz A m c x W HK hm hok);have Hok := hh_ hok;clear hW h hok;go_enter Tryz.func108, Tryz.ntmps108;obtain ⟨e0, e1⟩ := gc_ HC;go_wp2_with fail
 rw [← HW.out];refine (K1.out).mono ?_;rintro e w1 ⟨A1, c1, rfl, _, hb1⟩;clear HW;clear e0 e1;obtain ⟨HB, HK, HC, e0, e1⟩ := kC_ HB HK HC hb1;clear hb1;clear K1;have HZ1 : Hid (w.heap.size ≤ w1.heap.size) := HB.below.size;have K2 := hh_ (FindTriple_no sz A m c x w1 HK hm Hok.out);go_wp2_with fail
 refine (K2.out).mono ?_;rintro e w2 ⟨A2, c2, rfl, ho2, hb2⟩;clear e0 e1;obtain ⟨HB, HK, HC, e0, e1⟩ := kC_ HB HK HC hb2;clear hb2;have HO2 := hh_ (ho2.mono HZ1.out);clear ho2 K2;go_wp2;go_ret2;exact ⟨A2, c2, rfl, HO2.out, HB.below⟩
set_option maxRecDepth 100000 in
theorem ProperObstacle_v {A : Option Addr} {m c : Nat} {r : Nat → Nat} {w : World} (h : GV w A m c r) : Calls Tryz.prog 109 #[.agg #[.int .i64 m, .slice A m c]] w (lsQ w (poO r m)) := by
 obtain ⟨W, hW, HB, HG⟩ := gbW h;have HW := hh_ hW;clear hW h;obtain ⟨e0, e1⟩ := gx_ HG;have HZ : Hid (w.heap.size ≤ W.heap.size) := HB.below.size;have K1 := hh_ (FindClaw_v HG.gv);have HD : Hid (poO r m = (cwO r m).or (ioO r m)) := rfl;rw [HD.out];obtain ⟨o1, h1⟩ : ∃ o, o = cwO r m := ⟨_, rfl⟩;rw [← h1] at K1 ⊢;clear h1 HD;go_enter Tryz.func109, Tryz.ntmps109;go_wp2_with fail
 rw [← HW.out];refine (K1.out).mono ?_;rintro e w1 ⟨A1, c1, rfl, ho1, hb1⟩;clear HW;clear e0 e1;obtain ⟨HB, HG, e0, e1⟩ := kG_ HB HG hb1;clear hb1;have HO1 := hh_ (ho1.mono HZ.out);clear ho1 K1;cases o1 with
 | none =>
   clear HO1;have HZ1 : Hid (w.heap.size ≤ w1.heap.size) := HB.below.size;have K2 := hh_ (IntervalObstacle_v HG.gv);go_wp2_with fail
   refine (K2.out).mono ?_;rintro e w2 ⟨A2, c2, rfl, ho2, hb2⟩;clear e0 e1;obtain ⟨HB, HG, e0, e1⟩ := kG_ HB HG hb2;clear hb2;have HO2 := hh_ (ho2.mono HZ1.out);clear ho2 K2;go_wp2;go_ret2;exact ⟨A2, c2, rfl, HO2.out, HB.below⟩
 | some l =>
   go_wp2;go_ret2;exact lsQ.yes HO1.out HB.below
set_option maxRecDepth 100000 in
theorem ProperObstacle_no (sz : Int) (A : Option Addr) (m c : Nat) (x : Nat → Int) (w : World) (h : GA w A m c x) (hm : m ≤ 1048576) (hok : okB sz m x = false) :
 Calls Tryz.prog 109 #[.agg #[.int .i64 sz, .slice A m c]] w (lsQ w none) := by
 obtain ⟨W, hW, HB, HK, HC⟩ := gaW sz h;have HW := hh_ hW;have K1 := hh_ (FindClaw_no sz A m c x W HK hm hok);have Hok := hh_ hok;clear hW h hok;go_enter Tryz.func109, Tryz.ntmps109;obtain ⟨e0, e1⟩ := gc_ HC;go_wp2_with fail
 rw [← HW.out];refine (K1.out).mono ?_;rintro e w1 ⟨A1, c1, rfl, _, hb1⟩;clear HW;clear e0 e1;obtain ⟨HB, HK, HC, e0, e1⟩ := kC_ HB HK HC hb1;clear hb1;clear K1;have HZ1 : Hid (w.heap.size ≤ w1.heap.size) := HB.below.size;have K2 := hh_ (IntervalObstacle_no sz A m c x w1 HK hm Hok.out);go_wp2_with fail
 refine (K2.out).mono ?_;rintro e w2 ⟨A2, c2, rfl, ho2, hb2⟩;clear e0 e1;obtain ⟨HB, HK, HC, e0, e1⟩ := kC_ HB HK HC hb2;clear hb2;have HO2 := hh_ (ho2.mono HZ1.out);clear ho2 K2;go_wp2;go_ret2;exact ⟨A2, c2, rfl, HO2.out, HB.below⟩
set_option maxRecDepth 100000 in
theorem SplitObstacle_v {A : Option Addr} {m c : Nat} {r : Nat → Nat} {w : World} (h : GV w A m c r) : Calls Tryz.prog 111 #[.agg #[.int .i64 m, .slice A m c]] w (lsQ w (soO r m)) := by
 obtain ⟨W, hW, HB, HG⟩ := gbW h;have HW := hh_ hW;clear hW h;obtain ⟨e0, e1⟩ := gx_ HG;have HZ : Hid (w.heap.size ≤ W.heap.size) := HB.below.size;have K1 := hh_ (FindTwoEdges_v HG.gv);have HD : Hid (soO r m = (teO r m).or (holeO r m)) := rfl;rw [HD.out];obtain ⟨o1, h1⟩ : ∃ o, o = teO r m := ⟨_, rfl⟩;rw [← h1] at K1 ⊢;clear h1 HD;go_enter Tryz.func111, Tryz.ntmps111;go_wp2_with fail
 rw [← HW.out];refine (K1.out).mono ?_;rintro e w1 ⟨A1, c1, rfl, ho1, hb1⟩;clear HW;clear e0 e1;obtain ⟨HB, HG, e0, e1⟩ := kG_ HB HG hb1;clear hb1;have HO1 := hh_ (ho1.mono HZ.out);clear ho1 K1;cases o1 with
 | none =>
   clear HO1;have HZ1 : Hid (w.heap.size ≤ w1.heap.size) := HB.below.size;have K2 := hh_ (FindHole_v HG.gv);go_wp2_with fail
   refine (K2.out).mono ?_;rintro e w2 ⟨A2, c2, rfl, ho2, hb2⟩;clear e0 e1;obtain ⟨HB, HG, e0, e1⟩ := kG_ HB HG hb2;clear hb2;have HO2 := hh_ (ho2.mono HZ1.out);clear ho2 K2;go_wp2;go_ret2;exact ⟨A2, c2, rfl, HO2.out, HB.below⟩
 | some l =>
   go_wp2;go_ret2;exact lsQ.yes HO1.out HB.below
set_option maxRecDepth 100000 in
theorem SplitObstacle_no (sz : Int) (A : Option Addr) (m c : Nat) (x : Nat → Int) (w : World) (h : GA w A m c x) (hm : m ≤ 1048576) (hok : okB sz m x = false) :
 Calls Tryz.prog 111 #[.agg #[.int .i64 sz, .slice A m c]] w (lsQ w none) := by
 obtain ⟨W, hW, HB, HK, HC⟩ := gaW sz h;have HW := hh_ hW;have K1 := hh_ (FindTwoEdges_no sz A m c x W HK hm hok);have Hok := hh_ hok;clear hW h hok;go_enter Tryz.func111, Tryz.ntmps111;obtain ⟨e0, e1⟩ := gc_ HC;go_wp2_with fail
 rw [← HW.out];refine (K1.out).mono ?_;rintro e w1 ⟨A1, c1, rfl, _, hb1⟩;clear HW;clear e0 e1;obtain ⟨HB, HK, HC, e0, e1⟩ := kC_ HB HK HC hb1;clear hb1;clear K1;have HZ1 : Hid (w.heap.size ≤ w1.heap.size) := HB.below.size;have K2 := hh_ (FindHole_no sz A m c x w1 HK hm Hok.out);go_wp2_with fail
 refine (K2.out).mono ?_;rintro e w2 ⟨A2, c2, rfl, ho2, hb2⟩;clear e0 e1;obtain ⟨HB, HK, HC, e0, e1⟩ := kC_ HB HK HC hb2;clear hb2;have HO2 := hh_ (ho2.mono HZ1.out);clear ho2 K2;go_wp2;go_ret2;exact ⟨A2, c2, rfl, HO2.out, HB.below⟩
set_option maxRecDepth 100000 in
theorem StrongObstacle_v {A : Option Addr} {m c : Nat} {r : Nat → Nat} {w : World} (h : GV w A m c r) : Calls Tryz.prog 114 #[.agg #[.int .i64 m, .slice A m c]] w (lsQ w (sgO r m)) := by
 obtain ⟨W, hW, HB, HG⟩ := gbW h;have HW := hh_ hW;clear hW h;obtain ⟨e0, e1⟩ := gx_ HG;have HZ : Hid (w.heap.size ≤ W.heap.size) := HB.below.size;have K1 := hh_ (FindHole_v HG.gv);have HD : Hid (sgO r m = (holeO r m).or (snO r m)) := rfl;rw [HD.out];obtain ⟨o1, h1⟩ : ∃ o, o = holeO r m := ⟨_, rfl⟩;rw [← h1] at K1 ⊢;clear h1 HD;go_enter Tryz.func114, Tryz.ntmps114;go_wp2_with fail
 rw [← HW.out];refine (K1.out).mono ?_;rintro e w1 ⟨A1, c1, rfl, ho1, hb1⟩;clear HW;clear e0 e1;obtain ⟨HB, HG, e0, e1⟩ := kG_ HB HG hb1;clear hb1;have HO1 := hh_ (ho1.mono HZ.out);clear ho1 K1;cases o1 with
 | none =>
   clear HO1;have HZ1 : Hid (w.heap.size ≤ w1.heap.size) := HB.below.size;have K2 := hh_ (FindSun_v HG.gv);go_wp2_with fail
   refine (K2.out).mono ?_;rintro e w2 ⟨A2, c2, rfl, ho2, hb2⟩;clear e0 e1;obtain ⟨HB, HG, e0, e1⟩ := kG_ HB HG hb2;clear hb2;have HO2 := hh_ (ho2.mono HZ1.out);clear ho2 K2;go_wp2;go_ret2;exact ⟨A2, c2, rfl, HO2.out, HB.below⟩
 | some l =>
   go_wp2;go_ret2;exact lsQ.yes HO1.out HB.below
set_option maxRecDepth 100000 in
theorem StrongObstacle_no (sz : Int) (A : Option Addr) (m c : Nat) (x : Nat → Int) (w : World) (h : GA w A m c x) (hm : m ≤ 1048576) (hok : okB sz m x = false) :
 Calls Tryz.prog 114 #[.agg #[.int .i64 sz, .slice A m c]] w (lsQ w none) := by
 obtain ⟨W, hW, HB, HK, HC⟩ := gaW sz h;have HW := hh_ hW;have K1 := hh_ (FindHole_no sz A m c x W HK hm hok);have Hok := hh_ hok;clear hW h hok;go_enter Tryz.func114, Tryz.ntmps114;obtain ⟨e0, e1⟩ := gc_ HC;go_wp2_with fail
 rw [← HW.out];refine (K1.out).mono ?_;rintro e w1 ⟨A1, c1, rfl, _, hb1⟩;clear HW;clear e0 e1;obtain ⟨HB, HK, HC, e0, e1⟩ := kC_ HB HK HC hb1;clear hb1;clear K1;have HZ1 : Hid (w.heap.size ≤ w1.heap.size) := HB.below.size;have K2 := hh_ (FindSun_no sz A m c x w1 HK hm Hok.out);go_wp2_with fail
 refine (K2.out).mono ?_;rintro e w2 ⟨A2, c2, rfl, ho2, hb2⟩;clear e0 e1;obtain ⟨HB, HK, HC, e0, e1⟩ := kC_ HB HK HC hb2;clear hb2;have HO2 := hh_ (ho2.mono HZ1.out);clear ho2 K2;go_wp2;go_ret2;exact ⟨A2, c2, rfl, HO2.out, HB.below⟩
set_option maxRecDepth 100000 in
theorem PerfectObstacle_v {A : Option Addr} {m c : Nat} {r : Nat → Nat} {w : World} (h : GV w A m c r) : Calls Tryz.prog 115 #[.agg #[.int .i64 m, .slice A m c]] w (lsQ w (pfcO r m)) := by
 obtain ⟨W, hW, HB, HG⟩ := gbW h;have HW := hh_ hW;clear hW h;obtain ⟨e0, e1⟩ := gx_ HG;have HZ : Hid (w.heap.size ≤ W.heap.size) := HB.below.size;have K1 := hh_ (FindOddHole_v HG.gv);have HD : Hid (pfcO r m = (oddhO r m).or (ahO r m)) := rfl;rw [HD.out];obtain ⟨o1, h1⟩ : ∃ o, o = oddhO r m := ⟨_, rfl⟩;rw [← h1] at K1 ⊢;clear h1 HD;go_enter Tryz.func115, Tryz.ntmps115;go_wp2_with fail
 rw [← HW.out];refine (K1.out).mono ?_;rintro e w1 ⟨A1, c1, rfl, ho1, hb1⟩;clear HW;clear e0 e1;obtain ⟨HB, HG, e0, e1⟩ := kG_ HB HG hb1;clear hb1;have HO1 := hh_ (ho1.mono HZ.out);clear ho1 K1;cases o1 with
 | none =>
   clear HO1;have HZ1 : Hid (w.heap.size ≤ w1.heap.size) := HB.below.size;have K2 := hh_ (FindAntihole_v HG.gv);go_wp2_with fail
   refine (K2.out).mono ?_;rintro e w2 ⟨A2, c2, rfl, ho2, hb2⟩;clear e0 e1;obtain ⟨HB, HG, e0, e1⟩ := kG_ HB HG hb2;clear hb2;have HO2 := hh_ (ho2.mono HZ1.out);clear ho2 K2;go_wp2;go_ret2;exact ⟨A2, c2, rfl, HO2.out, HB.below⟩
 | some l =>
   go_wp2;go_ret2;exact lsQ.yes HO1.out HB.below
set_option maxRecDepth 100000 in
theorem PerfectObstacle_no (sz : Int) (A : Option Addr) (m c : Nat) (x : Nat → Int) (w : World) (h : GA w A m c x) (hm : m ≤ 1048576) (hok : okB sz m x = false) :
 Calls Tryz.prog 115 #[.agg #[.int .i64 sz, .slice A m c]] w (lsQ w none) := by
 obtain ⟨W, hW, HB, HK, HC⟩ := gaW sz h;have HW := hh_ hW;have K1 := hh_ (FindOddHole_no sz A m c x W HK hm hok);have Hok := hh_ hok;clear hW h hok;go_enter Tryz.func115, Tryz.ntmps115;obtain ⟨e0, e1⟩ := gc_ HC;go_wp2_with fail
 rw [← HW.out];refine (K1.out).mono ?_;rintro e w1 ⟨A1, c1, rfl, _, hb1⟩;clear HW;clear e0 e1;obtain ⟨HB, HK, HC, e0, e1⟩ := kC_ HB HK HC hb1;clear hb1;clear K1;have HZ1 : Hid (w.heap.size ≤ w1.heap.size) := HB.below.size;have K2 := hh_ (FindAntihole_no sz A m c x w1 HK hm Hok.out);go_wp2_with fail
 refine (K2.out).mono ?_;rintro e w2 ⟨A2, c2, rfl, ho2, hb2⟩;clear e0 e1;obtain ⟨HB, HK, HC, e0, e1⟩ := kC_ HB HK HC hb2;clear hb2;have HO2 := hh_ (ho2.mono HZ1.out);clear ho2 K2;go_wp2;go_ret2;exact ⟨A2, c2, rfl, HO2.out, HB.below⟩
end Go.Proofs.YtdpkbfiggbcclaaGreat
