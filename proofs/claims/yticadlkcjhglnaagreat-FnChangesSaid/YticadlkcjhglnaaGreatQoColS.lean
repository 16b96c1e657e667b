/-
  Several texts in one.
-/
import Derived.Test.YticadlkcjhglnaaGreatQoThoI
import Derived.Test.YticadlkcjhglnaaGreatQoGC
import Derived.Test.YticadlkcjhglnaaGreatQoColP
/-
-/
namespace Go.Proofs.YticadlkcjhglnaaGreat
open Go.RowKit
set_option maxHeartbeats 6400000
section
variable {A : Option Addr} {m c : Nat} {r : Nat → Nat} {w : World}
set_option maxRecDepth 100000 in
theorem ThresholdOrder_sv (h : GV w A m c r) :
 Calls Tryz.prog 106 #[.agg #[.int .i64 m, .slice A m c]] w fun e w' => ∃ V1 V2, e = .returned (.tuple #[V1, V2, .bool (thO r m).isSome]) ∧ Below w.heap.size w w' := by
 obtain ⟨b0, o0, rfl⟩ := h.addr;have hn7 := h.vg.n7;have h128 := two_pow_le hn7;have hpos := Nat.two_pow_pos m;have HV := hh_ h.vg;have Hth0 : Hid ((thO r m).isSome = (redL (thF r) (2 ^ m - 1)).isSome) := rfl;obtain ⟨F, hF⟩ : ∃ F, F = 2 ^ m := ⟨_, rfl⟩;have pm : IntKind.i64.wrap ((2 : Int) ^ m) = (F : Int) := by rw [pow_shl m hn7, hF]; simp
 have sm : IntKind.i64.wrap ((F : Int) - 1) = ((F - 1 : Nat) : Int) := by rw [Go.IntWalk.i64_in _ (by omega)]; omega
 have HF := hh_ hF;have hFl : 1 ≤ F ∧ F ≤ 128 := by rw [hF]; exact ⟨hpos, h128⟩
 clear hF;obtain ⟨W, hW⟩ : ∃ W, W = (((w.alloc (Obj.cells #[.int .i64 m, .slice (some ⟨b0, o0, none⟩) m c] 26)).alloc (Obj.cells #[] 3)).alloc (Obj.cells #[] 4)) := ⟨_, rfl⟩;have HB : Hid (From w W) := by rw [hW]; exact ((From.alloc _ _).alloc_ _).alloc_ _
 have HG : Hid (GBox W w.heap.size (some ⟨b0, o0, none⟩) m c r) := by rw [hW]; exact h.box.keep ((br_.alloc nr_ _).alloc (by simp) _)
 have HI : Hid (Own W w.heap.size W.heap.size 3 1 (some ⟨w.heap.size + 1, 0, none⟩) 0 0 (fun j => .int .i64 ((fun _ => 0 : Nat → Nat) j : Nat))) := by
  rw [hW];have h1 := (ON.nil (w.alloc (Obj.cells #[.int .i64 m, .slice (some ⟨b0, o0, none⟩) m c] 26))).own;rw [show (w.alloc (Obj.cells #[.int .i64 m, .slice (some ⟨b0, o0, none⟩) m c] 26)).heap.size = w.heap.size + 1 from by simp] at h1;exact ((h1.congr (fun j hj => absurd hj (by simp))).alloc _).mono (by omega) (by simp)
 have HJ : Hid (Own W w.heap.size W.heap.size 4 1 (some ⟨w.heap.size + 2, 0, none⟩) 0 0 (fun j => .bool ((fun _ => false : Nat → Bool) j))) := by
  have hn := heap_alloc_new ((w.alloc (Obj.cells #[.int .i64 m, .slice (some ⟨b0, o0, none⟩) m c] 26)).alloc (Obj.cells #[] 3)) (Obj.cells #[] 4);have he : ((w.alloc (Obj.cells #[.int .i64 m, .slice (some ⟨b0, o0, none⟩) m c] 26)).alloc (Obj.cells #[] 3)).heap.size = w.heap.size + 2 := by simp
  have hz : W.heap.size = w.heap.size + 3 := by rw [hW]; simp
  rw [he, ← hW] at hn;exact .inr ⟨w.heap.size + 2, #[], rfl, by omega, by omega, hn, nr_, by unfold maxLen; omega, rfl, fun j hj => absurd hj (by omega)⟩
 have HW := hh_ hW;clear hW h;go_enter Tryz.func106, Tryz.ntmps106;obtain ⟨e0, e1⟩ := gx_ HG;go_wp2_with fail
 rw [← HW.out];clear HW;refine (IsGraph_sv HG.gv).mono ?_;rintro e w1 ⟨rfl, hb1⟩;have HI1 : Hid (Own w1 w.heap.size w1.heap.size 3 1 (some ⟨w.heap.size + 1, 0, none⟩) 0 0 (fun j => .int .i64 ((fun _ => 0 : Nat → Nat) j : Nat))) := (HI.keepB hb1 nr_).mono nr_ hb1.size;have HJ1 : Hid (Own w1 w.heap.size w1.heap.size 4 1 (some ⟨w.heap.size + 2, 0, none⟩) 0 0 (fun j => .bool ((fun _ => false : Nat → Bool) j))) := (HJ.keepB hb1 nr_).mono nr_ hb1.size;clear HI HJ;clear e0 e1;obtain ⟨HB, HG, e0, e1⟩ := kG_ HB HG hb1;clear hb1;go_wp2;go_loopw [5, 6, 7] (fun a b l wr => ∃ (n left : Nat) (A1 A2 : Option Addr) (c1 c2 : Nat) (q : Nat → Nat) (d : Nat → Bool), n + left < F ∧ a = .slice A1 n c1 ∧ b = .slice A2 n c2 ∧ l = .int .i64 left ∧ Hid (Own wr w.heap.size wr.heap.size 3 1 A1 n c1 (fun j => .int .i64 (q j : Nat))) ∧ Hid (Own wr w.heap.size wr.heap.size 4 1 A2 n c2 (fun j => .bool (d j))) ∧ Hid (From w1 wr) ∧ Hid ((thO r m).isSome = (redL (thF r) left).isSome)) (fun _ _ l _ => (intOf l).toNat)
 case atStart => exact ⟨0, F - 1, _, _, 0, 0, _, _, by omega, rfl, rfl, rfl, HI1, HJ1, From.refl _, by rw [HF.out]; exact Hth0.out⟩
 case round =>
  obtain ⟨n, left, A1, A2, c1, c2, q, d, hnl, rfl, rfl, rfl, HOI, HOJ, HR, Hth⟩ := hrel;clear HI1 HJ1 Hth0;clear e0 e1;replace HB := hh_ (HB.keep HR.below);replace HG := hh_ (HG.keep HR.below);obtain ⟨e0, e1⟩ := gx_ HG;by_cases hl0 : left = 0
  ·subst hl0;have Hs : Hid ((thO r m).isSome = true) := by show _ = _; rw [Hth.out, redL_zero]; rfl
   clear Hth;go_wp2;go_ret3;exact ⟨_, _, by rw [Hs.out]; rfl, HB.below⟩
  ·have i1 : (0 : Int) < left := by omega
   have Hl0 := hh_ hl0;have Hll : Hid (left < 2 ^ m) := by show _ < _; rw [← HF.out]; omega
   clear hl0;go_wp2;go_loopw [8, 9, 10] (fun a b v wz => ∃ (k : Nat) (t : Bool), k ≤ m ∧ v = .int .i64 k ∧ a = .int .i64 (optI (thT r left k)) ∧ b = .bool t ∧ wz = wr) (fun _ _ v _ => m - (intOf v).toNat);case atStart => exact ⟨0, false, Nat.zero_le _, rfl, rfl, rfl, rfl⟩
   case round =>
    obtain ⟨k, t, hk, rfl, rfl, rfl, rfl⟩ := hrel;by_cases hkm : k < m
    ·have i2 : (k : Int) < m := by omega
     have p0 := HG.gv.row hkm;have hr := HV.lt128 hkm;have hirr := HV.irr k hkm;have Hno : Hid ((left.testBit k = false ∨ thB r left k = false) → thT r left (k + 1) = thT r left k) := fun h => thT_no h
     have Hyes : Hid (left.testBit k = true → thB r left k = true → thT r left (k + 1) = some k) := fun h h2 => thT_yes h h2
     have hthB : thB r left k = (r k &&& left == 0 || (r k &&& left) ||| 2 ^ k == left) := rfl;have hsub : left.testBit k = true → (((r k &&& left) ||| 2 ^ k = left) ↔ (r k &&& left = left - 2 ^ k)) := fun hb => thB_sub hb hirr
     obtain ⟨o, ho⟩ : ∃ o, o = thT r left k := ⟨_, rfl⟩;rw [← ho] at Hno ⊢;obtain ⟨x, hx⟩ : ∃ x, x = r k := ⟨_, rfl⟩;rw [← hx] at p0 hr hthB hsub;have hand : x &&& left < 128 := Nat.lt_of_le_of_lt Nat.and_le_left hr;have E2 := i64_and_nat x left (by omega) (by omega);have E1 := and_one_i64 (left : Int) k (by omega) (by omega);rw [Int.toNat_natCast] at E1;clear hx ho hirr;cases hb : left.testBit k
     ·rw [hb] at E1;have Hs := hh_ (Hno.out (.inl hb));obtain ⟨y, hy⟩ : ∃ y, y = x &&& left := ⟨_, rfl⟩;rw [← hy] at E2 hand;clear hb hsub hthB hy;go_wp2;go_roundw;case rel => exact ⟨k + 1, t, by omega, by go_num, by rw [Hs.out], rfl, by first | rfl | trivial⟩
      case measure => (simp [intOf] <;> omega)
     ·rw [hb] at E1;have hsb := hsub hb;have hz := bit_ge hb;obtain ⟨z, hz'⟩ : ∃ z, z = 2 ^ k := ⟨_, rfl⟩;have pv : IntKind.i64.wrap ((2 : Int) ^ k) = (z : Int) := by rw [pow_shl k (by omega), hz']; simp
      rw [← hz'] at hz hsb hthB;have s3 : IntKind.i64.wrap ((left : Int) - (z : Int)) = ((left - z : Nat) : Int) := by rw [Go.IntWalk.i64_in _ (by omega)]; omega
      obtain ⟨y, hy⟩ : ∃ y, y = left - z := ⟨_, rfl⟩;rw [← hy] at s3 hsb;obtain ⟨n0, hn0⟩ : ∃ n0, n0 = x &&& left := ⟨_, rfl⟩;rw [← hn0] at E2 hand hsb hthB;clear hz' hsub hn0;by_cases h1 : n0 = 0
      ·have Hs := hh_ (Hyes.out hb (by rw [hthB, h1]; rfl));have d1 : ((n0 : Int) == 0) = true := by simp; omega
       have d2 : ((n0 : Int) != 0) = false := by simp; omega
       clear hb hy hsb hthB h1;go_wp2;go_roundw;case rel => exact ⟨k + 1, false, by omega, by go_num, by rw [Hs.out]; rfl, rfl, by first | rfl | trivial⟩
       case measure => (simp [intOf] <;> omega)
      ·have d1 : ((n0 : Int) == 0) = false := by simp; omega
       have d2 : ((n0 : Int) != 0) = true := by simp; omega
       by_cases h2 : n0 = y
       ·have Hs := hh_ (Hyes.out hb (by rw [hthB, beq_iff_eq.2 (hsb.2 h2), Bool.or_true]));have d3 : ((n0 : Int) == (y : Int)) = true := by simp; omega
        have d4 : (n0 = y) = True := by simp [h2]
        clear hb hy hsb hthB h1 h2;go_wp2;go_roundw;case rel => exact ⟨k + 1, true, by omega, by go_num, by rw [Hs.out]; rfl, rfl, by first | rfl | trivial⟩
        case measure => (simp [intOf] <;> omega)
       ·have Hs := hh_ (Hno.out (.inr (by
         rw [hthB, Bool.or_eq_false_iff];exact ⟨by simpa using h1, by simpa using fun h => h2 (hsb.1 h)⟩)))
        have d3 : ((n0 : Int) == (y : Int)) = false := by simp; omega
        have d4 : (n0 = y) = False := by simp [h2]
        clear hb hy hsb hthB h1 h2;go_wp2;go_roundw;case rel => exact ⟨k + 1, t, by omega, by go_num, by rw [Hs.out], rfl, by first | rfl | trivial⟩
        case measure => (simp [intOf] <;> omega)
    ·have hkm' : k = m := by omega
     have hth : thT r left k = thF r left := by rw [hkm']; exact (thT_more Hll.out 7 hn7).symm
     rw [hth];have i2 : (m : Int) ≤ k := by omega
     clear hth hkm';cases ht : thF r left with
     | none =>
       have Hs : Hid ((thO r m).isSome = false) := by show _ = _; rw [Hth.out, redL_none Hl0.out ht]; rfl
       have HBz := hh_ ((HB.alloc_ (Obj.cells #[] 3)).alloc_ (Obj.cells #[] 4));have hq : optI none = -1 := rfl;rw [hq];clear ht Hth hq;go_wp2;go_ret3;exact ⟨_, _, by rw [Hs.out]; rfl, HBz.below⟩
     | some v =>
       have htb := thT_bit ht;have hq : optI (some v) = (v : Int) := rfl;rw [hq];clear hq;have hz := bit_ge htb.2;have hxs := xor_bit_sub htb.2;have Hth2 : Hid ((thO r m).isSome = (redL (thF r) (left - 2 ^ v)).isSome) := by show _ = _; rw [Hth.out, redL_some htb.2 ht, hxs, Option.isSome_map]
       have hv7 := htb.1;obtain ⟨z, hz'⟩ : ∃ z, z = 2 ^ v := ⟨_, rfl⟩;have hzp : 0 < z := by rw [hz']; exact Nat.two_pow_pos _
       have pv : IntKind.i64.wrap ((2 : Int) ^ v) = (z : Int) := by rw [pow_shl v (by omega), hz']; simp
       rw [← hz'] at hz Hth2;have s3 : IntKind.i64.wrap ((left : Int) - (z : Int)) = ((left - z : Nat) : Int) := by rw [Go.IntWalk.i64_in _ (by omega)]; omega
       have i3 : (0 : Int) ≤ v := by omega
       have HL1 : Hid (Own (wr.alloc (Obj.cells #[.int .i64 (v : Int)] 3)) wr.heap.size (wr.heap.size + 1) 3 1 (some ⟨wr.heap.size, 0, none⟩) 1 1 (fun _ => .int .i64 (v : Int))) :=
        .inr ⟨wr.heap.size, #[.int .i64 (v : Int)], rfl, nr_, Nat.lt_succ_self _, heap_alloc_new wr _, nr_, by unfold maxLen; omega, rfl, fun j hj => by (have h0 : j = 0 := by omega); subst h0; rfl⟩
       have HR1 : Hid (Rd (wr.alloc (Obj.cells #[.int .i64 (v : Int)] 3)) wr.heap.size A1 n c1 (fun j => ((q j : Nat) : Int))) := HOI.rd.keep (br_.alloc nr_ _) nr_;have KL : Hid (∀ z : World, Own (z.alloc (Obj.cells #[.bool t] 4)) z.heap.size (z.heap.size + 1) 4 1 (some ⟨z.heap.size, 0, none⟩) 1 1 (fun _ => .bool t)) := fun z =>
        .inr ⟨z.heap.size, #[.bool t], rfl, nr_, Nat.lt_succ_self _, heap_alloc_new z _, nr_, by unfold maxLen; omega, rfl, fun j hj => by (have h0 : j = 0 := by omega); subst h0; rfl⟩
       have KR : Hid (∀ z : World, Below wr.heap.size wr z → RdV (z.alloc (Obj.cells #[.bool t] 4)) wr.heap.size A2 n c2 (fun j => .bool (d j))) := fun z hz => HOJ.rdV.keep (bl_alloc hz) nr_
       have HA0 : Hid (Below wr.heap.size wr (wr.alloc (Obj.cells #[.int .i64 (v : Int)] 3))) := br_.alloc nr_ _;have hzz := HB.below.size;clear htb hxs ht hz' Hth;go_wp2_with (first | (at_builtin; (refine wpList_appendI _ rfl _ _ rfl rfl HL1.out rfl HR1.out (by simp) (by omega) (by omega) ?_; intro A3 c3 w3 hO3 hb3)) | (at_builtin; (refine wpList_appendB _ rfl _ _ rfl rfl (KL.out w3) rfl (KR.out w3 (HA0.trans hb3)) (fun _ => rfl) (by simp) (by omega) (by omega) ?_; intro A4 c4 w4 hO4 hb4)))
       have HOI2 : Hid (Own w4 w.heap.size w4.heap.size 3 1 A3 (1 + n) c3 (fun j => .int .i64 (((fun j => if j < 1 then v else q (j - 1) : Nat → Nat) j : Nat) : Int))) := by
        have h4 : Below w3.heap.size w3 w4 := (br_.alloc nr_ _).trans hb4;refine ((hO3.keepB h4 nr_).mono hzz h4.size).congr (fun j hj => ?_);unfold thenI;by_cases h1 : j < 1 <;> simp [h1]
       have HOJ2 : Hid (Own w4 w.heap.size w4.heap.size 4 1 A4 (1 + n) c4 (fun j => .bool ((fun j => if j < 1 then t else d (j - 1) : Nat → Bool) j))) := by
        have h3 := (HA0.trans hb3).size;refine (hO4.mono (by omega) nr_).congr (fun j hj => ?_);unfold thenB;by_cases h1 : j < 1 <;> simp [h1]
       have HR4 : Hid (From w1 w4) := by
        have h3 := HA0.trans hb3;have h4 : Below w3.heap.size w3 w4 := (br_.alloc nr_ _).trans hb4;exact ⟨HR.below.trans ((h3.trans (h4.mono h3.size)).mono HR.below.size)⟩
       clear hO3 hb3 hO4 hb4 HL1 HR1 KL KR HA0;go_roundw;case rel => exact ⟨1 + n, left - z, A3, A4, c3, c4, _, _, by omega, rfl, rfl, by first | rfl | go_num, HOI2, HOJ2, HR4, Hth2⟩
       case measure => (simp [intOf] <;> omega)
end
section
variable (sz : Int) (A : Option Addr) (m c : Nat) (x : Nat → Int) (w : World)
set_option maxRecDepth 100000 in
theorem ThresholdOrder_sno (h : GA w A m c x) (hm : m ≤ 1048576) (hok : okB sz m x = false) :
 Calls Tryz.prog 106 #[.agg #[.int .i64 sz, .slice A m c]] w fun e w' => ∃ V1 V2, e = .returned (.tuple #[V1, V2, .bool (none : Option (List Nat)).isSome]) ∧ Below w.heap.size w w' := by
 obtain ⟨W, hW⟩ : ∃ W, W = (((w.alloc (Obj.cells #[.int .i64 sz, .slice A m c] 26)).alloc (Obj.cells #[] 3)).alloc (Obj.cells #[] 4)) := ⟨_, rfl⟩;have HB : Hid (From w W) := by rw [hW]; exact ((From.alloc _ _).alloc_ _).alloc_ _
 have HK := hh_ (h.keep HB.below);have HC : Hid (GC W w.heap.size sz A m c) := by rw [hW]; exact (GC.new _ _ _ _ _).keep ((br_.alloc nr_ _).alloc (by simp) _)
 have HW := hh_ hW;have KF : Hid (Calls Tryz.prog 60 #[.agg #[.int .i64 sz, .slice A m c]] W fun e w' => e = .returned (.bool false) ∧ Below W.heap.size W w') := by
  have := IsGraph_sany sz A m c x W W.heap.size HK.rd nr_ hm;rwa [hok] at this
 clear hW h hok;go_enter Tryz.func106, Tryz.ntmps106;obtain ⟨e0, e1⟩ := gc_ HC;go_wp2_with fail
 rw [← HW.out];refine (KF.out).mono ?_;rintro e w1 ⟨rfl, hb1⟩;clear HW;clear e0 e1;obtain ⟨HB, HK, HC, e0, e1⟩ := kC_ HB HK HC hb1;clear hb1;clear KF;go_wp2;go_ret3;exact ⟨_, _, rfl, HB.below⟩
set_option maxRecDepth 100000 in
theorem IsThreshold_s (h : GA w A m c x) (hm : m ≤ 1048576) :
 Calls Tryz.prog 56 #[.agg #[.int .i64 sz, .slice A m c]] w fun e w' => e = .returned (.bool (toB sz m x)) ∧ Below w.heap.size w w' := by
 obtain ⟨W, hW, HB, HK, HC⟩ := gaW sz h;have HW := hh_ hW;clear hW h;go_enter Tryz.func56, Tryz.ntmps56;cases ho : okB sz m x
 ·have Hn : Hid (toB sz m x = false) := toB_no ho;have KF := hh_ (ThresholdOrder_sno sz A m c x W HK hm ho);clear ho;obtain ⟨e0, e1⟩ := gc_ HC;go_wp2_with fail
  rw [← HW.out];refine (KF.out).mono ?_;rintro e w1 ⟨V1, V2, rfl, hb1⟩;clear HW;clear e0 e1;obtain ⟨HB, HK, HC, e0, e1⟩ := kC_ HB HK HC hb1;clear hb1;clear KF;go_wp2;go_ret;exact ⟨ret_bool Hn.symm, HB.below⟩
 obtain ⟨_, es, _, _⟩ := okB_ok' ho;subst es;have Hn : Hid (toB (m : Int) m x = (thO (rw_ x) m).isSome) := toB_yes ho;have HG : Hid (GBox W w.heap.size A m c (rw_ x)) := ⟨HK.gv ho, HC.c0, HC.c1, HC.lt⟩;have KF := hh_ (ThresholdOrder_sv HG.gv);obtain ⟨o, ho2⟩ : ∃ o, o = thO (rw_ x) m := ⟨_, rfl⟩;rw [← ho2] at Hn KF;clear ho ho2 HC HK;cases o
 ·skip;obtain ⟨e0, e1⟩ := gx_ HG;go_wp2_with fail
  rw [← HW.out];refine (KF.out).mono ?_;rintro e w2 ⟨V1, V2, rfl, hb2⟩;clear HW;clear e0 e1;obtain ⟨HB, HG, e0, e1⟩ := kG_ HB HG hb2;clear hb2;clear KF;go_wp2;go_ret;exact ⟨ret_bool Hn.symm, HB.below⟩
 ·skip;obtain ⟨e0, e1⟩ := gx_ HG;go_wp2_with fail
  rw [← HW.out];refine (KF.out).mono ?_;rintro e w3 ⟨V1, V2, rfl, hb3⟩;clear HW;clear e0 e1;obtain ⟨HB, HG, e0, e1⟩ := kG_ HB HG hb3;clear hb3;clear KF;go_wp2;go_ret;exact ⟨ret_bool Hn.symm, HB.below⟩
end
theorem step_appendG0 (w : World) {ops : Array Oper} {o : Oper} {a : Act} {K : Act → World → Prop} {Q : Exit → Act → World → Prop} {E : Prop} {lo hi B c m c2 : Nat} {A A2 : Option Addr} {x : Nat → Value} {y : Nat → Int} (hgd : o.guard = none) (s z : Operand)
 (ho : o.op = .call { callee := .builtin .append, args := #[s, z], argTypes := #[24, 24] })
 (hs : a.eval s = .slice A 0 c) (h : Own w lo hi 3 1 A 0 c x) (hz : a.eval z = .slice A2 m c2) (hr : Rd w B A2 m c2 y) (hlo : lo ≤ w.heap.size) (hm : m ≤ 1073741824)
 (hK : ∀ A' c' w', Own w' lo w'.heap.size 3 1 A' m c' (fun j => .int .i64 (y j)) → Below lo w w' → w.grownBy w' (Value.slice A 0 c).ownBlock → K (a.put o.dst (.slice A' m c')) w') :
 if Region.wanted o (yielded ops a.tmps) = true then Oper.wp Tryz.prog o a w K Q else E := by
 refine step_appendG w hgd s z ho hs h hz hr hlo (by omega) hm ?_;intro A' c' w' h1 h2 h3;rw [Nat.zero_add] at h1 ⊢;exact hK A' c' w' (h1.congr (fun j _ => by unfold thenI; simp)) h2 h3
set_option maxHeartbeats 6400000
set_option maxRecDepth 100000 in
theorem l24_s {A : Option Addr} {m c k : Nat} {r : Nat → Nat} (hk7 : k ≤ 7) : ∀ (j : Nat) (l : List Nat) (Al : Option Addr) (cl : Nat) (w : World) (lo : Nat), l.length + j = m → GV w A m c r → ON lo w Al cl l → lo ≤ w.heap.size →
 Calls Tryz.prog 207 #[.agg #[.int .i64 m, .slice A m c], .int .i64 k, .slice Al l.length cl] w fun e w' => ∃ A' n' c', e = .returned (.tuple #[.slice A' n' c', .bool (colS r k j l).isSome]) ∧ (∀ x, colS r k j l = some x → n' = x.length ∧ ON lo w' A' c' x) ∧ Below w.heap.size w w' := by
 intro j;induction j with
 | zero =>
   intro l Al cl w lo hlm h hO hlo;have heq : ((l.length : Int) == (m : Int)) = true := by simp; omega
   have heq2 : (l.length = m) = True := by simp; omega
   have HO := hh_ hO;clear hO hlm;obtain ⟨W, hW, HB, HG⟩ := gbW h;have HW := hh_ hW;clear hW h;obtain ⟨e0, e1⟩ := gx_ HG;replace HO := hh_ (HO.keep HB.below);go_enter Tryz.func207, Tryz.ntmps207;go_wp2_with fail
   rw [← HW.out];go_wp2;go_ret2;exact ⟨_, _, _, rfl, (fun x hx => by injection hx with hx; subst hx; exact ⟨rfl, HO.out⟩), HB.below⟩
 | succ j ih =>
   intro l Al cl w lo hlm h hO hlo;have IH := hh_ ih;have hne : ((l.length : Int) == (m : Int)) = false := by simp; omega
   have hne2 : (l.length = m) = False := by simp; omega
   have hn7 := h.vg.n7;have Hlm := hh_ hlm;have hl7 : l.length ≤ 6 := by omega
   have hlm1 : l.length < m := by omega
   have HO := hh_ hO;clear ih hO hlm;obtain ⟨W, hW, HB, HG⟩ := gbW h;have HW := hh_ hW;clear hW h;obtain ⟨e0, e1⟩ := gx_ HG;replace HO := hh_ (HO.keep HB.below);have hz := HB.below.size;have HR0 : Hid (From W W) := From.refl W;go_enter Tryz.func207, Tryz.ntmps207;go_wp2_with fail
   rw [← HW.out];go_wp2;go_loopw [9] (fun i wr => ∃ v : Nat, v ≤ k ∧ i = .int .i64 v ∧ Hid (∀ u, u < v → cAt r k j l u = none) ∧ Hid (From W wr)) (fun i _ => k - (intOf i).toNat);case atStart => exact ⟨0, Nat.zero_le _, rfl, (fun u hu => absurd hu (by omega)), HR0⟩
   case round =>
    clear HR0 e0 e1;obtain ⟨v, hv, rfl, hall, HR⟩ := hrel;by_cases hvk : v < k
    ·have i1 : (v : Int) < k := by omega
     go_wp2;go_loopw [10, 11] (fun f i wr => ∃ t : Nat, t ≤ l.length ∧ i = .int .i64 t ∧ f = .bool (frK r l l.length v t) ∧ Hid (From W wr)) (fun _ i _ => l.length - (intOf i).toNat);case atStart => exact ⟨0, Nat.zero_le _, rfl, rfl, HR⟩
     case round =>
      clear HR;obtain ⟨t, ht, rfl, rfl, HR⟩ := hrel;have HGr := hh_ (HG.keep HR.below);have HOr := hh_ (HO.keep HR.below);have e0 := HGr.c0;have e1 := HGr.c1;by_cases htl : t < l.length
      ·have i2 : (t : Int) < l.length := by omega
       obtain ⟨y, hy⟩ : ∃ y, y = l.getD t 0 := ⟨_, rfl⟩;have hst : frK r l l.length v (t + 1) = (frK r l l.length v t && !(y == v && (r l.length).testBit t)) := by rw [hy]; rfl
       cases hf : frK r l l.length v t
       ·have Hs : Hid (frK r l l.length v (t + 1) = false) := by rw [hf] at hst; exact hst
        clear hst hy;go_wp2;go_roundw;case rel => exact ⟨t + 1, by omega, by go_num, by rw [Hs.out], HR⟩
        case measure => (simp [intOf] <;> omega)
       ·have KE : Hid (Calls Tryz.prog 61 #[.agg #[.int .i64 m, .slice A m c], .int .i64 (l.length : Int), .int .i64 (t : Int)] wr fun e w' => e = .returned (.bool ((r l.length).testBit t)) ∧ Below wr.heap.size wr w') := l2Edge_v HGr.gv hlm1 (by omega);have Hy := hh_ hy;cases hb : (r l.length).testBit t
        ·rw [hb] at KE;have Hs : Hid (frK r l l.length v (t + 1) = true) := by rw [hf, hb] at hst; show _ = _; simpa using hst
         clear hst hy hb;go_wp2_with fail
         refine (KE.out).mono ?_;rintro e w1 ⟨rfl, hb1⟩;clear e0 e1;replace HR := hh_ (HR.keep hb1);replace HOr := hh_ (HOr.keep hb1);replace HGr := hh_ (HGr.keep hb1);clear hb1;have e0 := HGr.c0;have e1 := HGr.c1;go_wp2;go_roundw;case rel => exact ⟨t + 1, by omega, by go_num, by rw [Hs.out], HR⟩
         case measure => (simp [intOf] <;> omega)
        ·rw [hb] at KE;by_cases hyv : y = v
         ·have Hs : Hid (frK r l l.length v (t + 1) = false) := by rw [hf, hb] at hst; show _ = _; simpa [hyv] using hst
          have d1 : ((y : Int) == (v : Int)) = true := by simp; omega
          clear hst hy hb hyv;go_wp2_with fail
          refine (KE.out).mono ?_;rintro e w2 ⟨rfl, hb2⟩;clear e0 e1;replace HR := hh_ (HR.keep hb2);replace HOr := hh_ (HOr.keep hb2);replace HGr := hh_ (HGr.keep hb2);clear hb2;have e0 := HGr.c0;have e1 := HGr.c1;obtain ⟨bl, ol, rfl⟩ := HOr.ln.addr (by omega);have p0 := HOr.ln.at htl;rw [show l[t] = y from by rw [Hy.out]; simp [List.getD, htl]] at p0;go_wp2;go_roundw;case rel => exact ⟨t + 1, by omega, by go_num, by rw [Hs.out], HR⟩
          case measure => (simp [intOf] <;> omega)
         ·have Hs : Hid (frK r l l.length v (t + 1) = true) := by
           rw [hf] at hst;have : (y == v) = false := by simpa using hyv
           rw [this] at hst;show _ = _;simpa using hst
          have d1 : ((y : Int) == (v : Int)) = false := by simp; omega
          clear hst hy hb hyv;go_wp2_with fail
          refine (KE.out).mono ?_;rintro e w3 ⟨rfl, hb3⟩;clear e0 e1;replace HR := hh_ (HR.keep hb3);replace HOr := hh_ (HOr.keep hb3);replace HGr := hh_ (HGr.keep hb3);clear hb3;have e0 := HGr.c0;have e1 := HGr.c1;obtain ⟨bl, ol, rfl⟩ := HOr.ln.addr (by omega);have p0 := HOr.ln.at htl;rw [show l[t] = y from by rw [Hy.out]; simp [List.getD, htl]] at p0;go_wp2;go_roundw;case rel => exact ⟨t + 1, by omega, by go_num, by rw [Hs.out], HR⟩
          case measure => (simp [intOf] <;> omega)
      ·obtain rfl : l.length = t := by omega
       cases hf : frK r l l.length v l.length
       ·have Hn : Hid (∀ u, u < v + 1 → cAt r k j l u = none) := fun u hu => by
         by_cases huv : u < v
         ·exact hall.out u huv
         ·obtain rfl : u = v := by omega
          exact cAt_no hf
        clear hf;go_wp2;go_roundw;case rel => exact ⟨v + 1, by omega, by go_num, Hn, HR⟩
        case measure => (simp [intOf] <;> omega)
       ·have HF := hh_ (cAt_yes (k := k) (j := j) hf);obtain ⟨so, hso⟩ : ∃ so, so = colS r k j (l ++ [v]) := ⟨_, rfl⟩;have Hso := hh_ hso;have HRl : Hid (Rd wr wr.heap.size Al l.length cl (fun j => ((l.getD j 0 : Nat) : Int))) := HOr.ln.rd;have hzr := HR.below.size;have KI : Hid (∀ (z : World) (g6 cap : Nat), Below wr.heap.size wr z → Own z wr.heap.size z.heap.size 3 1 (some ⟨g6, 0, none⟩) (l.length + 1) cap (ni (l ++ [v])) → Calls Tryz.prog 207 #[.agg #[.int .i64 m, .slice A m c], .int .i64 k, .slice (some ⟨g6, 0, none⟩) (l.length + 1) cap] z fun e w' => ∃ A' n' c', e = .returned (.tuple #[.slice A' n' c', .bool so.isSome]) ∧ (∀ x, so = some x → n' = x.length ∧ ON lo w' A' c' x) ∧ Below z.heap.size z w') := fun z g6 cap hz ho => by
         rw [Hso.out];have := IH.out (l ++ [v]) (some ⟨g6, 0, none⟩) cap z lo (by rw [List.length_append]; have := Hlm.out; simp; omega) (HGr.gv.keep hz) ⟨by rw [List.length_append]; exact ho.mono (by omega) nr_⟩ (by have := hz.size; omega);rw [List.length_append] at this;exact this
        clear hf hso;go_wp2;have HSC : Hid (∀ z : World, Below wr.heap.size wr z → (Below wr.heap.size wr z ∧ z.cell? ⟨w.heap.size, 0, none⟩ = some (.int .i64 m) ∧ z.cell? ⟨w.heap.size, 1, none⟩ = some (.slice A m c))) := fun z hz => ⟨hz, up_ hz e0, up_ hz e1⟩
        have HZ0 : Hid (Below wr.heap.size wr wr.drew) := br_.drew;have HB1 : Hid (Below wr.heap.size wr ((wr.alloc (Obj.cells #[] 3)).drew)) := (br_.alloc nr_ _).drew;have HB2 : Hid (Below wr.heap.size wr (((wr.alloc (Obj.cells #[] 3)).alloc (Obj.cells #[.int .i64 (v : Int)] 3)).drew)) := ((br_.alloc nr_ _).alloc (by simp) _).drew;have HB3 : Hid (Below wr.heap.size wr (((wr.alloc (Obj.cells #[.int .i64 (v : Int)] 3)).alloc (Obj.cells #[] 3)).drew)) := ((br_.alloc nr_ _).alloc (by simp) _).drew;have HB4 : Hid (Below wr.heap.size wr ((wr.alloc (Obj.cells #[.int .i64 (v : Int)] 3)).drew)) := (br_.alloc nr_ _).drew;have HO1 : Hid (Own ((wr.alloc (Obj.cells #[] 3)).drew) wr.heap.size (wr.heap.size + 1) 3 1 (some ⟨wr.heap.size, 0, none⟩) 0 0 (ni [])) := .inr ⟨wr.heap.size, #[], rfl, nr_, Nat.lt_succ_self _, heap_alloc_new wr _, nr_, by unfold maxLen; omega, rfl, fun j hj => absurd hj (by omega)⟩
        have HO2 : Hid (Own (((wr.alloc (Obj.cells #[] 3)).alloc (Obj.cells #[.int .i64 (v : Int)] 3)).drew) wr.heap.size (wr.heap.size + 1) 3 1 (some ⟨wr.heap.size, 0, none⟩) 0 0 (ni [])) := Own.alloc HO1.out _;have HO3 : Hid (Own (((wr.alloc (Obj.cells #[.int .i64 (v : Int)] 3)).alloc (Obj.cells #[] 3)).drew) wr.heap.size (wr.heap.size + 1 + 1) 3 1 (some ⟨wr.heap.size + 1, 0, none⟩) 0 0 (ni [])) := by
         have hn := heap_alloc_new (wr.alloc (Obj.cells #[.int .i64 (v : Int)] 3)) (Obj.cells #[] 3);have he : (wr.alloc (Obj.cells #[.int .i64 (v : Int)] 3)).heap.size = wr.heap.size + 1 := by simp
         rw [he] at hn;exact .inr ⟨wr.heap.size + 1, #[], rfl, by omega, Nat.lt_succ_self _, hn, nr_, by unfold maxLen; omega, rfl, fun j hj => absurd hj (by omega)⟩
        have HR1 : Hid (Rd ((wr.alloc (Obj.cells #[] 3)).drew) wr.heap.size Al (l).length cl (fun j => (((l).getD j 0 : Nat) : Int))) := HRl.keep HB1 nr_;have HR2 : Hid (Rd (((wr.alloc (Obj.cells #[] 3)).alloc (Obj.cells #[.int .i64 (v : Int)] 3)).drew) wr.heap.size Al (l).length cl (fun j => (((l).getD j 0 : Nat) : Int))) := HRl.keep HB2 nr_;have HR3 : Hid (Rd (((wr.alloc (Obj.cells #[.int .i64 (v : Int)] 3)).alloc (Obj.cells #[] 3)).drew) wr.heap.size Al (l).length cl (fun j => (((l).getD j 0 : Nat) : Int))) := HRl.keep HB3 nr_;have B2 : Hid ((((wr.alloc (Obj.cells #[] 3)).alloc (Obj.cells #[.int .i64 (v : Int)] 3)).drew).heap[wr.heap.size + 1]? = some (.cells #[.int .i64 (v : Int)] 3 (0, 0)) ∧ wr.heap.size + 1 < (((wr.alloc (Obj.cells #[] 3)).alloc (Obj.cells #[.int .i64 (v : Int)] 3)).drew).heap.size) := by
         have hn := heap_alloc_new (wr.alloc (Obj.cells #[] 3)) (Obj.cells #[.int .i64 (v : Int)] 3);have he : (wr.alloc (Obj.cells #[] 3)).heap.size = wr.heap.size + 1 := by simp
         rw [he] at hn;exact ⟨hn, by show _ < ((wr.alloc _).alloc _).heap.size; simp⟩
        have B3 : Hid ((((wr.alloc (Obj.cells #[.int .i64 (v : Int)] 3)).alloc (Obj.cells #[] 3)).drew).heap[wr.heap.size]? = some (.cells #[.int .i64 (v : Int)] 3 (0, 0)) ∧ wr.heap.size < (((wr.alloc (Obj.cells #[.int .i64 (v : Int)] 3)).alloc (Obj.cells #[] 3)).drew).heap.size) :=
         ⟨(Below.heap_alloc (wr.alloc (Obj.cells #[.int .i64 (v : Int)] 3)) _ _ (by simp)).trans (heap_alloc_new wr _), by show _ < ((wr.alloc _).alloc _).heap.size; simp; omega⟩
        have HC1 : Hid (∀ (z : World) (A1 : Option Addr) (k1 : Nat), Own z wr.heap.size z.heap.size 3 1 A1 (l).length k1 (fun j => .int .i64 (((l).getD j 0 : Nat) : Int)) → Own z wr.heap.size z.heap.size 3 1 A1 (l).length k1 (ni (l ++ [v]))) := by
         intro z A1 k1 h;exact h.congr (fun j hj => by rw [ni_left hj]; rfl)
        have KR : Hid (∀ (z : World) (g6 cap : Nat), Below wr.heap.size wr z → Own z wr.heap.size z.heap.size 3 1 (some ⟨g6, 0, none⟩) ((l).length + 1) cap (ni (l ++ [v])) → _) := fun z g6 cap hz ho => KI.out _ _ _ hz ho
        go_region_held3 (fun z => Below wr.heap.size wr z ∧ z.cell? ⟨w.heap.size, 0, none⟩ = some (.int .i64 m) ∧ z.cell? ⟨w.heap.size, 1, none⟩ = some (.slice A m c))
         (first | exact HSC.out _ HZ0.out | exact HSC.out _ HB1 | exact HSC.out _ HB2 | exact HSC.out _ HB3 | exact HSC.out _ HB4 | exact HSC.out _ hz4 | exact HSC.out _ hzB | exact HSC.out _ (bl_alloc hzA) | exact HSC.out _ hzA | fail)
         (first
           | ((refine step_appendG0 _ (by rfl) _ _ (by rfl) (by rfl) HO1.out (by rfl) HR1.out HB1.size (by omega) ?_; intro A1 k1 wA hOA hbA hgA; have hzA := HB1.trans hbA; have hOA' := HC1 _ _ _ hOA))
           | ((refine step_appendG0 _ (by rfl) _ _ (by rfl) (by rfl) HO2.out (by rfl) HR2.out HB2.size (by omega) ?_; intro A1 k1 wA hOA hbA hgA; have hzA := HB2.trans hbA; have hOA' := HC1 _ _ _ hOA; have hB5 := (hgA.block (wr.heap.size + 1) B2.out.2 (by simp [Value.ownBlock])).trans B2.out.1))
           | ((refine step_appendG0 _ (by rfl) _ _ (by rfl) (by rfl) HO3.out (by rfl) HR3.out HB3.size (by omega) ?_; intro A1 k1 wA hOA hbA hgA; have hzA := HB3.trans hbA; have hOA' := HC1 _ _ _ hOA; have hB5 := (hgA.block wr.heap.size B3.out.2 (by simp [Value.ownBlock])).trans B3.out.1))
           | ((refine step_push _ (by rfl) _ _ _ (by rfl) 3 _ 1 8 Tryz.underlying24 info_int rfl (by omega) wr.heap.size wA.heap.size A1 (l).length k1 (ni (l ++ [v])) (by rfl) (hOA'.alloc _) (by have := hzA.size; simp; omega) wA.heap.size #[.int .i64 (v : Int)] 3 (0, 0) 1 (heap_alloc_new wA _) (by rfl) rfl ni_news (by simp [Value.oneCell']) (by omega) (by omega) ?_; intro g6 cap wB hp; have hzB := (bl_alloc hzA).trans hp.below))
           | ((refine step_push _ (by rfl) _ _ _ (by rfl) 3 _ 1 8 Tryz.underlying24 info_int rfl (by omega) wr.heap.size wA.heap.size A1 (l).length k1 (ni (l ++ [v])) (by rfl) hOA' hzA.size (wr.heap.size + 1) #[.int .i64 (v : Int)] 3 (0, 0) 1 hB5 (by rfl) rfl ni_news (by simp [Value.oneCell']) (by omega) (by omega) ?_; intro g6 cap wB hp; have hzB := hzA.trans hp.below))
           | ((refine step_push _ (by rfl) _ _ _ (by rfl) 3 _ 1 8 Tryz.underlying24 info_int rfl (by omega) wr.heap.size wA.heap.size A1 (l).length k1 (ni (l ++ [v])) (by rfl) hOA' hzA.size wr.heap.size #[.int .i64 (v : Int)] 3 (0, 0) 1 hB5 (by rfl) rfl ni_news (by simp [Value.oneCell']) (by omega) (by omega) ?_; intro g6 cap wB hp; have hzB := hzA.trans hp.below))
           | (go_at_call 207; ((with_reducible refine (KR.out _ _ _ hzB hp.own).mono ?_); rintro e w4 ⟨A7, n7, c7, rfl, hx7, hb4⟩; have hz4 := bl_trans hzB hb4))
           | fail)
        all_goals clear e0 e1
        all_goals replace HR := hh_ (HR.keep hz4)
        all_goals replace HGr := hh_ (HGr.keep hz4)
        all_goals (try clear hB5)
        all_goals clear hz4 hb4 HSC HZ0 HB1 HB2 HB3 HB4 HO1 HO2 HO3 HR1 HR2 HR3 B2 B3 HC1 KR hp hzA hzB hOA hbA hgA hOA'
        all_goals have e0 := HGr.c0
        all_goals have e1 := HGr.c1
        all_goals
         have HX := hh_ hx7;clear hx7 KI HRl HOr;cases so with
         | none =>
           have Hn : Hid (∀ u, u < v + 1 → cAt r k j l u = none) := fun u hu => by
            by_cases huv : u < v
            ·exact hall.out u huv
            ·obtain rfl : u = v := by omega
             exact HF.trans Hso.symm
           go_wp2;go_roundw;case rel => exact ⟨v + 1, by omega, by go_num, Hn, HR⟩
           case measure => (simp [intOf] <;> omega)
         | some x =>
           have Hs : Hid (colS r k (j + 1) l = some x) := colS_some hvk (HF.trans Hso.symm) hall.out;have HBz := hh_ (HB.up HR.out);go_wp2;go_ret2;exact ⟨_, _, _, by rw [Hs.out]; rfl, (fun y hy => by rw [Hs.out] at hy; injection hy with hy; subst hy; exact HX.out _ rfl), HBz.below⟩
    ·have Hn : Hid (colS r k (j + 1) l = none) := colS_none fun u hu => hall.out u (by omega)
     have i1 : (k : Int) ≤ v := by omega
     have HBz := hh_ ((HB.up HR.out).alloc_ (Obj.cells #[] 3));go_wp2;go_ret2;exact ⟨_, _, _, by rw [Hn.out]; rfl, (fun y hy => by rw [Hn.out] at hy; cases hy), HBz.below⟩
end Go.Proofs.YticadlkcjhglnaaGreat
