/-
-/
import Derived.Test.YtdpkbfiggbcclaaGreatQmJoinI
namespace Go.Proofs.YtdpkbfiggbcclaaGreat
open Go.RowKit
set_option maxHeartbeats 6400000
section
variable (sz : Int) (A : Option Addr) (m c : Nat) (x : Nat → Int) (Al : Option Addr) (n cl : Nat) (l : List Int) (w : World)
theorem sun_rem {j K : Nat} (h1 : 3 ≤ K) (h2 : K < 6) (h3 : j < 3) (h4 : ¬((K = 3 ∧ j = 1) ∨ (K = 4 ∧ j = 2) ∨ (K = 5 ∧ j = 0))) : ((j : Int) == ((K : Int) - 2) % 3) = false := by
 have g : K = 3 ∨ K = 4 ∨ K = 5 := by omega
 have gj : j = 0 ∨ j = 1 ∨ j = 2 := by omega
 rcases g with rfl | rfl | rfl <;> rcases gj with rfl | rfl | rfl <;> first | rfl | exact absurd h4 (by decide)
set_option maxRecDepth 100000 in
theorem IsSun_s (h : GA w A m c x) (hl : LI w Al n cl l) (hm : m ≤ 1048576) (hn : n ≤ 1048576) :
 Calls Tryz.prog 244 #[.agg #[.int .i64 sz, .slice A m c], .slice Al n cl] w fun e w' => e = .returned (.bool (snB sz m x l)) ∧ Below w.heap.size w w' := by
 obtain ⟨W, hW⟩ : ∃ W, W = (w.alloc (Obj.cells #[.int .i64 sz, .slice A m c] 28)) := ⟨_, rfl⟩;have HB : Hid (From w W) := by rw [hW]; exact From.alloc _ _
 have HK := hh_ (h.keep HB.below);have HL := hh_ (hl.keep HB.below);have HC : Hid (GC W w.heap.size sz A m c) := by rw [hW]; exact GC.new _ _ _ _ _
 have HW := hh_ hW;have HN := hh_ hl.len;clear hW h hl;go_enter Tryz.func244, Tryz.ntmps244;obtain ⟨e0, e1⟩ := gc_ HC;go_wp2_with fail
 rw [← HW.out];refine (l4Distinct_z sz A m c x Al n cl l W HK HL.out hm hn).mono ?_;rintro e w1 ⟨rfl, hb1⟩;clear HW;clear e0 e1;replace HB := hh_ (HB.keep hb1);replace HK := hh_ (HK.keep hb1);replace HL := hh_ (HL.keep hb1);replace HC := hh_ (HC.keep hb1);clear hb1;obtain ⟨e0, e1⟩ := gc_ HC;cases hv : vrB sz m x l
 ·have hno : Hid (snB sz m x l = false) := by show _ = _; unfold snB; rw [ajB_bad hv, Bool.and_false]
  clear hv;go_wp2;go_ret;exact ⟨ret_bool hno.symm, HB.below⟩
 ·obtain ⟨ho, hV⟩ := vrB_parts hv;obtain ⟨_, es, vg0, _⟩ := okB_ok' ho;subst es;have hn7 := vg0.n7;have HG : Hid (GV w1 A m c (rw_ x)) := HK.gv ho;have HV := hh_ hV;have Hv := hh_ hv;have hn7' : n ≤ 7 := by rw [HN.out]; have := hV.len; omega
  clear hv ho hV vg0;by_cases h0 : n ≠ 6
  ·have hno : Hid (snB (m : Int) m x l = false) := by show _ = _; unfold snB; rw [decide_eq_false (by rw [← HN.out]; omega)]; rfl
   have i9 : ((n : Int) != 6) = true := by simp; omega
   go_wp2;go_ret;exact ⟨ret_bool hno.symm, HB.below⟩
  have i9 : ((n : Int) != 6) = false := by simp; omega
  have g6 : n ≤ 6 := by omega
  have g7 : 6 ≤ n := by omega
  clear h0;go_wp2;go_loopw [5] (fun k wr => ∃ K : Nat, K ≤ n ∧ k = .int .i64 K ∧ Hid (∀ k, k < K → ∀ i, i < k → edZ x (l.getD i 0) (l.getD k 0) = sunJ i k) ∧ Hid (From w1 wr)) (fun k _ => n - (intOf k).toNat);case atStart => exact ⟨0, Nat.zero_le _, rfl, fun k hk => absurd hk (by omega), From.refl _⟩
  case round =>
   obtain ⟨K, hK, rfl, hall, HR⟩ := hrel;by_cases hlt : K < n
   ·have i1 : (K : Int) < 6 := by omega
    have HRo := HR;have Hlt := hh_ hlt;go_wp2;go_loopw [6] (fun i wz => ∃ j : Nat, j ≤ K ∧ i = .int .i64 j ∧ Hid (∀ i, i < j → edZ x (l.getD i 0) (l.getD K 0) = sunJ i K) ∧ Hid (From w1 wz)) (fun i _ => K - (intOf i).toNat);case atStart => exact ⟨0, Nat.zero_le _, rfl, fun i hi => absurd hi (by omega), HRo⟩
    case round =>
     clear HR HRo;obtain ⟨j, hj, rfl, hin, HR⟩ := hrel;by_cases hjK : j < K
     ·have i2 : (j : Int) < K := by omega
      have HLr := hh_ (HL.keep HR.below);have HGr := hh_ (HG.keep HR.below);have HCr := hh_ (HC.keep HR.below);have HBr := hh_ (HB.keep HR.below);obtain ⟨b2, o2, rfl⟩ := HLr.addr (by omega);have p0 := HLr.at (j := j) (by omega);have p1 := HLr.at (j := K) (by omega);have hmj := getD_mem (l := l) (k := j) (by rw [← HN.out]; omega);have hmk := getD_mem (l := l) (k := K) (by rw [← HN.out]; omega);obtain ⟨a0, a1⟩ := HV.out.2 _ hmj;obtain ⟨d0, d1⟩ := HV.out.2 _ hmk;obtain ⟨u, hu⟩ := Int.eq_ofNat_of_zero_le a0;obtain ⟨v, hvv⟩ := Int.eq_ofNat_of_zero_le d0;have Hed : Hid (edZ x (l.getD j 0) (l.getD K 0) = (rw_ x u).testBit v) := by show _ = _; unfold edZ; rw [hu, hvv, Int.toNat_natCast, Int.toNat_natCast]
      rw [hu] at p0 a1;rw [hvv] at p1 d1;have hum : u < m := by omega
      have hvm : v < m := by omega
      have hsym : (rw_ x v).testBit u = (rw_ x u).testBit v := HGr.vg.sym _ _ hvm hum;obtain ⟨t, ht⟩ : ∃ t, t = (rw_ x u).testBit v := ⟨_, rfl⟩;rw [← ht] at Hed hsym;have KE : Hid (∀ z : World, Below wr.heap.size wr z → Calls Tryz.prog 85 #[.agg #[.int .i64 m, .slice A m c], .int .i64 v, .int .i64 u] z fun e w' => e = .returned (.bool t) ∧ Below z.heap.size z w') := fun z hz => by
       have := l2Edge_v (HGr.keep hz) hvm hum;rwa [hsym] at this
      have i3 : (j : Int) < n := by omega
      have i4 : (K : Int) < n := by omega
      have s1 : IntKind.i64.wrap ((K : Int) - 1) = (K : Int) - 1 := Go.IntWalk.i64_in _ (by omega);have s2 : IntKind.i64.wrap ((n : Int) - 1) = (n : Int) - 1 := Go.IntWalk.i64_in _ (by omega);have s3 : IntKind.i64.wrap ((K : Int) - 3) = (K : Int) - 3 := Go.IntWalk.i64_in _ (by omega);have s4 : IntKind.i64.wrap ((K : Int) - 2) = (K : Int) - 2 := Go.IntWalk.i64_in _ (by omega);clear hmj hmk hu hvv ht a0 d0 hsym;have e0 := HCr.c0;have e1 := HCr.c1;by_cases h1 : K < 3
      ·have q1 : decide ((K : Int) < 3) = true := by simp; omega
       have HJ : Hid (sunJ j K = true) := by show _ = _; unfold sunJ; simp; omega
       (try clear h4)
       (try clear h3)
       go_wp2;obtain ⟨HSC, HZ0, HS1⟩ := hsc4 e0 e1 p0 p1;have KR1 : Hid (∀ z : World, Below wr.heap.size wr z → _) := fun z hz => KE.out z hz
       refine wpH HS1.out (fun hHeld => ?_);refine pcY 0 ?_;iterate 8 (refine ptY ?_)
       refine pcY 10 ?_;refine w1H 9 (fun K hK => ?_);go_simp;go_at_call 85; refine (KR1.out _ HZ0.out).mono ?_
       rintro e w2 ⟨rfl, hb2⟩;have hz2 := bl_trans HZ0.out hb2;refine hK.out _ _ (HSC.out _ hz2) (fun hHeld => ?_);clear hK K;try simp only [Act.put, sl0, sl1, sl2]
       refine pcY 11 ?_;refine wpAnyH_done (by kernel_rfl) ?_ _;clear e0 e1;replace HCr := hh_ (HCr.keep hz2);replace HR := hh_ (HR.keep hz2);replace HBr := hh_ (HBr.keep hz2);clear hb2 hz2 HSC HZ0 HS1 KR1;have e0 := HCr.c0;have e1 := HCr.c1;cases t
       ·have hno : Hid (ajB (m : Int) m x l sunJ = false) := ajB_no (i := j) (k := K) hjK (by rw [← HN.out]; exact Hlt.out) (by rw [Hed.out, HJ.out]; decide);have hno2 : Hid (snB (m : Int) m x l = false) := by show _ = _; unfold snB; rw [hno.out, Bool.and_false]
        go_wp2;go_ret;exact ⟨ret_bool hno2.symm, HBr.below⟩
       ·go_wp2;go_roundw;case rel =>
         refine ⟨j + 1, by omega, by go_num, fun i hi => ?_, HR⟩;by_cases hij : i < j
         ·exact hin.out i hij
         ·obtain rfl : i = j := by omega
          rw [Hed.out, HJ.out]
        case measure => (simp [intOf] <;> omega)
      ·by_cases h2 : 3 ≤ j
       ·have q1 : decide ((K : Int) < 3) = false := by simp; omega
        have q2 : decide ((j : Int) < 3) = false := by simp; omega
        have HJ : Hid (sunJ j K = false) := by show _ = _; unfold sunJ; simp; omega
        (try clear h4)
        (try clear h3)
        go_wp2;obtain ⟨HSC, HZ0, HS1⟩ := hsc4 e0 e1 p0 p1;have KR1 : Hid (∀ z : World, Below wr.heap.size wr z → _) := fun z hz => KE.out z hz
        refine wpH HS1.out (fun hHeld => ?_);refine pcY 0 ?_;iterate 8 (refine ptY ?_)
        refine pcY 10 ?_;refine w1H 9 (fun K hK => ?_);go_simp;go_at_call 85; refine (KR1.out _ HZ0.out).mono ?_
        rintro e w3 ⟨rfl, hb3⟩;have hz3 := bl_trans HZ0.out hb3;refine hK.out _ _ (HSC.out _ hz3) (fun hHeld => ?_);clear hK K;try simp only [Act.put, sl0, sl1, sl2]
        refine pcY 11 ?_;refine wpAnyH_done (by kernel_rfl) ?_ _;clear e0 e1;replace HCr := hh_ (HCr.keep hz3);replace HR := hh_ (HR.keep hz3);replace HBr := hh_ (HBr.keep hz3);clear hb3 hz3 HSC HZ0 HS1 KR1;have e0 := HCr.c0;have e1 := HCr.c1;cases t
        ·go_wp2;go_roundw;case rel =>
          refine ⟨j + 1, by omega, by go_num, fun i hi => ?_, HR⟩;by_cases hij : i < j
          ·exact hin.out i hij
          ·obtain rfl : i = j := by omega
           rw [Hed.out, HJ.out]
         case measure => (simp [intOf] <;> omega)
        ·have hno : Hid (ajB (m : Int) m x l sunJ = false) := ajB_no (i := j) (k := K) hjK (by rw [← HN.out]; exact Hlt.out) (by rw [Hed.out, HJ.out]; decide);have hno2 : Hid (snB (m : Int) m x l = false) := by show _ = _; unfold snB; rw [hno.out, Bool.and_false]
         go_wp2;go_ret;exact ⟨ret_bool hno2.symm, HBr.below⟩
       ·by_cases h3 : j + 3 = K
        ·have q1 : decide ((K : Int) < 3) = false := by simp; omega
         have q2 : decide ((j : Int) < 3) = true := by simp; omega
         have q3 : ((j : Int) == (K : Int) - 3) = true := by simp; omega
         have HJ : Hid (sunJ j K = true) := by show _ = _; unfold sunJ; simp; omega
         (try clear h4)
         (try clear h3)
         go_wp2;obtain ⟨HSC, HZ0, HS1⟩ := hsc4 e0 e1 p0 p1;have KR1 : Hid (∀ z : World, Below wr.heap.size wr z → _) := fun z hz => KE.out z hz
         refine wpH HS1.out (fun hHeld => ?_);refine pcY 0 ?_;iterate 8 (refine ptY ?_)
         refine pcY 10 ?_;refine w1H 9 (fun K hK => ?_);go_simp;go_at_call 85; refine (KR1.out _ HZ0.out).mono ?_
         rintro e w4 ⟨rfl, hb4⟩;have hz4 := bl_trans HZ0.out hb4;refine hK.out _ _ (HSC.out _ hz4) (fun hHeld => ?_);clear hK K;try simp only [Act.put, sl0, sl1, sl2]
         refine pcY 11 ?_;refine wpAnyH_done (by kernel_rfl) ?_ _;clear e0 e1;replace HCr := hh_ (HCr.keep hz4);replace HR := hh_ (HR.keep hz4);replace HBr := hh_ (HBr.keep hz4);clear hb4 hz4 HSC HZ0 HS1 KR1;have e0 := HCr.c0;have e1 := HCr.c1;cases t
         ·have hno : Hid (ajB (m : Int) m x l sunJ = false) := ajB_no (i := j) (k := K) hjK (by rw [← HN.out]; exact Hlt.out) (by rw [Hed.out, HJ.out]; decide);have hno2 : Hid (snB (m : Int) m x l = false) := by show _ = _; unfold snB; rw [hno.out, Bool.and_false]
          go_wp2;go_ret;exact ⟨ret_bool hno2.symm, HBr.below⟩
         ·go_wp2;go_roundw;case rel =>
           refine ⟨j + 1, by omega, by go_num, fun i hi => ?_, HR⟩;by_cases hij : i < j
           ·exact hin.out i hij
           ·obtain rfl : i = j := by omega
            rw [Hed.out, HJ.out]
          case measure => (simp [intOf] <;> omega)
        ·by_cases h4 : (K = 3 ∧ j = 1) ∨ (K = 4 ∧ j = 2) ∨ (K = 5 ∧ j = 0)
         ·have q1 : decide ((K : Int) < 3) = false := by simp; omega
          have q2 : decide ((j : Int) < 3) = true := by simp; omega
          have q3 : ((j : Int) == (K : Int) - 3) = false := by simp; omega
          have q4 : ((j : Int) == ((K : Int) - 2) % 3) = true := by simp; omega
          have HJ : Hid (sunJ j K = true) := by show _ = _; unfold sunJ; simp; omega
          (try clear h4)
          (try clear h3)
          go_wp2;obtain ⟨HSC, HZ0, HS1⟩ := hsc4 e0 e1 p0 p1;have KR1 : Hid (∀ z : World, Below wr.heap.size wr z → _) := fun z hz => KE.out z hz
          refine wpH HS1.out (fun hHeld => ?_);refine pcY 0 ?_;iterate 8 (refine ptY ?_)
          refine pcY 10 ?_;refine w1H 9 (fun K hK => ?_);go_simp;go_at_call 85; refine (KR1.out _ HZ0.out).mono ?_
          rintro e w5 ⟨rfl, hb5⟩;have hz5 := bl_trans HZ0.out hb5;refine hK.out _ _ (HSC.out _ hz5) (fun hHeld => ?_);clear hK K;try simp only [Act.put, sl0, sl1, sl2]
          refine pcY 11 ?_;refine wpAnyH_done (by kernel_rfl) ?_ _;clear e0 e1;replace HCr := hh_ (HCr.keep hz5);replace HR := hh_ (HR.keep hz5);replace HBr := hh_ (HBr.keep hz5);clear hb5 hz5 HSC HZ0 HS1 KR1;have e0 := HCr.c0;have e1 := HCr.c1;cases t
          ·have hno : Hid (ajB (m : Int) m x l sunJ = false) := ajB_no (i := j) (k := K) hjK (by rw [← HN.out]; exact Hlt.out) (by rw [Hed.out, HJ.out]; decide);have hno2 : Hid (snB (m : Int) m x l = false) := by show _ = _; unfold snB; rw [hno.out, Bool.and_false]
           go_wp2;go_ret;exact ⟨ret_bool hno2.symm, HBr.below⟩
          ·go_wp2;go_roundw;case rel =>
            refine ⟨j + 1, by omega, by go_num, fun i hi => ?_, HR⟩;by_cases hij : i < j
            ·exact hin.out i hij
            ·obtain rfl : i = j := by omega
             rw [Hed.out, HJ.out]
           case measure => (simp [intOf] <;> omega)
         ·have q1 : decide ((K : Int) < 3) = false := by simp; omega
          have q2 : decide ((j : Int) < 3) = true := by simp; omega
          have q3 : ((j : Int) == (K : Int) - 3) = false := by simp; omega
          have q4 : ((j : Int) == ((K : Int) - 2) % 3) = false := sun_rem (by omega) (by omega) (by omega) h4;have HJ : Hid (sunJ j K = false) := by show _ = _; unfold sunJ; simp; omega
          (try clear h4)
          (try clear h3)
          go_wp2;obtain ⟨HSC, HZ0, HS1⟩ := hsc4 e0 e1 p0 p1;have KR1 : Hid (∀ z : World, Below wr.heap.size wr z → _) := fun z hz => KE.out z hz
          refine wpH HS1.out (fun hHeld => ?_);refine pcY 0 ?_;iterate 8 (refine ptY ?_)
          refine pcY 10 ?_;refine w1H 9 (fun K hK => ?_);go_simp;go_at_call 85; refine (KR1.out _ HZ0.out).mono ?_
          rintro e w6 ⟨rfl, hb6⟩;have hz6 := bl_trans HZ0.out hb6;refine hK.out _ _ (HSC.out _ hz6) (fun hHeld => ?_);clear hK K;try simp only [Act.put, sl0, sl1, sl2]
          refine pcY 11 ?_;refine wpAnyH_done (by kernel_rfl) ?_ _;clear e0 e1;replace HCr := hh_ (HCr.keep hz6);replace HR := hh_ (HR.keep hz6);replace HBr := hh_ (HBr.keep hz6);clear hb6 hz6 HSC HZ0 HS1 KR1;have e0 := HCr.c0;have e1 := HCr.c1;cases t
          ·go_wp2;go_roundw;case rel =>
            refine ⟨j + 1, by omega, by go_num, fun i hi => ?_, HR⟩;by_cases hij : i < j
            ·exact hin.out i hij
            ·obtain rfl : i = j := by omega
             rw [Hed.out, HJ.out]
           case measure => (simp [intOf] <;> omega)
          ·have hno : Hid (ajB (m : Int) m x l sunJ = false) := ajB_no (i := j) (k := K) hjK (by rw [← HN.out]; exact Hlt.out) (by rw [Hed.out, HJ.out]; decide);have hno2 : Hid (snB (m : Int) m x l = false) := by show _ = _; unfold snB; rw [hno.out, Bool.and_false]
           go_wp2;go_ret;exact ⟨ret_bool hno2.symm, HBr.below⟩
     ·obtain rfl : j = K := by omega
      go_wp2;go_roundw;case rel =>
       refine ⟨j + 1, by omega, by go_num, fun k hk i hi => ?_, HR⟩;by_cases hkj : k < j
       ·exact hall.out k hkj i hi
       ·obtain rfl : k = j := by omega
        exact hin.out i hi
      case measure => (simp [intOf] <;> omega)
   ·have hyes : Hid (ajB (m : Int) m x l sunJ = true) := ajB_yes Hv.out fun k hk i hi => hall.out k (by rw [← HN.out] at hk; omega) i hi
    have hyes2 : Hid (snB (m : Int) m x l = true) := by show _ = _; unfold snB; rw [hyes.out, decide_eq_true (by rw [← HN.out]; omega)]; rfl
    have i1 : (6 : Int) ≤ K := by omega
    have HBr := hh_ (HB.keep HR.below);go_wp2;go_ret;exact ⟨ret_bool hyes2.symm, HBr.below⟩
end
end Go.Proofs.YtdpkbfiggbcclaaGreat
