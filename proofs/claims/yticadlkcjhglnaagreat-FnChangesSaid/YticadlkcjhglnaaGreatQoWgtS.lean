/-
  Several texts in one.
-/
import Derived.Test.YticadlkcjhglnaaGreatQoColI
import Derived.Test.YticadlkcjhglnaaGreatQoSet2S
import Derived.Test.YticadlkcjhglnaaGreatQoSetG
import Derived.Test.YticadlkcjhglnaaGreatQoSimI
/-
-/
namespace Go.Proofs.YticadlkcjhglnaaGreat
open Go.RowKit
set_option maxHeartbeats 1600000
section
variable {A : Option Addr} {m c : Nat} {r : Nat → Nat}
theorem LargestClique_v {w : World} (h : GV w A m c r) :
 Calls Tryz.prog 217 #[.agg #[.int .i64 m, .slice A m c]] w fun e w' => e = .returned (.int .i64 (lqN r m : Nat)) ∧ Below w.heap.size w w' := by
 obtain ⟨W, hW, HB, HG⟩ := gbW h;have HW := hh_ hW;clear hW h;obtain ⟨e0, e1⟩ := gx_ HG;go_enter Tryz.func217, Tryz.ntmps217;go_wp2_with fail
 rw [← HW.out];refine (largest_g (p := cliq r) (caps := #[]) (ent_of Tryz.func213 (by kernel_rfl) rfl) W HG.gv (fun s z hs hb => IsClique_v (HG.gv.keep hb) hs)).mono ?_;rintro e w1 ⟨rfl, hb1⟩;clear HW;clear e0 e1;obtain ⟨HB, HG, e0, e1⟩ := kG_ HB HG hb1;clear hb1;go_wp2;go_ret;exact ⟨rfl, HB.below⟩
theorem CliqueNumber_v {w : World} (h : GV w A m c r) :
 Calls Tryz.prog 204 #[.agg #[.int .i64 m, .slice A m c]] w fun e w' => e = .returned (.int .i64 (cn (lqN r m) : Nat)) ∧ Below w.heap.size w w' := by
 have hl : lqN r m < 128 := Nat.lt_of_lt_of_le (lq_lt r m) (two_pow_le h.vg.n7);obtain ⟨W, hW, HB, HG⟩ := gbW h;have HW := hh_ hW;clear hW h;obtain ⟨e0, e1⟩ := gx_ HG;go_enter Tryz.func204, Tryz.ntmps204;go_wp2_with fail
 rw [← HW.out];refine (IsGraph_v HG.gv).mono ?_;rintro e w1 ⟨rfl, hb1⟩;clear HW;clear e0 e1;obtain ⟨HB, HG, e0, e1⟩ := kG_ HB HG hb1;clear hb1;go_wp2_with fail
 refine (LargestClique_v HG.gv).mono ?_;rintro e w2 ⟨rfl, hb2⟩;clear e0 e1;obtain ⟨HB, HG, e0, e1⟩ := kG_ HB HG hb2;clear hb2;go_wp2_with fail
 refine (CountSet_v (lqN r m) hl _).mono ?_;rintro e w3 ⟨rfl, hb3⟩;clear e0 e1;obtain ⟨HB, HG, e0, e1⟩ := kG_ HB HG hb3;clear hb3;go_wp2;go_ret;exact ⟨rfl, HB.below⟩
set_option maxRecDepth 100000 in
theorem ChromaticNumber_v {w : World} (h : GV w A m c r) :
 Calls Tryz.prog 203 #[.agg #[.int .i64 m, .slice A m c]] w fun e w' => e = .returned (.int .i64 (chN r m : Nat)) ∧ Below w.heap.size w w' := by
 have hn7 := h.vg.n7;have hn1 := h.vg.n1;obtain ⟨hcm, hsome, hmin⟩ := chN_spec (r := r) hn1;have hpos := chN_pos (r := r) (m := m);have HS := hh_ hsome;have HM := hh_ hmin;obtain ⟨K, hK⟩ : ∃ K, K = chN r m := ⟨_, rfl⟩;rw [← hK] at hcm HS HM hpos ⊢;clear hsome hmin hK;obtain ⟨W, hW, HB, HG⟩ := gbW h;have HW := hh_ hW;clear hW h;obtain ⟨e0, e1⟩ := gx_ HG;have HR0 : Hid (From W W) := From.refl W;go_enter Tryz.func203, Tryz.ntmps203;go_wp2_with fail
 rw [← HW.out];go_wp2;go_loopw [3] (fun i wr => ∃ k : Nat, 1 ≤ k ∧ k ≤ K ∧ i = .int .i64 k ∧ Hid (From W wr)) (fun i _ => K - (intOf i).toNat);case atStart => exact ⟨1, nr_, hpos, rfl, HR0⟩
 case round =>
  clear HR0;obtain ⟨k, hk1, hk, rfl, HR⟩ := hrel;clear e0 e1;replace HB := hh_ (HB.keep HR.below);replace HG := hh_ (HG.keep HR.below);obtain ⟨e0, e1⟩ := gx_ HG;have i1 : (k : Int) ≤ 7 := by omega
  cases hs : (cOf r m k).isSome
  ·have hlt : k < K := by
    by_cases e : k = K
    ·subst e; rw [HS.out] at hs; cases hs
    ·omega
   have Hs := hh_ hs;clear hs;go_wp2_with fail
   refine (ColoringWith_v HG.gv hk1 (by omega)).mono ?_;rintro e w5 ⟨A5, n5, c5, rfl, _, hb5⟩;rw [Hs.out];clear e0 e1;replace HB := hh_ (HB.keep hb5);replace HG := hh_ (HG.keep hb5);replace HR := hh_ (HR.keep hb5);clear hb5;obtain ⟨e0, e1⟩ := gx_ HG;go_wp2;go_roundw;case rel => exact ⟨k + 1, by omega, by omega, by go_num, HR⟩
   case measure => (simp [intOf] <;> omega)
  ·have hKe : k = K := by
    by_cases e : k < K
    ·rw [HM.out k hk1 e] at hs; cases hs
    ·omega
   have Hs := hh_ hs;have HKe := hh_ hKe;clear hs hKe;go_wp2_with fail
   refine (ColoringWith_v HG.gv hk1 (by omega)).mono ?_;rintro e w5 ⟨A5, n5, c5, rfl, _, hb5⟩;rw [Hs.out];clear e0 e1;replace HB := hh_ (HB.keep hb5);replace HG := hh_ (HG.keep hb5);replace HR := hh_ (HR.keep hb5);clear hb5;obtain ⟨e0, e1⟩ := gx_ HG;go_wp2;go_ret;exact ⟨ret_int (by rw [HKe.out]), HB.below⟩
end
section
variable {A : Option Addr} {m c : Nat} {r : Nat → Nat}
theorem made_own (w : World) (n : Nat) (hn : n ≤ 1048576) : ∃ W : World, (Instr.makeSlice 24 (.int .i64 (n : Int)) (.int .i64 (n : Int))).run Tryz.prog w = .ok (.slice (some ⟨w.heap.size, 0, none⟩) n n) W ∧ Own W w.heap.size (w.heap.size + 1) 3 1 (some ⟨w.heap.size, 0, none⟩) n n (fun _ => .int .i64 0) ∧ Below w.heap.size w W := by
 refine ⟨_, run_make_row' (P := Tryz.prog) 24 3 (.int .i64 0) 8 Tryz.underlying24 info_int rfl .i64 .i64 n (by omega) (by omega) w, ?_, br_.alloc nr_ _⟩;obtain ⟨cc, q1, q2, q3⟩ := World.rowIs_made w (.int .i64 0) n 3;exact .inr ⟨_, cc, rfl, nr_, Nat.lt_succ_self _, q1, nr_, by unfold maxLen; omega, by omega, fun j hj => by rw [q3 j (by omega)]⟩
end
set_option maxHeartbeats 3200000
theorem edge_b {A : Option Addr} {m c : Nat} {r : Nat → Nat} {W : World} (h : GV W A m c r) {v u : Nat} (hv : v < m) (hu : u < m) {b : Bool} (hb : (r v).testBit u = b) : ∀ z : World, Below W.heap.size W z → Calls Tryz.prog 61 #[.agg #[.int .i64 m, .slice A m c], .int .i64 v, .int .i64 u] z fun e w' => e = .returned (.bool b) ∧ Below z.heap.size z w' := fun z hz => by
 have := l2Edge_v (h.keep hz) hv hu
 rwa [hb] at this
set_option maxRecDepth 100000 in
theorem l12Umbrella_v {A : Option Addr} {m c : Nat} {r : Nat → Nat} {Al : Option Addr} {cl : Nat} {l : List Nat} {w : World} (h : GV w A m c r) (hl : LN w Al cl l) (hlt : ∀ v ∈ l, v < m) (hlen : l.length ≤ 7) :
 Calls Tryz.prog 183 #[.agg #[.int .i64 m, .slice A m c], .slice Al l.length cl] w fun e w' => e = .returned (.bool (umB r l)) ∧ Below w.heap.size w w' := by
 have hn7 := h.vg.n7;have HL := hh_ hl;have Hlt := hh_ hlt;have HV := hh_ h.vg;clear hl hlt;obtain ⟨W, hW, HB, HG⟩ := gbW h;have HW := hh_ hW;clear hW h;obtain ⟨e0, e1⟩ := gx_ HG;replace HL := hh_ (HL.keep HB.below);have HR0 : Hid (From W W) := From.refl W;go_enter Tryz.func183, Tryz.ntmps183;go_wp2_with fail
 rw [← HW.out];clear HW e0 e1;go_wp2;go_loopw [5] (fun i wr => ∃ k : Nat, k ≤ l.length ∧ i = .int .i64 k ∧ Hid (Um1 r l k) ∧ Hid (From W wr)) (fun i _ => l.length - (intOf i).toNat);case atStart => exact ⟨0, Nat.zero_le _, rfl, Um1.zero, HR0⟩
 case round =>
  clear HR0;obtain ⟨i, hi, rfl, H1, HR⟩ := hrel;by_cases hil : i < l.length
  ·have i1 : (i : Int) < l.length := by omega
   have s1 : wrap64 ((i : Int) + 2) = ((i + 2 : Nat) : Int) := by rw [Go.IntWalk.wrap64_in _ (by omega)]; simp
   go_wp2;go_loopw [6] (fun j wr => ∃ k : Nat, i + 2 ≤ k ∧ k ≤ l.length + 1 ∧ j = .int .i64 k ∧ Hid (Um2 r l i k) ∧ Hid (From W wr)) (fun j _ => l.length + 1 - (intOf j).toNat);case atStart => exact ⟨i + 2, nr_, by omega, by first | rfl | exact congrArg (Value.int .i64) s1 | simp, Um2.zero, HR⟩
   case round =>
    clear HR s1;obtain ⟨k, hk2, hk, rfl, H2, HR⟩ := hrel;by_cases hkl : k < l.length
    ·have i2 : (k : Int) < l.length := by omega
     have s1 : wrap64 ((i : Int) + 1) = ((i + 1 : Nat) : Int) := by rw [Go.IntWalk.wrap64_in _ (by omega)]; simp
     go_wp2;go_loopw [7] (fun j wr => ∃ t : Nat, i + 1 ≤ t ∧ t ≤ k ∧ j = .int .i64 t ∧ Hid (Um3 r l i k t) ∧ Hid (From W wr)) (fun j _ => k - (intOf j).toNat);case atStart => exact ⟨i + 1, nr_, by omega, by first | rfl | exact congrArg (Value.int .i64) s1 | simp, Um3.zero, HR⟩
     case round =>
      clear HR s1;obtain ⟨j, hij, hjk, rfl, H3, HR⟩ := hrel;by_cases hlt : j < k
      ·have i4 : (j : Int) < k := by omega
       have i5 : (j : Int) < l.length := by omega
       have HGr := hh_ (HG.keep HR.below);have HLr := hh_ (HL.keep HR.below);obtain ⟨bl, ol, rfl⟩ := HLr.addr (by omega);have e0 := HGr.c0;have e1 := HGr.c1;have p0 := HLr.cell hil;have p1 := HLr.cell hkl;have hjl : j < l.length := by omega
       have p2 := HLr.cell hjl;have hu := getD_lt Hlt.out hil;have hv := getD_lt Hlt.out hkl;have hy := getD_lt Hlt.out hjl;have Hub : Hid (Ub r l i k j ↔ ((r (l.getD i 0)).testBit (l.getD k 0) = true → (r (l.getD i 0)).testBit (l.getD j 0) = true ∧ (r (l.getD j 0)).testBit (l.getD k 0) = true)) := by
        show _ ↔ _;unfold Ub;rw [HV.sym _ _ hy hv]
       obtain ⟨u, hu'⟩ : ∃ u, u = l.getD i 0 := ⟨_, rfl⟩;obtain ⟨v, hv'⟩ : ∃ v, v = l.getD k 0 := ⟨_, rfl⟩;obtain ⟨y, hy'⟩ : ∃ y, y = l.getD j 0 := ⟨_, rfl⟩;rw [← hu', ← hv', ← hy'] at Hub;rw [← hu'] at p0 hu;rw [← hv'] at p1 hv;rw [← hy'] at p2 hy;have HBr := hh_ (HB.up HR.out);have HG0 := HGr;clear hu' hv' hy';cases b1 : (r u).testBit v
       ·have K1 := hh_ (edge_b HG0.gv hu hv b1);have H3' : Hid (Um3 r l i k (j + 1)) := H3.step (Hub.out.2 fun hb => by rw [b1] at hb; cases hb);clear b1;go_wp2;obtain ⟨HSC, HZ0, HS1⟩ := hsc5 e0 e1 p0 p1 p2;have KR1 : Hid (∀ z : World, Below wr.heap.size wr z → _) := fun z hz => K1.out _ hz
        refine wpH HS1.out (fun hHeld => ?_);refine pcY 0 ?_;iterate 8 (refine ptY ?_)
        refine w1H 9 (fun K hK => ?_);go_simp;go_at_call 61; refine (KR1.out _ HZ0.out).mono ?_
        rintro e w1 ⟨rfl, hb1⟩;have hz1 := bl_trans HZ0.out hb1;refine hK.out _ _ (HSC.out _ hz1) (fun hHeld => ?_);clear hK K;try simp only [Act.put, sl0, sl1, sl2]
        refine ptY ?_;iterate 24 (refine ptN ?_)
        refine ptY ?_;refine wpAnyH_done (by kernel_rfl) ?_ _;replace HR := hh_ (HR.keep hz1);replace HBr := hh_ (HBr.keep hz1);clear hb1 hz1 HSC HZ0 HS1 KR1;go_wp2;go_roundw;case rel => exact ⟨j + 1, by omega, by omega, by go_num, H3', HR⟩
        case measure => (simp [intOf] <;> omega)
       ·have K1 := hh_ (edge_b HG0.gv hu hv b1);have B1 := hh_ b1;clear b1;cases b2 : (r u).testBit y
        ·have K2 := hh_ (edge_b HG0.gv hu hy b2);have Hn : Hid (umB r l = false) := um_bad (i := i) (k := k) (j := j) (by omega) hlt hkl fun hb => by
          have := (Hub.out.1 hb B1.out).1;rw [b2] at this; cases this
         clear b2;go_wp2;obtain ⟨HSC, HZ0, HS1⟩ := hsc5 e0 e1 p0 p1 p2;have KR1 : Hid (∀ z : World, Below wr.heap.size wr z → _) := fun z hz => K1.out _ hz
         have KR2 : Hid (∀ z : World, Below wr.heap.size wr z → _) := fun z hz => K2.out _ hz
         refine wpH HS1.out (fun hHeld => ?_);refine pcY 0 ?_;iterate 8 (refine ptY ?_)
         refine w1H 9 (fun K hK => ?_);go_simp;go_at_call 61; refine (KR1.out _ HZ0.out).mono ?_
         rintro e w2 ⟨rfl, hb2⟩;have hz2 := bl_trans HZ0.out hb2;refine hK.out _ _ (HSC.out _ hz2) (fun hHeld => ?_);clear hK K;try simp only [Act.put, sl0, sl1, sl2]
         iterate 10 (refine ptY ?_)
         refine w1H 20 (fun K hK => ?_);go_simp;go_at_call 61; refine (KR2.out _ hz2).mono ?_
         rintro e w3 ⟨rfl, hb3⟩;have hz3 := bl_trans hz2 hb3;refine hK.out _ _ (HSC.out _ hz3) (fun hHeld => ?_);clear hK K;try simp only [Act.put, sl0, sl1, sl2]
         iterate 2 (refine ptY ?_)
         iterate 11 (refine ptN ?_)
         iterate 2 (refine ptY ?_)
         refine wpAnyH_done (by kernel_rfl) ?_ _;replace HR := hh_ (HR.keep hz3);replace HBr := hh_ (HBr.keep hz3);clear hb2 hz2 hb3 hz3 HSC HZ0 HS1 KR1 KR2;go_wp2;go_ret;exact ⟨ret_bool Hn.symm, HBr.below⟩
        ·have K2 := hh_ (edge_b HG0.gv hu hy b2);have B2 := hh_ b2;clear b2;cases b3 : (r y).testBit v
         ·have K3 := hh_ (edge_b HG0.gv hy hv b3);have Hn : Hid (umB r l = false) := um_bad (i := i) (k := k) (j := j) (by omega) hlt hkl fun hb => by
           have := (Hub.out.1 hb B1.out).2;rw [b3] at this; cases this
          clear b3;go_wp2;obtain ⟨HSC, HZ0, HS1⟩ := hsc5 e0 e1 p0 p1 p2;have KR1 : Hid (∀ z : World, Below wr.heap.size wr z → _) := fun z hz => K1.out _ hz
          have KR2 : Hid (∀ z : World, Below wr.heap.size wr z → _) := fun z hz => K2.out _ hz
          have KR3 : Hid (∀ z : World, Below wr.heap.size wr z → _) := fun z hz => K3.out _ hz
          refine wpH HS1.out (fun hHeld => ?_);refine pcY 0 ?_;iterate 8 (refine ptY ?_)
          refine w1H 9 (fun K hK => ?_);go_simp;go_at_call 61; refine (KR1.out _ HZ0.out).mono ?_
          rintro e w4 ⟨rfl, hb4⟩;have hz4 := bl_trans HZ0.out hb4;refine hK.out _ _ (HSC.out _ hz4) (fun hHeld => ?_);clear hK K;try simp only [Act.put, sl0, sl1, sl2]
          iterate 10 (refine ptY ?_)
          refine w1H 20 (fun K hK => ?_);go_simp;go_at_call 61; refine (KR2.out _ hz4).mono ?_
          rintro e w5 ⟨rfl, hb5⟩;have hz5 := bl_trans hz4 hb5;refine hK.out _ _ (HSC.out _ hz5) (fun hHeld => ?_);clear hK K;try simp only [Act.put, sl0, sl1, sl2]
          iterate 11 (refine ptY ?_)
          refine w1H 32 (fun K hK => ?_);go_simp;go_at_call 61; refine (KR3.out _ hz5).mono ?_
          rintro e w6 ⟨rfl, hb6⟩;have hz6 := bl_trans hz5 hb6;refine hK.out _ _ (HSC.out _ hz6) (fun hHeld => ?_);clear hK K;try simp only [Act.put, sl0, sl1, sl2]
          iterate 3 (refine ptY ?_)
          refine wpAnyH_done (by kernel_rfl) ?_ _;replace HR := hh_ (HR.keep hz6);replace HBr := hh_ (HBr.keep hz6);clear hb4 hz4 hb5 hz5 hb6 hz6 HSC HZ0 HS1 KR1 KR2 KR3;go_wp2;go_ret;exact ⟨ret_bool Hn.symm, HBr.below⟩
         ·have K3 := hh_ (edge_b HG0.gv hy hv b3);have H3' : Hid (Um3 r l i k (j + 1)) := H3.step (Hub.out.2 fun _ => ⟨B2.out, b3⟩);clear b3;go_wp2;obtain ⟨HSC, HZ0, HS1⟩ := hsc5 e0 e1 p0 p1 p2;have KR1 : Hid (∀ z : World, Below wr.heap.size wr z → _) := fun z hz => K1.out _ hz
          have KR2 : Hid (∀ z : World, Below wr.heap.size wr z → _) := fun z hz => K2.out _ hz
          have KR3 : Hid (∀ z : World, Below wr.heap.size wr z → _) := fun z hz => K3.out _ hz
          refine wpH HS1.out (fun hHeld => ?_);refine pcY 0 ?_;iterate 8 (refine ptY ?_)
          refine w1H 9 (fun K hK => ?_);go_simp;go_at_call 61; refine (KR1.out _ HZ0.out).mono ?_
          rintro e w7 ⟨rfl, hb7⟩;have hz7 := bl_trans HZ0.out hb7;refine hK.out _ _ (HSC.out _ hz7) (fun hHeld => ?_);clear hK K;try simp only [Act.put, sl0, sl1, sl2]
          iterate 10 (refine ptY ?_)
          refine w1H 20 (fun K hK => ?_);go_simp;go_at_call 61; refine (KR2.out _ hz7).mono ?_
          rintro e w8 ⟨rfl, hb8⟩;have hz8 := bl_trans hz7 hb8;refine hK.out _ _ (HSC.out _ hz8) (fun hHeld => ?_);clear hK K;try simp only [Act.put, sl0, sl1, sl2]
          iterate 11 (refine ptY ?_)
          refine w1H 32 (fun K hK => ?_);go_simp;go_at_call 61; refine (KR3.out _ hz8).mono ?_
          rintro e w9 ⟨rfl, hb9⟩;have hz9 := bl_trans hz8 hb9;refine hK.out _ _ (HSC.out _ hz9) (fun hHeld => ?_);clear hK K;try simp only [Act.put, sl0, sl1, sl2]
          iterate 3 (refine ptY ?_)
          refine wpAnyH_done (by kernel_rfl) ?_ _;replace HR := hh_ (HR.keep hz9);replace HBr := hh_ (HBr.keep hz9);clear hb7 hz7 hb8 hz8 hb9 hz9 HSC HZ0 HS1 KR1 KR2 KR3;go_wp2;go_roundw;case rel => exact ⟨j + 1, by omega, by omega, by go_num, H3', HR⟩
          case measure => (simp [intOf] <;> omega)
      ·have H2' : Hid (Um2 r l i (k + 1)) := H2.step fun j' h1 h2 => H3.out j' h1 (by omega)
       have i4 : (k : Int) ≤ j := by omega
       go_wp2;go_roundw;case rel => exact ⟨k + 1, by omega, by omega, by go_num, H2', HR⟩
       case measure => (simp [intOf] <;> omega)
    ·have H1' : Hid (Um1 r l (i + 1)) := H1.step H2.out (by omega);have i2 : (l.length : Int) ≤ (k : Int) := by omega
     go_wp2;go_roundw;case rel => exact ⟨i + 1, by omega, by go_num, H1', HR⟩
     case measure => (simp [intOf] <;> omega)
  ·have Hy : Hid (umB r l = true) := um_yes (H1.all (by omega));have HBr := hh_ (HB.up HR.out);have i1 : (l.length : Int) ≤ (i : Int) := by omega
   go_wp2;go_ret;exact ⟨ret_bool Hy.symm, HBr.below⟩
theorem l1In_b {n lo hi : Int} (w : World) {b : Bool} (h : decide (lo ≤ n ∧ n ≤ hi) = b) : Calls Tryz.prog 110 #[.int .i64 n, .int .i64 lo, .int .i64 hi] w fun e w' => e = .returned (.bool b) ∧ Below w.heap.size w w' :=
 (l1In_any n lo hi w).mono fun _ _ ⟨h1, h2⟩ => ⟨by rw [h1, ← h]; simp, h2 ▸ br_⟩
end Go.Proofs.YticadlkcjhglnaaGreat
