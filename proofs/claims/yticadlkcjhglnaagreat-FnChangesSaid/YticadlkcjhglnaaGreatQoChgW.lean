/-
-/
import Derived.Test.YticadlkcjhglnaaGreatQoDrwK
import Derived.Test.YticadlkcjhglnaaGreatQoDrwL
import Derived.Test.YticadlkcjhglnaaGreatQoFewS
import Derived.Deep.CutRange
namespace Go.Proofs.YticadlkcjhglnaaGreat
open Go.RowKit
set_option maxHeartbeats 25600000
set_option maxRecDepth 100000 in
theorem fnChanges_walk (A : Option Addr) (n c : Nat) (w : World) (h : BX w A n c) (hn : n ≤ maxLen) :
 Calls Tryz.prog 4 #[.slice A n c] w fun e w' => e = .returned (.bool true) ∧ Below w.heap.size w w' := by
 have HB : Hid (From w w) := From.refl w;have HY := hh_ h;clear h;by_cases hbig : 1048576 < n
 ·have eb := hh_ (decide_eq_true hbig);clear hbig;go_enter Tryz.func4, Tryz.ntmps4;go_wp2_with fail
  refine (big_s A n c w hn).mono ?_;rintro e w0 ⟨rfl, rfl⟩;rw [eb.out];go_wp2;go_ret;exact ⟨rfl, HB.below⟩
 have hn2 : n ≤ 1048576 := by omega
 have eb := hh_ (decide_eq_false hbig);clear hbig;go_enter Tryz.func4, Tryz.ntmps4;go_wp2_with fail
 refine (big_s A n c w hn).mono ?_;rintro e w0 ⟨rfl, rfl⟩;rw [eb.out];clear eb hn;go_wp2_with fail
 refine (DrawMinimalFill_s HY.b hn2).mono ?_;rintro e v1 ⟨s1, B1, m1, d1, x1, rfl, hS⟩;have hm1 := hS.h7;have hga : GA v1 B1 m1 d1 x1 := ⟨hS.o1.rd⟩;have hbv := hS.b;replace HB := hh_ (HB.keep hbv);replace HY := hh_ (HY.keep hbv);clear hbv hS;obtain ⟨U1, hW⟩ : ∃ U, U = v1.alloc (Obj.cells #[.int .i64 s1, .slice B1 m1 d1] 26) := ⟨_, rfl⟩;have hbU : Below v1.heap.size v1 U1 := by rw [hW]; exact br_.alloc nr_ _
 have HG1 : Hid (GX U1 v1.heap.size s1 B1 m1 d1 x1) := by rw [hW]; exact GX.new hga
 have HW := hh_ hW;replace HB := hh_ (HB.keep hbU);replace HY := hh_ (HY.keep hbU);clear hbU hW hga;obtain ⟨is, F, s2, m2, X2, ch, few, hF1, hF2, hm2, hP, K1, K2, K3, K4, K5, K6, K7⟩ := mi_pack s1 m1 x1 hm1;have HF2 := hh_ hF2;have HP := hh_ hP;replace K1 := hh_ K1;replace K2 := hh_ K2;replace K3 := hh_ K3;replace K4 := hh_ K4;replace K5 := hh_ K5;replace K6 := hh_ K6;replace K7 := hh_ K7;clear hF2 hP;have a0 := HG1.c0;have a1 := HG1.c1;go_wp2_with fail
 rw [← HW.out];refine (K1.out _ _ _ HG1.a).mono ?_;rintro e w1 ⟨A3, c3, D3, rfl, hl3, hd3, hb1⟩;clear HW;clear a0 a1;replace HB := hh_ (HB.keep hb1);replace HY := hh_ (HY.keep hb1);replace HG1 := hh_ (HG1.keep hb1);clear hb1;have a0 := HG1.c0;have a1 := HG1.c1;have HD3 := hh_ hd3;have HL3 := hh_ hl3;clear hd3 hl3;go_wp2_with fail
 refine (K2.out _ _ _ HG1.a).mono ?_;rintro e w2 ⟨A4, c4, D4, rfl, hl4, hd4, hb2⟩;clear a0 a1;replace HB := hh_ (HB.keep hb2);replace HY := hh_ (HY.keep hb2);replace HG1 := hh_ (HG1.keep hb2);replace HD3 := hh_ (HD3.keep hb2);clear hb2;have a0 := HG1.c0;have a1 := HG1.c1;have HD4 := hh_ hd4;have HL4 := hh_ hl4;clear hd4 hl4;have KL : Hid (∀ (W : World), LD W A3 c3 D3 → LD W A4 c4 D4 → Calls Tryz.prog 14 #[.slice A3 D3.length c3, .slice A4 D4.length c4] W fun e w' => e = .returned (.bool true) ∧ Below W.heap.size W w') := fun W h1 h2 => same_lists h1 h2 HL3.out HL4.out hF1 HF2.out
 go_wp2_with fail
 refine (KL.out _ HD3.out HD4.out).mono ?_;rintro e w3 ⟨rfl, hb3⟩;clear a0 a1;replace HB := hh_ (HB.keep hb3);replace HY := hh_ (HY.keep hb3);replace HG1 := hh_ (HG1.keep hb3);replace HD3 := hh_ (HD3.keep hb3);replace HD4 := hh_ (HD4.keep hb3);clear hb3;have a0 := HG1.c0;have a1 := HG1.c1;go_upto_if 54 with fail
 go_cut [] from 31 (fun wx => Hid (From w0 wx) ∧ Hid (BX wx A n c))
 case first =>
  cases is
  ·go_wp2_with fail
   go_meet;exact ⟨HB, HY⟩
  ·have hD4 := (list_lens HL4.out hF1 HF2.out).1;obtain ⟨hq0, hqf⟩ := HP.out rfl;rw [← hD4] at hq0 hqf;have hq : Hid (((D4.length : Int) == 0) = ch) := by
    show _ = _;rw [← hq0];by_cases h0 : D4.length = 0
    ·rw [decide_eq_true h0, h0]; rfl
    ·rw [decide_eq_false h0]; simp; exact fun h => h0 (by rw [h]; rfl)
   have hqf2 : Hid (0 ≤ few → few ≤ (D4.length : Int) ∧ (few == 0) = ch) := fun h => by
    obtain ⟨q1, q2⟩ := hqf h;refine ⟨q1, ?_⟩;rw [← q2];by_cases h0 : few = 0
    ·rw [decide_eq_true h0, h0]; rfl
    ·rw [decide_eq_false h0]; simp; exact h0
   have K3' := hh_ (K3.out rfl);have K4' := hh_ (K4.out rfl);have K5' := hh_ (K5.out rfl);clear hD4 hq0 hqf HP K3 K4 K5;go_wp2_with fail
   refine (K3'.out _ _ _ _ _ _ HG1.a HD4.out HL4.out).mono ?_;rintro e w4 ⟨A5, c5, rfl, ha5, hb4⟩;clear a0 a1;replace HB := hh_ (HB.keep hb4);replace HY := hh_ (HY.keep hb4);replace HG1 := hh_ (HG1.keep hb4);replace HD3 := hh_ (HD3.keep hb4);replace HD4 := hh_ (HD4.keep hb4);clear hb4;have a0 := HG1.c0;have a1 := HG1.c1;obtain ⟨U2, hW⟩ : ∃ U, U = w4.alloc (Obj.cells #[.int .i64 s2, .slice A5 m2 c5] 26) := ⟨_, rfl⟩;have hbU : Below w4.heap.size w4 U2 := by rw [hW]; exact br_.alloc nr_ _
   have HH : Hid (GX U2 w4.heap.size s2 A5 m2 c5 X2) := by rw [hW]; exact GX.new ha5
   have hl1 := World.block_lt_of_cell? _ _ a0;have HW := hh_ hW;clear hW;go_wp2_with fail
   rw [← HW.out];clear HW;clear a0 a1;replace HB := hh_ (HB.keep hbU);replace HY := hh_ (HY.keep hbU);replace HG1 := hh_ (HG1.keep hbU);replace HD3 := hh_ (HD3.keep hbU);replace HD4 := hh_ (HD4.keep hbU);clear hbU ha5 hl1;have a0 := HG1.c0;have a1 := HG1.c1;refine (K4'.out _ _ _ _ _ HG1.a HH.a).mono ?_;rintro e v5 ⟨rfl, hb5⟩;clear a0 a1;replace HB := hh_ (HB.keep hb5);replace HY := hh_ (HY.keep hb5);replace HG1 := hh_ (HG1.keep hb5);replace HD4 := hh_ (HD4.keep hb5);clear hb5 HH;have a0 := HG1.c0;have a1 := HG1.c1;go_wp2_with fail
   refine (K5'.out _ _ _ _ _ _ HG1.a HD4.out HL4.out).mono ?_;rintro e w5 ⟨rfl, hb5⟩;clear a0 a1;replace HB := hh_ (HB.keep hb5);replace HY := hh_ (HY.keep hb5);replace HG1 := hh_ (HG1.keep hb5);replace HD4 := hh_ (HD4.keep hb5);clear hb5;have a0 := HG1.c0;have a1 := HG1.c1;go_wp2_with fail
   refine (K6.out _ _ _ HG1.a).mono ?_;rintro e w6 ⟨rfl, hb6⟩;clear a0 a1;replace HB := hh_ (HB.keep hb6);replace HY := hh_ (HY.keep hb6);replace HG1 := hh_ (HG1.keep hb6);replace HD4 := hh_ (HD4.keep hb6);clear hb6;have a0 := HG1.c0;have a1 := HG1.c1;have hqo := hq.out;go_wp2_with fail
   refine (K7.out _ _ _ HG1.a).mono ?_;rintro e w7 ⟨rfl, hb7⟩;clear a0 a1;replace HB := hh_ (HB.keep hb7);replace HY := hh_ (HY.keep hb7);replace HG1 := hh_ (HG1.keep hb7);replace HD4 := hh_ (HD4.keep hb7);clear hb7;have a0 := HG1.c0;have a1 := HG1.c1;by_cases hf : 0 ≤ few
   ·obtain ⟨q1, q2⟩ := hqf2.out hf;go_wp2_with fail
    refine (K6.out _ _ _ HG1.a).mono ?_;rintro e w8 ⟨rfl, hb8⟩;clear a0 a1;replace HB := hh_ (HB.keep hb8);replace HY := hh_ (HY.keep hb8);replace HG1 := hh_ (HG1.keep hb8);replace HD4 := hh_ (HD4.keep hb8);clear hb8;have a0 := HG1.c0;have a1 := HG1.c1;go_wp2_with fail
    go_meet;exact ⟨HB, HY⟩
   ·go_wp2_with fail
    go_meet;exact ⟨HB, HY⟩
 case rest =>
 clear HB HY HG1 HD3 HD4 HL3 HL4 HF2 HP K1 K2 K3 K4 K5 K6 K7 KL a0 a1;obtain ⟨HB, HY⟩ := hcut;obtain ⟨z0, hz0⟩ : ∃ z, z = wc := ⟨_, rfl⟩;rw [← hz0] at HB HY ⊢;clear hz0;go_wp2_with fail
 refine (DrawFewestDeletions_s HY.b hn2).mono ?_;rintro e v2 ⟨s3, B3, m3, d3, x3, t, rfl, hS⟩;have hm3 := hS.h7;have hga : GA v2 B3 m3 d3 x3 := ⟨hS.o1.rd⟩;have hbv := hS.b;replace HB := hh_ (HB.keep hbv);replace HY := hh_ (HY.keep hbv);clear hbv hS;obtain ⟨U3, hW⟩ : ∃ U, U = v2.alloc (Obj.cells #[.int .i64 s3, .slice B3 m3 d3] 26) := ⟨_, rfl⟩;have hbU : Below v2.heap.size v2 U3 := by rw [hW]; exact br_.alloc nr_ _
 have HA : Hid (GX U3 v2.heap.size s3 B3 m3 d3 x3) := by rw [hW]; exact GX.new hga
 have HW := hh_ hW;replace HB := hh_ (HB.keep hbU);replace HY := hh_ (HY.keep hbU);clear hbU hW hga;obtain ⟨one, k, z, K1, K2, K3, K4, hP⟩ := del_pack s3 m3 x3 t hm3;have HP := hh_ hP;replace K1 := hh_ K1;replace K2 := hh_ K2;replace K3 := hh_ K3;replace K4 := hh_ K4;clear hP;have a0 := HA.c0;have a1 := HA.c1;go_wp2_with fail
 rw [← HW.out];refine (K1.out _ _ _ HA.a).mono ?_;rintro e w9 ⟨rfl, hb9⟩;clear HW;clear a0 a1;replace HB := hh_ (HB.keep hb9);replace HY := hh_ (HY.keep hb9);replace HA := hh_ (HA.keep hb9);clear hb9;have a0 := HA.c0;have a1 := HA.c1;go_wp2_with fail
 refine (K2.out _ _ _ HA.a).mono ?_;rintro e w10 ⟨rfl, hb10⟩;clear a0 a1;replace HB := hh_ (HB.keep hb10);replace HY := hh_ (HY.keep hb10);replace HA := hh_ (HA.keep hb10);clear hb10;have a0 := HA.c0;have a1 := HA.c1;go_wp2_with fail
 refine (K3.out _ _ _ HA.a).mono ?_;rintro e w11 ⟨rfl, hb11⟩;clear a0 a1;replace HB := hh_ (HB.keep hb11);replace HY := hh_ (HY.keep hb11);replace HA := hh_ (HA.keep hb11);clear hb11;have a0 := HA.c0;have a1 := HA.c1;go_wp2_with fail
 refine (K4.out _ _ _ HA.a).mono ?_;rintro e w12 ⟨rfl, hb12⟩;clear a0 a1;replace HB := hh_ (HB.keep hb12);replace HY := hh_ (HY.keep hb12);replace HA := hh_ (HA.keep hb12);clear hb12;have a0 := HA.c0;have a1 := HA.c1;clear K1 K2 K3 K4;go_upto_if 135 with fail
 go_cut [] from 31 (fun wx => Hid (From w0 wx) ∧ Hid (BX wx A n c))
 case first =>
  cases one
  ·go_wp2_with fail
   go_meet;exact ⟨HB, HY⟩
  ·obtain ⟨N, X, rfl, hm31, hk, rfl, K5, K6, K7⟩ := HP.out rfl;obtain ⟨Pm, hPm⟩ : ∃ P : Nat, P = 2 ^ m3 := ⟨_, rfl⟩;have p1 : IntKind.i64.wrap ((2 : Int) ^ m3) = (Pm : Int) := by rw [pow_shl m3 hm3, hPm]; simp
   have hP128 : Pm ≤ 128 := by rw [hPm]; exact two_pow_le hm3
   have hkP : k < Pm - 1 := by rw [hPm]; exact hk
   have p2 : IntKind.i64.wrap ((Pm : Int) - 1) = (Pm : Int) - 1 := Go.IntWalk.i64_in _ (by omega);have p3 : IntKind.i64.wrap ((Pm : Int) - 1 - (k : Int)) = (Pm : Int) - 1 - (k : Int) := Go.IntWalk.i64_in _ (by omega);obtain ⟨b0, hb0⟩ : ∃ b, b = decide (k = 0) := ⟨_, rfl⟩;have hk0 : ((k : Int) == 0) = b0 := by
    rw [hb0];by_cases h0 : k = 0
    ·rw [decide_eq_true h0, h0]; rfl
    ·rw [decide_eq_false h0]; simp; exact h0
   rw [← hb0] at K7;have K5' : Hid (∀ (W : World) (A1 : Option Addr) (c1 : Nat), GA W A1 m3 c1 x3 → Calls Tryz.prog 36 #[.agg #[.int .i64 (m3 : Nat), .slice A1 m3 c1], .int .i64 ((Pm : Int) - 1 - (k : Int))] W fun e w' => ∃ (A' : Option Addr) (c' : Nat), e = .returned (.tuple #[.agg #[.int .i64 (N : Nat), .slice A' N c'], .bool true]) ∧ Own w' W.heap.size w'.heap.size 3 1 A' N c' (fun j => .int .i64 (X j)) ∧ Below W.heap.size W w') := fun W A1 c1 h => by
    have := K5 W A1 c1 h;rw [← hPm, show ((Pm - 1 - k : Nat) : Int) = (Pm : Int) - 1 - (k : Int) by omega] at this;exact this
   replace K6 := hh_ K6;replace K7 := hh_ K7;have HK0 := hh_ hk0;clear hb0 hPm hk K5 hk0 HP;have HAq := HA;have HSC : Hid (∀ z : World, Below w12.heap.size w12 z → (Below w12.heap.size w12 z ∧ z.cell? ⟨v2.heap.size, 0, none⟩ = some (.int .i64 (m3 : Nat)) ∧ z.cell? ⟨v2.heap.size, 1, none⟩ = some (.slice B3 m3 d3))) := fun z hz => ⟨hz, up_ hz a0, up_ hz a1⟩
   have HZ1 : Hid (Below w12.heap.size w12 w12.drew) := br_.drew;have HZ2 : Hid (Below w12.heap.size w12 ((w12.alloc (Obj.cells #[.int .i64 0, .slice none 0 0] 26)).drew)) := (br_.alloc nr_ _).drew;have HN2 : Hid (GC ((w12.alloc (Obj.cells #[.int .i64 0, .slice none 0 0] 26)).drew) w12.heap.size 0 none 0 0) := (GC.new _ _ _ _ _).drew;have KR : Hid (∀ z : World, Below w12.heap.size w12 z → _) := fun z hz => K5'.out z _ _ (HAq.a.keep hz)
   have HS1 := hh_ (HSC.out _ HZ1.out);have HS2 := hh_ (HSC.out _ HZ2.out);go_wp2;go_region_held3 (fun z => Below w12.heap.size w12 z ∧ z.cell? ⟨v2.heap.size, 0, none⟩ = some (.int .i64 (m3 : Nat)) ∧ z.cell? ⟨v2.heap.size, 1, none⟩ = some (.slice B3 m3 d3))
    (first | exact HS1.out | exact HS2.out | assumption | (refine HSC.out _ ?_; first | assumption | exact bl_trans HZ1.out hb5 | exact bl_trans HZ2.out hb5 | exact bl_alloc (bl_trans HZ1.out hb5) | exact bl_set (bl_trans HZ2.out hb5) nr_ | exact bl_set (bl_set (bl_trans HZ2.out hb5) nr_) nr_ | exact bl_alloc HZ1.out) | fail)
    (first | (go_at_call 36; ((with_reducible refine (KR.out _ HZ1.out).mono ?_); rintro e w5 ⟨A5, c5, rfl, hO5, hb5⟩)) | (go_at_call 36; ((with_reducible refine (KR.out _ HZ2.out).mono ?_); rintro e w5 ⟨A5, c5, rfl, hO5, hb5⟩; have hn5 := HN2.out.keep hb5; have n0 := hn5.c0; have n1 := hn5.c1; have n2 := hn5.f0; have n3 := hn5.f1)))
   all_goals
    first
     | (obtain ⟨W5, hW5⟩ : ∃ W5, W5 = ((w5.setCell ⟨w12.heap.size, 0, none⟩ (.int .i64 (N : Nat))).setCell ⟨w12.heap.size, 1, none⟩ (.slice A5 N c5)) := ⟨_, rfl⟩
        rw [← hW5];have HQ5 : Hid (GC W5 w12.heap.size (N : Nat) A5 N c5) := by rw [hW5]; exact hn5.set
        have HZ5 : Hid (Below w12.heap.size w12 W5) := by rw [hW5]; exact bl_set (bl_set (bl_trans HZ2.out hb5) nr_) nr_
        have HO5 : Hid (Own W5 w12.heap.size W5.heap.size 3 1 A5 N c5 (fun j => .int .i64 (X j))) := by
         rw [hW5];exact (hO5.keep (fr2 _ w12.heap.size _ _) (.inr (by show w12.heap.size + 1 ≤ (w12.alloc _).heap.size; simp))).mono (Nat.le_of_lt (by show w12.heap.size < (w12.alloc _).heap.size; simp)) (by simp [World.setCell])
        clear hW5 hn5 n0 n1 n2 n3 hO5 hb5)
     | (obtain ⟨W5, hW5⟩ : ∃ W5, W5 = (w5.alloc (Obj.cells #[.int .i64 (N : Nat), .slice A5 N c5] 26)) := ⟨_, rfl⟩
        rw [← hW5];have HQ5 : Hid (GC W5 w5.heap.size (N : Nat) A5 N c5) := by rw [hW5]; exact GC.new _ _ _ _ _
        have HZ5 : Hid (Below w12.heap.size w12 W5) := by rw [hW5]; exact bl_alloc (bl_trans HZ1.out hb5)
        have HO5 : Hid (Own W5 w12.heap.size W5.heap.size 3 1 A5 N c5 (fun j => .int .i64 (X j))) := by rw [hW5]; exact (hO5.alloc _).mono nr_ (by simp)
        clear hW5 hO5 hb5)
     | fail
   all_goals clear HSC HZ1 HZ2 HN2 KR HS1 HS2
   all_goals
    have hga : GA W5 A5 N c5 X := ⟨HO5.rd⟩;clear HO5 HAq K5';clear a0 a1;replace HB := hh_ (HB.keep HZ5.out);replace HY := hh_ (HY.keep HZ5.out);replace HA := hh_ (HA.keep HZ5.out);have a0 := HA.c0;have a1 := HA.c1;clear HZ5;have m0 := HQ5.c0;have m1 := HQ5.c1;have hk0 := HK0.out;go_wp2_with fail
    refine (K6.out _ _ _ hga).mono ?_;rintro e v9 ⟨rfl, hb9⟩;clear m0 m1;clear a0 a1;replace HB := hh_ (HB.keep hb9);replace HY := hh_ (HY.keep hb9);replace HA := hh_ (HA.keep hb9);have a0 := HA.c0;have a1 := HA.c1;have HQ6 := hh_ (HQ5.keep hb9);have m0 := HQ6.c0;have m1 := HQ6.c1;clear hb9 HQ5 hga;go_wp2_with fail
    refine (K7.out _ _ _ HA.a).mono ?_;rintro e w13 ⟨rfl, hb13⟩;clear a0 a1;replace HB := hh_ (HB.keep hb13);replace HY := hh_ (HY.keep hb13);replace HA := hh_ (HA.keep hb13);clear hb13;have a0 := HA.c0;have a1 := HA.c1;go_wp2_with fail
    go_meet;exact ⟨HB, HY⟩
 case rest =>
 clear HB HY HA HP a0 a1;obtain ⟨HB, HY⟩ := hcut;obtain ⟨z2, hz2⟩ : ∃ z, z = wc := ⟨_, rfl⟩;rw [← hz2] at HB HY ⊢;clear hz2;go_wp2_with fail
 refine (DrawIsCompletion_s HY.b hn2).mono ?_;rintro e va ⟨s4, B4, m4, d4, x4, s5, B5, m5, d5, x5, rfl, hS, hS5⟩;have hm4 := hS.h7;have hm5 := hS5.h7;have hga4 : GA va B4 m4 d4 x4 := ⟨hS.o1.rd⟩;have hga5 : GA va B5 m5 d5 x5 := ⟨hS5.o1.rd⟩;have hbv := hS.b;replace HB := hh_ (HB.keep hbv);replace HY := hh_ (HY.keep hbv);clear hbv hS hS5;obtain ⟨Ua, hW⟩ : ∃ U, U = ((va.alloc (Obj.cells #[.int .i64 s4, .slice B4 m4 d4] 26)).alloc (Obj.cells #[.int .i64 s5, .slice B5 m5 d5] 26)) := ⟨_, rfl⟩;obtain ⟨hg4, hg5, hbU⟩ := GX.two (s1 := s4) (s2 := s5) hga4 hga5;rw [← hW] at hg4 hg5 hbU;have HG4 := hh_ hg4;have HG5 := hh_ hg5;have HW := hh_ hW;replace HB := hh_ (HB.keep hbU);replace HY := hh_ (HY.keep hbU);clear hbU hW hg4 hg5 hga4 hga5;go_wp2_with fail
 rw [← HW.out];clear HW;refine (DrawIsMinimalFill_s HY.b hn2).mono ?_;rintro e vb ⟨s6, B6, m6, d6, x6, A6, c6, D6, rfl, hS, hoD6, hD61, hD62⟩;have hm6 := hS.h7;have hga : GA vb B6 m6 d6 x6 := ⟨hS.o1.rd⟩;have hbv := hS.b;have HD6 : Hid (LD vb A6 c6 D6) := ⟨hoD6.rdD⟩;have hDl6 := (list_lens rfl hD61 hD62).2;replace HB := hh_ (HB.keep hbv);replace HY := hh_ (HY.keep hbv);replace HG4 := hh_ (HG4.keep hbv);replace HG5 := hh_ (HG5.keep hbv);clear hbv hS hoD6 hD61 hD62;obtain ⟨Ub, hW⟩ : ∃ U, U = vb.alloc (Obj.cells #[.int .i64 s6, .slice B6 m6 d6] 26) := ⟨_, rfl⟩;have hbU : Below vb.heap.size vb Ub := by rw [hW]; exact br_.alloc nr_ _
 have HG6 : Hid (GX Ub vb.heap.size s6 B6 m6 d6 x6) := by rw [hW]; exact GX.new hga
 have HW := hh_ hW;replace HB := hh_ (HB.keep hbU);replace HY := hh_ (HY.keep hbU);replace HG4 := hh_ (HG4.keep hbU);replace HG5 := hh_ (HG5.keep hbU);replace HD6 := hh_ (HD6.keep hbU);clear hbU hW hga;go_wp2_with fail
 rw [← HW.out];clear HW;refine (DrawFewestFill_s HY.b hn2).mono ?_;rintro e vc ⟨s7, B7, m7, d7, x7, rfl, hS⟩;have hm7 := hS.h7;have hga : GA vc B7 m7 d7 x7 := ⟨hS.o1.rd⟩;have hbv := hS.b;replace HB := hh_ (HB.keep hbv);replace HY := hh_ (HY.keep hbv);replace HG4 := hh_ (HG4.keep hbv);replace HG5 := hh_ (HG5.keep hbv);replace HD6 := hh_ (HD6.keep hbv);replace HG6 := hh_ (HG6.keep hbv);clear hbv hS;obtain ⟨Uc, hW⟩ : ∃ U, U = vc.alloc (Obj.cells #[.int .i64 s7, .slice B7 m7 d7] 26) := ⟨_, rfl⟩;have hbU : Below vc.heap.size vc Uc := by rw [hW]; exact br_.alloc nr_ _
 have HG7 : Hid (GX Uc vc.heap.size s7 B7 m7 d7 x7) := by rw [hW]; exact GX.new hga
 have HW := hh_ hW;replace HB := hh_ (HB.keep hbU);replace HY := hh_ (HY.keep hbU);replace HG4 := hh_ (HG4.keep hbU);replace HG5 := hh_ (HG5.keep hbU);replace HD6 := hh_ (HD6.keep hbU);replace HG6 := hh_ (HG6.keep hbU);clear hbU hW hga;go_wp2_with fail
 rw [← HW.out];clear HW;refine (DrawAddAll_s HY.b hn2).mono ?_;rintro e vd ⟨s8, B8, m8, d8, x8, A8, c8, D8, rfl, hS, hoD8, hD81, hD82⟩;have hm8 := hS.h7;have hga : GA vd B8 m8 d8 x8 := ⟨hS.o1.rd⟩;have hbv := hS.b;have HD8 : Hid (LD vd A8 c8 D8) := ⟨hoD8.rdD⟩;have hDl8 := (list_lens rfl hD81 hD82).2;replace HB := hh_ (HB.keep hbv);replace HY := hh_ (HY.keep hbv);replace HG4 := hh_ (HG4.keep hbv);replace HG5 := hh_ (HG5.keep hbv);replace HD6 := hh_ (HD6.keep hbv);replace HG6 := hh_ (HG6.keep hbv);replace HG7 := hh_ (HG7.keep hbv);clear hbv hS hoD8 hD81 hD82;obtain ⟨Ud, hW⟩ : ∃ U, U = vd.alloc (Obj.cells #[.int .i64 s8, .slice B8 m8 d8] 26) := ⟨_, rfl⟩;have hbU : Below vd.heap.size vd Ud := by rw [hW]; exact br_.alloc nr_ _
 have HG8 : Hid (GX Ud vd.heap.size s8 B8 m8 d8 x8) := by rw [hW]; exact GX.new hga
 have HW := hh_ hW;replace HB := hh_ (HB.keep hbU);replace HY := hh_ (HY.keep hbU);replace HG4 := hh_ (HG4.keep hbU);replace HG5 := hh_ (HG5.keep hbU);replace HD6 := hh_ (HD6.keep hbU);replace HG6 := hh_ (HG6.keep hbU);replace HG7 := hh_ (HG7.keep hbU);replace HD8 := hh_ (HD8.keep hbU);clear hbU hW hga;obtain ⟨s9, hs9⟩ : ∃ y, y = aaZ s8 m8 x8 (lists D8) := ⟨_, rfl⟩;obtain ⟨m9, hm9⟩ : ∃ y, y = aaN s8 m8 x8 (lists D8) := ⟨_, rfl⟩;obtain ⟨x9, hx9⟩ : ∃ y, y = aaX s8 m8 x8 (lists D8) := ⟨_, rfl⟩;obtain ⟨fine, hfine⟩ : ∃ y, y = aaB s8 m8 x8 (lists D8) := ⟨_, rfl⟩;have hm97 : m9 ≤ 7 := by rw [hm9]; exact Nat.le_trans aaN_le hm8
 have KA1 : Hid (∀ W : World, GA W B8 m8 d8 x8 → LD W A8 c8 D8 → Calls Tryz.prog 26 #[.agg #[.int .i64 s8, .slice B8 m8 d8], .slice A8 D8.length c8] W fun e w' => ∃ (A' : Option Addr) (c' : Nat), e = .returned (.tuple #[.agg #[.int .i64 s9, .slice A' m9 c'], .bool fine]) ∧ GA w' A' m9 c' x9 ∧ Below W.heap.size W w') := fun W h1 h2 => by
  refine (AddAll_i s8 B8 m8 d8 x8 A8 c8 D8 W W.heap.size h1.rd h2.rd nr_ (by omega) (by omega) hDl8.2 _ rfl).mono ?_;rintro e w' ⟨A', c', he, ho, hb⟩;rw [hs9, hm9, hx9, hfine];exact ⟨A', c', he, ⟨ho.rd⟩, hb⟩
 have KA2 : Hid (∀ W : World, GA W B8 m8 d8 x8 → LD W A8 c8 D8 → Calls Tryz.prog 41 #[.agg #[.int .i64 s8, .slice B8 m8 d8], .slice A8 D8.length c8] W fun e w' => ∃ (A' : Option Addr) (c' : Nat), e = .returned (.tuple #[.agg #[.int .i64 s9, .slice A' m9 c'], .bool fine]) ∧ GA w' A' m9 c' x9 ∧ Below W.heap.size W w') := fun W h1 h2 => by
  refine (AddAll_s s8 B8 m8 d8 x8 A8 c8 D8 W W.heap.size h1.rd h2.rd nr_ (by omega) (by omega) hDl8.2 _ rfl).mono ?_;rintro e w' ⟨A', c', he, ho, hb⟩;rw [hs9, hm9, hx9, hfine];exact ⟨A', c', he, ⟨ho.rd⟩, hb⟩
 clear hs9 hm9 hx9 hfine;have f0 := HG8.c0;have f1 := HG8.c1;go_wp2_with fail
 rw [← HW.out];refine (KA1.out _ HG8.a HD8.out).mono ?_;rintro e w14 ⟨A9, c9, rfl, ha9, hb14⟩;clear HW;clear f0 f1;replace HB := hh_ (HB.keep hb14);replace HY := hh_ (HY.keep hb14);replace HG4 := hh_ (HG4.keep hb14);replace HG5 := hh_ (HG5.keep hb14);replace HD6 := hh_ (HD6.keep hb14);replace HG6 := hh_ (HG6.keep hb14);replace HG7 := hh_ (HG7.keep hb14);replace HD8 := hh_ (HD8.keep hb14);replace HG8 := hh_ (HG8.keep hb14);clear hb14;have f0 := HG8.c0;have f1 := HG8.c1;obtain ⟨Ue, hW⟩ : ∃ U, U = w14.alloc (Obj.cells #[.int .i64 s9, .slice A9 m9 c9] 26) := ⟨_, rfl⟩;have hbU : Below w14.heap.size w14 Ue := by rw [hW]; exact br_.alloc nr_ _
 have HX : Hid (GX Ue w14.heap.size s9 A9 m9 c9 x9) := by rw [hW]; exact GX.new ha9
 have hl1 := World.block_lt_of_cell? _ _ f0;have HW := hh_ hW;clear hW;go_wp2_with fail
 rw [← HW.out];clear HW;clear f0 f1;replace HB := hh_ (HB.keep hbU);replace HY := hh_ (HY.keep hbU);replace HG4 := hh_ (HG4.keep hbU);replace HG5 := hh_ (HG5.keep hbU);replace HD6 := hh_ (HD6.keep hbU);replace HG6 := hh_ (HG6.keep hbU);replace HG7 := hh_ (HG7.keep hbU);replace HD8 := hh_ (HD8.keep hbU);replace HG8 := hh_ (HG8.keep hbU);clear hbU ha9 hl1;have f0 := HG8.c0;have f1 := HG8.c1;refine (KA2.out _ HG8.a HD8.out).mono ?_;rintro e vf ⟨Ay, cy, rfl, hay, hbf⟩;clear f0 f1;replace HB := hh_ (HB.keep hbf);replace HY := hh_ (HY.keep hbf);replace HG4 := hh_ (HG4.keep hbf);replace HG5 := hh_ (HG5.keep hbf);replace HD6 := hh_ (HD6.keep hbf);replace HG6 := hh_ (HG6.keep hbf);replace HG7 := hh_ (HG7.keep hbf);replace HD8 := hh_ (HD8.keep hbf);replace HG8 := hh_ (HG8.keep hbf);replace HX := hh_ (HX.keep hbf);clear hbf;have f0 := HG8.c0;have f1 := HG8.c1;obtain ⟨Uf, hW⟩ : ∃ U, U = vf.alloc (Obj.cells #[.int .i64 s9, .slice Ay m9 cy] 26) := ⟨_, rfl⟩
 have hbU : Below vf.heap.size vf Uf := by rw [hW]; exact br_.alloc nr_ _
 have HZ : Hid (GX Uf vf.heap.size s9 Ay m9 cy x9) := by rw [hW]; exact GX.new hay
 have HW := hh_ hW;clear f0 f1;replace HB := hh_ (HB.keep hbU);replace HY := hh_ (HY.keep hbU);replace HG4 := hh_ (HG4.keep hbU);replace HG5 := hh_ (HG5.keep hbU);replace HD6 := hh_ (HD6.keep hbU);replace HG6 := hh_ (HG6.keep hbU);replace HG7 := hh_ (HG7.keep hbU);replace HD8 := hh_ (HD8.keep hbU);replace HG8 := hh_ (HG8.keep hbU);replace HX := hh_ (HX.keep hbU);clear hbU hW hay;have f0 := HG8.c0;have f1 := HG8.c1;clear f0 f1 HG8 HD8 KA1 KA2;obtain ⟨ic, hic⟩ : ∃ b, b = icB s4 m4 x4 s5 m5 x5 := ⟨_, rfl⟩;obtain ⟨mf, hmf⟩ : ∃ b, b = imfB s6 m6 x6 (lists D6) := ⟨_, rfl⟩;obtain ⟨ff, hff⟩ : ∃ b, b = ffI s7 m7 x7 := ⟨_, rfl⟩;have R1 : Hid (∀ W : World, GA W B4 m4 d4 x4 → GA W B5 m5 d5 x5 → Calls Tryz.prog 27 #[.agg #[.int .i64 s4, .slice B4 m4 d4], .agg #[.int .i64 s5, .slice B5 m5 d5]] W fun e w' => e = .returned (.bool ic) ∧ Below W.heap.size W w') := fun W h1 h2 => by rw [hic]; exact IsCompletion_i s4 B4 m4 d4 x4 s5 B5 m5 d5 x5 W W.heap.size h1.rd h2.rd nr_ (by omega) (by omega)
 have R2 : Hid (∀ W : World, GA W B4 m4 d4 x4 → GA W B5 m5 d5 x5 → Calls Tryz.prog 42 #[.agg #[.int .i64 s4, .slice B4 m4 d4], .agg #[.int .i64 s5, .slice B5 m5 d5]] W fun e w' => e = .returned (.bool ic) ∧ Below W.heap.size W w') := fun W h1 h2 => by rw [hic]; exact IsCompletion_s s4 B4 m4 d4 x4 s5 B5 m5 d5 x5 W W.heap.size h1.rd h2.rd nr_ (by omega) (by omega)
 have R3 : Hid (∀ W : World, GA W B6 m6 d6 x6 → LD W A6 c6 D6 → Calls Tryz.prog 28 #[.agg #[.int .i64 s6, .slice B6 m6 d6], .slice A6 D6.length c6] W fun e w' => e = .returned (.bool mf) ∧ Below W.heap.size W w') := fun W h1 h2 => by rw [hmf]; exact IsMinimalFill_i s6 B6 m6 d6 x6 A6 c6 D6 W W.heap.size h1.rd h2.rd nr_ (by omega) (by omega) hDl6.2 _ rfl
 have R4 : Hid (∀ W : World, GA W B6 m6 d6 x6 → LD W A6 c6 D6 → Calls Tryz.prog 43 #[.agg #[.int .i64 s6, .slice B6 m6 d6], .slice A6 D6.length c6] W fun e w' => e = .returned (.bool mf) ∧ Below W.heap.size W w') := fun W h1 h2 => by rw [hmf]; exact IsMinimalFill_s s6 B6 m6 d6 x6 A6 c6 D6 W W.heap.size h1.rd h2.rd nr_ (by omega) (by omega) hDl6.2 _ rfl
 have R5 : Hid (∀ W : World, GA W B7 m7 d7 x7 → Calls Tryz.prog 30 #[.agg #[.int .i64 s7, .slice B7 m7 d7]] W fun e w' => e = .returned (.int .i64 ff) ∧ Below W.heap.size W w') := fun W h1 => by rw [hff]; exact FewestFill_i s7 B7 m7 d7 x7 W h1 (by omega)
 have R6 : Hid (∀ W : World, GA W B7 m7 d7 x7 → Calls Tryz.prog 44 #[.agg #[.int .i64 s7, .slice B7 m7 d7]] W fun e w' => e = .returned (.int .i64 ff) ∧ Below W.heap.size W w') := fun W h1 => by rw [hff]; exact FewestFill_s s7 B7 m7 d7 x7 W h1 (by omega)
 have R7 : Hid (∀ W : World, GA W A9 m9 c9 x9 → GA W Ay m9 cy x9 → Calls Tryz.prog 12 #[.agg #[.int .i64 s9, .slice A9 m9 c9], .agg #[.int .i64 s9, .slice Ay m9 cy]] W fun e w' => e = .returned (.bool true) ∧ Below W.heap.size W w') := fun W h1 h2 => same_graphs h1 h2 (by omega)
 clear hic hmf hff;have e0 := HG4.c0;have e1 := HG4.c1;have e2 := HG5.c0;have e3 := HG5.c1;have e4 := HG6.c0;have e5 := HG6.c1;have e6 := HG7.c0;have e7 := HG7.c1;have e8 := HX.c0;have e9 := HX.c1;have g0 := HZ.c0;have g1 := HZ.c1;go_wp2_with fail
 rw [← HW.out];clear HW;have HSC : Hid (∀ z : World, Below Uf.heap.size Uf z → (Below Uf.heap.size Uf z ∧ z.cell? ⟨va.heap.size, 0, none⟩ = some (.int .i64 s4) ∧ z.cell? ⟨va.heap.size, 1, none⟩ = some (.slice B4 m4 d4) ∧ z.cell? ⟨va.heap.size + 1, 0, none⟩ = some (.int .i64 s5) ∧ z.cell? ⟨va.heap.size + 1, 1, none⟩ = some (.slice B5 m5 d5) ∧ z.cell? ⟨vb.heap.size, 0, none⟩ = some (.int .i64 s6) ∧ z.cell? ⟨vb.heap.size, 1, none⟩ = some (.slice B6 m6 d6) ∧ z.cell? ⟨vc.heap.size, 0, none⟩ = some (.int .i64 s7) ∧ z.cell? ⟨vc.heap.size, 1, none⟩ = some (.slice B7 m7 d7) ∧ z.cell? ⟨w14.heap.size, 0, none⟩ = some (.int .i64 s9) ∧ z.cell? ⟨w14.heap.size, 1, none⟩ = some (.slice A9 m9 c9) ∧ z.cell? ⟨vf.heap.size, 0, none⟩ = some (.int .i64 s9) ∧ z.cell? ⟨vf.heap.size, 1, none⟩ = some (.slice Ay m9 cy))) := fun z hz => ⟨hz, up_ hz e0, up_ hz e1, up_ hz e2, up_ hz e3, up_ hz e4, up_ hz e5, up_ hz e6, up_ hz e7, up_ hz e8, up_ hz e9, up_ hz g0, up_ hz g1⟩
 have HZ0 : Hid (Below Uf.heap.size Uf Uf.drew) := br_.drew;have HS1 := hh_ (HSC.out _ HZ0.out);have KR1 : Hid (∀ z : World, Below Uf.heap.size Uf z → _) := fun z hz => R1.out z (HG4.a.keep hz) (HG5.a.keep hz)
 have KR2 : Hid (∀ z : World, Below Uf.heap.size Uf z → _) := fun z hz => R2.out z (HG4.a.keep hz) (HG5.a.keep hz)
 have KR3 : Hid (∀ z : World, Below Uf.heap.size Uf z → _) := fun z hz => R3.out z (HG6.a.keep hz) (HD6.keep hz)
 have KR4 : Hid (∀ z : World, Below Uf.heap.size Uf z → _) := fun z hz => R4.out z (HG6.a.keep hz) (HD6.keep hz)
 have KR5 : Hid (∀ z : World, Below Uf.heap.size Uf z → _) := fun z hz => R5.out z (HG7.a.keep hz)
 have KR6 : Hid (∀ z : World, Below Uf.heap.size Uf z → _) := fun z hz => R6.out z (HG7.a.keep hz)
 have KR7 : Hid (∀ z : World, Below Uf.heap.size Uf z → _) := fun z hz => R7.out z (HX.a.keep hz) (HZ.a.keep hz)
 refine wp_region_held_drew (S := fun z => Below Uf.heap.size Uf z ∧ z.cell? ⟨va.heap.size, 0, none⟩ = some (.int .i64 s4) ∧ z.cell? ⟨va.heap.size, 1, none⟩ = some (.slice B4 m4 d4) ∧ z.cell? ⟨va.heap.size + 1, 0, none⟩ = some (.int .i64 s5) ∧ z.cell? ⟨va.heap.size + 1, 1, none⟩ = some (.slice B5 m5 d5) ∧ z.cell? ⟨vb.heap.size, 0, none⟩ = some (.int .i64 s6) ∧ z.cell? ⟨vb.heap.size, 1, none⟩ = some (.slice B6 m6 d6) ∧ z.cell? ⟨vc.heap.size, 0, none⟩ = some (.int .i64 s7) ∧ z.cell? ⟨vc.heap.size, 1, none⟩ = some (.slice B7 m7 d7) ∧ z.cell? ⟨w14.heap.size, 0, none⟩ = some (.int .i64 s9) ∧ z.cell? ⟨w14.heap.size, 1, none⟩ = some (.slice A9 m9 c9) ∧ z.cell? ⟨vf.heap.size, 0, none⟩ = some (.int .i64 s9) ∧ z.cell? ⟨vf.heap.size, 1, none⟩ = some (.slice Ay m9 cy)) (by kernel_rfl) HS1.out (fun hHeld => ?_);refine pcY 0 ?_;refine ptY ?_
 refine pcY 3 ?_;refine ptY ?_;refine w1H 2 (fun K hK => ?_);go_simp;go_at_call 27; refine (KR1.out _ HZ0.out).mono ?_
 rintro e w15 ⟨rfl, hb15⟩;have hz15 := bl_trans HZ0.out hb15;refine hK.out _ _ (HSC.out _ hz15) (fun hHeld => ?_);clear hK K;try simp only [Act.put, sl0, sl1, sl2]
 refine w1H 5 (fun K hK => ?_);go_simp;go_at_call 42; refine (KR2.out _ hz15).mono ?_
 rintro e w16 ⟨rfl, hb16⟩;have hz16 := bl_trans hz15 hb16;refine hK.out _ _ (HSC.out _ hz16) (fun hHeld => ?_);clear hK K;try simp only [Act.put, sl0, sl1, sl2]
 iterate 4 (refine ptY ?_)
 refine pcY 11 ?_;refine ptY ?_;refine w1H 10 (fun K hK => ?_);go_simp;go_at_call 28; refine (KR3.out _ hz16).mono ?_
 rintro e w17 ⟨rfl, hb17⟩;have hz17 := bl_trans hz16 hb17;refine hK.out _ _ (HSC.out _ hz17) (fun hHeld => ?_);clear hK K;try simp only [Act.put, sl0, sl1, sl2]
 refine w1H 13 (fun K hK => ?_);go_simp;go_at_call 43; refine (KR4.out _ hz17).mono ?_
 rintro e w18 ⟨rfl, hb18⟩;have hz18 := bl_trans hz17 hb18;refine hK.out _ _ (HSC.out _ hz18) (fun hHeld => ?_);clear hK K;try simp only [Act.put, sl0, sl1, sl2]
 iterate 4 (refine ptY ?_)
 refine pcY 19 ?_;refine w1H 18 (fun K hK => ?_);go_simp;go_at_call 30; refine (KR5.out _ hz18).mono ?_
 rintro e w19 ⟨rfl, hb19⟩;have hz19 := bl_trans hz18 hb19;refine hK.out _ _ (HSC.out _ hz19) (fun hHeld => ?_);clear hK K;try simp only [Act.put, sl0, sl1, sl2]
 refine w1H 20 (fun K hK => ?_);go_simp;go_at_call 44; refine (KR6.out _ hz19).mono ?_
 rintro e w20 ⟨rfl, hb20⟩;have hz20 := bl_trans hz19 hb20;refine hK.out _ _ (HSC.out _ hz20) (fun hHeld => ?_);clear hK K;try simp only [Act.put, sl0, sl1, sl2]
 iterate 10 (refine ptY ?_)
 refine w1H 31 (fun K hK => ?_);go_simp;go_at_call 12; refine (KR7.out _ hz20).mono ?_
 rintro e w21 ⟨rfl, hb21⟩;have hz21 := bl_trans hz20 hb21;refine hK.out _ _ (HSC.out _ hz21) (fun hHeld => ?_);clear hK K;try simp only [Act.put, sl0, sl1, sl2]
 iterate 2 (refine ptY ?_)
 refine wpAnyH_done (by kernel_rfl) ?_ _;replace HB := hh_ (HB.keep hz21);replace HY := hh_ (HY.keep hz21);clear hb15 hz15 hb16 hz16 hb17 hz17 hb18 hz18 hb19 hz19 hb20 hz20 hb21 hz21 HSC HZ0 HS1 KR1 KR2 KR3 KR4 KR5 KR6 KR7;go_wp2;go_ret;exact ⟨ret_bool (by simp), HB.below⟩
end Go.Proofs.YticadlkcjhglnaaGreat
