/-
-/
import Derived.Test.YtppkokgiojcgbaaGreatDoorQxSimP
import Derived.Test.YtppkokgiojcgbaaGreatDoorQxSet2I
import Derived.Deep.RegionLaw
namespace Go.Proofs.YtppkokgiojcgbaaGreatDoor
open Go.RowKit
theorem within_t {n lo hi : Int} (w : World) (h1 : lo ≤ n) (h2 : n ≤ hi) : Calls Tryz.prog 85 #[.int .i64 n, .int .i64 lo, .int .i64 hi] w fun e w' => e = .returned (.bool true) ∧ Below w.heap.size w w' :=
 (within_yes n lo hi w h1 h2).mono fun _ _ ⟨h1, h2⟩ => ⟨h1, h2 ▸ Below.refl _ _⟩
theorem has_bb {s v : Nat} {b : Bool} (hs : s < 128) (hv : v < 64) (hb : s.testBit v = b) (w : World) : Calls Tryz.prog 69 #[.int .i64 (s : Int), .int .i64 (v : Int)] w fun e w' => e = .returned (.bool b) ∧ Below w.heap.size w w' :=
 (has_v w hs hv).mono fun _ _ ⟨h1, h2⟩ => ⟨by rw [h1, hb], h2 ▸ Below.refl _ _⟩
set_option maxRecDepth 100000 in
set_option maxHeartbeats 6400000 in
theorem IsSimple_v {A : Option Addr} {m c : Nat} {r : Nat → Nat} {s v : Nat} {w : World} (h : GV w A m c r) (hs : s < 2 ^ m) (hv : v < m) :
 Calls Tryz.prog 238 #[.agg #[.int .i64 m, .slice A m c], .int .i64 v, .int .i64 s] w fun e w' => e = .returned (.bool (simB r v s)) ∧ Below w.heap.size w w' := by
 have hn7 := h.vg.n7
 have h128 := two_pow_le hn7
 have HV := Lib.hid h.vg
 obtain ⟨b0, o0, rfl⟩ := h.addr
 obtain ⟨W, hW⟩ : ∃ W : World, W = (w.alloc (Obj.cells #[Value.int IntKind.i64 m, Value.slice (some ⟨b0, o0, none⟩) m c] 29)) := ⟨_, rfl⟩
 have HB : Hid (From w W) := by rw [hW]; exact From.alloc _ _
 have HG : Hid (GBox W w.heap.size (some ⟨b0, o0, none⟩) m c r) := by rw [hW]; exact h.box
 have HW := Lib.hid hW
 clear hW h
 have e0 := HG.out.c0
 have e1 := HG.out.c1
 go_enter Tryz.func238, Tryz.ntmps238
 go_wp2_with fail
 rw [← HW.out]
 refine (IsSet_v HG.out.gv hs).mono ?_
 rintro e w1 ⟨rfl, hb1⟩
 clear HW
 clear e0 e1
 replace HB := Lib.hid (HB.out.keep hb1)
 replace HG := Lib.hid (HG.out.keep hb1)
 clear hb1
 have e0 := HG.out.c0
 have e1 := HG.out.c1
 have s1 : wrap64 ((m : Int) - 1) = (m : Int) - 1 := Go.IntWalk.wrap64_in _ (by omega)
 go_wp2_with fail
 refine (within_t (n := (v : Int)) (lo := 0) (hi := (m : Int) - 1) w1 (by omega) (by omega)).mono ?_
 rintro e w2 ⟨rfl, hb2⟩
 clear e0 e1
 replace HB := Lib.hid (HB.out.keep hb2)
 replace HG := Lib.hid (HG.out.keep hb2)
 clear hb2
 have e0 := HG.out.c0
 have e1 := HG.out.c1
 cases hb : s.testBit v
 ·have Hn : Hid (simB r v s = false) := sim_out hb
  have KH := Lib.hid (has_bb (s := s) (v := v) (by omega) (by omega) hb w2)
  clear hb
  go_wp2_with fail
  refine (KH.out).mono ?_
  rintro e w3 ⟨rfl, hb3⟩
  clear e0 e1
  replace HB := Lib.hid (HB.out.keep hb3)
  replace HG := Lib.hid (HG.out.keep hb3)
  clear hb3
  have e0 := HG.out.c0
  have e1 := HG.out.c1
  go_wp2
  go_ret
  exact ⟨ret_bool Hn.out.symm, HB.out.below⟩
 have KH := Lib.hid (has_bb (s := s) (v := v) (by omega) (by omega) hb w2)
 have Hb := Lib.hid hb
 clear hb
 go_wp2_with fail
 refine KH.out.mono ?_
 rintro e w3 ⟨rfl, hb3⟩
 clear e0 e1
 replace HB := Lib.hid (HB.out.keep hb3)
 replace HG := Lib.hid (HG.out.keep hb3)
 clear hb3 KH
 have e0 := HG.out.c0
 have e1 := HG.out.c1
 obtain ⟨W3, hW3⟩ : ∃ W3 : World, W3 = (w3.alloc (Obj.cells #[] 3)) := ⟨_, rfl⟩
 have HR3 : Hid (From w3 W3) := by rw [hW3]; exact From.alloc _ _
 have HON : Hid (ON w3.heap.size W3 (some ⟨w3.heap.size, 0, none⟩) 0 []) := by rw [hW3]; exact ON.nil w3
 have hz3 : W3.heap.size = w3.heap.size + 1 := by rw [hW3]; simp
 have HW3 := Lib.hid hW3
 clear hW3
 have HB3 : Hid (w.heap.size < w3.heap.size) := HG.out.lt
 have HB0 : Hid (b0 < w3.heap.size) := HG.out.gv.bl
 clear e0 e1
 replace HB := Lib.hid (HB.out.keep HR3.out.below)
 replace HG := Lib.hid (HG.out.keep HR3.out.below)
 have e0 := HG.out.c0
 have e1 := HG.out.c1
 have q0 := HG.out.gv.row hv
 have hrv := HV.out.lt128 hv
 obtain ⟨t, ht⟩ : ∃ t, t = nN r s v := ⟨_, rfl⟩
 have ht7 : t < 128 := by rw [ht]; exact Nat.lt_of_lt_of_le (nN_lt hs) h128
 have Ht := Lib.hid ht
 obtain ⟨y, hy⟩ : ∃ y, y = r v := ⟨_, rfl⟩
 rw [← hy] at q0 hrv
 have h2v := two_pow_le (n := v) (by omega)
 obtain ⟨z, hz⟩ : ∃ z, z = 2 ^ v := ⟨_, rfl⟩
 have p1 : IntKind.i64.wrap ((2 : Int) ^ v) = (z : Int) := by rw [pow_shl v (by omega), hz]; simp
 rw [← hz] at h2v
 have hor : y ||| z < 2 ^ 8 := Nat.or_lt_two_pow (by omega) (by omega)
 have E1 := i64_or_nat y z (by omega) (by omega)
 have E2 := i64_and_nat (y ||| z) s (by omega) (by omega)
 rw [show (y ||| z) &&& s = t by rw [ht, hy, hz]; rfl] at E2
 have i1 : (v : Int) < (m : Int) := by omega
 have KL : Hid (∀ z : World, Below W3.heap.size W3 z → Calls Tryz.prog 113 #[.int .i64 (t : Int)] z fun e w' => ∃ A c, e = .returned (.slice A (listN t).length c) ∧ ON W3.heap.size w' A c (listN t) ∧ Below z.heap.size z w') := fun z hz =>
  (ListOf_v t ht7 z).mono fun _ _ ⟨A, c, h1, h2, h3⟩ => ⟨A, c, h1, h2.mono hz.size, h3⟩
 have hL7 : (listN t).length ≤ 7 := listN_len t
 have htm : t < 2 ^ m := by rw [ht]; exact nN_lt hs
 have HTm : Hid (∀ j, j < (listN t).length → (listN t).getD j 0 < m) := fun j hj => listN_lt htm hj
 obtain ⟨T, hT⟩ : ∃ T, T = listN t := ⟨_, rfl⟩
 rw [← hT] at KL hL7 HTm
 have HT : Hid (T = listN (nN r s v)) := by rw [← Ht.out]; exact hT
 have HON0 := HON
 have HRW : Hid (From W3 W3) := From.refl W3
 clear ht hy hz hT h2v hor s1 e0 htm
 clear e1
 have e0 := HG.out.c0
 have e1 := HG.out.c1
 go_wp2
 rw [← HW3.out]
 clear HW3
 have HSC : Hid (∀ z : World, Below W3.heap.size W3 z → (Below W3.heap.size W3 z ∧ z.cell? ⟨w.heap.size, 1, none⟩ = some (.slice (some ⟨b0, o0, none⟩) m c) ∧ z.cell? ⟨b0, o0 + v, none⟩ = some (.int .i64 (y : Int)))) := fun z hz => ⟨hz, up_ hz e1, up_ hz q0⟩
 have HZ0 : Hid (Below W3.heap.size W3 W3.drew) := (Below.refl _ _).drew
 have HS1 := Lib.hid (HSC.out _ HZ0.out)
 have KR1 : Hid (∀ z : World, Below W3.heap.size W3 z → _) := fun z hz => KL.out _ hz
 go_region_held3 (fun z => Below W3.heap.size W3 z ∧ z.cell? ⟨w.heap.size, 1, none⟩ = some (.slice (some ⟨b0, o0, none⟩) m c) ∧ z.cell? ⟨b0, o0 + v, none⟩ = some (.int .i64 (y : Int)))
  (first | exact HS1.out | assumption | exact HSC.out _ hz4 | fail)
  (first | (go_at_call 113; ((with_reducible refine (KR1.out _ HZ0.out).mono ?_); rintro e w4 ⟨AL, cL, rfl, hOL, hb4⟩; have hz4 := bl_trans HZ0.out hb4)))
 clear e0 e1
 replace HB := Lib.hid (HB.out.keep hz4)
 replace HG := Lib.hid (HG.out.keep hz4)
 replace HON := Lib.hid (HON.out.keep hz4)
 replace HRW := Lib.hid (HRW.out.keep hz4)
 clear hb4 hz4 HSC HZ0 HS1 KR1
 have e0 := HG.out.c0
 have e1 := HG.out.c1
 have HOL := Lib.hid hOL
 have hz4 : W3.heap.size ≤ w4.heap.size := HRW.out.below.size
 clear hOL HRW KL p1 E1 E2 q0 e1 hrv HON0
 have HG4 := HG
 have HB4 := HB
 go_wp2
 go_loopw [7, 45] (fun out iv wr => ∃ (k g6 c6 : Nat), k ≤ T.length ∧ out = .slice (some ⟨g6, 0, none⟩) (nK r s T k).length c6 ∧ iv = .int .i64 k ∧ (g6 = w3.heap.size ∨ w4.heap.size ≤ g6) ∧ Hid (ON w3.heap.size wr (some ⟨g6, 0, none⟩) c6 (nK r s T k)) ∧ Hid (Fr w3.heap.size (w3.heap.size + 1) w4 wr)) (fun _ iv _ => T.length - (intOf iv).toNat)
 case atStart => exact ⟨0, w3.heap.size, 0, Nat.zero_le _, rfl, rfl, .inl rfl, HON, Fr.refl _ _ _⟩
 case round =>
  clear HON
  obtain ⟨k, g6, c6, hk, rfl, rfl, hg6, HO6, HF⟩ := hrel
  have hzr := HF.out.size
  by_cases hkT : k < T.length
  ·have i1 : (k : Int) < (T.length : Int) := by omega
   have HLr : Hid (LN wr AL cL T) := ⟨((HOL.out.own.keep HF.out (.inr (by omega))).mono (Nat.le_refl _) hzr).rd⟩
   obtain ⟨bl, ol, rfl⟩ := HLr.out.addr (by omega)
   have p0 := HLr.out.cell hkT
   have hu := HTm.out k hkT
   obtain ⟨u, hu'⟩ : ∃ u, u = T.getD k 0 := ⟨_, rfl⟩
   rw [← hu'] at p0 hu
   have e1 : wr.cell? ⟨w.heap.size, 1, none⟩ = some (.slice (some ⟨b0, o0, none⟩) m c) := frC_ HF.out HG4.out.c1 HG4.out.lt (.inl (by have := HB3.out; omega))
   have hb0 : b0 < w3.heap.size := HB0.out
   have q0 : wr.cell? ⟨b0, o0 + u, none⟩ = some (.int .i64 (r u : Nat)) := frC_ HF.out (HG4.out.gv.row hu) HG4.out.gv.bl (.inl hb0)
   have hr := HV.out.lt128 hu
   obtain ⟨y, hy⟩ : ∃ y, y = r u := ⟨_, rfl⟩
   rw [← hy] at q0 hr
   have h2u := two_pow_le (n := u) (by omega)
   obtain ⟨z, hz⟩ : ∃ z, z = 2 ^ u := ⟨_, rfl⟩
   have p1 : IntKind.i64.wrap ((2 : Int) ^ u) = (z : Int) := by rw [pow_shl u (by omega), hz]; simp
   rw [← hz] at h2u
   have hor : y ||| z < 2 ^ 8 := Nat.or_lt_two_pow (by omega) (by omega)
   have E1 := i64_or_nat y z (by omega) (by omega)
   have E2 := i64_and_nat (y ||| z) s (by omega) (by omega)
   obtain ⟨nu, hnu⟩ : ∃ nu, nu = nN r s u := ⟨_, rfl⟩
   rw [show (y ||| z) &&& s = nu by rw [hnu, hy, hz]; rfl] at E2
   have Hsu : Hid (nK r s T (k + 1) = nK r s T k ++ [nu]) := by show _ = _; rw [nK_succ, ← hu', hnu]
   have i2 : (u : Int) < (m : Int) := by omega
   have Hlen : Hid ((nK r s T k).length = k) := nK_len
   have hlo : w3.heap.size ≤ wr.heap.size := by omega
   have HP : Hid (Own ((wr.alloc (Obj.cells #[.int .i64 (nu : Int)] 3)).drew) w3.heap.size wr.heap.size 3 1 (some ⟨g6, 0, none⟩) (nK r s T k).length c6 (ni (nK r s T k ++ [nu]))) := (HO6.out.own.congr (fun j hj => (ni_left hj).symm)).alloc _
   clear hu' hy hz hnu h2u hor hr
   go_wp2
   go_region_law
    ((refine step_push _ (by rfl) _ _ _ (by rfl) 3 _ 1 8 Tryz.underlying22 info_int rfl (by omega) w3.heap.size wr.heap.size (some ⟨g6, 0, none⟩) (nK r s T k).length c6 (ni (nK r s T k ++ [nu])) (by rfl) HP.out (by simp; omega) wr.heap.size #[.int .i64 (nu : Int)] 3 (0, 0) 1 (heap_alloc_new wr _) (by rfl) rfl ni_news (by simp [Value.oneCell']) (by rw [Hlen.out]; omega) (by omega) ?_; intro g7 cap w6 hp))
   all_goals
    have H5 : Hid (ON w3.heap.size w6 (some ⟨g7, 0, none⟩) cap (nK r s T (k + 1))) := ⟨by rw [Hsu.out, List.length_append]; exact hp.own⟩
    have H6 : Hid (Fr w3.heap.size (w3.heap.size + 1) w4 w6) := by
     have ha : (wr.alloc (Obj.cells #[.int .i64 (nu : Int)] 3)).drew.heap.size = wr.heap.size + 1 := by simp
     refine ⟨hp.grown.os.trans HF.out.os, hp.grown.tape.trans HF.out.tape, hp.grown.output.trans HF.out.output, by have := hp.grown.size; omega, fun i hi ho => ?_⟩
     refine (hp.grown.block i (by omega) (by simp [Value.ownBlock]; omega)).trans ?_
     exact (Below.heap_alloc wr _ i (by omega)).trans (HF.out.block i hi ho)
    have hg7 : g7 = w3.heap.size ∨ w4.heap.size ≤ g7 := by
     have ha : (wr.alloc (Obj.cells #[.int .i64 (nu : Int)] 3)).drew.heap.size = wr.heap.size + 1 := by simp
     rcases hp.at_ with h1 | h1
     ·simp [Value.ownBlock] at h1; omega
     ·omega
    have Hln : Hid ((nK r s T (k + 1)).length = (nK r s T k).length + 1) := by show _ = _; rw [nK_len, nK_len]
    clear hp HP
    go_wp2
    go_roundw
    case rel => exact ⟨k + 1, g7, cap, by omega, by rw [Hln.out], by go_num, hg7, H5, H6⟩
    case measure => (simp [intOf] <;> omega)
  ·obtain rfl : T.length = k := by omega
   have HBz : Hid (Below w.heap.size w wr) := HB4.out.below.trans (HF.out.below (by have := HB3.out; omega) HB4.out.below.size)
   have Hln : Hid ((nK r s T T.length).length = T.length) := nK_len
   have hcap := HO6.out.own.le
   obtain ⟨wf, hwf⟩ : ∃ wf : World, wf = wr := ⟨_, rfl⟩
   have HC6 : Hid (∀ j, j < T.length → wf.cell? ⟨g6, j, none⟩ = some (.int .i64 (nN r s (T.getD j 0) : Nat))) := fun j hj => by
    have := HO6.out.ln.cell (j := j) (by rw [Hln.out]; exact hj)
    rw [nK_at hj, Nat.zero_add] at this
    rw [hwf]; exact this
   obtain ⟨N, hN⟩ : ∃ N, N = (nK r s T T.length).length := ⟨_, rfl⟩
   rw [← hN] at Hln hcap ⊢
   rw [← hwf] at HBz ⊢
   have HNN := Hln
   have hNT : N = T.length := Hln.out
   clear hN HO6 HF hwf hg6 hzr
   go_wp2
   go_loopw [65] (fun iv wz => ∃ i : Nat, i ≤ N ∧ iv = .int .i64 i ∧ Hid (Sm1 r s T i) ∧ wz = wf) (fun iv _ => N - (intOf iv).toNat)
   case atStart => exact ⟨0, Nat.zero_le _, rfl, Sm1.zero, rfl⟩
   case round =>
    obtain ⟨i, hi, rfl, H1, hww⟩ := hrel
    subst hww
    by_cases hiN : i < N
    ·have i1 : (i : Int) < (N : Int) := by omega
     have p0 := HC6.out i (by omega)
     have ha7 : nN r s (T.getD i 0) < 128 := Nat.lt_of_lt_of_le (nN_lt hs) h128
     obtain ⟨a, ha⟩ : ∃ a, a = nN r s (T.getD i 0) := ⟨_, rfl⟩
     rw [← ha] at p0 ha7
     have Ha := Lib.hid ha
     have i2 : (i : Int) ≤ (c6 : Int) := by omega
     clear ha
     go_wp2
     go_loop [74] (fun iv => ∃ k : Nat, k ≤ i ∧ iv = .int .i64 k ∧ Hid (∀ j, j < k → Cm (nN r s (T.getD i 0)) (nN r s (T.getD j 0)))) (fun iv => i - (intOf iv).toNat)
     case atStart => exact ⟨0, Nat.zero_le _, rfl, fun j hj => absurd hj (by omega)⟩
     case round =>
      obtain ⟨k, hk, rfl, H2⟩ := hrel
      by_cases hki : k < i
      ·have i3 : (k : Int) < (i : Int) := by omega
       have p1 := HC6.out k (by omega)
       have hb7 : nN r s (T.getD k 0) < 128 := Nat.lt_of_lt_of_le (nN_lt hs) h128
       obtain ⟨b, hb⟩ : ∃ b, b = nN r s (T.getD k 0) := ⟨_, rfl⟩
       rw [← hb] at p1 hb7
       have E1 := i64_andNot_nat a b (by omega) (by omega)
       have E2 := i64_andNot_nat b a (by omega) (by omega)
       have Hp : Hid ((a ^^^ (a &&& b) = 0 ∨ b ^^^ (b &&& a) = 0) → Cm (nN r s (T.getD i 0)) (nN r s (T.getD k 0))) := fun h => by rw [← Ha.out, ← hb]; exact cm_of h
       have Hq : Hid (a ^^^ (a &&& b) ≠ 0 → b ^^^ (b &&& a) ≠ 0 → simB r v s = false) := fun h1 h2 => sim_no HT.out (by omega) hki (by rw [← Ha.out, ← hb]; exact cm_not h1 h2)
       obtain ⟨al, hal⟩ : ∃ al, al = a ^^^ (a &&& b) := ⟨_, rfl⟩
       obtain ⟨be, hbe⟩ : ∃ be, be = b ^^^ (b &&& a) := ⟨_, rfl⟩
       rw [← hal, ← hbe] at Hp Hq
       rw [← hal] at E1
       rw [← hbe] at E2
       clear hal hbe hb
       by_cases h1 : al = 0
       ·have H2' : Hid (∀ j, j < k + 1 → Cm (nN r s (T.getD i 0)) (nN r s (T.getD j 0))) := fun j hj => by
         by_cases e : j < k
         ·exact H2.out j e
         ·obtain rfl : j = k := by omega
          exact Hp.out (.inl h1)
        have d1 : ((al : Int) != 0) = false := by simp; omega
        clear h1
        go_wp2
        go_round
        case rel => exact ⟨k + 1, by omega, by go_num, H2'⟩
        case measure => (simp [intOf] <;> omega)
       ·have d1 : ((al : Int) != 0) = true := by simp; omega
        by_cases h2 : be = 0
        ·have H2' : Hid (∀ j, j < k + 1 → Cm (nN r s (T.getD i 0)) (nN r s (T.getD j 0))) := fun j hj => by
          by_cases e : j < k
          ·exact H2.out j e
          ·obtain rfl : j = k := by omega
           exact Hp.out (.inr h2)
         have d2 : ((be : Int) != 0) = false := by simp; omega
         clear h1 h2
         go_wp2
         go_round
         case rel => exact ⟨k + 1, by omega, by go_num, H2'⟩
         case measure => (simp [intOf] <;> omega)
        ·have d2 : ((be : Int) != 0) = true := by simp; omega
         have Hn := Lib.hid (Hq.out h1 h2)
         clear h1 h2
         go_wp2
         go_ret
         exact ⟨ret_bool Hn.out.symm, HBz.out⟩
      ·have H1' : Hid (Sm1 r s T (i + 1)) := H1.out.step fun j hj => H2.out j (by omega)
       have i3 : (i : Int) ≤ (k : Int) := by omega
       go_wp2
       go_roundw
       case rel => exact ⟨i + 1, by omega, by go_num, H1', by first | rfl | trivial⟩
       case measure => (simp [intOf] <;> omega)
    ·have Hy : Hid (simB r v s = true) := sim_yes Hb.out (by rw [← HT.out]; exact fun i' hi' => H1.out i' (by omega))
     have i1 : (N : Int) ≤ (i : Int) := by omega
     go_wp2
     go_ret
     exact ⟨ret_bool Hy.out.symm, HBz.out⟩
end Go.Proofs.YtppkokgiojcgbaaGreatDoor
