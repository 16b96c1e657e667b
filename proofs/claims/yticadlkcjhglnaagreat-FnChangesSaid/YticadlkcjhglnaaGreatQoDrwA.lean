/-
  Several texts in one.
-/
import Derived.Test.YticadlkcjhglnaaGreatQoOrlS
import Derived.Test.YticadlkcjhglnaaGreatQoV
import Derived.Test.YticadlkcjhglnaaGreatQoListS
/-
-/
namespace Go.Proofs.YticadlkcjhglnaaGreat
open Go.RowKit
set_option maxHeartbeats 1600000
set_option maxRecDepth 100000 in
theorem EliminationOf_il (sz : Int) (A : Option Addr) (m c : Nat) (x : Nat → Int) (w : World) (B : Nat) (h : Rd w B A m c x) (hB : B ≤ w.heap.size) (hm : m ≤ 1048576) :
 Calls Tryz.prog 130 #[.agg #[.int .i64 sz, .slice A m c]] w (lsQ w (orG firstS sz m x)) := by
 obtain ⟨W, hW⟩ : ∃ W, W = (w.alloc (Obj.cells #[.int .i64 sz, .slice A m c] 26)) := ⟨_, rfl⟩;have HB : Hid (Below w.heap.size w W) := by rw [hW]; exact (br_.alloc nr_ _)
 have a0 : w.heap.size < W.heap.size := by rw [hW]; simp
 have e0 : W.cell? ⟨w.heap.size, 0, none⟩ = some (.int .i64 sz) := by rw [hW]; simp [go_sem]
 have e1 : W.cell? ⟨w.heap.size, 1, none⟩ = some (.slice A m c) := by rw [hW]; simp [go_sem]
 have HK := hh_ (h.keep (HB.mono hB) nr_);have HW := hh_ hW;clear hW h;go_enter Tryz.func130, Tryz.ntmps130;go_wp2_with fail
 rw [← HW.out];refine (IsGraph_any sz A m c x W B HK (by omega) hm).mono ?_;rintro e w1 ⟨rfl, hb1⟩;have f0 := up hb1 e0 a0;have f1 := up hb1 e1 a0;have z1 := hb1.size;have HB1 : Hid (Below w.heap.size w w1) := HB.trans (hb1.mono (by omega));have HK1 : Hid (Rd w1 B A m c x) := HK.keep (hb1.mono (by omega)) nr_;clear hb1 e0 e1 HW HK HB;cases ho : okB sz m x
 ·have hno : Hid (orG firstS sz m x = none) := orG_no ho;clear ho;go_wp2;go_ret2;rw [hno.out];exact lsQ.no HB1.out
 ·have hok2 : OkG sz m x := by
   refine Classical.byContradiction fun h2 => ?_
   rw [okB_no h2] at ho; cases ho
  obtain ⟨_, es, vg0, _⟩ := hok2;subst es;have hn1 := vg0.n1;have hn7 := vg0.n7;have h128 := two_pow_le hn7;have hpos := Nat.two_pow_pos m;have Hok := hh_ ho;clear ho vg0;obtain ⟨W2, hW2⟩ : ∃ W2, W2 = w1.alloc (Obj.cells #[] 3) := ⟨_, rfl⟩;have hb2 : Below w1.heap.size w1 W2 := by rw [hW2]; exact br_.alloc nr_ _
  have z2 : w1.heap.size < W2.heap.size := by rw [hW2]; simp
  have hg : W2.heap[w1.heap.size]? = some (.cells #[] 3 (0, 0)) := by rw [hW2]; exact heap_alloc_new w1 _
  have b1 : w.heap.size < w1.heap.size := by omega
  have HW2 := hh_ hW2;have HG := hh_ hg;have HB2 := hh_ hb2;clear hW2 hg hb2;go_wp2_with fail
  rw [← HW2.out];clear HW2;refine (all_any m A c W2 hn7).mono ?_;rintro e w2 ⟨rfl, hb3⟩;have z3 := hb3.size;have b2 : w.heap.size < w2.heap.size := by omega
  have HB3 : Hid (Below w1.heap.size w1 w2) := HB2.trans (hb3.mono (by omega));have g0 := up HB3 f0 b1;have g1 := up HB3 f1 b1;have HO : Hid (Own w2 w1.heap.size (w1.heap.size + 1) 3 1 (some ⟨w1.heap.size, 0, none⟩) 0 0 (ni [])) :=
   .inr ⟨w1.heap.size, #[], rfl, nr_, Nat.lt_succ_self _, (hb3.block _ z2).trans HG, nr_, by unfold maxLen; omega, rfl, fun j hj => absurd hj (by omega)⟩
  have HK2 : Hid (Rd w2 B A m c x) := HK1.keep (HB3.mono (by omega)) nr_;have HB4 : Hid (Below w.heap.size w w2) := HB1.trans (HB3.mono (by omega));clear hb3 f0 f1 HG HB2 HK1 HB1;go_wp2;go_loopw [4] (fun l wr => ∃ (left : Nat) (T : List Nat) (g' c' : Nat), l = .slice (some ⟨g', 0, none⟩) T.length c' ∧ wr.cell? ⟨w2.heap.size, 0, none⟩ = some (.int .i64 left) ∧ wr.frozen? ⟨w2.heap.size, 0, none⟩ = false ∧ g' ≠ w2.heap.size ∧ g' < wr.heap.size ∧ w1.heap.size ≤ g' ∧ w2.heap.size < wr.heap.size ∧ T.length + left + 1 ≤ 2 ^ m ∧ Hid (Own wr g' (g' + 1) 3 1 (some ⟨g', 0, none⟩) T.length c' (ni T)) ∧ Hid (redL (firstS (rw_ x)) (2 ^ m - 1) = (redL (firstS (rw_ x)) left).map (T ++ ·)) ∧ Hid (Below w1.heap.size w2 wr)) (fun _ wr => match wr.cell? ⟨w2.heap.size, 0, none⟩ with | some v => (intOf v).toNat | none => 0);case atStart => exact ⟨2 ^ m - 1, [], w1.heap.size, 0, rfl, by simp [go_sem], by simp [go_sem], by omega, by simp; omega, nr_, by simp, by simp; omega, HO.alloc _, redL_start, br_.alloc (by omega) _⟩
  case round =>
   obtain ⟨left, T, g', c', rfl, l0, l1, d1, d2, d3, d4, hkl, HZ, HE, hbr⟩ := hrel;obtain ⟨k, hkT⟩ : ∃ k, k = T.length := ⟨_, rfl⟩;rw [← hkT] at hkl HZ ⊢;have HkT := hh_ hkT;clear hkT;have zr := hbr.size;have j0 := up hbr.out g0 b1;have j1 := up hbr.out g1 b1;by_cases hl0 : left = 0
   ·subst hl0;have hyes : Hid (orG firstS (m : Int) m x = some T) := orG_eq Hok.out (redL_end HE.out);have HON : Hid (ON w.heap.size wr (some ⟨g', 0, none⟩) c' T) := ⟨by rw [← HkT.out]; exact HZ.mono (by omega) (by omega)⟩;go_wp2;go_ret2;rw [hyes.out, HkT.out];exact lsQ.yes HON.out (HB4.trans (hbr.mono (by omega)))
   ·have hne : ((left : Int) != 0) = true := by simp; omega
    have Hl0 := hh_ hl0;clear hl0;go_wp2_with fail
    refine (ListOf_i left (by omega) wr).mono ?_;rintro e w3 ⟨A3, c3, rfl, hO3, hb3⟩;have z4 := hb3.size;have i0 := up hb3 l0 d4;have i1 := upf hb3 l1 d4;have i2 := up hb3 j0 (by omega);have i3 := up hb3 j1 (by omega);have HL3 : Hid (Rd w3 w3.heap.size A3 (listN left).length c3 (fun j => (((listN left).getD j 0 : Nat) : Int))) := hO3.rd;have HK3 : Hid (Rd w3 B A m c x) := (HK2.keep (hbr.mono (by omega)) nr_).keep (hb3.mono (by omega)) nr_;have HZ3 : Hid (Own w3 g' (g' + 1) 3 1 (some ⟨g', 0, none⟩) k c' (ni T)) := HZ.keepB hb3 (by omega);have HB5 : Hid (Below w1.heap.size w2 w3) := hbr.trans (hb3.mono (by omega));have hl7 := listN_len left;have HF : Hid (∀ (j : Nat) (hj : j < (listN left).length) (w' : World), Below w3.heap.size w3 w' → Calls Tryz.prog 170 #[.int .i64 ((listN left)[j] : Int), .pointer (some ⟨w.heap.size, 0, none⟩), .pointer (some ⟨w2.heap.size, 0, none⟩)] w' fun e w'' => e = .returned (.bool (cliq (rw_ x) (rw_ x ((listN left).getD j 0) &&& left))) ∧ Below w'.heap.size w' w'') := by
     intro j hj w' hb;have hv := listN_at hj;have hvm := bit_lt (by omega : left < 2 ^ m) hv.2;have e1 : (listN left).getD j 0 = (listN left)[j] := by simp [List.getD, hj]
     rw [e1];exact simp_i m A c x left _ _ _ w' B (HK3.keep (hb.mono (by omega)) nr_) (by have := hb.size; omega) Hok.out (by omega) hvm (up hb i2 (by omega)) (up hb i3 (by omega)) (up hb i0 (by omega))
    have HM := hh_ l0;clear hO3 hb3 hbr HZ l0 l1 j0 j1;go_wp2_with fail
    refine (IndexFunc_E A3 c3 (listN left) (fun j => cliq (rw_ x) (rw_ x ((listN left).getD j 0) &&& left)) w.heap.size w2.heap.size w3 w3.heap.size HL3.out nr_ hl7 HF).mono ?_;rintro e w4 ⟨rfl, hb4⟩;have z5 := hb4.size;have k0 := up hb4 i0 (by omega);have k1 := upf hb4 i1 (by omega);have HZ4 : Hid (Own w4 g' (g' + 1) 3 1 (some ⟨g', 0, none⟩) k c' (ni T)) := HZ3.keepB hb4 (by omega);have HB6 : Hid (Below w1.heap.size w2 w4) := HB5.trans (hb4.mono (by omega));clear hb4 i0 i1 i2 i3 HF HL3 HK3 HZ3 HB5;cases hf : firstS (rw_ x) left with
    | none =>
      have HI : Hid (fIdx (fun j => cliq (rw_ x) (rw_ x ((listN left).getD j 0) &&& left)) (listN left).length = -1) := fIdx_no fun j hj => by
       have := firstS_none' hf j hj;simpa [List.getD, hj] using this
      have hno : Hid (orG firstS (m : Int) m x = none) := orG_eq Hok.out (redL_stuck Hl0.out hf HE.out);rw [HI.out];clear hf HI;go_wp2;go_ret2;rw [hno.out];exact lsQ.no (HB4.trans (HB6.mono (by omega)))
    | some v =>
      obtain ⟨kk, hkk, hv, hy, hmin⟩ := firstS_place hf;have HI : Hid (fIdx (fun j => cliq (rw_ x) (rw_ x ((listN left).getD j 0) &&& left)) (listN left).length = kk) := fIdx_yes hkk (by simpa [List.getD, hkk, hv] using hy) (fun j hj => by
       have := hmin j hj;have hj2 : j < (listN left).length := by omega
       simpa [List.getD, hj2] using this)
      have hbit := firstS_bit hf;have HE2 : Hid (redL (firstS (rw_ x)) (2 ^ m - 1) = (redL (firstS (rw_ x)) (left ^^^ 2 ^ v)).map ((T ++ [v]) ++ ·)) := redL_step hbit.2 hf HE.out;have hlt := xor_bit_lt hbit.2;have hxs := xor_bit hbit.2;have Hv := hh_ hv;have Hbit := hh_ hbit.2;have hv7 := hbit.1;rw [HI.out];clear hf HI hy hmin hbit hv;have n1 : (0 : Int) ≤ kk := by omega
      have n2 : (kk : Int) < ((listN left).length : Int) := by omega
      go_wp2_with fail
      refine (ListOf_i left (by omega) w4).mono ?_;rintro e w5 ⟨A5, c5, rfl, hO5, hb5⟩;have z6 := hb5.size;obtain ⟨g5, rfl, _, hg5, _, hc5, _⟩ := hO5.at_ (by omega);have q0 : w5.cell? ⟨g5, kk, none⟩ = some (.int .i64 v) := (hc5 kk (by omega)).trans (by rw [ni_at hkk, Hv.out]);have m0 := up hb5 k0 (by omega);have m1 := upf hb5 k1 (by omega);have HZ5 : Hid (Own w5 g' (g' + 1) 3 1 (some ⟨g', 0, none⟩) k c' (ni T)) := HZ4.keepB hb5 (by omega);have HB7 : Hid (Below w1.heap.size w2 w5) := HB6.trans (hb5.mono (by omega));have E := i64_andNot_nat left (2 ^ v) (by omega) (by have := two_pow_le (n := v) (by omega); omega);have p1 := pow_shl v (by omega);have p2 : ((2 ^ v : Nat) : Int) = 2 ^ v := by simp
      rw [p2, hxs.1] at E;clear hb5 hO5 hc5 HB6 k0 k1 HZ4 p2;go_wp2;have hz := HZ5.out;have HP : Hid (Own ((w5.alloc (Obj.cells #[.int .i64 (v : Int)] 3)).drew) g' (g' + 1) 3 1 (some ⟨g', 0, none⟩) k c' (fun j => if j < k then ni T j else .int .i64 (v : Int))) := (hz.alloc _).congr (fun j hj => by rw [if_pos (by omega)]);have HXn : Hid (∀ i, i < 1 → (#[.int .i64 (v : Int)] : Array Value)[i]? = some ((fun j => if j < k then ni T j else Value.int .i64 (v : Int)) (k * 1 + i))) := by
       intro i hi;obtain rfl : i = 0 := by omega
       simp
      have M0 : Hid (((w5.alloc (Obj.cells #[.int .i64 (v : Int)] 3)).drew).cell? ⟨w2.heap.size, 0, none⟩ = some (.int .i64 left)) := (World.cell?_alloc_lt w5 _ ⟨w2.heap.size, 0, none⟩ (by show w2.heap.size < _; omega)).trans m0;have M3 : Hid (((w5.alloc (Obj.cells #[.int .i64 (v : Int)] 3)).drew).frozen? ⟨w2.heap.size, 0, none⟩ = false) := (World.frozen?_of_block (Below.heap_alloc w5 _ w2.heap.size (by omega))).trans m1;have M1 : Hid (w2.heap.size < ((w5.alloc (Obj.cells #[.int .i64 (v : Int)] 3)).drew).heap.size) := by show w2.heap.size < (w5.alloc _).heap.size; simp; omega
      have M2 : Hid (w2.heap.size < g' ∨ g' + 1 ≤ w2.heap.size) := by show _ ∨ _; omega
      have n5 : w2.heap.size < w5.heap.size := by omega
      go_region_law
       ((refine step_push _ (by rfl) _ _ _ (by rfl) 3 _ 1 8 Tryz.underlying24 info_int rfl (by omega) g' (g' + 1) (some ⟨g', 0, none⟩) k c' (fun j => if j < k then ni T j else .int .i64 (v : Int)) (by rfl) HP.out (by simp; omega) w5.heap.size #[.int .i64 (v : Int)] 3 (0, 0) 1 (heap_alloc_new w5 _) (by rfl) rfl HXn.out (by simp [Value.oneCell']) (by omega) (by omega) ?_; intro g6 cap w6 hp; have m2 := frZ hp.caged.2.2.2 M3.out M1.out M2.out; have m3 := frC hp.caged.2.2.2 M0.out M1.out M2.out))
      all_goals
       obtain ⟨hq1, hq2, hq3, hq4⟩ := hp.caged;have hq5 : Fr g' (g' + 1) w5 w6 := (((Fr.refl _ _ w5).alloc _).drew).trans hq4;have hq6 : g6 ≠ w2.heap.size ∧ w1.heap.size ≤ g6 := by
        rcases hq2 with h | h
        ·exact ⟨by omega, by omega⟩
        ·have h2 : g6 = w5.heap.size + 1 := by rw [h]; show (w5.alloc _).heap.size = _; simp
         exact ⟨by omega, by omega⟩
       have zz := hq5.size;have HF6 : Hid (Fr w2.heap.size (w2.heap.size + 1) w6 (w6.setCell ⟨w2.heap.size, 0, none⟩ (.int .i64 ((left ^^^ 2 ^ v : Nat) : Int)))) := (Fr.refl _ _ w6).setCell (p := ⟨w2.heap.size, 0, none⟩) nr_ (Nat.lt_succ_self _) _;have He9 : Hid ((T ++ [v]).length = k + 1) := by show _ = _; rw [HkT.out]; simp
       have HO6 : Hid (Own (w6.setCell ⟨w2.heap.size, 0, none⟩ (.int .i64 ((left ^^^ 2 ^ v : Nat) : Int))) g6 (g6 + 1) 3 1 (some ⟨g6, 0, none⟩) (T ++ [v]).length cap (ni (T ++ [v]))) := by
        rw [He9.out];exact (hq1.keep HF6.out (by omega)).congr (fun j hj => ni_snocL HkT.out (by omega))
       have HB8 : Hid (Below w1.heap.size w2 (w6.setCell ⟨w2.heap.size, 0, none⟩ (.int .i64 ((left ^^^ 2 ^ v : Nat) : Int)))) := (HB7.trans (hq5.below d3 (by omega))).setCell (p := ⟨w2.heap.size, 0, none⟩) (by show w1.heap.size ≤ w2.heap.size; omega) _;have y1 : g6 < (w6.setCell ⟨w2.heap.size, 0, none⟩ (.int .i64 ((left ^^^ 2 ^ v : Nat) : Int))).heap.size := Nat.lt_of_lt_of_le hq3 HF6.size;have y2 : w2.heap.size < (w6.setCell ⟨w2.heap.size, 0, none⟩ (.int .i64 ((left ^^^ 2 ^ v : Nat) : Int))).heap.size := Nat.lt_of_lt_of_le (by omega) HF6.size;obtain ⟨y3, y4⟩ := hq6;clear hp hq1 hq2 hq4 hq5 HP HXn M0 M1 M2 M3 hz q0 E m0 m1;go_wp2;go_roundw;case rel => exact ⟨left ^^^ 2 ^ v, T ++ [v], g6, cap, by rw [He9.out], by simp [go_sem, m3], by simp [go_sem, m2], y3, y1, y4, y2, by rw [He9.out]; omega, HO6, HE2, HB8⟩
       case measure => rw [HM.out]; simp [go_sem, m3, intOf]; omega
set_option maxHeartbeats 1000000
theorem red_elim {r : Nat → Nat} : ∀ (S : Nat), (redL (firstS r) S).isSome = elimB r S := by
 intro S;induction S using Nat.strongRecOn with
 | ind S ih =>
   by_cases h0 : S = 0
   ·subst h0; rw [redL_zero, elimB_zero]; rfl
   ·cases hf : firstS r S with
    | none => rw [redL_none h0 hf, elimB_none h0 hf]; rfl
    | some v =>
      have hb := (firstS_bit hf).2;rw [elimB_some hf, ← ih _ (xor_bit_lt hb), redL_some hb hf, Option.isSome_map]
theorem orG_chB {sz : Int} {m : Nat} {x : Nat → Int} : (orG firstS sz m x).isSome = chB sz m x := by
 unfold orG chB;cases h : okB sz m x
 ·rfl
 ·rw [if_pos rfl, red_elim]; rfl
theorem EliminationOf_ix (sz : Int) (A : Option Addr) (m c : Nat) (x : Nat → Int) (w : World) (B : Nat) (h : Rd w B A m c x) (hB : B ≤ w.heap.size) (hm : m ≤ 1048576) :
 Calls Tryz.prog 130 #[.agg #[.int .i64 sz, .slice A m c]] w fun e w' => ∃ A' n' c', e = .returned (.tuple #[.slice A' n' c', .bool (chB sz m x)]) ∧ Below w.heap.size w w' :=
 (EliminationOf_il sz A m c x w B h hB hm).mono fun e w' ⟨A', c', he, _, hb⟩ => ⟨A', _, c', by rw [← orG_chB]; exact he, hb⟩
theorem IsChordal_ix (sz : Int) (A : Option Addr) (m c : Nat) (x : Nat → Int) (w : World) (B : Nat) (h : Rd w B A m c x) (hB : B ≤ w.heap.size) (hm : m ≤ 1048576) :
 Calls Tryz.prog 82 #[.agg #[.int .i64 sz, .slice A m c]] w fun e w' => e = .returned (.bool (chB sz m x)) ∧ Below w.heap.size w w' := by
 obtain ⟨W, hW⟩ : ∃ W, W = (w.alloc (Obj.cells #[.int .i64 sz, .slice A m c] 26)) := ⟨_, rfl⟩;have HB : Hid (Below w.heap.size w W) := by rw [hW]; exact (br_.alloc nr_ _)
 have a0 : w.heap.size < W.heap.size := by rw [hW]; simp
 have HK := hh_ (h.keep (HB.mono hB) nr_);have HW := hh_ hW;clear hW h;go_enter Tryz.func82, Tryz.ntmps82;go_wp2_with fail
 rw [← HW.out];clear HW;refine (EliminationOf_ix sz A m c x W B HK (by omega) hm).mono ?_;rintro e w1 ⟨A', n', c', rfl, hb1⟩;have HB1 : Hid (Below w.heap.size w w1) := HB.trans (hb1.mono (by omega));clear hb1 HK HB;go_wp2;go_ret;exact ⟨rfl, HB1⟩
set_option maxHeartbeats 1000000
theorem EliminationOf_sx (sz : Int) (A : Option Addr) (m c : Nat) (x : Nat → Int) (w : World) (B : Nat) (h : Rd w B A m c x) (hB : B ≤ w.heap.size) (hm : m ≤ 1048576) :
 Calls Tryz.prog 83 #[.agg #[.int .i64 sz, .slice A m c]] w fun e w' => ∃ A' n' c', e = .returned (.tuple #[.slice A' n' c', .bool (chB sz m x)]) ∧ Below w.heap.size w w' :=
 (EliminationOf_sl sz A m c x w B h hB hm).mono fun e w' ⟨A', c', he, _, hb⟩ => ⟨A', _, c', by rw [← orG_chB]; exact he, hb⟩
theorem IsChordal_sx (sz : Int) (A : Option Addr) (m c : Nat) (x : Nat → Int) (w : World) (B : Nat) (h : Rd w B A m c x) (hB : B ≤ w.heap.size) (hm : m ≤ 1048576) :
 Calls Tryz.prog 29 #[.agg #[.int .i64 sz, .slice A m c]] w fun e w' => e = .returned (.bool (chB sz m x)) ∧ Below w.heap.size w w' := by
 obtain ⟨W, hW⟩ : ∃ W, W = (w.alloc (Obj.cells #[.int .i64 sz, .slice A m c] 26)) := ⟨_, rfl⟩;have HB : Hid (Below w.heap.size w W) := by rw [hW]; exact (br_.alloc nr_ _)
 have a0 : w.heap.size < W.heap.size := by rw [hW]; simp
 have HK := hh_ (h.keep (HB.mono hB) nr_);have HW := hh_ hW;clear hW h;go_enter Tryz.func29, Tryz.ntmps29;go_wp2_with fail
 rw [← HW.out];clear HW;refine (EliminationOf_sx sz A m c x W B HK (by omega) hm).mono ?_;rintro e w1 ⟨A', n', c', rfl, hb1⟩;have HB1 : Hid (Below w.heap.size w w1) := HB.trans (hb1.mono (by omega));clear hb1 HK HB;go_wp2;go_ret;exact ⟨rfl, HB1⟩
set_option maxHeartbeats 3200000
theorem and255 (x : Int) : ∃ v : Nat, v < 256 ∧ bits .and .i64 x 255 = (v : Int) := by
 refine ⟨(BitVec.ofInt 64 x &&& BitVec.ofInt 64 255).toNat, ?_, ?_⟩
 ·rw [BitVec.toNat_and];exact Nat.lt_of_le_of_lt Nat.and_le_right (by decide)
 ·have h : (BitVec.ofInt 64 x &&& BitVec.ofInt 64 255).toNat < 256 := by
   rw [BitVec.toNat_and];exact Nat.lt_of_le_of_lt Nat.and_le_right (by decide)
  show IntKind.i64.wrap ((BitVec.ofInt 64 x &&& BitVec.ofInt 64 255).toNat : Int) = _;rw [IntKind.wrap_i64];omega
def By (w : World) (B : Nat) (A : Option Addr) (n c : Nat) : Prop := n ≤ c ∧ (0 < n → ∃ b o, A = some ⟨b, o, none⟩ ∧ b < B ∧ ∀ j, j < n → ∃ u : Nat, u < 256 ∧ w.cell? ⟨b, o + j, none⟩ = some (.int .u8 u))
section
variable {w w' : World} {A : Option Addr} {B n c q : Nat}
theorem By.keep (h : By w B A n c) {B' : Nat} (hb : Below B w w') (hB : B ≤ B') : By w' B' A n c := by
 refine ⟨h.1, fun hn => ?_⟩;obtain ⟨b, o, rfl, hlt, hc⟩ := h.2 hn;exact ⟨b, o, rfl, by omega, fun j hj => (hc j hj).imp fun u hu => ⟨hu.1, up hb hu.2 hlt⟩⟩
theorem By.keepF (h : By w B A n c) {a b : Nat} (hf : Fr a b w w') (hB : B ≤ a) (hw : B ≤ w.heap.size) : By w' B A n c := h.keep (hf.below hB hw) nr_
structure Cu (w : World) (q : Nat) (A : Option Addr) (n c : Nat) : Prop where
 ex : ∃ (i : Nat) (h : Int), i ≤ n ∧ w.cell? ⟨q, 0, none⟩ = some (.slice A n c) ∧ w.cell? ⟨q, 1, none⟩ = some (.int .i64 i) ∧ w.cell? ⟨q, 2, none⟩ = some (.int .i64 h)
 f1 : w.frozen? ⟨q, 1, none⟩ = false
 f2 : w.frozen? ⟨q, 2, none⟩ = false
 by_ : By w q A n c
 le : n ≤ 1048576
theorem Cu.lt (h : Cu w q A n c) : q < w.heap.size := by
 obtain ⟨_, _, _, h0, _⟩ := h.ex;exact World.block_lt_of_cell? _ _ h0
theorem Cu.keepB {B : Nat} (h : Cu w q A n c) (hb : Below B w w') (hq : q < B) : Cu w' q A n c := by
 obtain ⟨i, k, hi, h0, h1, h2⟩ := h.ex;exact ⟨⟨i, k, hi, up hb h0 hq, up hb h1 hq, up hb h2 hq⟩, upf hb h.f1 hq, upf hb h.f2 hq, h.by_.keep (hb.mono (Nat.le_of_lt hq)) nr_, h.le⟩
theorem Cu.keep (h : Cu w q A n c) (hb : Below w.heap.size w w') : Cu w' q A n c := h.keepB hb h.lt
structure Dr (w : World) (q : Nat) (A : Option Addr) (n c : Nat) (w' : World) : Prop where
 cu : Cu w' q A n c
 fr : Fr q (q + 1) w w'
theorem Dr.trans {w2 : World} (h : Dr w q A n c w') (k : Dr w' q A n c w2) : Dr w q A n c w2 := ⟨k.cu, h.fr.trans k.fr⟩
theorem Dr.of (h : Cu w q A n c) (hb : Below w.heap.size w w') : Dr w q A n c w' := ⟨h.keep hb, Fr.of_below hb⟩
theorem Dr.up (h : Dr w q A n c w') {w2 : World} (hb : Below w'.heap.size w' w2) : Dr w q A n c w2 := h.trans (Dr.of h.cu hb)
theorem Cu.mk' {w W : World} {i : Nat} {h : Int} (hi : i ≤ n) (d0 : W.cell? ⟨q, 0, none⟩ = some (.slice A n c)) (d1 : W.cell? ⟨q, 1, none⟩ = some (.int .i64 i)) (d2 : W.cell? ⟨q, 2, none⟩ = some (.int .i64 h)) (d3 : W.frozen? ⟨q, 1, none⟩ = false) (d4 : W.frozen? ⟨q, 2, none⟩ = false) (hb : By w q A n c) (hq : q < w.heap.size) (hf : Fr q (q + 1) w W) (hn : n ≤ 1048576) : Dr w q A n c W :=
 ⟨⟨⟨i, h, hi, d0, d1, d2⟩, d3, d4, hb.keepF hf nr_ (Nat.le_of_lt hq), hn⟩, hf⟩
set_option maxRecDepth 100000 in
theorem l1Byte_s (hc : Cu w q A n c) :
 Calls Tryz.prog 112 #[.pointer (some ⟨q, 0, none⟩)] w fun e w' => ∃ v : Nat, e = .returned (.int .i64 v) ∧ v < 256 ∧ Dr w q A n c w' := by
 have HC := hh_ hc;obtain ⟨i, h, hi, c0, c1, c2⟩ := hc.ex;have f1 := hc.f1;have f2 := hc.f2;have hn := hc.le;have HBy := hh_ hc.by_;have hlt := hc.lt;obtain ⟨h2, hh2⟩ : ∃ h2, h2 = wrap64 (wrap64 (h * 6364136223846793005) + 1442695040888963407) := ⟨_, rfl⟩;obtain ⟨W1, hW1⟩ : ∃ W1, W1 = w.setCell ⟨q, 2, none⟩ (.int .i64 h2) := ⟨_, rfl⟩;have d0 : W1.cell? ⟨q, 0, none⟩ = some (.slice A n c) := by rw [hW1]; simp [go_sem, c0]
 have d1 : W1.cell? ⟨q, 1, none⟩ = some (.int .i64 i) := by rw [hW1]; simp [go_sem, c1]
 have d2 : W1.cell? ⟨q, 2, none⟩ = some (.int .i64 h2) := by rw [hW1]; simp [go_sem, c2]
 have d3 : W1.frozen? ⟨q, 1, none⟩ = false := by rw [hW1]; simp [go_sem, f1]
 have d4 : Hid (W1.frozen? ⟨q, 2, none⟩ = false) := by rw [hW1]; simp [go_sem, f2, Hid]
 have F1 : Hid (Fr q (q + 1) w W1) := by rw [hW1]; exact (Fr.refl _ _ w).setCell (p := ⟨q, 2, none⟩) nr_ (Nat.lt_succ_self _) _
 have Hh := hh_ hh2;have HW := hh_ hW1;clear hh2 hW1;by_cases hin : i < n
 ·obtain ⟨b, o, rfl, hbq, hcell⟩ := hc.by_.2 (by omega);obtain ⟨u, hu, pu⟩ := hcell i hin;have i1 : (i : Int) < n := by omega
  have p1 : W1.cell? ⟨b, o + i, none⟩ = some (.int .u8 u) := (F1.cell (p := ⟨b, o + i, none⟩) (by show b < _; omega) (.inl hbq)).trans pu;clear hc hcell pu;go_enter Tryz.func112, Tryz.ntmps112;go_wp2;rw [← Hh.out, ← HW.out];clear c0 c1 c2 f1 f2;go_quiet (fail)
  go_wp2;obtain ⟨v, hv, ev⟩ := and255 (bits .xor .i64 (h2 / 8589934592) (h2 / 35184372088832));rw [ev];clear ev;go_quiet (fail)
  go_wp2;go_quiet (fail)
  go_wp2;obtain ⟨v2, hv2, ev2⟩ := and255 ((v : Int) + (u : Int));rw [ev2];go_ret;refine ⟨v2, rfl, hv2, Cu.mk' (i := i + 1) (h := h2) (by omega) ?_ ?_ ?_ ?_ ?_ HBy.out hlt ((F1.drewN _).setCell (p := ⟨q, 1, none⟩) nr_ (Nat.lt_succ_self _) _) hn⟩
  ·simp [go_sem, d0]
  ·simp [go_sem, d1]
  ·simp [go_sem, d2]
  ·simp [go_sem, d3]
  ·simp [go_sem, d4.out]
 ·have i1 : (n : Int) ≤ i := by omega
  clear hc;go_enter Tryz.func112, Tryz.ntmps112;go_wp2;rw [← Hh.out, ← HW.out];clear c0 c1 c2 f1 f2;go_quiet (fail)
  go_wp2;obtain ⟨v, hv, ev⟩ := and255 (bits .xor .i64 (h2 / 8589934592) (h2 / 35184372088832));rw [ev];clear ev;go_quiet (fail)
  go_wp2;go_ret;exact ⟨v, rfl, hv, Cu.mk' (i := i) (h := h2) hi d0 d1 d2 d3 d4.out HBy.out hlt ((F1.drewN _).drewN _) hn⟩
set_option maxRecDepth 100000 in
theorem l1Below_s (hc : Cu w q A n c) {k : Nat} (hk : 0 < k) (hk2 : k ≤ 256) :
 Calls Tryz.prog 68 #[.pointer (some ⟨q, 0, none⟩), .int .i64 k] w fun e w' => ∃ v : Nat, e = .returned (.int .i64 v) ∧ v < k ∧ Dr w q A n c w' := by
 have K := hh_ (l1Byte_s hc);have i1 : ¬ ((k : Int) ≤ 0) := by omega
 have i2 : (0 : Int) < k := by omega
 have i3 : (k : Int) ≤ 256 := by omega
 clear hc;go_enter Tryz.func68, Tryz.ntmps68;go_wp2_with fail
 refine K.mono ?_;rintro e w1 ⟨v, rfl, hv, hd⟩;have HD := hh_ hd;clear hd K;go_wp2;go_ret;exact ⟨v % k, by simp, Nat.mod_lt _ hk, HD.out⟩
theorem l1Once_s (hc : Cu w q A n c) {k : Nat} (hk : 0 < k) (hk2 : k ≤ 256) :
 Calls Tryz.prog 67 #[.pointer (some ⟨q, 0, none⟩), .int .i64 k] w fun e w' => ∃ b : Bool, e = .returned (.bool b) ∧ Dr w q A n c w' := by
 have K := hh_ (l1Below_s hc hk hk2);clear hc;go_enter Tryz.func67, Tryz.ntmps67;go_wp2_with fail
 refine K.mono ?_;rintro e w1 ⟨v, rfl, hv, hd⟩;have HD := hh_ hd;clear hd K;by_cases h0 : v = 0
 ·subst h0;go_wp2;go_ret;exact ⟨true, rfl, HD.out⟩
 ·have i1 : ((v : Int) == 0) = false := by simp; omega
  go_wp2;go_ret;exact ⟨false, rfl, HD.out⟩
structure LC (w : World) (g m : Nat) : Prop where
 at_ : ∀ j, j < m → ∃ z : Int, w.cell? ⟨g, j, none⟩ = some (.int .i64 z)
theorem LC.keep {g m a b : Nat} (h : LC w g m) (hg : g < w.heap.size) (hf : Fr a b w w') (ho : g < a ∨ b ≤ g) : LC w' g m := ⟨fun j hj => (h.at_ j hj).imp fun _ hz => (hf.cell (p := ⟨g, j, none⟩) hg ho).trans hz⟩
set_option maxRecDepth 100000 in
theorem l1PickInt_s (hc : Cu w q A n c) {g m k : Nat} (hl : LC w g m) (hg : q < g) (hgw : g < w.heap.size) (hm : 0 < m) (hm2 : m ≤ 256) :
 Calls Tryz.prog 114 #[.pointer (some ⟨q, 0, none⟩), .slice (some ⟨g, 0, none⟩) m k] w fun e w' => ∃ z : Int, e = .returned (.int .i64 z) ∧ Dr w q A n c w' := by
 have K := hh_ (l1Below_s hc hm hm2);have HL := hh_ hl;clear hc hl;go_enter Tryz.func114, Tryz.ntmps114;go_wp2_with fail
 refine K.mono ?_;rintro e w1 ⟨v, rfl, hv, hd⟩;have HD := hh_ hd;obtain ⟨z, hz⟩ := (HL.keep hgw hd.fr (.inr (by omega))).at_ v hv;have i1 : (v : Int) < m := by omega
 clear hd K;go_wp2;go_ret;exact ⟨z, rfl, HD.out⟩
structure LT (w : World) (g m : Nat) (P : ByteArray → Prop) : Prop where
 at_ : ∀ j, j < m → ∃ t : ByteArray, P t ∧ w.cell? ⟨g, j, none⟩ = some (.string t)
theorem LT.keep {g m a b : Nat} {P : ByteArray → Prop} (h : LT w g m P) (hg : g < w.heap.size) (hf : Fr a b w w') (ho : g < a ∨ b ≤ g) : LT w' g m P := ⟨fun j hj => (h.at_ j hj).imp fun _ hz => ⟨hz.1, (hf.cell (p := ⟨g, j, none⟩) hg ho).trans hz.2⟩⟩
set_option maxRecDepth 100000 in
theorem l1Pick_s (hc : Cu w q A n c) {g m k : Nat} {P : ByteArray → Prop} (hl : LT w g m P) (hg : q < g) (hgw : g < w.heap.size) (hm : 0 < m) (hm2 : m ≤ 256) :
 Calls Tryz.prog 149 #[.pointer (some ⟨q, 0, none⟩), .slice (some ⟨g, 0, none⟩) m k] w fun e w' => ∃ t : ByteArray, e = .returned (.string t) ∧ P t ∧ Dr w q A n c w' := by
 have K := hh_ (l1Below_s hc hm hm2);have HL := hh_ hl;clear hc hl;go_enter Tryz.func149, Tryz.ntmps149;go_wp2_with fail
 refine K.mono ?_;rintro e w1 ⟨v, rfl, hv, hd⟩;have HD := hh_ hd;obtain ⟨z, hp, hz⟩ := (HL.keep hgw hd.fr (.inr (by omega))).at_ v hv;have HP := hh_ hp;have i1 : (v : Int) < m := by omega
 clear hd K hp;go_wp2;go_ret;exact ⟨z, rfl, HP.out, HD.out⟩
end
end Go.Proofs.YticadlkcjhglnaaGreat
