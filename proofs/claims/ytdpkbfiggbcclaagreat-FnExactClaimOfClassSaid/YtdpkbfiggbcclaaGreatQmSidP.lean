/-
  Several texts in one.
-/
import Derived.Test.YtdpkbfiggbcclaaGreatQmUmbS
import Derived.Test.YtdpkbfiggbcclaaGreatQmThjP
import Derived.Test.YtdpkbfiggbcclaaGreatQmListZ
import Derived.Test.YtdpkbfiggbcclaaGreatQmGB
import Derived.Test.YtdpkbfiggbcclaaGreatQmClaim
import Derived.Test.YtdpkbfiggbcclaaGreatQmJoinI
/-
-/
namespace Go.Proofs.YtdpkbfiggbcclaaGreat
open Go.RowKit
theorem l1In_b {n lo hi : Int} (w : World) {b : Bool} (h : decide (lo ≤ n ∧ n ≤ hi) = b) : Calls Tryz.prog 191 #[.int .i64 n, .int .i64 lo, .int .i64 hi] w fun e w' => e = .returned (.bool b) ∧ Below w.heap.size w w' :=
 (l1In_any n lo hi w).mono fun _ _ ⟨h1, h2⟩ => ⟨by rw [h1, ← h]; simp, h2 ▸ br_⟩
set_option maxHeartbeats 6400000
set_option maxRecDepth 100000 in
theorem ComplementOf_i (sz : Int) (A : Option Addr) (m c : Nat) (x : Nat → Int) (w : World) (h : GA w A m c x) (hm : m ≤ 1048576) :
 Calls Tryz.prog 335 #[.agg #[.int .i64 sz, .slice A m c]] w fun e w' => ∃ sz' A' m' c', e = .returned (.tuple #[.agg #[.int .i64 sz', .slice A' m' c'], .bool (okB sz m x)]) ∧ (okB sz m x = true → sz' = (m : Int) ∧ m' = m ∧ GV w' A' m c' (coR (rw_ x) m)) ∧ Below w.heap.size w w' := by
 obtain ⟨W, hW⟩ : ∃ W, W = ((w.alloc (Obj.cells #[.int .i64 sz, .slice A m c] 28)).alloc (Obj.cells #[.int .i64 0, .slice none 0 0] 28)) := ⟨_, rfl⟩;have HB : Hid (From w W) := by rw [hW]; exact (From.alloc _ _).alloc_ _
 have HZ : Hid (w.heap.size + 2 = W.heap.size) := by rw [hW]; simp [Hid]
 have HS : Hid (From W W) := From.refl W;have HK := hh_ (h.keep HB.below);have HC : Hid (GC W w.heap.size sz A m c) := by rw [hW]; exact (GC.new _ _ _ _ _).keep (br_.alloc nr_ _)
 have HD : Hid (GC W (w.heap.size + 1) 0 none 0 0) := by rw [hW]; constructor <;> simp [go_sem]
 have HW := hh_ hW;clear hW h;go_enter Tryz.func335, Tryz.ntmps335;obtain ⟨e0, e1⟩ := gc_ HC;have d0 := HD.c0;have d1 := HD.c1;have d2 := HD.f0;have d3 := HD.f1;go_wp2_with fail
 rw [← HW.out];refine (IsGraph_any sz A m c x W W.heap.size HK.rd nr_ hm).mono ?_;rintro e w1 ⟨rfl, hb1⟩;clear HW;clear e0 e1 d0 d1 d2 d3;replace HB := hh_ (HB.keep hb1);replace HS := hh_ (HS.keep hb1);replace HK := hh_ (HK.keep hb1);replace HC := hh_ (HC.keep hb1);replace HD := hh_ (HD.keep hb1);clear hb1;obtain ⟨e0, e1⟩ := gc_ HC;have d0 := HD.c0;have d1 := HD.c1;have d2 := HD.f0;have d3 := HD.f1;cases ho : okB sz m x
 ·have Ho := hh_ ho;clear ho;go_wp2;have HE := (HB.set (q := w.heap.size + 1) (by omega) (.int .i64 0) (.slice none 0 0)).below;exact bodyPost_ret (v := .tuple #[.agg #[.int .i64 0, .slice none 0 0], .bool false]) (by simp [results, Tryz.results335, go_sem, *]) rfl ⟨0, none, 0, 0, by rw [Ho.out], (fun h => by rw [Ho.out] at h; cases h), HE⟩
 ·obtain ⟨_, es, vg0, _⟩ := okB_ok' ho;subst es;have hn1 := vg0.n1;have hn7 := vg0.n7;have HX := hh_ (okB_vg ho).2;have HG : Hid (GV w1 A m c (rw_ x)) := HK.gv ho;have Ho := hh_ ho;obtain ⟨b, o, rfl⟩ := HG.addr;have hbl := HG.bl;have hY0 : w.heap.size + 2 ≤ w1.heap.size := by have := HS.below.size; have := HZ.out; omega
  clear ho vg0;go_wp2_with fail
  refine (copyGraph_any (m : Int) (some ⟨b, o, none⟩) m c x w1 w1.heap.size HK.rd nr_ hm).mono ?_;rintro e w2 ⟨A', c', rfl, hO, hb2⟩;clear e0 e1 d0 d1 d2 d3;replace HB := hh_ (HB.keep hb2);replace HS := hh_ (HS.keep hb2);replace HK := hh_ (HK.keep hb2);replace HG := hh_ (HG.keep hb2);replace HC := hh_ (HC.keep hb2);replace HD := hh_ (HD.keep hb2);clear hb2;obtain ⟨e0, e1⟩ := gc_ HC;have d0 := HD.c0;have d1 := HD.c1;have d2 := HD.f0;have d3 := HD.f1;obtain ⟨g, rfl, hg1, hg2, hOc⟩ := hO.only (by omega);have HOg : Hid (Own w2 g (g + 1) 3 1 (some ⟨g, 0, none⟩) m c' (fun j => .int .i64 (rw_ x j : Nat))) := hOc.congr (fun j hj => by rw [HX.out j (by omega)]);obtain ⟨W2, hW2⟩ : ∃ W2, W2 = (w2.alloc (Obj.cells #[.int .i64 (m : Int), Value.slice (some ⟨g, 0, none⟩) m c'] 28)) := ⟨_, rfl⟩;have hb2 : Below w2.heap.size w2 W2 := by rw [hW2]; exact br_.alloc nr_ _
  have HQ : Hid (GC W2 w2.heap.size m (some ⟨g, 0, none⟩) m c') := by rw [hW2]; exact GC.new _ _ _ _ _
  have hz2 : w2.heap.size + 1 = W2.heap.size := by rw [hW2]; simp
  have HC2 := hh_ (HC.keep hb2);have HD2 := hh_ (HD.keep hb2);have HG2 := hh_ (HG.keep hb2);have HB2 := hh_ (HB.keep hb2);have HO2 : Hid (Own W2 g (g + 1) 3 1 (some ⟨g, 0, none⟩) m c' (fun j => .int .i64 (rw_ x j : Nat))) := HOg.keepB hb2 (by omega);have HW2 := hh_ hW2;clear hW2 hb2 hOc hO HOg;go_wp2_with fail
  rw [← HW2.out];clear HW2;go_loopw [15] (fun k wr => ∃ (K : Nat), K ≤ m ∧ k = .int .i64 K ∧ Hid (Own wr g (g + 1) 3 1 (some ⟨g, 0, none⟩) m c' (fun j => .int .i64 ((if j < K then coR (rw_ x) m j else rw_ x j : Nat) : Int))) ∧ Hid (Fr g (g + 1) W2 wr)) (fun k _ => m - (intOf k).toNat);case atStart => exact ⟨0, Nat.zero_le _, rfl, HO2.congr (fun j hj => by rw [if_neg (by omega)]), Fr.refl _ _ _⟩
  case round =>
   obtain ⟨K, hK, rfl, HOr, HFr⟩ := hrel;have HCr := hh_ (HC2.keepF HFr.out (.inl (by omega)));have HQr := hh_ (HQ.keepF HFr.out (.inr (by omega)));have e0 := HCr.c0;have e1 := HCr.c1;have g0 := HQr.c0;have g1 := HQr.c1;have zr := HFr.size;by_cases hlt : K < m
   ·have q0 := frC_ HFr.out (HG2.row hlt) HG2.bl (.inl (by omega));have hr := HG2.vg.lt128 hlt;obtain ⟨g', e9, _, _, hg3, hcg, hfg⟩ := HOr.at_ (by omega);simp only [Option.some.injEq, Addr.mk.injEq, and_true] at e9;subst e9;have cg := hcg K (by omega);have fg := hfg K;rw [if_neg (by omega)] at cg;obtain ⟨y, hy⟩ : ∃ y, y = rw_ x K := ⟨_, rfl⟩;obtain ⟨M, hM⟩ : ∃ M, M = 2 ^ m - 1 := ⟨_, rfl⟩;have h128 := two_pow_le hn7;have hco : (M ^^^ (M &&& y)) ^^^ ((M ^^^ (M &&& y)) &&& 2 ^ K) = coR (rw_ x) m K := by
     rw [hM, hy, coR_and, full_and (or_pow_lt HG2.vg hlt)];rfl
    rw [← hy] at q0 cg hr;have hMl : M < 128 := by omega
    have c2 : ((2 ^ K : Nat) : Int) = 2 ^ K := by simp
    have hx1 : M ^^^ (M &&& y) < 128 := Nat.xor_lt_two_pow (n := 7) (by omega) (Nat.and_lt_two_pow _ (by omega));have hK7 := two_pow_le (n := K) (by omega);have E1 := i64_andNot_nat M y (by omega) (by omega);have E2 := i64_andNot_nat (M ^^^ (M &&& y)) (2 ^ K) (by omega) (by omega);rw [c2, hco] at E2;have p2 := pow_shl K (by omega);have KA : Hid (∀ z : World, Calls Tryz.prog 185 #[.agg #[.int .i64 (m : Int), .slice (some ⟨b, o, none⟩) m c]] z fun e w' => e = .returned (.int .i64 (M : Int)) ∧ Below z.heap.size z w') := fun z => by rw [hM]; exact all_any m _ c z hn7
    have i1 : (K : Int) < m := by omega
    obtain ⟨v, hv⟩ : ∃ v, v = coR (rw_ x) m K := ⟨_, rfl⟩;rw [← hv] at E2;have Hv := hh_ hv;have HSC : Hid (∀ z : World, Below wr.heap.size wr z → (Below wr.heap.size wr z ∧ z.cell? ⟨w.heap.size, 0, none⟩ = some (.int .i64 (m : Int)) ∧ z.cell? ⟨w.heap.size, 1, none⟩ = some (.slice (some ⟨b, o, none⟩) m c) ∧ z.cell? ⟨w2.heap.size, 1, none⟩ = some (.slice (some ⟨g, 0, none⟩) m c') ∧ z.cell? ⟨b, o + K, none⟩ = some (.int .i64 (y : Int)))) := fun z hz => ⟨hz, up_ hz e0, up_ hz e1, up_ hz g1, up_ hz q0⟩
    have HSS : Hid (∀ (z : World) (u : Value), Below wr.heap.size wr z → (z.setCell ⟨g, K, none⟩ u).cell? ⟨w.heap.size, 0, none⟩ = some (.int .i64 (m : Int)) ∧ (z.setCell ⟨g, K, none⟩ u).cell? ⟨w.heap.size, 1, none⟩ = some (.slice (some ⟨b, o, none⟩) m c) ∧ (z.setCell ⟨g, K, none⟩ u).cell? ⟨w2.heap.size, 1, none⟩ = some (.slice (some ⟨g, 0, none⟩) m c') ∧ (z.setCell ⟨g, K, none⟩ u).cell? ⟨b, o + K, none⟩ = some (.int .i64 (y : Int))) := fun z u hz => by
     have F := (Fr.refl g (g + 1) z).setCell (p := ⟨g, K, none⟩) nr_ (Nat.lt_succ_self _) u;obtain ⟨_, h1, h2, h3, h4⟩ := HSC.out z hz;exact ⟨frC_ F h1 (World.block_lt_of_cell? _ _ h1) (.inl (by omega)), frC_ F h2 (World.block_lt_of_cell? _ _ h2) (.inl (by omega)), frC_ F h3 (World.block_lt_of_cell? _ _ h3) (.inr (by omega)), frC_ F h4 (World.block_lt_of_cell? _ _ h4) (.inl (by omega))⟩
    have HZ0 : Hid (Below wr.heap.size wr wr.drew) := br_.drew;have HS1 := hh_ (HSC.out _ HZ0.out).2;clear hcg hfg hy hM hco hr hMl c2 hx1 hK7 h128 hv;go_wp2;go_region_held3 (fun z => z.cell? ⟨w.heap.size, 0, none⟩ = some (.int .i64 (m : Int)) ∧ z.cell? ⟨w.heap.size, 1, none⟩ = some (.slice (some ⟨b, o, none⟩) m c) ∧ z.cell? ⟨w2.heap.size, 1, none⟩ = some (.slice (some ⟨g, 0, none⟩) m c') ∧ z.cell? ⟨b, o + K, none⟩ = some (.int .i64 (y : Int)))
     (first | exact HS1.out | assumption | exact HSS.out _ _ hz5 | exact (HSC.out _ hz5).2 | fail)
     (first | (go_at_call 185; ((with_reducible refine (KA.out _).mono ?_); rintro e w5 ⟨rfl, hb5⟩; have hz5 := bl_trans HZ0.out hb5; have c5 := up_ hz5 cg; have f5 := upf hz5 fg hg3)))
    all_goals
     obtain ⟨W7, hW7⟩ : ∃ W7, W7 = (w5.setCell ⟨g, K, none⟩ (.int .i64 (v : Int))) := ⟨_, rfl⟩;rw [← hW7];have HF7 : Hid (Fr g (g + 1) W2 W7) := by rw [hW7]; exact (HFr.trans (Fr.of_below hz5)).setCell (p := ⟨g, K, none⟩) nr_ (Nat.lt_succ_self _) _
     have HO7 : Hid (Own W7 g (g + 1) 3 1 (some ⟨g, 0, none⟩) m c' (fun j => .int .i64 ((if j < K + 1 then coR (rw_ x) m j else rw_ x j : Nat) : Int))) := by
      rw [hW7];refine ((HOr.keepB hz5 (by omega)).set_ K _).congr (fun j hj => ?_);by_cases h1 : j = K
      ·subst h1; rw [if_pos rfl, if_pos (by omega), Hv.out]
      ·rw [if_neg h1];by_cases h2 : j < K
       ·rw [if_pos h2, if_pos (by omega)]
       ·rw [if_neg h2, if_neg (by omega)]
     clear hW7 hz5 hb5 c5 f5 HSC HSS HZ0 HS1 KA E1 E2 p2;go_wp2;go_roundw;case rel => exact ⟨K + 1, by omega, by go_num, HO7, HF7⟩
     case measure => (simp [intOf] <;> omega)
   ·obtain rfl : m = K := by omega
    have i1 : (m : Int) ≤ m := Int.le_refl _;have HDr := hh_ (HD2.keepF HFr.out (.inl (by omega)));have d0 := HDr.c0;have d1 := HDr.c1;have d2 := HDr.f0;have d3 := HDr.f1;go_wp2;have F := fr2 wr (w.heap.size + 1) (.int .i64 (m : Int)) (.slice (some ⟨g, 0, none⟩) m c');have F2 := F.size;have O1 := ((HOr.keep F (.inr (by omega))).congr (y := fun j => .int .i64 (coR (rw_ x) m j : Nat)) (fun j hj => by rw [if_pos (by omega)])).mono nr_ (Nat.le_trans (by omega) F2);have HE := ((⟨HB2.below.trans (HFr.below (B := w.heap.size) (by omega) (by omega))⟩ : From w wr).set (q := w.heap.size + 1) (by omega) (.int .i64 (m : Int)) (.slice (some ⟨g, 0, none⟩) m c')).below;exact bodyPost_ret (v := .tuple #[.agg #[.int .i64 (m : Int), .slice (some ⟨g, 0, none⟩) m c'], .bool true]) (by simp [results, Tryz.results335, go_sem, *]) rfl ⟨m, some ⟨g, 0, none⟩, m, c', by rw [Ho.out], (fun _ => ⟨rfl, rfl, ⟨coR_vg HG2.vg, O1.rd⟩⟩), HE⟩
section
variable {A : Option Addr} {m c : Nat} {r : Nat → Nat}
theorem ComplementOf_v {w : World} (h : GV w A m c r) :
 Calls Tryz.prog 335 #[.agg #[.int .i64 m, .slice A m c]] w fun e w' => ∃ A' c', e = .returned (.tuple #[.agg #[.int .i64 m, .slice A' m c'], .bool true]) ∧ GV w' A' m c' (coR r m) ∧ Below w.heap.size w w' := by
 have hk := ComplementOf_i (m : Int) A m c _ w ⟨h.rd⟩ (by have := h.vg.n7; omega);rw [h.ok] at hk;refine hk.mono ?_;rintro e w' ⟨sz', A', m', c', rfl, h2, h3⟩;obtain ⟨rfl, rfl, h4⟩ := h2 rfl;rw [rw_cast] at h4;exact ⟨A', c', rfl, h4, h3⟩
theorem made_own (w : World) (n : Nat) (hn : n ≤ 1048576) : ∃ W : World, (Instr.makeSlice 22 (.int .i64 (n : Int)) (.int .i64 (n : Int))).run Tryz.prog w = .ok (.slice (some ⟨w.heap.size, 0, none⟩) n n) W ∧ Own W w.heap.size (w.heap.size + 1) 3 1 (some ⟨w.heap.size, 0, none⟩) n n (fun _ => .int .i64 0) ∧ Below w.heap.size w W := by
 refine ⟨_, run_make_row' (P := Tryz.prog) 22 3 (.int .i64 0) 8 Tryz.underlying22 info_int rfl .i64 .i64 n (by omega) (by omega) w, ?_, br_.alloc nr_ _⟩;obtain ⟨cc, q1, q2, q3⟩ := World.rowIs_made w (.int .i64 0) n 3;exact .inr ⟨_, cc, rfl, nr_, Nat.lt_succ_self _, q1, nr_, by unfold maxLen; omega, by omega, fun j hj => by rw [q3 j (by omega)]⟩
end
def bmK (P : Nat → Bool) : Nat → Nat
 | 0 => 0
 | n + 1 => if P n = true then bmK P n ||| 2 ^ n else bmK P n
theorem bmK_bit {P : Nat → Bool} {i : Nat} : ∀ n, (bmK P n).testBit i = (decide (i < n) && P i) := by
 intro n;induction n with
 | zero => simp [bmK]
 | succ n ih =>
   rw [bmK];by_cases h : P n = true
   ·rw [if_pos h, Nat.testBit_or, ih, Nat.testBit_two_pow];by_cases e : n = i
    ·subst e; simp [h]
    ·by_cases e2 : i < n
     ·simp [e, e2, show i < n + 1 by omega]
     ·simp [e, e2, show ¬ i < n + 1 by omega]
   ·rw [if_neg h, ih];by_cases e : i = n
    ·subst e; simp [h]
    ·by_cases e2 : i < n
     ·simp [e2, show i < n + 1 by omega]
     ·simp [e2, show ¬ i < n + 1 by omega]
theorem bmK_lt {P : Nat → Bool} : ∀ n, bmK P n < 2 ^ n := by
 intro n;induction n with
 | zero => exact Nat.one_pos
 | succ n ih =>
   have h1 : 2 ^ n < 2 ^ (n + 1) := Nat.pow_lt_pow_right (by omega) (Nat.lt_succ_self _);rw [bmK];split
   ·exact Nat.or_lt_two_pow (by omega) h1
   ·omega
section
variable {m : Nat} {r : Nat → Nat}
def cmp (r : Nat → Nat) (m v : Nat) : Nat := part r (2 ^ m - 1) (2 ^ v)
theorem full_bit {u : Nat} : (2 ^ m - 1).testBit u = decide (u < m) := Nat.testBit_two_pow_sub_one m u
theorem pow_subS {s v : Nat} (h : s.testBit v = true) : Sub (2 ^ v) s := fun u hu => by
 rw [Nat.testBit_two_pow] at hu
 have : v = u := by simpa using hu
 rw [← this]; exact h
theorem pow_ne (v : Nat) : 2 ^ v ≠ 0 := by have := Nat.two_pow_pos v; omega
theorem stp_mono {set s t : Nat} (h : Sub s t) : Sub (stp r set s) (stp r set t) := fun u hu => by
 have h1 := stp_bit.1 hu
 exact stp_bit.2 ⟨h1.1.imp (h u) (nb_mono h u), h1.2⟩
theorem gro_in {set s t : Nat} (h : Sub s t) (hc : Sub (stp r set t) t) : ∀ k, Sub (gro r set s k) t := by
 intro k;induction k with
 | zero => exact h
 | succ k ih => exact (stp_mono ih).trans hc
theorem full_sub_of {v : Nat} (hv : v < m) : Sub (2 ^ v) (2 ^ m - 1) := pow_subS (by rw [full_bit]; simpa using hv)
theorem cmp_fix (vg : VG m r) {v : Nat} (hv : v < m) : stp r (2 ^ m - 1) (cmp r m v) = cmp r m v :=
 gro_stop (n := 7) (by omega) (by have := two_pow_le vg.n7; omega) (full_sub_of hv) (pow_ne v)
theorem cmp_self {v : Nat} (hv : v < m) : (cmp r m v).testBit v = true := gro_from (full_sub_of hv) 7 v (by simp)
theorem cmp_sub {v : Nat} (hv : v < m) : Sub (cmp r m v) (2 ^ m - 1) := gro_sub (full_sub_of hv) 7
theorem cmp_lt {v : Nat} (hv : v < m) : cmp r m v < 2 ^ m := sub_lt (cmp_sub hv) (by have := Nat.two_pow_pos m; omega)
theorem cmp_bit {v u : Nat} (hv : v < m) (h : (cmp r m v).testBit u = true) : u < m := bit_lt (cmp_lt hv) h
theorem cmp_in (vg : VG m r) {u v : Nat} (hu : u < m) (h : (cmp r m u).testBit v = true) : Sub (cmp r m v) (cmp r m u) :=
 gro_in (pow_subS h) (by rw [cmp_fix vg hu]; exact fun _ h => h) 7
theorem cmp_eq (vg : VG m r) {u v : Nat} (hu : u < m) (h : (cmp r m u).testBit v = true) : cmp r m u = cmp r m v := by
 have hv := cmp_bit hu h;have hn7 := vg.n7;refine Sub.antisymm ?_ (cmp_in vg hu h);cases hb : (cmp r m v).testBit u
 ·exfalso;have hE : Sub (stp r (2 ^ m - 1) ((2 ^ m - 1) ^^^ cmp r m v)) ((2 ^ m - 1) ^^^ cmp r m v) := by
   intro x hx;have h1 := stp_bit.1 hx;have hxm : x < m := by have := h1.2; rw [full_bit] at this; simpa using this
   rw [Nat.testBit_xor, full_bit, decide_eq_true hxm];cases hxd : (cmp r m v).testBit x
   ·rfl
   ·exfalso;rcases h1.1 with h2 | h2
    ·rw [Nat.testBit_xor, full_bit, decide_eq_true hxm, hxd] at h2; cases h2
    ·obtain ⟨y, hy7, hy, hyx⟩ := nb_bit.1 h2;rw [Nat.testBit_xor, full_bit] at hy;have hym : y < m := by
      by_cases e : y < m
      ·exact e
      ·rw [decide_eq_false e] at hy;have : (cmp r m v).testBit y = true := by simpa using hy
       exact cmp_bit hv this
     rw [decide_eq_true hym] at hy;have hyd : (cmp r m v).testBit y = false := by simpa using hy
     have : (stp r (2 ^ m - 1) (cmp r m v)).testBit y = true := stp_bit.2 ⟨.inr (nb_bit.2 ⟨x, by omega, hxd, by rw [vg.sym x y hxm hym]; exact hyx⟩), by rw [full_bit]; simpa using hym⟩;rw [cmp_fix vg hv, hyd] at this;cases this
  have hin := gro_in (r := r) (set := 2 ^ m - 1) (s := 2 ^ u) (t := (2 ^ m - 1) ^^^ cmp r m v) (pow_subS (by rw [Nat.testBit_xor, full_bit, decide_eq_true hu, hb]; rfl)) hE 7 v h;rw [Nat.testBit_xor, full_bit, decide_eq_true hv, cmp_self hv] at hin;cases hin
 ·exact cmp_in vg hv hb
theorem part_cmp (vg : VG m r) {left : Nat} (hl : left < 2 ^ m) (hcl : Sub (stp r (2 ^ m - 1) left) left) (h0 : left ≠ 0) {v : Nat} (hv : (part r left (low left)).testBit v = true) : part r left (low left) = cmp r m v := by
 have h128 := two_pow_le vg.n7;have hlf : Sub left (2 ^ m - 1) := fun u hu => by rw [full_bit]; simpa using bit_lt hl hu
 have hlow := low_sub (by omega : left < 128) h0;obtain ⟨u, l, e, hu7, hub⟩ := list_ne (by omega : left < 128) h0;have hum := bit_lt hl hub;have he : part r left (low left) = cmp r m u := by
  unfold part cmp part;rw [← gro_left hcl hlf hlow.1 7, low_of e]
 rw [he] at hv ⊢;exact cmp_eq vg hum hv
def fstN (s : Nat) : Nat := (listN s).getD 0 0
def dsO (r : Nat → Nat) (m v w : Nat) : Option Nat := (List.range m).find? fun n => (gro r (2 ^ m - 1) (2 ^ v) n).testBit w
def dsI (r : Nat → Nat) (m v w : Nat) : Int := optI (dsO r m v w)
theorem dsI_yes {v w n : Nat} (hn : n < m) (h : (gro r (2 ^ m - 1) (2 ^ v) n).testBit w = true) (hmin : ∀ j, j < n → (gro r (2 ^ m - 1) (2 ^ v) j).testBit w = false) : dsI r m v w = n := by
 have : dsO r m v w = some n := by
  unfold dsO;rw [List.find?_range_eq_some];exact ⟨h, by simp [hn], fun j hj => by simp [hmin j hj]⟩
 unfold dsI; rw [this]; rfl
theorem dsI_no {v w : Nat} (h : ∀ j, j < m → (gro r (2 ^ m - 1) (2 ^ v) j).testBit w = false) : dsI r m v w = -1 := by
 have : dsO r m v w = none := by
  unfold dsO;rw [List.find?_eq_none];intro j hj;simp [h j (List.mem_range.1 hj)]
 unfold dsI; rw [this]; rfl
theorem dsI_range (v w : Nat) : -1 ≤ dsI r m v w ∧ dsI r m v w < 7 ∨ 7 < m := by
 by_cases hm : m ≤ 7
 ·left;unfold dsI;cases h : dsO r m v w with
  | none => exact ⟨Int.le_refl _, by decide⟩
  | some n =>
    unfold dsO at h;have := List.mem_range.1 (List.mem_of_find?_eq_some h);show -1 ≤ (n : Int) ∧ (n : Int) < 7;omega
 ·right; omega
def evB (r : Nat → Nat) (m v : Nat) : Bool := decide ((dsI r m (fstN (cmp r m v)) v).tmod 2 = 0)
def sdS (r : Nat → Nat) (m : Nat) : Nat := bmK (evB r m) m
def sdO (r : Nat → Nat) (m : Nat) : Option Nat := if indB r (sdS r m) && indB r ((2 ^ m - 1) ^^^ sdS r m) then some (sdS r m) else none
theorem fst_in {s : Nat} (hs : s < 128) (h : s ≠ 0) : s.testBit (fstN s) = true ∧ 0 < (listN s).length := by
 obtain ⟨v, l, e, _, hb⟩ := list_ne hs h;unfold fstN;rw [e];exact ⟨hb, by simp⟩
def evL (P : Nat → Bool) (a : Nat) (l : List Nat) : Nat := l.foldl (fun a v => if P v = true then a ||| 2 ^ v else a) a
theorem evL_snoc {P : Nat → Bool} {a v : Nat} {l : List Nat} : evL P a (l ++ [v]) = if P v = true then evL P a l ||| 2 ^ v else evL P a l := by
 unfold evL; rw [List.foldl_append]; rfl
theorem evL_bit {P : Nat → Bool} {u : Nat} : ∀ (l : List Nat) (a : Nat), (evL P a l).testBit u = (a.testBit u || (decide (u ∈ l) && P u)) := by
 intro l;induction l with
 | nil => intro a; simp [evL]
 | cons v l ih =>
   intro a;show (evL P (if P v = true then a ||| 2 ^ v else a) l).testBit u = _;rw [ih];by_cases e : u = v
   ·subst e;cases P u
    ·simp
    ·simp
   ·cases h : P v
    ·simp [e]
    ·simp [e, Nat.testBit_or, show ¬ v = u from fun h => e h.symm]
theorem evL_lt {P : Nat → Bool} {a : Nat} {l : List Nat} (ha : a < 2 ^ m) (hl : ∀ v ∈ l, v < m) : evL P a l < 2 ^ m := by
 induction l generalizing a with
 | nil => exact ha
 | cons v l ih =>
   refine ih (a := if P v = true then a ||| 2 ^ v else a) ?_ fun u hu => hl u (List.mem_cons_of_mem _ hu)
   split
   ·exact Nat.or_lt_two_pow ha (Nat.pow_lt_pow_right (by omega) (hl v (by simp)))
   ·exact ha
def evT (P : Nat → Bool) (T : List Nat) : Nat := T.foldl (fun a p => evL P a (listN p)) 0
theorem evT_snoc {P : Nat → Bool} {T : List Nat} {p : Nat} : evT P (T ++ [p]) = evL P (evT P T) (listN p) := by
 unfold evT; rw [List.foldl_append]; rfl
theorem evT_bit {P : Nat → Bool} {u : Nat} (T : List Nat) : (evT P T).testBit u = (decide (∃ p ∈ T, u ∈ listN p) && P u) := by
 suffices h : ∀ (T : List Nat) (a : Nat), (T.foldl (fun a p => evL P a (listN p)) a).testBit u = (a.testBit u || (decide (∃ p ∈ T, u ∈ listN p) && P u)) by
  have := h T 0;rw [Nat.zero_testBit, Bool.false_or] at this;exact this
 intro T;induction T with
 | nil => intro a; simp
 | cons p T ih =>
   intro a;rw [List.foldl_cons, ih, evL_bit];by_cases h1 : u ∈ listN p
   ·by_cases h2 : ∃ q ∈ T, u ∈ listN q
    ·simp [h1, h2] <;> (cases a.testBit u <;> cases P u <;> simp_all)
    ·simp [h1] <;> (cases a.testBit u <;> cases P u <;> simp_all)
   ·simp [h1]
theorem evT_lt {P : Nat → Bool} {T : List Nat} (h : ∀ p ∈ T, p < 2 ^ m) : evT P T < 2 ^ m := by
 suffices hh : ∀ (T : List Nat) (a : Nat), a < 2 ^ m → (∀ p ∈ T, p < 2 ^ m) → T.foldl (fun a p => evL P a (listN p)) a < 2 ^ m from hh T 0 (Nat.two_pow_pos m) h
 intro T;induction T with
 | nil => intro a ha _; exact ha
 | cons p T ih =>
   intro a ha hp;exact ih _ (evL_lt ha fun v hv => bit_lt (hp p (by simp)) (mem_listN.1 hv).2) fun q hq => hp q (by simp [hq])
structure PT (r : Nat → Nat) (m : Nat) (T : List Nat) : Prop where
 lt : ∀ p ∈ T, p < 2 ^ m
 ne : ∀ p ∈ T, p ≠ 0
 is : ∀ p ∈ T, ∀ v, p.testBit v = true → p = cmp r m v
structure PL (r : Nat → Nat) (m left : Nat) (T : List Nat) : Prop where
 pt : PT r m T
 cl : Sub (stp r (2 ^ m - 1) left) left
 al : ∀ v, v < m → left.testBit v = true ∨ ∃ p ∈ T, p.testBit v = true
theorem PL.start (r : Nat → Nat) (m : Nat) : PL r m (2 ^ m - 1) [] := by
 refine ⟨⟨(fun p hp => by cases hp), (fun p hp => by cases hp), (fun p hp => by cases hp)⟩, fun u hu => (stp_bit.1 hu).2, fun v hv => .inl (by rw [full_bit]; simpa using hv)⟩
theorem PL.step {left : Nat} {T : List Nat} (vg : VG m r) (h : PL r m left T) (hl : left < 2 ^ m) (h0 : left ≠ 0) : PL r m (left ^^^ part r left (low left)) (T ++ [part r left (low left)]) := by
 have h128 := two_pow_le vg.n7;have hlf : Sub left (2 ^ m - 1) := fun u hu => by rw [full_bit]; simpa using bit_lt hl hu
 have hps := part_sub (r := r) (by omega : left < 128) h0;have hplt := sub_lt hps.1 hl;refine ⟨⟨fun p hp => ?_, fun p hp => ?_, fun p hp v hv => ?_⟩, closed_next vg (by have := Nat.two_pow_pos m; omega) hlf h.cl h0, fun v hv => ?_⟩
 ·rcases List.mem_append.1 hp with hp | hp
  ·exact h.pt.lt p hp
  ·rw [List.mem_singleton] at hp; rw [hp]; exact hplt
 ·rcases List.mem_append.1 hp with hp | hp
  ·exact h.pt.ne p hp
  ·rw [List.mem_singleton] at hp; rw [hp]; exact hps.2
 ·rcases List.mem_append.1 hp with hp | hp
  ·exact h.pt.is p hp v hv
  ·rw [List.mem_singleton] at hp;rw [hp] at hv ⊢;exact part_cmp vg hl h.cl h0 hv
 ·rcases h.al v hv with h1 | ⟨p, hp, h1⟩
  ·cases hb : (part r left (low left)).testBit v
   ·left; rw [Nat.testBit_xor, h1, hb]; rfl
   ·exact .inr ⟨_, by simp, hb⟩
  ·exact .inr ⟨p, by simp [hp], h1⟩
theorem PL.fin {T : List Nat} (vg : VG m r) (h : PL r m 0 T) : evT (evB r m) T = sdS r m := by
 apply Nat.eq_of_testBit_eq;intro u;have hn7 := vg.n7;unfold sdS;rw [evT_bit, bmK_bit];congr 1;rw [decide_eq_decide];constructor
 ·rintro ⟨p, hp, hu⟩;exact bit_lt (h.pt.lt p hp) (mem_listN.1 hu).2
 ·intro hu;rcases h.al u hu with h1 | ⟨p, hp, h1⟩
  ·simp at h1
  ·exact ⟨p, hp, mem_listN.2 ⟨by omega, h1⟩⟩
end
end Go.Proofs.YtdpkbfiggbcclaaGreat
