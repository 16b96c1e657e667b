/-
  Several texts in one.
-/
import Derived.Test.YtdpkbfiggbcclaaGreatQmClaim
import Derived.Test.YtdpkbfiggbcclaaGreatQmV
import Derived.Test.YtdpkbfiggbcclaaGreatQmGB
/-
-/
namespace Go.Proofs.YtdpkbfiggbcclaaGreat
open Go.RowKit
set_option maxHeartbeats 1600000
structure ApK (k : Clm) : Prop where
 a01 : ∀ a, k.A0 = some a → k.A1 ≠ some a
 a02 : ∀ a, k.A0 = some a → k.A2 ≠ some a
 a12 : ∀ a, k.A1 = some a → k.A2 ≠ some a
 d0 : ∀ d ∈ k.D, ∀ a, k.A0 = some a → d.1 ≠ some a
 d1 : ∀ d ∈ k.D, ∀ a, k.A1 = some a → d.1 ≠ some a
 d2 : ∀ d ∈ k.D, ∀ a, k.A2 = some a → d.1 ≠ some a
def mkK (q : Int) (k : Clm) : Clm := { k with x0 := fun j => q + j, x1 := fun j => q + k.n0 + j, x2 := fun j => q + k.n0 + k.n1 + j, D := mkD (q + k.n0 + k.n1 + k.n2) k.D }
theorem Own.nar {w : World} {lo hi : Nat} {e : TypeId} {s n c : Nat} {A : Option Addr} {x : Nat → Value} (h : Own w lo hi e s A n c x) (hhi : hi ≤ w.heap.size) :
 ∃ a b, Own w a b e s A n c x ∧ b ≤ w.heap.size ∧ (∀ w', Fr a b w w' → Fr lo hi w w') ∧ (∀ (w' : World) (e' : TypeId) (s' n' c' lo' hi' : Nat) (A' : Option Addr) (y : Nat → Value), Fr a b w w' → (∀ z, A = some z → A' ≠ some z) → Own w lo' hi' e' s' A' n' c' y → Own w' lo' hi' e' s' A' n' c' y) ∧ (∀ p, p < lo ∨ hi ≤ p → p < a ∨ b ≤ p) ∧ ∀ (w' : World) (y : Nat → Value), Own w' a b e s A n c y → Own w' lo hi e s A n c y := by
 rcases h with h | ⟨g, cur, k1, k2, k3, r⟩
 ·exact ⟨0, 0, .inl h, Nat.zero_le _, fun w' hf => ⟨hf.os, hf.tape, hf.output, hf.size, fun k hk _ => hf.block k hk (.inr (Nat.zero_le _))⟩, fun w' _ _ _ _ _ _ _ _ hf _ h2 => h2.keep hf (.inr (Nat.zero_le _)), fun p _ => .inr (Nat.zero_le _), fun w' y _ => .inl h⟩
 ·exact ⟨g, g + 1, .inr ⟨g, cur, k1, nr_, Nat.lt_succ_self _, r⟩, by omega, fun w' hf => hf.mono k2 k3, fun w' _ _ _ _ _ _ _ _ hf hne h2 => h2.keep1 hf (hne _ k1), fun p hp => by omega, fun w' y h2 => h2.mono k2 k3⟩
theorem Own.row_not {w : World} {lo hi lo2 hi2 s2 n c n2 c2 : Nat} {A A2 : Option Addr} {x y : Nat → Value} (h : Own w lo hi 3 1 A n c x) (k : Own w lo2 hi2 22 s2 A2 n2 c2 y) : ∀ z, A = some z → A2 ≠ some z := by
 intro z hz;rcases h with ⟨h0, _⟩ | ⟨g, cur, k1, k2, k3, r⟩
 ·rw [h0] at hz; cases hz
 ·rw [k1] at hz;injection hz with hz
  subst hz;exact (Own.types (.inr ⟨g, cur, k1, k2, k3, r⟩ : Own w lo hi 3 1 A n c x) k (by decide) k1)
theorem markIntSS_apart (A : Option Addr) (c : Nat) (D : List Dsc) (k : Int) (w : World) (lo hi : Nat) (h : OwnD w lo hi A c D) (hhi : hi ≤ w.heap.size) (hn : D.length ≤ 1073741824) (ht : tot D ≤ 1073741824) (hk0 : 0 ≤ k) (hk1 : k ≤ 1099511627776) :
 Calls Tryz.prog 142 #[.slice A D.length c, .int .i64 k] w fun e w' => e = .returned (.int .i64 (k + tot D)) ∧ OwnD w' lo hi A c (mkD k D) ∧ Fr lo hi w w' ∧ (∀ (e' : TypeId) (s' n' c' : Nat) (A' : Option Addr) (y : Nat → Value), Own w lo hi e' s' A' n' c' y → (∀ d ∈ D, ∀ a, d.1 = some a → A' ≠ some a) → Own w' lo hi e' s' A' n' c' y) := by
 obtain ⟨n, hnn⟩ : ∃ n, n = D.length := ⟨_, rfl⟩;rw [← hnn] at hn ⊢;have Hn := hh_ hnn;clear hnn;go_enter Tryz.func142, Tryz.ntmps142;go_wp2;go_loopw [1, 5] (fun kk i wr => ∃ j : Nat, j ≤ n ∧ i = .int .i64 j ∧ kk = .int .i64 (k + tot (D.take j)) ∧ Hid (OwnD wr lo hi A c (mkD k (D.take j) ++ D.drop j)) ∧ Fr lo hi w wr ∧ Hid (∀ (e' : TypeId) (s' n' c' : Nat) (A' : Option Addr) (y : Nat → Value), Own w lo hi e' s' A' n' c' y → (∀ d ∈ D, ∀ a, d.1 = some a → A' ≠ some a) → Own wr lo hi e' s' A' n' c' y)) (fun _ i _ => n - (intOf i).toNat);case atStart => exact ⟨0, Nat.zero_le _, rfl, by simp [tot], by simpa [Hid, mkD] using h, Fr.refl _ _ _, fun _ _ _ _ _ _ h _ => h⟩
 case round =>
  obtain ⟨j, hj, rfl, rfl, hown, hfr, hpr⟩ := hrel;by_cases hlt : j < n
  ·have hjD : j < D.length := by rw [← Hn.out]; exact hlt
   obtain ⟨d, hd⟩ : ∃ d, D[j]? = some d := ⟨_, List.getElem?_eq_getElem hjD⟩;have hdrop : D.drop j = d :: D.drop (j + 1) := by
    rw [List.drop_eq_getElem_cons hjD];rw [List.getElem?_eq_getElem hjD] at hd;simp only [Option.some.injEq] at hd;rw [hd]
   have htake := take_at hd;obtain ⟨P, hP⟩ : ∃ P, P = mkD k (D.take j) := ⟨_, rfl⟩;obtain ⟨T, hT⟩ : ∃ T, T = D.drop (j + 1) := ⟨_, rfl⟩;have hPl : P.length = j := by rw [hP, length_mkD, List.length_take]; omega
   have ho := hown.out;rw [hdrop, ← hP, ← hT] at ho;have htl := tot_take_le D (j + 1);rw [htake, tot_snoc] at htl;obtain ⟨kk, hkk⟩ : ∃ kk, kk = k + tot (D.take j) := ⟨_, rfl⟩;rw [← hkk];have hlen : (P ++ d :: T).length = n := by
    rw [List.length_append, List.length_cons, hPl, hT, List.length_drop, ← Hn.out]; omega
   have hz := hfr.size;have hod := ho.2.1 d (by simp);obtain ⟨g, hcage, hg⟩ := hod.cage (by omega);have hout := ho.1;rw [hlen] at hout;obtain ⟨G, rfl, G1, G2, G3, hc, _⟩ := hout.at_ (by omega);have f1 := hc j (by omega);have hdvj : dvs (P ++ d :: T) j = dv d := by
    unfold dvs;simp [List.getD, hPl]
   rw [hdvj] at f1;have hnew : ∀ w' : World, Own w' g (g + 1) 3 1 d.1 d.2.2.length d.2.1 (mks kk (ii d.2.2) d.2.2.length) → Fr g (g + 1) wr w' → OwnD w' lo hi (some ⟨G, 0, none⟩) c (mkD k (D.take (j + 1)) ++ D.drop (j + 1)) := by
    intro w' h1 h2;rw [htake, mkD_snoc, ← hP, ← hT, List.append_assoc, List.singleton_append];have hl2 : (P ++ (d.1, d.2.1, mkl (k + tot (D.take j)) d.2.2) :: T).length = (P ++ d :: T).length := by simp
    have hap := List.pairwise_append.1 ho.2.2;have hapc := List.pairwise_cons.1 hap.2.1;refine ⟨?_, ?_, ?_⟩
    ·rw [hl2];have q := (ho.1).uncaged (A := d.1) h2 hg (fun a ha hA => by
      rcases hg with ⟨hg1, _⟩ | ⟨hg1, _⟩
      ·rw [hg1] at ha;simp only [Option.some.injEq] at ha;subst ha;exact hod.types ho.1 (by decide) hg1 hA
      ·rw [hg1] at ha; cases ha)
     refine q.congr (fun i hi => ?_);unfold dvs;by_cases h3 : i < P.length
     ·simp [List.getD, List.getElem?_append_left h3]
     ·simp only [List.getD, List.getElem?_append_right (show P.length ≤ i by omega)];rcases Nat.eq_zero_or_pos (i - P.length) with h4 | h4
      ·rw [h4]; simp [dv, length_mkl]
      ·obtain ⟨m, hm⟩ : ∃ m, i - P.length = m + 1 := ⟨i - P.length - 1, by omega⟩;rw [hm]; simp
    ·intro e he;rw [List.mem_append, List.mem_cons] at he;have other : ∀ e : Dsc, e ∈ P ++ d :: T → (∀ a, d.1 = some a → e.1 ≠ some a) → Own w' lo hi 3 1 e.1 e.2.2.length e.2.1 (ii e.2.2) := fun e he hne => (ho.2.1 e he).uncaged (A := d.1) h2 hg hne
     rcases he with he | rfl | he
     ·refine other e (by simp [he]) (fun a ha hA => ?_);exact hap.2.2 e he d (by simp) a hA ha
     ·have := (h1.congr (ii_mkl kk d.2.2));rw [hkk] at this;show Own w' lo hi 3 1 d.1 (mkl (k + tot (D.take j)) d.2.2).length d.2.1 _;rw [length_mkl];rcases hg with ⟨_, hg2, hg3⟩ | ⟨hg1, _⟩
      ·exact this.mono hg2 hg3
      ·rcases this with h6 | ⟨_, _, h6, _⟩
       ·exact .inl h6
       ·rw [hg1] at h6; cases h6
     ·refine other e (by simp [he]) (fun a ha hA => ?_);exact hapc.1 e he a ha hA
    ·refine List.pairwise_append.2 ⟨hap.1, List.pairwise_cons.2 ⟨hapc.1, hapc.2⟩, ?_⟩;intro e he f hf a ha;rw [List.mem_cons] at hf;rcases hf with rfl | hf
     ·exact hap.2.2 e he d (by simp) a ha
     ·exact hap.2.2 e he f (by simp [hf]) a ha
   have hnew2 : ∀ w' : World, Fr g (g + 1) wr w' → (∀ (e' : TypeId) (s' n' c' : Nat) (A' : Option Addr) (y : Nat → Value), Own w lo hi e' s' A' n' c' y → (∀ d ∈ D, ∀ a, d.1 = some a → A' ≠ some a) → Own w' lo hi e' s' A' n' c' y) := fun w' h2 e' s' n' c' A' y hy hne => (hpr.out e' s' n' c' A' y hy hne).uncaged (A := d.1) h2 hg (hne d (List.mem_of_getElem? hd))
   have hk2 : k + tot (D.take (j + 1)) = kk + d.2.2.length := by rw [htake, tot_snoc, hkk]; push_cast; omega
   have k0 : 0 ≤ kk := by omega
   have k1 : kk ≤ 2199023255552 := by omega
   have hm7 : d.2.2.length ≤ 1073741824 := by omega
   obtain ⟨da, dc, dl⟩ := d;simp only [dv] at f1 hm7 hk2 hcage hnew hg;obtain ⟨m, hm2⟩ : ∃ m, m = dl.length := ⟨_, rfl⟩;rw [← hm2] at f1 hm7 hk2 hcage hnew;have HK := hh_ hk2;have HC := hh_ hcage;have HN := hh_ hnew;have HN2 := hh_ hnew2;have HG := hh_ hg;have HF := hh_ hfr;clear hc hod hd hdrop htake hPl ho htl hlen hout hdvj hnew hnew2 hpr hk2 hcage hg hm2 hfr hown h hP hT hjD ht hkk;go_wp2_with fail
   refine (markIntS_any da m dc _ kk wr g (g + 1) HC (by omega) k0 (by omega)).mono ?_;rintro e w1 ⟨rfl, ho1, hf1⟩;have H1 := hh_ (HN.out w1 ho1 hf1);have H2 := hh_ (HF.trans (hf1.uncaged HG));have H3 := hh_ (HN2.out w1 hf1);clear ho1 hf1 f1;go_wp2;go_roundw;case rel => exact ⟨j + 1, by omega, by go_num, congrArg (Value.int .i64) HK.symm, H1, H2.out, H3⟩
   case measure => simp [intOf]; omega
  ·obtain rfl : j = n := by omega
   have ho := hown.out;rw [List.take_of_length_le (by rw [← Hn.out]; exact nr_), List.drop_eq_nil_of_le (by rw [← Hn.out]; exact nr_), List.append_nil] at ho;have e2 : tot (D.take j) = tot D := by rw [List.take_of_length_le (by rw [← Hn.out]; exact nr_)]
   rw [e2];have H1 := hh_ ho;have H2 := hh_ hfr;clear ho hown hfr h e2;go_wp2;go_ret;exact ⟨rfl, H1.out, H2.out, hpr.out⟩
set_option maxRecDepth 100000 in
theorem markClaim_any (k : Clm) (q : Int) (w : World) (lo hi : Nat) (h : OwnK w lo hi k) (ha : ApK k) (hs : SmK k) (hq0 : 0 ≤ q) (hq1 : q ≤ 1048576) (hhi : hi ≤ w.heap.size) :
 Calls Tryz.prog 41 #[.agg #[.int .i64 k.K, .int .i64 k.s, .slice k.A0 k.n0 k.c0, .string k.t, .slice k.A1 k.n1 k.c1, .slice k.A2 k.n2 k.c2, .slice k.A3 k.D.length k.c3], .int .i64 q] w fun e w' => e = .returned (.int .i64 (q + k.n0 + k.n1 + k.n2 + tot k.D)) ∧ OwnK w' lo hi (mkK q k) ∧ Fr lo hi w w' := by
 obtain ⟨s0, _, s1, s2, s3, s4⟩ := hs;obtain ⟨W, hW⟩ : ∃ W, W = w.alloc (Obj.cells #[.int .i64 k.K, .int .i64 k.s, .slice k.A0 k.n0 k.c0, .string k.t, .slice k.A1 k.n1 k.c1, .slice k.A2 k.n2 k.c2, .slice k.A3 k.D.length k.c3] 54) := ⟨_, rfl⟩;have hb : Below w.heap.size w W := by rw [hW]; exact br_.alloc nr_ _
 have z0 : w.heap.size < W.heap.size := by rw [hW]; simp
 have e1 : W.cell? ⟨w.heap.size, 1, none⟩ = some (.int .i64 k.s) := by rw [hW]; simp [go_sem]
 have e2 : W.cell? ⟨w.heap.size, 2, none⟩ = some (.slice k.A0 k.n0 k.c0) := by rw [hW]; simp [go_sem]
 have e4 : W.cell? ⟨w.heap.size, 4, none⟩ = some (.slice k.A1 k.n1 k.c1) := by rw [hW]; simp [go_sem]
 have e5 : W.cell? ⟨w.heap.size, 5, none⟩ = some (.slice k.A2 k.n2 k.c2) := by rw [hW]; simp [go_sem]
 have e6 : W.cell? ⟨w.heap.size, 6, none⟩ = some (.slice k.A3 k.D.length k.c3) := by rw [hW]; simp [go_sem]
 obtain ⟨o0, o1, o2, o3⟩ := h.keepB hb hhi;have HB := hh_ hb;have HW := hh_ hW;obtain ⟨a0, b0, n0, m0, f0, k0, p0, g0⟩ := o0.nar (by omega);have O0 := hh_ n0;have O1 := hh_ o1;have O2 := hh_ o2;have O3 := hh_ o3;have F0 := hh_ f0;have K0 := hh_ k0;have P0 := hh_ p0;have G0 := hh_ g0;have R0 := hh_ (o0.row_not o3.1);clear hb hW h o0 o1 o2 o3 n0 f0 k0 p0 g0;go_enter Tryz.func41, Tryz.ntmps41;go_wp2_with fail
 rw [← HW.out];clear HW;refine (markGraph_any k.s k.A0 k.n0 k.c0 _ q W a0 b0 O0.out s0 hq0 (by omega) m0).mono ?_;rintro e w1 ⟨rfl, ho, hf⟩;have q0 := P0.out w.heap.size (.inr hhi);have z1 := hf.size;have g4 := frC_ hf e4 z0 q0;have g5 := frC_ hf e5 z0 q0;have g6 := frC_ hf e6 z0 q0;have o0 := G0.out _ _ (Own.marked ho);have o1 := K0.out w1 _ _ _ _ _ _ _ _ hf (ha.a01) O1.out;have o2 := K0.out w1 _ _ _ _ _ _ _ _ hf (ha.a02) O2.out;have o3 : OwnD w1 lo hi k.A3 k.c3 k.D := ⟨K0.out w1 _ _ _ _ _ _ _ _ hf R0.out O3.out.1, fun d hd => K0.out w1 _ _ _ _ _ _ _ _ hf (ha.d0 d hd) (O3.out.2.1 d hd), O3.out.2.2⟩;have HF1 := hh_ (F0.out _ hf);obtain ⟨a1, b1, n1, m1, f1, k1, p1, g1⟩ := o1.nar (by omega);have zz1 : w.heap.size < w1.heap.size := by omega
 have M0 := hh_ o0;have N1 := hh_ n1;have N2 := hh_ o2;have N3 := hh_ o3;have F1 := hh_ f1;have K1 := hh_ k1;have P1 := hh_ p1;have G1 := hh_ g1;have R1 := hh_ (o1.row_not o3.1);clear ho hf e1 e2 e4 e5 e6 o0 o1 o2 o3 n1 f1 k1 p1 g1 O0 O1 O2 O3 F0 K0 P0 R0 G0 q0;go_wp2_with fail
 refine (markIntS_any k.A1 k.n1 k.c1 _ (q + k.n0) w1 a1 b1 N1.out (by omega) (by omega) (by omega)).mono ?_;rintro e w2 ⟨rfl, ho, hf⟩;have q0 := P1.out w.heap.size (.inr hhi);have z2 := hf.size;have h5 := frC_ hf g5 zz1 q0;have h6 := frC_ hf g6 zz1 q0;have o1 := G1.out _ _ (Own.marked ho);have o0 := K1.out w2 _ _ _ _ _ _ _ _ hf (fun z hz hz2 => ha.a01 z hz2 hz) M0.out;have o2 := K1.out w2 _ _ _ _ _ _ _ _ hf (ha.a12) N2.out;have o3 : OwnD w2 lo hi k.A3 k.c3 k.D := ⟨K1.out w2 _ _ _ _ _ _ _ _ hf R1.out N3.out.1, fun d hd => K1.out w2 _ _ _ _ _ _ _ _ hf (ha.d1 d hd) (N3.out.2.1 d hd), N3.out.2.2⟩;have HF2 := hh_ (HF1.trans (F1.out _ hf));obtain ⟨a2, b2, n2, m2, f2, k2, p2, g2⟩ := o2.nar (by omega);have zz2 : w.heap.size < w2.heap.size := by omega
 have M0' := hh_ o0;have M1 := hh_ o1;have N2' := hh_ n2;have N3' := hh_ o3;have F2 := hh_ f2;have K2 := hh_ k2;have P2 := hh_ p2;have G2 := hh_ g2;have R2 := hh_ (o2.row_not o3.1);clear ho hf g4 g5 g6 o0 o1 o2 o3 n2 f2 k2 p2 g2 M0 N1 N2 N3 F1 K1 P1 R1 G1 HF1 q0;go_wp2_with fail
 refine (markIntS_any k.A2 k.n2 k.c2 _ (q + k.n0 + k.n1) w2 a2 b2 N2'.out (by omega) (by omega) (by omega)).mono ?_;rintro e w3 ⟨rfl, ho, hf⟩;have q0 := P2.out w.heap.size (.inr hhi);have z3 := hf.size;have i6 := frC_ hf h6 zz2 q0;have o2 := G2.out _ _ (Own.marked ho);have o0 := K2.out w3 _ _ _ _ _ _ _ _ hf (fun z hz hz2 => ha.a02 z hz2 hz) M0'.out;have o1 := K2.out w3 _ _ _ _ _ _ _ _ hf (fun z hz hz2 => ha.a12 z hz2 hz) M1.out;have o3 : OwnD w3 lo hi k.A3 k.c3 k.D := ⟨K2.out w3 _ _ _ _ _ _ _ _ hf R2.out N3'.out.1, fun d hd => K2.out w3 _ _ _ _ _ _ _ _ hf (ha.d2 d hd) (N3'.out.2.1 d hd), N3'.out.2.2⟩;have HF3 := hh_ (HF2.trans (F2.out _ hf));have M0 := hh_ o0;have M1' := hh_ o1;have M2 := hh_ o2;have N3 := hh_ o3;have zz3 : w.heap.size < w3.heap.size := by omega
 clear ho hf h5 h6 o0 o1 o2 o3 M0' M1 N2' N3' F2 K2 P2 R2 G2 HF2 q0;go_wp2_with fail
 refine (markIntSS_apart k.A3 k.c3 k.D (q + k.n0 + k.n1 + k.n2) w3 lo hi N3.out (by omega) (by omega) (by omega) (by omega) (by omega)).mono ?_;rintro e w4 ⟨rfl, ho, hf, hp⟩;have R0 := hh_ (hp _ _ _ _ _ _ M0.out (fun d hd a h1 h2 => ha.d0 d hd a h2 h1));have R1 := hh_ (hp _ _ _ _ _ _ M1'.out (fun d hd a h1 h2 => ha.d1 d hd a h2 h1));have R2 := hh_ (hp _ _ _ _ _ _ M2.out (fun d hd a h1 h2 => ha.d2 d hd a h2 h1));have R3 := hh_ ho;have HF4 : Hid (Fr lo hi w w4) := ⟨(HF3.trans hf).os.trans HB.os, (HF3.trans hf).tape.trans HB.tape, (HF3.trans hf).output.trans HB.output, Nat.le_trans HB.size (HF3.trans hf).size, fun p hp hq => ((HF3.trans hf).block p (by omega) hq).trans (HB.block p hp)⟩;clear ho hf hp i6 M0 M1' M2 N3 HF3;go_wp2;go_ret;refine ⟨ret_int (by omega), ⟨R0.out, R1.out, R2.out, ?_⟩, HF4.out⟩;have := R3.out;exact this
theorem RdK.held {w : World} {B : Nat} {k : Clm} {q : Int} (h : RdK w B (mkK q k)) : Rd w B k.A0 k.n0 k.c0 (fun j => q + j) ∧ Rd w B k.A1 k.n1 k.c1 (fun j => q + k.n0 + j) ∧ Rd w B k.A2 k.n2 k.c2 (fun j => q + k.n0 + k.n1 + j) ∧ RdD w B k.A3 k.c3 (mkD (q + k.n0 + k.n1 + k.n2) k.D) := h
set_option maxRecDepth 100000 in
theorem heldClaim_yes (k : Clm) (q : Int) (w : World) (h : RdK w w.heap.size (mkK q k)) (hs : SmK k) (hq0 : 0 ≤ q) (hq1 : q ≤ 1048576) :
 Calls Tryz.prog 42 #[.agg #[.int .i64 k.K, .int .i64 k.s, .slice k.A0 k.n0 k.c0, .string k.t, .slice k.A1 k.n1 k.c1, .slice k.A2 k.n2 k.c2, .slice k.A3 k.D.length k.c3], .int .i64 q] w fun e w' => e = .returned (.int .i64 (q + k.n0 + k.n1 + k.n2 + tot k.D)) ∧ Below w.heap.size w w' := by
 obtain ⟨s0, _, s1, s2, s3, s4⟩ := hs;obtain ⟨r0, r1, r2, r3⟩ := h.held;obtain ⟨W, hW⟩ : ∃ W, W = w.alloc (Obj.cells #[.int .i64 k.K, .int .i64 k.s, .slice k.A0 k.n0 k.c0, .string k.t, .slice k.A1 k.n1 k.c1, .slice k.A2 k.n2 k.c2, .slice k.A3 k.D.length k.c3] 54) := ⟨_, rfl⟩;have hb : Below w.heap.size w W := by rw [hW]; exact br_.alloc nr_ _
 have z0 : w.heap.size < W.heap.size := by rw [hW]; simp
 have e1 : W.cell? ⟨w.heap.size, 1, none⟩ = some (.int .i64 k.s) := by rw [hW]; simp [go_sem]
 have e2 : W.cell? ⟨w.heap.size, 2, none⟩ = some (.slice k.A0 k.n0 k.c0) := by rw [hW]; simp [go_sem]
 have e4 : W.cell? ⟨w.heap.size, 4, none⟩ = some (.slice k.A1 k.n1 k.c1) := by rw [hW]; simp [go_sem]
 have e5 : W.cell? ⟨w.heap.size, 5, none⟩ = some (.slice k.A2 k.n2 k.c2) := by rw [hW]; simp [go_sem]
 have e6 : W.cell? ⟨w.heap.size, 6, none⟩ = some (.slice k.A3 k.D.length k.c3) := by rw [hW]; simp [go_sem]
 have R0 := hh_ (r0.keep hb nr_);have R1 := hh_ (r1.keep hb nr_);have R2 := hh_ (r2.keep hb nr_);have R3 := hh_ (r3.keep hb nr_);have HB := hh_ hb;have HW := hh_ hW;clear hW hb r0 r1 r2 r3 h;go_enter Tryz.func42, Tryz.ntmps42;go_wp2_with fail
 rw [← HW.out];clear HW;refine (heldGraph_yes k.s k.A0 k.n0 k.c0 q W _ R0.out s0 hq0 (by omega) (by omega)).mono ?_;rintro e w1 ⟨rfl, hb1⟩;have g4 := up hb1 e4 z0;have g5 := up hb1 e5 z0;have g6 := up hb1 e6 z0;have HB1 := hh_ (HB.trans (hb1.mono HB.size));have S1 := hh_ (R1.keep (hb1.mono (by omega)) nr_);have S2 := hh_ (R2.keep (hb1.mono (by omega)) nr_);have S3 := hh_ (R3.keep (hb1.mono (by omega)) nr_);have p0 : 0 ≤ q + (k.n0 : Int) := by omega
 have p1 : 0 ≤ q + (k.n0 : Int) + k.n1 := by omega
 have p2 : 0 ≤ q + (k.n0 : Int) + k.n1 + k.n2 := by omega
 have p3 : 0 ≤ q + (k.n0 : Int) + k.n1 + k.n2 + tot k.D := by omega
 clear hb1 e1 e2 e4 e5 e6 R0 R1 R2 R3 HB;go_wp2_with fail
 refine (heldIntS_yes k.A1 k.n1 k.c1 (q + k.n0) w1 _ S1.out (by omega) (by omega) (by omega)).mono ?_;rintro e w' ⟨rfl, rfl⟩;go_wp2_with fail
 refine (heldIntS_yes k.A2 k.n2 k.c2 (q + k.n0 + k.n1) w1 _ S2.out (by omega) (by omega) (by omega)).mono ?_;rintro e w' ⟨rfl, rfl⟩;go_wp2_with fail
 refine (heldIntSS_yes k.A3 k.c3 k.D (q + k.n0 + k.n1 + k.n2) w1 _ S3.out (by omega) (by omega) (by omega) (by omega)).mono ?_;rintro e w' ⟨rfl, rfl⟩;go_wp2;go_ret;exact ⟨rfl, HB1⟩
theorem thenI_niM {T L : List Nat} {j : Nat} : thenI T.length (ni T) (fun j => ((L.getD j 0 : Nat) : Int)) j = ni (T ++ L) j := by
 unfold thenI ni;by_cases e : j < T.length
 ·rw [if_pos e]; simp [List.getD, List.getElem?_append_left e]
 ·rw [if_neg e]; simp [List.getD, List.getElem?_append_right (show T.length ≤ j by omega)]
structure TwoN (w : World) (lo : Nat) (A1 : Option Addr) (c1 : Nat) (T : List Nat) (A2 : Option Addr) (c2 : Nat) (U : List Nat) : Prop where
 o1 : Own w lo w.heap.size 3 1 A1 T.length c1 (ni T)
 o2 : Own w lo w.heap.size 3 1 A2 U.length c2 (ni U)
 ne : ∀ a, A1 = some a → A2 ≠ some a
section
variable {w w' : World} {lo c1 c2 : Nat} {A1 A2 : Option Addr} {T U : List Nat}
theorem TwoN.nil (w : World) (lo : Nat) : TwoN w lo none 0 [] none 0 [] := ⟨Own.nil _ _ _ _ _ _, Own.nil _ _ _ _ _ _, fun a h => (by cases h)⟩
theorem TwoN.keep (h : TwoN w lo A1 c1 T A2 c2 U) (hb : Below w.heap.size w w') : TwoN w' lo A1 c1 T A2 c2 U :=
 ⟨(h.o1.keepB hb nr_).mono nr_ hb.size, (h.o2.keepB hb nr_).mono nr_ hb.size, h.ne⟩
theorem TwoN.keepF {a b : Nat} (h : TwoN w lo A1 c1 T A2 c2 U) (hf : Fr a b w w') (hq : b ≤ lo) : TwoN w' lo A1 c1 T A2 c2 U :=
 ⟨(h.o1.keep hf (.inr hq)).mono nr_ hf.size, (h.o2.keep hf (.inr hq)).mono nr_ hf.size, h.ne⟩
theorem TwoN.mono {lo' : Nat} (h : TwoN w lo A1 c1 T A2 c2 U) (hl : lo' ≤ lo) : TwoN w lo' A1 c1 T A2 c2 U := ⟨h.o1.mono hl nr_, h.o2.mono hl nr_, h.ne⟩
theorem TwoN.alloc (h : TwoN w lo A1 c1 T A2 c2 U) (o : Obj) : TwoN (w.alloc o) lo A1 c1 T A2 c2 U := h.keep (br_.alloc nr_ _)
theorem TwoN.drew (h : TwoN w lo A1 c1 T A2 c2 U) : TwoN w.drew lo A1 c1 T A2 c2 U := ⟨h.o1, h.o2, h.ne⟩
theorem TwoN.other {W : World} {n k : Nat} (h : TwoN w lo A1 c1 T A2 c2 U) (hg : W.grownBy w' (Value.slice A1 n c1).ownBlock) (hk : w.heap.size ≤ k) (hk2 : k < W.heap.size) : w'.heap[k]? = W.heap[k]? := by
 refine hg.block k hk2 ?_;rcases h.o1.at_block with e | ⟨g, e, _, hlt⟩
 ·subst e; simp [Value.ownBlock]
 ·subst e; simp [Value.ownBlock]; omega
theorem TwoN.swap (h : TwoN w lo A1 c1 T A2 c2 U) : TwoN w lo A2 c2 U A1 c1 T := ⟨h.o2, h.o1, fun a h2 h1 => h.ne a h1 h2⟩
theorem TwoN.grow {n c A' T' : _} (h : TwoN w lo A1 c1 T A2 c2 U) (h1 : Own w' lo w'.heap.size 3 1 A' (List.length T') c (ni T')) (hg : w.grownBy w' (Value.slice A1 n c1).ownBlock) (hat : (Value.slice A' n c).ownBlock = (Value.slice A1 n c1).ownBlock ∨ (Value.slice A' n c).ownBlock = some w.heap.size) : TwoN w' lo A' c T' A2 c2 U := by
 have hnew : A2 ≠ some ⟨w.heap.size, 0, none⟩ := fun e => by
  rcases h.o2.at_block with h' | ⟨g', h', _, hlt⟩
  ·rw [h'] at e; cases e
  ·rw [h'] at e;simp only [Option.some.injEq, Addr.mk.injEq, and_true] at e;omega
 have h2 : Own w' lo w'.heap.size 3 1 A2 U.length c2 (ni U) := by
  rcases h.o1 with ⟨e1, _, _⟩ | ⟨g0, cur, e1, _, _, _⟩
  ·subst e1;have hb : Below w.heap.size w w' := ⟨hg.os, hg.tape, hg.output, hg.size, fun k hk => hg.block k hk (by simp [Value.ownBlock])⟩;exact (h.o2.keepB hb nr_).mono nr_ hb.size
  ·subst e1;have hf : Fr g0 (g0 + 1) w w' := ⟨hg.os, hg.tape, hg.output, hg.size, fun k hk ho => hg.block k hk (by simp [Value.ownBlock]; omega)⟩;exact (h.o2.keep1 hf (h.ne _ rfl)).mono nr_ hf.size
 refine ⟨h1, h2, fun a e => ?_⟩;rcases h1.at_block with h' | ⟨g, h', _, _⟩
 ·rw [h'] at e; cases e
 ·rw [h'] at e;obtain rfl := Option.some.inj e;rw [h'] at hat;rcases hat with hat | hat
  ·rcases h.o1 with ⟨e1, _, _⟩ | ⟨g0, cur, e1, _, _, _⟩
   ·subst e1; simp [Value.ownBlock] at hat
   ·subst e1;simp [Value.ownBlock] at hat;rw [hat];exact h.ne _ rfl
  ·simp [Value.ownBlock] at hat;rw [hat];exact hnew
theorem TwoN.push (h : TwoN w lo A1 c1 T A2 c2 U) {v g cap : Nat} (hp : Pushed w w' lo 3 1 A1 T.length c1 (ni (T ++ [v])) g cap) : TwoN w' lo (some ⟨g, 0, none⟩) cap (T ++ [v]) A2 c2 U := by
 refine h.grow (n := T.length) (by rw [List.length_append]; exact hp.own) hp.grown ?_;rcases hp.at_ with h' | h'
 ·exact .inl (by rw [h']; simp [Value.ownBlock])
 ·exact .inr (by rw [h']; simp [Value.ownBlock])
theorem TwoN.addNew (h : TwoN w lo A1 c1 T none 0 []) (hlo : lo ≤ w.heap.size) : TwoN (w.alloc (Obj.cells #[] 3)) lo A1 c1 T (some ⟨w.heap.size, 0, none⟩) 0 [] := by
 refine ⟨(h.alloc _).o1, .inr ⟨w.heap.size, #[], rfl, hlo, by simp, heap_alloc_new w _, nr_, by unfold maxLen; omega, rfl, fun j hj => absurd hj (by simp)⟩, fun a e e2 => ?_⟩;rcases h.o1.at_block with h' | ⟨g, h', _, hlt⟩
 ·rw [h'] at e; cases e
 ·rw [h'] at e;rw [← e] at e2;simp only [Option.some.injEq, Addr.mk.injEq, and_true] at e2;omega
end
section
variable {ops : Array Oper} {o : Oper} {a : Act} {K : Act → World → Prop} {Q : Exit → Act → World → Prop} {E : Prop} {lo c1 c2 : Nat} {A1 A2 : Option Addr} {T U : List Nat}
theorem step_twoN (W : World) (hgd : o.guard = none) (s y : Operand)
 (ho : o.op = .call { callee := .builtin .append, args := #[s, y], argTypes := #[22, 22] })
 (hT : TwoN W lo A1 c1 T A2 c2 U) (hlo : lo ≤ W.heap.size) (hs : a.eval s = .slice A1 T.length c1)
 (B cx v : Nat) (hy : a.eval y = .slice (some ⟨B, 0, none⟩) 1 cx) (hB : W.heap[B]? = some (.cells #[.int .i64 (v : Int)] 3 (0, 0))) (hn : T.length ≤ 1073741824)
 (hK : ∀ g' cap w', TwoN w' lo (some ⟨g', 0, none⟩) cap (T ++ [v]) A2 c2 U → Below lo W w' → W.grownBy w' (Value.slice A1 T.length c1).ownBlock → K (a.put o.dst (.slice (some ⟨g', 0, none⟩) (T.length + 1) cap)) w') :
 if Region.wanted o (yielded ops a.tmps) = true then Oper.wp Tryz.prog o a W K Q else E :=
 step_push W hgd s y 22 ho 3 _ 1 8 Tryz.underlying22 info_int rfl (by omega) lo W.heap.size A1 T.length c1 (ni (T ++ [v])) hs (hT.o1.congr (fun j hj => (ni_left (by omega)).symm)) hlo B #[.int .i64 (v : Int)] 3 (0, 0) cx hB hy rfl ni_news (by simp [Value.oneCell']) hn (by omega) fun g' cap w' hp => hK g' cap w' (hT.push hp) hp.below hp.grown
theorem step_twoA (W : World) (hgd : o.guard = none) (s y : Operand)
 (ho : o.op = .call { callee := .builtin .append, args := #[s, y], argTypes := #[22, 22] })
 (hT : TwoN W lo A1 c1 T A2 c2 U) (hlo : lo ≤ W.heap.size) (hs : a.eval s = .slice A1 T.length c1)
 (A3 : Option Addr) (c3 : Nat) (S : List Nat) (hy : a.eval y = .slice A3 S.length c3) (hr : LN W A3 c3 S) (hn : T.length ≤ 1000) (hm : S.length ≤ 1000)
 (hK : ∀ A' cap w', TwoN w' lo A' cap (T ++ S) A2 c2 U → Below lo W w' → W.grownBy w' (Value.slice A1 T.length c1).ownBlock → K (a.put o.dst (.slice A' (T.length + S.length) cap)) w') :
 if Region.wanted o (yielded ops a.tmps) = true then Oper.wp Tryz.prog o a W K Q else E := by
 have hw : Region.wanted o (yielded ops a.tmps) = true := by simp [Region.wanted, hgd]
 rw [if_pos hw];obtain ⟨A', c', w', hrun, h2, h3, h4, h5⟩ := run_appendI W o.type hT.o1 hr.rd hlo (by omega) (by omega);unfold Oper.wp execOp;simp only [ho, resolve, invoke, builtin, Sem.run_bind, Sem.run_pure, Result.andThen_ok, List.map_toArray, List.map_cons, List.map_nil, hs, hy, hrun];refine hK _ _ _ (hT.grow (n := T.length + S.length) (by rw [List.length_append]; exact h2.congr fun j _ => thenI_niM) ?_ ?_) h3 h5
 ·cases A1 <;> exact h5
 ·cases A1 <;> exact h4
theorem step_two0 (W : World) (hgd : o.guard = none) (s y : Operand)
 (ho : o.op = .call { callee := .builtin .append, args := #[s, y], argTypes := #[22, 22] })
 (hT : TwoN W lo A1 c1 [] A2 c2 U) (hlo : lo ≤ W.heap.size) (hs : a.eval s = .slice A1 0 c1)
 (A3 : Option Addr) (c3 : Nat) (S : List Nat) (hy : a.eval y = .slice A3 S.length c3) (hr : LN W A3 c3 S) (hm : S.length ≤ 1000)
 (hK : ∀ A' cap w', TwoN w' lo A' cap S A2 c2 U → Below lo W w' → W.grownBy w' (Value.slice A1 0 c1).ownBlock → K (a.put o.dst (.slice A' S.length cap)) w') :
 if Region.wanted o (yielded ops a.tmps) = true then Oper.wp Tryz.prog o a W K Q else E :=
 step_twoA W hgd s y ho hT hlo hs A3 c3 S hy hr (by simp) hm fun A' cap w' h1 h2 h3 => by
  rw [List.nil_append] at h1
  rw [List.length_nil, Nat.zero_add]
  exact hK A' cap w' h1 h2 h3
theorem wpList_twoN (W : World) {rest : List Oper} {Qx : Exit → Act → World → Prop} (hgd : o.guard = none) (s y : Operand)
 (ho : o.op = .call { callee := .builtin .append, args := #[s, y], argTypes := #[22, 22] })
 (hT : TwoN W lo A1 c1 T A2 c2 U) (hlo : lo ≤ W.heap.size) (hs : a.eval s = .slice A1 T.length c1)
 (B cx v : Nat) (hy : a.eval y = .slice (some ⟨B, 0, none⟩) 1 cx) (hB : W.heap[B]? = some (.cells #[.int .i64 (v : Int)] 3 (0, 0))) (hn : T.length ≤ 1073741824)
 (hK : ∀ g' cap w', TwoN w' lo (some ⟨g', 0, none⟩) cap (T ++ [v]) A2 c2 U → Below lo W w' → wpList Tryz.prog ops Qx rest (a.put o.dst (.slice (some ⟨g', 0, none⟩) (T.length + 1) cap)) w') :
 wpList Tryz.prog ops Qx (o :: rest) a W :=
 wpList_push W hgd s y 22 ho 3 _ 1 8 Tryz.underlying22 info_int rfl (by omega) lo W.heap.size A1 T.length c1 (ni (T ++ [v])) hs (hT.o1.congr (fun j hj => (ni_left (by omega)).symm)) hlo B #[.int .i64 (v : Int)] 3 (0, 0) cx hB hy rfl ni_news (by simp [Value.oneCell']) hn (by omega) fun g' cap w' hp => hK g' cap w' (hT.push hp) hp.below
end
structure MB (w : World) (q : Nat) (A1 : Option Addr) (n1 c1 : Nat) (A2 : Option Addr) (n2 c2 : Nat) : Prop where
 c0 : w.cell? ⟨q, 0, none⟩ = some (.slice A1 n1 c1)
 c1 : w.cell? ⟨q, 1, none⟩ = some (.slice A2 n2 c2)
 f0 : w.frozen? ⟨q, 0, none⟩ = false
 f1 : w.frozen? ⟨q, 1, none⟩ = false
section
variable {w w' : World} {q n1 c1 n2 c2 m1 d1 m2 d2 lo hi : Nat} {A1 A2 B1 B2 : Option Addr}
theorem MB.lt (h : MB w q A1 n1 c1 A2 n2 c2) : q < w.heap.size := World.block_lt_of_cell? _ _ h.c0
theorem MB.keep (h : MB w q A1 n1 c1 A2 n2 c2) (hb : Below w.heap.size w w') : MB w' q A1 n1 c1 A2 n2 c2 := ⟨up hb h.c0 h.lt, up hb h.c1 h.lt, upf hb h.f0 h.lt, upf hb h.f1 h.lt⟩
theorem MB.keepB {B : Nat} (h : MB w q A1 n1 c1 A2 n2 c2) (hb : Below B w w') (hq : q < B) : MB w' q A1 n1 c1 A2 n2 c2 := ⟨up hb h.c0 hq, up hb h.c1 hq, upf hb h.f0 hq, upf hb h.f1 hq⟩
theorem MB.new (w : World) : MB (w.alloc (Obj.cells #[.slice none 0 0, .slice none 0 0] 141)) w.heap.size none 0 0 none 0 0 := by constructor <;> simp [go_sem]
theorem MB.set (h : MB w q A1 n1 c1 A2 n2 c2) : MB ((w.setCell ⟨q, 0, none⟩ (.slice B1 m1 d1)).setCell ⟨q, 1, none⟩ (.slice B2 m2 d2)) q B1 m1 d1 B2 m2 d2 := by
 have h0 := h.c0;have h1 := h.c1;have h2 := h.f0;have h3 := h.f1;constructor <;> simp [go_sem, h0, h1, h2, h3]
theorem MB.drew (h : MB w q A1 n1 c1 A2 n2 c2) : MB w.drew q A1 n1 c1 A2 n2 c2 := ⟨h.c0, h.c1, h.f0, h.f1⟩
end
def fpO (l : List Nat) (v : Nat) : Option Nat := (List.range l.length).find? fun j => (l.getD j 0).testBit v
def lpK (l : List Nat) (v : Nat) : Nat → Int
 | 0 => -1
 | i + 1 => if (l.getD i 0).testBit v = true then (i : Int) else lpK l v i
def mdB (l : List Nat) (n : Nat) : Bool := (List.range n).all fun v => (fpO l v).isSome
def mdF (l : List Nat) (n : Nat) : Bool := decide (1 ≤ l.length) && decide (l.length ≤ 20) && mdB l n
def mdL (l : List Nat) (n : Nat) : List Nat := (List.range n).map fun v => (fpO l v).getD 0
def mdR (l : List Nat) (n : Nat) : List Nat := (List.range n).map fun v => (lpK l v l.length).toNat
def mdV (l : List Nat) (n : Nat) : Option (List Nat × List Nat) := if mdF l n = true then some (mdL l n, mdR l n) else none
theorem mdV_no {l : List Nat} {n : Nat} (h : mdF l n = false) : mdV l n = none := by unfold mdV; rw [h]; rfl
theorem mdV_yes {l : List Nat} {n : Nat} (h : mdF l n = true) : mdV l n = some (mdL l n, mdR l n) := by unfold mdV; rw [if_pos h]
theorem mdF_len {l : List Nat} {n : Nat} (h : ¬ (1 ≤ l.length ∧ l.length ≤ 20)) : mdF l n = false := by
 unfold mdF;cases h1 : decide (1 ≤ l.length)
 ·rfl
 ·cases h2 : decide (l.length ≤ 20)
  ·rfl
  ·exact absurd ⟨of_decide_eq_true h1, of_decide_eq_true h2⟩ h
theorem mdF_is {l : List Nat} {n : Nat} (h1 : 1 ≤ l.length) (h2 : l.length ≤ 20) : mdF l n = mdB l n := by unfold mdF; rw [decide_eq_true h1, decide_eq_true h2]; rfl
theorem mdL_len {l : List Nat} {n : Nat} : (mdL l n).length = n := by unfold mdL; simp
theorem mdR_len {l : List Nat} {n : Nat} : (mdR l n).length = n := by unfold mdR; simp
theorem mdL_succ {l : List Nat} {n f : Nat} (h : fpO l n = some f) : mdL l (n + 1) = mdL l n ++ [f] := by
 unfold mdL;rw [List.range_succ, List.map_append, List.map_singleton, h];rfl
theorem mdR_succ {l : List Nat} {n z : Nat} (h : lpK l n l.length = (z : Int)) : mdR l (n + 1) = mdR l n ++ [z] := by
 unfold mdR;rw [List.range_succ, List.map_append, List.map_singleton, h];rfl
theorem mdB_no {l : List Nat} {n v : Nat} (hv : v < n) (h : fpO l v = none) : mdB l n = false := by
 unfold mdB;rw [List.all_eq_false];exact ⟨v, List.mem_range.2 hv, by rw [h]; simp⟩
theorem mdB_yes {l : List Nat} {n : Nat} (h : ∀ v, v < n → ∃ f, fpO l v = some f) : mdB l n = true := by
 unfold mdB;rw [List.all_eq_true];intro v hv;obtain ⟨f, hf⟩ := h v (List.mem_range.1 hv);rw [hf];rfl
theorem fpO_some {l : List Nat} {v f : Nat} (h : fpO l v = some f) : f < l.length ∧ (l.getD f 0).testBit v = true ∧ ∀ j, j < f → (l.getD j 0).testBit v = false := by
 unfold fpO at h;rw [List.find?_range_eq_some] at h;obtain ⟨h1, h2, h3⟩ := h;exact ⟨List.mem_range.1 h2, h1, fun j hj => by simpa using h3 j hj⟩
theorem fpO_idx {l : List Nat} {v : Nat} : fIdx (fun j => (l.getD j 0).testBit v) l.length = match fpO l v with | some k => (k : Int) | none => -1 := rfl
theorem lpK_ge {l : List Nat} {v j : Nat} (hb : (l.getD j 0).testBit v = true) : ∀ i, j < i → (j : Int) ≤ lpK l v i
 | 0, h => absurd h (by omega)
 | i + 1, h => by
   unfold lpK
   by_cases e : (l.getD i 0).testBit v = true
   ·rw [if_pos e]; omega
   ·rw [if_neg e]
    have : j ≠ i := fun e2 => e (e2 ▸ hb)
    exact lpK_ge hb i (by omega)
theorem lpK_lo {l : List Nat} {v f : Nat} (h : ∀ j, j < f → (l.getD j 0).testBit v = false) : ∀ i, i ≤ f → lpK l v i = -1
 | 0, _ => rfl
 | i + 1, hi => by
   unfold lpK
   rw [if_neg (by rw [h i (by omega)]; simp)]
   exact lpK_lo h i (by omega)
theorem lpK_yes {l : List Nat} {v i : Nat} (h : (l.getD i 0).testBit v = true) : lpK l v (i + 1) = (i : Int) := by rw [lpK, if_pos h]
theorem lpK_no {l : List Nat} {v i : Nat} (h : (l.getD i 0).testBit v = false) : lpK l v (i + 1) = lpK l v i := by rw [lpK, if_neg (by rw [h]; simp)]
def lmK (l : List Nat) (v f i : Nat) : Int := if lpK l v i < (f : Int) then (f : Int) else lpK l v i
theorem lmK_at {l : List Nat} {v f : Nat} (h : ∀ j, j < f → (l.getD j 0).testBit v = false) : lmK l v f f = (f : Int) := by
 unfold lmK;rw [lpK_lo h f nr_, if_pos (by omega)]
theorem lmK_yes {l : List Nat} {v f i : Nat} (hi : f ≤ i) (h : (l.getD i 0).testBit v = true) : lmK l v f (i + 1) = (i : Int) := by
 unfold lmK;rw [lpK_yes h];split <;> omega
theorem lmK_no {l : List Nat} {v f i : Nat} (h : (l.getD i 0).testBit v = false) : lmK l v f (i + 1) = lmK l v f i := by unfold lmK; rw [lpK_no h]
theorem lmK_end {l : List Nat} {v f : Nat} (h : fpO l v = some f) : lpK l v l.length = ((lmK l v f l.length).toNat : Int) ∧ lmK l v f l.length = ((lmK l v f l.length).toNat : Int) := by
 obtain ⟨h1, h2, _⟩ := fpO_some h;have := lpK_ge h2 l.length h1;have e : lmK l v f l.length = lpK l v l.length := by
  unfold lmK;rw [if_neg (by omega)]
 rw [e];omega
theorem fpO_idxZ {l : List Nat} {v : Nat} : fIdx (fun j => ((l.map fun s : Nat => (s : Int)).getD j 0).toNat.testBit v) l.length = match fpO l v with | some k => (k : Int) | none => -1 := by
 rw [← fpO_idx];congr 1;funext j
 have : (l.map fun s : Nat => (s : Int)).getD j 0 = ((l.getD j 0 : Nat) : Int) := by
  rw [List.getD_eq_getElem?_getD, List.getD_eq_getElem?_getD, List.getElem?_map];cases l[j]? <;> rfl
 rw [this];rfl
def pG (o : Option (List Nat × List Nat)) : List Nat × List Nat := o.getD ([], [])
def ivQ (w : World) (o : Option (List Nat × List Nat)) (e : Ending) (w' : World) : Prop :=
 ∃ A1 c1 A2 c2, e = .returned (.tuple #[.agg #[.slice A1 (pG o).1.length c1, .slice A2 (pG o).2.length c2], .bool o.isSome]) ∧ TwoN w' w.heap.size A1 c1 (pG o).1 A2 c2 (pG o).2 ∧ Below w.heap.size w w'
theorem ivQ.no {w w' : World} (hb : Below w.heap.size w w') : ivQ w none (.returned (.tuple #[.agg #[.slice none 0 0, .slice none 0 0], .bool false])) w' := ⟨none, 0, none, 0, rfl, TwoN.nil _ _, hb⟩
theorem ivQ.yes {w w' : World} {A1 A2 : Option Addr} {c1 c2 : Nat} {l k : List Nat} (h : TwoN w' w.heap.size A1 c1 l A2 c2 k) (hb : Below w.heap.size w w') : ivQ w (some (l, k)) (.returned (.tuple #[.agg #[.slice A1 l.length c1, .slice A2 k.length c2], .bool true])) w' := ⟨A1, c1, A2, c2, rfl, h, hb⟩
end Go.Proofs.YtdpkbfiggbcclaaGreat
