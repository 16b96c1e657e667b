/-
  Contracts of the law's helpers that mark a claim and ask whether it holds its marks.
-/
import Derived.Test.YtnnlmdenffnjbaaQbClaim
import Derived.Test.YtnnlmdenffnjbaaQbGL
import Derived.Test.YtnnlmdenffnjbaaQbV
namespace Go.Proofs.Ytnnlmdenffnjbaa
open Go.RowKit

/-- No two slices of a claim lie at one place. -/
structure ApK (k : Clm) : Prop where
  a01 : ∀ a, k.A0 = some a → k.A1 ≠ some a
  a02 : ∀ a, k.A0 = some a → k.A2 ≠ some a
  a12 : ∀ a, k.A1 = some a → k.A2 ≠ some a
  d0 : ∀ d ∈ k.D, ∀ a, k.A0 = some a → d.1 ≠ some a
  d1 : ∀ d ∈ k.D, ∀ a, k.A1 = some a → d.1 ≠ some a
  d2 : ∀ d ∈ k.D, ∀ a, k.A2 = some a → d.1 ≠ some a
def mkK (q : Int) (k : Clm) : Clm := { k with x0 := fun j => q + j, x1 := fun j => q + k.n0 + j, x2 := fun j => q + k.n0 + k.n1 + j, D := mkD (q + k.n0 + k.n1 + k.n2) k.D }

theorem Own.nar {w : World} {lo hi : Nat} {e : TypeId} {s n c : Nat} {A : Option Addr} {x : Nat → Value} (h : Own w lo hi e s A n c x) (hhi : hi ≤ w.heap.size) :
    ∃ a b, Own w a b e s A n c x ∧ b ≤ w.heap.size ∧ (∀ w', Fr a b w w' → Fr lo hi w w') ∧ (∀ (w' : World) (e' : TypeId) (s' n' c' lo' hi' : Nat) (A' : Option Addr) (y : Nat → Value), Fr a b w w' → (∀ z, A = some z → A' ≠ some z) → Own w lo' hi' e' s' A' n' c' y → Own w' lo' hi' e' s' A' n' c' y) ∧ (∀ p, p < lo ∨ hi ≤ p → p < a ∨ b ≤ p) ∧ ∀ (w' : World) (y : Nat → Value), Own w' a b e s A n c y → Own w' lo hi e s A n c y := by
  rcases h with h | ⟨g, cur, k1, k2, k3, r⟩
  · exact ⟨0, 0, .inl h, Nat.zero_le _, fun w' hf => ⟨hf.os, hf.tape, hf.output, hf.size, fun k hk _ => hf.block k hk (.inr (Nat.zero_le _))⟩, fun w' _ _ _ _ _ _ _ _ hf _ h2 => h2.keep hf (.inr (Nat.zero_le _)), fun p _ => .inr (Nat.zero_le _), fun w' y _ => .inl h⟩
  · exact ⟨g, g + 1, .inr ⟨g, cur, k1, Nat.le_refl _, Nat.lt_succ_self _, r⟩, by omega, fun w' hf => hf.mono k2 k3, fun w' _ _ _ _ _ _ _ _ hf hne h2 => h2.keep1 hf (hne _ k1), fun p hp => by omega, fun w' y h2 => h2.mono k2 k3⟩
theorem Own.row_not {w : World} {lo hi lo2 hi2 s2 n c n2 c2 : Nat} {A A2 : Option Addr} {x y : Nat → Value} (h : Own w lo hi 3 1 A n c x) (k : Own w lo2 hi2 22 s2 A2 n2 c2 y) : ∀ z, A = some z → A2 ≠ some z := by
  intro z hz
  rcases h with ⟨h0, _⟩ | ⟨g, cur, k1, k2, k3, r⟩
  · rw [h0] at hz; cases hz
  · rw [k1] at hz
    injection hz with hz
    subst hz
    exact (Own.types (.inr ⟨g, cur, k1, k2, k3, r⟩ : Own w lo hi 3 1 A n c x) k (by decide) k1)

set_option maxHeartbeats 1000000 in
theorem markIntSS_apart (A : Option Addr) (c : Nat) (D : List Dsc) (k : Int) (w : World) (lo hi : Nat) (h : OwnD w lo hi A c D) (hhi : hi ≤ w.heap.size) (hn : D.length ≤ 1073741824) (ht : tot D ≤ 1073741824) (hk0 : 0 ≤ k) (hk1 : k ≤ 1099511627776) :
    Calls Try.prog 45 #[.slice A D.length c, .int .i64 k] w fun e w' => e = .returned (.int .i64 (k + tot D)) ∧ OwnD w' lo hi A c (mkD k D) ∧ Fr lo hi w w' ∧ (∀ (e' : TypeId) (s' n' c' : Nat) (A' : Option Addr) (y : Nat → Value), Own w lo hi e' s' A' n' c' y → (∀ d ∈ D, ∀ a, d.1 = some a → A' ≠ some a) → Own w' lo hi e' s' A' n' c' y) := by
  obtain ⟨n, hnn⟩ : ∃ n, n = D.length := ⟨_, rfl⟩
  rw [← hnn] at hn ⊢
  have Hn := Lib.hid hnn
  clear hnn
  go_enter Try.func45, Try.ntmps45
  go_wp2
  go_loopw [1, 5] (fun kk i wr => ∃ j : Nat, j ≤ n ∧ i = .int .i64 j ∧ kk = .int .i64 (k + tot (D.take j)) ∧ Hid (OwnD wr lo hi A c (mkD k (D.take j) ++ D.drop j)) ∧ Fr lo hi w wr ∧ Hid (∀ (e' : TypeId) (s' n' c' : Nat) (A' : Option Addr) (y : Nat → Value), Own w lo hi e' s' A' n' c' y → (∀ d ∈ D, ∀ a, d.1 = some a → A' ≠ some a) → Own wr lo hi e' s' A' n' c' y)) (fun _ i _ => n - (intOf i).toNat)
  case atStart => exact ⟨0, Nat.zero_le _, rfl, by simp [tot], by simpa [Hid, mkD] using h, Fr.refl _ _ _, fun _ _ _ _ _ _ h _ => h⟩
  case round =>
    obtain ⟨j, hj, rfl, rfl, hown, hfr, hpr⟩ := hrel
    by_cases hlt : j < n
    · have hjD : j < D.length := by rw [← Hn.out]; exact hlt
      obtain ⟨d, hd⟩ : ∃ d, D[j]? = some d := ⟨_, List.getElem?_eq_getElem hjD⟩
      have hdrop : D.drop j = d :: D.drop (j + 1) := by
        rw [List.drop_eq_getElem_cons hjD]
        rw [List.getElem?_eq_getElem hjD] at hd
        simp only [Option.some.injEq] at hd
        rw [hd]
      have htake := take_at hd
      obtain ⟨P, hP⟩ : ∃ P, P = mkD k (D.take j) := ⟨_, rfl⟩
      obtain ⟨T, hT⟩ : ∃ T, T = D.drop (j + 1) := ⟨_, rfl⟩
      have hPl : P.length = j := by rw [hP, length_mkD, List.length_take]; omega
      have ho := hown.out
      rw [hdrop, ← hP, ← hT] at ho
      have htl := tot_take_le D (j + 1)
      rw [htake, tot_snoc] at htl
      obtain ⟨kk, hkk⟩ : ∃ kk, kk = k + tot (D.take j) := ⟨_, rfl⟩
      rw [← hkk]
      have hlen : (P ++ d :: T).length = n := by
        rw [List.length_append, List.length_cons, hPl, hT, List.length_drop, ← Hn.out]; omega
      have hz := hfr.size
      have hod := ho.2.1 d (by simp)
      obtain ⟨g, hcage, hg⟩ := hod.cage (by omega)
      have hout := ho.1
      rw [hlen] at hout
      obtain ⟨G, rfl, G1, G2, G3, hc, _⟩ := hout.at_ (by omega)
      have f1 := hc j (by omega)
      have hdvj : dvs (P ++ d :: T) j = dv d := by
        unfold dvs
        simp [List.getD, hPl]
      rw [hdvj] at f1
      have hnew : ∀ w' : World, Own w' g (g + 1) 3 1 d.1 d.2.2.length d.2.1 (mks kk (ii d.2.2) d.2.2.length) → Fr g (g + 1) wr w' → OwnD w' lo hi (some ⟨G, 0, none⟩) c (mkD k (D.take (j + 1)) ++ D.drop (j + 1)) := by
        intro w' h1 h2
        rw [htake, mkD_snoc, ← hP, ← hT, List.append_assoc, List.singleton_append]
        have hl2 : (P ++ (d.1, d.2.1, mkl (k + tot (D.take j)) d.2.2) :: T).length = (P ++ d :: T).length := by simp
        have hap := List.pairwise_append.1 ho.2.2
        have hapc := List.pairwise_cons.1 hap.2.1
        refine ⟨?_, ?_, ?_⟩
        · rw [hl2]
          have q := (ho.1).uncaged (A := d.1) h2 hg (fun a ha hA => by
            rcases hg with ⟨hg1, _⟩ | ⟨hg1, _⟩
            · rw [hg1] at ha
              simp only [Option.some.injEq] at ha
              subst ha
              exact hod.types ho.1 (by decide) hg1 hA
            · rw [hg1] at ha; cases ha)
          refine q.congr (fun i hi => ?_)
          unfold dvs
          by_cases h3 : i < P.length
          · simp [List.getD, List.getElem?_append_left h3]
          · simp only [List.getD, List.getElem?_append_right (show P.length ≤ i by omega)]
            rcases Nat.eq_zero_or_pos (i - P.length) with h4 | h4
            · rw [h4]; simp [dv, length_mkl]
            · obtain ⟨m, hm⟩ : ∃ m, i - P.length = m + 1 := ⟨i - P.length - 1, by omega⟩
              rw [hm]; simp
        · intro e he
          rw [List.mem_append, List.mem_cons] at he
          have other : ∀ e : Dsc, e ∈ P ++ d :: T → (∀ a, d.1 = some a → e.1 ≠ some a) → Own w' lo hi 3 1 e.1 e.2.2.length e.2.1 (ii e.2.2) := fun e he hne => (ho.2.1 e he).uncaged (A := d.1) h2 hg hne
          rcases he with he | rfl | he
          · refine other e (by simp [he]) (fun a ha hA => ?_)
            exact hap.2.2 e he d (by simp) a hA ha
          · have := (h1.congr (ii_mkl kk d.2.2))
            rw [hkk] at this
            show Own w' lo hi 3 1 d.1 (mkl (k + tot (D.take j)) d.2.2).length d.2.1 _
            rw [length_mkl]
            rcases hg with ⟨_, hg2, hg3⟩ | ⟨hg1, _⟩
            · exact this.mono hg2 hg3
            · rcases this with h6 | ⟨_, _, h6, _⟩
              · exact .inl h6
              · rw [hg1] at h6; cases h6
          · refine other e (by simp [he]) (fun a ha hA => ?_)
            exact hapc.1 e he a ha hA
        · refine List.pairwise_append.2 ⟨hap.1, List.pairwise_cons.2 ⟨hapc.1, hapc.2⟩, ?_⟩
          intro e he f hf a ha
          rw [List.mem_cons] at hf
          rcases hf with rfl | hf
          · exact hap.2.2 e he d (by simp) a ha
          · exact hap.2.2 e he f (by simp [hf]) a ha
      have hnew2 : ∀ w' : World, Fr g (g + 1) wr w' → (∀ (e' : TypeId) (s' n' c' : Nat) (A' : Option Addr) (y : Nat → Value), Own w lo hi e' s' A' n' c' y → (∀ d ∈ D, ∀ a, d.1 = some a → A' ≠ some a) → Own w' lo hi e' s' A' n' c' y) := fun w' h2 e' s' n' c' A' y hy hne => (hpr.out e' s' n' c' A' y hy hne).uncaged (A := d.1) h2 hg (hne d (List.mem_of_getElem? hd))
      have hk2 : k + tot (D.take (j + 1)) = kk + d.2.2.length := by rw [htake, tot_snoc, hkk]; push_cast; omega
      have k0 : 0 ≤ kk := by omega
      have k1 : kk ≤ 2199023255552 := by omega
      have hm7 : d.2.2.length ≤ 1073741824 := by omega
      obtain ⟨da, dc, dl⟩ := d
      simp only [dv] at f1 hm7 hk2 hcage hnew hg
      obtain ⟨m, hm2⟩ : ∃ m, m = dl.length := ⟨_, rfl⟩
      rw [← hm2] at f1 hm7 hk2 hcage hnew
      have HK := Lib.hid hk2
      have HC := Lib.hid hcage
      have HN := Lib.hid hnew
      have HN2 := Lib.hid hnew2
      have HG := Lib.hid hg
      have HF := Lib.hid hfr
      clear hc hod hd hdrop htake hPl ho htl hlen hout hdvj hnew hnew2 hpr hk2 hcage hg hm2 hfr hown h hP hT hjD ht hkk
      go_wp2_with fail
      refine (markIntS_any da m dc _ kk wr g (g + 1) HC.out (by omega) k0 (by omega)).mono ?_
      rintro e w1 ⟨rfl, ho1, hf1⟩
      have H1 := Lib.hid (HN.out w1 ho1 hf1)
      have H2 := Lib.hid (HF.out.trans (hf1.uncaged HG.out))
      have H3 := Lib.hid (HN2.out w1 hf1)
      clear ho1 hf1 f1
      go_wp2
      go_roundw
      case rel => exact ⟨j + 1, by omega, by go_num, congrArg (Value.int .i64) HK.out.symm, H1, H2.out, H3⟩
      case measure => simp [intOf]; omega
    · obtain rfl : j = n := by omega
      have ho := hown.out
      rw [List.take_of_length_le (by rw [← Hn.out]; exact Nat.le_refl _), List.drop_eq_nil_of_le (by rw [← Hn.out]; exact Nat.le_refl _), List.append_nil] at ho
      have e2 : tot (D.take j) = tot D := by rw [List.take_of_length_le (by rw [← Hn.out]; exact Nat.le_refl _)]
      rw [e2]
      have H1 := Lib.hid ho
      have H2 := Lib.hid hfr
      clear ho hown hfr h e2
      go_wp2
      go_ret
      exact ⟨rfl, H1.out, H2.out, hpr.out⟩

set_option maxRecDepth 100000 in
set_option maxHeartbeats 1600000 in
theorem markClaim_any (k : Clm) (q : Int) (w : World) (lo hi : Nat) (h : OwnK w lo hi k) (ha : ApK k) (hs : SmK k) (hq0 : 0 ≤ q) (hq1 : q ≤ 1048576) (hhi : hi ≤ w.heap.size) :
    Calls Try.prog 31 #[.agg #[.int .i64 k.K, .int .i64 k.s, .slice k.A0 k.n0 k.c0, .string k.t, .slice k.A1 k.n1 k.c1, .slice k.A2 k.n2 k.c2, .slice k.A3 k.D.length k.c3], .int .i64 q] w fun e w' => e = .returned (.int .i64 (q + k.n0 + k.n1 + k.n2 + tot k.D)) ∧ OwnK w' lo hi (mkK q k) ∧ Fr lo hi w w' := by
  obtain ⟨s0, _, s1, s2, s3, s4⟩ := hs
  obtain ⟨W, hW⟩ : ∃ W : World, W = w.alloc (Obj.cells #[.int .i64 k.K, .int .i64 k.s, .slice k.A0 k.n0 k.c0, .string k.t, .slice k.A1 k.n1 k.c1, .slice k.A2 k.n2 k.c2, .slice k.A3 k.D.length k.c3] 46) := ⟨_, rfl⟩
  have hb : Below w.heap.size w W := by rw [hW]; exact (Below.refl _ _).alloc (Nat.le_refl _) _
  have z0 : w.heap.size < W.heap.size := by rw [hW]; simp
  have e1 : W.cell? ⟨w.heap.size, 1, none⟩ = some (.int .i64 k.s) := by rw [hW]; simp [go_sem]
  have e2 : W.cell? ⟨w.heap.size, 2, none⟩ = some (.slice k.A0 k.n0 k.c0) := by rw [hW]; simp [go_sem]
  have e4 : W.cell? ⟨w.heap.size, 4, none⟩ = some (.slice k.A1 k.n1 k.c1) := by rw [hW]; simp [go_sem]
  have e5 : W.cell? ⟨w.heap.size, 5, none⟩ = some (.slice k.A2 k.n2 k.c2) := by rw [hW]; simp [go_sem]
  have e6 : W.cell? ⟨w.heap.size, 6, none⟩ = some (.slice k.A3 k.D.length k.c3) := by rw [hW]; simp [go_sem]
  obtain ⟨o0, o1, o2, o3⟩ := h.keepB hb hhi
  have HB := Lib.hid hb
  have HW := Lib.hid hW
  obtain ⟨a0, b0, n0, m0, f0, k0, p0, g0⟩ := o0.nar (by omega)
  have O0 := Lib.hid n0
  have O1 := Lib.hid o1
  have O2 := Lib.hid o2
  have O3 := Lib.hid o3
  have F0 := Lib.hid f0
  have K0 := Lib.hid k0
  have P0 := Lib.hid p0
  have G0 := Lib.hid g0
  have R0 := Lib.hid (o0.row_not o3.1)
  clear hb hW h o0 o1 o2 o3 n0 f0 k0 p0 g0
  go_enter Try.func31, Try.ntmps31
  go_wp2_with fail
  rw [← HW.out]
  clear HW
  refine (markGraph_any k.s k.A0 k.n0 k.c0 _ q W a0 b0 O0.out s0 hq0 (by omega) m0).mono ?_
  rintro e w1 ⟨rfl, ho, hf⟩
  have q0 := P0.out w.heap.size (.inr hhi)
  have z1 := hf.size
  have g4 := frC_ hf e4 z0 q0
  have g5 := frC_ hf e5 z0 q0
  have g6 := frC_ hf e6 z0 q0
  have o0 := G0.out _ _ (Own.marked ho)
  have o1 := K0.out w1 _ _ _ _ _ _ _ _ hf (ha.a01) O1.out
  have o2 := K0.out w1 _ _ _ _ _ _ _ _ hf (ha.a02) O2.out
  have o3 : OwnD w1 lo hi k.A3 k.c3 k.D := ⟨K0.out w1 _ _ _ _ _ _ _ _ hf R0.out O3.out.1, fun d hd => K0.out w1 _ _ _ _ _ _ _ _ hf (ha.d0 d hd) (O3.out.2.1 d hd), O3.out.2.2⟩
  have HF1 := Lib.hid (F0.out _ hf)
  obtain ⟨a1, b1, n1, m1, f1, k1, p1, g1⟩ := o1.nar (by omega)
  have zz1 : w.heap.size < w1.heap.size := by omega
  have M0 := Lib.hid o0
  have N1 := Lib.hid n1
  have N2 := Lib.hid o2
  have N3 := Lib.hid o3
  have F1 := Lib.hid f1
  have K1 := Lib.hid k1
  have P1 := Lib.hid p1
  have G1 := Lib.hid g1
  have R1 := Lib.hid (o1.row_not o3.1)
  clear ho hf e1 e2 e4 e5 e6 o0 o1 o2 o3 n1 f1 k1 p1 g1 O0 O1 O2 O3 F0 K0 P0 R0 G0 q0
  go_wp2_with fail
  refine (markIntS_any k.A1 k.n1 k.c1 _ (q + k.n0) w1 a1 b1 N1.out (by omega) (by omega) (by omega)).mono ?_
  rintro e w2 ⟨rfl, ho, hf⟩
  have q0 := P1.out w.heap.size (.inr hhi)
  have z2 := hf.size
  have h5 := frC_ hf g5 zz1 q0
  have h6 := frC_ hf g6 zz1 q0
  have o1 := G1.out _ _ (Own.marked ho)
  have o0 := K1.out w2 _ _ _ _ _ _ _ _ hf (fun z hz hz2 => ha.a01 z hz2 hz) M0.out
  have o2 := K1.out w2 _ _ _ _ _ _ _ _ hf (ha.a12) N2.out
  have o3 : OwnD w2 lo hi k.A3 k.c3 k.D := ⟨K1.out w2 _ _ _ _ _ _ _ _ hf R1.out N3.out.1, fun d hd => K1.out w2 _ _ _ _ _ _ _ _ hf (ha.d1 d hd) (N3.out.2.1 d hd), N3.out.2.2⟩
  have HF2 := Lib.hid (HF1.out.trans (F1.out _ hf))
  obtain ⟨a2, b2, n2, m2, f2, k2, p2, g2⟩ := o2.nar (by omega)
  have zz2 : w.heap.size < w2.heap.size := by omega
  have M0' := Lib.hid o0
  have M1 := Lib.hid o1
  have N2' := Lib.hid n2
  have N3' := Lib.hid o3
  have F2 := Lib.hid f2
  have K2 := Lib.hid k2
  have P2 := Lib.hid p2
  have G2 := Lib.hid g2
  have R2 := Lib.hid (o2.row_not o3.1)
  clear ho hf g4 g5 g6 o0 o1 o2 o3 n2 f2 k2 p2 g2 M0 N1 N2 N3 F1 K1 P1 R1 G1 HF1 q0
  go_wp2_with fail
  refine (markIntS_any k.A2 k.n2 k.c2 _ (q + k.n0 + k.n1) w2 a2 b2 N2'.out (by omega) (by omega) (by omega)).mono ?_
  rintro e w3 ⟨rfl, ho, hf⟩
  have q0 := P2.out w.heap.size (.inr hhi)
  have z3 := hf.size
  have i6 := frC_ hf h6 zz2 q0
  have o2 := G2.out _ _ (Own.marked ho)
  have o0 := K2.out w3 _ _ _ _ _ _ _ _ hf (fun z hz hz2 => ha.a02 z hz2 hz) M0'.out
  have o1 := K2.out w3 _ _ _ _ _ _ _ _ hf (fun z hz hz2 => ha.a12 z hz2 hz) M1.out
  have o3 : OwnD w3 lo hi k.A3 k.c3 k.D := ⟨K2.out w3 _ _ _ _ _ _ _ _ hf R2.out N3'.out.1, fun d hd => K2.out w3 _ _ _ _ _ _ _ _ hf (ha.d2 d hd) (N3'.out.2.1 d hd), N3'.out.2.2⟩
  have HF3 := Lib.hid (HF2.out.trans (F2.out _ hf))
  have M0 := Lib.hid o0
  have M1' := Lib.hid o1
  have M2 := Lib.hid o2
  have N3 := Lib.hid o3
  have zz3 : w.heap.size < w3.heap.size := by omega
  clear ho hf h5 h6 o0 o1 o2 o3 M0' M1 N2' N3' F2 K2 P2 R2 G2 HF2 q0
  go_wp2_with fail
  refine (markIntSS_apart k.A3 k.c3 k.D (q + k.n0 + k.n1 + k.n2) w3 lo hi N3.out (by omega) (by omega) (by omega) (by omega) (by omega)).mono ?_
  rintro e w4 ⟨rfl, ho, hf, hp⟩
  have R0 := Lib.hid (hp _ _ _ _ _ _ M0.out (fun d hd a h1 h2 => ha.d0 d hd a h2 h1))
  have R1 := Lib.hid (hp _ _ _ _ _ _ M1'.out (fun d hd a h1 h2 => ha.d1 d hd a h2 h1))
  have R2 := Lib.hid (hp _ _ _ _ _ _ M2.out (fun d hd a h1 h2 => ha.d2 d hd a h2 h1))
  have R3 := Lib.hid ho
  have HF4 : Hid (Fr lo hi w w4) := ⟨(HF3.out.trans hf).os.trans HB.out.os, (HF3.out.trans hf).tape.trans HB.out.tape, (HF3.out.trans hf).output.trans HB.out.output, Nat.le_trans HB.out.size (HF3.out.trans hf).size, fun p hp hq => ((HF3.out.trans hf).block p (by omega) hq).trans (HB.out.block p hp)⟩
  clear ho hf hp i6 M0 M1' M2 N3 HF3
  go_wp2
  go_ret
  refine ⟨ret_int (by omega), ⟨R0.out, R1.out, R2.out, ?_⟩, HF4.out⟩
  have := R3.out
  exact this

theorem RdK.held {w : World} {B : Nat} {k : Clm} {q : Int} (h : RdK w B (mkK q k)) : Rd w B k.A0 k.n0 k.c0 (fun j => q + j) ∧ Rd w B k.A1 k.n1 k.c1 (fun j => q + k.n0 + j) ∧ Rd w B k.A2 k.n2 k.c2 (fun j => q + k.n0 + k.n1 + j) ∧ RdD w B k.A3 k.c3 (mkD (q + k.n0 + k.n1 + k.n2) k.D) := h
set_option maxRecDepth 100000 in
set_option maxHeartbeats 1600000 in
theorem heldClaim_yes (k : Clm) (q : Int) (w : World) (h : RdK w w.heap.size (mkK q k)) (hs : SmK k) (hq0 : 0 ≤ q) (hq1 : q ≤ 1048576) :
    Calls Try.prog 32 #[.agg #[.int .i64 k.K, .int .i64 k.s, .slice k.A0 k.n0 k.c0, .string k.t, .slice k.A1 k.n1 k.c1, .slice k.A2 k.n2 k.c2, .slice k.A3 k.D.length k.c3], .int .i64 q] w fun e w' => e = .returned (.int .i64 (q + k.n0 + k.n1 + k.n2 + tot k.D)) ∧ Below w.heap.size w w' := by
  obtain ⟨s0, _, s1, s2, s3, s4⟩ := hs
  obtain ⟨r0, r1, r2, r3⟩ := h.held
  obtain ⟨W, hW⟩ : ∃ W : World, W = w.alloc (Obj.cells #[.int .i64 k.K, .int .i64 k.s, .slice k.A0 k.n0 k.c0, .string k.t, .slice k.A1 k.n1 k.c1, .slice k.A2 k.n2 k.c2, .slice k.A3 k.D.length k.c3] 46) := ⟨_, rfl⟩
  have hb : Below w.heap.size w W := by rw [hW]; exact (Below.refl _ _).alloc (Nat.le_refl _) _
  have z0 : w.heap.size < W.heap.size := by rw [hW]; simp
  have e1 : W.cell? ⟨w.heap.size, 1, none⟩ = some (.int .i64 k.s) := by rw [hW]; simp [go_sem]
  have e2 : W.cell? ⟨w.heap.size, 2, none⟩ = some (.slice k.A0 k.n0 k.c0) := by rw [hW]; simp [go_sem]
  have e4 : W.cell? ⟨w.heap.size, 4, none⟩ = some (.slice k.A1 k.n1 k.c1) := by rw [hW]; simp [go_sem]
  have e5 : W.cell? ⟨w.heap.size, 5, none⟩ = some (.slice k.A2 k.n2 k.c2) := by rw [hW]; simp [go_sem]
  have e6 : W.cell? ⟨w.heap.size, 6, none⟩ = some (.slice k.A3 k.D.length k.c3) := by rw [hW]; simp [go_sem]
  have R0 := Lib.hid (r0.keep hb (Nat.le_refl _))
  have R1 := Lib.hid (r1.keep hb (Nat.le_refl _))
  have R2 := Lib.hid (r2.keep hb (Nat.le_refl _))
  have R3 := Lib.hid (r3.keep hb (Nat.le_refl _))
  have HB := Lib.hid hb
  have HW := Lib.hid hW
  clear hW hb r0 r1 r2 r3 h
  go_enter Try.func32, Try.ntmps32
  go_wp2_with fail
  rw [← HW.out]
  clear HW
  refine (heldGraph_yes k.s k.A0 k.n0 k.c0 q W _ R0.out s0 hq0 (by omega) (by omega)).mono ?_
  rintro e w1 ⟨rfl, hb1⟩
  have g4 := up hb1 e4 z0
  have g5 := up hb1 e5 z0
  have g6 := up hb1 e6 z0
  have HB1 := Lib.hid (HB.out.trans (hb1.mono HB.out.size))
  have S1 := Lib.hid (R1.out.keep (hb1.mono (by omega)) (Nat.le_refl _))
  have S2 := Lib.hid (R2.out.keep (hb1.mono (by omega)) (Nat.le_refl _))
  have S3 := Lib.hid (R3.out.keep (hb1.mono (by omega)) (Nat.le_refl _))
  have p0 : 0 ≤ q + (k.n0 : Int) := by omega
  have p1 : 0 ≤ q + (k.n0 : Int) + k.n1 := by omega
  have p2 : 0 ≤ q + (k.n0 : Int) + k.n1 + k.n2 := by omega
  have p3 : 0 ≤ q + (k.n0 : Int) + k.n1 + k.n2 + tot k.D := by omega
  clear hb1 e1 e2 e4 e5 e6 R0 R1 R2 R3 HB
  go_wp2_with fail
  refine (heldIntS_yes k.A1 k.n1 k.c1 (q + k.n0) w1 _ S1.out (by omega) (by omega) (by omega)).mono ?_
  rintro e w' ⟨rfl, rfl⟩
  go_wp2_with fail
  refine (heldIntS_yes k.A2 k.n2 k.c2 (q + k.n0 + k.n1) w1 _ S2.out (by omega) (by omega) (by omega)).mono ?_
  rintro e w' ⟨rfl, rfl⟩
  go_wp2_with fail
  refine (heldIntSS_yes k.A3 k.c3 k.D (q + k.n0 + k.n1 + k.n2) w1 _ S3.out (by omega) (by omega) (by omega) (by omega)).mono ?_
  rintro e w' ⟨rfl, rfl⟩
  go_wp2
  go_ret
  exact ⟨rfl, HB1.out⟩
end Go.Proofs.Ytnnlmdenffnjbaa
