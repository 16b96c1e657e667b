/-
  Contract: a graph and one edge less, of the reference.
-/
import Derived.Test.YtppkokgiojcgbaaGreatDoorQyRemP
import Derived.Test.YtppkokgiojcgbaaGreatDoorQyGC
namespace Go.Proofs.YtppkokgiojcgbaaGreatDoor
open Go.RowKit

set_option maxRecDepth 100000 in
set_option maxHeartbeats 1600000 in
theorem RemoveEdge_s (sz : Int) (A : Option Addr) (m c : Nat) (x : Nat → Int) (v u : Int) (w : World) (B : Nat) (h : Rd w B A m c x) (hB : B ≤ w.heap.size) (hm : m ≤ 1048576) :
    Calls Tryz.prog 123 #[.agg #[.int .i64 sz, .slice A m c], .int .i64 v, .int .i64 u] w fun e w' => ∃ A' c', e = .returned (.tuple #[.agg #[.int .i64 sz, .slice A' m c'], .bool (reB sz m x v u)]) ∧ Own w' (w.heap.size + 2) w'.heap.size 3 1 A' m c' (fun j => .int .i64 (reX sz m x v u j)) ∧ Below w.heap.size w w' := by
  obtain ⟨W, hW⟩ : ∃ W : World, W = ((w.alloc (Obj.cells #[Value.int IntKind.i64 sz, Value.slice A m c] 29)).alloc (Obj.cells #[Value.int IntKind.i64 0, Value.slice none 0 0] 29)) := ⟨_, rfl⟩
  have HB : Hid (Below w.heap.size w W) := by rw [hW]; exact ((Below.refl _ _).alloc (Nat.le_refl _) _).alloc (by simp) _
  have HZ : Hid (w.heap.size + 2 = W.heap.size) := by rw [hW]; simp [Hid]
  have e0 : W.cell? ⟨w.heap.size, 0, none⟩ = some (.int .i64 sz) := by rw [hW]; simp [go_sem]
  have e1 : W.cell? ⟨w.heap.size, 1, none⟩ = some (.slice A m c) := by rw [hW]; simp [go_sem]
  have e2 : W.cell? ⟨w.heap.size + 1, 0, none⟩ = some (.int .i64 0) := by rw [hW]; simp [go_sem]
  have e3 : W.cell? ⟨w.heap.size + 1, 1, none⟩ = some (.slice none 0 0) := by rw [hW]; simp [go_sem]
  have e4 : W.frozen? ⟨w.heap.size + 1, 0, none⟩ = false := by rw [hW]; simp [go_sem]
  have e5 : W.frozen? ⟨w.heap.size + 1, 1, none⟩ = false := by rw [hW]; simp [go_sem]
  have HK := Lib.hid (h.keep (HB.out.mono hB) (Nat.le_refl _))
  have HW := Lib.hid hW
  clear hW h
  go_enter Tryz.func123, Tryz.ntmps123
  go_wp2_with fail
  rw [← HW.out]
  refine (l2Copy_any sz A m c x W B HK.out (by have := HZ.out; omega) hm).mono ?_
  rintro e w1 ⟨A', c', rfl, hO, hb1⟩
  have f0 := up hb1 e0 (by have := HZ.out; omega)
  have f1 := up hb1 e1 (by have := HZ.out; omega)
  have f2 := up hb1 e2 (by have := HZ.out; omega)
  have f3 := up hb1 e3 (by have := HZ.out; omega)
  have f4 := upf hb1 e4 (by have := HZ.out; omega)
  have f5 := upf hb1 e5 (by have := HZ.out; omega)
  have z1 := hb1.size
  have zz0 : w.heap.size < w1.heap.size := by have := HZ.out; omega
  have zz1 : w.heap.size + 1 < w1.heap.size := by have := HZ.out; omega
  have HO1 := Lib.hid hO
  have HB1 := Lib.hid hb1
  obtain ⟨W2, hW2⟩ : ∃ W2 : World, W2 = (w1.alloc (Obj.cells #[Value.int IntKind.i64 sz, Value.slice A' m c'] 29)) := ⟨_, rfl⟩
  have hb2 : Below w1.heap.size w1 W2 := by rw [hW2]; exact ((Below.refl _ _).alloc (Nat.le_refl _) _)
  have z2 : w1.heap.size < W2.heap.size := by rw [hW2]; simp
  have g0 := up hb2 f0 zz0
  have g1 := up hb2 f1 zz0
  have g2 := up hb2 f2 zz1
  have g3 := up hb2 f3 zz1
  have g4 := upf hb2 f4 zz1
  have g5 := upf hb2 f5 zz1
  have g6 : W2.cell? ⟨w1.heap.size, 0, none⟩ = some (.int .i64 sz) := by rw [hW2]; simp [go_sem]
  have g7 : W2.cell? ⟨w1.heap.size, 1, none⟩ = some (.slice A' m c') := by rw [hW2]; simp [go_sem]
  have HB2 := Lib.hid hb2
  have HW2 := Lib.hid hW2
  have HK2 : Hid (Rd W2 W2.heap.size A m c x) := HK.out.keep ((HB1.out.trans (HB2.out.mono z1)).mono (by have := HZ.out; omega)) (by have := HZ.out; omega)
  have HO2 : Hid (Own W2 (W.heap.size + 2) w1.heap.size 3 1 A' m c' (fun j => .int .i64 (x j))) := HO1.out.keepB HB2.out (Nat.le_refl _)
  clear hO hb1 HW e0 e1 e2 e3 e4 e5 hb2 hW2
  go_wp2_with fail
  rw [← HW2.out]
  clear HW2 f0 f1 f2 f3 f4 f5
  refine (l2Pair_any sz A m c x v u W2 W2.heap.size HK2.out (Nat.le_refl _) hm).mono ?_
  rintro e w3 ⟨rfl, hb3⟩
  have z3 := hb3.size
  have yy0 : w.heap.size < W2.heap.size := by omega
  have yy1 : w.heap.size + 1 < W2.heap.size := by omega
  have i0 := up hb3 g0 yy0
  have i1 := up hb3 g1 yy0
  have i2 := up hb3 g2 yy1
  have i3 := up hb3 g3 yy1
  have i4 := upf hb3 g4 yy1
  have i5 := upf hb3 g5 yy1
  have i6 := up hb3 g6 z2
  have i7 := up hb3 g7 z2
  have HO3 : Hid (Own w3 (W.heap.size + 2) w1.heap.size 3 1 A' m c' (fun j => .int .i64 (x j))) := HO2.out.keepB hb3 (by omega)
  have HK3 : Hid (Rd w3 w3.heap.size A m c x) := HK2.out.keep hb3 z3
  have HB3 : Hid (Below w.heap.size w w3) := HB.out.trans ((HB1.out.trans ((HB2.out.trans (hb3.mono (by omega))).mono z1)).mono (by have := HZ.out; omega))
  have xx0 : w.heap.size < w3.heap.size := by omega
  have xx1 : w.heap.size + 1 < w3.heap.size := by omega
  have xx2 : w1.heap.size < w3.heap.size := by omega
  clear g0 g1 g2 g3 g4 g5 g6 g7 hb3 HO1 HO2 HK HK2 HB1 HB2 HB yy0 yy1
  obtain ⟨t, ht⟩ : ∃ t, t = prB sz m x v u := ⟨_, rfl⟩
  rw [← ht]
  have Ht := Lib.hid ht
  clear ht
  cases t
  · have hno : Hid (reB sz m x v u = false) := by
      show _ = _
      cases hb : reB sz m x v u
      · rfl
      · obtain ⟨ho, ⟨h1, h2, h3, h4, h5⟩, h6⟩ := reB_parts hb
        have := Ht.out
        unfold prB at this
        rw [ho, decide_eq_true (⟨h1, h3, h2, h4, h5⟩ : 0 ≤ v ∧ 0 ≤ u ∧ v < sz ∧ u < sz ∧ v ≠ u)] at this
        cases this
    clear Ht
    go_wp2
    have F : Fr (w.heap.size + 1) (w.heap.size + 2) w3 _ := ((Fr.refl _ _ w3).setCell (p := ⟨w.heap.size + 1, 0, none⟩) (Nat.le_refl _) (Nat.lt_succ_self _) (Value.int IntKind.i64 sz)).setCell (p := ⟨w.heap.size + 1, 1, none⟩) (Nat.le_refl _) (Nat.lt_succ_self _) (Value.slice A' m c')
    have O1 := ((HO3.out.keep F (.inr (by have := HZ.out; omega))).mono (lo' := w.heap.size + 2) (by have := HZ.out; omega) (Nat.le_trans (by omega) F.size))
    exact bodyPost_ret (v := .tuple #[.agg #[.int .i64 sz, .slice A' m c'], .bool false]) (by simp [results, Tryz.results123, go_sem, *]) rfl ⟨A', c', by rw [hno.out], O1.congr (fun j hj => by rw [reX_no hno.out]), HB3.out.trans (F.below (by omega) (by omega))⟩
  · have Hok : Hid (okB sz m x = true) := by
      show _ = _
      have := Ht.out
      unfold prB at this
      cases ho : okB sz m x
      · rw [ho] at this; cases this
      · rfl
    obtain ⟨h1, h3, h2, h4, h5⟩ : 0 ≤ v ∧ 0 ≤ u ∧ v < sz ∧ u < sz ∧ v ≠ u := by
      have := Ht.out
      unfold prB at this
      rw [Hok.out] at this
      simpa using this
    obtain ⟨n, rfl⟩ := Int.eq_ofNat_of_zero_le h1
    obtain ⟨k, rfl⟩ := Int.eq_ofNat_of_zero_le h3
    obtain ⟨r, es, vg, hx⟩ := okB_ok' Hok.out
    subst es
    have hn1 := vg.n1
    have hn7 := vg.n7
    have HX := Lib.hid hx
    have HV := Lib.hid vg
    have Hne : Hid (n ≠ k) := by show n ≠ k; omega
    obtain ⟨b, o, rfl, hb, hc⟩ := HK3.out.pos (by omega)
    have q0 := hc n (by omega)
    have q1 : 0 ≤ x n := by have := HX.out n (by omega); omega
    have q2 : x n < 16777216 := by have := HX.out n (by omega); have := HV.out.lt128 (v := n) (by omega); omega
    clear hx vg hc Ht h5
    go_wp2_with fail
    refine (l2Edge_any (m : Int) b o m c w3 n k (x n) q0 hb (by omega) q1 q2 (by omega)).mono ?_
    rintro e w4 ⟨rfl, hb4⟩
    have z4 := hb4.size
    have j2 := up hb4 i2 xx1
    have j3 := up hb4 i3 xx1
    have j4 := upf hb4 i4 xx1
    have j5 := upf hb4 i5 xx1
    have j6 := up hb4 i6 xx2
    have j7 := up hb4 i7 xx2
    have HO4 : Hid (Own w4 (W.heap.size + 2) w1.heap.size 3 1 A' m c' (fun j => .int .i64 (x j))) := HO3.out.keepB hb4 (by omega)
    have HB4 : Hid (Below w.heap.size w w4) := HB3.out.trans (hb4.mono (by omega))
    have ww1 : w.heap.size + 1 < w4.heap.size := by omega
    have ww2 : w1.heap.size < w4.heap.size := by omega
    clear i0 i1 i2 i3 i4 i5 i6 i7 HO3 HB3 HK3 hb4 q0 hb
    by_cases ht : (x n).toNat.testBit k = true
    · rw [ht]
      have hyes : Hid (reB (m : Int) m x n k = true) := by
        show _ = _
        unfold reB
        rw [Hok.out, decide_eq_true (⟨by omega, by omega, by omega, by omega, by have := Hne.out; omega⟩ : 0 ≤ (n : Int) ∧ (n : Int) < m ∧ 0 ≤ (k : Int) ∧ (k : Int) < m ∧ (n : Int) ≠ k)]
        simp [ht]
      have ht1 : (r n).testBit k = true := by rw [HX.out n (by omega), Int.toNat_natCast] at ht; exact ht
      have ht2 : (r k).testBit n = true := by rw [← HV.out.sym n k (by omega) (by omega)]; exact ht1
      have hx128 : ∀ j, j < m → r j < 128 := fun j hj => HV.out.lt128 hj
      obtain ⟨g, rfl, hg1, hg2, hOc⟩ := HO4.out.only (by omega)
      have HO5 : Hid (Own w4 g (g + 1) 3 1 (some ⟨g, 0, none⟩) m c' (fun j => .int .i64 (r j : Int))) := hOc.congr (fun j hj => by rw [HX.out j (by omega)])
      obtain ⟨g', e1, _, _, hg3, hcg, hfg⟩ := HO5.out.at_ (by omega)
      simp only [Option.some.injEq, Addr.mk.injEq, and_true] at e1
      subst e1
      have c1 := hcg n (by omega)
      have c2 := hcg k (by omega)
      have s1 : wrap64 ((r n : Int) - 2 ^ k) = ((r n ^^^ 2 ^ k : Nat) : Int) := by
        obtain ⟨e, e0⟩ := sub_pow_bit ht1
        have h2 := two_pow_int k (by omega)
        have h3 := hx128 n (by omega)
        rw [← e]
        have e2 : ((r n - 2 ^ k : Nat) : Int) = (r n : Int) - 2 ^ k := by rw [Int.ofNat_sub e0]; simp
        rw [e2]
        have e4 : ((2 ^ k : Nat) : Int) ≤ (r n : Int) := Int.ofNat_le.2 e0
        have e3 : ((2 ^ k : Nat) : Int) = 2 ^ k := by simp
        exact Go.IntWalk.wrap64_in ((r n : Int) - 2 ^ k) (by omega)
      have s2 : wrap64 ((r k : Int) - 2 ^ n) = ((r k ^^^ 2 ^ n : Nat) : Int) := by
        obtain ⟨e, e0⟩ := sub_pow_bit ht2
        have h2 := two_pow_int n (by omega)
        have h3 := hx128 k (by omega)
        rw [← e]
        have e2 : ((r k - 2 ^ n : Nat) : Int) = (r k : Int) - 2 ^ n := by rw [Int.ofNat_sub e0]; simp
        rw [e2]
        have e4 : ((2 ^ n : Nat) : Int) ≤ (r k : Int) := Int.ofNat_le.2 e0
        have e3 : ((2 ^ n : Nat) : Int) = 2 ^ n := by simp
        exact Go.IntWalk.wrap64_in ((r k : Int) - 2 ^ n) (by omega)
      have f1 := hfg n
      have f2 := hfg k
      have p1 := pow_shl n (by omega)
      have p2 := pow_shl k (by omega)
      have i1 : (n : Int) < (m : Int) := by omega
      have i2 : (k : Int) < (m : Int) := by omega
      have HX128 := Lib.hid hx128
      have HXK : Hid (∀ j, j < m → x j = (r j : Int)) := HX.out
      clear HO4 hOc hcg hfg HX HV hx128 ht ht1 ht2 q1 q2
      go_wp2
      go_region
      have hgn : g ≠ w1.heap.size := by omega
      have hgm : g ≠ w.heap.size + 1 := by have := HZ.out; omega
      have hne2 : (k = n) = False := by have := Hne.out; simp; omega
      have hne3 : (n = k) = False := by have := Hne.out; simp; omega
      go_wp2
      go_region
      obtain ⟨W5, hW5⟩ : ∃ W5 : World, W5 = ((w4.setCell ⟨g, n, none⟩ (.int .i64 ((r n ^^^ 2 ^ k : Nat) : Int))).setCell ⟨g, k, none⟩ (.int .i64 ((r k ^^^ 2 ^ n : Nat) : Int))).drew.drew := ⟨_, rfl⟩
      have O5 : Hid (Own W5 g (g + 1) 3 1 (some ⟨g, 0, none⟩) m c' (fun j => .int .i64 (addN r n k j))) := by
        rw [hW5]
        refine ((((HO5.out.set_ n _).set_ k _).drew).drew).congr (fun j hj => ?_)
        have hne := Hne.out
        unfold addN
        by_cases h1 : j = k
        · subst h1; rw [if_pos rfl, if_neg (fun e => hne e.symm), if_pos rfl]
        · rw [if_neg h1]
          by_cases h2 : j = n
          · subst h2; rw [if_pos rfl, if_pos rfl]
          · rw [if_neg h2, if_neg h2, if_neg h1]
      have F5 : Fr g (g + 1) w4 W5 := by rw [hW5]; exact (((Fr.refl _ _ w4).setCell (p := ⟨g, n, none⟩) (Nat.le_refl _) (Nat.lt_succ_self _) _).setCell (p := ⟨g, k, none⟩) (Nat.le_refl _) (Nat.lt_succ_self _) _).drew.drew
      have hgl : g < w1.heap.size := hg2
      have hgh : w.heap.size + 2 ≤ g := by have := HZ.out; omega
      have l2 := frC F5 j2 ww1 (by omega)
      have l3 := frC F5 j3 ww1 (by omega)
      have l4 := frZ F5 j4 ww1 (by omega)
      have l5 := frZ F5 j5 ww1 (by omega)
      have l6 := frC F5 j6 ww2 (by omega)
      have l7 := frC F5 j7 ww2 (by omega)
      have z5 := F5.size
      have HB5 : Hid (Below w.heap.size w W5) := HB4.out.trans (F5.below (by omega) (by omega))
      rw [← hW5]
      have HXr : Hid (∀ j, j < m → reX (m : Int) m x n k j = (addN r n k j : Int)) := by
        intro j hj
        unfold reX
        rw [hyes.out]
        simp only [if_true]
        unfold addN
        simp only [Int.toNat_natCast, HXK.out j hj]
      clear hW5 F5 j2 j3 j4 j5 j6 j7 c1 c2 s1 s2 f1 f2 p1 p2 HB4 HO5 hne2 hne3 hgn hgm
      go_wp2
      have F : Fr (w.heap.size + 1) (w.heap.size + 2) W5 _ := ((Fr.refl _ _ W5).setCell (p := ⟨w.heap.size + 1, 0, none⟩) (Nat.le_refl _) (Nat.lt_succ_self _) (Value.int IntKind.i64 m)).setCell (p := ⟨w.heap.size + 1, 1, none⟩) (Nat.le_refl _) (Nat.lt_succ_self _) (Value.slice (some ⟨g, 0, none⟩) m c')
      have O1 := ((O5.out.keep F (.inr hgh)).mono (lo' := w.heap.size + 2) hgh (Nat.le_trans (by omega) F.size))
      exact bodyPost_ret (v := .tuple #[.agg #[.int .i64 m, .slice (some ⟨g, 0, none⟩) m c'], .bool true]) (by simp [results, Tryz.results123, go_sem, *]) rfl ⟨some ⟨g, 0, none⟩, c', by rw [hyes.out], O1.congr (fun j hj => by rw [HXr.out j (by omega)]), HB5.out.trans (F.below (by omega) (by omega))⟩
    · rw [Bool.not_eq_true] at ht
      rw [ht]
      have hno : Hid (reB (m : Int) m x n k = false) := by
        show _ = _
        cases hb : reB (m : Int) m x n k
        · rfl
        · have := (reB_parts hb).2.2; simp [ht] at this
      clear ht
      go_wp2
      have F : Fr (w.heap.size + 1) (w.heap.size + 2) w4 _ := ((Fr.refl _ _ w4).setCell (p := ⟨w.heap.size + 1, 0, none⟩) (Nat.le_refl _) (Nat.lt_succ_self _) (Value.int IntKind.i64 m)).setCell (p := ⟨w.heap.size + 1, 1, none⟩) (Nat.le_refl _) (Nat.lt_succ_self _) (Value.slice A' m c')
      have O1 := ((HO4.out.keep F (.inr (by have := HZ.out; omega))).mono (lo' := w.heap.size + 2) (by have := HZ.out; omega) (Nat.le_trans (by omega) F.size))
      exact bodyPost_ret (v := .tuple #[.agg #[.int .i64 m, .slice A' m c'], .bool false]) (by simp [results, Tryz.results123, go_sem, *]) rfl ⟨A', c', by rw [hno.out], O1.congr (fun j hj => by rw [reX_no hno.out]), HB4.out.trans (F.below (by omega) (by omega))⟩
end Go.Proofs.YtppkokgiojcgbaaGreatDoor
