/-
  Contract: the edits between two graphs, of the program.
-/
import Derived.Test.YtccblehcemggjaaEdits
namespace Go.Proofs.Ytccblehcemggjaa
open Go.RowKit

set_option maxRecDepth 100000 in
set_option maxHeartbeats 1600000 in
theorem EditsBetween_i (s1 : Int) (A1 : Option Addr) (m1 c1 : Nat) (x1 : Nat → Int) (s2 : Int) (A2 : Option Addr) (m2 c2 : Nat) (x2 : Nat → Int) (w : World) (B : Nat) (h1 : Rd w B A1 m1 c1 x1) (h2 : Rd w B A2 m2 c2 x2) (hB : B ≤ w.heap.size) (hm1 : m1 ≤ 1048576) (hm2 : m2 ≤ 1048576) :
    Calls Try.prog 35 #[.agg #[.int .i64 s1, .slice A1 m1 c1], .agg #[.int .i64 s2, .slice A2 m2 c2]] w fun e w' => ∃ A' c', e = .returned (.tuple #[.slice A' (ebL s1 m1 x1 s2 m2 x2).length c', .bool (ebB s1 m1 x1 s2 m2 x2)]) ∧ Own w' w.heap.size w'.heap.size 77 3 A' (ebL s1 m1 x1 s2 m2 x2).length c' (edT (ebL s1 m1 x1 s2 m2 x2)) ∧ Below w.heap.size w w' := by
  obtain ⟨W, hW⟩ : ∃ W : World, W = ((w.alloc (Obj.cells #[Value.int IntKind.i64 s1, Value.slice A1 m1 c1] 42)).alloc (Obj.cells #[Value.int IntKind.i64 s2, Value.slice A2 m2 c2] 42)) := ⟨_, rfl⟩
  have HB : Hid (Below w.heap.size w W) := by rw [hW]; exact ((Below.refl _ _).alloc (Nat.le_refl _) _).alloc (by simp) _
  have hsz : w.heap.size + 2 = W.heap.size := by rw [hW]; simp
  have hs0 : w.heap.size < W.heap.size := by omega
  have hs1 : w.heap.size + 1 < W.heap.size := by omega
  have e0 : W.cell? ⟨w.heap.size, 0, none⟩ = some (.int .i64 s1) := by rw [hW]; simp [go_sem]
  have e1 : W.cell? ⟨w.heap.size, 1, none⟩ = some (.slice A1 m1 c1) := by rw [hW]; simp [go_sem]
  have e2 : W.cell? ⟨w.heap.size + 1, 0, none⟩ = some (.int .i64 s2) := by rw [hW]; simp [go_sem]
  have e3 : W.cell? ⟨w.heap.size + 1, 1, none⟩ = some (.slice A2 m2 c2) := by rw [hW]; simp [go_sem]
  have k1 := h1.keep (HB.out.mono hB) (Nat.le_refl _)
  have k2 := h2.keep (HB.out.mono hB) (Nat.le_refl _)
  have HW := Lib.hid hW
  clear hW h1 h2
  go_enter Try.func35, Try.ntmps35
  go_wp2_with fail
  rw [← HW.out]
  refine (IsGraph_any s1 A1 m1 c1 x1 W B k1 (by omega) hm1).mono ?_
  rintro e w1 ⟨rfl, hb1⟩
  have f0 := up hb1 e0 hs0
  have f1 := up hb1 e1 hs0
  have f2 := up hb1 e2 hs1
  have f3 := up hb1 e3 hs1
  have z1 := hb1.size
  have HB1 := Lib.hid (HB.out.trans (hb1.mono (by omega)))
  have k1' := k1.keep (hb1.mono (by omega)) (Nat.le_refl _)
  have k2' := k2.keep (hb1.mono (by omega)) (Nat.le_refl _)
  have zz0 : w.heap.size < w1.heap.size := by omega
  have zz1 : w.heap.size + 1 < w1.heap.size := by omega
  clear HW HB e0 e1 e2 e3 hb1 k1 k2
  cases ho1 : okB s1 m1 x1
  · have hno : Hid (ebB s1 m1 x1 s2 m2 x2 = false) := by show ebB _ _ _ _ _ _ = _; unfold ebB; rw [ho1]; rfl
    have hL : Hid (ebL s1 m1 x1 s2 m2 x2 = []) := by show ebL _ _ _ _ _ _ = _; unfold ebL; rw [hno.out]; rfl
    clear ho1
    go_wp2
    go_ret2
    exact ⟨none, 0, by rw [hno.out, hL.out]; rfl, by rw [hL.out]; exact Own.nil _ _ _ _ _ _, HB1.out⟩
  · have Ho1 := Lib.hid ho1
    clear ho1
    go_wp2_with fail
    refine (IsGraph_any s2 A2 m2 c2 x2 w1 B k2' (by omega) hm2).mono ?_
    rintro e w2 ⟨rfl, hb2⟩
    have g0 := up hb2 f0 zz0
    have g1 := up hb2 f1 zz0
    have g2 := up hb2 f2 zz1
    have g3 := up hb2 f3 zz1
    have z2 := hb2.size
    have l1 := k1'.keep (hb2.mono (by omega)) (Nat.le_refl _)
    have l2 := k2'.keep (hb2.mono (by omega)) (Nat.le_refl _)
    have HB2 := Lib.hid (HB1.out.trans (hb2.mono (by omega)))
    have yy0 : w.heap.size < w2.heap.size := by omega
    have yy1 : w.heap.size + 1 < w2.heap.size := by omega
    clear HB1 f0 f1 f2 f3 k1' k2' hb2 zz0 zz1
    cases ho2 : okB s2 m2 x2
    · have hno : Hid (ebB s1 m1 x1 s2 m2 x2 = false) := by show ebB _ _ _ _ _ _ = _; unfold ebB; rw [Ho1.out, ho2]; rfl
      have hL : Hid (ebL s1 m1 x1 s2 m2 x2 = []) := by show ebL _ _ _ _ _ _ = _; unfold ebL; rw [hno.out]; rfl
      clear ho2
      go_wp2
      go_ret2
      exact ⟨none, 0, by rw [hno.out, hL.out]; rfl, by rw [hL.out]; exact Own.nil _ _ _ _ _ _, HB2.out⟩
    · have Ho2 := Lib.hid ho2
      clear ho2
      by_cases hs : s1 = s2
      · have hyes : Hid (ebB s1 m1 x1 s2 m2 x2 = true) := by show ebB _ _ _ _ _ _ = _; unfold ebB; rw [Ho1.out, Ho2.out, decide_eq_true hs]; rfl
        have hL : Hid (ebL s1 m1 x1 s2 m2 x2 = eR false (pr m1) x1 x2 ++ eR true (pr m1) x2 x1) := by show ebL _ _ _ _ _ _ = _; unfold ebL; rw [hyes.out]; rfl
        obtain ⟨r1, es1, vg1, hx1⟩ := okB_ok Ho1.out
        obtain ⟨r2, es2, vg2, hx2⟩ := okB_ok Ho2.out
        have em : m2 = m1 := by omega
        subst em
        have hn1 := vg1.n1
        have hn7 := vg1.n7
        obtain ⟨b1, o1, rfl, lb1, hc1⟩ := l1.pos (by omega)
        obtain ⟨b2, o2, rfl, lb2, hc2⟩ := l2.pos (by omega)
        have HX1 := Lib.hid hx1
        have HX2 := Lib.hid hx2
        have HV1 := Lib.hid vg1
        have HV2 := Lib.hid vg2
        have HC1 := Lib.hid hc1
        have HC2 := Lib.hid hc2
        subst hs
        subst es1
        clear es2 hx1 hx2 vg1 vg2 hc1 hc2 l1 l2 Ho1 Ho2
        obtain ⟨W3, hW3⟩ : ∃ W : World, W = ((w2.alloc (Obj.cells #[] 77)).alloc (Obj.cells #[] 77)) := ⟨_, rfl⟩
        have hb3 : Below w2.heap.size w2 W3 := by rw [hW3]; exact ((Below.refl _ _).alloc (Nat.le_refl _) _).alloc (by simp) _
        have hz3 : w2.heap.size + 2 = W3.heap.size := by rw [hW3]; simp
        have hE1 : W3.heap[w2.heap.size]? = some (.cells #[] 77 (0, 0)) := by rw [hW3]; exact (Below.heap_alloc _ _ _ (by simp)).trans (heap_alloc_new w2 _)
        have hE2 : W3.heap[w2.heap.size + 1]? = some (.cells #[] 77 (0, 0)) := by
          rw [hW3]
          have := heap_alloc_new (w2.alloc (Obj.cells #[] 77)) (Obj.cells #[] 77)
          simpa using this
        have HW3 := Lib.hid hW3
        have i0 := up hb3 g0 yy0
        have i1 := up hb3 g1 yy0
        have i3 := up hb3 g3 yy1
        have HB3 : Hid (Below w2.heap.size w2 W3) := hb3
        have HE1 := Lib.hid hE1
        have HE2 := Lib.hid hE2
        clear hb3 hE1 hE2 hW3
        go_wp2_with fail
        rw [← HW3.out]
        clear HW3 g0 g1 g2 g3
        refine (pairsOf_any m2 hn7 W3).mono ?_
        rintro e w3 ⟨A', c', D, rfl, hD, hO, hb4⟩
        have z3 := hb4.size
        have j1 := up hb4 i1 (by omega)
        have j3 := up hb4 i3 (by omega)
        have HD := Lib.hid hD
        have HO := Lib.hid hO
        have hl21 : D.length ≤ 21 := by rw [pairs_len hD]; exact length_pr_le hn7
        have HG1 : Hid (Own w3 w2.heap.size (w2.heap.size + 1) 77 3 (some ⟨w2.heap.size, 0, none⟩) 0 0 (edT [])) :=
          .inr ⟨w2.heap.size, #[], rfl, Nat.le_refl _, Nat.lt_succ_self _, (hb4.block _ (by omega)).trans HE1.out, Nat.le_refl _, by unfold maxLen; omega, rfl, fun j hj => absurd hj (by simp)⟩
        have HG2 : Hid (Own w3 (w2.heap.size + 1) (w2.heap.size + 1 + 1) 77 3 (some ⟨w2.heap.size + 1, 0, none⟩) 0 0 (edT [])) :=
          .inr ⟨w2.heap.size + 1, #[], rfl, Nat.le_refl _, Nat.lt_succ_self _, (hb4.block _ (by omega)).trans HE2.out, Nat.le_refl _, by unfold maxLen; omega, rfl, fun j hj => absurd hj (by simp)⟩
        have HB4 : Hid (Below w2.heap.size w2 w3) := HB3.out.trans (hb4.mono (by omega))
        have HB5 : Hid (Below w.heap.size w w3) := HB2.out.trans (HB4.out.mono (by omega))
        clear hD hO hb4 i0 i1 i3 HB3 HE1 HE2 HB2
        go_wp2
        go_loopw [6, 7, 33] (fun l l2 i wr => ∃ (k g1 d1 g2 d2 : Nat), k ≤ D.length ∧ i = .int .i64 k ∧ l = .slice (some ⟨g1, 0, none⟩) (eR false ((pr m2).take k) x1 x2).length d1 ∧ l2 = .slice (some ⟨g2, 0, none⟩) (eR true ((pr m2).take k) x2 x1).length d2 ∧ (g1 = w2.heap.size ∨ w3.heap.size ≤ g1) ∧ (g2 = w2.heap.size + 1 ∨ w3.heap.size ≤ g2) ∧ g1 ≠ g2 ∧ g1 < wr.heap.size ∧ g2 < wr.heap.size ∧ Hid (Own wr g1 (g1 + 1) 77 3 (some ⟨g1, 0, none⟩) (eR false ((pr m2).take k) x1 x2).length d1 (edT (eR false ((pr m2).take k) x1 x2))) ∧ Hid (Own wr g2 (g2 + 1) 77 3 (some ⟨g2, 0, none⟩) (eR true ((pr m2).take k) x2 x1).length d2 (edT (eR true ((pr m2).take k) x2 x1))) ∧ Hid (OwnD wr W3.heap.size w3.heap.size A' c' D) ∧ Hid (Below w2.heap.size w3 wr)) (fun _ _ i _ => D.length - (intOf i).toNat)
        case atStart => exact ⟨0, w2.heap.size, 0, w2.heap.size + 1, 0, Nat.zero_le _, rfl, rfl, rfl, .inl rfl, .inl rfl, by omega, by omega, by omega, HG1, HG2, HO, Below.refl _ _⟩
        case round =>
          obtain ⟨k, g1, d1, g2, d2, hk, rfl, rfl, rfl, hg1, hg2, hg3, hg4, hg5, hG1, hG2, hE, hbr⟩ := hrel
          have q1 := up hbr.out j1 (by omega)
          have q3 := up hbr.out j3 (by omega)
          have hzr := hbr.out.size
          by_cases hlt : k < D.length
          · obtain ⟨Ad, cd, v, u, hd, hpk, hvu, hum⟩ := pair_at HD.out hlt
            obtain ⟨gD, gd, rfl, rfl, r0, r1, r2, gd1, gd2⟩ := hE.out.pair2 hd
            have a1 := (hbr.out.cell (p := ⟨b1, o1 + v, none⟩) (by show b1 < _; omega)).trans ((HB4.out.cell (p := ⟨b1, o1 + v, none⟩) (by show b1 < _; omega)).trans (HC1.out v (by omega)))
            have a2 := (hbr.out.cell (p := ⟨b2, o2 + v, none⟩) (by show b2 < _; omega)).trans ((HB4.out.cell (p := ⟨b2, o2 + v, none⟩) (by show b2 < _; omega)).trans (HC2.out v (by omega)))
            have y0 : 0 ≤ x1 v := by have := HX1.out v (by omega); omega
            have y1 : x1 v < 16777216 := by have := HX1.out v (by omega); have := HV1.out.lt128 (v := v) (by omega); omega
            have y2 : 0 ≤ x2 v := by have := HX2.out v (by omega); omega
            have y3 : x2 v < 16777216 := by have := HX2.out v (by omega); have := HV2.out.lt128 (v := v) (by omega); omega
            have i1 : (k : Int) < (D.length : Int) := by omega
            have i2 : (v : Int) < (m2 : Int) := by omega
            have hlen1 : (eR false ((pr m2).take k) x1 x2).length ≤ 21 := by
              have := eR_len (b := false) (P := (pr m2).take k) (x1 := x1) (x2 := x2)
              rw [List.length_take] at this
              omega
            have hlen2 : (eR true ((pr m2).take k) x2 x1).length ≤ 21 := by
              have := eR_len (b := true) (P := (pr m2).take k) (x1 := x2) (x2 := x1)
              rw [List.length_take] at this
              omega
            have Hd := Lib.hid hd
            have Hp := Lib.hid (take_pr hpk)
            clear hd hpk
            obtain ⟨t1, ht1⟩ : ∃ t, t = (x1 v).toNat.testBit u := ⟨_, rfl⟩
            obtain ⟨t2, ht2⟩ : ∃ t, t = (x2 v).toNat.testBit u := ⟨_, rfl⟩
            have Ht1 := Lib.hid ht1
            have Ht2 := Lib.hid ht2
            clear ht1 ht2
            have K1 : Hid (∀ w, Calls Try.prog 76 #[.int .i64 (x1 v), .int .i64 u] w fun e w' => e = .returned (.bool t1) ∧ w' = w) := fun w => (has_any (x1 v) u w y0 y1 (by omega) (by omega)).mono fun _ _ ⟨h1, h2⟩ => ⟨by rw [h1, Int.toNat_natCast, ← Ht1.out], h2.symm⟩
            have K2 : Hid (∀ w, Calls Try.prog 76 #[.int .i64 (x2 v), .int .i64 u] w fun e w' => e = .returned (.bool t2) ∧ w' = w) := fun w => (has_any (x2 v) u w y2 y3 (by omega) (by omega)).mono fun _ _ ⟨h1, h2⟩ => ⟨by rw [h1, Int.toNat_natCast, ← Ht2.out], h2.symm⟩
            go_wp2
            go_quiet (first | (go_at_call 76; with_reducible exact Calls.quiet_of_same (K1.out _)) | (go_at_call 76; with_reducible exact Calls.quiet_of_same (K2.out _)))
            have hG1' : Hid (Own (wr.drewN nq) g1 (g1 + 1) 77 3 (some ⟨g1, 0, none⟩) (eR false ((pr m2).take k) x1 x2).length d1 (edT (eR false ((pr m2).take k) x1 x2))) := hG1
            have hG2' : Hid (Own (wr.drewN nq) g2 (g2 + 1) 77 3 (some ⟨g2, 0, none⟩) (eR true ((pr m2).take k) x2 x1).length d2 (edT (eR true ((pr m2).take k) x2 x1))) := hG2
            have hE' : Hid (OwnD (wr.drewN nq) W3.heap.size w3.heap.size (some ⟨gD, 0, none⟩) c' D) := hE
            have hbr' : Hid (Below w2.heap.size w3 (wr.drewN nq)) := below_drewN hbr.out nq
            have r1' : (wr.drewN nq).cell? ⟨gd, 0, none⟩ = some (.int .i64 v) := r1
            have r2' : (wr.drewN nq).cell? ⟨gd, 1, none⟩ = some (.int .i64 u) := r2
            have hzq : wr.heap.size = (wr.drewN nq).heap.size := rfl
            obtain ⟨wq, hwq⟩ : ∃ W : World, W = wr.drewN nq := ⟨_, rfl⟩
            rw [← hwq] at hG1' hG2' hE' hbr' r1' r2' hzq ⊢
            clear hwq hG1 hG2 hE hbr r1 r2 r0 q1 q3 a1 a2
            cases t1 <;> cases t2
            · have n1 := Lib.hid (eR_snoc_no (b := false) (P := (pr m2).take k) (p := (v, u)) (x1 := x1) (x2 := x2) (by show ((x1 v).toNat.testBit u && !(x2 v).toNat.testBit u) = _; rw [← Ht1.out]; rfl))
              have n2 := Lib.hid (eR_snoc_no (b := true) (P := (pr m2).take k) (p := (v, u)) (x1 := x2) (x2 := x1) (by show ((x2 v).toNat.testBit u && !(x1 v).toNat.testBit u) = _; rw [← Ht2.out]; rfl))
              clear r1' r2'
              go_wp2
              go_roundw
              case rel => exact ⟨k + 1, g1, d1, g2, d2, by omega, by go_num, by rw [Hp.out, n1.out], by rw [Hp.out, n2.out], hg1, hg2, hg3, by omega, by omega, by rw [Hp.out, n1.out]; exact hG1', by rw [Hp.out, n2.out]; exact hG2', hE', hbr'⟩
              case measure => simp [intOf]; omega
            · have n1 := Lib.hid (eR_snoc_no (b := false) (P := (pr m2).take k) (p := (v, u)) (x1 := x1) (x2 := x2) (by show ((x1 v).toNat.testBit u && !(x2 v).toNat.testBit u) = _; rw [← Ht1.out]; rfl))
              have n2 := Lib.hid (eR_snoc_yes (b := true) (P := (pr m2).take k) (p := (v, u)) (x1 := x2) (x2 := x1) (by show ((x2 v).toNat.testBit u && !(x1 v).toNat.testBit u) = _; rw [← Ht1.out, ← Ht2.out]; rfl))
              go_wp2
              go_region_held3 (fun z => z.cell? ⟨gd, 0, none⟩ = some (.int .i64 v) ∧ z.cell? ⟨gd, 1, none⟩ = some (.int .i64 u))
                (first | (refine ⟨?_, ?_⟩ <;> assumption) | go_keep | (refine ⟨?_, ?_⟩ <;> (refine ((hp.caged.2.2.2).cell (by show gd < _; simp; omega) (by show gd < g2 ∨ g2 + 1 ≤ gd; omega)).trans ?_; go_keep)))
                ((refine step_push _ (by rfl) _ _ _ (by rfl) 77 _ 3 24 Try.underlying31 info_edit rfl (by omega) g2 (g2 + 1) (some ⟨g2, 0, none⟩) (eR true ((pr m2).take k) x2 x1).length d2 (edT (eR true ((pr m2).take k) x2 x1 ++ [(true, (v : Int), (u : Int))])) (by rfl) (((hG2'.out.alloc _).drew).congr (fun j hj => (edT_left hj).symm)) (by simp; omega) wq.heap.size #[.bool true, .int .i64 v, .int .i64 u] 77 (0, 0) 1 (heap_alloc_new wq _) (by rfl) rfl edT_news (by simp [Value.oneCell']) (by omega) (by omega) ?_; intro g' cap w4 hp))
              obtain ⟨hq1, hq2, hq3, hq4⟩ := hp.caged
              have hq5 : g' = g2 ∨ wq.heap.size ≤ g' := by
                rcases hq2 with h | h
                · exact .inl h
                · right; rw [h]; simp
              have hq6 : Fr g2 (g2 + 1) wq w4 := (((Fr.refl _ _ wq).alloc _).drew).trans hq4
              have hz4 := hq6.size
              have H2 : Hid (Own w4 g' (g' + 1) 77 3 (some ⟨g', 0, none⟩) (eR true ((pr m2).take (k + 1)) x2 x1).length cap (edT (eR true ((pr m2).take (k + 1)) x2 x1))) := by
                show Own _ _ _ _ _ _ _ _ _
                rw [Hp.out, n2.out, List.length_append]; exact hq1
              have H1 := Lib.hid (hG1'.out.keep hq6 (by omega))
              have H3 := Lib.hid (hE'.out.keep hq6 (by omega))
              have H4 : Hid (Below w2.heap.size w3 w4) := hbr'.out.trans (hq6.below (by omega) (by omega))
              clear hp hq1 hq2 hq4 hq6 hG1' hG2' hE' hbr' r1' r2'
              go_wp2
              go_roundw
              case rel => exact ⟨k + 1, g1, d1, g', cap, by omega, by go_num, by rw [Hp.out, n1.out], by rw [Hp.out, n2.out, List.length_append]; rfl, hg1, by omega, by omega, by omega, hq3, by rw [Hp.out, n1.out]; exact H1, H2, H3, H4⟩
              case measure => simp [intOf]; omega
            · have n1 := Lib.hid (eR_snoc_yes (b := false) (P := (pr m2).take k) (p := (v, u)) (x1 := x1) (x2 := x2) (by show ((x1 v).toNat.testBit u && !(x2 v).toNat.testBit u) = _; rw [← Ht1.out, ← Ht2.out]; rfl))
              have n2 := Lib.hid (eR_snoc_no (b := true) (P := (pr m2).take k) (p := (v, u)) (x1 := x2) (x2 := x1) (by show ((x2 v).toNat.testBit u && !(x1 v).toNat.testBit u) = _; rw [← Ht2.out]; rfl))
              go_wp2
              go_region_held3 (fun z => z.cell? ⟨gd, 0, none⟩ = some (.int .i64 v) ∧ z.cell? ⟨gd, 1, none⟩ = some (.int .i64 u))
                (first | (refine ⟨?_, ?_⟩ <;> assumption) | go_keep | (refine ⟨?_, ?_⟩ <;> (refine ((hp.caged.2.2.2).cell (by show gd < _; simp; omega) (by show gd < g1 ∨ g1 + 1 ≤ gd; omega)).trans ?_; go_keep)))
                ((refine step_push _ (by rfl) _ _ _ (by rfl) 77 _ 3 24 Try.underlying31 info_edit rfl (by omega) g1 (g1 + 1) (some ⟨g1, 0, none⟩) (eR false ((pr m2).take k) x1 x2).length d1 (edT (eR false ((pr m2).take k) x1 x2 ++ [(false, (v : Int), (u : Int))])) (by rfl) (((hG1'.out.alloc _).drew).congr (fun j hj => (edT_left hj).symm)) (by simp; omega) wq.heap.size #[.bool false, .int .i64 v, .int .i64 u] 77 (0, 0) 1 (heap_alloc_new wq _) (by rfl) rfl edT_news (by simp [Value.oneCell']) (by omega) (by omega) ?_; intro g' cap w4 hp))
              obtain ⟨hq1, hq2, hq3, hq4⟩ := hp.caged
              have hq5 : g' = g1 ∨ wq.heap.size ≤ g' := by
                rcases hq2 with h | h
                · exact .inl h
                · right; rw [h]; simp
              have hq6 : Fr g1 (g1 + 1) wq w4 := (((Fr.refl _ _ wq).alloc _).drew).trans hq4
              have hz4 := hq6.size
              have H1 : Hid (Own w4 g' (g' + 1) 77 3 (some ⟨g', 0, none⟩) (eR false ((pr m2).take (k + 1)) x1 x2).length cap (edT (eR false ((pr m2).take (k + 1)) x1 x2))) := by
                show Own _ _ _ _ _ _ _ _ _
                rw [Hp.out, n1.out, List.length_append]; exact hq1
              have H2 := Lib.hid (hG2'.out.keep hq6 (by omega))
              have H3 := Lib.hid (hE'.out.keep hq6 (by omega))
              have H4 : Hid (Below w2.heap.size w3 w4) := hbr'.out.trans (hq6.below (by omega) (by omega))
              clear hp hq1 hq2 hq4 hq6 hG1' hG2' hE' hbr' r1' r2'
              go_wp2
              go_roundw
              case rel => exact ⟨k + 1, g', cap, g2, d2, by omega, by go_num, by rw [Hp.out, n1.out, List.length_append]; rfl, by rw [Hp.out, n2.out], by omega, hg2, by omega, hq3, by omega, H1, by rw [Hp.out, n2.out]; exact H2, H3, H4⟩
              case measure => simp [intOf]; omega
            · have n1 := Lib.hid (eR_snoc_no (b := false) (P := (pr m2).take k) (p := (v, u)) (x1 := x1) (x2 := x2) (by show ((x1 v).toNat.testBit u && !(x2 v).toNat.testBit u) = _; rw [← Ht1.out, ← Ht2.out]; rfl))
              have n2 := Lib.hid (eR_snoc_no (b := true) (P := (pr m2).take k) (p := (v, u)) (x1 := x2) (x2 := x1) (by show ((x2 v).toNat.testBit u && !(x1 v).toNat.testBit u) = _; rw [← Ht1.out, ← Ht2.out]; rfl))
              clear r1' r2'
              go_wp2
              go_roundw
              case rel => exact ⟨k + 1, g1, d1, g2, d2, by omega, by go_num, by rw [Hp.out, n1.out], by rw [Hp.out, n2.out], hg1, hg2, hg3, by omega, by omega, by rw [Hp.out, n1.out]; exact hG1', by rw [Hp.out, n2.out]; exact hG2', hE', hbr'⟩
              case measure => simp [intOf]; omega
          · obtain rfl : k = D.length := by omega
            have HF : Hid ((pr m2).take D.length = pr m2) := by show _ = _; rw [pairs_len HD.out, List.take_length]
            have hT1 : Hid (Own wr g1 (g1 + 1) 77 3 (some ⟨g1, 0, none⟩) (eR false (pr m2) x1 x2).length d1 (edT (eR false (pr m2) x1 x2))) := by have := hG1.out; rwa [HF.out] at this
            have hT2 : Hid (Own wr g2 (g2 + 1) 77 3 (some ⟨g2, 0, none⟩) (eR true (pr m2) x2 x1).length d2 (edT (eR true (pr m2) x2 x1))) := by have := hG2.out; rwa [HF.out] at this
            have hp21 : (pr m2).length ≤ 21 := length_pr_le hn7
            have hlen1 : (eR false (pr m2) x1 x2).length ≤ 21 := Nat.le_trans eR_len hp21
            have hlen2 : (eR true (pr m2) x2 x1).length ≤ 21 := Nat.le_trans eR_len hp21
            have HB6 : Hid (Below w.heap.size w wr) := HB5.out.trans (hbr.out.mono (by omega))
            rw [HF.out]
            clear hG1 hG2 hE hbr
            go_wp2_with (first | (at_builtin; (refine wpList_appendE wr rfl _ _ rfl w.heap.size g1 g2 d1 d2 (eR false (pr m2) x1 x2) (eR true (pr m2) x2 x1) hT1.out hT2.out rfl rfl (by omega) (by omega) (by omega) (by omega) ?_; intro A5 c5 w5 hO5 hb5)))
            have HO5 := Lib.hid hO5
            have HB7 : Hid (Below w.heap.size w w5) := HB6.out.trans hb5
            clear hO5 hb5 hT1 hT2
            go_ret2
            exact ⟨A5, c5, by rw [hyes.out, hL.out, List.length_append]; rfl, by rw [hL.out]; exact HO5.out, HB7.out⟩
      · have hno : Hid (ebB s1 m1 x1 s2 m2 x2 = false) := by show ebB _ _ _ _ _ _ = _; unfold ebB; rw [Ho1.out, Ho2.out, decide_eq_false hs]; rfl
        have hL : Hid (ebL s1 m1 x1 s2 m2 x2 = []) := by show ebL _ _ _ _ _ _ = _; unfold ebL; rw [hno.out]; rfl
        have hne : (s1 != s2) = true := by simp [hs]
        clear hs
        go_wp2
        go_ret2
        exact ⟨none, 0, by rw [hno.out, hL.out]; rfl, by rw [hL.out]; exact Own.nil _ _ _ _ _ _, HB2.out⟩
end Go.Proofs.Ytccblehcemggjaa
