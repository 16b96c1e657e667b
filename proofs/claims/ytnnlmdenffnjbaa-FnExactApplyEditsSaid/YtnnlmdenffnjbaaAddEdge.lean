/-
  Contract: a graph and one edge more, of the program.
-/
import Derived.Test.YtnnlmdenffnjbaaCopy
import Derived.Test.YtnnlmdenffnjbaaFlip
import Derived.Test.YtnnlmdenffnjbaaGraph
import Derived.Test.YtnnlmdenffnjbaaSS
import Derived.Test.YtnnlmdenffnjbaaWithin
namespace Go.Proofs.Ytnnlmdenffnjbaa
open Go.RowKit

noncomputable def aeB (sz : Int) (m : Nat) (x : Nat → Int) (v u : Int) : Bool := okB sz m x && decide (0 ≤ v ∧ v < sz ∧ 0 ≤ u ∧ u < sz ∧ v ≠ u) && !((x v.toNat).toNat.testBit u.toNat)
noncomputable def aeX (sz : Int) (m : Nat) (x : Nat → Int) (v u : Int) : Nat → Int := if aeB sz m x v u = true then fun j => ((addN (fun i => (x i).toNat) v.toNat u.toNat j : Nat) : Int) else x
theorem okB_ok' {s : Int} {m : Nat} {x : Nat → Int} (h : okB s m x = true) : OkG s m x := by
  refine Classical.byContradiction fun h2 => ?_
  rw [okB_no h2] at h; cases h
theorem aeB_ok {sz : Int} {m : Nat} {x : Nat → Int} {v u : Int} (h : okB sz m x = false) : aeB sz m x v u = false := by unfold aeB; rw [h]; rfl
theorem aeX_no {sz : Int} {m : Nat} {x : Nat → Int} {v u : Int} (h : aeB sz m x v u = false) : aeX sz m x v u = x := by unfold aeX; rw [h]; rfl
theorem aeB_parts {sz : Int} {m : Nat} {x : Nat → Int} {v u : Int} (h : aeB sz m x v u = true) : okB sz m x = true ∧ (0 ≤ v ∧ v < sz ∧ 0 ≤ u ∧ u < sz ∧ v ≠ u) ∧ (x v.toNat).toNat.testBit u.toNat = false := by
  unfold aeB at h
  simp only [Bool.and_eq_true, decide_eq_true_eq, Bool.not_eq_true'] at h
  exact ⟨h.1.1, h.1.2, h.2⟩
theorem frC {lo hi b o : Nat} {W w1 : World} {v : Value} (hf : Fr lo hi W w1) (e : W.cell? ⟨b, o, none⟩ = some v) (h : b < W.heap.size) (h2 : b < lo ∨ hi ≤ b) : w1.cell? ⟨b, o, none⟩ = some v := (hf.cell (p := ⟨b, o, none⟩) h h2).trans e
theorem frZ {lo hi b o : Nat} {W w1 : World} {v : Bool} (hf : Fr lo hi W w1) (e : W.frozen? ⟨b, o, none⟩ = v) (h : b < W.heap.size) (h2 : b < lo ∨ hi ≤ b) : w1.frozen? ⟨b, o, none⟩ = v := (World.frozen?_of_block (hf.block b h h2)).trans e

set_option maxHeartbeats 1000000 in
theorem isVertex_ok (A A2 : Option Addr) (m c c2 : Nat) (x y : Nat → Int) (w : World) (B : Nat) (h : Rd w B A m c x) (h2 : Rd w B A2 2 c2 y) (hB : B ≤ w.heap.size) (hm : m ≤ 1048576) (hok : okB m m x = true) (v u : Int) (hv : y 0 = v) (hu : y 1 = u) :
    Calls Try.prog 201 #[.agg #[.int .i64 m, .slice A m c], .slice A2 2 c2] w fun e w' => e = .returned (.bool (decide (0 ≤ v ∧ v < m ∧ 0 ≤ u ∧ u < m))) ∧ Below w.heap.size w w' := by
  subst hv hu
  obtain ⟨W, hW⟩ : ∃ W : World, W = (w.alloc (Obj.cells #[Value.int IntKind.i64 m, Value.slice A m c] 28)) := ⟨_, rfl⟩
  have HB : Hid (Below w.heap.size w W) := by rw [hW]; exact ((Below.refl _ _).alloc (Nat.le_refl _) _)
  have e0 : W.cell? ⟨w.heap.size, 0, none⟩ = some (.int .i64 m) := by rw [hW]; simp [go_sem]
  have e1 : W.cell? ⟨w.heap.size, 1, none⟩ = some (.slice A m c) := by rw [hW]; simp [go_sem]
  have k1 := Lib.hid (h.keep (HB.out.mono hB) (Nat.le_refl _))
  obtain ⟨b, o, rfl, hb, hc⟩ := h2.pos (by omega)
  have q0 := (HB.out.cell (p := ⟨b, o + 0, none⟩) (by show b < _; omega)).trans (hc 0 (by omega))
  have q1 := (HB.out.cell (p := ⟨b, o + 1, none⟩) (by show b < _; omega)).trans (hc 1 (by omega))
  have HZ : Hid (w.heap.size < W.heap.size) := by rw [hW]; simp [Hid]
  have HW := Lib.hid hW
  have Hok := Lib.hid hok
  obtain ⟨r, _, vg, _⟩ := okB_ok' hok
  have := vg.n1
  have := vg.n7
  clear hW hc h h2 hok
  go_enter Try.func201, Try.ntmps201
  go_wp2_with fail
  go_loop [9] (fun i => ∃ k : Nat, k ≤ 2 ∧ i = .int .i64 k ∧ Hid (∀ j, j < k → 0 ≤ y j ∧ y j < m)) (fun i => 2 - (intOf i).toNat)
  case atStart => exact ⟨0, Nat.zero_le _, rfl, fun v hv => absurd hv (by omega)⟩
  case round =>
    obtain ⟨k, hk, rfl, hall⟩ := hrel
    rw [← HW.out]
    by_cases hlt : k < 2
    · have q2 : W.cell? ⟨b, o + k, none⟩ = some (.int .i64 (y k)) := by
        have : k = 0 ∨ k = 1 := by omega
        rcases this with rfl | rfl
        · exact q0
        · exact q1
      clear q0 q1
      by_cases hr : 0 ≤ y k ∧ y k < m
      · obtain ⟨hr1, hr2⟩ := hr
        go_wp2_with (first | (go_at_call 135; refine (within_yes _ _ _ _ hr1 (by omega)).mono ?_; rintro e w' ⟨rfl, rfl⟩))
        go_round
        case rel =>
          refine ⟨k + 1, by omega, by go_num, fun v hv => ?_⟩
          by_cases hvk : v < k
          · exact hall.out v hvk
          · obtain rfl : v = k := by omega
            exact ⟨hr1, hr2⟩
        case measure => simp [intOf]; omega
      · have hno : Hid (decide (0 ≤ y 0 ∧ y 0 < m ∧ 0 ≤ y 1 ∧ y 1 < m) = false) := by
          show _ = _
          rw [decide_eq_false_iff_not]
          rintro ⟨a1, a2, a3, a4⟩
          have : k = 0 ∨ k = 1 := by omega
          rcases this with rfl | rfl
          · exact hr ⟨a1, a2⟩
          · exact hr ⟨a3, a4⟩
        have hr' : y k < 0 ∨ (m : Int) - 1 < y k := by omega
        have Hr := Lib.hid hr'
        clear hr hr'
        go_wp2_with (first | (go_at_call 135; refine (within_no _ _ _ _ Hr.out).mono ?_; rintro e w' ⟨rfl, rfl⟩))
        go_ret
        exact ⟨ret_bool hno.out.symm, HB.out⟩
    · obtain rfl : k = 2 := by omega
      have hyes : Hid (decide (0 ≤ y 0 ∧ y 0 < m ∧ 0 ≤ y 1 ∧ y 1 < m) = true) := by
        show _ = _
        rw [decide_eq_true_eq]
        exact ⟨(hall.out 0 (by omega)).1, (hall.out 0 (by omega)).2, (hall.out 1 (by omega)).1, (hall.out 1 (by omega)).2⟩
      clear q0 q1
      go_wp2_with fail
      refine (IsGraph_any m A m c x W B k1.out (by have := HZ.out; omega) hm).mono ?_
      rintro e w1 ⟨rfl, hb1⟩
      have HB1 := Lib.hid (HB.out.trans (hb1.mono (by have := HZ.out; omega)))
      clear hb1 e0 e1
      rw [Hok.out]
      go_wp2
      go_ret
      exact ⟨ret_bool hyes.out.symm, HB1.out⟩

set_option maxHeartbeats 1600000 in
theorem AddEdge_i (sz : Int) (A : Option Addr) (m c : Nat) (x : Nat → Int) (v u : Int) (w : World) (B : Nat) (h : Rd w B A m c x) (hB : B ≤ w.heap.size) (hm : m ≤ 1048576) (hok : okB sz m x = true) :
    Calls Try.prog 137 #[.agg #[.int .i64 sz, .slice A m c], .int .i64 v, .int .i64 u] w fun e w' => ∃ A' c', e = .returned (.tuple #[.agg #[.int .i64 sz, .slice A' m c'], .bool (aeB sz m x v u)]) ∧ Own w' (w.heap.size + 2) w'.heap.size 3 1 A' m c' (fun j => .int .i64 (aeX sz m x v u j)) ∧ Below w.heap.size w w' := by
  obtain ⟨r, es, vg, hx⟩ := okB_ok' hok
  subst es
  have hn1 := vg.n1
  have hn7 := vg.n7
  obtain ⟨W, hW⟩ : ∃ W : World, W = ((w.alloc (Obj.cells #[Value.int IntKind.i64 m, Value.slice A m c] 28)).alloc (Obj.cells #[Value.int IntKind.i64 0, Value.slice none 0 0] 28)) := ⟨_, rfl⟩
  have HB : Hid (Below w.heap.size w W) := by rw [hW]; exact ((Below.refl _ _).alloc (Nat.le_refl _) _).alloc (by simp) _
  have HZ : Hid (w.heap.size + 2 = W.heap.size) := by rw [hW]; simp [Hid]
  have e0 : W.cell? ⟨w.heap.size, 0, none⟩ = some (.int .i64 m) := by rw [hW]; simp [go_sem]
  have e1 : W.cell? ⟨w.heap.size, 1, none⟩ = some (.slice A m c) := by rw [hW]; simp [go_sem]
  have e2 : W.cell? ⟨w.heap.size + 1, 0, none⟩ = some (.int .i64 0) := by rw [hW]; simp [go_sem]
  have e3 : W.cell? ⟨w.heap.size + 1, 1, none⟩ = some (.slice none 0 0) := by rw [hW]; simp [go_sem]
  have e4 : W.frozen? ⟨w.heap.size + 1, 0, none⟩ = false := by rw [hW]; simp [go_sem]
  have e5 : W.frozen? ⟨w.heap.size + 1, 1, none⟩ = false := by rw [hW]; simp [go_sem]
  have HK := Lib.hid (h.keep (HB.out.mono hB) (Nat.le_refl _))
  have HW := Lib.hid hW
  have HX := Lib.hid hx
  have HV := Lib.hid vg
  have Hok := Lib.hid hok
  clear hW h hx vg hok
  go_enter Try.func137, Try.ntmps137
  go_wp2_with fail
  rw [← HW.out]
  refine (copyGraph_any m A m c x W B HK.out (by have := HZ.out; omega) hm).mono ?_
  rintro e w1 ⟨A', c', rfl, hO, hb1⟩
  have f0 := up hb1 e0 (by have := HZ.out; omega)
  have f1 := up hb1 e1 (by have := HZ.out; omega)
  have f2 := up hb1 e2 (by have := HZ.out; omega)
  have f3 := up hb1 e3 (by have := HZ.out; omega)
  have f4 := upf hb1 e4 (by have := HZ.out; omega)
  have f5 := upf hb1 e5 (by have := HZ.out; omega)
  have z1 := hb1.size
  have zz0 : w.heap.size < w1.heap.size := by have := HZ.out; omega
  have zz1 : w.heap.size + 1 < w1.heap.size := by have := HZ.out; omega
  obtain ⟨g, rfl, hg1, hg2, hOc⟩ := hO.only (by omega)
  have HO1 := Lib.hid hOc
  have HB1 := Lib.hid hb1
  obtain ⟨W2, hW2⟩ : ∃ W2 : World, W2 = ((w1.alloc (Obj.cells #[Value.int IntKind.i64 m, Value.slice (some ⟨g, 0, none⟩) m c'] 28)).alloc (Obj.cells #[Value.int IntKind.i64 v, Value.int IntKind.i64 u] 3)) := ⟨_, rfl⟩
  have hb2 : Below w1.heap.size w1 W2 := by rw [hW2]; exact ((Below.refl _ _).alloc (Nat.le_refl _) _).alloc (by simp) _
  have z2 : w1.heap.size + 2 = W2.heap.size := by rw [hW2]; simp
  have g0 := up hb2 f0 zz0
  have g1 := up hb2 f1 zz0
  have g2 := up hb2 f2 zz1
  have g3 := up hb2 f3 zz1
  have g4 := upf hb2 f4 zz1
  have g5 := upf hb2 f5 zz1
  have g6 : W2.cell? ⟨w1.heap.size, 0, none⟩ = some (.int .i64 m) := by rw [hW2]; simp [go_sem]
  have g7 : W2.cell? ⟨w1.heap.size, 1, none⟩ = some (.slice (some ⟨g, 0, none⟩) m c') := by rw [hW2]; simp [go_sem]
  have HY : Hid (Rd W2 W2.heap.size (some ⟨w1.heap.size + 1, 0, none⟩) 2 2 (fun j => if j = 0 then v else u)) := by
    refine ⟨Nat.le_refl _, fun _ => ⟨w1.heap.size + 1, 0, rfl, by omega, fun k hk => ?_⟩⟩
    rw [hW2]
    have : k = 0 ∨ k = 1 := by omega
    rcases this with rfl | rfl <;> simp [go_sem]
  have HZ2 := Lib.hid z2
  have HB2 := Lib.hid hb2
  have HW2 := Lib.hid hW2
  have HK2 : Hid (Rd W2 W2.heap.size A m c x) := HK.out.keep ((HB1.out.trans (HB2.out.mono z1)).mono (by have := HZ.out; omega)) (by have := HZ.out; omega)
  have HO2 : Hid (Own W2 g (g + 1) 3 1 (some ⟨g, 0, none⟩) m c' (fun j => .int .i64 (x j))) := HO1.out.keepB HB2.out (by omega)
  clear hO hOc hb1 HW e0 e1 e2 e3 e4 e5 z2 hb2 hW2
  go_wp2_with fail
  rw [← HW2.out]
  clear HW2 f0 f1 f2 f3 f4 f5
  refine (isVertex_ok A (some ⟨w1.heap.size + 1, 0, none⟩) m c 2 x (fun j => if j = 0 then v else u) W2 W2.heap.size HK2.out HY.out (Nat.le_refl _) hm Hok.out v u rfl rfl).mono ?_
  rintro e w3 ⟨rfl, hb3⟩
  have z3 := hb3.size
  have yy0 : w.heap.size < W2.heap.size := by have := HZ2.out; omega
  have yy1 : w.heap.size + 1 < W2.heap.size := by have := HZ2.out; omega
  have yy2 : w1.heap.size < W2.heap.size := by have := HZ2.out; omega
  have i0 := up hb3 g0 yy0
  have i1 := up hb3 g1 yy0
  have i2 := up hb3 g2 yy1
  have i3 := up hb3 g3 yy1
  have i4 := upf hb3 g4 yy1
  have i5 := upf hb3 g5 yy1
  have i6 := up hb3 g6 yy2
  have i7 := up hb3 g7 yy2
  have HO3 : Hid (Own w3 g (g + 1) 3 1 (some ⟨g, 0, none⟩) m c' (fun j => .int .i64 (x j))) := HO2.out.keepB hb3 (by omega)
  have HK3 : Hid (Rd w3 w3.heap.size A m c x) := HK2.out.keep hb3 z3
  have HB3 : Hid (Below w.heap.size w w3) := HB.out.trans ((HB1.out.trans ((HB2.out.trans (hb3.mono (by omega))).mono z1)).mono (by have := HZ.out; omega))
  have xx0 : w.heap.size < w3.heap.size := by omega
  have xx1 : w.heap.size + 1 < w3.heap.size := by omega
  have xx2 : w1.heap.size < w3.heap.size := by omega
  have HG : Hid (w.heap.size + 2 ≤ g ∧ g < w1.heap.size) := ⟨by have := HZ.out; omega, hg2⟩
  clear g0 g1 g2 g3 g4 g5 g6 g7 hb3 HO1 HO2 HK HK2 HY HB1 HB2 HB yy0 yy1 yy2 hg1 hg2 zz0 zz1
  by_cases hin : 0 ≤ v ∧ v < m ∧ 0 ≤ u ∧ u < m
  · rw [decide_eq_true hin]
    obtain ⟨h1, h2, h3, h4⟩ := hin
    by_cases hvu : v = u
    · have hno : Hid (aeB (m : Int) m x v u = false) := by
        show _ = _
        cases hb : aeB (m : Int) m x v u
        · rfl
        · exact absurd hvu (aeB_parts hb).2.1.2.2.2.2
      have hd : (v == u) = true := by simp [hvu]
      clear hvu HX HV HK3
      go_wp2
      have F : Fr (w.heap.size + 1) (w.heap.size + 2) w3 _ := ((Fr.refl _ _ w3).setCell (p := ⟨w.heap.size + 1, 0, none⟩) (Nat.le_refl _) (Nat.lt_succ_self _) (Value.int IntKind.i64 m)).setCell (p := ⟨w.heap.size + 1, 1, none⟩) (Nat.le_refl _) (Nat.lt_succ_self _) (Value.slice (some ⟨g, 0, none⟩) m c')
      have O1 := ((HO3.out.keep F (.inr HG.out.1)).mono HG.out.1 (by have := HG.out.2; simp; omega : g + 1 ≤ ((w3.setCell ⟨w.heap.size + 1, 0, none⟩ (Value.int IntKind.i64 m)).setCell ⟨w.heap.size + 1, 1, none⟩ (Value.slice (some ⟨g, 0, none⟩) m c')).heap.size))
      exact bodyPost_ret (v := .tuple #[.agg #[.int .i64 m, .slice (some ⟨g, 0, none⟩) m c'], .bool false]) (by simp [results, Try.results137, go_sem, *]) rfl ⟨some ⟨g, 0, none⟩, c', by rw [hno.out], O1.congr (fun j hj => by rw [aeX_no hno.out]), HB3.out.trans (F.below (by omega) (by omega))⟩
    · obtain ⟨n, rfl⟩ := Int.eq_ofNat_of_zero_le h1
      obtain ⟨k, rfl⟩ := Int.eq_ofNat_of_zero_le h3
      obtain ⟨b, o, rfl, hb, hc⟩ := HK3.out.pos (by omega)
      have q0 := hc n (by omega)
      have q1 : 0 ≤ x n := by have := HX.out n (by omega); omega
      have q2 : x n < 16777216 := by have := HX.out n (by omega); have := HV.out.lt128 (v := n) (by omega); omega
      have hd : ((n : Int) == (k : Int)) = false := by simpa using hvu
      have hd' : ((n : Nat) = k) = False := by simp; omega
      have Hne : Hid (n ≠ k) := by show n ≠ k; omega
      have hk7 : (k : Int) ≤ 63 := by omega
      have h0k : 0 ≤ (k : Int) := by omega
      clear hc hvu
      cases ht : (x n).toNat.testBit k
      · have hyes : Hid (aeB (m : Int) m x n k = true) := by
          show _ = _
          unfold aeB
          rw [Hok.out, decide_eq_true (⟨by omega, by omega, by omega, by omega, by have := Hne.out; omega⟩ : 0 ≤ (n : Int) ∧ (n : Int) < m ∧ 0 ≤ (k : Int) ∧ (k : Int) < m ∧ (n : Int) ≠ k)]
          simp [ht]
        have K1 : Hid (∀ w, Calls Try.prog 136 #[.int .i64 (x n), .int .i64 k] w fun e w' => e = .returned (.bool false) ∧ w = w') := fun w => (has_any (x n) k w q1 q2 h0k hk7).mono fun _ _ ⟨h1, h2⟩ => ⟨by rw [h1, Int.toNat_natCast, ht], h2⟩
        clear ht
        go_wp2_with (first | (go_at_call 136; with_reducible refine (K1.out _).mono ?_; rintro e w' ⟨rfl, rfl⟩))
        have hx128 : ∀ j, j < m → (x j).toNat < 128 := fun j hj => by have := HX.out j hj; have := HV.out.lt128 hj; omega
        refine (flip_any m g m c' (fun i => (x i).toNat) n k w3 g (g + 1) (HO3.out.congr (fun j hj => by have := HX.out j (by omega); show Value.int .i64 (x j) = .int .i64 (((x j).toNat : Nat) : Int); congr 1; omega)) (by have := HG.out.2; omega) hn7 (by omega) (by omega) Hne.out hx128).mono ?_
        rintro e w4 ⟨rfl, hO4, hf4⟩
        have z4 := hf4.size
        have j2 := frC hf4 i2 xx1 (by have := HG.out.1; omega)
        have j3 := frC hf4 i3 xx1 (by have := HG.out.1; omega)
        have j4 := frZ hf4 i4 xx1 (by have := HG.out.1; omega)
        have j5 := frZ hf4 i5 xx1 (by have := HG.out.1; omega)
        have j6 := frC hf4 i6 xx2 (by have := HG.out.2; omega)
        have j7 := frC hf4 i7 xx2 (by have := HG.out.2; omega)
        have HO4 := Lib.hid hO4
        have HB4 : Hid (Below w.heap.size w w4) := HB3.out.trans (hf4.below (by have := HG.out.1; omega) (by omega))
        clear hO4 hf4 i0 i1 i2 i3 i4 i5 i6 i7 HO3 HB3 HX HV HK3 q0 q1 q2 K1 hx128 hd hd'
        go_wp2
        have F : Fr (w.heap.size + 1) (w.heap.size + 2) w4 _ := ((Fr.refl _ _ w4).setCell (p := ⟨w.heap.size + 1, 0, none⟩) (Nat.le_refl _) (Nat.lt_succ_self _) (Value.int IntKind.i64 m)).setCell (p := ⟨w.heap.size + 1, 1, none⟩) (Nat.le_refl _) (Nat.lt_succ_self _) (Value.slice (some ⟨g, 0, none⟩) m c')
        have O1 := ((HO4.out.keep F (.inr HG.out.1)).mono HG.out.1 (by have := HG.out.2; simp; omega : g + 1 ≤ ((w4.setCell ⟨w.heap.size + 1, 0, none⟩ (Value.int IntKind.i64 m)).setCell ⟨w.heap.size + 1, 1, none⟩ (Value.slice (some ⟨g, 0, none⟩) m c')).heap.size))
        exact bodyPost_ret (v := .tuple #[.agg #[.int .i64 m, .slice (some ⟨g, 0, none⟩) m c'], .bool true]) (by simp [results, Try.results137, go_sem, *]) rfl ⟨some ⟨g, 0, none⟩, c', by rw [hyes.out], O1.congr (fun j hj => by unfold aeX; rw [hyes.out]; simp), HB4.out.trans (F.below (by omega) (by omega))⟩
      · have hno : Hid (aeB (m : Int) m x n k = false) := by
          show _ = _
          cases hb : aeB (m : Int) m x n k
          · rfl
          · have := (aeB_parts hb).2.2; simp [ht] at this
        have K1 : Hid (∀ w, Calls Try.prog 136 #[.int .i64 (x n), .int .i64 k] w fun e w' => e = .returned (.bool true) ∧ w = w') := fun w => (has_any (x n) k w q1 q2 h0k hk7).mono fun _ _ ⟨h1, h2⟩ => ⟨by rw [h1, Int.toNat_natCast, ht], h2⟩
        clear ht
        go_wp2_with (first | (go_at_call 136; with_reducible refine (K1.out _).mono ?_; rintro e w' ⟨rfl, rfl⟩))
        have F : Fr (w.heap.size + 1) (w.heap.size + 2) w3 _ := ((Fr.refl _ _ w3).setCell (p := ⟨w.heap.size + 1, 0, none⟩) (Nat.le_refl _) (Nat.lt_succ_self _) (Value.int IntKind.i64 m)).setCell (p := ⟨w.heap.size + 1, 1, none⟩) (Nat.le_refl _) (Nat.lt_succ_self _) (Value.slice (some ⟨g, 0, none⟩) m c')
        have O1 := ((HO3.out.keep F (.inr HG.out.1)).mono HG.out.1 (by have := HG.out.2; simp; omega : g + 1 ≤ ((w3.setCell ⟨w.heap.size + 1, 0, none⟩ (Value.int IntKind.i64 m)).setCell ⟨w.heap.size + 1, 1, none⟩ (Value.slice (some ⟨g, 0, none⟩) m c')).heap.size))
        exact bodyPost_ret (v := .tuple #[.agg #[.int .i64 m, .slice (some ⟨g, 0, none⟩) m c'], .bool false]) (by simp [results, Try.results137, go_sem, *]) rfl ⟨some ⟨g, 0, none⟩, c', by rw [hno.out], O1.congr (fun j hj => by rw [aeX_no hno.out]), HB3.out.trans (F.below (by omega) (by omega))⟩
  · have hno : Hid (aeB (m : Int) m x v u = false) := by
      show _ = _
      cases hb : aeB (m : Int) m x v u
      · rfl
      · obtain ⟨_, ⟨h1, h2, h3, h4, h5⟩, h6⟩ := aeB_parts hb
        exact absurd ⟨h1, h2, h3, h4⟩ hin
    rw [decide_eq_false hin]
    clear hin
    go_wp2
    have F : Fr (w.heap.size + 1) (w.heap.size + 2) w3 _ := ((Fr.refl _ _ w3).setCell (p := ⟨w.heap.size + 1, 0, none⟩) (Nat.le_refl _) (Nat.lt_succ_self _) (Value.int IntKind.i64 m)).setCell (p := ⟨w.heap.size + 1, 1, none⟩) (Nat.le_refl _) (Nat.lt_succ_self _) (Value.slice (some ⟨g, 0, none⟩) m c')
    have O1 := ((HO3.out.keep F (.inr HG.out.1)).mono HG.out.1 (by have := HG.out.2; simp; omega : g + 1 ≤ ((w3.setCell ⟨w.heap.size + 1, 0, none⟩ (Value.int IntKind.i64 m)).setCell ⟨w.heap.size + 1, 1, none⟩ (Value.slice (some ⟨g, 0, none⟩) m c')).heap.size))
    exact bodyPost_ret (v := .tuple #[.agg #[.int .i64 m, .slice (some ⟨g, 0, none⟩) m c'], .bool false]) (by simp [results, Try.results137, go_sem, *]) rfl ⟨some ⟨g, 0, none⟩, c', by rw [hno.out], O1.congr (fun j hj => by rw [aeX_no hno.out]), HB3.out.trans (F.below (by omega) (by omega))⟩
end Go.Proofs.Ytnnlmdenffnjbaa
