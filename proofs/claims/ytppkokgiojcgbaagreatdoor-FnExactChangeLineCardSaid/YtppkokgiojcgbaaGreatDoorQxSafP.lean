/-
  Several texts in one.
-/
import Derived.Test.YtppkokgiojcgbaaGreatDoorQxRemEdgeS
import Derived.Test.YtppkokgiojcgbaaGreatDoorQxSet2I
import Derived.Test.YtppkokgiojcgbaaGreatDoorQxGB
import Derived.Test.YtppkokgiojcgbaaGreatDoorQxClaV
import Derived.Test.YtppkokgiojcgbaaGreatDoorQxThoB
import Derived.Test.YtppkokgiojcgbaaGreatDoorQxGA
/-
-/
namespace Go.Proofs.YtppkokgiojcgbaaGreatDoor
open Go.RowKit
set_option maxHeartbeats 1000000 in
theorem HasEdge_i (A : Option Addr) (m c : Nat) (x : Nat → Int) (v u : Int) (w : World) (B : Nat) (h : Rd w B A m c x) (hB : B ≤ w.heap.size) (hok : okB m m x = true) :
 Calls Tryz.prog 173 #[.agg #[.int .i64 m, .slice A m c], .int .i64 v, .int .i64 u] w fun e w' => e = .returned (.bool (reB m m x v u)) ∧ Below w.heap.size w w' := by
 obtain ⟨r, _, vg, hx⟩ := okB_ok' hok
 have hn1 := vg.n1
 have hn7 := vg.n7
 obtain ⟨W, hW⟩ : ∃ W : World, W = ((w.alloc (Obj.cells #[Value.int IntKind.i64 m, Value.slice A m c] 29)).alloc (Obj.cells #[Value.int IntKind.i64 v, Value.int IntKind.i64 u] 3)) := ⟨_, rfl⟩
 have HB : Hid (Below w.heap.size w W) := by rw [hW]; exact ((Below.refl _ _).alloc (Nat.le_refl _) _).alloc (by simp) _
 have a0 : w.heap.size < W.heap.size := by rw [hW]; simp; omega
 have e0 : W.cell? ⟨w.heap.size, 0, none⟩ = some (.int .i64 m) := by rw [hW]; simp [go_sem]
 have e1 : W.cell? ⟨w.heap.size, 1, none⟩ = some (.slice A m c) := by rw [hW]; simp [go_sem]
 have HY : Hid (Rd W W.heap.size (some ⟨w.heap.size + 1, 0, none⟩) 2 2 (fun j => if j = 0 then v else u)) := by
  refine ⟨Nat.le_refl _, fun _ => ⟨w.heap.size + 1, 0, rfl, by rw [hW]; simp, fun k hk => ?_⟩⟩
  rw [hW]
  have : k = 0 ∨ k = 1 := by omega
  rcases this with rfl | rfl <;> simp [go_sem]
 have HK := Lib.hid (h.keep (HB.out.mono hB) (Nat.le_trans hB HB.out.size))
 have HW := Lib.hid hW
 have HX := Lib.hid hx
 have HV := Lib.hid vg
 have Hok := Lib.hid hok
 clear hW h hx vg hok
 go_enter Tryz.func173, Tryz.ntmps173
 go_wp2_with fail
 rw [← HW.out]
 clear HW
 refine (isVertex_ok A (some ⟨w.heap.size + 1, 0, none⟩) m c 2 x (fun j => if j = 0 then v else u) W W.heap.size HK.out HY.out (Nat.le_refl _) (by omega) Hok.out v u rfl rfl).mono ?_
 rintro e w1 ⟨rfl, hb1⟩
 have z1 := hb1.size
 have f0 := up hb1 e0 a0
 have f1 := up hb1 e1 a0
 have HB1 : Hid (Below w.heap.size w w1) := HB.out.trans (hb1.mono (by omega))
 have HK1 : Hid (Rd w1 w1.heap.size A m c x) := HK.out.keep hb1 z1
 clear hb1 e0 e1 HY HK HB
 by_cases hin : 0 ≤ v ∧ v < m ∧ 0 ≤ u ∧ u < m
 ·rw [decide_eq_true hin]
  obtain ⟨h1, h2, h3, h4⟩ := hin
  obtain ⟨n, rfl⟩ := Int.eq_ofNat_of_zero_le h1
  obtain ⟨k, rfl⟩ := Int.eq_ofNat_of_zero_le h3
  obtain ⟨b, o, rfl, hb, hc⟩ := HK1.out.pos (by omega)
  have q0 := hc n (by omega)
  have q1 : 0 ≤ x n := by have := HX.out n (by omega); omega
  have q2 : x n < 16777216 := by have := HX.out n (by omega); have := HV.out.lt128 (v := n) (by omega); omega
  have hv : Hid (reB (m : Int) m x n k = (x n).toNat.testBit k) := reB_val Hok.out (by omega) (by omega)
  clear hc
  go_wp2_with fail
  refine (has_any (x n) k w1 q1 q2 (by omega) (by omega)).mono ?_
  rintro e w2 ⟨rfl, rfl⟩
  rw [Int.toNat_natCast, ← hv.out]
  go_wp2
  go_ret
  exact ⟨rfl, HB1.out⟩
 ·have hno : Hid (reB (m : Int) m x v u = false) := reB_out hin
  rw [decide_eq_false hin]
  clear hin
  go_wp2
  go_ret
  exact ⟨ret_bool hno.out.symm, HB1.out⟩
set_option maxHeartbeats 1600000 in
theorem RemoveEdge_i (sz : Int) (A : Option Addr) (m c : Nat) (x : Nat → Int) (v u : Int) (w : World) (B : Nat) (h : Rd w B A m c x) (hB : B ≤ w.heap.size) (hm : m ≤ 1048576) (hok : okB sz m x = true) :
 Calls Tryz.prog 121 #[.agg #[.int .i64 sz, .slice A m c], .int .i64 v, .int .i64 u] w fun e w' => ∃ A' c', e = .returned (.tuple #[.agg #[.int .i64 sz, .slice A' m c'], .bool (reB sz m x v u)]) ∧ Own w' (w.heap.size + 2) w'.heap.size 3 1 A' m c' (fun j => .int .i64 (reX sz m x v u j)) ∧ Below w.heap.size w w' := by
 obtain ⟨r, es, vg, hx⟩ := okB_ok' hok
 subst es
 have hn1 := vg.n1
 have hn7 := vg.n7
 obtain ⟨W, hW⟩ : ∃ W : World, W = ((w.alloc (Obj.cells #[Value.int IntKind.i64 m, Value.slice A m c] 29)).alloc (Obj.cells #[Value.int IntKind.i64 0, Value.slice none 0 0] 29)) := ⟨_, rfl⟩
 have HB : Hid (Below w.heap.size w W) := by rw [hW]; exact ((Below.refl _ _).alloc (Nat.le_refl _) _).alloc (by simp) _
 have HZ : Hid (w.heap.size + 2 = W.heap.size) := by rw [hW]; simp [Hid]
 have e0 : W.cell? ⟨w.heap.size, 0, none⟩ = some (.int .i64 m) := by rw [hW]; simp [go_sem]
 have e1 : W.cell? ⟨w.heap.size, 1, none⟩ = some (.slice A m c) := by rw [hW]; simp [go_sem]
 have e2 : W.cell? ⟨w.heap.size + 1, 0, none⟩ = some (.int .i64 0) := by rw [hW]; simp [go_sem]
 have e3 : W.cell? ⟨w.heap.size + 1, 1, none⟩ = some (.slice none 0 0) := by rw [hW]; simp [go_sem]
 have e4 : W.frozen? ⟨w.heap.size + 1, 0, none⟩ = false := by rw [hW]; simp [go_sem]
 have e5 : W.frozen? ⟨w.heap.size + 1, 1, none⟩ = false := by rw [hW]; simp [go_sem]
 have HK := Lib.hid (h.keep (HB.out.mono hB) (Nat.le_refl _))
 have HW := Lib.hid hW
 have HX := Lib.hid hx
 have HV := Lib.hid vg
 have Hok := Lib.hid hok
 clear hW h hx vg hok
 go_enter Tryz.func121, Tryz.ntmps121
 go_wp2_with fail
 rw [← HW.out]
 refine (copyGraph_any m A m c x W B HK.out (by have := HZ.out; omega) hm).mono ?_
 rintro e w1 ⟨A', c', rfl, hO, hb1⟩
 have f0 := up hb1 e0 (by have := HZ.out; omega)
 have f1 := up hb1 e1 (by have := HZ.out; omega)
 have f2 := up hb1 e2 (by have := HZ.out; omega)
 have f3 := up hb1 e3 (by have := HZ.out; omega)
 have f4 := upf hb1 e4 (by have := HZ.out; omega)
 have f5 := upf hb1 e5 (by have := HZ.out; omega)
 have z1 := hb1.size
 have zz0 : w.heap.size < w1.heap.size := by have := HZ.out; omega
 have zz1 : w.heap.size + 1 < w1.heap.size := by have := HZ.out; omega
 obtain ⟨g, rfl, hg1, hg2, hOc⟩ := hO.only (by omega)
 have HO1 := Lib.hid hOc
 have HB1 := Lib.hid hb1
 obtain ⟨W2, hW2⟩ : ∃ W2 : World, W2 = (w1.alloc (Obj.cells #[Value.int IntKind.i64 m, Value.slice (some ⟨g, 0, none⟩) m c'] 29)) := ⟨_, rfl⟩
 have hb2 : Below w1.heap.size w1 W2 := by rw [hW2]; exact (Below.refl _ _).alloc (Nat.le_refl _) _
 have z2 : w1.heap.size < W2.heap.size := by rw [hW2]; simp
 have g0 := up hb2 f0 zz0
 have g1 := up hb2 f1 zz0
 have g2 := up hb2 f2 zz1
 have g3 := up hb2 f3 zz1
 have g4 := upf hb2 f4 zz1
 have g5 := upf hb2 f5 zz1
 have g6 : W2.cell? ⟨w1.heap.size, 0, none⟩ = some (.int .i64 m) := by rw [hW2]; simp [go_sem]
 have g7 : W2.cell? ⟨w1.heap.size, 1, none⟩ = some (.slice (some ⟨g, 0, none⟩) m c') := by rw [hW2]; simp [go_sem]
 have HB2 := Lib.hid hb2
 have HW2 := Lib.hid hW2
 have HK2 : Hid (Rd W2 W2.heap.size A m c x) := HK.out.keep ((HB1.out.trans (HB2.out.mono z1)).mono (by have := HZ.out; omega)) (by have := HZ.out; omega)
 have HO2 : Hid (Own W2 g (g + 1) 3 1 (some ⟨g, 0, none⟩) m c' (fun j => .int .i64 (x j))) := HO1.out.keepB HB2.out (by omega)
 clear hO hOc hb1 HW e0 e1 e2 e3 e4 e5 hb2 hW2
 go_wp2_with fail
 rw [← HW2.out]
 clear HW2 f0 f1 f2 f3 f4 f5
 refine (HasEdge_i A m c x v u W2 W2.heap.size HK2.out (Nat.le_refl _) Hok.out).mono ?_
 rintro e w3 ⟨rfl, hb3⟩
 have z3 := hb3.size
 have yy0 : w.heap.size < W2.heap.size := by omega
 have yy1 : w.heap.size + 1 < W2.heap.size := by omega
 have i2 := up hb3 g2 yy1
 have i3 := up hb3 g3 yy1
 have i4 := upf hb3 g4 yy1
 have i5 := upf hb3 g5 yy1
 have i6 := up hb3 g6 z2
 have i7 := up hb3 g7 z2
 have HO3 : Hid (Own w3 g (g + 1) 3 1 (some ⟨g, 0, none⟩) m c' (fun j => .int .i64 (x j))) := HO2.out.keepB hb3 (by omega)
 have HB3 : Hid (Below w.heap.size w w3) := HB.out.trans ((HB1.out.trans ((HB2.out.trans (hb3.mono (by omega))).mono z1)).mono (by have := HZ.out; omega))
 have xx1 : w.heap.size + 1 < w3.heap.size := by omega
 have xx2 : w1.heap.size < w3.heap.size := by omega
 have HG : Hid (w.heap.size + 2 ≤ g ∧ g < w1.heap.size) := ⟨by have := HZ.out; omega, hg2⟩
 clear g0 g1 g2 g3 g4 g5 g6 g7 hb3 HO1 HO2 HK HK2 HB1 HB2 HB yy0 yy1 hg1 hg2 zz0 zz1
 obtain ⟨t, ht⟩ : ∃ t, t = reB (m : Int) m x v u := ⟨_, rfl⟩
 rw [← ht]
 have Ht := Lib.hid ht
 clear ht
 cases t
 ·go_wp2
  have F : Fr (w.heap.size + 1) (w.heap.size + 2) w3 _ := ((Fr.refl _ _ w3).setCell (p := ⟨w.heap.size + 1, 0, none⟩) (Nat.le_refl _) (Nat.lt_succ_self _) (Value.int IntKind.i64 m)).setCell (p := ⟨w.heap.size + 1, 1, none⟩) (Nat.le_refl _) (Nat.lt_succ_self _) (Value.slice (some ⟨g, 0, none⟩) m c')
  have O1 := ((HO3.out.keep F (.inr HG.out.1)).mono HG.out.1 (by have := HG.out.2; simp; omega : g + 1 ≤ ((w3.setCell ⟨w.heap.size + 1, 0, none⟩ (Value.int IntKind.i64 m)).setCell ⟨w.heap.size + 1, 1, none⟩ (Value.slice (some ⟨g, 0, none⟩) m c')).heap.size))
  exact bodyPost_ret (v := .tuple #[.agg #[.int .i64 m, .slice (some ⟨g, 0, none⟩) m c'], .bool false]) (by simp [results, Tryz.results121, go_sem, *]) rfl ⟨some ⟨g, 0, none⟩, c', by rw [← Ht.out], O1.congr (fun j hj => by rw [reX_no Ht.out.symm]), HB3.out.trans (F.below (by omega) (by omega))⟩
 ·obtain ⟨_, ⟨h1, h2, h3, h4, h5⟩, _⟩ := reB_parts Ht.out.symm
  obtain ⟨n, rfl⟩ := Int.eq_ofNat_of_zero_le h1
  obtain ⟨k, rfl⟩ := Int.eq_ofNat_of_zero_le h3
  have Hne : Hid (n ≠ k) := by show n ≠ k; omega
  have hx128 : ∀ j, j < m → (x j).toNat < 128 := fun j hj => by have := HX.out j hj; have := HV.out.lt128 hj; omega
  have KF := Lib.hid (flip_any m g m c' (fun i => (x i).toNat) n k w3 g (g + 1) (HO3.out.congr (fun j hj => by have := HX.out j (by omega); show Value.int .i64 (x j) = .int .i64 (((x j).toNat : Nat) : Int); congr 1; omega)) (by have := HG.out.2; omega) hn7 (by omega) (by omega) Hne.out hx128)
  clear hx128 h5
  go_wp2_with fail
  refine KF.out.mono ?_
  rintro e w4 ⟨rfl, hO4, hf4⟩
  have z4 := hf4.size
  have j2 := frC hf4 i2 xx1 (by have := HG.out.1; omega)
  have j3 := frC hf4 i3 xx1 (by have := HG.out.1; omega)
  have j4 := frZ hf4 i4 xx1 (by have := HG.out.1; omega)
  have j5 := frZ hf4 i5 xx1 (by have := HG.out.1; omega)
  have j6 := frC hf4 i6 xx2 (by have := HG.out.2; omega)
  have j7 := frC hf4 i7 xx2 (by have := HG.out.2; omega)
  have HO4 := Lib.hid hO4
  have HB4 : Hid (Below w.heap.size w w4) := HB3.out.trans (hf4.below (by have := HG.out.1; omega) (by omega))
  clear hO4 hf4 i2 i3 i4 i5 i6 i7 HO3 HB3 HX HV KF
  go_wp2
  have F : Fr (w.heap.size + 1) (w.heap.size + 2) w4 _ := ((Fr.refl _ _ w4).setCell (p := ⟨w.heap.size + 1, 0, none⟩) (Nat.le_refl _) (Nat.lt_succ_self _) (Value.int IntKind.i64 m)).setCell (p := ⟨w.heap.size + 1, 1, none⟩) (Nat.le_refl _) (Nat.lt_succ_self _) (Value.slice (some ⟨g, 0, none⟩) m c')
  have O1 := ((HO4.out.keep F (.inr HG.out.1)).mono HG.out.1 (by have := HG.out.2; simp; omega : g + 1 ≤ ((w4.setCell ⟨w.heap.size + 1, 0, none⟩ (Value.int IntKind.i64 m)).setCell ⟨w.heap.size + 1, 1, none⟩ (Value.slice (some ⟨g, 0, none⟩) m c')).heap.size))
  exact bodyPost_ret (v := .tuple #[.agg #[.int .i64 m, .slice (some ⟨g, 0, none⟩) m c'], .bool true]) (by simp [results, Tryz.results121, go_sem, *]) rfl ⟨some ⟨g, 0, none⟩, c', by rw [← Ht.out], O1.congr (fun j hj => by unfold reX; rw [← Ht.out]; simp), HB4.out.trans (F.below (by omega) (by omega))⟩
end Go.Proofs.YtppkokgiojcgbaaGreatDoor

/-
-/
namespace Go.Proofs.YtppkokgiojcgbaaGreatDoor
open Go.RowKit
set_option maxHeartbeats 1000000 in
theorem applied_i (sz : Int) (A : Option Addr) (m c : Nat) (x : Nat → Int) (a : Bool) (v u : Int) (w : World) (B : Nat) (h : Rd w B A m c x) (hB : B ≤ w.heap.size) (hm : m ≤ 1048576) (hok : okB sz m x = true) :
 Calls Tryz.prog 63 #[.agg #[.int .i64 sz, .slice A m c], .agg #[.bool a, .int .i64 v, .int .i64 u]] w fun e w' => ∃ A' c', e = .returned (.tuple #[.agg #[.int .i64 sz, .slice A' m c'], .bool (apB a sz m x v u)]) ∧ Own w' (w.heap.size + 3) w'.heap.size 3 1 A' m c' (fun j => .int .i64 (apX a sz m x v u j)) ∧ Below w.heap.size w w' := by
 obtain ⟨W, hW⟩ : ∃ W : World, W = (((w.alloc (Obj.cells #[Value.int IntKind.i64 sz, Value.slice A m c] 29)).alloc (Obj.cells #[.bool a, .int .i64 v, .int .i64 u] 59)).alloc (Obj.cells #[Value.int IntKind.i64 0, Value.slice none 0 0] 29)) := ⟨_, rfl⟩
 have HB : Hid (From w W) := by rw [hW]; exact (((From.alloc _ _).alloc_ _).alloc_ _)
 have HZ : Hid (w.heap.size + 3 = W.heap.size) := by rw [hW]; simp [Hid]
 have HC : Hid (GC W (w.heap.size + 2) 0 none 0 0) := by rw [hW]; constructor <;> simp [go_sem]
 have HK := Lib.hid (h.keep (HB.out.below.mono hB) (Nat.le_refl _))
 have HW := Lib.hid hW
 have Hok := Lib.hid hok
 clear hW h hok
 cases a
 all_goals
  go_enter Tryz.func63, Tryz.ntmps63
  go_wp2_with fail
  rw [← HW.out]
  clear HW
  first
   | (refine (RemoveEdge_i sz A m c x v u W B HK.out (by have := HZ.out; omega) hm Hok.out).mono ?_
      rintro e w1 ⟨A', c', rfl, hO, hb1⟩
      have e1 : apB false sz m x v u = reB sz m x v u := rfl
      have e2 : apX false sz m x v u = reX sz m x v u := rfl
      rw [← e1]
      rw [← e2] at hO
      clear e1 e2)
   | (refine (AddEdge_i sz A m c x v u W B HK.out (by have := HZ.out; omega) hm Hok.out).mono ?_
      rintro e w1 ⟨A', c', rfl, hO, hb1⟩
      have e1 : apB true sz m x v u = aeB sz m x v u := rfl
      have e2 : apX true sz m x v u = aeX sz m x v u := rfl
      rw [← e1]
      rw [← e2] at hO
      clear e1 e2)
  have HC1 := Lib.hid (HC.out.keep hb1)
  have HB1 := Lib.hid (HB.out.keep hb1)
  have HO := Lib.hid hO
  have zs := hb1.size
  have k0 := HC1.out.c0
  have k1 := HC1.out.c1
  have k2 := HC1.out.f0
  have k3 := HC1.out.f1
  clear hO hb1 HC HB HK
  go_wp2
  have F := fr2 w1 (w.heap.size + 2) (Value.int .i64 sz) (Value.slice A' m c')
  have O1 := (HO.out.keep F (.inr (by have := HZ.out; omega))).mono (lo' := w.heap.size + 3) (by have := HZ.out; omega) F.size
  have B1 := (HB1.out.set (q := w.heap.size + 2) (by omega) (Value.int .i64 sz) (Value.slice A' m c')).below
  refine bodyPost_ret (v := .tuple #[.agg #[.int .i64 sz, .slice A' m c'], _]) (by simp [results, Tryz.results63, go_sem, *] <;> rfl) rfl ⟨A', c', rfl, O1, B1⟩
end Go.Proofs.YtppkokgiojcgbaaGreatDoor

/-
-/
namespace Go.Proofs.YtppkokgiojcgbaaGreatDoor
open Go.RowKit
set_option maxHeartbeats 1000000 in
theorem l32Apply_s (sz : Int) (A : Option Addr) (m c : Nat) (x : Nat → Int) (a : Bool) (v u : Int) (w : World) (B : Nat) (h : Rd w B A m c x) (hB : B ≤ w.heap.size) (hm : m ≤ 1048576) :
 Calls Tryz.prog 66 #[.agg #[.int .i64 sz, .slice A m c], .agg #[.bool a, .int .i64 v, .int .i64 u]] w fun e w' => ∃ A' c', e = .returned (.tuple #[.agg #[.int .i64 sz, .slice A' m c'], .bool (apB a sz m x v u)]) ∧ Own w' w.heap.size w'.heap.size 3 1 A' m c' (fun j => .int .i64 (apX a sz m x v u j)) ∧ Below w.heap.size w w' := by
 obtain ⟨W, hW⟩ : ∃ W : World, W = (((w.alloc (Obj.cells #[Value.int IntKind.i64 sz, Value.slice A m c] 29)).alloc (Obj.cells #[.bool a, .int .i64 v, .int .i64 u] 59)).alloc (Obj.cells #[Value.int IntKind.i64 0, Value.slice none 0 0] 29)) := ⟨_, rfl⟩
 have HB : Hid (From w W) := by rw [hW]; exact (((From.alloc _ _).alloc_ _).alloc_ _)
 have HZ : Hid (w.heap.size + 3 = W.heap.size) := by rw [hW]; simp [Hid]
 have HC : Hid (GC W (w.heap.size + 2) 0 none 0 0) := by rw [hW]; constructor <;> simp [go_sem]
 have HK := Lib.hid (h.keep (HB.out.below.mono hB) (Nat.le_refl _))
 have HW := Lib.hid hW
 clear hW h
 cases a
 all_goals
  go_enter Tryz.func66, Tryz.ntmps66
  go_wp2_with fail
  rw [← HW.out]
  clear HW
  first
   | (refine (RemoveEdge_s sz A m c x v u W B HK.out (by have := HZ.out; omega) hm).mono ?_
      rintro e w1 ⟨A', c', rfl, hO, hb1⟩
      have e1 : apB false sz m x v u = reB sz m x v u := rfl
      have e2 : apX false sz m x v u = reX sz m x v u := rfl
      rw [← e1]
      rw [← e2] at hO
      clear e1 e2)
   | (refine (AddEdge_s sz A m c x v u W B HK.out (by have := HZ.out; omega) hm).mono ?_
      rintro e w1 ⟨A', c', rfl, hO, hb1⟩
      have e1 : apB true sz m x v u = aeB sz m x v u := rfl
      have e2 : apX true sz m x v u = aeX sz m x v u := rfl
      rw [← e1]
      rw [← e2] at hO
      clear e1 e2)
  have HC1 := Lib.hid (HC.out.keep hb1)
  have HB1 := Lib.hid (HB.out.keep hb1)
  have HO := Lib.hid hO
  have zs := hb1.size
  have k0 := HC1.out.c0
  have k1 := HC1.out.c1
  have k2 := HC1.out.f0
  have k3 := HC1.out.f1
  have k4 := HC1.out.lt
  clear hO hb1 HC HB HK
  go_wp2
  have F := fr2 w1 (w.heap.size + 2) (Value.int .i64 sz) (Value.slice A' m c')
  have O1 := ((HO.out.keep F (.inr (by have := HZ.out; omega))).alloc (Obj.cells #[Value.int IntKind.i64 sz, Value.slice A' m c'] 29))
  have B1 := ((HB1.out.set (q := w.heap.size + 2) (by omega) (Value.int .i64 sz) (Value.slice A' m c')).alloc_ (Obj.cells #[Value.int IntKind.i64 sz, Value.slice A' m c'] 29)).below
  exact bodyPost_ret (v := .tuple #[.agg #[.int .i64 sz, .slice A' m c'], _]) (by simp [results, Tryz.results66, go_sem, *] <;> rfl) rfl ⟨A', c', rfl, O1.mono (by have := HZ.out; omega) (by simp [World.setCell]), B1⟩
end Go.Proofs.YtppkokgiojcgbaaGreatDoor

/-
-/
namespace Go.Proofs.YtppkokgiojcgbaaGreatDoor
open Go.RowKit
abbrev xr (r : Nat → Nat) : Nat → Int := fun v => (r v : Int)
def seB (r : Nat → Nat) (p : Nat × Nat) : Bool := !(r p.1).testBit p.2
noncomputable def seX (r : Nat → Nat) (m : Nat) (p : Nat × Nat) : Nat → Int := apX (seB r p) (m : Int) m (xr r) (p.1 : Nat) (p.2 : Nat)
noncomputable def seP (r : Nat → Nat) (m : Nat) (s : List UInt8) (p : Nat × Nat) : Bool := isB (m : Int) m (seX r m p) s
noncomputable def seR (r : Nat → Nat) (m : Nat) (s : List UInt8) (P : List (Nat × Nat)) : List (Bool × Int × Int) := (P.filter (seP r m s)).map fun p => (seB r p, (p.1 : Int), (p.2 : Int))
noncomputable def seV (r : Nat → Nat) (m : Nat) (s : List UInt8) : List (Bool × Int × Int) := seR r m s (pr m)
noncomputable def seL (sz : Int) (m : Nat) (x : Nat → Int) (s : List UInt8) : List (Bool × Int × Int) := if okB sz m x = true then seV (rw_ x) m s else []
section
variable {r : Nat → Nat} {m : Nat} {s : List UInt8} {P : List (Nat × Nat)} {p : Nat × Nat} {sz : Int} {x : Nat → Int} {n v u : Nat}
theorem seR_yes (h : seP r m s p = true) : seR r m s (P ++ [p]) = seR r m s P ++ [(seB r p, (p.1 : Int), (p.2 : Int))] := by
 unfold seR; rw [List.filter_append]; simp [h]
theorem seR_no (h : seP r m s p = false) : seR r m s (P ++ [p]) = seR r m s P := by
 unfold seR; rw [List.filter_append]; simp [h]
theorem seR_step_yes (hu : v + 1 ≤ u) (h : seP r m s (v, u) = true) : seR r m s (prTo n v (u + 1)) = seR r m s (prTo n v u) ++ [(seB r (v, u), (v : Int), (u : Int))] := by
 rw [prTo_step n v u hu]; exact seR_yes h
theorem seR_step_no (hu : v + 1 ≤ u) (h : seP r m s (v, u) = false) : seR r m s (prTo n v (u + 1)) = seR r m s (prTo n v u) := by
 rw [prTo_step n v u hu]; exact seR_no h
theorem seR_len : (seR r m s P).length ≤ P.length := by
 unfold seR; rw [List.length_map]; exact List.length_filter_le _ _
theorem seL_no (h : okB sz m x = false) : seL sz m x s = [] := by unfold seL; rw [h]; rfl
theorem seL_yes (h : okB sz m x = true) : seL sz m x s = seV (rw_ x) m s := by unfold seL; rw [h]; rfl
theorem seL_len : (seL sz m x s).length ≤ 21 := by
 cases h : okB sz m x
 ·rw [seL_no h]; simp
 ·rw [seL_yes h]
  obtain ⟨_, _, vg, _⟩ := okB_ok h
  exact Nat.le_trans seR_len (length_pr_le vg.n7)
end
section
variable {A : Option Addr} {m c : Nat} {r : Nat → Nat} {w : World}
theorem applied_v (h : GV w A m c r) (a : Bool) (v u : Nat) :
 Calls Tryz.prog 63 #[.agg #[.int .i64 m, .slice A m c], .agg #[.bool a, .int .i64 v, .int .i64 u]] w fun e w' => ∃ A' c', e = .returned (.tuple #[.agg #[.int .i64 m, .slice A' m c'], .bool (apB a m m (xr r) v u)]) ∧ GA w' A' m c' (apX a m m (xr r) v u) ∧ Below w.heap.size w w' :=
 (applied_i m A m c _ a v u w w.heap.size h.rd (Nat.le_refl _) (by have := h.vg.n7; omega) h.ok).mono fun _ _ ⟨A', c', h1, h2, h3⟩ => ⟨A', c', h1, ⟨h2.rd⟩, h3⟩
theorem l32Apply_v (h : GV w A m c r) (a : Bool) (v u : Nat) :
 Calls Tryz.prog 66 #[.agg #[.int .i64 m, .slice A m c], .agg #[.bool a, .int .i64 v, .int .i64 u]] w fun e w' => ∃ A' c', e = .returned (.tuple #[.agg #[.int .i64 m, .slice A' m c'], .bool (apB a m m (xr r) v u)]) ∧ Own w' w.heap.size w'.heap.size 3 1 A' m c' (fun j => .int .i64 (apX a m m (xr r) v u j)) ∧ Below w.heap.size w w' :=
 l32Apply_s m A m c _ a v u w w.heap.size h.rd (Nat.le_refl _) (by have := h.vg.n7; omega)
end
end Go.Proofs.YtppkokgiojcgbaaGreatDoor
