/-
-/
import Derived.Test.YtfabbohijhjpcaaGreatDoorRcOrnI
import Derived.Test.YtfabbohijhjpcaaGreatDoorRcRev
import Derived.Test.YtfabbohijhjpcaaGreatDoorRcAntI
import Derived.Test.YtfabbohijhjpcaaGreatDoorRcPrnM
namespace Go.Proofs.YtfabbohijhjpcaaGreatDoor
open Go.RowKit
section
variable {A : Option Addr} {m c : Nat} {r : Nat → Nat} {w : World}
theorem clone_t {A : Option Addr} {m c : Nat} {t : Nat → Nat} {z : World} (h : OT z A m c t) (hm1 : 1 ≤ m) (hm7 : m ≤ 7) :
 Calls Tryz.prog 222 #[.slice A m c] z fun e w' => ∃ g c', e = .returned (.slice (some ⟨g, 0, none⟩) m c') ∧ RW w' g m c' t ∧ z.heap.size ≤ g ∧ Below z.heap.size z w' := by
 have hl : ((List.range m).map t).length = m := by simp
 have hg : ∀ j, j < m → ((List.range m).map t).getD j 0 = t j := fun j hj => by simp [List.getD, hj]
 have h2 : LN z A c ((List.range m).map t) := ⟨by rw [hl]; exact h.rd.congr (fun j hj => by rw [hg j hj])⟩
 have K := clone_z A c _ z h2 (by intro e; rw [e] at hl; simp at hl; omega) (by rw [hl]; omega)
 rw [hl] at K
 refine K.mono ?_
 rintro e w' ⟨g, c', rfl, ho, hb⟩
 have ho2 : Own w' z.heap.size w'.heap.size 3 1 (some ⟨g, 0, none⟩) m c' (fun j => .int .i64 (t j : Nat)) := by
  have := ho.own
  rw [hl] at this
  exact this.congr (fun j hj => by unfold ni; rw [hg j (by omega)])
 obtain ⟨g2, e2, h3, _, h4⟩ := RW.of ho2 (by omega)
 cases e2
 exact ⟨g, c', rfl, h4, h3, hb⟩
theorem tnK_step {t : Nat → Nat} {j k : Nat} : tnK t j (k + 1) = if (t k).testBit j = true then tnK t j k ||| 2 ^ k else tnK t j k := rfl
set_option maxRecDepth 100000 in
set_option maxHeartbeats 6400000 in
theorem PermutationModelOf_v (h : GV w A m c r) :
 Calls Tryz.prog 146 #[.agg #[.int .i64 m, .slice A m c]] w (pmQ w m (pmO r m)) := by
 have hm7 := h.vg.n7
 have hm1 := h.vg.n1
 have HV := Lib.hid h.vg
 have HGw := Lib.hid h
 obtain ⟨W, hW⟩ : ∃ W : World, W = (w.alloc (Obj.cells #[Value.int IntKind.i64 m, Value.slice A m c] 26)) := ⟨_, rfl⟩
 have HB : Hid (From w W) := by rw [hW]; exact From.alloc _ _
 have HC : Hid (GC W w.heap.size m A m c) := by rw [hW]; exact GC.new _ _ _ _ _
 have K1 : Hid (∀ z : World, From w z → Calls Tryz.prog 145 #[.agg #[.int .i64 m, .slice A m c]] z (orQ z m (otO r m))) := fun z hz => OrientationOf_v (HGw.out.keep hz.below)
 have K2 : Hid (∀ (z : World) (A' : Option Addr) (c' : Nat), GV z A' m c' (coR r m) → Calls Tryz.prog 145 #[.agg #[.int .i64 m, .slice A' m c']] z (orQ z m (otO (coR r m) m))) := fun z A' c' hz => OrientationOf_v hz
 have HVC : Hid (VG m (coR r m)) := coR_vg HV.out
 obtain ⟨o1, ho1⟩ : ∃ o, o = otO r m := ⟨_, rfl⟩
 obtain ⟨o2, ho2⟩ : ∃ o, o = otO (coR r m) m := ⟨_, rfl⟩
 have HF1 : Hid (∀ t, o1 = some t → (∀ v, v < m → t v < 2 ^ m) ∧ (∀ v, v < m → (t v).testBit v = false) ∧ otO r m = some t) := fun t ht => ⟨fun v hv => (otO_in HV.out (ho1.symm.trans ht)).lt hv, (ot_facts HV.out (ho1.symm.trans ht)).2, ho1.symm.trans ht⟩
 have HF2 : Hid (∀ t, o2 = some t → (∀ v, v < m → t v < 2 ^ m) ∧ (∀ v, v < m → (t v).testBit v = false) ∧ otO (coR r m) m = some t) := fun t ht => ⟨fun v hv => (otO_in HVC.out (ho2.symm.trans ht)).lt hv, (ot_facts HVC.out (ho2.symm.trans ht)).2, ho2.symm.trans ht⟩
 rw [← ho1] at K1
 rw [← ho2] at K2
 have HN1 := Lib.hid ho1
 have HN2 := Lib.hid ho2
 have HW := Lib.hid hW
 clear hW h ho1 ho2 HVC
 go_enter Tryz.func146, Tryz.ntmps146
 rcases o1 with _ | t1 <;> rcases o2 with _ | t2
 ·skip
  clear HF1 HF2
  have e0 := HC.out.c0
  have e1 := HC.out.c1
  go_wp2_with fail
  rw [← HW.out]
  clear HW
  refine (ComplementOf_v (HGw.out.keep HB.out.below)).mono ?_
  rintro e w3 ⟨A3, c3, rfl, hG3, hb3⟩
  clear e0 e1
  replace HB := Lib.hid (HB.out.keep hb3)
  replace HC := Lib.hid (HC.out.keep hb3)
  clear hb3
  have e0 := HC.out.c0
  have e1 := HC.out.c1
  obtain ⟨W4, hW4⟩ : ∃ W4 : World, W4 = (w3.alloc (Obj.cells #[Value.int IntKind.i64 m, Value.slice A3 m c3] 26)) := ⟨_, rfl⟩
  have hb4 : Below w3.heap.size w3 W4 := by rw [hW4]; exact (Below.refl _ _).alloc (Nat.le_refl _) _
  have HG4 : Hid (GV W4 A3 m c3 (coR r m)) := hG3.keep hb4
  have HC4 : Hid (GC W4 w3.heap.size m A3 m c3) := by rw [hW4]; exact GC.new _ _ _ _ _
  have HW4 := Lib.hid hW4
  have hlt : w.heap.size < w3.heap.size := HC.out.lt
  clear hW4 hG3
  go_wp2_with fail
  rw [← HW4.out]
  clear HW4 hlt
  clear e0 e1
  replace HB := Lib.hid (HB.out.keep hb4)
  replace HC := Lib.hid (HC.out.keep hb4)
  clear hb4
  have e0 := HC.out.c0
  have e1 := HC.out.c1
  refine (K1.out _ HB.out).mono ?_
  rintro e w1 ⟨rfl, hb1⟩
  clear e0 e1
  have d0 := HC4.out.c0
  have d1 := HC4.out.c1
  clear d0 d1
  replace HB := Lib.hid (HB.out.keep hb1)
  replace HC := Lib.hid (HC.out.keep hb1)
  replace HC4 := Lib.hid (HC4.out.keep hb1)
  replace HG4 := Lib.hid (HG4.out.keep hb1)
  clear hb1 K1
  have d0 := HC4.out.c0
  have d1 := HC4.out.c1
  obtain ⟨W2, hW2⟩ : ∃ W2 : World, W2 = (w1.alloc (Obj.cells #[Value.slice none 0 0] 115)) := ⟨_, rfl⟩
  have hb2 : Below w1.heap.size w1 W2 := by rw [hW2]; exact (Below.refl _ _).alloc (Nat.le_refl _) _
  have HX1 : Hid (CL W2 w1.heap.size 0 (.slice none 0 0)) := by rw [hW2]; constructor; simp [go_sem]
  have HW2 := Lib.hid hW2
  have hlt : w3.heap.size < w1.heap.size := HC4.out.lt
  clear hW2
  go_wp2_with fail
  rw [← HW2.out]
  clear HW2 hlt
  clear d0 d1
  replace HB := Lib.hid (HB.out.keep hb2)
  replace HC := Lib.hid (HC.out.keep hb2)
  replace HC4 := Lib.hid (HC4.out.keep hb2)
  replace HG4 := Lib.hid (HG4.out.keep hb2)
  clear hb2
  have d0 := HC4.out.c0
  have d1 := HC4.out.c1
  refine (K2.out _ _ _ HG4.out).mono ?_
  rintro e w5 ⟨rfl, hb5⟩
  clear d0 d1
  replace HB := Lib.hid (HB.out.keep hb5)
  replace HC := Lib.hid (HC.out.keep hb5)
  replace HX1 := Lib.hid (HX1.out.keep hb5)
  clear hb5 K2 HG4 HC4
  obtain ⟨W6, hW6⟩ : ∃ W6 : World, W6 = (w5.alloc (Obj.cells #[Value.slice none 0 0] 115)) := ⟨_, rfl⟩
  have hb6 : Below w5.heap.size w5 W6 := by rw [hW6]; exact (Below.refl _ _).alloc (Nat.le_refl _) _
  have HX2 : Hid (CL W6 w5.heap.size 0 (.slice none 0 0)) := by rw [hW6]; constructor; simp [go_sem]
  have HW6 := Lib.hid hW6
  clear hW6
  have HE : Hid (pmO r m = none) := pmO_no1 HN1.out.symm
  have HBz := HB.out.keep hb6
  clear hb6
  go_wp2
  rw [← HW6.out]
  exact bodyPost_ret (v := .tuple #[.slice none 0 0, .slice none 0 0, .bool false]) (by simp [results, Tryz.results146, go_sem, *]) rfl (by rw [HE.out]; exact ⟨none, 0, none, 0, rfl, ⟨Own.nil _ _ _ _ _ _⟩, ⟨Own.nil _ _ _ _ _ _⟩, HBz.below⟩)
 ·skip
  obtain ⟨G4, G5, G6⟩ := HF2.out _ rfl
  have HG4 := Lib.hid G4
  have HG5 := Lib.hid G5
  have HG6 := Lib.hid G6
  clear G4 G5 G6
  clear HF1 HF2
  have e0 := HC.out.c0
  have e1 := HC.out.c1
  go_wp2_with fail
  rw [← HW.out]
  clear HW
  refine (ComplementOf_v (HGw.out.keep HB.out.below)).mono ?_
  rintro e w3 ⟨A3, c3, rfl, hG3, hb3⟩
  clear e0 e1
  replace HB := Lib.hid (HB.out.keep hb3)
  replace HC := Lib.hid (HC.out.keep hb3)
  clear hb3
  have e0 := HC.out.c0
  have e1 := HC.out.c1
  obtain ⟨W4, hW4⟩ : ∃ W4 : World, W4 = (w3.alloc (Obj.cells #[Value.int IntKind.i64 m, Value.slice A3 m c3] 26)) := ⟨_, rfl⟩
  have hb4 : Below w3.heap.size w3 W4 := by rw [hW4]; exact (Below.refl _ _).alloc (Nat.le_refl _) _
  have HG4 : Hid (GV W4 A3 m c3 (coR r m)) := hG3.keep hb4
  have HC4 : Hid (GC W4 w3.heap.size m A3 m c3) := by rw [hW4]; exact GC.new _ _ _ _ _
  have HW4 := Lib.hid hW4
  have hlt : w.heap.size < w3.heap.size := HC.out.lt
  clear hW4 hG3
  go_wp2_with fail
  rw [← HW4.out]
  clear HW4 hlt
  clear e0 e1
  replace HB := Lib.hid (HB.out.keep hb4)
  replace HC := Lib.hid (HC.out.keep hb4)
  clear hb4
  have e0 := HC.out.c0
  have e1 := HC.out.c1
  refine (K1.out _ HB.out).mono ?_
  rintro e w1 ⟨rfl, hb1⟩
  clear e0 e1
  have d0 := HC4.out.c0
  have d1 := HC4.out.c1
  clear d0 d1
  replace HB := Lib.hid (HB.out.keep hb1)
  replace HC := Lib.hid (HC.out.keep hb1)
  replace HC4 := Lib.hid (HC4.out.keep hb1)
  replace HG4 := Lib.hid (HG4.out.keep hb1)
  clear hb1 K1
  have d0 := HC4.out.c0
  have d1 := HC4.out.c1
  obtain ⟨W2, hW2⟩ : ∃ W2 : World, W2 = (w1.alloc (Obj.cells #[Value.slice none 0 0] 115)) := ⟨_, rfl⟩
  have hb2 : Below w1.heap.size w1 W2 := by rw [hW2]; exact (Below.refl _ _).alloc (Nat.le_refl _) _
  have HX1 : Hid (CL W2 w1.heap.size 0 (.slice none 0 0)) := by rw [hW2]; constructor; simp [go_sem]
  have HW2 := Lib.hid hW2
  have hlt : w3.heap.size < w1.heap.size := HC4.out.lt
  clear hW2
  go_wp2_with fail
  rw [← HW2.out]
  clear HW2 hlt
  clear d0 d1
  replace HB := Lib.hid (HB.out.keep hb2)
  replace HC := Lib.hid (HC.out.keep hb2)
  replace HC4 := Lib.hid (HC4.out.keep hb2)
  replace HG4 := Lib.hid (HG4.out.keep hb2)
  clear hb2
  have d0 := HC4.out.c0
  have d1 := HC4.out.c1
  refine (K2.out _ _ _ HG4.out).mono ?_
  rintro e w5 ⟨A2, c2, rfl, hO2, hb5⟩
  clear d0 d1
  replace HB := Lib.hid (HB.out.keep hb5)
  replace HC := Lib.hid (HC.out.keep hb5)
  replace HX1 := Lib.hid (HX1.out.keep hb5)
  clear hb5 K2 HG4 HC4
  have HT2 : Hid (OT w5 A2 m c2 _) := ⟨(hO2.mono (Nat.zero_le _) (Nat.le_refl _)).rd⟩
  clear hO2
  obtain ⟨W6, hW6⟩ : ∃ W6 : World, W6 = (w5.alloc (Obj.cells #[Value.slice A2 m c2] 115)) := ⟨_, rfl⟩
  have hb6 : Below w5.heap.size w5 W6 := by rw [hW6]; exact (Below.refl _ _).alloc (Nat.le_refl _) _
  have HX2 : Hid (CL W6 w5.heap.size 0 (.slice A2 m c2)) := by rw [hW6]; constructor; simp [go_sem]
  replace HT2 := Lib.hid (HT2.out.keep hb6)
  have HW6 := Lib.hid hW6
  clear hW6
  have HE : Hid (pmO r m = none) := pmO_no1 HN1.out.symm
  have HBz := HB.out.keep hb6
  clear hb6
  go_wp2
  rw [← HW6.out]
  exact bodyPost_ret (v := .tuple #[.slice none 0 0, .slice none 0 0, .bool false]) (by simp [results, Tryz.results146, go_sem, *]) rfl (by rw [HE.out]; exact ⟨none, 0, none, 0, rfl, ⟨Own.nil _ _ _ _ _ _⟩, ⟨Own.nil _ _ _ _ _ _⟩, HBz.below⟩)
 ·obtain ⟨G1, G2, G3⟩ := HF1.out _ rfl
  have HG1 := Lib.hid G1
  have HG2 := Lib.hid G2
  have HG3 := Lib.hid G3
  clear G1 G2 G3
  clear HF1 HF2
  have e0 := HC.out.c0
  have e1 := HC.out.c1
  go_wp2_with fail
  rw [← HW.out]
  clear HW
  refine (ComplementOf_v (HGw.out.keep HB.out.below)).mono ?_
  rintro e w3 ⟨A3, c3, rfl, hG3, hb3⟩
  clear e0 e1
  replace HB := Lib.hid (HB.out.keep hb3)
  replace HC := Lib.hid (HC.out.keep hb3)
  clear hb3
  have e0 := HC.out.c0
  have e1 := HC.out.c1
  obtain ⟨W4, hW4⟩ : ∃ W4 : World, W4 = (w3.alloc (Obj.cells #[Value.int IntKind.i64 m, Value.slice A3 m c3] 26)) := ⟨_, rfl⟩
  have hb4 : Below w3.heap.size w3 W4 := by rw [hW4]; exact (Below.refl _ _).alloc (Nat.le_refl _) _
  have HG4 : Hid (GV W4 A3 m c3 (coR r m)) := hG3.keep hb4
  have HC4 : Hid (GC W4 w3.heap.size m A3 m c3) := by rw [hW4]; exact GC.new _ _ _ _ _
  have HW4 := Lib.hid hW4
  have hlt : w.heap.size < w3.heap.size := HC.out.lt
  clear hW4 hG3
  go_wp2_with fail
  rw [← HW4.out]
  clear HW4 hlt
  clear e0 e1
  replace HB := Lib.hid (HB.out.keep hb4)
  replace HC := Lib.hid (HC.out.keep hb4)
  clear hb4
  have e0 := HC.out.c0
  have e1 := HC.out.c1
  refine (K1.out _ HB.out).mono ?_
  rintro e w1 ⟨A1, c1, rfl, hO1, hb1⟩
  clear e0 e1
  have d0 := HC4.out.c0
  have d1 := HC4.out.c1
  clear d0 d1
  replace HB := Lib.hid (HB.out.keep hb1)
  replace HC := Lib.hid (HC.out.keep hb1)
  replace HC4 := Lib.hid (HC4.out.keep hb1)
  replace HG4 := Lib.hid (HG4.out.keep hb1)
  clear hb1 K1
  have d0 := HC4.out.c0
  have d1 := HC4.out.c1
  have HT1 : Hid (OT w1 A1 m c1 _) := ⟨(hO1.mono (Nat.zero_le _) (Nat.le_refl _)).rd⟩
  clear hO1
  obtain ⟨W2, hW2⟩ : ∃ W2 : World, W2 = (w1.alloc (Obj.cells #[Value.slice A1 m c1] 115)) := ⟨_, rfl⟩
  have hb2 : Below w1.heap.size w1 W2 := by rw [hW2]; exact (Below.refl _ _).alloc (Nat.le_refl _) _
  have HX1 : Hid (CL W2 w1.heap.size 0 (.slice A1 m c1)) := by rw [hW2]; constructor; simp [go_sem]
  have HW2 := Lib.hid hW2
  replace HT1 := Lib.hid (HT1.out.keep hb2)
  have hlt : w3.heap.size < w1.heap.size := HC4.out.lt
  clear hW2
  go_wp2_with fail
  rw [← HW2.out]
  clear HW2 hlt
  clear d0 d1
  replace HB := Lib.hid (HB.out.keep hb2)
  replace HC := Lib.hid (HC.out.keep hb2)
  replace HC4 := Lib.hid (HC4.out.keep hb2)
  replace HG4 := Lib.hid (HG4.out.keep hb2)
  clear hb2
  have d0 := HC4.out.c0
  have d1 := HC4.out.c1
  refine (K2.out _ _ _ HG4.out).mono ?_
  rintro e w5 ⟨rfl, hb5⟩
  clear d0 d1
  replace HB := Lib.hid (HB.out.keep hb5)
  replace HC := Lib.hid (HC.out.keep hb5)
  replace HX1 := Lib.hid (HX1.out.keep hb5)
  replace HT1 := Lib.hid (HT1.out.keep hb5)
  clear hb5 K2 HG4 HC4
  obtain ⟨W6, hW6⟩ : ∃ W6 : World, W6 = (w5.alloc (Obj.cells #[Value.slice none 0 0] 115)) := ⟨_, rfl⟩
  have hb6 : Below w5.heap.size w5 W6 := by rw [hW6]; exact (Below.refl _ _).alloc (Nat.le_refl _) _
  have HX2 : Hid (CL W6 w5.heap.size 0 (.slice none 0 0)) := by rw [hW6]; constructor; simp [go_sem]
  have HW6 := Lib.hid hW6
  clear hW6
  have HE : Hid (pmO r m = none) := pmO_no2 HN2.out.symm
  have HBz := HB.out.keep hb6
  clear hb6
  go_wp2
  rw [← HW6.out]
  exact bodyPost_ret (v := .tuple #[.slice none 0 0, .slice none 0 0, .bool false]) (by simp [results, Tryz.results146, go_sem, *]) rfl (by rw [HE.out]; exact ⟨none, 0, none, 0, rfl, ⟨Own.nil _ _ _ _ _ _⟩, ⟨Own.nil _ _ _ _ _ _⟩, HBz.below⟩)
 ·obtain ⟨G1, G2, G3⟩ := HF1.out _ rfl
  obtain ⟨G4, G5, G6⟩ := HF2.out _ rfl
  have HG1 := Lib.hid G1
  have HG2 := Lib.hid G2
  have HG3 := Lib.hid G3
  have HG4 := Lib.hid G4
  have HG5 := Lib.hid G5
  have HG6 := Lib.hid G6
  clear G1 G2 G3
  clear G4 G5 G6
  clear HF1 HF2
  have e0 := HC.out.c0
  have e1 := HC.out.c1
  go_wp2_with fail
  rw [← HW.out]
  clear HW
  refine (ComplementOf_v (HGw.out.keep HB.out.below)).mono ?_
  rintro e w3 ⟨A3, c3, rfl, hG3, hb3⟩
  clear e0 e1
  replace HB := Lib.hid (HB.out.keep hb3)
  replace HC := Lib.hid (HC.out.keep hb3)
  clear hb3
  have e0 := HC.out.c0
  have e1 := HC.out.c1
  obtain ⟨W4, hW4⟩ : ∃ W4 : World, W4 = (w3.alloc (Obj.cells #[Value.int IntKind.i64 m, Value.slice A3 m c3] 26)) := ⟨_, rfl⟩
  have hb4 : Below w3.heap.size w3 W4 := by rw [hW4]; exact (Below.refl _ _).alloc (Nat.le_refl _) _
  have HG4 : Hid (GV W4 A3 m c3 (coR r m)) := hG3.keep hb4
  have HC4 : Hid (GC W4 w3.heap.size m A3 m c3) := by rw [hW4]; exact GC.new _ _ _ _ _
  have HW4 := Lib.hid hW4
  have hlt : w.heap.size < w3.heap.size := HC.out.lt
  clear hW4 hG3
  go_wp2_with fail
  rw [← HW4.out]
  clear HW4 hlt
  clear e0 e1
  replace HB := Lib.hid (HB.out.keep hb4)
  replace HC := Lib.hid (HC.out.keep hb4)
  clear hb4
  have e0 := HC.out.c0
  have e1 := HC.out.c1
  refine (K1.out _ HB.out).mono ?_
  rintro e w1 ⟨A1, c1, rfl, hO1, hb1⟩
  clear e0 e1
  have d0 := HC4.out.c0
  have d1 := HC4.out.c1
  clear d0 d1
  replace HB := Lib.hid (HB.out.keep hb1)
  replace HC := Lib.hid (HC.out.keep hb1)
  replace HC4 := Lib.hid (HC4.out.keep hb1)
  replace HG4 := Lib.hid (HG4.out.keep hb1)
  clear hb1 K1
  have d0 := HC4.out.c0
  have d1 := HC4.out.c1
  have HT1 : Hid (OT w1 A1 m c1 _) := ⟨(hO1.mono (Nat.zero_le _) (Nat.le_refl _)).rd⟩
  clear hO1
  obtain ⟨W2, hW2⟩ : ∃ W2 : World, W2 = (w1.alloc (Obj.cells #[Value.slice A1 m c1] 115)) := ⟨_, rfl⟩
  have hb2 : Below w1.heap.size w1 W2 := by rw [hW2]; exact (Below.refl _ _).alloc (Nat.le_refl _) _
  have HX1 : Hid (CL W2 w1.heap.size 0 (.slice A1 m c1)) := by rw [hW2]; constructor; simp [go_sem]
  have HW2 := Lib.hid hW2
  replace HT1 := Lib.hid (HT1.out.keep hb2)
  have hlt : w3.heap.size < w1.heap.size := HC4.out.lt
  clear hW2
  go_wp2_with fail
  rw [← HW2.out]
  clear HW2 hlt
  clear d0 d1
  replace HB := Lib.hid (HB.out.keep hb2)
  replace HC := Lib.hid (HC.out.keep hb2)
  replace HC4 := Lib.hid (HC4.out.keep hb2)
  replace HG4 := Lib.hid (HG4.out.keep hb2)
  clear hb2
  have d0 := HC4.out.c0
  have d1 := HC4.out.c1
  refine (K2.out _ _ _ HG4.out).mono ?_
  rintro e w5 ⟨A2, c2, rfl, hO2, hb5⟩
  clear d0 d1
  replace HB := Lib.hid (HB.out.keep hb5)
  replace HC := Lib.hid (HC.out.keep hb5)
  replace HX1 := Lib.hid (HX1.out.keep hb5)
  replace HT1 := Lib.hid (HT1.out.keep hb5)
  clear hb5 K2 HG4 HC4
  have HT2 : Hid (OT w5 A2 m c2 _) := ⟨(hO2.mono (Nat.zero_le _) (Nat.le_refl _)).rd⟩
  clear hO2
  obtain ⟨W6, hW6⟩ : ∃ W6 : World, W6 = (w5.alloc (Obj.cells #[Value.slice A2 m c2] 115)) := ⟨_, rfl⟩
  have hb6 : Below w5.heap.size w5 W6 := by rw [hW6]; exact (Below.refl _ _).alloc (Nat.le_refl _) _
  have HX2 : Hid (CL W6 w5.heap.size 0 (.slice A2 m c2)) := by rw [hW6]; constructor; simp [go_sem]
  replace HT2 := Lib.hid (HT2.out.keep hb6)
  have HW6 := Lib.hid hW6
  clear hW6
  have HE : Hid (pmO r m = some (osL (pmA t1 t2) m, osL (fun v => pmB t1 t2 m v) m)) := pmO_yes HG3.out HG6.out
  go_wp2
  rw [← HW6.out]
  clear HW6
  replace HB := Lib.hid (HB.out.keep hb6)
  replace HC := Lib.hid (HC.out.keep hb6)
  replace HX1 := Lib.hid (HX1.out.keep hb6)
  replace HT1 := Lib.hid (HT1.out.keep hb6)
  clear hb6
  obtain ⟨qa, hqa⟩ : ∃ q, q = w1.heap.size := ⟨_, rfl⟩
  obtain ⟨qb, hqb⟩ : ∃ q, q = w5.heap.size := ⟨_, rfl⟩
  rw [← hqa] at HX1 ⊢
  rw [← hqb] at HX2 ⊢
  clear hqa hqb
  have x1 := HX1.out.c
  have x2 := HX2.out.c
  have HT1' := HT1
  have HT2' := HT2
  have HX1' := HX1
  have HB' := HB
  clear HC HX1 HT1 HB HN1 HN2 HG3 HG6
  (try clear e0 e1)
  have HSC : Hid (∀ z : World, Below W6.heap.size W6 z → (Below W6.heap.size W6 z ∧ z.cell? ⟨qb, 0, none⟩ = some (.slice A2 m c2))) := fun z hz => ⟨hz, up_ hz x2⟩
  have HZ0 : Hid (Below W6.heap.size W6 W6.drew) := (Below.refl _ _).drew
  have HS1 := Lib.hid (HSC.out _ HZ0.out)
  have KR1 : Hid (∀ z : World, Below W6.heap.size W6 z → _) := fun z hz => clone_t (HT2'.out.keep hz) hm1 hm7
  have KR2 : Hid (∀ z : World, Below W6.heap.size W6 z → _) := fun z hz => clone_t (HT2'.out.keep hz) hm1 hm7
  go_region_held3 (fun z => Below W6.heap.size W6 z ∧ z.cell? ⟨qb, 0, none⟩ = some (.slice A2 m c2))
   (first | exact HS1.out | assumption | exact HSC.out _ hz2 | exact HSC.out _ hz1 | fail)
   (first | (go_at_call 222; ((with_reducible refine (KR1.out _ HZ0.out).mono ?_); rintro e w1 ⟨g7, c7, rfl, hR7, hg7, hb1⟩; have hz1 := bl_trans HZ0.out hb1)) | (go_at_call 222; ((with_reducible refine (KR2.out _ hz1).mono ?_); rintro e w2 ⟨g8, c8, rfl, hR8, hg8, hb2⟩; have hz2 := bl_trans hz1 hb2)))
  clear hz1 hz2 HSC HZ0 HS1 KR1 KR2
  have hbA : Below W6.heap.size W6 w1 := ⟨hb1.os, hb1.tape, hb1.output, hb1.size, hb1.block⟩
  have HBz : Hid (Below W6.heap.size W6 w2) := bl_trans hbA hb2
  have hg7' : W6.heap.size ≤ g7 := hg7
  have hg78 : g7 < g8 := Nat.lt_of_lt_of_le hR7.lt hg8
  have HRA : Hid (RW w2 g7 m c7 (fun j => if j < 0 then pmA t1 t2 j else t2 j)) := ⟨(hR7.keep hb2).own.congr (fun j hj => by simp), by omega⟩
  have HRB : Hid (RW w2 g8 m c8 (fun j => t2 j ||| tnK t1 j 0)) := ⟨hR8.own.congr (fun j hj => by simp [tnK]), by omega⟩
  have hWw : w.heap.size ≤ W6.heap.size := HB'.out.below.size
  have x1 := (HX1'.out.keep HBz.out).c
  have HL1 : Hid (∀ v, v < m → t1 v < 128) := fun v hv => Nat.lt_of_lt_of_le (HG1.out v hv) (two_pow_le hm7)
  have HL2 : Hid (∀ v, v < m → t2 v < 128) := fun v hv => Nat.lt_of_lt_of_le (HG4.out v hv) (two_pow_le hm7)
  clear hb1 hb2 hR7 hR8 hg7 hg8 hbA HX2 HT2 x2 HT2'
  go_wp2
  clear x1
  go_loopw [47] (fun i wr => ∃ v : Nat, v ≤ m ∧ i = .int .i64 v ∧ Hid (RW wr g7 m c7 (fun j => if j < v then pmA t1 t2 j else t2 j)) ∧ Hid (RW wr g8 m c8 (fun j => t2 j ||| tnK t1 j v)) ∧ Hid (Below W6.heap.size W6 wr)) (fun i _ => m - (intOf i).toNat)
  case atStart => exact ⟨0, Nat.zero_le _, rfl, HRA, HRB, HBz⟩
  case round =>
   clear HRA HRB HBz
   obtain ⟨v, hv, rfl, HRA, HRB, HBz⟩ := hrel
   by_cases hvm : v < m
   rotate_left
   ·obtain rfl : v = m := by omega
    have i1 : (v : Int) ≤ (v : Int) := Int.le_refl _
    have HOA : Hid (OT wr (some ⟨g7, 0, none⟩) v c7 (pmA t1 t2)) := ⟨((HRA.out.own.mono (Nat.zero_le _) HRA.out.lt).congr (fun j hj => by rw [if_pos (by omega)])).rd⟩
    have HOB : Hid (OT wr (some ⟨g8, 0, none⟩) v c8 (fun u => pmB t1 t2 v u)) := ⟨(HRB.out.own.mono (Nat.zero_le _) HRB.out.lt).rd⟩
    have K3 := Lib.hid (orderOf_v hm1 hm7 HOA.out.rd (fun u hu => Nat.lt_of_lt_of_le (pmA_lt (HG1.out u hu) (HG4.out u hu)) (two_pow_le hm7)) (fun u hu => pmA_irr (HG2.out u hu) (HG5.out u hu)))
    go_wp2_with fail
    refine K3.out.mono ?_
    rintro e w3 ⟨A9, c9, rfl, ho9, hb3⟩
    have HB3 : Hid (Below W6.heap.size W6 w3) := bl_trans HBz.out hb3
    have hz9 : W6.heap.size ≤ wr.heap.size := HBz.out.size
    have HO9 : Hid (ON w.heap.size w3 A9 c9 (osL (pmA t1 t2) v)) := ho9.mono (by omega)
    replace HOB := Lib.hid (HOB.out.keep hb3)
    have K4 := Lib.hid (orderOf_v hm1 hm7 HOB.out.rd (fun u hu => Nat.lt_of_lt_of_le (pmB_lt (HG4.out u hu)) (two_pow_le hm7)) (fun u hu => pmB_irr hu (HG2.out u hu) (HG5.out u hu)))
    clear hb3 ho9 K3 HRA HRB HOA
    go_wp2_with fail
    refine K4.out.mono ?_
    rintro e w4 ⟨A10, c10, rfl, ho10, hb4⟩
    have HB4 : Hid (Below W6.heap.size W6 w4) := bl_trans HB3.out hb4
    have hz10 : W6.heap.size ≤ w3.heap.size := HB3.out.size
    have HO10 : Hid (ON w.heap.size w4 A10 c10 (osL (fun u => pmB t1 t2 v u) v)) := ho10.mono (by omega)
    replace HO9 := Lib.hid (HO9.out.keep hb4)
    clear hb4 ho10 K4 HOB
    go_wp2
    exact bodyPost_ret (v := .tuple #[.slice A9 v c9, .slice A10 v c10, .bool true]) (by simp [results, Tryz.results146, go_sem, *]) rfl (by rw [HE.out]; exact ⟨A9, c9, A10, c10, rfl, osL_len, osL_len, HO9.out, HO10.out, HB'.out.below.trans (HB4.out.mono hWw)⟩)
   have i1 : (v : Int) < (m : Int) := by omega
   obtain ⟨b1, o1, hA1, _, hc1⟩ := ((HT1'.out.keep HBz.out).rd).2 (by omega)
   have p0 := hc1 v hvm
   dsimp only at p0
   obtain ⟨x, hx⟩ : ∃ x, x = t1 v := ⟨_, rfl⟩
   have x128 : x < 128 := by rw [hx]; exact HL1.out v hvm
   obtain ⟨y, hy⟩ : ∃ y, y = t2 v := ⟨_, rfl⟩
   have y128 : y < 128 := by rw [hy]; exact HL2.out v hvm
   obtain ⟨u, hu⟩ : ∃ u, u = y ||| x := ⟨_, rfl⟩
   have E1 : bits .or .i64 (y : Int) (x : Int) = (u : Int) := by rw [hu]; exact i64_or_nat _ _ (by omega) (by omega)
   have q0 := HRA.out.cell hvm
   rw [if_neg (show ¬ v < v by omega), ← hy] at q0
   have f0 := HRA.out.froz v
   have HSt : Hid (∀ j, (if j < v + 1 then pmA t1 t2 j else t2 j) = if j = v then u else (if j < v then pmA t1 t2 j else t2 j)) := fun j => by
    by_cases h : j = v
    ·subst h
     rw [if_pos (show j < j + 1 by omega), if_pos rfl, hu, hx, hy]; rfl
    ·rw [if_neg h]
     by_cases h2 : j < v
     ·rw [if_pos h2, if_pos (by omega)]
     ·rw [if_neg h2, if_neg (by omega)]
   rw [← hx] at p0
   have KL := Lib.hid (ListOf_v x x128)
   have hl7 := listN_len x
   have Hx := Lib.hid hx
   have hlm : ∀ j, j < (listN x).length → (listN x).getD j 0 < m ∧ x.testBit ((listN x).getD j 0) = true := fun j hj => by
    have h1 := listN_at hj
    have h2 : (listN x).getD j 0 = (listN x)[j] := by simp [List.getD, hj]
    rw [h2]
    have h3 := HG1.out v hvm
    rw [← hx] at h3
    exact ⟨bit_lt h3 h1.2, h1.2⟩
   obtain ⟨lst, hls⟩ : ∃ l, l = listN x := ⟨_, rfl⟩
   rw [← hls] at KL hl7 hlm
   have HLM := Lib.hid hlm
   have HLS := Lib.hid hls
   have F0 : Fr g7 (g7 + 1) wr (wr.setCell ⟨g7, v, none⟩ (.int .i64 (u : Nat))) := fr_set wr
   subst hA1
   clear hc1 hy hu hx hls hlm
   go_wp2_with fail
   obtain ⟨wq, hwq⟩ : ∃ z : World, z = (wr.setCell ⟨g7, v, none⟩ (.int .i64 (u : Nat))) := ⟨_, rfl⟩
   rw [← hwq] at F0 ⊢
   have HRA5 : Hid (RW wq g7 m c7 (fun j => if j < v + 1 then pmA t1 t2 j else t2 j)) := by rw [hwq]; exact HRA.out.set HSt.out
   have HRB5 : Hid (RW wq g8 m c8 (fun j => t2 j ||| tnK t1 j v)) := HRB.out.keepF F0 (by omega)
   have HBz5 : Hid (Below W6.heap.size W6 wq) := HBz.out.trans (F0.below hg7' HBz.out.size)
   refine (KL.out _).mono ?_
   rintro e w5 ⟨A5, c5, rfl, ho5, hb5⟩
   have HL5 : Hid (ON W6.heap.size w5 A5 c5 lst) := ho5.mono HBz5.out.size
   have hg5 : g8 < wq.heap.size := HRB5.out.lt
   have HL6 : Hid (ON wq.heap.size w5 A5 c5 lst) := ho5
   replace HRA5 := Lib.hid (HRA5.out.keep hb5)
   have HRB6 : Hid (RW w5 g8 m c8 (fun j => if j ∈ lst.take 0 then (t2 j ||| tnK t1 j v) ||| 2 ^ v else t2 j ||| tnK t1 j v)) := ⟨(HRB5.out.keep hb5).own.congr (fun j hj => by simp), by omega⟩
   replace HBz5 := Lib.hid (bl_trans HBz5.out hb5)
   obtain ⟨Zq, hZq⟩ : ∃ Z, Z = wq.heap.size := ⟨_, rfl⟩
   rw [← hZq] at HL6 hg5
   clear hwq F0 ho5 hb5 KL p0 q0 f0 E1 HRA HRB HBz HRB5 HL5 hZq
   go_wp2
   go_loopw [62] (fun i wz => ∃ k : Nat, k ≤ lst.length ∧ i = .int .i64 k ∧ Hid (RW wz g7 m c7 (fun j => if j < v + 1 then pmA t1 t2 j else t2 j)) ∧ Hid (RW wz g8 m c8 (fun j => if j ∈ lst.take k then (t2 j ||| tnK t1 j v) ||| 2 ^ v else t2 j ||| tnK t1 j v)) ∧ Hid (ON Zq wz A5 c5 lst) ∧ Hid (Below W6.heap.size W6 wz)) (fun i _ => lst.length - (intOf i).toNat)
   case atStart => exact ⟨0, Nat.zero_le _, rfl, HRA5, HRB6, HL6, HBz5⟩
   case round =>
    clear HRA5 HRB6 HL6 HBz5
    obtain ⟨k, hk, rfl, HRA, HRB, HL6, HBz⟩ := hrel
    by_cases hkl : k < lst.length
    rotate_left
    ·obtain rfl : k = lst.length := by omega
     have i2 : (lst.length : Int) ≤ (lst.length : Int) := Int.le_refl _
     have HRB7 : Hid (RW wr g8 m c8 (fun j => t2 j ||| tnK t1 j (v + 1))) := ⟨HRB.out.own.congr (fun j hj => by
      rw [List.take_length, tnK_step, ← Hx.out]
      by_cases hb : x.testBit j = true
      ·rw [if_pos hb, if_pos (by rw [HLS.out]; exact mem_listN.2 ⟨by omega, hb⟩), Nat.or_assoc]
      ·rw [if_neg hb, if_neg (by rw [HLS.out]; intro h; exact hb (mem_listN.1 h).2)]), by omega⟩
     go_wp2
     go_roundw
     case rel => exact ⟨v + 1, by omega, by go_num, HRA, HRB7, HBz⟩
     case measure => (simp [intOf] <;> omega)
    have i2 : (k : Int) < (lst.length : Int) := by omega
    obtain ⟨b5, o5, hA5⟩ := HL6.out.ln.addr (by omega)
    subst hA5
    have p0 := HL6.out.ln.at hkl
    obtain ⟨hum, hub⟩ := HLM.out k hkl
    obtain ⟨u, hu⟩ : ∃ u, u = lst[k] := ⟨_, rfl⟩
    have hu2 : lst.getD k 0 = u := by rw [hu]; simp [List.getD, hkl]
    rw [hu2] at hum hub
    have hut : u ∉ lst.take k := fun h => by
     obtain ⟨i, hi, e⟩ := List.mem_iff_getElem.1 h
     rw [List.length_take] at hi
     have hik : i < k := by omega
     rw [List.getElem_take] at e
     have h1 : (listN x)[i]'(by rw [← HLS.out]; omega) < (listN x)[k]'(by rw [← HLS.out]; exact hkl) := listN_asc hik (by rw [← HLS.out]; exact hkl)
     simp only [← HLS.out] at h1
     omega
    rw [← hu] at p0
    have q0 := HRB.out.cell hum
    rw [if_neg hut] at q0
    have f0 := HRB.out.froz u
    have hy128 : t2 u ||| tnK t1 u v < 128 := Nat.or_lt_two_pow (n := 7) (HL2.out u hum) (Nat.lt_of_lt_of_le (tnK_lt (m := m) (by omega)) (two_pow_le hm7))
    have h2v := two_pow_le (n := v) (by omega)
    obtain ⟨y, hy⟩ : ∃ y, y = t2 u ||| tnK t1 u v := ⟨_, rfl⟩
    obtain ⟨p, hp⟩ : ∃ p, p = 2 ^ v := ⟨_, rfl⟩
    rw [← hy] at q0 hy128
    have p1w : IntKind.i64.wrap ((2 : Int) ^ v) = (p : Int) := by rw [pow_shl v (by omega), hp]; simp
    obtain ⟨f, hf⟩ : ∃ f, f = y ||| p := ⟨_, rfl⟩
    have E2 : bits .or .i64 (y : Int) (p : Int) = (f : Int) := by rw [hf]; exact i64_or_nat _ _ (by omega) (by omega)
    have HSt : Hid (∀ j, (if j ∈ lst.take (k + 1) then (t2 j ||| tnK t1 j v) ||| 2 ^ v else t2 j ||| tnK t1 j v) = if j = u then f else (if j ∈ lst.take k then (t2 j ||| tnK t1 j v) ||| 2 ^ v else t2 j ||| tnK t1 j v)) := fun j => by
     rw [List.take_succ_eq_append_getElem hkl, ← hu]
     by_cases h : j = u
     ·subst h
      rw [if_pos rfl, if_pos (by simp), hf, hy, hp]
     ·rw [if_neg h]
      by_cases h2 : j ∈ lst.take k
      ·rw [if_pos h2, if_pos (by simp [h2])]
      ·rw [if_neg h2, if_neg (by simp [h, h2])]
    have m1 : (u : Int) < (m : Int) := by omega
    have hZb : Hid (b5 < wr.heap.size) := World.block_lt_of_cell? _ _ p0
    have h8 : g8 < wr.heap.size := HRB.out.lt
    clear hu hu2 hub hut hy hp hf h2v
    go_wp2
    refine wp_region_held_drew (S := fun z => True) (by kernel_rfl) trivial (fun hHeld => ?_)
    refine pcY 0 rfl rfl (by kernel_rfl) (by rfl) (by intro w u; (try dsimp only at u); go_simp <;> with_reducible rfl) ‹_› (fun _ _ _ h => h) ?_; simp only [Act.put, sl0, sl1, sl2]
    iterate 2 (refine ptY rfl rfl (by kernel_rfl) (by rfl) (by intro w u; (try dsimp only at u); go_simp <;> with_reducible rfl) ‹_› (fun _ _ _ h => h) ?_; simp only [Act.put, sl0, sl1, sl2])
    refine pcY 4 rfl rfl (by kernel_rfl) (by rfl) (by intro w u; (try dsimp only at u); go_simp <;> with_reducible rfl) ‹_› (fun _ _ _ h => h) ?_; simp only [Act.put, sl0, sl1, sl2]
    refine ptY rfl rfl (by kernel_rfl) (by rfl) (by intro w u; (try dsimp only at u); go_simp <;> with_reducible rfl) ‹_› (fun _ _ _ h => h) ?_; simp only [Act.put, sl0, sl1, sl2]
    refine wpAnyH_ready (rs := [3]) (by kernel_rfl) (by simp) ?_
    refine AllReadyH.cons rfl (fun K hK => ?_) AllReadyH.nil
    go_simp
    refine hK.out _ _ trivial (fun hHeld => ?_)
    clear hK K
    try simp only [Act.put, sl0, sl1, sl2]
    refine pcY 6 rfl rfl (by kernel_rfl) (by rfl) (by intro w u; (try dsimp only at u); go_simp <;> with_reducible rfl) ‹_› (fun _ _ _ h => h) ?_; simp only [Act.put, sl0, sl1, sl2]
    refine ptY rfl rfl (by kernel_rfl) (by rfl) (by intro w u; (try dsimp only at u); go_simp <;> with_reducible rfl) ‹_› (fun _ _ _ h => h) ?_; simp only [Act.put, sl0, sl1, sl2]
    refine wpAnyH_ready (rs := [8]) (by kernel_rfl) (by simp) ?_
    refine AllReadyH.cons rfl (fun K hK => ?_) AllReadyH.nil
    go_simp
    refine hK.out _ _ trivial (fun hHeld => ?_)
    clear hK K
    try simp only [Act.put, sl0, sl1, sl2]
    refine wpAnyH_done (by kernel_rfl) ?_ _
    obtain ⟨wq, hwq⟩ : ∃ z : World, z = (wr.setCell ⟨g8, u, none⟩ (.int .i64 (f : Nat))).drew := ⟨_, rfl⟩
    have F : Fr g8 (g8 + 1) wr wq := by rw [hwq]; exact (fr_set wr).drew
    have HRB7 : Hid (RW wq g8 m c8 (fun j => if j ∈ lst.take (k + 1) then (t2 j ||| tnK t1 j v) ||| 2 ^ v else t2 j ||| tnK t1 j v)) := by rw [hwq]; exact (HRB.out.set HSt.out).drew
    have HRA7 : Hid (RW wq g7 m c7 (fun j => if j < v + 1 then pmA t1 t2 j else t2 j)) := HRA.out.keepF F (by omega)
    have HL7 : Hid (ON Zq wq (some ⟨b5, o5, none⟩) c5 lst) := ⟨(HL6.out.own.keep F (.inr (by omega))).mono (Nat.le_refl _) F.size⟩
    have HBz7 : Hid (Below W6.heap.size W6 wq) := HBz.out.trans (F.below (by omega) HBz.out.size)
    rw [← hwq]
    clear hwq F HRA HRB HL6 HBz q0 f0 p0 p1w E2 HSt
    go_wp2
    go_roundw
    case rel => exact ⟨k + 1, by omega, by go_num, HRA7, HRB7, HL7, HBz7⟩
    case measure => (simp [intOf] <;> omega)
set_option maxRecDepth 100000 in
set_option maxHeartbeats 1600000 in
theorem IsComparability_v (h : GV w A m c r) :
 Calls Tryz.prog 82 #[.agg #[.int .i64 m, .slice A m c]] w fun e w' => e = .returned (.bool (otO r m).isSome) ∧ Below w.heap.size w w' := by
 have K1 := Lib.hid (fun z (hz : Below w.heap.size w z) => OrientationOf_v (h.keep hz))
 obtain ⟨o, ho⟩ : ∃ o, o = otO r m := ⟨_, rfl⟩
 rw [← ho] at K1 ⊢
 clear ho
 obtain ⟨W, hW⟩ : ∃ W : World, W = (w.alloc (Obj.cells #[Value.int IntKind.i64 m, Value.slice A m c] 26)) := ⟨_, rfl⟩
 have HB : Hid (From w W) := by rw [hW]; exact From.alloc _ _
 have HG : Hid (GBox W w.heap.size A m c r) := by rw [hW]; exact h.box
 have HW := Lib.hid hW
 clear hW h
 have e0 := HG.out.c0
 have e1 := HG.out.c1
 go_enter Tryz.func82, Tryz.ntmps82
 rcases o with _ | t
 ·go_wp2_with fail
  rw [← HW.out]
  refine (K1.out _ HB.out.below).mono ?_
  rintro e w1 ⟨rfl, hb1⟩
  clear HW
  clear e0 e1
  replace HB := Lib.hid (HB.out.keep hb1)
  replace HG := Lib.hid (HG.out.keep hb1)
  clear hb1
  have e0 := HG.out.c0
  have e1 := HG.out.c1
  go_wp2
  go_ret
  exact ⟨rfl, bl_alloc HB.out.below⟩
 ·go_wp2_with fail
  rw [← HW.out]
  refine (K1.out _ HB.out.below).mono ?_
  rintro e w2 ⟨A1, c1, rfl, _, hb2⟩
  have HB2 := Lib.hid (HB.out.keep hb2)
  clear HB HG hb2 e0 e1
  go_wp2
  go_ret
  exact ⟨rfl, bl_alloc HB2.out.below⟩
set_option maxRecDepth 100000 in
set_option maxHeartbeats 1600000 in
theorem IsPermutationGraph_v (h : GV w A m c r) :
 Calls Tryz.prog 83 #[.agg #[.int .i64 m, .slice A m c]] w fun e w' => e = .returned (.bool (pmO r m).isSome) ∧ Below w.heap.size w w' := by
 have K1 := Lib.hid (fun z (hz : Below w.heap.size w z) => PermutationModelOf_v (h.keep hz))
 obtain ⟨o, ho⟩ : ∃ o, o = pmO r m := ⟨_, rfl⟩
 rw [← ho] at K1 ⊢
 clear ho
 obtain ⟨W, hW⟩ : ∃ W : World, W = (w.alloc (Obj.cells #[Value.int IntKind.i64 m, Value.slice A m c] 26)) := ⟨_, rfl⟩
 have HB : Hid (From w W) := by rw [hW]; exact From.alloc _ _
 have HG : Hid (GBox W w.heap.size A m c r) := by rw [hW]; exact h.box
 have HW := Lib.hid hW
 clear hW h
 have e0 := HG.out.c0
 have e1 := HG.out.c1
 go_enter Tryz.func83, Tryz.ntmps83
 rcases o with _ | t
 ·go_wp2_with fail
  rw [← HW.out]
  refine (K1.out _ HB.out.below).mono ?_
  rintro e w2 ⟨A1, c1, A2, c2, rfl, _, _, hb2⟩
  have HB2 := Lib.hid (HB.out.keep hb2)
  clear HB HG hb2 e0 e1
  go_wp2
  go_ret
  exact ⟨rfl, HB2.out.below⟩
 ·go_wp2_with fail
  rw [← HW.out]
  refine (K1.out _ HB.out.below).mono ?_
  rintro e w2 ⟨A1, c1, A2, c2, rfl, _, _, _, _, hb2⟩
  have HB2 := Lib.hid (HB.out.keep hb2)
  clear HB HG hb2 e0 e1
  go_wp2
  go_ret
  exact ⟨rfl, HB2.out.below⟩
end
end Go.Proofs.YtfabbohijhjpcaaGreatDoor
