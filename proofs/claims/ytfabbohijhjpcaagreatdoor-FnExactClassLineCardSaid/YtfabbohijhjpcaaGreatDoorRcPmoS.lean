/-
-/
import Derived.Test.YtfabbohijhjpcaaGreatDoorRcOrnS
import Derived.Test.YtfabbohijhjpcaaGreatDoorRcAntS
namespace Go.Proofs.YtfabbohijhjpcaaGreatDoor
open Go.RowKit
def pmQ (w : World) (m : Nat) : Option (List Nat × List Nat) → Ending → World → Prop
 | none, e, w' => ∃ A1 c1 A2 c2, e = .returned (.tuple #[.slice A1 0 c1, .slice A2 0 c2, .bool false]) ∧ ON w.heap.size w' A1 c1 [] ∧ ON w.heap.size w' A2 c2 [] ∧ Below w.heap.size w w'
 | some p, e, w' => ∃ A1 c1 A2 c2, e = .returned (.tuple #[.slice A1 m c1, .slice A2 m c2, .bool true]) ∧ p.1.length = m ∧ p.2.length = m ∧ ON w.heap.size w' A1 c1 p.1 ∧ ON w.heap.size w' A2 c2 p.2 ∧ Below w.heap.size w w'
theorem pmQ.none {w z : World} (h : From w z) (m : Nat) : pmQ w m none (.returned (.tuple #[.slice (some ⟨z.heap.size, 0, none⟩) 0 0, .slice (some ⟨z.heap.size + 1, 0, none⟩) 0 0, .bool false])) ((z.alloc (Obj.cells #[] 3)).alloc (Obj.cells #[] 3)) := by
 have h1 := (ON.nil z).keep ((Below.refl _ _).alloc (Nat.le_refl _) (Obj.cells #[] 3))
 have h2 := ON.nil (z.alloc (Obj.cells #[] 3))
 have hs : (z.alloc (Obj.cells #[] 3)).heap.size = z.heap.size + 1 := by simp
 rw [hs] at h2
 have hz := h.below.size
 exact ⟨_, _, _, _, rfl, h1.mono hz, h2.mono (by omega), ((h.alloc_ _).alloc_ _).below⟩
def pmT (tb : Bool) (t1 t2 : Nat → Nat) (m : Nat) : Nat → Nat := if tb then (fun v => pmB t1 t2 m v) else pmA t1 t2
theorem pmT_bit {tb : Bool} {t1 t2 : Nat → Nat} {m u v : Nat} (hv : v < m) : (pmT tb t1 t2 m u).testBit v = ((if tb then (t1 v).testBit u else (t1 u).testBit v) || (t2 u).testBit v) := by
 cases tb
 ·show (pmA t1 t2 u).testBit v = _
  rw [pmA_bit, Bool.or_comm]; rfl
 ·show (pmB t1 t2 m u).testBit v = _
  rw [pmB_bit hv, Bool.or_comm]; rfl
def osL (t : Nat → Nat) (m : Nat) : List Nat := (List.range m).map (osK t m m)
theorem osL_len {t : Nat → Nat} {m : Nat} : (osL t m).length = m := by unfold osL; simp
theorem osL_own {w : World} {lo hi m c : Nat} {A : Option Addr} {t : Nat → Nat} (h : Own w lo hi 3 1 A m c (fun j => .int .i64 (osK t m m j : Nat))) : Own w lo hi 3 1 A (osL t m).length c (ni (osL t m)) := by
 rw [osL_len]
 refine h.congr fun j hj => ?_
 have hj2 : j < m := by omega
 unfold ni osL
 simp [List.getD, hj2]
section
variable {A A1 A2 : Option Addr} {m c c1 c2 : Nat} {t1 t2 : Nat → Nat} {w : World}
set_option maxRecDepth 100000 in
set_option maxHeartbeats 6400000 in
theorem l14Sort_s (tb : Bool) (hm1 : 1 ≤ m) (hm7 : m ≤ 7) (h1 : Rd w w.heap.size A1 m c1 (fun j => ((t1 j : Nat) : Int))) (h2 : Rd w w.heap.size A2 m c2 (fun j => ((t2 j : Nat) : Int))) (l1 : ∀ v, v < m → t1 v < 128) (l2 : ∀ v, v < m → t2 v < 128) (j1 : ∀ v, v < m → (t1 v).testBit v = false) (j2 : ∀ v, v < m → (t2 v).testBit v = false) :
 Calls Tryz.prog 199 #[.agg #[.int .i64 m, .slice A m c], .agg #[.slice A1 m c1], .agg #[.slice A2 m c2], .bool tb] w fun e w' => ∃ A' c', e = .returned (.slice A' m c') ∧ ON w.heap.size w' A' c' (osL (pmT tb t1 t2 m) m) ∧ Below w.heap.size w w' := by
 obtain ⟨W, hW⟩ : ∃ W : World, W = (((w.alloc (Obj.cells #[Value.int IntKind.i64 m, Value.slice A m c] 26)).alloc (Obj.cells #[Value.slice A1 m c1] 115)).alloc (Obj.cells #[Value.slice A2 m c2] 115)) := ⟨_, rfl⟩
 have HB : Hid (From w W) := by rw [hW]; exact ((From.alloc _ _).alloc_ _).alloc_ _
 have HC : Hid (GC W w.heap.size m A m c) := by rw [hW]; exact ((GC.new _ _ _ _ _).keep ((Below.refl _ _).alloc (Nat.le_refl _) _)).keep ((Below.refl _ _).alloc (Nat.le_refl _) _)
 have HO1 : Hid (CL W (w.heap.size + 1) 0 (.slice A1 m c1)) := by rw [hW]; constructor; simp [go_sem]
 have HO2 : Hid (CL W (w.heap.size + 2) 0 (.slice A2 m c2)) := by rw [hW]; constructor; simp [go_sem]
 have HR1 : Hid (∀ z : World, From w z → Rd z z.heap.size A1 m c1 (fun j => ((t1 j : Nat) : Int))) := fun z hz => h1.keep hz.below hz.below.size
 have HR2 : Hid (∀ z : World, From w z → Rd z z.heap.size A2 m c2 (fun j => ((t2 j : Nat) : Int))) := fun z hz => h2.keep hz.below hz.below.size
 have HL1 := Lib.hid l1
 have HL2 := Lib.hid l2
 obtain ⟨t, ht⟩ : ∃ t, t = pmT tb t1 t2 m := ⟨_, rfl⟩
 have HT : Hid (∀ u v, v < m → (t u).testBit v = ((if tb then (t1 v).testBit u else (t1 u).testBit v) || (t2 u).testBit v)) := fun u v hv => by rw [ht]; exact pmT_bit hv
 have HI : Hid (∀ v, v < m → (t v).testBit v = false) := fun v hv => by
  rw [HT.out v v hv, j1 v hv, j2 v hv]
  cases tb <;> rfl
 rw [← ht]
 obtain ⟨W4, hmk, hO4, hb4⟩ := made_own W m (by omega)
 have HT4 : Hid (RW W4 W.heap.size m m (osK t m 0)) := ⟨hO4.congr (fun j _ => rfl), by omega⟩
 have hW2 : w.heap.size + 2 < W.heap.size := World.block_lt_of_cell? _ _ HO2.out.c
 have HB0 := HB
 have HW := Lib.hid hW
 have e0 := HC.out.c0
 clear hW h1 h2 l1 l2 j1 j2 ht hO4
 go_enter Tryz.func199, Tryz.ntmps199
 go_wp2_with fail
 rw [← HW.out, hmk]
 clear HW hmk e0
 replace HB := Lib.hid (HB.out.keep hb4)
 replace HC := Lib.hid (HC.out.keep hb4)
 replace HO1 := Lib.hid (HO1.out.keep hb4)
 replace HO2 := Lib.hid (HO2.out.keep hb4)
 have hWw : w.heap.size ≤ W.heap.size := by have := HB0.out.below.size; omega
 obtain ⟨go, hgo⟩ : ∃ go, go = W.heap.size := ⟨_, rfl⟩
 rw [← hgo] at HT4 hWw ⊢
 have hgB : w.heap.size + 2 < go := by rw [hgo]; exact hW2
 clear hb4 hgo hW2 HB0
 go_wp2
 go_loopw [10] (fun i wr => ∃ v : Nat, v ≤ m ∧ i = .int .i64 v ∧ Hid (RW wr go m m (osK t m v)) ∧ Hid (GC wr w.heap.size m A m c) ∧ Hid (CL wr (w.heap.size + 1) 0 (.slice A1 m c1)) ∧ Hid (CL wr (w.heap.size + 2) 0 (.slice A2 m c2)) ∧ Hid (From w wr)) (fun i _ => m - (intOf i).toNat)
 case atStart => exact ⟨0, Nat.zero_le _, rfl, HT4, HC, HO1, HO2, HB⟩
 case round =>
  clear HT4 HC HO1 HO2 HB
  obtain ⟨v, hv, rfl, HT4, HC, HO1, HO2, HB⟩ := hrel
  have e0 := HC.out.c0
  by_cases hvm : v < m
  rotate_left
  ·obtain rfl : v = m := by omega
   have i1 : (v : Int) ≤ (v : Int) := Int.le_refl _
   go_wp2
   go_ret
   exact ⟨_, _, rfl, ⟨osL_own (HT4.out.own.mono hWw HT4.out.lt)⟩, HB.out.below⟩
  have i1 : (v : Int) < (m : Int) := by omega
  go_wp2
  clear e0
  go_loopw [11, 12] (fun n i wz => ∃ u : Nat, u ≤ m ∧ i = .int .i64 u ∧ n = .int .i64 (bfP t v u : Nat) ∧ wz = wr) (fun _ i _ => m - (intOf i).toNat)
  case atStart => exact ⟨0, Nat.zero_le _, rfl, rfl, by first | rfl | trivial⟩
  case round =>
   obtain ⟨u, hu, rfl, rfl, hwz⟩ := hrel
   subst hwz
   have e0 := HC.out.c0
   by_cases hum : u < m
   rotate_left
   ·obtain rfl : u = m := by omega
    have i2 : (u : Int) ≤ (u : Int) := Int.le_refl _
    have hlt := bfP_lt (HI.out v hvm) hvm
    obtain ⟨n, hn⟩ : ∃ n, n = bfP t v u := ⟨_, rfl⟩
    rw [← hn] at hlt
    have hst : ∀ i, osK t u (v + 1) i = if i = n then v else osK t u v i := fun i => by rw [hn]; rfl
    have HSt := Lib.hid hst
    have q0 := HT4.out.cell hlt
    have f0 := HT4.out.froz n
    have i3 : (n : Int) < (u : Int) := by omega
    have Hn := Lib.hid hn
    rw [← hn]
    obtain ⟨y, hy⟩ : ∃ y, y = osK t u v n := ⟨_, rfl⟩
    rw [← hy] at q0
    clear hn hst hy
    go_wp2
    obtain ⟨wq, hwq⟩ : ∃ z : World, z = (wr.setCell ⟨go, n, none⟩ (.int .i64 (v : Nat))) := ⟨_, rfl⟩
    have F : Fr go (go + 1) wr wq := by rw [hwq]; exact fr_set wr
    have HT5 : Hid (RW wq go u u (osK t u (v + 1))) := by rw [hwq]; exact HT4.out.set HSt.out
    have HC5 : Hid (GC wq w.heap.size u A u c) := HC.out.keepF F (.inl (by omega))
    have HO15 : Hid (CL wq (w.heap.size + 1) 0 (.slice A1 u c1)) := ⟨frC_ F HO1.out.c (World.block_lt_of_cell? _ _ HO1.out.c) (.inl (by omega))⟩
    have HO25 : Hid (CL wq (w.heap.size + 2) 0 (.slice A2 u c2)) := ⟨frC_ F HO2.out.c (World.block_lt_of_cell? _ _ HO2.out.c) (.inl (by omega))⟩
    have HB5 : Hid (From w wq) := ⟨HB.out.below.trans (F.below (by omega) HB.out.below.size)⟩
    rw [← hwq]
    clear hwq F
    go_roundw
    case rel => exact ⟨v + 1, by omega, by go_num, HT5, HC5, HO15, HO25, HB5⟩
    case measure => (simp [intOf] <;> omega)
   have i2 : (u : Int) < (m : Int) := by omega
   obtain ⟨b1, o1, hA1, _, hc1⟩ := (HR1.out wr HB.out).2 (by omega)
   obtain ⟨b2, o2, hA2, _, hc2⟩ := (HR2.out wr HB.out).2 (by omega)
   subst hA1 hA2
   have p0 := hc1 u hum
   have p1 := hc1 v hvm
   have p2 := hc2 u hum
   dsimp only at p0 p1 p2
   have d1 := HO1.out.c
   have d2 := HO2.out.c
   have x0 := HL1.out u hum
   have x1 := HL1.out v hvm
   have x2 := HL2.out u hum
   have hbit := HT.out u v hvm
   obtain ⟨y0, hy0⟩ : ∃ y, y = t1 u := ⟨_, rfl⟩
   obtain ⟨y1, hy1⟩ : ∃ y, y = t1 v := ⟨_, rfl⟩
   obtain ⟨y2, hy2⟩ : ∃ y, y = t2 u := ⟨_, rfl⟩
   rw [← hy0] at p0 x0 hbit
   rw [← hy1] at p1 x1 hbit
   rw [← hy2] at p2 x2 hbit
   have E0 : (bits .and .i64 ((y0 : Int) / 2 ^ v) 1 == 1) = y0.testBit v := by simpa using and_one_i64 (y0 : Int) v (by omega) (by omega)
   have E1 : (bits .and .i64 ((y1 : Int) / 2 ^ u) 1 == 1) = y1.testBit u := by simpa using and_one_i64 (y1 : Int) u (by omega) (by omega)
   have E2 : (bits .and .i64 ((y2 : Int) / 2 ^ v) 1 == 1) = y2.testBit v := by simpa using and_one_i64 (y2 : Int) v (by omega) (by omega)
   obtain ⟨z0, hz0⟩ : ∃ z, z = y0.testBit v := ⟨_, rfl⟩
   obtain ⟨z1, hz1⟩ : ∃ z, z = y1.testBit u := ⟨_, rfl⟩
   obtain ⟨z2, hz2⟩ : ∃ z, z = y2.testBit v := ⟨_, rfl⟩
   rw [← hz0] at E0 hbit
   rw [← hz1] at E1 hbit
   rw [← hz2] at E2 hbit
   have HBT := Lib.hid hbit
   have hbn := bfP_le (t := t) (v := v) (k := u)
   clear hc1 hc2 hy0 hy1 hy2 hz0 hz1 hz2 hbit
   cases tb
   ·cases z0
    ·cases z2
     ·skip
      have hb : (t u).testBit v = false := by rw [HBT.out]; rfl
      have Hb : Hid (bfP t v (u + 1) = bfP t v u) := bfP_no hb
      clear hb HBT
      go_wp2
      go_roundw
      case rel => exact ⟨u + 1, by omega, by go_num, by rw [Hb.out], trivial⟩
      case measure => (simp [intOf] <;> omega)
     ·skip
      have hb : (t u).testBit v = true := by rw [HBT.out]; rfl
      have Hb : Hid (bfP t v (u + 1) = bfP t v u + 1) := bfP_yes hb
      clear hb HBT
      go_wp2
      go_roundw
      case rel => exact ⟨u + 1, by omega, by go_num, by rw [Hb.out]; go_num, trivial⟩
      case measure => (simp [intOf] <;> omega)
    ·skip
     have hb : (t u).testBit v = true := by rw [HBT.out]; rfl
     have Hb : Hid (bfP t v (u + 1) = bfP t v u + 1) := bfP_yes hb
     clear hb HBT
     go_wp2
     go_roundw
     case rel => exact ⟨u + 1, by omega, by go_num, by rw [Hb.out]; go_num, trivial⟩
     case measure => (simp [intOf] <;> omega)
   ·cases z1
    ·cases z2
     ·skip
      have hb : (t u).testBit v = false := by rw [HBT.out]; rfl
      have Hb : Hid (bfP t v (u + 1) = bfP t v u) := bfP_no hb
      clear hb HBT
      go_wp2
      go_roundw
      case rel => exact ⟨u + 1, by omega, by go_num, by rw [Hb.out], trivial⟩
      case measure => (simp [intOf] <;> omega)
     ·skip
      have hb : (t u).testBit v = true := by rw [HBT.out]; rfl
      have Hb : Hid (bfP t v (u + 1) = bfP t v u + 1) := bfP_yes hb
      clear hb HBT
      go_wp2
      go_roundw
      case rel => exact ⟨u + 1, by omega, by go_num, by rw [Hb.out]; go_num, trivial⟩
      case measure => (simp [intOf] <;> omega)
    ·skip
     have hb : (t u).testBit v = true := by rw [HBT.out]; rfl
     have Hb : Hid (bfP t v (u + 1) = bfP t v u + 1) := bfP_yes hb
     clear hb HBT
     go_wp2
     go_roundw
     case rel => exact ⟨u + 1, by omega, by go_num, by rw [Hb.out]; go_num, trivial⟩
     case measure => (simp [intOf] <;> omega)
end
structure OT (w : World) (A : Option Addr) (m c : Nat) (t : Nat → Nat) : Prop where
 rd : Rd w w.heap.size A m c (fun j => ((t j : Nat) : Int))
theorem OT.keep {w w' : World} {A : Option Addr} {m c : Nat} {t : Nat → Nat} (h : OT w A m c t) (hb : Below w.heap.size w w') : OT w' A m c t := ⟨h.rd.keep hb hb.size⟩
theorem OT.drew {w : World} {A : Option Addr} {m c : Nat} {t : Nat → Nat} (h : OT w A m c t) : OT w.drew A m c t := ⟨h.rd⟩
theorem ot_facts {r t : Nat → Nat} {m : Nat} (vg : VG m r) (h : otO r m = some t) : (∀ v, v < m → t v < 128) ∧ (∀ v, v < m → (t v).testBit v = false) := by
 have hi := otO_in vg h
 have h2 := two_pow_le vg.n7
 exact ⟨fun v hv => Nat.lt_of_lt_of_le (hi.lt hv) h2, fun v hv => hi.irr vg hv⟩
section
variable {A : Option Addr} {m c : Nat} {r : Nat → Nat} {w : World}
set_option maxRecDepth 100000 in
set_option maxHeartbeats 6400000 in
theorem PermutationModelOf_sv (h : GV w A m c r) :
 Calls Tryz.prog 133 #[.agg #[.int .i64 m, .slice A m c]] w (pmQ w m (pmO r m)) := by
 have hm7 := h.vg.n7
 have hm1 := h.vg.n1
 have HV := Lib.hid h.vg
 have HGw := Lib.hid h
 obtain ⟨W, hW⟩ : ∃ W : World, W = (w.alloc (Obj.cells #[Value.int IntKind.i64 m, Value.slice A m c] 26)) := ⟨_, rfl⟩
 have HB : Hid (From w W) := by rw [hW]; exact From.alloc _ _
 have HC : Hid (GC W w.heap.size m A m c) := by rw [hW]; exact GC.new _ _ _ _ _
 have K1 : Hid (∀ z : World, From w z → Calls Tryz.prog 132 #[.agg #[.int .i64 m, .slice A m c]] z (orQ z m (otO r m))) := fun z hz => OrientationOf_sv (HGw.out.keep hz.below)
 have K2 : Hid (∀ (z : World) (A' : Option Addr) (c' : Nat), GV z A' m c' (coR r m) → Calls Tryz.prog 132 #[.agg #[.int .i64 m, .slice A' m c']] z (orQ z m (otO (coR r m) m))) := fun z A' c' hz => OrientationOf_sv hz
 have HVC : Hid (VG m (coR r m)) := coR_vg HV.out
 obtain ⟨o1, ho1⟩ : ∃ o, o = otO r m := ⟨_, rfl⟩
 obtain ⟨o2, ho2⟩ : ∃ o, o = otO (coR r m) m := ⟨_, rfl⟩
 have HF1 : Hid (∀ t, o1 = some t → (∀ v, v < m → t v < 128) ∧ (∀ v, v < m → (t v).testBit v = false) ∧ otO r m = some t) := fun t ht => ⟨(ot_facts HV.out (ho1.symm.trans ht)).1, (ot_facts HV.out (ho1.symm.trans ht)).2, ho1.symm.trans ht⟩
 have HF2 : Hid (∀ t, o2 = some t → (∀ v, v < m → t v < 128) ∧ (∀ v, v < m → (t v).testBit v = false) ∧ otO (coR r m) m = some t) := fun t ht => ⟨(ot_facts HVC.out (ho2.symm.trans ht)).1, (ot_facts HVC.out (ho2.symm.trans ht)).2, ho2.symm.trans ht⟩
 rw [← ho1] at K1
 rw [← ho2] at K2
 have HN1 := Lib.hid ho1
 have HN2 := Lib.hid ho2
 have HW := Lib.hid hW
 clear hW h ho1 ho2 HVC
 go_enter Tryz.func133, Tryz.ntmps133
 rcases o1 with _ | t1 <;> rcases o2 with _ | t2
 ·skip
  clear HF1 HF2
  have e0 := HC.out.c0
  have e1 := HC.out.c1
  go_wp2_with fail
  rw [← HW.out]
  clear HW
  refine (K1.out _ HB.out).mono ?_
  rintro e w1 ⟨rfl, hb1⟩
  clear e0 e1
  replace HB := Lib.hid (HB.out.keep hb1)
  replace HC := Lib.hid (HC.out.keep hb1)
  clear hb1 K1
  have e0 := HC.out.c0
  have e1 := HC.out.c1
  obtain ⟨W2, hW2⟩ : ∃ W2 : World, W2 = (w1.alloc (Obj.cells #[Value.slice none 0 0] 115)) := ⟨_, rfl⟩
  have hb2 : Below w1.heap.size w1 W2 := by rw [hW2]; exact (Below.refl _ _).alloc (Nat.le_refl _) _
  have HX1 : Hid (CL W2 w1.heap.size 0 (.slice none 0 0)) := by rw [hW2]; constructor; simp [go_sem]
  have HW2 := Lib.hid hW2
  have hlt : w.heap.size < w1.heap.size := HC.out.lt
  clear hW2
  go_wp2_with fail
  rw [← HW2.out]
  clear HW2 hlt
  clear e0 e1
  replace HB := Lib.hid (HB.out.keep hb2)
  replace HC := Lib.hid (HC.out.keep hb2)
  clear hb2
  have e0 := HC.out.c0
  have e1 := HC.out.c1
  refine (ComplementOf_sv (HGw.out.keep HB.out.below)).mono ?_
  rintro e w3 ⟨A3, c3, rfl, hG3, hb3⟩
  clear e0 e1
  replace HB := Lib.hid (HB.out.keep hb3)
  replace HC := Lib.hid (HC.out.keep hb3)
  replace HX1 := Lib.hid (HX1.out.keep hb3)
  clear hb3
  have e0 := HC.out.c0
  have e1 := HC.out.c1
  obtain ⟨W4, hW4⟩ : ∃ W4 : World, W4 = (w3.alloc (Obj.cells #[Value.int IntKind.i64 m, Value.slice A3 m c3] 26)) := ⟨_, rfl⟩
  have hb4 : Below w3.heap.size w3 W4 := by rw [hW4]; exact (Below.refl _ _).alloc (Nat.le_refl _) _
  have HG4 : Hid (GV W4 A3 m c3 (coR r m)) := hG3.keep hb4
  have HW4 := Lib.hid hW4
  clear hW4 hG3
  go_wp2_with fail
  rw [← HW4.out]
  clear HW4
  clear e0 e1
  replace HB := Lib.hid (HB.out.keep hb4)
  replace HC := Lib.hid (HC.out.keep hb4)
  replace HX1 := Lib.hid (HX1.out.keep hb4)
  clear hb4
  have e0 := HC.out.c0
  have e1 := HC.out.c1
  refine (K2.out _ _ _ HG4.out).mono ?_
  rintro e w5 ⟨rfl, hb5⟩
  clear e0 e1
  replace HB := Lib.hid (HB.out.keep hb5)
  replace HC := Lib.hid (HC.out.keep hb5)
  replace HX1 := Lib.hid (HX1.out.keep hb5)
  clear hb5 K2 HG4
  have e0 := HC.out.c0
  have e1 := HC.out.c1
  obtain ⟨W6, hW6⟩ : ∃ W6 : World, W6 = (w5.alloc (Obj.cells #[Value.slice none 0 0] 115)) := ⟨_, rfl⟩
  have hb6 : Below w5.heap.size w5 W6 := by rw [hW6]; exact (Below.refl _ _).alloc (Nat.le_refl _) _
  have HX2 : Hid (CL W6 w5.heap.size 0 (.slice none 0 0)) := by rw [hW6]; constructor; simp [go_sem]
  have HW6 := Lib.hid hW6
  clear hW6
  have HE : Hid (pmO r m = none) := pmO_no1 HN1.out.symm
  have hz6 : W6.heap.size = w5.heap.size + 1 := by rw [HW6.out]; simp
  have hp := pmQ.none (HB.out.keep hb6) m
  rw [hz6] at hp
  have HP := Lib.hid hp
  clear hp hz6 hb6
  go_wp2
  rw [← HW6.out]
  exact bodyPost_ret (v := .tuple #[.slice (some ⟨w5.heap.size + 1, 0, none⟩) 0 0, .slice (some ⟨w5.heap.size + 1 + 1, 0, none⟩) 0 0, .bool false]) (by simp [results, Tryz.results133, go_sem, *]) rfl (by rw [HE.out]; exact HP.out)
 ·skip
  obtain ⟨G4, G5, G6⟩ := HF2.out _ rfl
  have HG4 := Lib.hid G4
  have HG5 := Lib.hid G5
  have HG6 := Lib.hid G6
  clear G4 G5 G6
  clear HF1 HF2
  have e0 := HC.out.c0
  have e1 := HC.out.c1
  go_wp2_with fail
  rw [← HW.out]
  clear HW
  refine (K1.out _ HB.out).mono ?_
  rintro e w1 ⟨rfl, hb1⟩
  clear e0 e1
  replace HB := Lib.hid (HB.out.keep hb1)
  replace HC := Lib.hid (HC.out.keep hb1)
  clear hb1 K1
  have e0 := HC.out.c0
  have e1 := HC.out.c1
  obtain ⟨W2, hW2⟩ : ∃ W2 : World, W2 = (w1.alloc (Obj.cells #[Value.slice none 0 0] 115)) := ⟨_, rfl⟩
  have hb2 : Below w1.heap.size w1 W2 := by rw [hW2]; exact (Below.refl _ _).alloc (Nat.le_refl _) _
  have HX1 : Hid (CL W2 w1.heap.size 0 (.slice none 0 0)) := by rw [hW2]; constructor; simp [go_sem]
  have HW2 := Lib.hid hW2
  have hlt : w.heap.size < w1.heap.size := HC.out.lt
  clear hW2
  go_wp2_with fail
  rw [← HW2.out]
  clear HW2 hlt
  clear e0 e1
  replace HB := Lib.hid (HB.out.keep hb2)
  replace HC := Lib.hid (HC.out.keep hb2)
  clear hb2
  have e0 := HC.out.c0
  have e1 := HC.out.c1
  refine (ComplementOf_sv (HGw.out.keep HB.out.below)).mono ?_
  rintro e w3 ⟨A3, c3, rfl, hG3, hb3⟩
  clear e0 e1
  replace HB := Lib.hid (HB.out.keep hb3)
  replace HC := Lib.hid (HC.out.keep hb3)
  replace HX1 := Lib.hid (HX1.out.keep hb3)
  clear hb3
  have e0 := HC.out.c0
  have e1 := HC.out.c1
  obtain ⟨W4, hW4⟩ : ∃ W4 : World, W4 = (w3.alloc (Obj.cells #[Value.int IntKind.i64 m, Value.slice A3 m c3] 26)) := ⟨_, rfl⟩
  have hb4 : Below w3.heap.size w3 W4 := by rw [hW4]; exact (Below.refl _ _).alloc (Nat.le_refl _) _
  have HG4 : Hid (GV W4 A3 m c3 (coR r m)) := hG3.keep hb4
  have HW4 := Lib.hid hW4
  clear hW4 hG3
  go_wp2_with fail
  rw [← HW4.out]
  clear HW4
  clear e0 e1
  replace HB := Lib.hid (HB.out.keep hb4)
  replace HC := Lib.hid (HC.out.keep hb4)
  replace HX1 := Lib.hid (HX1.out.keep hb4)
  clear hb4
  have e0 := HC.out.c0
  have e1 := HC.out.c1
  refine (K2.out _ _ _ HG4.out).mono ?_
  rintro e w5 ⟨A2, c2, rfl, hO2, hb5⟩
  clear e0 e1
  replace HB := Lib.hid (HB.out.keep hb5)
  replace HC := Lib.hid (HC.out.keep hb5)
  replace HX1 := Lib.hid (HX1.out.keep hb5)
  clear hb5 K2 HG4
  have e0 := HC.out.c0
  have e1 := HC.out.c1
  have HT2 : Hid (OT w5 A2 m c2 _) := ⟨(hO2.mono (Nat.zero_le _) (Nat.le_refl _)).rd⟩
  clear hO2
  obtain ⟨W6, hW6⟩ : ∃ W6 : World, W6 = (w5.alloc (Obj.cells #[Value.slice A2 m c2] 115)) := ⟨_, rfl⟩
  have hb6 : Below w5.heap.size w5 W6 := by rw [hW6]; exact (Below.refl _ _).alloc (Nat.le_refl _) _
  have HX2 : Hid (CL W6 w5.heap.size 0 (.slice A2 m c2)) := by rw [hW6]; constructor; simp [go_sem]
  replace HT2 := Lib.hid (HT2.out.keep hb6)
  have HW6 := Lib.hid hW6
  clear hW6
  have HE : Hid (pmO r m = none) := pmO_no1 HN1.out.symm
  have hz6 : W6.heap.size = w5.heap.size + 1 := by rw [HW6.out]; simp
  have hp := pmQ.none (HB.out.keep hb6) m
  rw [hz6] at hp
  have HP := Lib.hid hp
  clear hp hz6 hb6
  go_wp2
  rw [← HW6.out]
  exact bodyPost_ret (v := .tuple #[.slice (some ⟨w5.heap.size + 1, 0, none⟩) 0 0, .slice (some ⟨w5.heap.size + 1 + 1, 0, none⟩) 0 0, .bool false]) (by simp [results, Tryz.results133, go_sem, *]) rfl (by rw [HE.out]; exact HP.out)
 ·obtain ⟨G1, G2, G3⟩ := HF1.out _ rfl
  have HG1 := Lib.hid G1
  have HG2 := Lib.hid G2
  have HG3 := Lib.hid G3
  clear G1 G2 G3
  clear HF1 HF2
  have e0 := HC.out.c0
  have e1 := HC.out.c1
  go_wp2_with fail
  rw [← HW.out]
  clear HW
  refine (K1.out _ HB.out).mono ?_
  rintro e w1 ⟨A1, c1, rfl, hO1, hb1⟩
  clear e0 e1
  replace HB := Lib.hid (HB.out.keep hb1)
  replace HC := Lib.hid (HC.out.keep hb1)
  clear hb1 K1
  have e0 := HC.out.c0
  have e1 := HC.out.c1
  have HT1 : Hid (OT w1 A1 m c1 _) := ⟨(hO1.mono (Nat.zero_le _) (Nat.le_refl _)).rd⟩
  clear hO1
  obtain ⟨W2, hW2⟩ : ∃ W2 : World, W2 = (w1.alloc (Obj.cells #[Value.slice A1 m c1] 115)) := ⟨_, rfl⟩
  have hb2 : Below w1.heap.size w1 W2 := by rw [hW2]; exact (Below.refl _ _).alloc (Nat.le_refl _) _
  have HX1 : Hid (CL W2 w1.heap.size 0 (.slice A1 m c1)) := by rw [hW2]; constructor; simp [go_sem]
  have HW2 := Lib.hid hW2
  replace HT1 := Lib.hid (HT1.out.keep hb2)
  have hlt : w.heap.size < w1.heap.size := HC.out.lt
  clear hW2
  go_wp2_with fail
  rw [← HW2.out]
  clear HW2 hlt
  clear e0 e1
  replace HB := Lib.hid (HB.out.keep hb2)
  replace HC := Lib.hid (HC.out.keep hb2)
  clear hb2
  have e0 := HC.out.c0
  have e1 := HC.out.c1
  refine (ComplementOf_sv (HGw.out.keep HB.out.below)).mono ?_
  rintro e w3 ⟨A3, c3, rfl, hG3, hb3⟩
  clear e0 e1
  replace HB := Lib.hid (HB.out.keep hb3)
  replace HC := Lib.hid (HC.out.keep hb3)
  replace HX1 := Lib.hid (HX1.out.keep hb3)
  replace HT1 := Lib.hid (HT1.out.keep hb3)
  clear hb3
  have e0 := HC.out.c0
  have e1 := HC.out.c1
  obtain ⟨W4, hW4⟩ : ∃ W4 : World, W4 = (w3.alloc (Obj.cells #[Value.int IntKind.i64 m, Value.slice A3 m c3] 26)) := ⟨_, rfl⟩
  have hb4 : Below w3.heap.size w3 W4 := by rw [hW4]; exact (Below.refl _ _).alloc (Nat.le_refl _) _
  have HG4 : Hid (GV W4 A3 m c3 (coR r m)) := hG3.keep hb4
  have HW4 := Lib.hid hW4
  clear hW4 hG3
  go_wp2_with fail
  rw [← HW4.out]
  clear HW4
  clear e0 e1
  replace HB := Lib.hid (HB.out.keep hb4)
  replace HC := Lib.hid (HC.out.keep hb4)
  replace HX1 := Lib.hid (HX1.out.keep hb4)
  replace HT1 := Lib.hid (HT1.out.keep hb4)
  clear hb4
  have e0 := HC.out.c0
  have e1 := HC.out.c1
  refine (K2.out _ _ _ HG4.out).mono ?_
  rintro e w5 ⟨rfl, hb5⟩
  clear e0 e1
  replace HB := Lib.hid (HB.out.keep hb5)
  replace HC := Lib.hid (HC.out.keep hb5)
  replace HX1 := Lib.hid (HX1.out.keep hb5)
  replace HT1 := Lib.hid (HT1.out.keep hb5)
  clear hb5 K2 HG4
  have e0 := HC.out.c0
  have e1 := HC.out.c1
  obtain ⟨W6, hW6⟩ : ∃ W6 : World, W6 = (w5.alloc (Obj.cells #[Value.slice none 0 0] 115)) := ⟨_, rfl⟩
  have hb6 : Below w5.heap.size w5 W6 := by rw [hW6]; exact (Below.refl _ _).alloc (Nat.le_refl _) _
  have HX2 : Hid (CL W6 w5.heap.size 0 (.slice none 0 0)) := by rw [hW6]; constructor; simp [go_sem]
  have HW6 := Lib.hid hW6
  clear hW6
  have HE : Hid (pmO r m = none) := pmO_no2 HN2.out.symm
  have hz6 : W6.heap.size = w5.heap.size + 1 := by rw [HW6.out]; simp
  have hp := pmQ.none (HB.out.keep hb6) m
  rw [hz6] at hp
  have HP := Lib.hid hp
  clear hp hz6 hb6
  go_wp2
  rw [← HW6.out]
  exact bodyPost_ret (v := .tuple #[.slice (some ⟨w5.heap.size + 1, 0, none⟩) 0 0, .slice (some ⟨w5.heap.size + 1 + 1, 0, none⟩) 0 0, .bool false]) (by simp [results, Tryz.results133, go_sem, *]) rfl (by rw [HE.out]; exact HP.out)
 ·obtain ⟨G1, G2, G3⟩ := HF1.out _ rfl
  obtain ⟨G4, G5, G6⟩ := HF2.out _ rfl
  have HG1 := Lib.hid G1
  have HG2 := Lib.hid G2
  have HG3 := Lib.hid G3
  have HG4 := Lib.hid G4
  have HG5 := Lib.hid G5
  have HG6 := Lib.hid G6
  clear G1 G2 G3
  clear G4 G5 G6
  clear HF1 HF2
  have e0 := HC.out.c0
  have e1 := HC.out.c1
  go_wp2_with fail
  rw [← HW.out]
  clear HW
  refine (K1.out _ HB.out).mono ?_
  rintro e w1 ⟨A1, c1, rfl, hO1, hb1⟩
  clear e0 e1
  replace HB := Lib.hid (HB.out.keep hb1)
  replace HC := Lib.hid (HC.out.keep hb1)
  clear hb1 K1
  have e0 := HC.out.c0
  have e1 := HC.out.c1
  have HT1 : Hid (OT w1 A1 m c1 _) := ⟨(hO1.mono (Nat.zero_le _) (Nat.le_refl _)).rd⟩
  clear hO1
  obtain ⟨W2, hW2⟩ : ∃ W2 : World, W2 = (w1.alloc (Obj.cells #[Value.slice A1 m c1] 115)) := ⟨_, rfl⟩
  have hb2 : Below w1.heap.size w1 W2 := by rw [hW2]; exact (Below.refl _ _).alloc (Nat.le_refl _) _
  have HX1 : Hid (CL W2 w1.heap.size 0 (.slice A1 m c1)) := by rw [hW2]; constructor; simp [go_sem]
  have HW2 := Lib.hid hW2
  replace HT1 := Lib.hid (HT1.out.keep hb2)
  have hlt : w.heap.size < w1.heap.size := HC.out.lt
  clear hW2
  go_wp2_with fail
  rw [← HW2.out]
  clear HW2 hlt
  clear e0 e1
  replace HB := Lib.hid (HB.out.keep hb2)
  replace HC := Lib.hid (HC.out.keep hb2)
  clear hb2
  have e0 := HC.out.c0
  have e1 := HC.out.c1
  refine (ComplementOf_sv (HGw.out.keep HB.out.below)).mono ?_
  rintro e w3 ⟨A3, c3, rfl, hG3, hb3⟩
  clear e0 e1
  replace HB := Lib.hid (HB.out.keep hb3)
  replace HC := Lib.hid (HC.out.keep hb3)
  replace HX1 := Lib.hid (HX1.out.keep hb3)
  replace HT1 := Lib.hid (HT1.out.keep hb3)
  clear hb3
  have e0 := HC.out.c0
  have e1 := HC.out.c1
  obtain ⟨W4, hW4⟩ : ∃ W4 : World, W4 = (w3.alloc (Obj.cells #[Value.int IntKind.i64 m, Value.slice A3 m c3] 26)) := ⟨_, rfl⟩
  have hb4 : Below w3.heap.size w3 W4 := by rw [hW4]; exact (Below.refl _ _).alloc (Nat.le_refl _) _
  have HG4 : Hid (GV W4 A3 m c3 (coR r m)) := hG3.keep hb4
  have HW4 := Lib.hid hW4
  clear hW4 hG3
  go_wp2_with fail
  rw [← HW4.out]
  clear HW4
  clear e0 e1
  replace HB := Lib.hid (HB.out.keep hb4)
  replace HC := Lib.hid (HC.out.keep hb4)
  replace HX1 := Lib.hid (HX1.out.keep hb4)
  replace HT1 := Lib.hid (HT1.out.keep hb4)
  clear hb4
  have e0 := HC.out.c0
  have e1 := HC.out.c1
  refine (K2.out _ _ _ HG4.out).mono ?_
  rintro e w5 ⟨A2, c2, rfl, hO2, hb5⟩
  clear e0 e1
  replace HB := Lib.hid (HB.out.keep hb5)
  replace HC := Lib.hid (HC.out.keep hb5)
  replace HX1 := Lib.hid (HX1.out.keep hb5)
  replace HT1 := Lib.hid (HT1.out.keep hb5)
  clear hb5 K2 HG4
  have e0 := HC.out.c0
  have e1 := HC.out.c1
  have HT2 : Hid (OT w5 A2 m c2 _) := ⟨(hO2.mono (Nat.zero_le _) (Nat.le_refl _)).rd⟩
  clear hO2
  obtain ⟨W6, hW6⟩ : ∃ W6 : World, W6 = (w5.alloc (Obj.cells #[Value.slice A2 m c2] 115)) := ⟨_, rfl⟩
  have hb6 : Below w5.heap.size w5 W6 := by rw [hW6]; exact (Below.refl _ _).alloc (Nat.le_refl _) _
  have HX2 : Hid (CL W6 w5.heap.size 0 (.slice A2 m c2)) := by rw [hW6]; constructor; simp [go_sem]
  replace HT2 := Lib.hid (HT2.out.keep hb6)
  have HW6 := Lib.hid hW6
  clear hW6
  go_wp2
  rw [← HW6.out]
  clear HW6
  clear e0 e1
  replace HB := Lib.hid (HB.out.keep hb6)
  replace HC := Lib.hid (HC.out.keep hb6)
  replace HX1 := Lib.hid (HX1.out.keep hb6)
  replace HT1 := Lib.hid (HT1.out.keep hb6)
  clear hb6
  have e0 := HC.out.c0
  have e1 := HC.out.c1
  have x1 := HX1.out.c
  have x2 := HX2.out.c
  have HT1' := HT1
  have HT2' := HT2
  have hB6 := HB.out.below.size
  have HSC : Hid (∀ z : World, Below W6.heap.size W6 z → (Below W6.heap.size W6 z ∧ z.cell? ⟨w.heap.size, 0, none⟩ = some (.int .i64 (m : Nat)) ∧ z.cell? ⟨w.heap.size, 1, none⟩ = some (.slice A m c) ∧ z.cell? ⟨w1.heap.size, 0, none⟩ = some (.slice A1 m c1) ∧ z.cell? ⟨w5.heap.size, 0, none⟩ = some (.slice A2 m c2))) := fun z hz => ⟨hz, up_ hz e0, up_ hz e1, up_ hz x1, up_ hz x2⟩
  have HZ0 : Hid (Below W6.heap.size W6 W6.drew) := (Below.refl _ _).drew
  have HS1 := Lib.hid (HSC.out _ HZ0.out)
  have KR1 : Hid (∀ z : World, Below W6.heap.size W6 z → _) := fun z hz => l14Sort_s (A := A) (c := c) false hm1 hm7 (HT1'.out.keep hz).rd (HT2'.out.keep hz).rd HG1.out HG4.out HG2.out HG5.out
  have KR2 : Hid (∀ z : World, Below W6.heap.size W6 z → _) := fun z hz => l14Sort_s (A := A) (c := c) true hm1 hm7 (HT1'.out.keep hz).rd (HT2'.out.keep hz).rd HG1.out HG4.out HG2.out HG5.out
  go_region_held3 (fun z => Below W6.heap.size W6 z ∧ z.cell? ⟨w.heap.size, 0, none⟩ = some (.int .i64 (m : Nat)) ∧ z.cell? ⟨w.heap.size, 1, none⟩ = some (.slice A m c) ∧ z.cell? ⟨w1.heap.size, 0, none⟩ = some (.slice A1 m c1) ∧ z.cell? ⟨w5.heap.size, 0, none⟩ = some (.slice A2 m c2))
   (first | exact HS1.out | assumption | exact HSC.out _ hz2 | exact HSC.out _ hz1 | fail)
   (first | (go_at_call 199; ((with_reducible refine (KR1.out _ HZ0.out).mono ?_); rintro e w1 ⟨A7, c7, rfl, ho7, hb1⟩; have hz1 := bl_trans HZ0.out hb1)) | (go_at_call 199; ((with_reducible refine (KR2.out _ hz1).mono ?_); rintro e w2 ⟨A8, c8, rfl, ho8, hb2⟩; have hz2 := bl_trans hz1 hb2)))
  clear e0 e1
  replace HB := Lib.hid (HB.out.keep hz2)
  replace HC := Lib.hid (HC.out.keep hz2)
  clear hz1 hz2 HSC HZ0 HS1 KR1 KR2
  have e0 := HC.out.c0
  have e1 := HC.out.c1
  have HE : Hid (pmO r m = some (osL (pmT false t1 t2 m) m, osL (pmT true t1 t2 m) m)) := pmO_yes HG3.out HG6.out
  have hb1s : W6.heap.size ≤ w1.heap.size := hb1.size
  have hB6' : w.heap.size ≤ W6.drew.heap.size := hB6
  have HO7 := Lib.hid ((ho7.keep hb2).mono hB6')
  have HO8 := Lib.hid (ho8.mono (Nat.le_trans hB6 hb1s))
  clear ho7 ho8 hb1 hb2 hb1s
  go_wp2
  exact bodyPost_ret (v := .tuple #[.slice A7 m c7, .slice A8 m c8, .bool true]) (by simp [results, Tryz.results133, go_sem, *]) rfl (by rw [HE.out]; exact ⟨A7, c7, A8, c8, rfl, osL_len, osL_len, HO7.out, HO8.out, HB.out.below⟩)
set_option maxRecDepth 100000 in
set_option maxHeartbeats 1600000 in
theorem IsComparability_sv (h : GV w A m c r) :
 Calls Tryz.prog 75 #[.agg #[.int .i64 m, .slice A m c]] w fun e w' => e = .returned (.bool (otO r m).isSome) ∧ Below w.heap.size w w' := by
 have K1 := Lib.hid (fun z (hz : Below w.heap.size w z) => OrientationOf_sv (h.keep hz))
 obtain ⟨o, ho⟩ : ∃ o, o = otO r m := ⟨_, rfl⟩
 rw [← ho] at K1 ⊢
 clear ho
 obtain ⟨W, hW⟩ : ∃ W : World, W = (w.alloc (Obj.cells #[Value.int IntKind.i64 m, Value.slice A m c] 26)) := ⟨_, rfl⟩
 have HB : Hid (From w W) := by rw [hW]; exact From.alloc _ _
 have HG : Hid (GBox W w.heap.size A m c r) := by rw [hW]; exact h.box
 have HW := Lib.hid hW
 clear hW h
 have e0 := HG.out.c0
 have e1 := HG.out.c1
 go_enter Tryz.func75, Tryz.ntmps75
 rcases o with _ | t
 ·go_wp2_with fail
  rw [← HW.out]
  refine (K1.out _ HB.out.below).mono ?_
  rintro e w1 ⟨rfl, hb1⟩
  clear HW
  clear e0 e1
  replace HB := Lib.hid (HB.out.keep hb1)
  replace HG := Lib.hid (HG.out.keep hb1)
  clear hb1
  have e0 := HG.out.c0
  have e1 := HG.out.c1
  go_wp2
  go_ret
  exact ⟨rfl, bl_alloc HB.out.below⟩
 ·go_wp2_with fail
  rw [← HW.out]
  refine (K1.out _ HB.out.below).mono ?_
  rintro e w2 ⟨A1, c1, rfl, _, hb2⟩
  have HB2 := Lib.hid (HB.out.keep hb2)
  clear HB HG hb2 e0 e1
  go_wp2
  go_ret
  exact ⟨rfl, bl_alloc HB2.out.below⟩
set_option maxRecDepth 100000 in
set_option maxHeartbeats 1600000 in
theorem IsPermutationGraph_sv (h : GV w A m c r) :
 Calls Tryz.prog 76 #[.agg #[.int .i64 m, .slice A m c]] w fun e w' => e = .returned (.bool (pmO r m).isSome) ∧ Below w.heap.size w w' := by
 have K1 := Lib.hid (fun z (hz : Below w.heap.size w z) => PermutationModelOf_sv (h.keep hz))
 obtain ⟨o, ho⟩ : ∃ o, o = pmO r m := ⟨_, rfl⟩
 rw [← ho] at K1 ⊢
 clear ho
 obtain ⟨W, hW⟩ : ∃ W : World, W = (w.alloc (Obj.cells #[Value.int IntKind.i64 m, Value.slice A m c] 26)) := ⟨_, rfl⟩
 have HB : Hid (From w W) := by rw [hW]; exact From.alloc _ _
 have HG : Hid (GBox W w.heap.size A m c r) := by rw [hW]; exact h.box
 have HW := Lib.hid hW
 clear hW h
 have e0 := HG.out.c0
 have e1 := HG.out.c1
 go_enter Tryz.func76, Tryz.ntmps76
 rcases o with _ | t
 ·go_wp2_with fail
  rw [← HW.out]
  refine (K1.out _ HB.out.below).mono ?_
  rintro e w2 ⟨A1, c1, A2, c2, rfl, _, _, hb2⟩
  have HB2 := Lib.hid (HB.out.keep hb2)
  clear HB HG hb2 e0 e1
  go_wp2
  go_ret
  exact ⟨rfl, HB2.out.below⟩
 ·go_wp2_with fail
  rw [← HW.out]
  refine (K1.out _ HB.out.below).mono ?_
  rintro e w2 ⟨A1, c1, A2, c2, rfl, _, _, _, _, hb2⟩
  have HB2 := Lib.hid (HB.out.keep hb2)
  clear HB HG hb2 e0 e1
  go_wp2
  go_ret
  exact ⟨rfl, HB2.out.below⟩
end
end Go.Proofs.YtfabbohijhjpcaaGreatDoor
