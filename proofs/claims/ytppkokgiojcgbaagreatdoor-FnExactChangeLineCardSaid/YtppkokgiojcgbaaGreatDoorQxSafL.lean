/-
  Several texts in one.
-/
import Derived.Test.YtppkokgiojcgbaaGreatDoorQxSafI
/-
-/
namespace Go.Proofs.YtppkokgiojcgbaaGreatDoor
open Go.RowKit
set_option maxRecDepth 100000 in
set_option maxHeartbeats 6400000 in
theorem SafeEdits_sv {A : Option Addr} {m c : Nat} {r : Nat → Nat} {w : World} (str : ByteArray) (h : GV w A m c r) :
 Calls Tryz.prog 33 #[.agg #[.int .i64 m, .slice A m c], .string str] w (seQe w (seV r m str.toList)) := by
 have hm7 := h.vg.n7
 have hm1 := h.vg.n1
 obtain ⟨W, hW⟩ : ∃ W : World, W = ((w.alloc (Obj.cells #[Value.int IntKind.i64 m, Value.slice A m c] 29)).alloc (Obj.cells #[] 59)) := ⟨_, rfl⟩
 have HB : Hid (From w W) := by rw [hW]; exact (From.alloc _ _).alloc_ _
 have HC : Hid (GC W w.heap.size m A m c) := by rw [hW]; exact (GC.new _ _ _ _ _).keep ((Below.refl _ _).alloc (Nat.le_refl _) _)
 have HG : Hid (GV W A m c r) := h.keep HB.out.below
 have hzW : W.heap.size = w.heap.size + 2 := by rw [hW]; simp
 have HO : Hid (Own W (w.heap.size + 1) (w.heap.size + 1 + 1) 59 3 (some ⟨w.heap.size + 1, 0, none⟩) 0 0 (edT [])) := by
  rw [hW]
  have := ed_nil (w.alloc (Obj.cells #[Value.int IntKind.i64 m, Value.slice A m c] 29))
  have e : (w.alloc (Obj.cells #[Value.int IntKind.i64 m, Value.slice A m c] 29)).heap.size = w.heap.size + 1 := by simp
  rw [e] at this
  exact this
 have HGw := Lib.hid h
 have HW := Lib.hid hW
 clear hW h
 go_enter Tryz.func33, Tryz.ntmps33
 have e0 := HC.out.c0
 have e1 := HC.out.c1
 have HO0 : Hid (Own W (w.heap.size + 1) (w.heap.size + 1 + 1) 59 3 (some ⟨w.heap.size + 1, 0, none⟩) (seR r m str.toList (prTo m 0 (0 + 1))).length 0 (edT (seR r m str.toList (prTo m 0 (0 + 1))))) := by show Own _ _ _ _ _ _ _ _ _; rw [Nat.zero_add, prTo_zero]; exact HO.out
 have Hl0 : Hid ((seR r m str.toList (prTo m 0 (0 + 1))).length = 0) := by show _ = _; rw [Nat.zero_add, prTo_zero]; rfl
 go_wp2_with fail
 rw [← HW.out]
 clear HW HO HG
 have HBs := HB
 have HCs := HC
 go_wp2
 go_loopw [5, 6] (fun o i wr => ∃ (v c5 g : Nat), v ≤ m ∧ i = .int .i64 v ∧ o = .slice (some ⟨g, 0, none⟩) (seR r m str.toList (prTo m v (v + 1))).length c5 ∧ w.heap.size < g ∧ g < wr.heap.size ∧ Hid (Own wr g (g + 1) 59 3 (some ⟨g, 0, none⟩) (seR r m str.toList (prTo m v (v + 1))).length c5 (edT (seR r m str.toList (prTo m v (v + 1))))) ∧ Hid (From w wr) ∧ Hid (GC wr w.heap.size m A m c)) (fun _ i _ => m - (intOf i).toNat)
 case atStart => exact ⟨0, 0, w.heap.size + 1, Nat.zero_le _, rfl, by rw [Hl0.out], by omega, by omega, HO0, HBs, HCs⟩
 case round =>
  clear HO0 Hl0 HBs HCs HB HC e0 e1
  obtain ⟨v, c5, g, hv, rfl, rfl, hg1, hg2, HO, HB, HC⟩ := hrel
  have HGr := Lib.hid (HGw.out.keep HB.out.below)
  have e0 := HC.out.c0
  have e1 := HC.out.c1
  by_cases hvm : v < m
  ·have i1 : (v : Int) < (m : Int) := by omega
   go_wp2_with fail
   refine (IsGraph_sv HGr.out).mono ?_
   rintro e w1 ⟨rfl, hb1⟩
   have HB1 := Lib.hid (HB.out.keep hb1)
   have HC1 := Lib.hid (HC.out.keep hb1)
   have HO1 : Hid (Own w1 g (g + 1) 59 3 (some ⟨g, 0, none⟩) (seR r m str.toList (prTo m v (v + 1))).length c5 (edT (seR r m str.toList (prTo m v (v + 1))))) := HO.out.keepB hb1 hg2
   have hg1' : g < w1.heap.size := Nat.lt_of_lt_of_le hg2 hb1.size
   clear hb1 e0 e1 HB HC HO HGr hg2
   go_wp2
   go_loopw [5, 7] (fun o i wr => ∃ (u c5 g : Nat), v + 1 ≤ u ∧ u ≤ m ∧ i = .int .i64 u ∧ o = .slice (some ⟨g, 0, none⟩) (seR r m str.toList (prTo m v u)).length c5 ∧ w.heap.size < g ∧ g < wr.heap.size ∧ Hid (Own wr g (g + 1) 59 3 (some ⟨g, 0, none⟩) (seR r m str.toList (prTo m v u)).length c5 (edT (seR r m str.toList (prTo m v u)))) ∧ Hid (From w wr) ∧ Hid (GC wr w.heap.size m A m c)) (fun _ i _ => m - (intOf i).toNat)
   case atStart => exact ⟨v + 1, c5, g, Nat.le_refl _, by omega, by go_num, rfl, hg1, hg1', HO1, HB1, HC1⟩
   case round =>
    clear HO1 HB1 HC1 hg1' hg1
    obtain ⟨u, c5, g, hu1, hu2, rfl, rfl, hg1, hg2, HO, HB, HC⟩ := hrel
    have HGr := Lib.hid (HGw.out.keep HB.out.below)
    have e0 := HC.out.c0
    have e1 := HC.out.c1
    by_cases hum : u < m
    ·have i2 : (u : Int) < (m : Int) := by omega
     obtain ⟨TT, hTT⟩ : ∃ TT, TT = seR r m str.toList (prTo m v u) := ⟨_, rfl⟩
     have hTl : TT.length ≤ 21 := by
      have h1 := seR_len (r := r) (m := m) (s := str.toList) (P := prTo m v u)
      have h2 := prTo_len hm7 hvm hu1 hu2
      rw [hTT]
      omega
     have HTT := Lib.hid hTT
     rw [← hTT] at HO ⊢
     obtain ⟨t, ht⟩ : ∃ t, t = (r v).testBit u := ⟨_, rfl⟩
     have Hse : Hid (seB r (v, u) = !t) := by rw [ht]; exact rfl
     have KE : Hid (Calls Tryz.prog 70 #[.agg #[.int .i64 m, .slice A m c], .int .i64 v, .int .i64 u] wr fun e w' => e = .returned (.bool t) ∧ Below wr.heap.size wr w') := by rw [ht]; exact l2Edge_v HGr.out hvm hum
     clear hTT ht
     go_wp2_with fail
     refine KE.out.mono ?_
     rintro e w4 ⟨rfl, hb4⟩
     have HC4 := Lib.hid (HC.out.keep hb4)
     have k0 := HC4.out.c0
     have k1 := HC4.out.c1
     have klt := HC4.out.lt
     obtain ⟨W5, hW5⟩ : ∃ W5 : World, W5 = w4.alloc (Obj.cells #[.bool (!t), .int .i64 v, .int .i64 u] 59) := ⟨_, rfl⟩
     have hb5 : Below wr.heap.size wr W5 := by rw [hW5]; exact bl_alloc hb4
     obtain ⟨E5, hE5⟩ : ∃ E5, E5 = w4.heap.size := ⟨_, rfl⟩
     have HE5 : Hid (W5.cell? ⟨E5, 0, none⟩ = some (.bool (!t)) ∧ W5.cell? ⟨E5, 1, none⟩ = some (.int .i64 v) ∧ W5.cell? ⟨E5, 2, none⟩ = some (.int .i64 u)) := by
      rw [hW5, hE5]
      refine ⟨?_, ?_, ?_⟩ <;> simp [go_sem]
     have HB5 := Lib.hid (HB.out.keep hb5)
     have HC5 := Lib.hid (HC.out.keep hb5)
     have HO5 : Hid (Own W5 g (g + 1) 59 3 (some ⟨g, 0, none⟩) TT.length c5 (edT TT)) := HO.out.keepB hb5 hg2
     have hg5 : g < W5.heap.size := Nat.lt_of_lt_of_le hg2 hb5.size
     have HW5 := Lib.hid hW5
     have HX5 := Lib.hid hE5
     clear hW5 hE5 hb5 hb4 KE e0 e1 HGr HO HB HC
     obtain ⟨b, hb⟩ : ∃ b, b = seP r m str.toList (v, u) := ⟨_, rfl⟩
     obtain ⟨tb, htb⟩ : ∃ tb, tb = apB (!t) (m : Int) m (xr r) (v : Nat) (u : Nat) := ⟨_, rfl⟩
     obtain ⟨X, hX⟩ : ∃ X, X = apX (!t) (m : Int) m (xr r) (v : Nat) (u : Nat) := ⟨_, rfl⟩
     have KA : Hid (Calls Tryz.prog 66 #[.agg #[.int .i64 m, .slice A m c], .agg #[.bool (!t), .int .i64 v, .int .i64 u]] W5 fun e w' => ∃ A' c', e = .returned (.tuple #[.agg #[.int .i64 m, .slice A' m c'], .bool tb]) ∧ GA w' A' m c' X ∧ Below W5.heap.size W5 w') := by
      rw [htb, hX]
      exact (l32Apply_v (HGw.out.keep HB5.out.below) (!t) v u).mono fun _ _ ⟨A6, c6, h1, ho6, hb6⟩ => ⟨A6, c6, h1, ⟨ho6.rd⟩, hb6⟩
     have KI : Hid (∀ {z : World} {A' : Option Addr} {c' : Nat}, GA z A' m c' X → Calls Tryz.prog 28 #[.agg #[.int .i64 m, .slice A' m c'], .string str] z fun e w' => e = .returned (.bool b) ∧ Below z.heap.size z w') := by
      have hbX : b = isB (m : Int) m X str.toList := by rw [hb, hX]; show isB _ _ (apX (seB r (v, u)) _ _ _ _ _) _ = _; rw [Hse.out]
      rw [hbX]
      exact fun {_ _ _} h => IsIn_s (m : Int) _ m _ X str _ h (by omega)
     have Hyes : Hid (b = true → seR r m str.toList (prTo m v (u + 1)) = TT ++ [(!t, (v : Int), (u : Int))]) := fun hh => by
      have := seR_step_yes (r := r) (m := m) (s := str.toList) (n := m) hu1 (hb.symm.trans hh)
      rw [this, ← HTT.out, Hse.out]
     have Hno : Hid (b = false → seR r m str.toList (prTo m v (u + 1)) = TT) := fun hh => by
      rw [seR_step_no (r := r) (m := m) (s := str.toList) (n := m) hu1 (hb.symm.trans hh), ← HTT.out]
     clear hb htb hX
     have l0 := HE5.out.1
     have l1 := HE5.out.2.1
     have l2 := HE5.out.2.2
     have e0 := HC5.out.c0
     have e1 := HC5.out.c1
     have hE5l := World.block_lt_of_cell? _ _ l0
     have HE5l := Lib.hid hE5l
     go_wp2_with fail
     rw [← HW5.out, ← HX5.out]
     clear HW5 HX5 k0 k1 klt HC4
     refine KA.out.mono ?_
     rintro e w6 ⟨A6, c6, rfl, hg6, hb6⟩
     clear l0 l1 l2 e0 e1 hE5l
     obtain ⟨W6, hW6⟩ : ∃ W6 : World, W6 = w6.alloc (Obj.cells #[Value.int IntKind.i64 m, Value.slice A6 m c6] 29) := ⟨_, rfl⟩
     have hbz : Below w6.heap.size w6 W6 := by rw [hW6]; exact (Below.refl _ _).alloc (Nat.le_refl _) _
     have hb56 : Below W5.heap.size W5 W6 := bl_trans hb6 hbz
     have HQ6 : Hid (GC W6 w6.heap.size m A6 m c6) := by rw [hW6]; exact GC.new _ _ _ _ _
     have HX6 : Hid (GA W6 A6 m c6 X) := hg6.keep hbz
     have HW6 := Lib.hid hW6
     have HB6 := Lib.hid (HB5.out.keep hb56)
     have HC6 := Lib.hid (HC5.out.keep hb56)
     have HO6 : Hid (Own W6 g (g + 1) 59 3 (some ⟨g, 0, none⟩) TT.length c5 (edT TT)) := HO5.out.keepB hb56 hg5
     clear HB5 HC5 HO5
     have HE6 : Hid (W6.cell? ⟨E5, 0, none⟩ = some (.bool (!t)) ∧ W6.cell? ⟨E5, 1, none⟩ = some (.int .i64 v) ∧ W6.cell? ⟨E5, 2, none⟩ = some (.int .i64 u)) := ⟨up hb56 HE5.out.1 HE5l.out, up hb56 HE5.out.2.1 HE5l.out, up hb56 HE5.out.2.2 HE5l.out⟩
     have hg6l : g < W6.heap.size := Nat.lt_of_lt_of_le hg5 hb56.size
     have hz56 := hb56.size
     have HE6l : Hid (E5 < W6.heap.size) := Nat.lt_of_lt_of_le HE5l.out hb56.size
     clear hW6 hg6 hb6 hbz hb56 HE5 HE5l KA
     have m0 := HQ6.out.c0
     have m1 := HQ6.out.c1
     go_wp2_with fail
     rw [← HW6.out]
     clear HW6
     refine (KI.out HX6.out).mono ?_
     rintro e w7 ⟨rfl, hb7⟩
     have HB7 := Lib.hid (HB6.out.keep hb7)
     have HC7 := Lib.hid (HC6.out.keep hb7)
     have HO7 : Hid (Own w7 g (g + 1) 59 3 (some ⟨g, 0, none⟩) TT.length c5 (edT TT)) := HO6.out.keepB hb7 hg6l
     clear HB6 HC6 HO6
     have HE7 : Hid (w7.cell? ⟨E5, 0, none⟩ = some (.bool (!t)) ∧ w7.cell? ⟨E5, 1, none⟩ = some (.int .i64 v) ∧ w7.cell? ⟨E5, 2, none⟩ = some (.int .i64 u)) := ⟨up hb7 HE6.out.1 HE6l.out, up hb7 HE6.out.2.1 HE6l.out, up hb7 HE6.out.2.2 HE6l.out⟩
     have hg7l : g < w7.heap.size := Nat.lt_of_lt_of_le hg6l hb7.size
     have hz67 := hb7.size
     clear m0 m1 HQ6 HX6 KI HE6 HE6l hb7
     cases b
     ·have Hn := Lib.hid (Hno.out rfl)
      go_wp2
      go_roundw
      case rel => exact ⟨u + 1, c5, g, by omega, by omega, by go_num, by rw [Hn.out], hg1, hg7l, by rw [Hn.out]; exact HO7, HB7, HC7⟩
      case measure => (simp [intOf] <;> omega)
     ·have Hn := Lib.hid (Hyes.out rfl)
      have l0 := HE7.out.1
      have l1 := HE7.out.2.1
      have l2 := HE7.out.2.2
      have hzB := HB7.out.below.size
      go_wp2_with (first | (at_builtin; (refine wpList_pushEc w7 rfl _ _ rfl g c5 TT HO7.out hg7l (!t) (v : Int) (u : Int) rfl 1 w7.heap.size rfl rfl (by omega) ?_; intro g3 c3 w8 hO3 hg8 hg9 hf3)))
      have HO8 : Hid (Own w8 g3 (g3 + 1) 59 3 (some ⟨g3, 0, none⟩) (seR r m str.toList (prTo m v (u + 1))).length c3 (edT (seR r m str.toList (prTo m v (u + 1))))) := by show Own _ _ _ _ _ _ _ _ _; rw [Hn.out, List.length_append]; exact hO3
      have HB8 : Hid (From w w8) := ⟨HB7.out.below.trans (hf3.below (by omega) hzB)⟩
      have HC8 : Hid (GC w8 w.heap.size m A m c) := HC7.out.keepF hf3 (.inl hg1)
      have hgx := hg8
      have hz8 := hf3.size
      clear hO3 hf3
      go_roundw
      case rel => exact ⟨u + 1, c3, g3, by omega, by omega, by go_num, by rw [Hn.out, List.length_append]; rfl, by omega, hg9, HO8, HB8, HC8⟩
      case measure => (simp [intOf] <;> omega)
    ·have hue : u = m := by omega
     have i3 : (m : Int) ≤ (u : Int) := by omega
     have Hr : Hid (seR r m str.toList (prTo m (v + 1) (v + 1 + 1)) = seR r m str.toList (prTo m v u)) := by show _ = _; rw [prTo_row, hue]
     clear hue
     go_wp2
     go_roundw
     case rel => exact ⟨v + 1, c5, g, by omega, by go_num, by rw [Hr.out], hg1, hg2, by rw [Hr.out]; exact HO, HB, HC⟩
     case measure => (simp [intOf] <;> omega)
  ·have hve : v = m := by omega
   have i1 : (m : Int) ≤ (v : Int) := by omega
   have Hs : Hid (seR r m str.toList (prTo m v (v + 1)) = seV r m str.toList) := by show _ = _; rw [hve, prTo_end m (m + 1) (Nat.le_refl _)]; rfl
   rw [Hs.out] at HO ⊢
   clear hve
   go_wp2
   go_ret
   exact ⟨some ⟨g, 0, none⟩, c5, rfl, HO.out.mono (by omega) hg2, HB.out.below⟩
end Go.Proofs.YtppkokgiojcgbaaGreatDoor

/-
-/
namespace Go.Proofs.YtppkokgiojcgbaaGreatDoor
open Go.RowKit
section
variable (s1 : Int) (A1 : Option Addr) (m1 c1 : Nat) (x1 : Nat → Int) (t2 : ByteArray) (w : World) (B : Nat)
set_option maxHeartbeats 1600000 in
theorem SafeEdits_ino (h : GA w A1 m1 c1 x1) (hm : m1 ≤ 1048576) (hok : okB s1 m1 x1 = false) :
 Calls Tryz.prog 32 #[.agg #[.int .i64 s1, .slice A1 m1 c1], .string t2] w (seQe w []) := by
 obtain ⟨W, hW⟩ : ∃ W : World, W = ((w.alloc (Obj.cells #[Value.int IntKind.i64 s1, Value.slice A1 m1 c1] 29)).alloc (Obj.cells #[] 59)) := ⟨_, rfl⟩
 have HB : Hid (From w W) := by rw [hW]; exact (From.alloc _ _).alloc_ _
 have HK := Lib.hid (h.keep HB.out.below)
 have HC : Hid (GC W w.heap.size s1 A1 m1 c1) := by rw [hW]; exact (GC.new _ _ _ _ _).keep ((Below.refl _ _).alloc (Nat.le_refl _) _)
 have hzW : W.heap.size = w.heap.size + 2 := by rw [hW]; simp
 have HO : Hid (Own W (w.heap.size + 1) (w.heap.size + 1 + 1) 59 3 (some ⟨w.heap.size + 1, 0, none⟩) 0 0 (edT [])) := by
  rw [hW]
  have := ed_nil (w.alloc (Obj.cells #[Value.int IntKind.i64 s1, Value.slice A1 m1 c1] 29))
  have e : (w.alloc (Obj.cells #[Value.int IntKind.i64 s1, Value.slice A1 m1 c1] 29)).heap.size = w.heap.size + 1 := by simp
  rw [e] at this
  exact this
 have HW := Lib.hid hW
 have Ho := Lib.hid hok
 clear hW h hok
 go_enter Tryz.func32, Tryz.ntmps32
 have e0 := HC.out.c0
 have e1 := HC.out.c1
 go_wp2_with fail
 rw [← HW.out]
 clear HW
 refine (IsGraph_any s1 A1 m1 c1 x1 W W.heap.size HK.out.rd (Nat.le_refl _) hm).mono ?_
 rintro e w1 ⟨rfl, hb1⟩
 rw [Ho.out]
 have HO1 := Lib.hid (HO.out.keepB hb1 (by omega))
 have hz1 := hb1.size
 clear e0 e1
 replace HB := Lib.hid (HB.out.keep hb1)
 replace HK := Lib.hid (HK.out.keep hb1)
 replace HC := Lib.hid (HC.out.keep hb1)
 clear hb1
 have e0 := HC.out.c0
 have e1 := HC.out.c1
 go_wp2
 go_ret
 exact ⟨_, _, rfl, HO1.out.mono (by omega) (by omega), HB.out.below⟩
set_option maxHeartbeats 1600000 in
theorem SafeEdits_sno (h : GA w A1 m1 c1 x1) (hm : m1 ≤ 1048576) (hok : okB s1 m1 x1 = false) :
 Calls Tryz.prog 33 #[.agg #[.int .i64 s1, .slice A1 m1 c1], .string t2] w (seQe w []) := by
 obtain ⟨W, hW⟩ : ∃ W : World, W = ((w.alloc (Obj.cells #[Value.int IntKind.i64 s1, Value.slice A1 m1 c1] 29)).alloc (Obj.cells #[] 59)) := ⟨_, rfl⟩
 have HB : Hid (From w W) := by rw [hW]; exact (From.alloc _ _).alloc_ _
 have HK := Lib.hid (h.keep HB.out.below)
 have HC : Hid (GC W w.heap.size s1 A1 m1 c1) := by rw [hW]; exact (GC.new _ _ _ _ _).keep ((Below.refl _ _).alloc (Nat.le_refl _) _)
 have hzW : W.heap.size = w.heap.size + 2 := by rw [hW]; simp
 have HO : Hid (Own W (w.heap.size + 1) (w.heap.size + 1 + 1) 59 3 (some ⟨w.heap.size + 1, 0, none⟩) 0 0 (edT [])) := by
  rw [hW]
  have := ed_nil (w.alloc (Obj.cells #[Value.int IntKind.i64 s1, Value.slice A1 m1 c1] 29))
  have e : (w.alloc (Obj.cells #[Value.int IntKind.i64 s1, Value.slice A1 m1 c1] 29)).heap.size = w.heap.size + 1 := by simp
  rw [e] at this
  exact this
 have HW := Lib.hid hW
 have Ho := Lib.hid hok
 clear hW h hok
 go_enter Tryz.func33, Tryz.ntmps33
 have e0 := HC.out.c0
 have e1 := HC.out.c1
 go_wp2_with fail
 rw [← HW.out]
 clear HW
 go_wp2
 go_loopw [5, 6] (fun o i wr => o = .slice (some ⟨w.heap.size + 1, 0, none⟩) 0 0 ∧ i = .int .i64 0 ∧ wr = W) (fun _ _ _ => 0)
 case atStart => exact ⟨rfl, rfl, by first | rfl | trivial⟩
 case round =>
  obtain ⟨rfl, rfl, rfl⟩ := hrel
  by_cases hsz : 0 < s1
  ·go_wp2_with fail
   refine (IsGraph_sany s1 A1 m1 c1 x1 wr wr.heap.size HK.out.rd (Nat.le_refl _) hm).mono ?_
   rintro e w1 ⟨rfl, hb1⟩
   rw [Ho.out]
   have HO1 := Lib.hid (HO.out.keepB hb1 (by omega))
   have HB1 := Lib.hid (HB.out.keep hb1)
   have hz1 := hb1.size
   clear hb1 e0 e1
   go_wp2
   go_ret
   exact ⟨_, _, rfl, HO1.out.mono (by omega) (by omega), HB1.out.below⟩
  ·have i1 : s1 ≤ 0 := by omega
   go_wp2
   go_ret
   exact ⟨_, _, rfl, HO.out.mono (by omega) (by omega), HB.out.below⟩
theorem SafeEdits_iL (h1 : Rd w B A1 m1 c1 x1) (hB : B ≤ w.heap.size) (hm1 : m1 ≤ 1048576) (_ : t2.size ≤ 1048576) :
 Calls Tryz.prog 32 #[.agg #[.int .i64 s1, .slice A1 m1 c1], .string t2] w fun e w' => ∃ A' c', e = .returned (.slice A' (seL s1 m1 x1 t2.toList).length c') ∧ Own w' w.heap.size w'.heap.size 59 3 A' (seL s1 m1 x1 t2.toList).length c' (eds (fun i => ((seL s1 m1 x1 t2.toList).getD i ed0).1) (fun i => ((seL s1 m1 x1 t2.toList).getD i ed0).2.1) (fun i => ((seL s1 m1 x1 t2.toList).getD i ed0).2.2)) ∧ Below w.heap.size w w' := by
 have hA : GA w A1 m1 c1 x1 := ⟨h1.keep (Below.refl _ _) hB⟩
 cases ho : okB s1 m1 x1
 ·rw [seL_no ho]; exact SafeEdits_ino s1 A1 m1 c1 x1 t2 w hA hm1 ho
 ·obtain ⟨_, es, _, _⟩ := okB_ok' ho
  subst es
  rw [seL_yes ho]; exact SafeEdits_v t2 (hA.gv ho)
theorem SafeEdits_sL (h1 : Rd w B A1 m1 c1 x1) (hB : B ≤ w.heap.size) (hm1 : m1 ≤ 1048576) (_ : t2.size ≤ 1048576) :
 Calls Tryz.prog 33 #[.agg #[.int .i64 s1, .slice A1 m1 c1], .string t2] w fun e w' => ∃ A' c', e = .returned (.slice A' (seL s1 m1 x1 t2.toList).length c') ∧ Own w' w.heap.size w'.heap.size 59 3 A' (seL s1 m1 x1 t2.toList).length c' (eds (fun i => ((seL s1 m1 x1 t2.toList).getD i ed0).1) (fun i => ((seL s1 m1 x1 t2.toList).getD i ed0).2.1) (fun i => ((seL s1 m1 x1 t2.toList).getD i ed0).2.2)) ∧ Below w.heap.size w w' := by
 have hA : GA w A1 m1 c1 x1 := ⟨h1.keep (Below.refl _ _) hB⟩
 cases ho : okB s1 m1 x1
 ·rw [seL_no ho]; exact SafeEdits_sno s1 A1 m1 c1 x1 t2 w hA hm1 ho
 ·obtain ⟨_, es, _, _⟩ := okB_ok' ho
  subst es
  rw [seL_yes ho]; exact SafeEdits_sv t2 (hA.gv ho)
end
end Go.Proofs.YtppkokgiojcgbaaGreatDoor
