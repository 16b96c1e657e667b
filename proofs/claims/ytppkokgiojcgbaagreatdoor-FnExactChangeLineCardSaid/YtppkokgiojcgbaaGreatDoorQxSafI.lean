/-
-/
import Derived.Test.YtppkokgiojcgbaaGreatDoorQxSafP
namespace Go.Proofs.YtppkokgiojcgbaaGreatDoor
open Go.RowKit
theorem wpList_pushEc (W : World) {ops : Array Oper} {rest : List Oper} {o : Oper} {a : Act} {Q : Exit → Act → World → Prop} (hgd : o.guard = none) (s y : Operand)
 (ho : o.op = .call { callee := .builtin .append, args := #[s, y], argTypes := #[31, 31] })
 (g c : Nat) (T : List (Bool × Int × Int)) (h : Own W g (g + 1) 59 3 (some ⟨g, 0, none⟩) T.length c (edT T)) (hg : g < W.heap.size) (p : Bool) (q r : Int) (hs : a.eval s = .slice (some ⟨g, 0, none⟩) T.length c) (cx H : Nat) (hH : W.heap.size = H) (hy : a.eval y = .slice (some ⟨H, 0, none⟩) 1 cx)
 (hn : T.length ≤ 1073741824)
 (hK : ∀ g' cap w', Own w' g' (g' + 1) 59 3 (some ⟨g', 0, none⟩) (T.length + 1) cap (edT (T ++ [(p, q, r)])) → (g' = g ∨ W.heap.size < g') → g' < w'.heap.size → Fr g (g + 1) W w' → wpList Tryz.prog ops Q rest (a.put o.dst (.slice (some ⟨g', 0, none⟩) (T.length + 1) cap)) w') :
 wpList Tryz.prog ops Q (o :: rest) a (W.alloc (Obj.cells #[.bool p, .int .i64 q, .int .i64 r] 59)) := by
 subst hH
 have ha := h.alloc (Obj.cells #[.bool p, .int .i64 q, .int .i64 r] 59)
 refine wpList_push (W.alloc (Obj.cells #[.bool p, .int .i64 q, .int .i64 r] 59)) hgd s y 31 ho 59 _ 3 24 Tryz.underlying31 info_edit rfl (by omega) g (g + 1) (some ⟨g, 0, none⟩) T.length c (edT (T ++ [(p, q, r)])) hs
  (ha.congr (fun j hj => (edT_left hj).symm)) (by simp; omega) W.heap.size #[.bool p, .int .i64 q, .int .i64 r] 59 (0, 0) cx (heap_alloc_new W _) hy rfl edT_news (by simp [Value.oneCell']) hn (by omega) ?_
 intro g' cap w' hp
 obtain ⟨h1, h2, h3, h4⟩ := hp.caged
 exact hK g' cap w' h1 (h2.imp id (fun h => by rw [h]; simp)) h3 (((Fr.refl g (g + 1) W).alloc _).trans h4)
theorem ed_nil (w : World) : Own (w.alloc (Obj.cells #[] 59)) w.heap.size (w.heap.size + 1) 59 3 (some ⟨w.heap.size, 0, none⟩) 0 0 (edT []) :=
 .inr ⟨w.heap.size, #[], rfl, Nat.le_refl _, Nat.lt_succ_self _, heap_alloc_new w _, Nat.le_refl _, by unfold maxLen; omega, rfl, fun j hj => absurd hj (by omega)⟩
def seQe (w : World) (l : List (Bool × Int × Int)) (e : Ending) (w' : World) : Prop :=
 ∃ A' c', e = .returned (.slice A' l.length c') ∧ Own w' w.heap.size w'.heap.size 59 3 A' l.length c' (edT l) ∧ Below w.heap.size w w'
set_option maxRecDepth 100000 in
set_option maxHeartbeats 6400000 in
theorem SafeEdits_v {A : Option Addr} {m c : Nat} {r : Nat → Nat} {w : World} (str : ByteArray) (h : GV w A m c r) :
 Calls Tryz.prog 32 #[.agg #[.int .i64 m, .slice A m c], .string str] w (seQe w (seV r m str.toList)) := by
 have hm7 := h.vg.n7
 have hm1 := h.vg.n1
 obtain ⟨W, hW⟩ : ∃ W : World, W = ((w.alloc (Obj.cells #[Value.int IntKind.i64 m, Value.slice A m c] 29)).alloc (Obj.cells #[] 59)) := ⟨_, rfl⟩
 have HB : Hid (From w W) := by rw [hW]; exact (From.alloc _ _).alloc_ _
 have HC : Hid (GC W w.heap.size m A m c) := by rw [hW]; exact (GC.new _ _ _ _ _).keep ((Below.refl _ _).alloc (Nat.le_refl _) _)
 have HG : Hid (GV W A m c r) := h.keep HB.out.below
 have hzW : W.heap.size = w.heap.size + 2 := by rw [hW]; simp
 have HO : Hid (Own W (w.heap.size + 1) (w.heap.size + 1 + 1) 59 3 (some ⟨w.heap.size + 1, 0, none⟩) 0 0 (edT [])) := by
  rw [hW]
  have := ed_nil (w.alloc (Obj.cells #[Value.int IntKind.i64 m, Value.slice A m c] 29))
  have e : (w.alloc (Obj.cells #[Value.int IntKind.i64 m, Value.slice A m c] 29)).heap.size = w.heap.size + 1 := by simp
  rw [e] at this
  exact this
 have HGw := Lib.hid h
 have HW := Lib.hid hW
 clear hW h
 go_enter Tryz.func32, Tryz.ntmps32
 have e0 := HC.out.c0
 have e1 := HC.out.c1
 go_wp2_with fail
 rw [← HW.out]
 clear HW
 refine (IsGraph_v HG.out).mono ?_
 rintro e w1 ⟨rfl, hb1⟩
 have HO1 := Lib.hid (HO.out.keepB hb1 (by omega))
 have hz1 := hb1.size
 clear e0 e1
 replace HB := Lib.hid (HB.out.keep hb1)
 replace HG := Lib.hid (HG.out.keep hb1)
 replace HC := Lib.hid (HC.out.keep hb1)
 clear hb1 HO
 have e0 := HC.out.c0
 have e1 := HC.out.c1
 go_wp2_with fail
 refine (pairsOf_any m hm7 w1).mono ?_
 rintro e w2 ⟨Ad0, cd0, D, rfl, hD, hOD, hb2⟩
 have HO2 : Hid (Own w2 (w.heap.size + 1) (w.heap.size + 1 + 1) 59 3 (some ⟨w.heap.size + 1, 0, none⟩) 0 0 (edT [])) := HO1.out.keepB hb2 (by omega)
 have hz2 := hb2.size
 have HD := Lib.hid hD
 have HOD := Lib.hid hOD
 have hlen21 : D.length ≤ 21 := by rw [pairs_len hD]; exact length_pr_le hm7
 have Hlen := Lib.hid (pairs_len hD)
 have HV := Lib.hid HG.out.vg
 clear e0 e1
 replace HB := Lib.hid (HB.out.keep hb2)
 replace HG := Lib.hid (HG.out.keep hb2)
 replace HC := Lib.hid (HC.out.keep hb2)
 clear hb2 hD hOD HO1
 have e0 := HC.out.c0
 have e1 := HC.out.c1
 have HBs := HB
 have HCs := HC
 clear HG
 go_wp2
 go_loopw [5, 20] (fun o i wr => ∃ (k c5 g : Nat), k ≤ D.length ∧ i = .int .i64 k ∧ o = .slice (some ⟨g, 0, none⟩) (seR r m str.toList ((pr m).take k)).length c5 ∧ w.heap.size < g ∧ g < wr.heap.size ∧ (g < w1.heap.size ∨ w2.heap.size ≤ g) ∧ Hid (Own wr g (g + 1) 59 3 (some ⟨g, 0, none⟩) (seR r m str.toList ((pr m).take k)).length c5 (edT (seR r m str.toList ((pr m).take k)))) ∧ Hid (OwnD wr w1.heap.size w2.heap.size Ad0 cd0 D) ∧ Hid (From w wr) ∧ Hid (GC wr w.heap.size m A m c) ∧ w2.heap.size ≤ wr.heap.size) (fun _ i _ => D.length - (intOf i).toNat)
 case atStart => exact ⟨0, 0, w.heap.size + 1, Nat.zero_le _, rfl, rfl, by omega, by omega, by omega, HO2, HOD, HBs, HCs, Nat.le_refl _⟩
 case round =>
  clear HO2 HOD HBs HCs HB HC e0 e1
  obtain ⟨k, c5, g, hk, rfl, rfl, hg1, hg2, hg3, HO, HOD, HB, HC, hw2⟩ := hrel
  by_cases hlt : k < D.length
  ·obtain ⟨Ad, cd, v, u, hd, hpk, hvu, hum⟩ := pair_at HD.out hlt
   obtain ⟨gD, gd, rfl, rfl, r0, r1, r2, gd1, gd2⟩ := HOD.out.pair2 hd
   have HGr := Lib.hid (HGw.out.keep HB.out.below)
   obtain ⟨bG, oG, rfl⟩ := HGr.out.addr
   have p0 := HGr.out.row (v := v) (by omega)
   have h128 := HV.out.lt128 (v := v) (by omega)
   have i1 : (k : Int) < (D.length : Int) := by omega
   have i2 : (v : Int) < (m : Int) := by omega
   have Hp := Lib.hid (take_pr hpk)
   obtain ⟨TT, hTT⟩ : ∃ TT, TT = seR r m str.toList ((pr m).take k) := ⟨_, rfl⟩
   have hTl : TT.length ≤ 21 := by
    have := seR_len (r := r) (m := m) (s := str.toList) (P := (pr m).take k)
    rw [List.length_take] at this
    rw [hTT]
    omega
   have HTT := Lib.hid hTT
   rw [← hTT] at HO ⊢
   obtain ⟨t, ht⟩ : ∃ t, t = (r v).testBit u := ⟨_, rfl⟩
   have Hse : Hid (seB r (v, u) = !t) := by rw [ht]; exact rfl
   have KH : Hid (∀ z : World, Calls Tryz.prog 69 #[.int .i64 (r v : Nat), .int .i64 (u : Nat)] z fun e w' => e = .returned (.bool t) ∧ z = w') := fun z => by rw [ht]; exact has_v z (by omega) (by omega)
   clear hd hpk hTT ht
   have e1 := HC.out.c1
   have e0 := HC.out.c0
   have HSC : Hid (∀ z : World, Below wr.heap.size wr z → (Below wr.heap.size wr z ∧ z.cell? ⟨w.heap.size, 1, none⟩ = some (.slice (some ⟨bG, oG, none⟩) m c) ∧ z.cell? ⟨gd, 0, none⟩ = some (.int .i64 v) ∧ z.cell? ⟨gd, 1, none⟩ = some (.int .i64 u) ∧ z.cell? ⟨bG, oG + v, none⟩ = some (.int .i64 (r v : Nat)))) := fun z hz => ⟨hz, up_ hz e1, up_ hz r1, up_ hz r2, up_ hz p0⟩
   have HZ0 : Hid (Below wr.heap.size wr wr.drew) := (Below.refl _ _).drew
   have HZ1 : Hid (∀ o, Below wr.heap.size wr (wr.drew.alloc o)) := fun o => (Below.refl _ _).drew.alloc (Nat.le_refl _) _
   have HZ2 : Hid (∀ o, Below wr.heap.size wr (wr.alloc o).drew) := fun o => ((Below.refl _ _).alloc (Nat.le_refl _) _).drew
   have HS1 := Lib.hid (HSC.out _ HZ0.out)
   go_wp2
   go_region_held3 (fun z => Below wr.heap.size wr z ∧ z.cell? ⟨w.heap.size, 1, none⟩ = some (.slice (some ⟨bG, oG, none⟩) m c) ∧ z.cell? ⟨gd, 0, none⟩ = some (.int .i64 v) ∧ z.cell? ⟨gd, 1, none⟩ = some (.int .i64 u) ∧ z.cell? ⟨bG, oG + v, none⟩ = some (.int .i64 (r v : Nat)))
    (first | exact HS1.out | assumption | exact HSC.out _ (HZ1.out _) | exact HSC.out _ (HZ2.out _) | fail)
    (first | (go_at_call 69; ((with_reducible refine (KH.out _).mono ?_); rintro e w' ⟨rfl, rfl⟩)))
   all_goals
    obtain ⟨W5, hW5⟩ : ∃ W5 : World, W5 = (wr.alloc (Obj.cells #[.bool (!t), .int .i64 v, .int .i64 u] 59)).drew := ⟨_, rfl⟩
    rw [← hW5]
    have hb5 : Below wr.heap.size wr W5 := by rw [hW5]; exact HZ2.out _
    obtain ⟨E5, hE5⟩ : ∃ E5, E5 = wr.heap.size := ⟨_, rfl⟩
    have HE5 : Hid (W5.cell? ⟨E5, 0, none⟩ = some (.bool (!t)) ∧ W5.cell? ⟨E5, 1, none⟩ = some (.int .i64 v) ∧ W5.cell? ⟨E5, 2, none⟩ = some (.int .i64 u)) := by
     rw [hW5, hE5]
     refine ⟨?_, ?_, ?_⟩ <;> simp [go_sem]
    rw [← hE5]
    have HB5 := Lib.hid (HB.out.keep hb5)
    have HC5 := Lib.hid (HC.out.keep hb5)
    have HO5 : Hid (Own W5 g (g + 1) 59 3 (some ⟨g, 0, none⟩) TT.length c5 (edT TT)) := HO.out.keepB hb5 hg2
    have HD5 : Hid (OwnD W5 w1.heap.size w2.heap.size (some ⟨gD, 0, none⟩) cd0 D) := HOD.out.keepB hb5 hw2
    have hg5 : g < W5.heap.size := Nat.lt_of_lt_of_le hg2 hb5.size
    have hz5 := hb5.size
    clear hW5 hE5 hb5 HSC HZ0 HZ1 HZ2 HS1 KH e0 e1 r0 r1 r2 p0 HGr HO HOD HB HC
    obtain ⟨b, hb⟩ : ∃ b, b = seP r m str.toList (v, u) := ⟨_, rfl⟩
    obtain ⟨tb, htb⟩ : ∃ tb, tb = apB (!t) (m : Int) m (xr r) (v : Nat) (u : Nat) := ⟨_, rfl⟩
    obtain ⟨X, hX⟩ : ∃ X, X = apX (!t) (m : Int) m (xr r) (v : Nat) (u : Nat) := ⟨_, rfl⟩
    have KA : Hid (Calls Tryz.prog 63 #[.agg #[.int .i64 m, .slice (some ⟨bG, oG, none⟩) m c], .agg #[.bool (!t), .int .i64 v, .int .i64 u]] W5 fun e w' => ∃ A' c', e = .returned (.tuple #[.agg #[.int .i64 m, .slice A' m c'], .bool tb]) ∧ GA w' A' m c' X ∧ Below W5.heap.size W5 w') := by
     rw [htb, hX]
     exact (applied_v (HGw.out.keep HB5.out.below) (!t) v u).mono fun _ _ ⟨A6, c6, h1, hg6, hb6⟩ => ⟨A6, c6, h1, hg6, hb6⟩
    have KI : Hid (∀ {z : World} {A' : Option Addr} {c' : Nat}, GA z A' m c' X → Calls Tryz.prog 72 #[.agg #[.int .i64 m, .slice A' m c'], .string str] z fun e w' => e = .returned (.bool b) ∧ Below z.heap.size z w') := by
     have hbX : b = isB (m : Int) m X str.toList := by rw [hb, hX]; show isB _ _ (apX (seB r (v, u)) _ _ _ _ _) _ = _; rw [Hse.out]
     rw [hbX]
     exact fun {_ _ _} h => IsIn_i (m : Int) _ m _ X str _ h (by omega)
    have Hyes : Hid (b = true → seR r m str.toList ((pr m).take (k + 1)) = TT ++ [(!t, (v : Int), (u : Int))]) := fun hh => by
     have := seR_yes (r := r) (m := m) (s := str.toList) (P := (pr m).take k) (p := (v, u)) (hb.symm.trans hh)
     rw [Hp.out, this, ← HTT.out, Hse.out]
    have Hno : Hid (b = false → seR r m str.toList ((pr m).take (k + 1)) = TT) := fun hh => by
     have := seR_no (r := r) (m := m) (s := str.toList) (P := (pr m).take k) (p := (v, u)) (hb.symm.trans hh)
     rw [Hp.out, this, ← HTT.out]
    clear hb htb hX
    have l0 := HE5.out.1
    have l1 := HE5.out.2.1
    have l2 := HE5.out.2.2
    have e0 := HC5.out.c0
    have e1 := HC5.out.c1
    have hE5l := World.block_lt_of_cell? _ _ l0
    have HE5l := Lib.hid hE5l
    go_wp2_with fail
    refine KA.out.mono ?_
    rintro e w6 ⟨A6, c6, rfl, hg6, hb6⟩
    clear l0 l1 l2 e0 e1 hE5l
    obtain ⟨W6, hW6⟩ : ∃ W6 : World, W6 = w6.alloc (Obj.cells #[Value.int IntKind.i64 m, Value.slice A6 m c6] 29) := ⟨_, rfl⟩
    have hbz : Below w6.heap.size w6 W6 := by rw [hW6]; exact (Below.refl _ _).alloc (Nat.le_refl _) _
    have hb56 : Below W5.heap.size W5 W6 := bl_trans hb6 hbz
    have HQ6 : Hid (GC W6 w6.heap.size m A6 m c6) := by rw [hW6]; exact GC.new _ _ _ _ _
    have HX6 : Hid (GA W6 A6 m c6 X) := hg6.keep hbz
    have HW6 := Lib.hid hW6
    have HB6 := Lib.hid (HB5.out.keep hb56)
    have HC6 := Lib.hid (HC5.out.keep hb56)
    have HO6 : Hid (Own W6 g (g + 1) 59 3 (some ⟨g, 0, none⟩) TT.length c5 (edT TT)) := HO5.out.keepB hb56 hg5
    have HD6 : Hid (OwnD W6 w1.heap.size w2.heap.size (some ⟨gD, 0, none⟩) cd0 D) := HD5.out.keepB hb56 (by omega)
    clear HB5 HC5 HO5 HD5
    have HE6 : Hid (W6.cell? ⟨E5, 0, none⟩ = some (.bool (!t)) ∧ W6.cell? ⟨E5, 1, none⟩ = some (.int .i64 v) ∧ W6.cell? ⟨E5, 2, none⟩ = some (.int .i64 u)) := ⟨up hb56 HE5.out.1 HE5l.out, up hb56 HE5.out.2.1 HE5l.out, up hb56 HE5.out.2.2 HE5l.out⟩
    have hg6l : g < W6.heap.size := Nat.lt_of_lt_of_le hg5 hb56.size
    have hz56 := hb56.size
    have HE6l : Hid (E5 < W6.heap.size) := Nat.lt_of_lt_of_le HE5l.out hb56.size
    clear hW6 hg6 hb6 hbz hb56 HE5 HE5l KA
    have m0 := HQ6.out.c0
    have m1 := HQ6.out.c1
    go_wp2_with fail
    rw [← HW6.out]
    clear HW6
    refine (KI.out HX6.out).mono ?_
    rintro e w7 ⟨rfl, hb7⟩
    have HB7 := Lib.hid (HB6.out.keep hb7)
    have HC7 := Lib.hid (HC6.out.keep hb7)
    have HO7 : Hid (Own w7 g (g + 1) 59 3 (some ⟨g, 0, none⟩) TT.length c5 (edT TT)) := HO6.out.keepB hb7 hg6l
    have HD7 : Hid (OwnD w7 w1.heap.size w2.heap.size (some ⟨gD, 0, none⟩) cd0 D) := HD6.out.keepB hb7 (by omega)
    clear HB6 HC6 HO6 HD6
    have HE7 : Hid (w7.cell? ⟨E5, 0, none⟩ = some (.bool (!t)) ∧ w7.cell? ⟨E5, 1, none⟩ = some (.int .i64 v) ∧ w7.cell? ⟨E5, 2, none⟩ = some (.int .i64 u)) := ⟨up hb7 HE6.out.1 HE6l.out, up hb7 HE6.out.2.1 HE6l.out, up hb7 HE6.out.2.2 HE6l.out⟩
    have hg7l : g < w7.heap.size := Nat.lt_of_lt_of_le hg6l hb7.size
    have hz67 := hb7.size
    clear m0 m1 HQ6 HX6 KI HE6 HE6l hb7
    cases b
    ·have Hn := Lib.hid (Hno.out rfl)
     go_wp2
     go_roundw
     case rel => exact ⟨k + 1, c5, g, by omega, by go_num, by rw [Hn.out], hg1, hg7l, hg3, by rw [Hn.out]; exact HO7, HD7, HB7, HC7, by omega⟩
     case measure => (simp [intOf] <;> omega)
    ·have Hn := Lib.hid (Hyes.out rfl)
     have l0 := HE7.out.1
     have l1 := HE7.out.2.1
     have l2 := HE7.out.2.2
     have hzB := HB7.out.below.size
     go_wp2_with (first | (at_builtin; (refine wpList_pushEc w7 rfl _ _ rfl g c5 TT HO7.out hg7l (!t) (v : Int) (u : Int) rfl 1 w7.heap.size rfl rfl (by omega) ?_; intro g3 c3 w8 hO3 hg8 hg9 hf3)))
     have HO8 : Hid (Own w8 g3 (g3 + 1) 59 3 (some ⟨g3, 0, none⟩) (seR r m str.toList ((pr m).take (k + 1))).length c3 (edT (seR r m str.toList ((pr m).take (k + 1))))) := by show Own _ _ _ _ _ _ _ _ _; rw [Hn.out, List.length_append]; exact hO3
     have HB8 : Hid (From w w8) := ⟨HB7.out.below.trans (hf3.below (by omega) hzB)⟩
     have HC8 : Hid (GC w8 w.heap.size m (some ⟨bG, oG, none⟩) m c) := HC7.out.keepF hf3 (.inl hg1)
     have HD8 : Hid (OwnD w8 w1.heap.size w2.heap.size (some ⟨gD, 0, none⟩) cd0 D) := HD7.out.keep hf3 (by omega)
     have hz8 := hf3.size
     clear hO3 hf3
     go_roundw
     case rel => exact ⟨k + 1, c3, g3, by omega, by go_num, by rw [Hn.out, List.length_append]; rfl, by omega, hg9, by omega, HO8, HD8, HB8, HC8, by omega⟩
     case measure => (simp [intOf] <;> omega)
  ·have hkD : k = D.length := by omega
   have i1 : (D.length : Int) ≤ (k : Int) := by omega
   have Hs : Hid (seR r m str.toList ((pr m).take k) = seV r m str.toList) := by show _ = _; rw [hkD, Hlen.out, List.take_length]; rfl
   rw [Hs.out] at HO ⊢
   clear hkD
   go_wp2
   go_ret
   exact ⟨some ⟨g, 0, none⟩, c5, rfl, HO.out.mono (by omega) hg2, HB.out.below⟩
end Go.Proofs.YtppkokgiojcgbaaGreatDoor
