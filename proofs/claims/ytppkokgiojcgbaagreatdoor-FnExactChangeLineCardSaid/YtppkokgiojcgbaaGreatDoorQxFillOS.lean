/-
-/
import Derived.Test.YtppkokgiojcgbaaGreatDoorQxFillS
namespace Go.Proofs.YtppkokgiojcgbaaGreatDoor
open Go.RowKit
set_option maxRecDepth 100000 in
set_option maxHeartbeats 3200000 in
theorem FillOf_s (sz : Int) (A : Option Addr) (m c : Nat) (x : Nat → Int) (Al : Option Addr) (n cl : Nat) (l : List Int) (w : World) (h : GA w A m c x) (hl : LI w Al n cl l) (hm : m ≤ 1048576) (hn : n ≤ 1048576) :
 Calls Tryz.prog 98 #[.agg #[.int .i64 sz, .slice A m c], .slice Al n cl] w fun e w' => ∃ A' c' D, e = .returned (.tuple #[.slice A' D.length c', .bool (orB sz m x l)]) ∧ lists D = fofL sz m x l ∧ OwnD w' w.heap.size w'.heap.size A' c' D ∧ Below w.heap.size w w' := by
 obtain ⟨W, hW⟩ : ∃ W : World, W = (w.alloc (Obj.cells #[Value.int IntKind.i64 sz, Value.slice A m c] 29)) := ⟨_, rfl⟩
 have HB : Hid (From w W) := by rw [hW]; exact From.alloc _ _
 have HK := Lib.hid (h.keep HB.out.below)
 have HL := Lib.hid (hl.keep HB.out.below)
 have HC : Hid (GC W w.heap.size sz A m c) := by rw [hW]; exact GC.new _ _ _ _ _
 have HW := Lib.hid hW
 clear hW h hl
 go_enter Tryz.func98, Tryz.ntmps98
 have e0 := HC.out.c0
 have e1 := HC.out.c1
 go_wp2_with fail
 rw [← HW.out]
 refine (IsOrder_sz sz A m c x Al n cl l W HK.out HL.out hm hn).mono ?_
 rintro e w1 ⟨rfl, hb1⟩
 clear HW
 clear e0 e1
 replace HB := Lib.hid (HB.out.keep hb1)
 replace HK := Lib.hid (HK.out.keep hb1)
 replace HL := Lib.hid (HL.out.keep hb1)
 replace HC := Lib.hid (HC.out.keep hb1)
 clear hb1
 have e0 := HC.out.c0
 have e1 := HC.out.c1
 cases hv : orB sz m x l
 ·have HF : Hid (lists [] = fofL sz m x l) := (fofL_no hv).symm
  have Hv := Lib.hid hv
  clear hv
  go_wp2
  go_ret2
  exact ⟨_, 0, [], by rw [Hv.out]; rfl, HF.out, OwnD.none_ _ _ _ _ HB.out.below.size (by simp) (heap_alloc_new _ _), (HB.out.alloc_ _).below⟩
 ·obtain ⟨ho, hV, hlen⟩ := orB_parts hv
  obtain ⟨_, es, vg0, hx0⟩ := okB_ok' ho
  subst es
  have hn1 := vg0.n1
  have hn7 := vg0.n7
  obtain ⟨vg, hx⟩ := okB_vg ho
  have HG : Hid (GV w1 A m c (rw_ x)) := HK.out.gv ho
  have hnm : m = n := (HL.out.len.trans hlen).symm
  subst hnm
  have HV := Lib.hid hV
  have HN := Lib.hid hlen
  have HVG := Lib.hid vg
  have HX := Lib.hid hx
  have Hv := Lib.hid hv
  have hz1 := HC.out.lt
  clear hv ho hV hlen vg hx vg0 hx0
  go_wp2_with fail
  refine (l6Filled_s A m c (rw_ x) Al cl l _ HG.out HL.out HV.out HN.out).mono ?_
  rintro e w2 ⟨A3, c3, rfl, hO3, hb2⟩
  clear e0 e1
  replace HB := Lib.hid (HB.out.keep hb2)
  replace HK := Lib.hid (HK.out.keep hb2)
  replace HL := Lib.hid (HL.out.keep hb2)
  replace HC := Lib.hid (HC.out.keep hb2)
  replace HG := Lib.hid (HG.out.keep hb2)
  clear hb2
  have e0 := HC.out.c0
  have e1 := HC.out.c1
  have HO3 := Lib.hid hO3
  have zw : w.heap.size ≤ w2.heap.size := HB.out.below.size
  have HVF : Hid (VG m (fl (rw_ x) l l.length)) := HVG.out.fl HV.out _ (Nat.le_refl _)
  have hzc := HC.out.lt
  clear hO3
  obtain ⟨b, o, rfl⟩ := HG.out.addr
  have lb := HG.out.bl
  obtain ⟨W3, hW3⟩ : ∃ W3 : World, W3 = ((w2.alloc (Obj.cells #[Value.int IntKind.i64 m, Value.slice A3 m c3] 29)).alloc (Obj.cells #[] 22)) := ⟨_, rfl⟩
  have H23 : Hid (From w2 W3) := by rw [hW3]; exact (From.alloc _ _).alloc_ _
  have zW3 : W3.heap.size = w2.heap.size + 2 := by rw [hW3]; simp
  have hblk : W3.heap[w2.heap.size + 1]? = some (.cells #[] 22 (0, 0)) := by
   rw [hW3]
   have := heap_alloc_new (w2.alloc (Obj.cells #[Value.int IntKind.i64 m, Value.slice A3 m c3] 29)) (Obj.cells #[] 22)
   simpa using this
  have HBLK := Lib.hid hblk
  have HW3 := Lib.hid hW3
  have ZW3 := Lib.hid zW3
  clear hW3 hblk zW3 hz1
  go_wp2_with fail
  rw [← HW3.out]
  clear HW3
  replace HB := Lib.hid (HB.out.keep H23.out.below)
  replace HC := Lib.hid (HC.out.keep H23.out.below)
  replace HG := Lib.hid (HG.out.keep H23.out.below)
  clear e0 e1
  refine (EdgesOf_s m A3 m c3 _ W3 W3.heap.size ((HO3.out.keep H23.out.below).gv HVF.out).rd (Nat.le_refl _) hm).mono ?_
  rintro e w4 ⟨A4, c4, D, rfl, hD, hO4, hb4⟩
  have hl21 := edges_len hD
  have z4 := hb4.size
  replace HB := Lib.hid (HB.out.keep hb4)
  replace HC := Lib.hid (HC.out.keep hb4)
  replace HG := Lib.hid (HG.out.keep hb4)
  have g1 := HC.out.c1
  have g2 := HC.out.c0
  obtain ⟨qo, hqo⟩ : ∃ qo, qo = w2.heap.size + 1 := ⟨_, rfl⟩
  have Hqo := Lib.hid hqo
  have hq3 : W3.heap.size = qo + 1 := by rw [ZW3.out, hqo]
  have hqw : w.heap.size < qo := by omega
  have hq2 : w2.heap.size < qo := by omega
  have HOUT : Hid (Own w4 qo (qo + 1) 22 1 (some ⟨qo, 0, none⟩) 0 0 (dvs [])) := by
   rw [hqo]
   refine .inr ⟨w2.heap.size + 1, #[], rfl, Nat.le_refl _, Nat.lt_succ_self _, (hb4.block _ (by rw [ZW3.out]; omega)).trans HBLK.out, Nat.le_refl _, by unfold maxLen; omega, rfl, fun j hj => absurd hj (by simp)⟩
  have HD4 := Lib.hid hO4
  have HD := Lib.hid hD
  have HB3 := HB.out.below
  have Hfof := Lib.hid (fofL_yes Hv.out)
  have HC2 : Hid (∀ v, v < m → w4.cell? ⟨b, o + v, none⟩ = some (.int .i64 (x v))) := fun v hv => by rw [HX.out v hv]; exact HG.out.row hv
  replace HB3 := Lib.hid HB3
  clear hqo hD hO4 hb4 HC HB HK HL HO3 H23 HBLK zw
  go_wp2
  go_loopw [7, 9] (fun l i wr => ∃ (k g cg : Nat), k ≤ D.length ∧ i = .int .i64 k ∧ l = .slice (some ⟨g, 0, none⟩) ((D.take k).filter (qOpt x)).length cg ∧ (g = qo ∨ w4.heap.size ≤ g) ∧ g < wr.heap.size ∧ Hid (Own wr g (g + 1) 22 1 (some ⟨g, 0, none⟩) ((D.take k).filter (qOpt x)).length cg (dvs ((D.take k).filter (qOpt x)))) ∧ Hid (OwnD wr W3.heap.size w4.heap.size A4 c4 D) ∧ Hid (Below (qo) w4 wr)) (fun _ i _ => D.length - (intOf i).toNat)
  case atStart => exact ⟨0, qo, 0, Nat.zero_le _, rfl, by rw [Hqo.out]; rfl, .inl rfl, by omega, HOUT, HD4, Below.refl _ _⟩
  case round =>
   obtain ⟨k, g, cg, hk, rfl, rfl, hg1, hg3, hG, hE, hbr⟩ := hrel
   have q1 := up hbr.out g1 (by omega)
   have q0 := up hbr.out g2 (by omega)
   have hzr := hbr.out.size
   by_cases hlt : k < D.length
   ·obtain ⟨Ad, cd, v, u, hd, hvu, hum, _⟩ := edge_at HD.out hlt
    obtain ⟨gD, gd, rfl, rfl, d0, d1, d2⟩ := hE.out.pair hd
    have d3 := (hbr.out.cell (p := ⟨b, o + v, none⟩) (by show b < _; omega)).trans (HC2.out v (by omega))
    have y0 : 0 ≤ x v := by have := HX.out v (by omega); omega
    have y1 : x v < 16777216 := by have := HX.out v (by omega); have := HVG.out.lt128 (v := v) (by omega); omega
    have i1 : (k : Int) < (D.length : Int) := by omega
    have i2 : (v : Int) < (m : Int) := by omega
    have hlen : ((D.take k).filter (qOpt x)).length ≤ 21 := by
     have := List.length_filter_le (qOpt x) (D.take k)
     rw [List.length_take] at this
     omega
    have Hd := Lib.hid hd
    clear hd
    cases hbit : (x v).toNat.testBit u
    ·have hq : qOpt x (some ⟨gd, 0, none⟩, cd, [(v : Int), (u : Int)]) = true := by show (!(x ((v : Int)).toNat).toNat.testBit ((u : Int)).toNat) = true; simp [hbit]
     have Hs := Lib.hid (opt_step_yes Hd.out hq)
     have Hbit := Lib.hid hbit
     clear hbit hq
     go_wp2
     have HK : Hid (∀ a z : World, (a.cell? ⟨w.heap.size, 0, none⟩ = some (.int .i64 m) ∧ a.cell? ⟨w.heap.size, 1, none⟩ = some (.slice (some ⟨b, o, none⟩) m c) ∧ a.cell? ⟨gD, k, none⟩ = some (.slice (some ⟨gd, 0, none⟩) 2 cd) ∧ a.cell? ⟨gd, 0, none⟩ = some (.int .i64 v) ∧ a.cell? ⟨gd, 1, none⟩ = some (.int .i64 u)) → Below a.heap.size a z → (z.cell? ⟨w.heap.size, 0, none⟩ = some (.int .i64 m) ∧ z.cell? ⟨w.heap.size, 1, none⟩ = some (.slice (some ⟨b, o, none⟩) m c) ∧ z.cell? ⟨gD, k, none⟩ = some (.slice (some ⟨gd, 0, none⟩) 2 cd) ∧ z.cell? ⟨gd, 0, none⟩ = some (.int .i64 v) ∧ z.cell? ⟨gd, 1, none⟩ = some (.int .i64 u))) := by
      rintro a z ⟨r0, r1, r2, r3, r4⟩ hb
      exact ⟨up hb r0 (World.block_lt_of_cell? _ _ r0), up hb r1 (World.block_lt_of_cell? _ _ r1), up hb r2 (World.block_lt_of_cell? _ _ r2), up hb r3 (World.block_lt_of_cell? _ _ r3), up hb r4 (World.block_lt_of_cell? _ _ r4)⟩
     have d3' : wr.drew.cell? ⟨b, o + v, none⟩ = some (.int .i64 (x v)) := d3
     have t1 : b < wr.drew.heap.size := by show b < wr.heap.size; omega
     have t2 : v < m := by omega
     have t3 : u ≤ 63 := by omega
     go_region_held3 (fun z => z.cell? ⟨w.heap.size, 0, none⟩ = some (.int .i64 m) ∧ z.cell? ⟨w.heap.size, 1, none⟩ = some (.slice (some ⟨b, o, none⟩) m c) ∧ z.cell? ⟨gD, k, none⟩ = some (.slice (some ⟨gd, 0, none⟩) 2 cd) ∧ z.cell? ⟨gd, 0, none⟩ = some (.int .i64 v) ∧ z.cell? ⟨gd, 1, none⟩ = some (.int .i64 u))
      (first | (refine ⟨?_, ?_, ?_, ?_, ?_⟩ <;> assumption) | exact HK.out _ _ (by assumption) hb3)
      ((go_at_call 70; ((with_reducible refine (l2Edge_any m b o m c wr.drew v u (x v) d3' t1 t2 y0 y1 t3).mono ?_); rintro e w5 ⟨rfl, hb3⟩)))
     replace hb3 := bd hb3
     rw [Hbit.out]
     have z3 := hb3.size
     have hO3 := hE.out.keepB hb3 hzr
     have hG3 := hG.out.keepB hb3 (by omega)
     have Hb3 : Hid (Below (qo) w4 w5) := hbr.out.trans (hb3.mono (by omega))
     have p0 := up hb3 d0 (World.block_lt_of_cell? _ _ d0)
     clear hE hG hb3 hbr HK d0 d1 d2 d3 d3'
     go_wp2_with (first | (at_builtin; (refine wpList_pushC w5 rfl _ _ rfl _ g cg hG3 (by omega) (some ⟨gd, 0, none⟩, cd, [(v : Int), (u : Int)]) rfl 1 w5.heap.size rfl rfl (by omega) ?_; intro g' cap w6 hO2 hg' hl3 hf)))
     have H1 : Hid (Own w6 g' (g' + 1) 22 1 (some ⟨g', 0, none⟩) ((D.take (k + 1)).filter (qOpt x)).length cap (dvs ((D.take (k + 1)).filter (qOpt x)))) := by
      show Own _ _ _ _ _ _ _ _ _
      rw [Hs.out, List.length_append]; exact hO2
     have H2 := Lib.hid (hO3.keep hf (by omega))
     have H3 : Hid (Below (qo) w4 w6) := Hb3.out.trans (hf.below (by omega) (by omega))
     have hgg : g' = qo ∨ w4.heap.size ≤ g' := by omega
     clear hO2 hf hG3 hO3 hg'
     go_wp2
     go_roundw
     case rel => exact ⟨k + 1, g', cap, by omega, by go_num, by rw [Hs.out, List.length_append]; rfl, hgg, hl3, H1, H2, H3⟩
     case measure => simp [intOf]; omega
    ·have hq : qOpt x (some ⟨gd, 0, none⟩, cd, [(v : Int), (u : Int)]) = false := by show (!(x ((v : Int)).toNat).toNat.testBit ((u : Int)).toNat) = false; simp [hbit]
     have Hs := Lib.hid (opt_step_no Hd.out hq)
     have Hbit := Lib.hid hbit
     clear hbit hq
     go_wp2
     have HK : Hid (∀ a z : World, (a.cell? ⟨w.heap.size, 0, none⟩ = some (.int .i64 m) ∧ a.cell? ⟨w.heap.size, 1, none⟩ = some (.slice (some ⟨b, o, none⟩) m c) ∧ a.cell? ⟨gD, k, none⟩ = some (.slice (some ⟨gd, 0, none⟩) 2 cd) ∧ a.cell? ⟨gd, 0, none⟩ = some (.int .i64 v) ∧ a.cell? ⟨gd, 1, none⟩ = some (.int .i64 u)) → Below a.heap.size a z → (z.cell? ⟨w.heap.size, 0, none⟩ = some (.int .i64 m) ∧ z.cell? ⟨w.heap.size, 1, none⟩ = some (.slice (some ⟨b, o, none⟩) m c) ∧ z.cell? ⟨gD, k, none⟩ = some (.slice (some ⟨gd, 0, none⟩) 2 cd) ∧ z.cell? ⟨gd, 0, none⟩ = some (.int .i64 v) ∧ z.cell? ⟨gd, 1, none⟩ = some (.int .i64 u))) := by
      rintro a z ⟨r0, r1, r2, r3, r4⟩ hb
      exact ⟨up hb r0 (World.block_lt_of_cell? _ _ r0), up hb r1 (World.block_lt_of_cell? _ _ r1), up hb r2 (World.block_lt_of_cell? _ _ r2), up hb r3 (World.block_lt_of_cell? _ _ r3), up hb r4 (World.block_lt_of_cell? _ _ r4)⟩
     have d3' : wr.drew.cell? ⟨b, o + v, none⟩ = some (.int .i64 (x v)) := d3
     have t1 : b < wr.drew.heap.size := by show b < wr.heap.size; omega
     have t2 : v < m := by omega
     have t3 : u ≤ 63 := by omega
     go_region_held3 (fun z => z.cell? ⟨w.heap.size, 0, none⟩ = some (.int .i64 m) ∧ z.cell? ⟨w.heap.size, 1, none⟩ = some (.slice (some ⟨b, o, none⟩) m c) ∧ z.cell? ⟨gD, k, none⟩ = some (.slice (some ⟨gd, 0, none⟩) 2 cd) ∧ z.cell? ⟨gd, 0, none⟩ = some (.int .i64 v) ∧ z.cell? ⟨gd, 1, none⟩ = some (.int .i64 u))
      (first | (refine ⟨?_, ?_, ?_, ?_, ?_⟩ <;> assumption) | exact HK.out _ _ (by assumption) hb3)
      ((go_at_call 70; ((with_reducible refine (l2Edge_any m b o m c wr.drew v u (x v) d3' t1 t2 y0 y1 t3).mono ?_); rintro e w5 ⟨rfl, hb3⟩)))
     replace hb3 := bd hb3
     rw [Hbit.out]
     have z3 := hb3.size
     have hO3 := Lib.hid (hE.out.keepB hb3 hzr)
     have hG3 := Lib.hid (hG.out.keepB hb3 (by omega))
     have Hb3 : Hid (Below (qo) w4 w5) := hbr.out.trans (hb3.mono (by omega))
     clear hE hG hb3 hbr HK d3 d3'
     go_wp2
     go_roundw
     case rel => exact ⟨k + 1, g, cg, by omega, by go_num, by rw [Hs.out], hg1, by omega, by rw [Hs.out]; exact hG3, hO3, Hb3⟩
     case measure => simp [intOf]; omega
   ·obtain rfl : k = D.length := by omega
    have HF : Hid (lists (D.filter (qOpt x)) = fofL m m x l) := by show _ = _; rw [lists_filter, HD.out]; exact Hfof.out
    have hO3 : Hid (OwnD wr w.heap.size wr.heap.size (some ⟨g, 0, none⟩) cg (D.filter (qOpt x))) := by
     have := hG.out
     rw [List.take_length] at this
     exact hE.out.filtered this (by omega) hzr (by omega) hg3
    have HB4 : Hid (Below w.heap.size w wr) := HB3.out.trans (hbr.out.mono (by omega))
    rw [List.take_length]
    clear hG hE hbr
    go_wp2
    go_ret2
    exact ⟨_, cg, D.filter (qOpt x), by rw [Hv.out]; rfl, HF.out, hO3.out, HB4.out⟩
end Go.Proofs.YtppkokgiojcgbaaGreatDoor
