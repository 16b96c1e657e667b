/-
  Contracts: the edges that fill a graph in an order, of the program.
-/
import Derived.Test.YtjonhbmgmamchaaGreatDoorRdUmbI
namespace Go.Proofs.YtjonhbmgmamchaaGreatDoor
open Go.RowKit

/-- Rows of numbers, and an empty outer slice, in blocks that are written. -/
structure OF (lo hi : Nat) (w : World) (g m c : Nat) (r : Nat → Nat) : Prop where
  own : Own w lo hi 3 1 (some ⟨g, 0, none⟩) m c (fun j => .int .i64 (r j : Nat))
  le : hi ≤ w.heap.size
structure OE (q : Nat) (w : World) : Prop where
  own : Own w q (q + 1) 22 1 (some ⟨q, 0, none⟩) 0 0 (dvs [])
  le : q + 1 ≤ w.heap.size
section
variable {w w' : World} {lo hi g m c q : Nat} {r : Nat → Nat}
theorem OF.keep (h : OF lo hi w g m c r) (hb : Below w.heap.size w w') : OF lo hi w' g m c r := ⟨h.own.keepB hb h.le, Nat.le_trans h.le hb.size⟩
theorem OF.gv (h : OF lo hi w g m c r) (vg : VG m r) : GV w (some ⟨g, 0, none⟩) m c r := ⟨vg, (h.own.mono (Nat.le_refl _) h.le).rd⟩
theorem OE.keep (h : OE q w) (hb : Below w.heap.size w w') : OE q w' := ⟨h.own.keepB hb h.le, Nat.le_trans h.le hb.size⟩
end

set_option maxRecDepth 100000 in
set_option maxHeartbeats 3200000 in
theorem FillOf_i (sz : Int) (A : Option Addr) (m c : Nat) (x : Nat → Int) (Al : Option Addr) (n cl : Nat) (l : List Int) (w : World) (h : GA w A m c x) (hl : LI w Al n cl l) (hm : m ≤ 1048576) (hn : n ≤ 1048576) :
    Calls Tryz.prog 102 #[.agg #[.int .i64 sz, .slice A m c], .slice Al n cl] w fun e w' => ∃ A' c' D, e = .returned (.tuple #[.slice A' D.length c', .bool (orB sz m x l)]) ∧ lists D = fofL sz m x l ∧ OwnD w' w.heap.size w'.heap.size A' c' D ∧ Below w.heap.size w w' := by
  obtain ⟨W, hW⟩ : ∃ W : World, W = (w.alloc (Obj.cells #[Value.int IntKind.i64 sz, Value.slice A m c] 27)) := ⟨_, rfl⟩
  have HB : Hid (From w W) := by rw [hW]; exact From.alloc _ _
  have HK := Lib.hid (h.keep HB.out.below)
  have HL := Lib.hid (hl.keep HB.out.below)
  have HC : Hid (GC W w.heap.size sz A m c) := by rw [hW]; exact GC.new _ _ _ _ _
  have HW := Lib.hid hW
  clear hW h hl
  go_enter Tryz.func102, Tryz.ntmps102
  have e0 := HC.out.c0
  have e1 := HC.out.c1
  go_wp2_with fail
  rw [← HW.out]
  refine (IsOrder_z sz A m c x Al n cl l W HK.out HL.out hm hn).mono ?_
  rintro e w1 ⟨rfl, hb1⟩
  clear HW
  clear e0 e1
  replace HB := Lib.hid (HB.out.keep hb1)
  replace HK := Lib.hid (HK.out.keep hb1)
  replace HL := Lib.hid (HL.out.keep hb1)
  replace HC := Lib.hid (HC.out.keep hb1)
  clear hb1
  have e0 := HC.out.c0
  have e1 := HC.out.c1
  cases hv : orB sz m x l
  · have HF : Hid (lists [] = fofL sz m x l) := (fofL_no hv).symm
    have Hv := Lib.hid hv
    clear hv
    go_wp2
    go_ret2
    exact ⟨none, 0, [], by rw [Hv.out]; rfl, HF.out, OwnD.nil_ _ _ _, HB.out.below⟩
  · obtain ⟨ho, hV, hlen⟩ := orB_parts hv
    obtain ⟨_, es, vg0, hx0⟩ := okB_ok' ho
    subst es
    have hn1 := vg0.n1
    have hn7 := vg0.n7
    obtain ⟨vg, hx⟩ := okB_vg ho
    have HG : Hid (GV w1 A m c (rw_ x)) := HK.out.gv ho
    have hnm : m = n := (HL.out.len.trans hlen).symm
    subst hnm
    have HV := Lib.hid hV
    have HN := Lib.hid hlen
    have HVG := Lib.hid vg
    have HX := Lib.hid hx
    have Hv := Lib.hid hv
    have hz1 := HC.out.lt
    clear hv ho hV hlen vg hx vg0 hx0
    have z01 : w.heap.size < w1.heap.size := hz1
    obtain ⟨b, o, rfl⟩ := HG.out.addr
    have lb := HG.out.bl
    have HL1 := HL
    have HG1 := HG
    have HC1 := HC
    have HB1 := HB
    go_wp2_with fail
    refine (copyGraph_any m (some ⟨b, o, none⟩) m c _ w1 w1.heap.size HG.out.rd (Nat.le_refl _) hm).mono ?_
    rintro e wc ⟨A3, c3, rfl, hO3, hb2⟩
    have z2 := hb2.size
    have hb2_ := hb2
    clear e0 e1
    replace HB := Lib.hid (HB.out.keep hb2)
    replace HK := Lib.hid (HK.out.keep hb2)
    replace HL := Lib.hid (HL.out.keep hb2)
    replace HC := Lib.hid (HC.out.keep hb2)
    replace HG := Lib.hid (HG.out.keep hb2)
    clear hb2
    have e0 := HC.out.c0
    have e1 := HC.out.c1
    obtain ⟨g, rfl, hg1, hg2, _⟩ := hO3.at_ (by omega)
    have HO3 := Lib.hid hO3
    have HVF : Hid (VG m (fl (rw_ x) l l.length)) := HVG.out.fl HV.out _ (Nat.le_refl _)
    obtain ⟨W3, hW3⟩ : ∃ W3 : World, W3 = ((wc.alloc (Obj.cells #[] 22)).alloc (Obj.cells #[Value.int IntKind.i64 m, Value.slice (some ⟨g, 0, none⟩) m c3] 27)) := ⟨_, rfl⟩
    have H23 : Hid (From wc W3) := by rw [hW3]; exact (From.alloc _ _).alloc_ _
    have zW3 : W3.heap.size = wc.heap.size + 2 := by rw [hW3]; simp
    have HQ : Hid (GC W3 (wc.heap.size + 1) m (some ⟨g, 0, none⟩) m c3) := by rw [hW3]; constructor <;> simp [go_sem]
    have HOUT : Hid (Own W3 wc.heap.size (wc.heap.size + 1) 22 1 (some ⟨wc.heap.size, 0, none⟩) 0 0 (dvs [])) := by
      refine .inr ⟨wc.heap.size, #[], rfl, Nat.le_refl _, Nat.lt_succ_self _, ?_, Nat.le_refl _, by unfold maxLen; omega, rfl, fun j hj => absurd hj (by simp)⟩
      rw [hW3]
      exact (((Below.refl (wc.heap.size + 1) (wc.alloc (Obj.cells #[] 22))).alloc (by simp) _).block _ (by omega)).trans (heap_alloc_new wc _)
    have HZ3 := Lib.hid zW3
    have HW3 := Lib.hid hW3
    have HF3 : Hid (From w1 W3) := (show From w1 wc from ⟨hb2_⟩).up H23.out
    have HO4 : Hid (OF (w1.heap.size + 2) wc.heap.size W3 g m c3 (fl (rw_ x) l 0)) := by
      have := HO3.out.keepB H23.out.below (Nat.le_refl _)
      exact ⟨this.congr (fun j hj => rfl), by omega⟩
    have HE3 : Hid (OE wc.heap.size W3) := ⟨HOUT.out, by omega⟩
    have h2m := two_pow_le hn7
    obtain ⟨b2, o2, rfl⟩ := HL1.out.addr (by omega)
    clear hW3 hO3 HO3 HB HC HL HG HK e0 e1 H23 zW3 HOUT hb2_
    go_wp2
    rw [← HW3.out]
    clear HW3
    go_loopw [24] (fun i wr => ∃ k : Nat, k ≤ m ∧ i = .int .i64 k ∧ Hid (OF (w1.heap.size + 2) wc.heap.size wr g m c3 (fl (rw_ x) l k)) ∧ Hid (GC wr (wc.heap.size + 1) m (some ⟨g, 0, none⟩) m c3) ∧ Hid (OE wc.heap.size wr) ∧ Hid (From w1 wr)) (fun i _ => m - (intOf i).toNat)
    case atStart => exact ⟨0, Nat.zero_le _, rfl, HO4, HQ, HE3, HF3⟩
    case round =>
      clear HO4 HQ HE3 HF3
      obtain ⟨k, hk, rfl, HO, HQ, HE, HF⟩ := hrel
      by_cases hlt : k < m
      · have hkl : k < l.length := by rw [HN.out]; exact hlt
        have HLr := Lib.hid (HL1.out.keep HF.out.below)
        have hmem := getD_mem hkl
        have hvz := HV.out.2 _ hmem
        have Hmem := Lib.hid hmem
        have HVk : Hid (VG m (fl (rw_ x) l k)) := HVG.out.fl HV.out k (by omega)
        have hs : ltN (fl (rw_ x) l k) l (l.getD k 0) < 2 ^ m := ltN_lt HVk.out hvz.1 hvz.2
        have p0 := HLr.out.at hlt
        have Hfl : Hid (fillN (fl (rw_ x) l k) (ltN (fl (rw_ x) l k) l (l.getD k 0)) = fl (rw_ x) l (k + 1)) := rfl
        obtain ⟨v, hv⟩ : ∃ v, v = l.getD k 0 := ⟨_, rfl⟩
        rw [← hv] at p0 Hfl hs Hmem
        obtain ⟨R, hR⟩ : ∃ R, R = fl (rw_ x) l k := ⟨_, rfl⟩
        rw [← hR] at HVk Hfl HO hs
        obtain ⟨s, hse⟩ : ∃ s, s = ltN R l v := ⟨_, rfl⟩
        rw [← hse] at Hfl hs
        have Hse := Lib.hid hse
        have Hs := Lib.hid hs
        have hs128 : s < 128 := by omega
        have i1 : (k : Int) < (m : Int) := by omega
        obtain ⟨L, hL⟩ : ∃ L, L = listN s := ⟨_, rfl⟩
        have HLL := Lib.hid hL
        have hL7 : L.length ≤ 7 := by rw [hL]; exact listN_len s
        clear hv hse hmem hvz hR hL hs
        have zr := HF.out.below.size
        have zq := HQ.out.lt
        have KL : Hid (Calls Tryz.prog 104 #[.agg #[.int .i64 m, .slice (some ⟨g, 0, none⟩) m c3], .slice (some ⟨b2, o2, none⟩) m cl, .int .i64 v] wr fun e w' => e = .returned (.int .i64 (s : Nat)) ∧ Below wr.heap.size wr w') := by
          have := LaterNeighbours_iv (HO.out.gv HVk.out) HLr.out HV.out HN.out Hmem.out
          rwa [← Hse.out] at this
        have q0 := HQ.out.c0
        have q1 := HQ.out.c1
        go_wp2_with fail
        refine (KL.out).mono ?_
        rintro e w2 ⟨rfl, hb2⟩
        clear q0 q1
        replace HO := Lib.hid (HO.out.keep hb2)
        replace HQ := Lib.hid (HQ.out.keep hb2)
        replace HE := Lib.hid (HE.out.keep hb2)
        replace HF := Lib.hid (HF.out.keep hb2)
        clear hb2
        have q0 := HQ.out.c0
        have q1 := HQ.out.c1
        have zw3 := HF.out.below.size
        have zq3 := HQ.out.lt
        have KO : Hid (∀ z : World, wc.heap.size + 2 ≤ z.heap.size → Calls Tryz.prog 61 #[.int .i64 s] z fun e w' => ∃ A c, e = .returned (.slice A L.length c) ∧ ON (wc.heap.size + 2) w' A c L ∧ Below z.heap.size z w') := fun z hz => by
          rw [HLL.out]
          exact (ListOf_v s hs128 z).mono fun _ _ ⟨A, c, h1, h2, h3⟩ => ⟨A, c, h1, h2.mono hz, h3⟩
        go_wp2_with fail
        refine (KO.out _ (by omega)).mono ?_
        rintro e w3 ⟨AL, cL, rfl, hON, hb3⟩
        clear q0 q1
        replace HO := Lib.hid (HO.out.keep hb3)
        replace HQ := Lib.hid (HQ.out.keep hb3)
        replace HE := Lib.hid (HE.out.keep hb3)
        replace HF := Lib.hid (HF.out.keep hb3)
        clear hb3
        have q0 := HQ.out.c0
        have q1 := HQ.out.c1
        have HON := Lib.hid hON
        have Hst : Hid (filT R s 0 = R) := filT_zero R s
        have Hen : Hid (filT R s L.length = fl (rw_ x) l (k + 1)) := by show _ = _; rw [HLL.out, filT_all]; exact Hfl.out
        clear hON KL KO HLr p0 q0 q1 Hse Hmem hkl
        go_wp2
        go_loopw [35] (fun i wr => ∃ t : Nat, t ≤ L.length ∧ i = .int .i64 t ∧ Hid (OF (w1.heap.size + 2) wc.heap.size wr g m c3 (filT R s t)) ∧ Hid (GC wr (wc.heap.size + 1) m (some ⟨g, 0, none⟩) m c3) ∧ Hid (OE wc.heap.size wr) ∧ Hid (From w1 wr) ∧ Hid (ON (wc.heap.size + 2) wr AL cL L)) (fun i _ => L.length - (intOf i).toNat)
        case atStart => exact ⟨0, Nat.zero_le _, rfl, by rw [Hst.out]; exact HO, HQ, HE, HF, HON⟩
        case round =>
          clear HO HQ HE HF HON zr zq zw3 zq3
          obtain ⟨t, ht, rfl, HO, HQ, HE, HF, HON⟩ := hrel
          by_cases htl : t < L.length
          · have q1 := HQ.out.c1
            obtain ⟨bL, oL, rfl⟩ := HON.out.ln.addr (by omega)
            have p0 := HON.out.ln.at htl
            obtain ⟨y, hy⟩ : ∃ y, y = L[t] := ⟨_, rfl⟩
            rw [← hy] at p0
            have hyg : y = (listN s).getD t 0 := by rw [hy, ← HLL.out]; simp [List.getD, htl]
            have htl2 : t < (listN s).length := by rw [← HLL.out]; exact htl
            have hym : y < m := by rw [hyg]; exact listN_lt Hs.out htl2
            have hyb : s.testBit y = true := by rw [hy]; have := listN_at htl2; simp only [← HLL.out] at this; exact this.2
            obtain ⟨g', e1, _, _, _, hc, hf⟩ := HO.out.own.at_ (by omega)
            simp only [Option.some.injEq, Addr.mk.injEq, and_true] at e1
            subst e1
            have q2 := hc y (by omega)
            have f2 := hf y
            have hRy : filT R s t y = R y := by rw [hyg]; exact filT_at htl2
            rw [hRy] at q2
            obtain ⟨ry, hry⟩ : ∃ ry, ry = R y := ⟨_, rfl⟩
            rw [← hry] at q2
            have hry128 : ry < 128 := by rw [hry]; exact HVk.out.lt128 hym
            obtain ⟨z, hz⟩ : ∃ z, z = s ^^^ 2 ^ y := ⟨_, rfl⟩
            have h2y := two_pow_le (n := y) (by omega)
            have hz128 : z < 2 ^ 7 := by rw [hz]; exact Nat.xor_lt_two_pow (by omega) (Nat.lt_of_lt_of_le (Nat.pow_lt_pow_right (by omega) hym) (Nat.pow_le_pow_right (by omega) hn7))
            have E1 : bits .andNot .i64 (s : Int) (2 ^ y) = (z : Int) := by
              have := i64_andNot_nat s (2 ^ y) (by omega) (by omega)
              rw [fil_step_val hyb, ← hz] at this
              rw [← this]; simp
            obtain ⟨u, hu⟩ : ∃ u, u = ry ||| z := ⟨_, rfl⟩
            have E2 : bits .or .i64 (ry : Int) (z : Int) = (u : Int) := by rw [hu]; exact i64_or_nat _ _ (by omega) (by omega)
            have p1 := pow_shl y (by omega)
            have i2 : (t : Int) < (L.length : Int) := by omega
            have i3 : (y : Int) < (m : Int) := by omega
            have Hstep : Hid (∀ j, filT R s (t + 1) j = if j = y then u else filT R s t j) := fun j => by
              rw [filT_step htl2 j, ← hyg, hRy, ← hry, ← hz, ← hu]
            clear hy hyg htl2 hyb hc hf hRy hry hz hu h2y hs128
            go_wp2
            go_region
            have F : Fr (w1.heap.size + 2) wc.heap.size wr (wr.setCell ⟨g, y, none⟩ (.int .i64 u)).drew := ((Fr.refl _ _ wr).setCell (p := ⟨g, y, none⟩) hg1 hg2 _).drew
            have HO5 : Hid (OF (w1.heap.size + 2) wc.heap.size (wr.setCell ⟨g, y, none⟩ (.int .i64 u)).drew g m c3 (filT R s (t + 1))) :=
              ⟨((HO.out.own.set_ y _).drew).congr (fun j hj => by rw [Hstep.out]; split <;> rfl), Nat.le_trans HO.out.le F.size⟩
            have HQ5 : Hid (GC (wr.setCell ⟨g, y, none⟩ (.int .i64 u)).drew (wc.heap.size + 1) m (some ⟨g, 0, none⟩) m c3) := HQ.out.keepF F (.inr (by omega))
            have HE5 : Hid (OE wc.heap.size (wr.setCell ⟨g, y, none⟩ (.int .i64 u)).drew) := ⟨HE.out.own.keep F (.inr (Nat.le_refl _)), Nat.le_trans HE.out.le F.size⟩
            have HF5 : Hid (From w1 (wr.setCell ⟨g, y, none⟩ (.int .i64 u)).drew) := ⟨(HF.out.below.setCell (p := ⟨g, y, none⟩) (by show w1.heap.size ≤ g; omega) _).drew⟩
            have HON5 : Hid (ON (wc.heap.size + 2) (wr.setCell ⟨g, y, none⟩ (.int .i64 u)).drew (some ⟨bL, oL, none⟩) cL L) := ⟨(HON.out.own.keep F (.inr (by omega))).mono (Nat.le_refl _) F.size⟩
            clear F q1 p0 q2 f2 E1 E2 p1
            go_wp2
            go_roundw
            case rel => exact ⟨t + 1, by omega, by go_num, HO5, HQ5, HE5, HF5, HON5⟩
            case measure => simp [intOf]; omega
          · obtain rfl : t = L.length := by omega
            go_wp2
            go_roundw
            case rel => exact ⟨k + 1, by omega, by go_num, by rw [← Hen.out]; exact HO, HQ, HE, HF⟩
            case measure => simp [intOf]; omega
      · obtain rfl : m = k := by omega
        obtain ⟨wz, hwz⟩ : ∃ wz, wz = wr := ⟨_, rfl⟩
        have q0 := HQ.out.c0
        have q1 := HQ.out.c1
        have hVF : VG m (fl (rw_ x) l m) := HVG.out.fl HV.out m (by rw [HN.out]; exact Nat.le_refl _)
        have HGF := Lib.hid (HO.out.gv hVF)
        have zq := HQ.out.lt
        have z1r := HF.out.below.size
        go_wp2_with fail
        refine (EdgesOf_i m (some ⟨g, 0, none⟩) m c3 _ wr wr.heap.size HGF.out.rd (Nat.le_refl _) hm).mono ?_
        rintro e w4 ⟨A4, c4, D, rfl, hD, hO4, hb4⟩
        have hl21 := edges_len hD
        have z4 := hb4.size
        have HB4 : Hid (From w w4) := HB1.out.keep (HF.out.keep hb4).below
        have HC4 := Lib.hid (HC1.out.keep (HF.out.keep hb4).below)
        have HG4 := Lib.hid (HG1.out.keep (HF.out.keep hb4).below)
        have g1 := HC4.out.c1
        have g2 := HC4.out.c0
        obtain ⟨qo, hqo⟩ : ∃ qo, qo = wc.heap.size := ⟨_, rfl⟩
        have Hqo := Lib.hid hqo
        have hq3 : qo < wr.heap.size := by omega
        have hqw : w.heap.size < qo := by omega
        have hq2 : b < qo := by omega
        have hD' : lists D = edgesL m m (fun v => ((fl (rw_ x) l l.length v : Nat) : Int)) := by rw [HN.out]; exact hD
        have HOUT : Hid (Own w4 qo (qo + 1) 22 1 (some ⟨qo, 0, none⟩) 0 0 (dvs [])) := by rw [hqo]; exact (HE.out.keep hb4).own
        have HD4 : Hid (OwnD w4 wz.heap.size w4.heap.size A4 c4 D) := by rw [hwz]; exact hO4
        have HD := Lib.hid hD'
        have HB3 := Lib.hid HB4.out.below
        have Hfof := Lib.hid (fofL_yes Hv.out)
        have HC2 : Hid (∀ v, v < m → w4.cell? ⟨b, o + v, none⟩ = some (.int .i64 (x v))) := fun v hv => by rw [HX.out v hv]; exact HG4.out.row hv
        have hzz : wz.heap.size = wr.heap.size := by rw [hwz]
        rw [← hzz] at hq3 z4
        clear hqo hD hD' hO4 hb4 HC4 HG4 HB4 HO HQ HE HF HGF q0 q1 zq z1r hwz hzz
        go_wp2
        go_loopw [7, 55] (fun l i wr => ∃ (k g cg : Nat), k ≤ D.length ∧ i = .int .i64 k ∧ l = .slice (some ⟨g, 0, none⟩) ((D.take k).filter (qOpt x)).length cg ∧ (g = qo ∨ w4.heap.size ≤ g) ∧ g < wr.heap.size ∧ Hid (Own wr g (g + 1) 22 1 (some ⟨g, 0, none⟩) ((D.take k).filter (qOpt x)).length cg (dvs ((D.take k).filter (qOpt x)))) ∧ Hid (OwnD wr wz.heap.size w4.heap.size A4 c4 D) ∧ Hid (Below qo w4 wr)) (fun _ i _ => D.length - (intOf i).toNat)
        case atStart => exact ⟨0, qo, 0, Nat.zero_le _, rfl, by rw [Hqo.out]; rfl, .inl rfl, by omega, HOUT, HD4, Below.refl _ _⟩
        case round =>
          obtain ⟨k, g, cg, hk, rfl, rfl, hg1, hg2, hG, hE, hbr⟩ := hrel
          have q1 := up hbr.out g1 (by omega)
          have hzr := hbr.out.size
          by_cases hlt : k < D.length
          · obtain ⟨Ad, cd, v, u, hd, hvu, hum, _⟩ := edge_at HD.out hlt
            obtain ⟨gD, gd, rfl, rfl, d0, d1, d2⟩ := hE.out.pair hd
            have d3 := (hbr.out.cell (p := ⟨b, o + v, none⟩) (by show b < _; omega)).trans (HC2.out v (by omega))
            have y0 : 0 ≤ x v := by have := HX.out v (by omega); omega
            have y1 : x v < 16777216 := by have := HX.out v (by omega); have := HVG.out.lt128 (v := v) (by omega); omega
            have i1 : (k : Int) < (D.length : Int) := by omega
            have i2 : (v : Int) < (m : Int) := by omega
            have hlen : ((D.take k).filter (qOpt x)).length ≤ 21 := by
              have := List.length_filter_le (qOpt x) (D.take k)
              rw [List.length_take] at this
              omega
            have Hd := Lib.hid hd
            clear hd
            cases hbit : (x v).toNat.testBit u
            · have hq : qOpt x (some ⟨gd, 0, none⟩, cd, [(v : Int), (u : Int)]) = true := by show (!(x ((v : Int)).toNat).toNat.testBit ((u : Int)).toNat) = true; simp [hbit]
              have Hs := Lib.hid (opt_step_yes Hd.out hq)
              have Hbit := Lib.hid hbit
              clear hbit hq
              go_wp2
              go_quiet (first | (go_at_call 58; exact Calls.quiet_of_same ((has_any _ _ _ y0 y1 (by omega) (by omega)).mono fun _ _ ⟨h1, h2⟩ => ⟨h1, h2.symm⟩)))
              simp only [Int.toNat_natCast, Hbit.out]
              go_wp2_with (first | (at_builtin; (refine wpList_pushC (wr.drewN nq) rfl _ _ rfl _ g cg (hG.out.drewN nq) hg2 (some ⟨gd, 0, none⟩, cd, [(v : Int), (u : Int)]) rfl 1 wr.heap.size rfl rfl (by omega) ?_; intro g' cap w3 hO2 hg' hl3 hf)))
              have H1 : Hid (Own w3 g' (g' + 1) 22 1 (some ⟨g', 0, none⟩) ((D.take (k + 1)).filter (qOpt x)).length cap (dvs ((D.take (k + 1)).filter (qOpt x)))) := by
                show Own _ _ _ _ _ _ _ _ _
                rw [Hs.out, List.length_append]; exact hO2
              have H2 := Lib.hid ((show OwnD (wr.drewN nq) _ _ _ _ _ from hE.out).keep hf (by omega))
              have H3 : Hid (Below qo w4 w3) := (below_drewN hbr.out nq).trans (hf.below (by omega) (by show _ ≤ wr.heap.size; omega))
              have hgg : g' = qo ∨ w4.heap.size ≤ g' := by
                have : (wr.drewN nq).heap.size = wr.heap.size := rfl
                omega
              clear hO2 hf hG hE hbr hg'
              go_wp2
              go_roundw
              case rel => exact ⟨k + 1, g', cap, by omega, by go_num, by rw [Hs.out, List.length_append]; rfl, hgg, hl3, H1, H2, H3⟩
              case measure => simp [intOf]; omega
            · have hq : qOpt x (some ⟨gd, 0, none⟩, cd, [(v : Int), (u : Int)]) = false := by show (!(x ((v : Int)).toNat).toNat.testBit ((u : Int)).toNat) = false; simp [hbit]
              have Hs := Lib.hid (opt_step_no Hd.out hq)
              have Hbit := Lib.hid hbit
              clear hbit hq
              go_wp2
              go_quiet (first | (go_at_call 58; exact Calls.quiet_of_same ((has_any _ _ _ y0 y1 (by omega) (by omega)).mono fun _ _ ⟨h1, h2⟩ => ⟨h1, h2.symm⟩)))
              simp only [Int.toNat_natCast, Hbit.out]
              go_wp2
              go_roundw
              case rel => exact ⟨k + 1, g, cg, by omega, by go_num, by rw [Hs.out], hg1, hg2, by rw [Hs.out]; exact hG, hE, below_drewN hbr.out nq⟩
              case measure => simp [intOf]; omega
          · obtain rfl : k = D.length := by omega
            have HF : Hid (lists (D.filter (qOpt x)) = fofL m m x l) := by show _ = _; rw [lists_filter, HD.out]; exact Hfof.out
            have hO3 : Hid (OwnD wr w.heap.size wr.heap.size (some ⟨g, 0, none⟩) cg (D.filter (qOpt x))) := by
              have := hG.out
              rw [List.take_length] at this
              exact hE.out.filtered this (by omega) hzr (by omega) hg2
            have HB4 : Hid (Below w.heap.size w wr) := HB3.out.trans (hbr.out.mono (by omega))
            rw [List.take_length]
            clear hG hE hbr
            go_wp2
            go_ret2
            exact ⟨_, cg, D.filter (qOpt x), by rw [Hv.out]; rfl, HF.out, hO3.out, HB4.out⟩
end Go.Proofs.YtjonhbmgmamchaaGreatDoor
