/-
  Contracts: the optional edges between two graphs, of both programs.
-/
import Derived.Test.YtccblehcemggjaaEdgesS
import Derived.Test.YtccblehcemggjaaLawSS
namespace Go.Proofs.Ytccblehcemggjaa
open Go.RowKit

/-- append of one inner slice onto an outer one that lies in one known block. -/
theorem wpList_pushC (W : World) {ops : Array Oper} {rest : List Oper} {o : Oper} {a : Act} {Q : Exit → Act → World → Prop} (hgd : o.guard = none) (s y : Operand)
    (ho : o.op = .call { callee := .builtin .append, args := #[s, y], argTypes := #[53, 53] })
    (E : List Dsc) (g c : Nat) (h : Own W g (g + 1) 37 1 (some ⟨g, 0, none⟩) E.length c (dvs E)) (hg : g < W.heap.size) (d : Dsc) (hs : a.eval s = .slice (some ⟨g, 0, none⟩) E.length c) (cx H : Nat) (hH : W.heap.size = H) (hy : a.eval y = .slice (some ⟨H, 0, none⟩) 1 cx)
    (hn : E.length ≤ 1073741824)
    (hK : ∀ g' cap w', Own w' g' (g' + 1) 37 1 (some ⟨g', 0, none⟩) (E.length + 1) cap (dvs (E ++ [d])) → (g' = g ∨ W.heap.size ≤ g') → g' < w'.heap.size → Fr g (g + 1) W w' → wpList Try.prog ops Q rest (a.put o.dst (.slice (some ⟨g', 0, none⟩) (E.length + 1) cap)) w') :
    wpList Try.prog ops Q (o :: rest) a (W.alloc (Obj.cells #[dv d] 37)) := by
  subst hH
  have ha := h.alloc (Obj.cells #[dv d] 37)
  refine wpList_push (W.alloc (Obj.cells #[dv d] 37)) hgd s y 53 ho 37 (.slice none 0 0) 1 24 Try.underlying53 info_ints rfl (by omega) g (g + 1) (some ⟨g, 0, none⟩) E.length c (dvs (E ++ [d])) hs
    (ha.congr (fun j hj => (dvs_left (by omega)).symm)) (by simp; omega) W.heap.size #[dv d] 37 (0, 0) cx (heap_alloc_new W _) hy rfl ?_ (by intro u hu; simp at hu; subst hu; rfl) hn (by omega) ?_
  · intro j hj
    obtain rfl : j = 0 := by omega
    rw [show E.length * 1 + 0 = E.length by omega, dvs_last]; rfl
  · intro g' cap w' hp
    have hg' : g' = g ∨ W.heap.size ≤ g' := by
      rcases hp.at_ with h | h
      · simp [Value.ownBlock] at h; exact .inl h.symm
      · right; rw [h]; simp
    have hown : Own w' g' (g' + 1) 37 1 (some ⟨g', 0, none⟩) (E.length + 1) cap (dvs (E ++ [d])) ∧ g' < w'.heap.size := by
      rcases hp.own with ⟨h, _⟩ | ⟨g1, cur, k1, k2, k3, r⟩
      · cases h
      · simp only [Option.some.injEq, Addr.mk.injEq, and_true] at k1
        subst k1
        exact ⟨.inr ⟨g', cur, rfl, Nat.le_refl _, Nat.lt_succ_self _, r⟩, k3⟩
    refine hK g' cap w' hown.1 hg' hown.2 (((Fr.refl g (g + 1) W).alloc _).trans ⟨hp.grown.os, hp.grown.tape, hp.grown.output, hp.grown.size, fun k hk ho => hp.grown.block k hk ?_⟩)
    simp [Value.ownBlock]
    omega

theorem edge_at {D : List Dsc} {s : Int} {m : Nat} {x : Nat → Int} {k : Nat} (hD : lists D = edgesL s m x) (hk : k < D.length) :
    ∃ Ad cd v u, D[k]? = some (Ad, cd, [((v : Nat) : Int), ((u : Nat) : Int)]) ∧ v < u ∧ u < m ∧ OkG s m x := by
  have hok : okB s m x = true := by
    cases h : okB s m x
    · have h0 : lists D = [] := by rw [hD]; unfold edgesL; rw [h]; rfl
      have h1 := congrArg List.length h0
      rw [lists, List.length_map, List.length_nil] at h1
      omega
    · rfl
  have hOK : OkG s m x := by
    refine Classical.byContradiction fun h => ?_
    rw [okB_no h] at hok; cases hok
  unfold edgesL at hD
  rw [if_pos hok] at hD
  have h1 : (D[k]).2.2 ∈ edAll x m := by
    rw [← hD]
    exact List.mem_map.2 ⟨D[k], List.getElem_mem hk, rfl⟩
  unfold edAll at h1
  obtain ⟨p, hp, e⟩ := List.mem_map.1 h1
  have hp2 := mem_pr.1 (List.mem_filter.1 hp).1
  refine ⟨(D[k]).1, (D[k]).2.1, p.1, p.2, ?_, hp2.1, hp2.2, hOK⟩
  rw [List.getElem?_eq_getElem hk, e]
theorem edAll_len {m : Nat} {x : Nat → Int} (hm : m ≤ 7) : (edAll x m).length ≤ 21 := by
  unfold edAll
  rw [List.length_map]
  exact Nat.le_trans (List.length_filter_le _ _) (length_pr_le hm)
theorem edges_len {D : List Dsc} {s : Int} {m : Nat} {x : Nat → Int} (hD : lists D = edgesL s m x) : D.length ≤ 21 := by
  have h1 := congrArg List.length hD
  rw [lists, List.length_map] at h1
  rw [h1]
  unfold edgesL
  split
  · rename_i h
    have hOK : OkG s m x := by
      refine Classical.byContradiction fun h2 => ?_
      rw [okB_no h2] at h; cases h
    obtain ⟨r, rfl, vg, _⟩ := hOK
    exact edAll_len vg.n7
  · simp
/-- What stands in a slice of slices at a place. -/
theorem OwnD.pair {w : World} {lo hi c k : Nat} {A Ad : Option Addr} {cd : Nat} {v u : Int} {D : List Dsc} (h : OwnD w lo hi A c D) (hk : D[k]? = some (Ad, cd, [v, u])) :
    ∃ g gd, A = some ⟨g, 0, none⟩ ∧ Ad = some ⟨gd, 0, none⟩ ∧ w.cell? ⟨g, k, none⟩ = some (.slice Ad 2 cd) ∧ w.cell? ⟨gd, 0, none⟩ = some (.int .i64 v) ∧ w.cell? ⟨gd, 1, none⟩ = some (.int .i64 u) := by
  obtain ⟨hlt, he⟩ := List.getElem?_eq_some_iff.1 hk
  obtain ⟨g, e1, _, _, _, h1, _⟩ := h.1.at_ (by omega)
  obtain ⟨gd, e2, _, _, _, h2, _⟩ := (h.2.1 (Ad, cd, [v, u]) (List.mem_of_getElem? hk)).at_ (by show 0 < 2; omega)
  refine ⟨g, gd, e1, e2, ?_, h2 0 (by show 0 < 2 * 1; omega), h2 1 (by show 1 < 2 * 1; omega)⟩
  rw [h1 k (by omega)]
  unfold dvs
  simp [List.getD, hk, dv]

def pOpt (x : Nat → Int) (l : List Int) : Bool := !(x (l.getD 0 0).toNat).toNat.testBit (l.getD 1 0).toNat
def qOpt (x : Nat → Int) (d : Dsc) : Bool := pOpt x d.2.2
noncomputable def optL (s1 : Int) (m1 : Nat) (x1 : Nat → Int) (s2 : Int) (m2 : Nat) (x2 : Nat → Int) : List (List Int) := if wiB s1 m1 x1 s2 m2 x2 = true then (edgesL s2 m2 x2).filter (pOpt x1) else []
theorem lists_filter (D : List Dsc) (x : Nat → Int) : lists (D.filter (qOpt x)) = (lists D).filter (pOpt x) := by
  unfold lists; rw [List.filter_map]; rfl
theorem opt_step_yes {D : List Dsc} {d : Dsc} {x : Nat → Int} {k : Nat} (h : D[k]? = some d) (hq : qOpt x d = true) : (D.take (k + 1)).filter (qOpt x) = (D.take k).filter (qOpt x) ++ [d] := by
  rw [take_at h, List.filter_append]; simp [hq]
theorem opt_step_no {D : List Dsc} {d : Dsc} {x : Nat → Int} {k : Nat} (h : D[k]? = some d) (hq : qOpt x d = false) : (D.take (k + 1)).filter (qOpt x) = (D.take k).filter (qOpt x) := by
  rw [take_at h, List.filter_append]; simp [hq]
theorem OwnD.filtered {w : World} {lo hi lo2 hi2 c g c2 : Nat} {A : Option Addr} {D : List Dsc} {x : Nat → Int} (h : OwnD w lo hi A c D) (ho : Own w g (g + 1) 37 1 (some ⟨g, 0, none⟩) (D.filter (qOpt x)).length c2 (dvs (D.filter (qOpt x)))) (h1 : lo2 ≤ lo) (h2 : hi ≤ hi2) (h3 : lo2 ≤ g) (h4 : g < hi2) :
    OwnD w lo2 hi2 (some ⟨g, 0, none⟩) c2 (D.filter (qOpt x)) :=
  ⟨ho.mono h3 (by omega), fun d hd => (h.2.1 d (List.mem_filter.1 hd).1).mono h1 h2, h.2.2.filter _⟩
theorem OwnD.nil_ (w : World) (lo hi : Nat) : OwnD w lo hi none 0 [] := ⟨Own.nil _ _ _ _ _ _, (fun d hd => by cases hd), List.Pairwise.nil⟩

set_option maxHeartbeats 1000000 in
theorem OptionalEdges_i (s1 : Int) (A1 : Option Addr) (m1 c1 : Nat) (x1 : Nat → Int) (s2 : Int) (A2 : Option Addr) (m2 c2 : Nat) (x2 : Nat → Int) (w : World) (B : Nat) (h1 : Rd w B A1 m1 c1 x1) (h2 : Rd w B A2 m2 c2 x2) (hB : B ≤ w.heap.size) (hm1 : m1 ≤ 1048576) (hm2 : m2 ≤ 1048576) :
    Calls Try.prog 52 #[.agg #[.int .i64 s1, .slice A1 m1 c1], .agg #[.int .i64 s2, .slice A2 m2 c2]] w fun e w' => ∃ A' c' D, e = .returned (.tuple #[.slice A' D.length c', .bool (wiB s1 m1 x1 s2 m2 x2)]) ∧ lists D = optL s1 m1 x1 s2 m2 x2 ∧ OwnD w' w.heap.size w'.heap.size A' c' D ∧ Below w.heap.size w w' := by
  obtain ⟨W, hW⟩ : ∃ W : World, W = ((w.alloc (Obj.cells #[Value.int IntKind.i64 s1, Value.slice A1 m1 c1] 42)).alloc (Obj.cells #[Value.int IntKind.i64 s2, Value.slice A2 m2 c2] 42)) := ⟨_, rfl⟩
  have HB : Hid (Below w.heap.size w W) := by rw [hW]; exact ((Below.refl _ _).alloc (Nat.le_refl _) _).alloc (by simp) _
  have hsz : w.heap.size + 2 = W.heap.size := by rw [hW]; simp
  have hs0 : w.heap.size < W.heap.size := by omega
  have hs1 : w.heap.size + 1 < W.heap.size := by omega
  have e0 : W.cell? ⟨w.heap.size, 0, none⟩ = some (.int .i64 s1) := by rw [hW]; simp [go_sem]
  have e1 : W.cell? ⟨w.heap.size, 1, none⟩ = some (.slice A1 m1 c1) := by rw [hW]; simp [go_sem]
  have e2 : W.cell? ⟨w.heap.size + 1, 0, none⟩ = some (.int .i64 s2) := by rw [hW]; simp [go_sem]
  have e3 : W.cell? ⟨w.heap.size + 1, 1, none⟩ = some (.slice A2 m2 c2) := by rw [hW]; simp [go_sem]
  have k1 := h1.keep (HB.out.mono hB) (Nat.le_refl _)
  have k2 := h2.keep (HB.out.mono hB) (Nat.le_refl _)
  have HW := Lib.hid hW
  clear hW h1 h2
  go_enter Try.func52, Try.ntmps52
  go_wp2_with fail
  rw [← HW.out]
  refine (isWithin_any s1 s2 A1 A2 m1 m2 c1 c2 x1 x2 W B k1 k2 (by omega) hm1 hm2).mono ?_
  rintro e w1 ⟨rfl, hb1⟩
  have f0 := up hb1 e0 hs0
  have f1 := up hb1 e1 hs0
  have f2 := up hb1 e2 hs1
  have f3 := up hb1 e3 hs1
  have z1 := hb1.size
  have HB1 := Lib.hid (HB.out.trans (hb1.mono (by omega)))
  have k1' := k1.keep (hb1.mono (by omega)) (Nat.le_refl _)
  have k2' := k2.keep (hb1.mono (by omega)) (Nat.le_refl _)
  clear HW HB e0 e1 e2 e3 hb1 k1 k2
  cases hw : wiB s1 m1 x1 s2 m2 x2
  · have HL : Hid (([] : List (List Int)) = optL s1 m1 x1 s2 m2 x2) := by show [] = optL _ _ _ _ _ _; unfold optL; rw [hw]; rfl
    have Hw := Lib.hid hw
    clear hw
    go_wp2
    go_ret2
    exact ⟨none, 0, [], by rw [Hw.out]; rfl, HL.out, OwnD.nil_ _ _ _, HB1.out⟩
  · have HL : Hid ((edgesL s2 m2 x2).filter (pOpt x1) = optL s1 m1 x1 s2 m2 x2) := by show _ = optL _ _ _ _ _ _; unfold optL; rw [hw]; rfl
    have hWi : Wi s1 m1 x1 s2 m2 x2 := by
      refine Classical.byContradiction fun h => ?_
      rw [wiB_no h] at hw; cases hw
    obtain ⟨⟨r1, es1, vg1, hx1⟩, ⟨r2, es2, vg2, hx2⟩, es, _⟩ := hWi
    have em : m1 = m2 := by omega
    have hzz0 : w.heap.size < w1.heap.size := by omega
    have hzz1 : w.heap.size + 1 < w1.heap.size := by omega
    have Hw := Lib.hid hw
    have hn1 := vg1.n1
    have hn7 := vg1.n7
    obtain ⟨b, o, rfl, lb, hc⟩ := k1'.pos (by omega)
    have HX := Lib.hid hx1
    have HV := Lib.hid vg1
    have HC := Lib.hid hc
    clear hw es1 es2 es vg1 hx1 hx2 hc vg2
    go_wp2_with fail
    refine (EdgesOf_i s2 A2 m2 c2 x2 _ B (k2'.keep (((Below.refl w1.heap.size w1).alloc (Nat.le_refl _) _).mono (by omega)) (Nat.le_refl _)) (by simp; omega) hm2).mono ?_
    rintro e w2 ⟨A', c', D, rfl, hD, hO, hb2⟩
    have hz2 := hb2.size
    simp only [World.size_alloc] at hO hz2 hb2
    have HO := Lib.hid hO
    have HD := Lib.hid hD
    have g1 := up hb2 (w1 := w2) (b := w.heap.size) (o := 1) (v := .slice (some ⟨b, o, none⟩) m1 c1) (by go_keep) (by omega)
    have hg0 : Own w2 w1.heap.size (w1.heap.size + 1) 37 1 (some ⟨w1.heap.size, 0, none⟩) 0 0 (dvs []) := by
      refine .inr ⟨w1.heap.size, #[], rfl, Nat.le_refl _, Nat.lt_succ_self _, (hb2.block _ (by omega)).trans (heap_alloc_new w1 _), Nat.le_refl _, by unfold maxLen; omega, rfl, fun j hj => absurd hj (by simp)⟩
    have HG := Lib.hid hg0
    have HB2 : Hid (Below w1.heap.size w1 w2) := ((Below.refl w1.heap.size w1).alloc (Nat.le_refl _) _).trans (hb2.mono (by omega))
    have hl21 := edges_len hD
    have HB3 : Hid (Below w.heap.size w w2) := HB1.out.trans (HB2.out.mono (by omega))
    have HC2 : Hid (∀ v, v < m1 → w2.cell? ⟨b, o + v, none⟩ = some (.int .i64 (x1 v))) := fun v hv => (HB2.out.cell (p := ⟨b, o + v, none⟩) (by show b < _; omega)).trans (HC.out v hv)
    clear hO hD hb2 f0 f1 f2 f3 k1' k2' hg0 HB1 HB2 HC
    go_wp2
    go_loopw [6, 17] (fun l i wr => ∃ (k g cg : Nat), k ≤ D.length ∧ i = .int .i64 k ∧ l = .slice (some ⟨g, 0, none⟩) ((D.take k).filter (qOpt x1)).length cg ∧ (g = w1.heap.size ∨ w2.heap.size ≤ g) ∧ g < wr.heap.size ∧ Hid (Own wr g (g + 1) 37 1 (some ⟨g, 0, none⟩) ((D.take k).filter (qOpt x1)).length cg (dvs ((D.take k).filter (qOpt x1)))) ∧ Hid (OwnD wr (w1.heap.size + 1) w2.heap.size A' c' D) ∧ Hid (Below w1.heap.size w2 wr)) (fun _ i _ => D.length - (intOf i).toNat)
    case atStart => exact ⟨0, w1.heap.size, 0, Nat.zero_le _, rfl, rfl, .inl rfl, by omega, HG, HO, Below.refl _ _⟩
    case round =>
      obtain ⟨k, g, cg, hk, rfl, rfl, hg1, hg2, hG, hE, hbr⟩ := hrel
      have q1 := up hbr.out g1 (by omega)
      have hzr := hbr.out.size
      by_cases hlt : k < D.length
      · obtain ⟨Ad, cd, v, u, hd, hvu, hum, _⟩ := edge_at HD.out hlt
        obtain ⟨gD, gd, rfl, rfl, d0, d1, d2⟩ := hE.out.pair hd
        have d3 := (hbr.out.cell (p := ⟨b, o + v, none⟩) (by show b < _; omega)).trans (HC2.out v (by omega))
        have y0 : 0 ≤ x1 v := by have := HX.out v (by omega); omega
        have y1 : x1 v < 16777216 := by have := HX.out v (by omega); have := HV.out.lt128 (v := v) (by omega); omega
        have i1 : (k : Int) < (D.length : Int) := by omega
        have i2 : (v : Int) < (m1 : Int) := by omega
        have hlen : ((D.take k).filter (qOpt x1)).length ≤ 21 := by
          have := List.length_filter_le (qOpt x1) (D.take k)
          rw [List.length_take] at this
          omega
        have Hd := Lib.hid hd
        clear hd
        cases hbit : (x1 v).toNat.testBit u
        · have hq : qOpt x1 (some ⟨gd, 0, none⟩, cd, [(v : Int), (u : Int)]) = true := by show (!(x1 ((v : Int)).toNat).toNat.testBit ((u : Int)).toNat) = true; simp [hbit]
          have Hs := Lib.hid (opt_step_yes Hd.out hq)
          have Hbit := Lib.hid hbit
          clear hbit hq
          go_wp2
          go_quiet (first | (go_at_call 76; exact Calls.quiet_of_same ((has_any _ _ _ y0 y1 (by omega) (by omega)).mono fun _ _ ⟨h1, h2⟩ => ⟨h1, h2.symm⟩)))
          simp only [Int.toNat_natCast, Hbit.out]
          go_wp2_with (first | (at_builtin; (refine wpList_pushC (wr.drewN nq) rfl _ _ rfl _ g cg (hG.out.drewN nq) hg2 (some ⟨gd, 0, none⟩, cd, [(v : Int), (u : Int)]) rfl 1 wr.heap.size rfl rfl (by omega) ?_; intro g' cap w3 hO2 hg' hl3 hf)))
          have H1 : Hid (Own w3 g' (g' + 1) 37 1 (some ⟨g', 0, none⟩) ((D.take (k + 1)).filter (qOpt x1)).length cap (dvs ((D.take (k + 1)).filter (qOpt x1)))) := by
            show Own _ _ _ _ _ _ _ _ _
            rw [Hs.out, List.length_append]; exact hO2
          have H2 := Lib.hid ((show OwnD (wr.drewN nq) _ _ _ _ _ from hE.out).keep hf (by omega))
          have H3 : Hid (Below w1.heap.size w2 w3) := (below_drewN hbr.out nq).trans (hf.below (by omega) (by show _ ≤ wr.heap.size; omega))
          have hgg : g' = w1.heap.size ∨ w2.heap.size ≤ g' := by
            have : (wr.drewN nq).heap.size = wr.heap.size := rfl
            omega
          clear hO2 hf hG hE hbr hg'
          go_wp2
          go_roundw
          case rel => exact ⟨k + 1, g', cap, by omega, by go_num, by rw [Hs.out, List.length_append]; rfl, hgg, hl3, H1, H2, H3⟩
          case measure => simp [intOf]; omega
        · have hq : qOpt x1 (some ⟨gd, 0, none⟩, cd, [(v : Int), (u : Int)]) = false := by show (!(x1 ((v : Int)).toNat).toNat.testBit ((u : Int)).toNat) = false; simp [hbit]
          have Hs := Lib.hid (opt_step_no Hd.out hq)
          have Hbit := Lib.hid hbit
          clear hbit hq
          go_wp2
          go_quiet (first | (go_at_call 76; exact Calls.quiet_of_same ((has_any _ _ _ y0 y1 (by omega) (by omega)).mono fun _ _ ⟨h1, h2⟩ => ⟨h1, h2.symm⟩)))
          simp only [Int.toNat_natCast, Hbit.out]
          go_wp2
          go_roundw
          case rel => exact ⟨k + 1, g, cg, by omega, by go_num, by rw [Hs.out], hg1, hg2, by rw [Hs.out]; exact hG, hE, below_drewN hbr.out nq⟩
          case measure => simp [intOf]; omega
      · obtain rfl : k = D.length := by omega
        have HF : Hid (lists (D.filter (qOpt x1)) = optL s1 m1 x1 s2 m2 x2) := by show _ = _; rw [lists_filter, HD.out]; exact HL.out
        have hO3 : Hid (OwnD wr w.heap.size wr.heap.size (some ⟨g, 0, none⟩) cg (D.filter (qOpt x1))) := by
          have := hG.out
          rw [List.take_length] at this
          exact hE.out.filtered this (by omega) hzr (by omega) hg2
        have HB4 : Hid (Below w.heap.size w wr) := HB3.out.trans (hbr.out.mono (by omega))
        rw [List.take_length]
        clear hG hE hbr
        go_wp2
        go_ret2
        exact ⟨_, cg, D.filter (qOpt x1), by rw [Hw.out]; rfl, HF.out, hO3.out, HB4.out⟩
end Go.Proofs.Ytccblehcemggjaa
