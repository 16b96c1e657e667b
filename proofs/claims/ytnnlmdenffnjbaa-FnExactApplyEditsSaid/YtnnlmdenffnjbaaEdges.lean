/-
  Contracts: the edges of a graph, of both programs; whether two vertices of a good graph are neighbours.
-/
import Derived.Test.YtnnlmdenffnjbaaSS
import Derived.Test.YtnnlmdenffnjbaaWithin
import Derived.Test.YtnnlmdenffnjbaaPairs
import Derived.Deep.RegionHeld3
namespace Go.Proofs.Ytnnlmdenffnjbaa
open Go.RowKit

/-- append of one inner slice. -/
theorem wpList_pushD (W : World) {ops : Array Oper} {rest : List Oper} {o : Oper} {a : Act} {Q : Exit → Act → World → Prop} (hgd : o.guard = none) (s y : Operand)
    (ho : o.op = .call { callee := .builtin .append, args := #[s, y], argTypes := #[39, 39] })
    (lo hi : Nat) (A : Option Addr) (c : Nat) (D : List Dsc) (h : OwnD W lo hi A c D) (hlo : lo ≤ W.heap.size) (hhi : hi ≤ W.heap.size) (d : Dsc)
    (hd : Own W lo hi 3 1 d.1 d.2.2.length d.2.1 (ii d.2.2)) (hnew : ∀ e ∈ D, ∀ a, e.1 = some a → d.1 ≠ some a) (hs : a.eval s = .slice A D.length c) (cx H : Nat) (hH : W.heap.size = H) (hy : a.eval y = .slice (some ⟨H, 0, none⟩) 1 cx)
    (hn : D.length ≤ 1073741824)
    (hK : ∀ g cap w', OwnD w' lo w'.heap.size (some ⟨g, 0, none⟩) cap (D ++ [d]) → Below lo W w' → wpList Try.prog ops Q rest (a.put o.dst (.slice (some ⟨g, 0, none⟩) (D.length + 1) cap)) w') :
    wpList Try.prog ops Q (o :: rest) a (W.alloc (Obj.cells #[dv d] 22)) := by
  subst hH
  have ha := h.alloc (Obj.cells #[dv d] 22)
  refine wpList_push (W.alloc (Obj.cells #[dv d] 22)) hgd s y 39 ho 22 (.slice none 0 0) 1 24 Try.underlying39 info_ints rfl (by omega) lo hi A D.length c (dvs (D ++ [d])) hs
    (ha.1.congr (fun j hj => (dvs_left (by omega)).symm)) (by simp; omega) W.heap.size #[dv d] 22 (0, 0) cx (heap_alloc_new W _) hy rfl ?_ (by intro u hu; simp at hu; subst hu; rfl) hn (by omega) ?_
  · intro j hj
    obtain rfl : j = 0 := by omega
    rw [show D.length * 1 + 0 = D.length by omega, dvs_last]; rfl
  · intro g cap w' hp
    exact hK g cap w' (OwnD.push ha.2.1 ha.2.2 (hd.alloc _) hnew hp ha.1 (by simp; omega)) (((Below.refl _ _).alloc hlo _).trans hp.below)

theorem pair_own (w : World) (lo : Nat) (h : lo ≤ w.heap.size) (v u : Int) : Own (w.alloc (Obj.cells #[Value.int .i64 v, Value.int .i64 u] 3)) lo (w.heap.size + 1) 3 1 (some ⟨w.heap.size, 0, none⟩) 2 2 (ii [v, u]) :=
  .inr ⟨w.heap.size, _, rfl, h, Nat.lt_succ_self _, heap_alloc_new w _, Nat.le_refl _, by unfold maxLen; omega, rfl, fun j hj => by
    have hc : j = 0 ∨ j = 1 := by omega
    rcases hc with rfl | rfl <;> rfl⟩
theorem OwnD.fresh {w : World} {lo hi g c : Nat} {A : Option Addr} {D : List Dsc} (h : OwnD w lo hi A c D) (hg : hi ≤ g) : ∀ e ∈ D, ∀ a, e.1 = some a → (some (⟨g, 0, none⟩ : Addr)) ≠ some a := by
  intro e he a ha h2
  rcases (h.2.1 e he).at_block with h3 | ⟨g5, h3, _, h5⟩
  · rw [h3] at ha; cases ha
  · rw [ha] at h3
    rw [h3] at h2
    simp only [Option.some.injEq, Addr.mk.injEq, and_true] at h2
    omega

/-- The edges that stand before (v, u). -/
def ed (x : Nat → Int) (n v u : Nat) : List (List Int) := ((prTo n v u).filter fun p => (x p.1).toNat.testBit p.2).map fun p => [(p.1 : Int), (p.2 : Int)]
def edAll (x : Nat → Int) (n : Nat) : List (List Int) := ((pr n).filter fun p => (x p.1).toNat.testBit p.2).map fun p => [(p.1 : Int), (p.2 : Int)]
theorem ed_yes {x : Nat → Int} {n v u : Nat} (h : v + 1 ≤ u) (hb : (x v).toNat.testBit u = true) : ed x n v (u + 1) = ed x n v u ++ [[(v : Int), (u : Int)]] := by
  unfold ed; rw [prTo_step n v u h]; simp [hb]
theorem ed_no {x : Nat → Int} {n v u : Nat} (h : v + 1 ≤ u) (hb : (x v).toNat.testBit u = false) : ed x n v (u + 1) = ed x n v u := by
  unfold ed; rw [prTo_step n v u h]; simp [hb]
theorem ed_row {x : Nat → Int} {n v : Nat} : ed x n (v + 1) (v + 1 + 1) = ed x n v n := by unfold ed; rw [prTo_row]
theorem ed_zero {x : Nat → Int} {n : Nat} : ed x n 0 1 = [] := by unfold ed; rw [prTo_zero]; rfl
theorem ed_end {x : Nat → Int} {n : Nat} : ed x n n (n + 1) = edAll x n := by unfold ed edAll; rw [prTo_end n _ (Nat.le_refl _)]
theorem ed_len {x : Nat → Int} {n v u : Nat} (hn : n ≤ 7) (hv : v < n) (h : v + 1 ≤ u) (hu : u ≤ n) : (ed x n v u).length ≤ 21 := by
  obtain ⟨t, ht⟩ := prTo_prefix n v u hv h hu
  have h1 := length_pr_le hn
  rw [ht, List.length_append] at h1
  unfold ed
  rw [List.length_map]
  have := List.length_filter_le (fun p => (x p.1).toNat.testBit p.2) (prTo n v u)
  omega

/-- The edges of a graph that is one, none else. -/
noncomputable def edgesL (s : Int) (m : Nat) (x : Nat → Int) : List (List Int) := if okB s m x = true then edAll x m else []

set_option maxHeartbeats 1000000 in
theorem EdgesOf_i (s : Int) (A : Option Addr) (m c : Nat) (x : Nat → Int) (w : World) (B : Nat) (h : Rd w B A m c x) (hB : B ≤ w.heap.size) (hm : m ≤ 1048576) :
    Calls Try.prog 158 #[.agg #[.int .i64 s, .slice A m c]] w fun e w' => ∃ A' c' D, e = .returned (.slice A' D.length c') ∧ lists D = edgesL s m x ∧ OwnD w' w.heap.size w'.heap.size A' c' D ∧ Below w.heap.size w w' := by
  obtain ⟨W, hW⟩ : ∃ W : World, W = (w.alloc (Obj.cells #[Value.int IntKind.i64 s, Value.slice A m c] 28)).alloc (Obj.cells #[] 22) := ⟨_, rfl⟩
  have HB : Hid (Below w.heap.size w W) := by rw [hW]; exact ((Below.refl _ _).alloc (Nat.le_refl _) _).alloc (by simp) _
  have hsz : w.heap.size < W.heap.size := by rw [hW]; simp; omega
  have hz1 : w.heap.size + 1 < W.heap.size := by rw [hW]; simp
  have e0 : W.cell? ⟨w.heap.size, 0, none⟩ = some (.int .i64 s) := by rw [hW]; simp [go_sem]
  have e1 : W.cell? ⟨w.heap.size, 1, none⟩ = some (.slice A m c) := by rw [hW]; simp [go_sem]
  have HD : Hid (OwnD W (w.heap.size + 1) W.heap.size (some ⟨w.heap.size + 1, 0, none⟩) 0 []) := by
    refine OwnD.none_ _ _ _ _ (Nat.le_refl _) hz1 ?_
    rw [hW]
    have := heap_alloc_new (w.alloc (Obj.cells #[Value.int IntKind.i64 s, Value.slice A m c] 28)) (Obj.cells #[] 22)
    simpa using this
  have HW := Lib.hid hW
  clear hW
  go_enter Try.func158, Try.ntmps158
  go_wp2_with fail
  rw [← HW.out]
  refine (IsGraph_any s A m c x W B (h.keep (HB.out.mono hB) (Nat.le_refl _)) (by omega) hm).mono ?_
  rintro e w1 ⟨rfl, hb1⟩
  have f0 := up hb1 e0 hsz
  have f1 := up hb1 e1 hsz
  have z1 := hb1.size
  have HD1 := Lib.hid (HD.out.keepB hb1 (Nat.le_refl _))
  have HB1 := Lib.hid (HB.out.trans (hb1.mono (by omega)))
  have k1 := h.keep (HB1.out.mono hB) (Nat.le_refl _)
  clear HW HB HD e0 e1 hb1
  cases hok : okB s m x
  · have hE : Hid (([] : List (List Int)) = edgesL s m x) := by show [] = edgesL s m x; unfold edgesL; rw [hok]; rfl
    clear hok h k1
    go_wp2
    go_ret
    exact ⟨_, 0, [], rfl, hE.out, HD1.out.mono (by omega) z1, HB1.out⟩
  · have hOK : OkG s m x := by
      refine Classical.byContradiction fun h => ?_
      rw [okB_no h] at hok; cases hok
    obtain ⟨r, rfl, vg, hx⟩ := hOK
    have hE : Hid (edgesL m m x = edAll x m) := by
      show edgesL m m x = _; unfold edgesL; rw [hok]; rfl
    have hm1 := vg.n1
    have hm7 := vg.n7
    obtain ⟨b, o, rfl, lb, hc⟩ := k1.pos (by omega)
    have HX := Lib.hid hx
    have hzz : w.heap.size < w1.heap.size := by omega
    clear hok h k1 hx
    go_wp2
    go_loopw [3, 15] (fun l i wr => ∃ (v : Nat) (A' : Option Addr) (c' : Nat) (D : List Dsc), v ≤ m ∧ i = .int .i64 v ∧ l = .slice A' D.length c' ∧ Hid (lists D = ed x m v (v + 1)) ∧ Hid (OwnD wr (w.heap.size + 1) wr.heap.size A' c' D) ∧ Below (w.heap.size + 1) w1 wr) (fun _ i _ => m - (intOf i).toNat)
    case atStart => exact ⟨0, _, 0, [], Nat.zero_le _, rfl, rfl, by show lists [] = _; rw [ed_zero]; rfl, HD1.out.mono (Nat.le_refl _) z1, Below.refl _ _⟩
    case round =>
      obtain ⟨v, A', c', D, hv, rfl, rfl, hL, hO, hbr⟩ := hrel
      by_cases hlt : v < m
      · have q0 := up hbr f0 (Nat.lt_succ_self _)
        have q1 := up hbr f1 (Nat.lt_succ_self _)
        have q2 := (hbr.cell (p := ⟨b, o + v, none⟩) (by show b < _; omega)).trans (hc v hlt)
        have x0 : 0 ≤ x v := by have := HX.out v hlt; omega
        have x1 : x v < 16777216 := by have := HX.out v hlt; have := vg.lt128 hlt; omega
        have i1 : (v : Int) < (m : Int) := by omega
        clear hc
        go_wp2
        obtain ⟨wo, rfl⟩ : ∃ wo : World, wo = wr := ⟨_, rfl⟩
        go_loopw [3, 6] (fun l i wr => ∃ (u : Nat) (A' : Option Addr) (c' : Nat) (D : List Dsc), v + 1 ≤ u ∧ u ≤ m ∧ i = .int .i64 u ∧ l = .slice A' D.length c' ∧ Hid (lists D = ed x m v u) ∧ Hid (OwnD wr (w.heap.size + 1) wr.heap.size A' c' D) ∧ Below (w.heap.size + 1) w1 wr) (fun _ i _ => m - (intOf i).toNat)
        case atStart => exact ⟨v + 1, A', c', D, Nat.le_refl _, by omega, by go_num, rfl, hL, hO, hbr⟩
        case round =>
          obtain ⟨u, A', c', D, hu1, hu2, rfl, rfl, hL, hO, hbr⟩ := hrel
          have q0 := up hbr f0 (Nat.lt_succ_self _)
          by_cases hlu : u < m
          · have i2 : (u : Int) < (m : Int) := by omega
            cases hbit : (x v).toNat.testBit u
            · have HL : Hid (lists D = ed x m v (u + 1)) := hL.out.trans (ed_no hu1 hbit).symm
              have Hb := Lib.hid hbit
              clear hbit hL
              go_wp2_with fail
              refine (has_any _ _ _ x0 x1 (by omega) (by omega)).mono ?_
              simp only [Int.toNat_natCast, Hb.out]
              rintro e w' ⟨rfl, rfl⟩
              go_wp2
              go_roundw
              case rel => exact ⟨u + 1, A', c', D, by omega, by omega, by go_num, rfl, HL, hO, hbr⟩
              case measure => simp [intOf]; omega
            · have HL : Hid (lists D ++ [[(v : Int), (u : Int)]] = ed x m v (u + 1)) := by show _ = _; rw [hL.out]; exact (ed_yes hu1 hbit).symm
              have hlen : D.length ≤ 21 := by
                have h1 := congrArg List.length hL.out
                rw [lists, List.length_map] at h1
                rw [h1]; exact ed_len hm7 hlt hu1 hu2
              have Hb := Lib.hid hbit
              have zz := hbr.size
              clear hbit hL
              go_wp2_with fail
              refine (has_any _ _ _ x0 x1 (by omega) (by omega)).mono ?_
              simp only [Int.toNat_natCast, Hb.out]
              rintro e w' ⟨rfl, rfl⟩
              go_wp2_with (first | (at_builtin; (refine wpList_pushD (wr.alloc (Obj.cells #[Value.int .i64 v, Value.int .i64 u] 3)) rfl _ _ rfl (w.heap.size + 1) (wr.heap.size + 1) A' c' D ((hO.out.alloc _).mono (Nat.le_refl _) (Nat.le_succ _)) (by simp; omega) (by simp) (some ⟨wr.heap.size, 0, none⟩, 2, [(v : Int), (u : Int)]) (pair_own wr (w.heap.size + 1) (by omega) v u) (hO.out.fresh (Nat.le_refl _)) rfl 1 (wr.heap.size + 1) (by simp) rfl (by omega) ?_; intro g cap w2 hO2 hb2)))
              have H1 := Lib.hid hO2
              have H2 : Hid (Below (w.heap.size + 1) w1 w2) := (hbr.alloc (by omega) _).trans hb2
              clear hO2 hb2 hO hbr q0
              go_wp2
              go_roundw
              case rel => exact ⟨u + 1, _, _, D ++ [(some ⟨wr.heap.size, 0, none⟩, 2, [(v : Int), (u : Int)])], by omega, by omega, by go_num, by rw [List.length_append]; rfl, by show lists (D ++ _) = _; rw [← HL.out]; simp [lists], H1, H2.out⟩
              case measure => simp [intOf]; omega
          · have hge : (m : Int) ≤ (u : Int) := by omega
            have eu : u = m := by omega
            have HL : Hid (lists D = ed x m (v + 1) (v + 1 + 1)) := by show _ = _; rw [ed_row, ← eu, hL.out, eu]
            have Hb := Lib.hid hbr
            clear hL hbr eu
            go_wp2
            go_roundw
            case rel => exact ⟨v + 1, A', c', D, by omega, by go_num, rfl, HL, hO, Hb.out⟩
            case measure => simp [intOf]; omega
      · have ev : v = m := by omega
        have hge : (m : Int) ≤ (v : Int) := by omega
        have HL : Hid (lists D = edgesL m m x) := by show _ = _; rw [hL.out, ev, ed_end, hE.out]
        have H2 : Hid (Below w.heap.size w wr) := HB1.out.trans (hbr.mono (Nat.le_succ _))
        clear hL hbr ev hc f0 f1
        go_wp2
        go_ret
        exact ⟨A', c', D, rfl, HL.out, hO.out.mono (Nat.le_succ _) (Nat.le_refl _), H2.out⟩
end Go.Proofs.Ytnnlmdenffnjbaa
