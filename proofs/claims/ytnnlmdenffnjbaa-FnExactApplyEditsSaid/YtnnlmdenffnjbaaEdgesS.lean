/-
  Contracts of the reference: whether two vertices of a good graph are neighbours; the edges of a graph.
-/
import Derived.Test.YtnnlmdenffnjbaaEdges
namespace Go.Proofs.Ytnnlmdenffnjbaa
open Go.RowKit

theorem l2Edge_any (s : Int) (b o m c : Nat) (w : World) (v u : Nat) (y : Int) (hy : w.cell? ⟨b, o + v, none⟩ = some (.int .i64 y)) (hb : b < w.heap.size) (hv : v < m) (h0 : 0 ≤ y) (h1 : y < 16777216) (hu : u ≤ 63) :
    Calls Try.prog 149 #[.agg #[.int .i64 s, .slice (some ⟨b, o, none⟩) m c], .int .i64 v, .int .i64 u] w fun e w' => e = .returned (.bool (y.toNat.testBit u)) ∧ Below w.heap.size w w' := by
  have HB : Hid (Below w.heap.size w (w.alloc (Obj.cells #[Value.int IntKind.i64 s, Value.slice (some ⟨b, o, none⟩) m c] 28))) := (Below.refl _ _).alloc (Nat.le_refl _) _
  have E := and_one_i64 y u h0 h1
  have H := Lib.hid E
  have hv' : (v : Int) < (m : Int) := by omega
  have q := (HB.out.cell (p := ⟨b, o + v, none⟩) hb).trans hy
  clear E hy
  go_enter Try.func149, Try.ntmps149
  go_wp2
  go_ret
  exact ⟨ret_bool H.out, HB.out⟩

set_option maxHeartbeats 1000000 in
theorem EdgesOf_s (s : Int) (A : Option Addr) (m c : Nat) (x : Nat → Int) (w : World) (B : Nat) (h : Rd w B A m c x) (hB : B ≤ w.heap.size) (hm : m ≤ 1048576) :
    Calls Try.prog 70 #[.agg #[.int .i64 s, .slice A m c]] w fun e w' => ∃ A' c' D, e = .returned (.slice A' D.length c') ∧ lists D = edgesL s m x ∧ OwnD w' w.heap.size w'.heap.size A' c' D ∧ Below w.heap.size w w' := by
  obtain ⟨W, hW⟩ : ∃ W : World, W = (w.alloc (Obj.cells #[Value.int IntKind.i64 s, Value.slice A m c] 28)).alloc (Obj.cells #[] 22) := ⟨_, rfl⟩
  have HB : Hid (Below w.heap.size w W) := by rw [hW]; exact ((Below.refl _ _).alloc (Nat.le_refl _) _).alloc (by simp) _
  have hsz : w.heap.size < W.heap.size := by rw [hW]; simp; omega
  have hz1 : w.heap.size + 1 < W.heap.size := by rw [hW]; simp
  have f0 : W.cell? ⟨w.heap.size, 0, none⟩ = some (.int .i64 s) := by rw [hW]; simp [go_sem]
  have f1 : W.cell? ⟨w.heap.size, 1, none⟩ = some (.slice A m c) := by rw [hW]; simp [go_sem]
  have HD : Hid (OwnD W (w.heap.size + 1) W.heap.size (some ⟨w.heap.size + 1, 0, none⟩) 0 []) := by
    refine OwnD.none_ _ _ _ _ (Nat.le_refl _) hz1 ?_
    rw [hW]
    have := heap_alloc_new (w.alloc (Obj.cells #[Value.int IntKind.i64 s, Value.slice A m c] 28)) (Obj.cells #[] 22)
    simpa using this
  have k1 := h.keep (HB.out.mono hB) (Nat.le_refl _)
  have HW := Lib.hid hW
  clear hW
  go_enter Try.func70, Try.ntmps70
  go_wp2_with fail
  rw [← HW.out]
  cases hok : okB s m x
  · have hE : Hid (([] : List (List Int)) = edgesL s m x) := by show [] = edgesL s m x; unfold edgesL; rw [hok]; rfl
    have Hok := Lib.hid hok
    clear hok HW
    go_loopw [3, 4] (fun l i wr => i = .int .i64 0 ∧ l = .slice (some ⟨w.heap.size + 1, 0, none⟩) 0 0 ∧ W = wr) (fun _ i _ => 0)
    case atStart => exact ⟨rfl, rfl, rfl⟩
    case round =>
      obtain ⟨rfl, rfl, rfl⟩ := hrel
      by_cases hs : 0 < s
      · go_wp2_with fail
        refine (IsGraph_sany s A m c x W B k1 (by omega) hm).mono ?_
        rw [Hok.out]
        rintro e w1 ⟨rfl, hb1⟩
        have HB1 := Lib.hid (HB.out.trans (hb1.mono (by omega)))
        have HD1 := Lib.hid (HD.out.keepB hb1 (Nat.le_refl _))
        have z1 := hb1.size
        clear hb1
        go_wp2
        go_ret
        exact ⟨_, 0, [], rfl, hE.out, HD1.out.mono (by omega) z1, HB1.out⟩
      · have hs' : s ≤ 0 := by omega
        go_wp2
        go_ret
        exact ⟨_, 0, [], rfl, hE.out, HD.out.mono (by omega) (Nat.le_refl _), HB.out⟩
  · have hOK : OkG s m x := by
      refine Classical.byContradiction fun h => ?_
      rw [okB_no h] at hok; cases hok
    obtain ⟨r, rfl, vg, hx⟩ := hOK
    have hE : Hid (edgesL m m x = edAll x m) := by
      show edgesL m m x = _; unfold edgesL; rw [hok]; rfl
    have Hok := Lib.hid hok
    have hm1 := vg.n1
    have hm7 := vg.n7
    have HK := Lib.hid k1
    obtain ⟨b, o, rfl, lb, hc⟩ := k1.pos (by omega)
    have HX := Lib.hid hx
    have HC := Lib.hid hc
    clear hok h k1 hx HW hc
    go_loopw [3, 4] (fun l i wr => ∃ (v : Nat) (A' : Option Addr) (c' : Nat) (D : List Dsc), v ≤ m ∧ i = .int .i64 v ∧ l = .slice A' D.length c' ∧ Hid (lists D = ed x m v (v + 1)) ∧ Hid (OwnD wr (w.heap.size + 1) wr.heap.size A' c' D) ∧ Hid (Below (w.heap.size + 1) W wr)) (fun _ i _ => m - (intOf i).toNat)
    case atStart => exact ⟨0, _, 0, [], Nat.zero_le _, rfl, rfl, by show lists [] = _; rw [ed_zero]; rfl, HD, Below.refl _ _⟩
    case round =>
      obtain ⟨v, A', c', D, hv, rfl, rfl, hL, hO, hbr⟩ := hrel
      have q0 := up hbr.out f0 (Nat.lt_succ_self _)
      have q1 := up hbr.out f1 (Nat.lt_succ_self _)
      have zr := hbr.out.size
      by_cases hlt : v < m
      · have x0 : 0 ≤ x v := by have := HX.out v hlt; omega
        have x1 : x v < 16777216 := by have := HX.out v hlt; have := vg.lt128 hlt; omega
        have i1 : (v : Int) < (m : Int) := by omega
        go_wp2_with fail
        refine (IsGraph_sany m (some ⟨b, o, none⟩) m c x wr B (HK.out.keep (hbr.out.mono (by omega)) (Nat.le_refl _)) (by omega) hm).mono ?_
        rw [Hok.out]
        rintro e w1 ⟨rfl, hb1⟩
        have HB1 : Hid (Below (w.heap.size + 1) W w1) := hbr.out.trans (hb1.mono (by omega))
        have HD1 := Lib.hid (hO.out.keepB hb1 (Nat.le_refl _))
        have z1 := hb1.size
        have hO1 := Lib.hid (HD1.out.mono (Nat.le_refl _) z1)
        clear hb1 hO hbr q0 q1 HD1
        go_wp2
        go_loopw [3, 5] (fun l i wr => ∃ (u : Nat) (A' : Option Addr) (c' : Nat) (D : List Dsc), v + 1 ≤ u ∧ u ≤ m ∧ i = .int .i64 u ∧ l = .slice A' D.length c' ∧ Hid (lists D = ed x m v u) ∧ Hid (OwnD wr (w.heap.size + 1) wr.heap.size A' c' D) ∧ Hid (Below (w.heap.size + 1) W wr)) (fun _ i _ => m - (intOf i).toNat)
        case atStart => exact ⟨v + 1, A', c', D, Nat.le_refl _, by omega, by go_num, rfl, hL, hO1, HB1⟩
        case round =>
          rename_i wz _ _
          obtain ⟨u, A', c', D, hu1, hu2, rfl, rfl, hL, hO, hbr⟩ := hrel
          have q0 := up hbr.out f0 (Nat.lt_succ_self _)
          have q1 := up hbr.out f1 (Nat.lt_succ_self _)
          have q2 := (hbr.out.cell (p := ⟨b, o + v, none⟩) (by show b < _; omega)).trans (HC.out v hlt)
          have zz := hbr.out.size
          by_cases hlu : u < m
          · have i2 : (u : Int) < (m : Int) := by omega
            cases hbit : (x v).toNat.testBit u
            · have HL : Hid (lists D = ed x m v (u + 1)) := hL.out.trans (ed_no hu1 hbit).symm
              have Hb := Lib.hid hbit
              clear hbit hL
              go_wp2_with fail
              refine (l2Edge_any _ b o m c _ v u (x v) q2 (by omega) hlt x0 x1 (by omega)).mono ?_
              rw [Hb.out]
              rintro e w2 ⟨rfl, hb2⟩
              have H1 := Lib.hid ((hO.out.keepB hb2 (Nat.le_refl _)).mono (Nat.le_refl _) hb2.size)
              have H2 : Hid (Below (w.heap.size + 1) W w2) := hbr.out.trans (hb2.mono (by omega))
              clear hb2 q0 q1 q2 hO hbr
              go_wp2
              go_roundw
              case rel => exact ⟨u + 1, A', c', D, by omega, by omega, by go_num, rfl, HL, H1, H2⟩
              case measure => simp [intOf]; omega
            · have HL : Hid (lists D ++ [[(v : Int), (u : Int)]] = ed x m v (u + 1)) := by show _ = _; rw [hL.out]; exact (ed_yes hu1 hbit).symm
              have hlen : D.length ≤ 21 := by
                have h1 := congrArg List.length hL.out
                rw [lists, List.length_map] at h1
                rw [h1]; exact ed_len hm7 hlt hu1 hu2
              have Hb := Lib.hid hbit
              clear hbit hL
              go_wp2_with fail
              refine (l2Edge_any _ b o m c _ v u (x v) q2 (by omega) hlt x0 x1 (by omega)).mono ?_
              rw [Hb.out]
              rintro e w2 ⟨rfl, hb2⟩
              have H1 := Lib.hid ((hO.out.keepB hb2 (Nat.le_refl _)).mono (Nat.le_refl _) hb2.size)
              have H2 : Hid (Below (w.heap.size + 1) W w2) := hbr.out.trans (hb2.mono (by omega))
              have z2 := hb2.size
              clear hb2 q0 q1 q2 hO hbr
              go_wp2_with (first | (at_builtin; (refine wpList_pushD (w2.alloc (Obj.cells #[Value.int .i64 v, Value.int .i64 u] 3)) rfl _ _ rfl (w.heap.size + 1) (w2.heap.size + 1) A' c' D ((H1.out.alloc _).mono (Nat.le_refl _) (Nat.le_succ _)) (by simp; omega) (by simp) (some ⟨w2.heap.size, 0, none⟩, 2, [(v : Int), (u : Int)]) (pair_own w2 (w.heap.size + 1) (by omega) v u) (H1.out.fresh (Nat.le_refl _)) rfl 1 (w2.heap.size + 1) (by simp) rfl (by omega) ?_; intro g cap w3 hO2 hb2)))
              have H4 := Lib.hid hO2
              have H5 : Hid (Below (w.heap.size + 1) W w3) := (H2.out.alloc (by omega) _).trans hb2
              clear hO2 hb2 H1 H2
              go_wp2
              go_roundw
              case rel => exact ⟨u + 1, _, _, D ++ [(some ⟨w2.heap.size, 0, none⟩, 2, [(v : Int), (u : Int)])], by omega, by omega, by go_num, by rw [List.length_append]; rfl, by show lists (D ++ _) = _; rw [← HL.out]; simp [lists], H4, H5⟩
              case measure => simp [intOf]; omega
          · have hge : (m : Int) ≤ (u : Int) := by omega
            have eu : u = m := by omega
            have HL : Hid (lists D = ed x m (v + 1) (v + 1 + 1)) := by show _ = _; rw [ed_row, ← eu, hL.out, eu]
            have Hb := Lib.hid hbr
            clear hL eu
            go_wp2
            go_roundw
            case rel => exact ⟨v + 1, A', c', D, by omega, by go_num, rfl, HL, hO, hbr⟩
            case measure => simp [intOf]; omega
      · have ev : v = m := by omega
        have hge : (m : Int) ≤ (v : Int) := by omega
        have HL : Hid (lists D = edgesL m m x) := by show _ = _; rw [hL.out, ev, ed_end, hE.out]
        have H2 : Hid (Below w.heap.size w wr) := HB.out.trans (hbr.out.mono (Nat.le_succ _))
        clear hL hbr ev f0 f1
        go_wp2
        go_ret
        exact ⟨A', c', D, rfl, HL.out, hO.out.mono (Nat.le_succ _) (Nat.le_refl _), H2.out⟩
end Go.Proofs.Ytnnlmdenffnjbaa
