/-
  Contract: all pairs of n vertices.
-/
import Derived.Test.YtccblehcemggjaaOpt
namespace Go.Proofs.Ytccblehcemggjaa
open Go.RowKit

def pl (n v u : Nat) : List (List Int) := (prTo n v u).map fun p => [(p.1 : Int), (p.2 : Int)]
def prL (n : Nat) : List (List Int) := (pr n).map fun p => [(p.1 : Int), (p.2 : Int)]
theorem pl_step {n v u : Nat} (h : v + 1 ≤ u) : pl n v (u + 1) = pl n v u ++ [[(v : Int), (u : Int)]] := by
  unfold pl; rw [prTo_step n v u h]; simp
theorem pl_row {n v : Nat} : pl n (v + 1) (v + 1 + 1) = pl n v n := by unfold pl; rw [prTo_row]
theorem pl_zero {n : Nat} : pl n 0 1 = [] := by unfold pl; rw [prTo_zero]; rfl
theorem pl_end {n : Nat} : pl n n (n + 1) = prL n := by unfold pl prL; rw [prTo_end n _ (Nat.le_refl _)]
theorem pl_len {n v u : Nat} (hn : n ≤ 7) (hv : v < n) (h : v + 1 ≤ u) (hu : u ≤ n) : (pl n v u).length ≤ 21 := by
  obtain ⟨t, ht⟩ := prTo_prefix n v u hv h hu
  have h1 := length_pr_le hn
  rw [ht, List.length_append] at h1
  unfold pl
  rw [List.length_map]
  omega

set_option maxHeartbeats 1000000 in
theorem pairsOf_any (m : Nat) (hm7 : m ≤ 7) (w : World) :
    Calls Try.prog 75 #[.int .i64 m] w fun e w' => ∃ A' c' D, e = .returned (.slice A' D.length c') ∧ lists D = prL m ∧ OwnD w' w.heap.size w'.heap.size A' c' D ∧ Below w.heap.size w w' := by
  obtain ⟨W, hW⟩ : ∃ W : World, W = w.alloc (Obj.cells #[] 37) := ⟨_, rfl⟩
  have HB : Hid (Below w.heap.size w W) := by rw [hW]; exact (Below.refl _ _).alloc (Nat.le_refl _) _
  have hz1 : w.heap.size < W.heap.size := by rw [hW]; simp
  have HD : Hid (OwnD W w.heap.size W.heap.size (some ⟨w.heap.size, 0, none⟩) 0 []) := by
    refine OwnD.none_ _ _ _ _ (Nat.le_refl _) hz1 ?_
    rw [hW]
    exact heap_alloc_new w _
  have HW := Lib.hid hW
  clear hW
  go_enter Try.func75, Try.ntmps75
  go_wp2_with fail
  rw [← HW.out]
  clear HW
  go_loopw [3, 8] (fun l i wr => ∃ (v : Nat) (A' : Option Addr) (c' : Nat) (D : List Dsc), v ≤ m ∧ i = .int .i64 v ∧ l = .slice A' D.length c' ∧ Hid (lists D = pl m v (v + 1)) ∧ Hid (OwnD wr w.heap.size wr.heap.size A' c' D) ∧ Hid (Below w.heap.size w wr)) (fun _ i _ => m - (intOf i).toNat)
  case atStart => exact ⟨0, _, 0, [], Nat.zero_le _, rfl, rfl, by show lists [] = _; rw [pl_zero]; rfl, HD, HB⟩
  case round =>
    obtain ⟨v, A', c', D, hv, rfl, rfl, hL, hO, hbr⟩ := hrel
    have zr := hbr.out.size
    by_cases hlt : v < m
    · have i1 : (v : Int) < (m : Int) := by omega
      go_wp2
      obtain ⟨wo, rfl⟩ : ∃ wo : World, wo = wr := ⟨_, rfl⟩
      go_loopw [3, 5] (fun l i wr => ∃ (u : Nat) (A' : Option Addr) (c' : Nat) (D : List Dsc), v + 1 ≤ u ∧ u ≤ m ∧ i = .int .i64 u ∧ l = .slice A' D.length c' ∧ Hid (lists D = pl m v u) ∧ Hid (OwnD wr w.heap.size wr.heap.size A' c' D) ∧ Hid (Below w.heap.size w wr)) (fun _ i _ => m - (intOf i).toNat)
      case atStart => exact ⟨v + 1, A', c', D, Nat.le_refl _, by omega, by go_num, rfl, hL, hO, hbr⟩
      case round =>
        obtain ⟨u, A', c', D, hu1, hu2, rfl, rfl, hL, hO, hbr⟩ := hrel
        have zz := hbr.out.size
        by_cases hlu : u < m
        · have i2 : (u : Int) < (m : Int) := by omega
          have HL : Hid (lists D ++ [[(v : Int), (u : Int)]] = pl m v (u + 1)) := by show _ = _; rw [hL.out]; exact (pl_step hu1).symm
          have hlen : D.length ≤ 21 := by
            have h1 := congrArg List.length hL.out
            rw [lists, List.length_map] at h1
            rw [h1]; exact pl_len hm7 hlt hu1 hu2
          clear hL
          go_wp2_with (first | (at_builtin; (refine wpList_pushD (wr.alloc (Obj.cells #[Value.int .i64 v, Value.int .i64 u] 3)) rfl _ _ rfl w.heap.size (wr.heap.size + 1) A' c' D ((hO.out.alloc _).mono (Nat.le_refl _) (Nat.le_succ _)) (by simp; omega) (by simp) (some ⟨wr.heap.size, 0, none⟩, 2, [(v : Int), (u : Int)]) (pair_own wr w.heap.size (by omega) v u) (hO.out.fresh (Nat.le_refl _)) rfl 1 (wr.heap.size + 1) (by simp) rfl (by omega) ?_; intro g cap w3 hO2 hb2)))
          have H4 := Lib.hid hO2
          have H5 : Hid (Below w.heap.size w w3) := (hbr.out.alloc (by omega) _).trans hb2
          clear hO2 hb2 hbr hO
          go_wp2
          go_roundw
          case rel => exact ⟨u + 1, _, _, D ++ [(some ⟨wr.heap.size, 0, none⟩, 2, [(v : Int), (u : Int)])], by omega, by omega, by go_num, by rw [List.length_append]; rfl, by show lists (D ++ _) = _; rw [← HL.out]; simp [lists], H4, H5⟩
          case measure => simp [intOf]; omega
        · have hge : (m : Int) ≤ (u : Int) := by omega
          have eu : u = m := by omega
          have HL : Hid (lists D = pl m (v + 1) (v + 1 + 1)) := by show _ = _; rw [pl_row, ← eu, hL.out, eu]
          clear hL eu
          go_wp2
          go_roundw
          case rel => exact ⟨v + 1, A', c', D, by omega, by go_num, rfl, HL, hO, hbr⟩
          case measure => simp [intOf]; omega
    · have ev : v = m := by omega
      have hge : (m : Int) ≤ (v : Int) := by omega
      have HL : Hid (lists D = prL m) := by show _ = _; rw [hL.out, ev, pl_end]
      clear hL ev
      go_wp2
      go_ret
      exact ⟨A', c', D, rfl, HL.out, hO.out, hbr.out⟩
end Go.Proofs.Ytccblehcemggjaa
