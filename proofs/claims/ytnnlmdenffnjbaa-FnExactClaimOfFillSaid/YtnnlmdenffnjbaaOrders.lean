/-
  Contract: all orders of a few numbers, of the reference.
-/
import Derived.Test.YtnnlmdenffnjbaaFewP
import Derived.Test.YtnnlmdenffnjbaaGC
namespace Go.Proofs.Ytnnlmdenffnjbaa
open Go.RowKit

def ci (l : List Nat) : List Int := l.map fun v : Nat => (v : Int)
def nl (L : List (List Nat)) : List (List Int) := L.map ci
/-- What stands before a place of the two inner loops. -/
def exTo (l : List Nat) (v : Nat) : List (List Nat) := ((List.range v).filter fun v => !decide (v ∈ l)).map fun v => l ++ [v]
def orTo (n : Nat) (L : List (List Nat)) (j v : Nat) : List (List Nat) := (L.take j).flatMap (extN n) ++ exTo (L.getD j []) v
theorem orTo_zero (n : Nat) (L : List (List Nat)) : orTo n L 0 0 = [] := by simp [orTo, exTo]
theorem orTo_yes {n : Nat} {L : List (List Nat)} {j v : Nat} (h : v ∉ L.getD j []) : orTo n L j (v + 1) = orTo n L j v ++ [L.getD j [] ++ [v]] := by
  unfold orTo exTo
  rw [List.range_succ, List.filter_append, List.map_append, List.append_assoc]
  obtain ⟨l, hl⟩ : ∃ l, l = L.getD j [] := ⟨_, rfl⟩
  rw [← hl] at h ⊢
  simp [h]
theorem orTo_no {n : Nat} {L : List (List Nat)} {j v : Nat} (h : v ∈ L.getD j []) : orTo n L j (v + 1) = orTo n L j v := by
  unfold orTo exTo
  rw [List.range_succ, List.filter_append, List.map_append]
  obtain ⟨l, hl⟩ : ∃ l, l = L.getD j [] := ⟨_, rfl⟩
  rw [← hl] at h ⊢
  simp [h]
theorem orTo_row {n : Nat} {L : List (List Nat)} {j : Nat} (h : j < L.length) : orTo n L (j + 1) 0 = orTo n L j n := by
  unfold orTo
  rw [List.take_succ_eq_append_getElem h, List.flatMap_append]
  simp [exTo, extN, List.getD, h]
theorem orTo_all {n k : Nat} : orTo n (ordN n k) (ordN n k).length 0 = ordN n (k + 1) := by
  unfold orTo; rw [List.take_length]; simp [exTo, ordN]
theorem exTo_len {v : Nat} {l : List Nat} : (exTo l v).length ≤ v := by
  unfold exTo; rw [List.length_map]; have := List.length_filter_le (fun v => !decide (v ∈ l)) (List.range v); simpa using this
theorem flat_len {n : Nat} : ∀ (L : List (List Nat)), (L.flatMap (extN n)).length ≤ L.length * n := by
  intro L
  induction L with
  | nil => simp
  | cons l L ih =>
    rw [List.flatMap_cons, List.length_append, List.length_cons, Nat.succ_mul]
    have : (extN n l).length ≤ n := exTo_len (l := l) (v := n)
    omega
theorem ordN_len (n : Nat) : ∀ k, (ordN n k).length ≤ n ^ k
  | 0 => Nat.le_refl _
  | k + 1 => by
    have h1 := flat_len (n := n) (ordN n k)
    have h2 := Nat.mul_le_mul_right n (ordN_len n k)
    rw [Nat.pow_succ]
    exact Nat.le_trans h1 h2
theorem pow5 {n k : Nat} (hn : n ≤ 5) (hk : k ≤ 5) : n ^ k ≤ 3125 :=
  Nat.le_trans (Nat.pow_le_pow_left hn k) (Nat.pow_le_pow_right (by omega) hk)
theorem orTo_len {n k j v : Nat} (hn : n ≤ 5) (hk : k < 5) (hv : v ≤ n) : (orTo n (ordN n k) j v).length ≤ 20000 := by
  unfold orTo
  rw [List.length_append]
  have h1 := flat_len (n := n) ((ordN n k).take j)
  have h2 := exTo_len (l := (ordN n k).getD j []) (v := v)
  have h3 : ((ordN n k).take j).length ≤ (ordN n k).length := List.length_take_le' j (ordN n k)
  have h4 := Nat.le_trans (ordN_len n k) (pow5 hn (by omega : k ≤ 5))
  have h5 : ((ordN n k).take j).length * n ≤ 3125 * 5 := Nat.mul_le_mul (by omega) hn
  omega

theorem nl_len {D : List Dsc} {L : List (List Nat)} (h : lists D = nl L) : D.length = L.length := by
  have := congrArg List.length h
  rw [lists, nl, List.length_map, List.length_map] at this
  exact this
/-- What stands at a place. -/
theorem nl_at {w : World} {lo hi c k : Nat} {A : Option Addr} {D : List Dsc} {L : List (List Nat)} (h : OwnD w lo hi A c D) (hhi : hi ≤ w.heap.size) (hD : lists D = nl L) (hk : k < D.length) :
    ∃ g Ad cd, A = some ⟨g, 0, none⟩ ∧ g < hi ∧ w.cell? ⟨g, k, none⟩ = some (.slice Ad (L.getD k []).length cd) ∧ LN w Ad cd (L.getD k []) := by
  obtain ⟨g, e1, _, g2, _, h1, _⟩ := h.1.at_ (by omega)
  have hkL : k < L.length := by rw [← nl_len hD]; exact hk
  have he : (D[k]).2.2 = ci (L.getD k []) := by
    have h2 : (lists D)[k]? = (nl L)[k]? := by rw [hD]
    unfold lists nl at h2
    rw [List.getElem?_map, List.getElem?_map, List.getElem?_eq_getElem hk, List.getElem?_eq_getElem hkL] at h2
    simp only [Option.map_some, Option.some.injEq] at h2
    rw [h2]; simp [List.getD, hkL]
  have hl : (D[k]).2.2.length = (L.getD k []).length := by rw [he]; unfold ci; rw [List.length_map]
  have ho := h.2.1 D[k] (List.getElem_mem hk)
  rw [hl] at ho
  refine ⟨g, (D[k]).1, (D[k]).2.1, e1, g2, ?_, ⟨(ho.mono (Nat.le_refl _) hhi).rd.congr (fun j hj => ?_)⟩⟩
  · rw [h1 k (by omega)]
    unfold dvs dv
    simp [List.getD, hk]
    rw [hl]; simp [List.getD]
  · rw [he]; unfold ci
    obtain ⟨l, hl⟩ : ∃ l, l = L.getD k [] := ⟨_, rfl⟩
    rw [← hl] at hj ⊢
    simp [List.getD, hj]

theorem one_rd (z : World) (v : Nat) : Rd (z.alloc (Obj.cells #[Value.int .i64 v] 3)) (z.heap.size + 1) (some ⟨z.heap.size, 0, none⟩) 1 1 (fun _ => (v : Int)) := by
  refine ⟨Nat.le_refl _, fun _ => ⟨z.heap.size, 0, rfl, Nat.lt_succ_self _, fun j hj => ?_⟩⟩
  obtain rfl : j = 0 := by omega
  simp [go_sem]

theorem own_snoc {w : World} {lo hi lo' hi' c : Nat} {A : Option Addr} {l : List Nat} {v : Nat} (h : Own w lo hi 3 1 A (l.length + 1) c (thenI l.length (thenI 0 (ni []) (fun j => ((l.getD j 0 : Nat) : Int))) (fun _ => (v : Int)))) (h1 : lo' ≤ lo) (h2 : hi ≤ hi') :
    Own w lo' hi' 3 1 A (ci (l ++ [v])).length c (ii (ci (l ++ [v]))) := by
  have hl : (ci (l ++ [v])).length = l.length + 1 := by unfold ci; simp
  rw [hl]
  refine (h.mono h1 h2).congr (fun j hj => ?_)
  have hj' : j < l.length + 1 := by omega
  unfold thenI ii ci
  by_cases hjl : j < l.length
  · simp [hjl, List.getD, List.getElem?_append]
  · obtain rfl : j = l.length := by omega
    simp [List.getD]
theorem dv_snoc (A : Option Addr) (c : Nat) (l : List Nat) (v : Nat) : dv (A, c, ci (l ++ [v])) = .slice A (l.length + 1) c := by simp [dv, ci]

set_option maxRecDepth 100000 in
set_option maxHeartbeats 3200000 in
theorem l30Orders_s (m : Nat) (w : World) (hm : m ≤ 5) :
    Calls Try.prog 71 #[.int .i64 m] w fun e w' => ∃ A c D, e = .returned (.slice A D.length c) ∧ lists D = nl (ordN m m) ∧ OwnD w' w.heap.size w'.heap.size A c D ∧ Below w.heap.size w w' := by
  obtain ⟨W, hW⟩ : ∃ W : World, W = (w.alloc (Obj.cells #[] 3)).alloc (Obj.cells #[Value.slice (some ⟨w.heap.size, 0, none⟩) 0 0] 22) := ⟨_, rfl⟩
  have HB : Hid (From w W) := by rw [hW]; exact (From.alloc _ _).alloc_ _
  have hz : W.heap.size = w.heap.size + 2 := by rw [hW]; simp
  have HD : Hid (OwnD W w.heap.size W.heap.size (some ⟨w.heap.size + 1, 0, none⟩) 1 [(some ⟨w.heap.size, 0, none⟩, 0, [])]) := by
    refine ⟨.inr ⟨w.heap.size + 1, #[Value.slice (some ⟨w.heap.size, 0, none⟩) 0 0], rfl, by omega, by omega, ?_, Nat.le_refl _, by unfold maxLen; omega, rfl, ?_⟩, ?_, by simp [Apart]⟩
    · rw [hW]
      have := heap_alloc_new (w.alloc (Obj.cells #[] 3)) (Obj.cells #[Value.slice (some ⟨w.heap.size, 0, none⟩) 0 0] 22)
      simpa using this
    · intro j hj
      have : j = 0 := by simp at hj; omega
      subst this; rfl
    · intro d hd
      rw [List.mem_singleton] at hd
      subst hd
      refine .inr ⟨w.heap.size, #[], rfl, Nat.le_refl _, by omega, ?_, Nat.le_refl _, Nat.zero_le _, rfl, fun j hj => absurd hj (by simp)⟩
      rw [hW]
      exact (((Below.refl (w.heap.size + 1) (w.alloc (Obj.cells #[] 3))).alloc (by simp) _).block _ (by omega)).trans (heap_alloc_new w _)
  have HW := Lib.hid hW
  have HZ := Lib.hid hz
  clear hW hz
  go_enter Try.func71, Try.ntmps71
  go_wp2
  rw [← HW.out]
  clear HW
  go_loopw [3, 4] (fun out i wr => ∃ (k : Nat) (A : Option Addr) (c : Nat) (D : List Dsc), k ≤ m ∧ i = .int .i64 k ∧ out = .slice A D.length c ∧ Hid (lists D = nl (ordN m k)) ∧ Hid (OwnD wr w.heap.size wr.heap.size A c D) ∧ Hid (From w wr)) (fun _ i _ => m - (intOf i).toNat)
  case atStart => exact ⟨0, _, 1, _, Nat.zero_le _, rfl, rfl, by rfl, HD, HB⟩
  case round =>
    clear HD HB
    obtain ⟨k, A, c, D, hk, rfl, rfl, hD, HD, HF⟩ := hrel
    by_cases hkm : k < m
    · have i1 : (k : Int) < (m : Int) := by omega
      have HDl := Lib.hid (nl_len hD.out)
      have hDl3 : D.length ≤ 3125 := by
        have h1 := HDl.out
        have h2 := Nat.le_trans (ordN_len m k) (pow5 hm (by omega : k ≤ 5))
        omega
      obtain ⟨W5, hW5⟩ : ∃ W5 : World, W5 = wr.alloc (Obj.cells #[] 22) := ⟨_, rfl⟩
      have hz5 : W5.heap.size = wr.heap.size + 1 := by rw [hW5]; simp
      have HE0 : Hid (OwnD W5 wr.heap.size W5.heap.size (some ⟨wr.heap.size, 0, none⟩) 0 []) := OwnD.none_ _ _ _ _ (Nat.le_refl _) (by omega) (by rw [hW5]; exact heap_alloc_new wr _)
      have HB5 : Hid (Below wr.heap.size wr W5) := by rw [hW5]; exact (Below.refl _ _).alloc (Nat.le_refl _) _
      have HD5 : Hid (OwnD W5 w.heap.size wr.heap.size A c D) := HD.out.keepB HB5.out (Nat.le_refl _)
      have HF5 := Lib.hid (HF.out.keep HB5.out)
      have HW5 := Lib.hid hW5
      have zwr := HF.out.below.size
      clear hW5 hz5
      obtain ⟨wo, hwo⟩ : ∃ wo, wo = wr := ⟨_, rfl⟩
      have HW5 : Hid (W5 = wr.alloc (Obj.cells #[] 22)) := HW5.out
      rw [← hwo] at HE0 HB5 HD HF zwr
      have HWO := Lib.hid hwo
      clear hwo HD5
      go_wp2
      rw [← HW5.out, ← HWO.out]
      clear HW5 HWO
      go_loopw [5, 6] (fun nx i wz => ∃ (j : Nat) (A2 : Option Addr) (c2 : Nat) (E : List Dsc), j ≤ D.length ∧ i = .int .i64 j ∧ nx = .slice A2 E.length c2 ∧ Hid (lists E = nl (orTo m (ordN m k) j 0)) ∧ Hid (OwnD wz wo.heap.size wz.heap.size A2 c2 E) ∧ Hid (Below wo.heap.size wo wz)) (fun _ i _ => D.length - (intOf i).toNat)
      case atStart => exact ⟨0, _, 0, [], Nat.zero_le _, rfl, rfl, by rw [orTo_zero]; rfl, HE0, HB5⟩
      case round =>
        obtain ⟨j, A2, c2, E, hj, rfl, rfl, hE, HE, HBz⟩ := hrel
        by_cases hjl : j < D.length
        · have i2 : (j : Int) < (D.length : Int) := by omega
          have Hjl := Lib.hid hjl
          have hjL : j < (ordN m k).length := by have := HDl.out; omega
          obtain ⟨l, hl⟩ : ∃ l, l = (ordN m k).getD j [] := ⟨_, rfl⟩
          have hlm : l ∈ ordN m k := by rw [hl]; simp [List.getD, hjL]
          have hlk : l.length = k := (mem_ordN.1 hlm).1
          have hl5 : l.length ≤ 5 := by omega
          have Hl := Lib.hid hl
          have HRow := Lib.hid (orTo_row (n := m) hjL)
          clear hl hlm hlk hjL
          go_wp2
          go_loopw [5, 7] (fun nx i wz => ∃ (v : Nat) (A2 : Option Addr) (c2 : Nat) (E : List Dsc), v ≤ m ∧ i = .int .i64 v ∧ nx = .slice A2 E.length c2 ∧ Hid (lists E = nl (orTo m (ordN m k) j v)) ∧ Hid (OwnD wz wo.heap.size wz.heap.size A2 c2 E) ∧ Hid (Below wo.heap.size wo wz)) (fun _ i _ => m - (intOf i).toNat)
          case atStart => exact ⟨0, A2, c2, E, Nat.zero_le _, rfl, rfl, hE, HE, HBz⟩
          case round =>
            clear hE HE HBz
            obtain ⟨v, A2, c2, E, hv, rfl, rfl, hE, HE, HBz⟩ := hrel
            by_cases hvm : v < m
            · have i3 : (v : Int) < (m : Int) := by omega
              have hDz := HD.out.keepB HBz.out (Nat.le_refl _)
              obtain ⟨g, Ad, cd, rfl, hg, q0, hLN⟩ := nl_at hDz HBz.out.size hD.out hjl
              rw [← Hl.out] at q0 hLN
              have HLN := Lib.hid hLN
              have hElen : E.length ≤ 20000 := by rw [nl_len hE.out]; exact orTo_len hm (by omega) hv
              have zz := HBz.out.size
              have hgz : g < wr.heap.size := by omega
              clear hDz hLN
              go_wp2_with fail
              refine (l8Has_s Ad l.length cd l v wr wr.heap.size ⟨rfl, HLN.out.rd⟩ (by omega)).mono ?_
              rintro e w3 ⟨rfl, rfl⟩
              by_cases hm2 : v ∈ l
              · have Hno : Hid (orTo m (ordN m k) j (v + 1) = orTo m (ordN m k) j v) := orTo_no (by rw [← Hl.out]; exact hm2)
                rw [decide_eq_true hm2]
                clear hm2
                go_wp2
                go_roundw
                case rel => exact ⟨v + 1, A2, c2, E, by omega, by go_num, rfl, by rw [Hno.out]; exact hE, HE, HBz⟩
                case measure => simp [intOf]; omega
              · have Hyes : Hid (orTo m (ordN m k) j (v + 1) = orTo m (ordN m k) j v ++ [l ++ [v]]) := by show _ = _; rw [orTo_yes (by rw [← Hl.out]; exact hm2), ← Hl.out]
                rw [decide_eq_false hm2]
                clear hm2
                have HO : Hid (Own (wr.alloc (Obj.cells #[] 3)) wr.heap.size (wr.heap.size + 1) 3 1 (some ⟨wr.heap.size, 0, none⟩) 0 0 (ni [])) :=
                  .inr ⟨wr.heap.size, #[], rfl, Nat.le_refl _, Nat.lt_succ_self _, heap_alloc_new wr _, Nat.le_refl _, by unfold maxLen; omega, rfl, fun j hj => absurd hj (by omega)⟩
                have HR : Hid (Rd (wr.alloc (Obj.cells #[] 3)) wr.heap.size Ad l.length cd (fun j => ((l.getD j 0 : Nat) : Int))) := HLN.out.rd.keep ((Below.refl _ _).alloc (Nat.le_refl _) _) (Nat.le_refl _)
                go_wp2_with (first
                  | (at_builtin; (refine wpList_appendI _ rfl _ _ rfl rfl HO.out rfl HR.out (by simp) (by omega) (by omega) ?_; intro A3 c3 w3 hO3 hb3; rw [Nat.zero_add] at hO3; have HO3 := Lib.hid hO3; have HB3 := Lib.hid (((Below.refl wr.heap.size wr).alloc (Nat.le_refl _) (Obj.cells #[] 3)).trans hb3); clear hO3 hb3))
                  | (at_builtin; (refine wpList_appendI _ rfl _ _ rfl rfl (HO3.out.alloc _) rfl (one_rd w3 v) (by have := HB3.out.size; simp; omega) (by omega) (by omega) ?_; intro A4 c4 w4 hO4 hb4; have HO4 := Lib.hid hO4; have HB4 := Lib.hid hb4; clear hO4 hb4))
                  | (at_builtin; (rw [← dv_snoc A4 c4 l v]; obtain ⟨g4, rfl, hg4, _⟩ := HO4.out.at_ (by omega); have HB5 : Hid (Below wr.heap.size wr w4) := HB3.out.trans ((((Below.refl w3.heap.size w3).alloc (Nat.le_refl _) _).mono HB3.out.size).trans HB4.out); have hE5 := HE.out.keepB HB5.out (Nat.le_refl _); refine wpList_pushD w4 rfl _ _ rfl wo.heap.size w4.heap.size A2 c2 E (hE5.mono (Nat.le_refl _) HB5.out.size) (by have := HB5.out.size; omega) (Nat.le_refl _) (some ⟨g4, 0, none⟩, c4, ci (l ++ [v])) (own_snoc HO4.out zz (Nat.le_refl _)) (hE5.fresh hg4) rfl 1 w4.heap.size rfl rfl (by omega) ?_; intro g5 c5 w5 hO5 hb5)))
                have hO6 : Hid (OwnD w5 wo.heap.size w5.heap.size (some ⟨g5, 0, none⟩) c5 (E ++ [(some ⟨g4, 0, none⟩, c4, ci (l ++ [v]))])) := hO5
                have hB6 : Hid (Below wo.heap.size wo w5) := HBz.out.trans ((HB5.out.mono zz).trans hb5)
                have hE6 : Hid (lists (E ++ [(some ⟨g4, 0, none⟩, c4, ci (l ++ [v]))]) = nl (orTo m (ordN m k) j (v + 1))) := by
                  show _ = _
                  rw [Hyes.out]
                  unfold lists nl
                  rw [List.map_append, List.map_append]
                  have := hE.out
                  unfold lists nl at this
                  rw [this]
                  rfl
                clear hO5 hb5
                go_roundw
                case rel => exact ⟨v + 1, some ⟨g5, 0, none⟩, c5, _, by omega, by go_num, by rw [List.length_append]; rfl, hE6, hO6, hB6⟩
                case measure => simp [intOf]; omega
            · obtain rfl : m = v := by omega
              go_wp2
              go_roundw
              case rel => exact ⟨j + 1, A2, c2, E, by have := Hjl.out; omega, by go_num, rfl, by rw [HRow.out]; exact hE, HE, HBz⟩
              case measure => have := Hjl.out; simp [intOf]; omega
        · obtain rfl : j = D.length := by omega
          have hend : Hid (lists E = nl (ordN m (k + 1))) := by
            have := hE.out
            rw [HDl.out, orTo_all] at this
            exact this
          have HE2 : Hid (OwnD wr w.heap.size wr.heap.size A2 c2 E) := HE.out.mono zwr (Nat.le_refl _)
          have HF2 : Hid (From w wr) := HF.out.keep HBz.out
          go_wp2
          go_roundw
          case rel => exact ⟨k + 1, A2, c2, E, by omega, by go_num, rfl, hend, HE2, HF2⟩
          case measure => simp [intOf]; omega
    · obtain rfl : m = k := by omega
      go_wp2
      go_ret
      exact ⟨A, c, D, rfl, hD.out, HD.out, HF.out.below⟩
end Go.Proofs.Ytnnlmdenffnjbaa
