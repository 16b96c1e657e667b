/-
  Contracts: a list in the other direction: the program's and the reference's.
-/
import Derived.Test.YtppkokgiojcgbaaDoorQzFirst
import Derived.Test.YtppkokgiojcgbaaDoorQzV
import Derived.Test.YtppkokgiojcgbaaDoorQzFillS
import Derived.Test.YtppkokgiojcgbaaDoorQzSet2I
import Derived.Test.YtppkokgiojcgbaaDoorQzGC
import Derived.RegionTactic
import Derived.BigRegion
namespace Go.Proofs.YtppkokgiojcgbaaDoor
open Go.RowKit

/-- What the list is when the first k places have been exchanged with the last k. -/
def swK (l : List Nat) (k j : Nat) : Nat := if j < k ∨ l.length - k ≤ j then l.getD (l.length - 1 - j) 0 else l.getD j 0
theorem swK_zero (l : List Nat) {j : Nat} (hj : j < l.length) : swK l 0 j = l.getD j 0 := by
  unfold swK; rw [if_neg (by omega)]
theorem swK_all {l : List Nat} {k j : Nat} (h : l.length ≤ 2 * k + 1) (hj : j < l.length) : swK l k j = l.reverse.getD j 0 := by
  have e : l.reverse.getD j 0 = l.getD (l.length - 1 - j) 0 := by unfold List.getD; rw [List.getElem?_reverse hj]
  rw [e]
  unfold swK
  split
  · rfl
  · have : l.length - 1 - j = j := by omega
    rw [this]
theorem swK_step {l : List Nat} {k : Nat} (h : 2 * k + 1 < l.length) (j : Nat) (hj : j < l.length) :
    swK l (k + 1) j = if j = l.length - 1 - k then swK l k k else if j = k then swK l k (l.length - 1 - k) else swK l k j := by
  by_cases h1 : j = l.length - 1 - k
  · rw [if_pos h1]
    unfold swK
    rw [if_pos (by omega), if_neg (by omega)]
    congr 1; omega
  · rw [if_neg h1]
    by_cases h2 : j = k
    · rw [if_pos h2]
      unfold swK
      rw [if_pos (by omega), if_neg (by omega)]
      congr 1; omega
    · rw [if_neg h2]
      unfold swK
      by_cases h3 : j < k ∨ l.length - k ≤ j
      · rw [if_pos h3, if_pos (by omega)]
      · rw [if_neg h3, if_neg (by omega)]

set_option maxRecDepth 100000 in
set_option maxHeartbeats 1600000 in
/-- The slice is reversed in place. -/
theorem Reverse_n (g c lo : Nat) (l : List Nat) (w : World) (h : ON lo w (some ⟨g, 0, none⟩) c l) (hlen : l.length ≤ 1048576) (h0 : 0 < l.length) :
    Calls Tryd.prog 59 #[.slice (some ⟨g, 0, none⟩) l.length c] w fun e w' => e = .returned (.tuple #[]) ∧ ON lo w' (some ⟨g, 0, none⟩) c l.reverse ∧ Below lo w w' := by
  have H1 : Hid (Own w lo w.heap.size 3 1 (some ⟨g, 0, none⟩) l.length c (fun t => .int .i64 (swK l 0 t : Nat))) :=
    h.own.congr (fun j hj => by rw [swK_zero l (by omega)]; rfl)
  have z0 : lo ≤ w.heap.size := by
    obtain ⟨g', e1, hg1, _, hg3, _⟩ := h.own.at_ (by omega)
    omega
  clear h
  go_enter Tryd.func59, Tryd.ntmps59
  go_wp2
  go_loopw [2, 3] (fun i jv wr => ∃ k j : Nat, Hid (j + k + 1 = l.length) ∧ k ≤ l.length ∧ i = .int .i64 k ∧ jv = .int .i64 j ∧ Hid (Own wr lo wr.heap.size 3 1 (some ⟨g, 0, none⟩) l.length c (fun t => .int .i64 (swK l k t : Nat))) ∧ Hid (Below lo w wr)) (fun i _ _ => l.length - (intOf i).toNat)
  case atStart => exact ⟨0, l.length - 1, (by show _ = _; omega), Nat.zero_le _, rfl, by congr 1; omega, H1, Below.refl _ _⟩
  case round =>
    clear H1
    obtain ⟨k, j, hjk, hk, rfl, rfl, HO, HR⟩ := hrel
    have hjk1 : j + k + 1 ≤ l.length := by rw [hjk.out]; exact Nat.le_refl _
    by_cases hlt : k < j
    · obtain ⟨g', e1, hg1, hg2, hg3, hc, hf⟩ := HO.out.at_ (by omega)
      simp only [Option.some.injEq, Addr.mk.injEq, and_true] at e1
      subst e1
      have q0 := hc k (by omega)
      have q1 := hc j (by omega)
      have f0 := hf k
      have f1 := hf j
      have i1 : (k : Int) < (j : Int) := by omega
      have i2 : (j : Int) < (l.length : Int) := by omega
      have i3 : (k : Int) < (l.length : Int) := by omega
      have ne1 : (j = k) = False := by simp; omega
      have ne2 : (k = j) = False := by simp; omega
      have Hst : Hid (∀ t, t < l.length → swK l (k + 1) t = if t = j then swK l k k else if t = k then swK l k j else swK l k t) := fun t ht => by
        have e : l.length - 1 - k = j := by have := hjk.out; omega
        rw [swK_step (by have := hjk.out; omega) t ht, e]
      obtain ⟨y0, hy0⟩ : ∃ y, y = swK l k k := ⟨_, rfl⟩
      obtain ⟨y1, hy1⟩ : ∃ y, y = swK l k j := ⟨_, rfl⟩
      rw [← hy0] at q0 Hst
      rw [← hy1] at q1 Hst
      clear hy0 hy1 hc hf
      go_wp2
      go_region
      have HO5 : Hid (Own ((wr.setCell ⟨g, k, none⟩ (.int .i64 (y1 : Int))).setCell ⟨g, j, none⟩ (.int .i64 (y0 : Int))).drew lo ((wr.setCell ⟨g, k, none⟩ (.int .i64 (y1 : Int))).setCell ⟨g, j, none⟩ (.int .i64 (y0 : Int))).drew.heap.size 3 1 (some ⟨g, 0, none⟩) l.length c (fun t => .int .i64 (swK l (k + 1) t : Nat))) := by
        refine ((((HO.out.set_ k _).set_ j _).drew).congr (fun t ht => ?_)).mono (Nat.le_refl _) ?_
        · rw [Hst.out t (by omega)]
          by_cases h1 : t = j
          · rw [if_pos h1, if_pos h1]
          · rw [if_neg h1, if_neg h1]
            by_cases h2 : t = k
            · rw [if_pos h2, if_pos h2]
            · rw [if_neg h2, if_neg h2]
        · show wr.heap.size ≤ ((wr.setCell _ _).setCell _ _).heap.size
          simp [World.setCell]
      have HR5 : Hid (Below lo w ((wr.setCell ⟨g, k, none⟩ (.int .i64 (y1 : Int))).setCell ⟨g, j, none⟩ (.int .i64 (y0 : Int))).drew) := ((HR.out.setCell (p := ⟨g, k, none⟩) hg1 _).setCell (p := ⟨g, j, none⟩) hg1 _).drew
      have Hjk5 : Hid ((j - 1) + (k + 1) + 1 = l.length) := by show _ = _; have := hjk.out; omega
      have ej : ((j : Int) - 1) = ((j - 1 : Nat) : Int) := by omega
      have Hej := Lib.hid ej
      clear q0 q1 f0 f1 ne1 ne2 ej
      go_wp2
      go_roundw
      case rel => exact ⟨k + 1, j - 1, Hjk5, by omega, by go_num, by rw [Hej.out], HO5, HR5⟩
      case measure => simp [intOf]; omega
    · have i1 : (j : Int) ≤ (k : Int) := by omega
      have HO5 : Hid (ON lo wr (some ⟨g, 0, none⟩) c l.reverse) := ⟨by
        rw [List.length_reverse]
        refine HO.out.congr (fun t ht => ?_)
        rw [swK_all (by have := hjk.out; omega) (by omega)]; rfl⟩
      go_wp2
      go_end0
      exact ⟨rfl, HO5.out, HR.out⟩

set_option maxRecDepth 100000 in
set_option maxHeartbeats 1000000 in
theorem clone_z (A : Option Addr) (c : Nat) (l : List Nat) (w : World) (h : LN w A c l) (h0 : l ≠ []) (hlen : l.length ≤ 1048576) :
    Calls Tryd.prog 58 #[.slice A l.length c] w fun e w' => ∃ g c', e = .returned (.slice (some ⟨g, 0, none⟩) l.length c') ∧ ON w.heap.size w' (some ⟨g, 0, none⟩) c' l ∧ Below w.heap.size w w' := by
  have hpos : 0 < l.length := List.length_pos_iff.2 h0
  obtain ⟨b, o, rfl⟩ := h.addr hpos
  have HO : Hid (Own (w.alloc (Obj.cells #[] 3)) w.heap.size (w.heap.size + 1) 3 1 (some ⟨w.heap.size, 0, none⟩) 0 0 (ni [])) :=
    .inr ⟨w.heap.size, #[], rfl, Nat.le_refl _, Nat.lt_succ_self _, heap_alloc_new w _, Nat.le_refl _, by unfold maxLen; omega, rfl, fun j hj => absurd hj (by omega)⟩
  have HR : Hid (Rd (w.alloc (Obj.cells #[] 3)) w.heap.size (some ⟨b, o, none⟩) l.length c (fun j => ((l.getD j 0 : Nat) : Int))) := h.rd.keep ((Below.refl _ _).alloc (Nat.le_refl _) _) (Nat.le_refl _)
  have H0 := Lib.hid hpos
  clear h h0 hpos
  have he : ∀ w : World, (binOp .eql 22 (.slice (some ⟨b, o, none⟩) l.length c) (.slice none 0 0)).run Tryd.prog w = .ok (.bool false) w := fun _ => rfl
  go_enter Tryd.func58, Tryd.ntmps58
  go_wp2_with (first | (at_builtin; (refine wpList_appendI _ rfl _ _ rfl rfl HO.out rfl HR.out (by simp) (by omega) (by omega) ?_; intro A' c' w1 hO hb)))
  rw [Nat.zero_add] at hO
  have hO2 := hO.congr (y := ni l) (fun j hj => by unfold thenI ni; simp)
  obtain ⟨g, rfl, _⟩ := hO2.at_ H0.out
  have HO2 : Hid (ON w.heap.size w1 (some ⟨g, 0, none⟩) c' l) := ⟨hO2⟩
  have HB : Hid (Below w.heap.size w w1) := ((Below.refl _ _).alloc (Nat.le_refl _) _).trans hb
  clear hO hO2 hb
  go_wp2
  go_ret
  exact ⟨g, c', rfl, HO2.out, HB.out⟩

theorem reversed_i (A : Option Addr) (c : Nat) (l : List Nat) (w : World) (h : LN w A c l) (h0 : l ≠ []) (hlen : l.length ≤ 1048576) :
    Calls Tryd.prog 47 #[.slice A l.length c] w fun e w' => ∃ A' c', e = .returned (.slice A' l.length c') ∧ ON w.heap.size w' A' c' l.reverse ∧ Below w.heap.size w w' := by
  have hpos := List.length_pos_iff.2 h0
  have K := Lib.hid (clone_z A c l w h h0 hlen)
  clear h h0
  go_enter Tryd.func47, Tryd.ntmps47
  go_wp2_with fail
  refine K.out.mono ?_
  rintro e w1 ⟨g, c', rfl, hO, hb1⟩
  have HO := Lib.hid hO
  have HB := Lib.hid hb1
  clear hO hb1
  go_wp2_with fail
  refine (Reverse_n g c' w.heap.size l w1 HO.out hlen hpos).mono ?_
  rintro e w2 ⟨rfl, hO2, hb2⟩
  have HO2 := Lib.hid hO2
  have HB2 : Hid (Below w.heap.size w w2) := HB.out.trans hb2
  clear hO2 hb2
  go_wp2
  go_ret
  exact ⟨_, c', rfl, HO2.out, HB2.out⟩

set_option maxHeartbeats 1000000 in
theorem l6Reverse_s (A : Option Addr) (c : Nat) (l : List Nat) (w : World) (h : LN w A c l) (h0 : l ≠ []) (hlen : l.length ≤ 1048576) :
    Calls Tryd.prog 34 #[.slice A l.length c] w fun e w' => ∃ A' c', e = .returned (.slice A' l.length c') ∧ ON w.heap.size w' A' c' l.reverse ∧ Below w.heap.size w w' := by
  have hpos := List.length_pos_iff.2 h0
  obtain ⟨b, o, rfl⟩ := h.addr hpos
  obtain ⟨W, hW⟩ : ∃ W : World, W = w.alloc (Obj.cells #[] 3) := ⟨_, rfl⟩
  have HB : Hid (Below w.heap.size w W) := by rw [hW]; exact (Below.refl _ _).alloc (Nat.le_refl _) _
  have HO : Hid (ON w.heap.size W (some ⟨w.heap.size, 0, none⟩) 0 (l.reverse.take 0)) := by rw [hW]; exact ON.nil w
  have HL := Lib.hid h
  have HW := Lib.hid hW
  clear hW h h0
  go_enter Tryd.func34, Tryd.ntmps34
  go_wp2
  rw [← HW.out]
  clear HW
  go_loopw [3, 4] (fun s i wr => ∃ (k : Nat) (A' : Option Addr) (c' : Nat), k ≤ l.length ∧ i = .int .i64 ((l.length : Int) - 1 - k) ∧ s = .slice A' (l.reverse.take k).length c' ∧ Hid (ON w.heap.size wr A' c' (l.reverse.take k)) ∧ Hid (Below w.heap.size w wr)) (fun s _ _ => match s with | .slice _ n _ => l.length - n | _ => 0)
  case atStart => exact ⟨0, _, 0, Nat.zero_le _, by congr 1; omega, rfl, HO, HB⟩
  case round =>
    clear HO HB
    obtain ⟨k, A', c', hk, rfl, rfl, HO, HB⟩ := hrel
    have hlen2 : (l.reverse.take k).length ≤ k := List.length_take_le ..
    have hlen3 : k ≤ (l.reverse.take k).length := by rw [List.length_take, List.length_reverse]; omega
    have zr := HB.out.size
    by_cases hlt : k < l.length
    · have hkr : k < l.reverse.length := by simpa using hlt
      have Hst : Hid (l.reverse.take (k + 1) = l.reverse.take k ++ [l.reverse[k]]) := List.take_succ_eq_append_getElem hkr
      have hv : l.reverse[k] = l[l.length - 1 - k]'(by omega) := List.getElem_reverse _
      have q0 := (HL.out.keep HB.out).at (j := l.length - 1 - k) (by omega)
      rw [← hv] at q0
      obtain ⟨u, hu⟩ : ∃ u, u = l.reverse[k] := ⟨_, rfl⟩
      rw [← hu] at q0 Hst
      obtain ⟨T, hT⟩ : ∃ T, T = l.reverse.take k := ⟨_, rfl⟩
      rw [← hT] at Hst HO hlen2 hlen3 ⊢
      obtain ⟨j, hj⟩ : ∃ j : Nat, j = l.length - 1 - k := ⟨_, rfl⟩
      rw [← hj] at q0
      have hji : (l.length : Int) - 1 - k = (j : Int) := by omega
      have hjl : (j : Int) < (l.length : Int) := by omega
      have Hj2 : Hid ((j : Int) - 1 = (l.length : Int) - 1 - (k + 1 : Nat)) := by show _ = _; omega
      rw [hji]
      clear hv hu hT hj hji hkr
      go_wp2_with (first | (at_builtin; (refine wpList_pushN wr rfl _ _ rfl w.heap.size wr.heap.size A' c' T HO.out.own (by omega) u rfl 1 wr.heap.size rfl rfl (by omega) ?_; intro g cap w4 hO4 hb4)))
      have H4 : Hid (ON w.heap.size w4 (some ⟨g, 0, none⟩) cap (T ++ [u])) := ⟨by rw [List.length_append]; exact hO4⟩
      have H5 : Hid (Below w.heap.size w w4) := HB.out.trans hb4
      clear hO4 hb4 HO HB q0
      go_wp2
      go_roundw
      case rel => exact ⟨k + 1, some ⟨g, 0, none⟩, cap, by omega, by rw [Hj2.out], by rw [Hst.out, List.length_append]; rfl, by rw [Hst.out]; exact H4, H5⟩
      case measure => simp; omega
    · have hkl : k = l.length := by omega
      have hji : (l.length : Int) - 1 - k = -1 := by omega
      have hT : l.reverse.take k = l.reverse := by rw [hkl, ← List.length_reverse, List.take_length]
      have Hlr : Hid (l.reverse.length = l.length) := List.length_reverse
      rw [hji, hT]
      rw [hT] at HO
      clear hkl hji hT hlen2 hlen3
      go_wp2
      go_ret
      exact ⟨A', c', by rw [← Hlr.out]; rfl, HO.out, HB.out⟩
end Go.Proofs.YtppkokgiojcgbaaDoor
