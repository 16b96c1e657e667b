/-
  Several texts in one.
-/
import Derived.Test.YtppkokgiojcgbaaGreatDoorQxLexI
import Derived.RegionTactic
import Derived.BigRegion
import Derived.Test.YtppkokgiojcgbaaGreatDoorQxGB
/-
-/
namespace Go.Proofs.YtppkokgiojcgbaaGreatDoor
open Go.RowKit
def swK (l : List Nat) (k j : Nat) : Nat := if j < k ∨ l.length - k ≤ j then l.getD (l.length - 1 - j) 0 else l.getD j 0
theorem swK_zero (l : List Nat) {j : Nat} (hj : j < l.length) : swK l 0 j = l.getD j 0 := by
 unfold swK; rw [if_neg (by omega)]
theorem swK_all {l : List Nat} {k j : Nat} (h : l.length ≤ 2 * k + 1) (hj : j < l.length) : swK l k j = l.reverse.getD j 0 := by
 have e : l.reverse.getD j 0 = l.getD (l.length - 1 - j) 0 := by unfold List.getD; rw [List.getElem?_reverse hj]
 rw [e]
 unfold swK
 split
 ·rfl
 ·have : l.length - 1 - j = j := by omega
  rw [this]
theorem swK_step {l : List Nat} {k : Nat} (h : 2 * k + 1 < l.length) (j : Nat) (hj : j < l.length) :
 swK l (k + 1) j = if j = l.length - 1 - k then swK l k k else if j = k then swK l k (l.length - 1 - k) else swK l k j := by
 by_cases h1 : j = l.length - 1 - k
 ·rw [if_pos h1]
  unfold swK
  rw [if_pos (by omega), if_neg (by omega)]
  congr 1; omega
 ·rw [if_neg h1]
  by_cases h2 : j = k
  ·rw [if_pos h2]
   unfold swK
   rw [if_pos (by omega), if_neg (by omega)]
   congr 1; omega
  ·rw [if_neg h2]
   unfold swK
   by_cases h3 : j < k ∨ l.length - k ≤ j
   ·rw [if_pos h3, if_pos (by omega)]
   ·rw [if_neg h3, if_neg (by omega)]
set_option maxRecDepth 100000 in
set_option maxHeartbeats 1600000 in
theorem Reverse_n (g c lo : Nat) (l : List Nat) (w : World) (h : ON lo w (some ⟨g, 0, none⟩) c l) (hlen : l.length ≤ 1048576) (h0 : 0 < l.length) :
 Calls Tryz.prog 165 #[.slice (some ⟨g, 0, none⟩) l.length c] w fun e w' => e = .returned (.tuple #[]) ∧ ON lo w' (some ⟨g, 0, none⟩) c l.reverse ∧ Below lo w w' := by
 have H1 : Hid (Own w lo w.heap.size 3 1 (some ⟨g, 0, none⟩) l.length c (fun t => .int .i64 (swK l 0 t : Nat))) :=
  h.own.congr (fun j hj => by rw [swK_zero l (by omega)]; rfl)
 have z0 : lo ≤ w.heap.size := by
  obtain ⟨g', e1, hg1, _, hg3, _⟩ := h.own.at_ (by omega)
  omega
 clear h
 go_enter Tryz.func165, Tryz.ntmps165
 go_wp2
 go_loopw [2, 3] (fun i jv wr => ∃ k j : Nat, Hid (j + k + 1 = l.length) ∧ k ≤ l.length ∧ i = .int .i64 k ∧ jv = .int .i64 j ∧ Hid (Own wr lo wr.heap.size 3 1 (some ⟨g, 0, none⟩) l.length c (fun t => .int .i64 (swK l k t : Nat))) ∧ Hid (Below lo w wr)) (fun i _ _ => l.length - (intOf i).toNat)
 case atStart => exact ⟨0, l.length - 1, (by show _ = _; omega), Nat.zero_le _, rfl, by congr 1; omega, H1, Below.refl _ _⟩
 case round =>
  clear H1
  obtain ⟨k, j, hjk, hk, rfl, rfl, HO, HR⟩ := hrel
  have hjk1 : j + k + 1 ≤ l.length := by rw [hjk.out]; exact Nat.le_refl _
  by_cases hlt : k < j
  ·obtain ⟨g', e1, hg1, hg2, hg3, hc, hf⟩ := HO.out.at_ (by omega)
   simp only [Option.some.injEq, Addr.mk.injEq, and_true] at e1
   subst e1
   have q0 := hc k (by omega)
   have q1 := hc j (by omega)
   have f0 := hf k
   have f1 := hf j
   have i1 : (k : Int) < (j : Int) := by omega
   have i2 : (j : Int) < (l.length : Int) := by omega
   have i3 : (k : Int) < (l.length : Int) := by omega
   have ne1 : (j = k) = False := by simp; omega
   have ne2 : (k = j) = False := by simp; omega
   have Hst : Hid (∀ t, t < l.length → swK l (k + 1) t = if t = j then swK l k k else if t = k then swK l k j else swK l k t) := fun t ht => by
    have e : l.length - 1 - k = j := by have := hjk.out; omega
    rw [swK_step (by have := hjk.out; omega) t ht, e]
   obtain ⟨y0, hy0⟩ : ∃ y, y = swK l k k := ⟨_, rfl⟩
   obtain ⟨y1, hy1⟩ : ∃ y, y = swK l k j := ⟨_, rfl⟩
   rw [← hy0] at q0 Hst
   rw [← hy1] at q1 Hst
   clear hy0 hy1 hc hf
   go_wp2
   go_region
   have HO5 : Hid (Own ((wr.setCell ⟨g, k, none⟩ (.int .i64 (y1 : Int))).setCell ⟨g, j, none⟩ (.int .i64 (y0 : Int))).drew lo ((wr.setCell ⟨g, k, none⟩ (.int .i64 (y1 : Int))).setCell ⟨g, j, none⟩ (.int .i64 (y0 : Int))).drew.heap.size 3 1 (some ⟨g, 0, none⟩) l.length c (fun t => .int .i64 (swK l (k + 1) t : Nat))) := by
    refine ((((HO.out.set_ k _).set_ j _).drew).congr (fun t ht => ?_)).mono (Nat.le_refl _) ?_
    ·rw [Hst.out t (by omega)]
     by_cases h1 : t = j
     ·rw [if_pos h1, if_pos h1]
     ·rw [if_neg h1, if_neg h1]
      by_cases h2 : t = k
      ·rw [if_pos h2, if_pos h2]
      ·rw [if_neg h2, if_neg h2]
    ·show wr.heap.size ≤ ((wr.setCell _ _).setCell _ _).heap.size
     simp [World.setCell]
   have HR5 : Hid (Below lo w ((wr.setCell ⟨g, k, none⟩ (.int .i64 (y1 : Int))).setCell ⟨g, j, none⟩ (.int .i64 (y0 : Int))).drew) := ((HR.out.setCell (p := ⟨g, k, none⟩) hg1 _).setCell (p := ⟨g, j, none⟩) hg1 _).drew
   have Hjk5 : Hid ((j - 1) + (k + 1) + 1 = l.length) := by show _ = _; have := hjk.out; omega
   have ej : ((j : Int) - 1) = ((j - 1 : Nat) : Int) := by omega
   have Hej := Lib.hid ej
   clear q0 q1 f0 f1 ne1 ne2 ej
   go_wp2
   go_roundw
   case rel => exact ⟨k + 1, j - 1, Hjk5, by omega, by go_num, by rw [Hej.out], HO5, HR5⟩
   case measure => simp [intOf]; omega
  ·have i1 : (j : Int) ≤ (k : Int) := by omega
   have HO5 : Hid (ON lo wr (some ⟨g, 0, none⟩) c l.reverse) := ⟨by
    rw [List.length_reverse]
    refine HO.out.congr (fun t ht => ?_)
    rw [swK_all (by have := hjk.out; omega) (by omega)]; rfl⟩
   go_wp2
   go_end0
   exact ⟨rfl, HO5.out, HR.out⟩
set_option maxRecDepth 100000 in
set_option maxHeartbeats 1000000 in
theorem clone_z (A : Option Addr) (c : Nat) (l : List Nat) (w : World) (h : LN w A c l) (h0 : l ≠ []) (hlen : l.length ≤ 1048576) :
 Calls Tryz.prog 164 #[.slice A l.length c] w fun e w' => ∃ g c', e = .returned (.slice (some ⟨g, 0, none⟩) l.length c') ∧ ON w.heap.size w' (some ⟨g, 0, none⟩) c' l ∧ Below w.heap.size w w' := by
 have hpos : 0 < l.length := List.length_pos_iff.2 h0
 obtain ⟨b, o, rfl⟩ := h.addr hpos
 have HO : Hid (Own (w.alloc (Obj.cells #[] 3)) w.heap.size (w.heap.size + 1) 3 1 (some ⟨w.heap.size, 0, none⟩) 0 0 (ni [])) :=
  .inr ⟨w.heap.size, #[], rfl, Nat.le_refl _, Nat.lt_succ_self _, heap_alloc_new w _, Nat.le_refl _, by unfold maxLen; omega, rfl, fun j hj => absurd hj (by omega)⟩
 have HR : Hid (Rd (w.alloc (Obj.cells #[] 3)) w.heap.size (some ⟨b, o, none⟩) l.length c (fun j => ((l.getD j 0 : Nat) : Int))) := h.rd.keep ((Below.refl _ _).alloc (Nat.le_refl _) _) (Nat.le_refl _)
 have H0 := Lib.hid hpos
 clear h h0 hpos
 have he : ∀ w : World, (binOp .eql 22 (.slice (some ⟨b, o, none⟩) l.length c) (.slice none 0 0)).run Tryz.prog w = .ok (.bool false) w := fun _ => rfl
 go_enter Tryz.func164, Tryz.ntmps164
 go_wp2_with (first | (at_builtin; (refine wpList_appendI _ rfl _ _ rfl rfl HO.out rfl HR.out (by simp) (by omega) (by omega) ?_; intro A' c' w1 hO hb)))
 rw [Nat.zero_add] at hO
 have hO2 := hO.congr (y := ni l) (fun j hj => by unfold thenI ni; simp)
 obtain ⟨g, rfl, _⟩ := hO2.at_ H0.out
 have HO2 : Hid (ON w.heap.size w1 (some ⟨g, 0, none⟩) c' l) := ⟨hO2⟩
 have HB : Hid (Below w.heap.size w w1) := ((Below.refl _ _).alloc (Nat.le_refl _) _).trans hb
 clear hO hO2 hb
 go_wp2
 go_ret
 exact ⟨g, c', rfl, HO2.out, HB.out⟩
theorem reversed_i (A : Option Addr) (c : Nat) (l : List Nat) (w : World) (h : LN w A c l) (h0 : l ≠ []) (hlen : l.length ≤ 1048576) :
 Calls Tryz.prog 109 #[.slice A l.length c] w fun e w' => ∃ A' c', e = .returned (.slice A' l.length c') ∧ ON w.heap.size w' A' c' l.reverse ∧ Below w.heap.size w w' := by
 have hpos := List.length_pos_iff.2 h0
 have K := Lib.hid (clone_z A c l w h h0 hlen)
 clear h h0
 go_enter Tryz.func109, Tryz.ntmps109
 go_wp2_with fail
 refine K.out.mono ?_
 rintro e w1 ⟨g, c', rfl, hO, hb1⟩
 have HO := Lib.hid hO
 have HB := Lib.hid hb1
 clear hO hb1
 go_wp2_with fail
 refine (Reverse_n g c' w.heap.size l w1 HO.out hlen hpos).mono ?_
 rintro e w2 ⟨rfl, hO2, hb2⟩
 have HO2 := Lib.hid hO2
 have HB2 : Hid (Below w.heap.size w w2) := HB.out.trans hb2
 clear hO2 hb2
 go_wp2
 go_ret
 exact ⟨_, c', rfl, HO2.out, HB2.out⟩
set_option maxHeartbeats 1000000 in
theorem l6Reverse_s (A : Option Addr) (c : Nat) (l : List Nat) (w : World) (h : LN w A c l) (h0 : l ≠ []) (hlen : l.length ≤ 1048576) :
 Calls Tryz.prog 99 #[.slice A l.length c] w fun e w' => ∃ A' c', e = .returned (.slice A' l.length c') ∧ ON w.heap.size w' A' c' l.reverse ∧ Below w.heap.size w w' := by
 have hpos := List.length_pos_iff.2 h0
 obtain ⟨b, o, rfl⟩ := h.addr hpos
 obtain ⟨W, hW⟩ : ∃ W : World, W = w.alloc (Obj.cells #[] 3) := ⟨_, rfl⟩
 have HB : Hid (Below w.heap.size w W) := by rw [hW]; exact (Below.refl _ _).alloc (Nat.le_refl _) _
 have HO : Hid (ON w.heap.size W (some ⟨w.heap.size, 0, none⟩) 0 (l.reverse.take 0)) := by rw [hW]; exact ON.nil w
 have HL := Lib.hid h
 have HW := Lib.hid hW
 clear hW h h0
 go_enter Tryz.func99, Tryz.ntmps99
 go_wp2
 rw [← HW.out]
 clear HW
 go_loopw [3, 4] (fun s i wr => ∃ (k : Nat) (A' : Option Addr) (c' : Nat), k ≤ l.length ∧ i = .int .i64 ((l.length : Int) - 1 - k) ∧ s = .slice A' (l.reverse.take k).length c' ∧ Hid (ON w.heap.size wr A' c' (l.reverse.take k)) ∧ Hid (Below w.heap.size w wr)) (fun s _ _ => match s with | .slice _ n _ => l.length - n | _ => 0)
 case atStart => exact ⟨0, _, 0, Nat.zero_le _, by congr 1; omega, rfl, HO, HB⟩
 case round =>
  clear HO HB
  obtain ⟨k, A', c', hk, rfl, rfl, HO, HB⟩ := hrel
  have hlen2 : (l.reverse.take k).length ≤ k := List.length_take_le ..
  have hlen3 : k ≤ (l.reverse.take k).length := by rw [List.length_take, List.length_reverse]; omega
  have zr := HB.out.size
  by_cases hlt : k < l.length
  ·have hkr : k < l.reverse.length := by simpa using hlt
   have Hst : Hid (l.reverse.take (k + 1) = l.reverse.take k ++ [l.reverse[k]]) := List.take_succ_eq_append_getElem hkr
   have hv : l.reverse[k] = l[l.length - 1 - k]'(by omega) := List.getElem_reverse _
   have q0 := (HL.out.keep HB.out).at (j := l.length - 1 - k) (by omega)
   rw [← hv] at q0
   obtain ⟨u, hu⟩ : ∃ u, u = l.reverse[k] := ⟨_, rfl⟩
   rw [← hu] at q0 Hst
   obtain ⟨T, hT⟩ : ∃ T, T = l.reverse.take k := ⟨_, rfl⟩
   rw [← hT] at Hst HO hlen2 hlen3 ⊢
   obtain ⟨j, hj⟩ : ∃ j : Nat, j = l.length - 1 - k := ⟨_, rfl⟩
   rw [← hj] at q0
   have hji : (l.length : Int) - 1 - k = (j : Int) := by omega
   have hjl : (j : Int) < (l.length : Int) := by omega
   have Hj2 : Hid ((j : Int) - 1 = (l.length : Int) - 1 - (k + 1 : Nat)) := by show _ = _; omega
   rw [hji]
   clear hv hu hT hj hji hkr
   go_wp2_with (first | (at_builtin; (refine wpList_pushN wr rfl _ _ rfl w.heap.size wr.heap.size A' c' T HO.out.own (by omega) u rfl 1 wr.heap.size rfl rfl (by omega) ?_; intro g cap w4 hO4 hb4)))
   have H4 : Hid (ON w.heap.size w4 (some ⟨g, 0, none⟩) cap (T ++ [u])) := ⟨by rw [List.length_append]; exact hO4⟩
   have H5 : Hid (Below w.heap.size w w4) := HB.out.trans hb4
   clear hO4 hb4 HO HB q0
   go_wp2
   go_roundw
   case rel => exact ⟨k + 1, some ⟨g, 0, none⟩, cap, by omega, by rw [Hj2.out], by rw [Hst.out, List.length_append]; rfl, by rw [Hst.out]; exact H4, H5⟩
   case measure => simp; omega
  ·have hkl : k = l.length := by omega
   have hji : (l.length : Int) - 1 - k = -1 := by omega
   have hT : l.reverse.take k = l.reverse := by rw [hkl, ← List.length_reverse, List.take_length]
   have Hlr : Hid (l.reverse.length = l.length) := List.length_reverse
   rw [hji, hT]
   rw [hT] at HO
   clear hkl hji hT hlen2 hlen3
   go_wp2
   go_ret
   exact ⟨A', c', by rw [← Hlr.out]; rfl, HO.out, HB.out⟩
end Go.Proofs.YtppkokgiojcgbaaGreatDoor

/-
-/
namespace Go.Proofs.YtppkokgiojcgbaaGreatDoor
open Go.RowKit
theorem info_bool : (Tryz.prog.info? 4).map (fun i => (i.zero, i.size, i.bytes)) = some (some (.bool false), 1, 1) := by kernel_rfl
def thenB (n : Nat) (x y : Nat → Value) : Nat → Value := fun j => if j < n then x j else y (j - n)
theorem run_appendB (w : World) (ty : TypeId) {lo hi B n c m c2 : Nat} {A A2 : Option Addr} {x y : Nat → Value} (h : Own w lo hi 4 1 A n c x) (hr : RdV w B A2 m c2 y) (hy : ∀ k, (y k).oneCell' = true) (hlo : lo ≤ w.heap.size) (hn : n ≤ 1073741824) (hm : m ≤ 1073741824) :
 ∃ A' c' w', (Builtin.append_ #[51, 51] ty #[.slice A n c, .slice A2 m c2]).run Tryz.prog w = .ok (.slice A' (n + m) c') w' ∧ Own w' lo w'.heap.size 4 1 A' (n + m) c' (thenB n x y) ∧ Below lo w w' ∧ ((Value.slice A' (n + m) c').ownBlock = (Value.slice A n c).ownBlock ∨ (Value.slice A' (n + m) c').ownBlock = some w.heap.size) ∧ w.grownBy w' (Value.slice A n c).ownBlock := by
 obtain ⟨i, hi', hzz⟩ := Option.map_eq_some_iff.1 info_bool
 simp only [Prod.mk.injEq] at hzz
 obtain ⟨hz, hsize, hbytes⟩ := hzz
 have main : ∀ v' w', w'.ownsRow lo 4 1 v' (n + m) ((List.range (n * 1)).map x ++ (List.range m).map y) → w.grownBy w' (Value.slice A n c).ownBlock →
  ∃ A' c', v' = .slice A' (n + m) c' ∧ Own w' lo w'.heap.size 4 1 A' (n + m) c' (thenB n x y) ∧ Below lo w w' := by
  intro v' w' hrow hg
  obtain ⟨A', c', rfl⟩ := row_form hrow
  refine ⟨A', c', rfl, Own.of_row hrow (fun j hj => ?_), (Below.refl _ _).grown hg hlo (fun k hk => (h.block k hk).1)⟩
  rw [List.getElem?_append]
  simp only [List.length_map, List.length_range, Nat.mul_one]
  unfold thenB
  by_cases hj2 : j < n
  ·simp [hj2]
  ·rw [if_neg hj2, if_neg hj2, List.getElem?_map, List.getElem?_range (by omega)]
   rfl
 rcases A2 with _ | ad
 ·have hm0 : m = 0 := by
   rcases Nat.eq_zero_or_pos m with h0 | h0
   ·exact h0
   ·obtain ⟨b, o, he, _⟩ := hr.2 h0
    cases he
  subst hm0
  refine ⟨A, c, w, ?_, ?_, Below.refl _ _, .inl rfl, World.grownBy.refl w _⟩
  ·rcases h with ⟨rfl, rfl, rfl⟩ | ⟨g, cur, rfl, _, _, _, hnc, _⟩
   ·simp [Builtin.append_, run_underlying Tryz.underlying51, sizeOf, typeInfo, hi', Builtin.lenOf, Builtin.firstCells]
   ·simp [Builtin.append_, run_underlying Tryz.underlying51, sizeOf, typeInfo, hi', Builtin.lenOf, Builtin.firstCells, hnc, storeCells]
  ·exact (h.lt.mono (Nat.le_refl _) (Nat.min_le_right _ _)).congr (fun j hj => by unfold thenB; rw [if_pos (by omega)])
 ·have hcells : ∀ (j : Nat) (u : Value), ((List.range m).map y)[j]? = some u → w.cell? (ad.add j) = some u := by
   intro j u hu
   have hj : j < m := by
    have := (List.getElem?_eq_some_iff.1 hu).1
    simpa using this
   obtain ⟨b, o, he, _, hc⟩ := hr.2 (by omega)
   simp only [Option.some.injEq] at he
   subst he
   have hadd : (⟨b, o, none⟩ : Addr).add j = ⟨b, o + j, none⟩ := by unfold Addr.add; split <;> simp_all
   rw [hadd, hc j hj]
   simpa [hj] using hu
  obtain ⟨v', w', hrun, h2, h3, _, h5⟩ := run_append_own_at (P := Tryz.prog) w lo 51 ty 4 i _ 1 1 Tryz.underlying51 hi' hz hsize hbytes rfl (by omega) _ n _ h.row ad m c2 _ (by simp) hcells (by
   intro u hu
   obtain ⟨j, _, rfl⟩ := List.mem_map.1 hu
   exact hy j) (by unfold maxLen; omega) (by omega) hlo
  obtain ⟨A', c', rfl, hO, hB⟩ := main v' w' h2 h3
  exact ⟨A', c', w', hrun, hO, hB, h5, h3⟩
section
variable (w : World) {ops : Array Oper} {rest : List Oper} {o : Oper} {a : Act} {K : Act → World → Prop} {Q : Exit → Act → World → Prop} {E : Prop}
 {lo hi B n c m c2 : Nat} {A A2 : Option Addr} {x y : Nat → Value}
theorem wp_appendB (s z : Operand)
 (ho : o.op = .call { callee := .builtin .append, args := #[s, z], argTypes := #[51, 51] })
 (hs : a.eval s = .slice A n c) (h : Own w lo hi 4 1 A n c x) (hz : a.eval z = .slice A2 m c2) (hr : RdV w B A2 m c2 y) (hy : ∀ k, (y k).oneCell' = true) (hlo : lo ≤ w.heap.size) (hn : n ≤ 1073741824) (hm : m ≤ 1073741824)
 (hK : ∀ A' c' w', Own w' lo w'.heap.size 4 1 A' (n + m) c' (thenB n x y) → Below lo w w' → K (a.put o.dst (.slice A' (n + m) c')) w') : o.wp Tryz.prog a w K Q := by
 obtain ⟨A', c', w', hrun, h2, h3, _⟩ := run_appendB w o.type h hr hy hlo hn hm
 unfold Oper.wp execOp
 simp only [ho, resolve, invoke, builtin, Sem.run_bind, Sem.run_pure, Result.andThen_ok, List.map_toArray, List.map_cons, List.map_nil, hs, hz, hrun]
 exact hK _ _ _ h2 h3
theorem wpList_appendB (hgd : o.guard = none) (s z : Operand)
 (ho : o.op = .call { callee := .builtin .append, args := #[s, z], argTypes := #[51, 51] })
 (hs : a.eval s = .slice A n c) (h : Own w lo hi 4 1 A n c x) (hz : a.eval z = .slice A2 m c2) (hr : RdV w B A2 m c2 y) (hy : ∀ k, (y k).oneCell' = true) (hlo : lo ≤ w.heap.size) (hn : n ≤ 1073741824) (hm : m ≤ 1073741824)
 (hK : ∀ A' c' w', Own w' lo w'.heap.size 4 1 A' (n + m) c' (thenB n x y) → Below lo w w' → wpList Tryz.prog ops Q rest (a.put o.dst (.slice A' (n + m) c')) w') : wpList Tryz.prog ops Q (o :: rest) a w :=
 wpList_plain hgd fun _ hK2 => wp_appendB w s z ho hs h hz hr hy hlo hn hm fun A' c' w' h2 h3 => hK2 _ _ (hK A' c' w' h2 h3)
end
section
variable {ops : Array Oper} {o : Oper} {a : Act} {K : Act → World → Prop} {Q : Exit → Act → World → Prop} {E : Prop}
theorem step_pushI (W : World) (hgd : o.guard = none) (s y : Operand)
 (ho : o.op = .call { callee := .builtin .append, args := #[s, y], argTypes := #[22, 22] })
 (g c : Nat) (T : List Nat) (h : Own W g (g + 1) 3 1 (some ⟨g, 0, none⟩) T.length c (ni T)) (hg : g < W.heap.size) (v : Nat) (hs : a.eval s = .slice (some ⟨g, 0, none⟩) T.length c)
 (B cx : Nat) (hB : W.heap[B]? = some (.cells #[.int .i64 (v : Int)] 3 (0, 0))) (hy : a.eval y = .slice (some ⟨B, 0, none⟩) 1 cx) (hn : T.length ≤ 1073741824)
 (hK : ∀ g' cap w', Own w' g' (g' + 1) 3 1 (some ⟨g', 0, none⟩) (T.length + 1) cap (ni (T ++ [v])) → (g' = g ∨ g' = W.heap.size) → g' < w'.heap.size → Fr g (g + 1) W w' → K (a.put o.dst (.slice (some ⟨g', 0, none⟩) (T.length + 1) cap)) w') :
 if Region.wanted o (yielded ops a.tmps) = true then Oper.wp Tryz.prog o a W K Q else E := by
 refine step_push W hgd s y 22 ho 3 _ 1 8 Tryz.underlying22 info_int rfl (by omega) g (g + 1) (some ⟨g, 0, none⟩) T.length c (ni (T ++ [v])) hs (h.congr (fun j hj => (ni_left hj).symm)) (by omega) B #[.int .i64 (v : Int)] 3 (0, 0) cx hB hy rfl ni_news (by simp [Value.oneCell']) hn (by omega) ?_
 intro g' cap w' hp
 obtain ⟨h1, h2, h3, h4⟩ := hp.caged
 exact hK g' cap w' h1 h2 h3 h4
theorem step_pushB (W : World) (hgd : o.guard = none) (s y : Operand)
 (ho : o.op = .call { callee := .builtin .append, args := #[s, y], argTypes := #[51, 51] })
 (g c n : Nat) (b : Nat → Bool) (h : Own W g (g + 1) 4 1 (some ⟨g, 0, none⟩) n c (fun j => .bool (b j))) (hg : g < W.heap.size) (v : Bool) (hs : a.eval s = .slice (some ⟨g, 0, none⟩) n c)
 (B cx : Nat) (hB : W.heap[B]? = some (.cells #[.bool v] 4 (0, 0))) (hy : a.eval y = .slice (some ⟨B, 0, none⟩) 1 cx) (hn : n ≤ 1073741824)
 (hK : ∀ g' cap w', Own w' g' (g' + 1) 4 1 (some ⟨g', 0, none⟩) (n + 1) cap (fun j => .bool (if j < n then b j else v)) → (g' = g ∨ g' = W.heap.size) → g' < w'.heap.size → Fr g (g + 1) W w' → K (a.put o.dst (.slice (some ⟨g', 0, none⟩) (n + 1) cap)) w') :
 if Region.wanted o (yielded ops a.tmps) = true then Oper.wp Tryz.prog o a W K Q else E := by
 refine step_push W hgd s y 51 ho 4 _ 1 1 Tryz.underlying51 info_bool rfl (by omega) g (g + 1) (some ⟨g, 0, none⟩) n c (fun j => .bool (if j < n then b j else v)) hs (h.congr (fun j hj => by rw [if_pos (by omega)])) (by omega) B #[.bool v] 4 (0, 0) cx hB hy rfl (fun i hi => by (have h0 : i = 0 := by omega); subst h0; simp) (by simp [Value.oneCell']) hn (by omega) ?_
 intro g' cap w' hp
 obtain ⟨h1, h2, h3, h4⟩ := hp.caged
 exact hK g' cap w' h1 h2 h3 h4
end
set_option maxRecDepth 100000 in
set_option maxHeartbeats 1600000 in
theorem Reverse_b (g c n lo hi : Nat) (b : Nat → Bool) (w : World) (h : Own w lo hi 4 1 (some ⟨g, 0, none⟩) n c (fun j => .bool (b j))) (hlen : n ≤ 1048576) (h0 : 0 < n) :
 Calls Tryz.prog 233 #[.slice (some ⟨g, 0, none⟩) n c] w fun e w' => e = .returned (.tuple #[]) ∧ Fr lo hi w w' := by
 have H1 := Lib.hid h
 clear h
 go_enter Tryz.func233, Tryz.ntmps233
 go_wp2
 go_loopw [2, 3] (fun i jv wr => ∃ (k j : Nat) (q : Nat → Bool), Hid (j + k + 1 = n) ∧ k ≤ n ∧ i = .int .i64 k ∧ jv = .int .i64 j ∧ Hid (Own wr lo hi 4 1 (some ⟨g, 0, none⟩) n c (fun t => .bool (q t))) ∧ Hid (Fr lo hi w wr)) (fun i _ _ => n - (intOf i).toNat)
 case atStart => exact ⟨0, n - 1, b, (by show _ = _; omega), Nat.zero_le _, rfl, by congr 1; omega, H1, Fr.refl _ _ _⟩
 case round =>
  clear H1
  obtain ⟨k, j, q, hjk, hk, rfl, rfl, HO, HR⟩ := hrel
  have hjk1 : j + k + 1 ≤ n := by rw [hjk.out]; exact Nat.le_refl _
  by_cases hlt : k < j
  ·obtain ⟨g', e1, hg1, hg2, hg3, hc, hf⟩ := HO.out.at_ (by omega)
   simp only [Option.some.injEq, Addr.mk.injEq, and_true] at e1
   subst e1
   have q0 := hc k (by omega)
   have q1 := hc j (by omega)
   have f0 := hf k
   have f1 := hf j
   have i1 : (k : Int) < (j : Int) := by omega
   have i2 : (j : Int) < (n : Int) := by omega
   have i3 : (k : Int) < (n : Int) := by omega
   have ne1 : (j = k) = False := by simp; omega
   have ne2 : (k = j) = False := by simp; omega
   obtain ⟨y0, hy0⟩ : ∃ y, y = q k := ⟨_, rfl⟩
   obtain ⟨y1, hy1⟩ : ∃ y, y = q j := ⟨_, rfl⟩
   rw [← hy0] at q0
   rw [← hy1] at q1
   clear hy0 hy1 hc hf
   go_wp2
   go_region
   have HO5 : Hid (Own ((wr.setCell ⟨g, k, none⟩ (.bool y1)).setCell ⟨g, j, none⟩ (.bool y0)).drew lo hi 4 1 (some ⟨g, 0, none⟩) n c (fun t => .bool (if t = j then y0 else if t = k then y1 else q t))) := by
    refine (((HO.out.set_ k _).set_ j _).drew).congr (fun t ht => ?_)
    by_cases h1 : t = j
    ·rw [if_pos h1, if_pos h1]
    ·rw [if_neg h1, if_neg h1]
     by_cases h2 : t = k
     ·rw [if_pos h2, if_pos h2]
     ·rw [if_neg h2, if_neg h2]
   have HR5 : Hid (Fr lo hi w ((wr.setCell ⟨g, k, none⟩ (.bool y1)).setCell ⟨g, j, none⟩ (.bool y0)).drew) := ((HR.out.setCell (p := ⟨g, k, none⟩) hg1 hg2 _).setCell (p := ⟨g, j, none⟩) hg1 hg2 _).drew
   have Hjk5 : Hid ((j - 1) + (k + 1) + 1 = n) := by show _ = _; have := hjk.out; omega
   have ej : ((j : Int) - 1) = ((j - 1 : Nat) : Int) := by omega
   have Hej := Lib.hid ej
   clear q0 q1 f0 f1 ne1 ne2 ej
   go_wp2
   go_roundw
   case rel => exact ⟨k + 1, j - 1, _, Hjk5, by omega, by go_num, by rw [Hej.out], HO5, HR5⟩
   case measure => simp [intOf]; omega
  ·have i1 : (j : Int) ≤ (k : Int) := by omega
   go_wp2
   go_end0
   exact ⟨rfl, HR.out⟩
end Go.Proofs.YtppkokgiojcgbaaGreatDoor
