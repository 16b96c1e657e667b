/-
  Contracts: lists of bools: append, the other direction; a push onto a list in a block of its own.
-/
import Derived.Test.YtdpkbfiggbcclaaGreatQiGB
import Derived.Test.YtdpkbfiggbcclaaGreatQiRev
namespace Go.Proofs.YtdpkbfiggbcclaaGreat
open Go.RowKit

theorem info_bool : (Tryz.prog.info? 4).map (fun i => (i.zero, i.size, i.bytes)) = some (some (.bool false), 1, 1) := by kernel_rfl
/-- (bools) First x 0, .., x (n - 1), then y 0, y 1, .. -/
def thenB (n : Nat) (x y : Nat → Value) : Nat → Value := fun j => if j < n then x j else y (j - n)

theorem run_appendB (w : World) (ty : TypeId) {lo hi B n c m c2 : Nat} {A A2 : Option Addr} {x y : Nat → Value} (h : Own w lo hi 4 1 A n c x) (hr : RdV w B A2 m c2 y) (hy : ∀ k, (y k).oneCell' = true) (hlo : lo ≤ w.heap.size) (hn : n ≤ 1073741824) (hm : m ≤ 1073741824) :
    ∃ A' c' w', (Builtin.append_ #[40, 40] ty #[.slice A n c, .slice A2 m c2]).run Tryz.prog w = .ok (.slice A' (n + m) c') w' ∧ Own w' lo w'.heap.size 4 1 A' (n + m) c' (thenB n x y) ∧ Below lo w w' ∧ ((Value.slice A' (n + m) c').ownBlock = (Value.slice A n c).ownBlock ∨ (Value.slice A' (n + m) c').ownBlock = some w.heap.size) ∧ w.grownBy w' (Value.slice A n c).ownBlock := by
  obtain ⟨i, hi', hzz⟩ := Option.map_eq_some_iff.1 info_bool
  simp only [Prod.mk.injEq] at hzz
  obtain ⟨hz, hsize, hbytes⟩ := hzz
  have main : ∀ v' w', w'.ownsRow lo 4 1 v' (n + m) ((List.range (n * 1)).map x ++ (List.range m).map y) → w.grownBy w' (Value.slice A n c).ownBlock →
      ∃ A' c', v' = .slice A' (n + m) c' ∧ Own w' lo w'.heap.size 4 1 A' (n + m) c' (thenB n x y) ∧ Below lo w w' := by
    intro v' w' hrow hg
    obtain ⟨A', c', rfl⟩ := row_form hrow
    refine ⟨A', c', rfl, Own.of_row hrow (fun j hj => ?_), (Below.refl _ _).grown hg hlo (fun k hk => (h.block k hk).1)⟩
    rw [List.getElem?_append]
    simp only [List.length_map, List.length_range, Nat.mul_one]
    unfold thenB
    by_cases hj2 : j < n
    · simp [hj2]
    · rw [if_neg hj2, if_neg hj2, List.getElem?_map, List.getElem?_range (by omega)]
      rfl
  rcases A2 with _ | ad
  · have hm0 : m = 0 := by
      rcases Nat.eq_zero_or_pos m with h0 | h0
      · exact h0
      · obtain ⟨b, o, he, _⟩ := hr.2 h0
        cases he
    subst hm0
    refine ⟨A, c, w, ?_, ?_, Below.refl _ _, .inl rfl, World.grownBy.refl w _⟩
    · rcases h with ⟨rfl, rfl, rfl⟩ | ⟨g, cur, rfl, _, _, _, hnc, _⟩
      · simp [Builtin.append_, run_underlying Tryz.underlying40, sizeOf, typeInfo, hi', Builtin.lenOf, Builtin.firstCells]
      · simp [Builtin.append_, run_underlying Tryz.underlying40, sizeOf, typeInfo, hi', Builtin.lenOf, Builtin.firstCells, hnc, storeCells]
    · exact (h.lt.mono (Nat.le_refl _) (Nat.min_le_right _ _)).congr (fun j hj => by unfold thenB; rw [if_pos (by omega)])
  · have hcells : ∀ (j : Nat) (u : Value), ((List.range m).map y)[j]? = some u → w.cell? (ad.add j) = some u := by
      intro j u hu
      have hj : j < m := by
        have := (List.getElem?_eq_some_iff.1 hu).1
        simpa using this
      obtain ⟨b, o, he, _, hc⟩ := hr.2 (by omega)
      simp only [Option.some.injEq] at he
      subst he
      have hadd : (⟨b, o, none⟩ : Addr).add j = ⟨b, o + j, none⟩ := by unfold Addr.add; split <;> simp_all
      rw [hadd, hc j hj]
      simpa [hj] using hu
    obtain ⟨v', w', hrun, h2, h3, _, h5⟩ := run_append_own_at (P := Tryz.prog) w lo 40 ty 4 i _ 1 1 Tryz.underlying40 hi' hz hsize hbytes rfl (by omega) _ n _ h.row ad m c2 _ (by simp) hcells (by
      intro u hu
      obtain ⟨j, _, rfl⟩ := List.mem_map.1 hu
      exact hy j) (by unfold maxLen; omega) (by omega) hlo
    obtain ⟨A', c', rfl, hO, hB⟩ := main v' w' h2 h3
    exact ⟨A', c', w', hrun, hO, hB, h5, h3⟩

section
variable (w : World) {ops : Array Oper} {rest : List Oper} {o : Oper} {a : Act} {K : Act → World → Prop} {Q : Exit → Act → World → Prop} {E : Prop}
  {lo hi B n c m c2 : Nat} {A A2 : Option Addr} {x y : Nat → Value}
theorem wp_appendB (s z : Operand)
    (ho : o.op = .call { callee := .builtin .append, args := #[s, z], argTypes := #[40, 40] })
    (hs : a.eval s = .slice A n c) (h : Own w lo hi 4 1 A n c x) (hz : a.eval z = .slice A2 m c2) (hr : RdV w B A2 m c2 y) (hy : ∀ k, (y k).oneCell' = true) (hlo : lo ≤ w.heap.size) (hn : n ≤ 1073741824) (hm : m ≤ 1073741824)
    (hK : ∀ A' c' w', Own w' lo w'.heap.size 4 1 A' (n + m) c' (thenB n x y) → Below lo w w' → K (a.put o.dst (.slice A' (n + m) c')) w') : o.wp Tryz.prog a w K Q := by
  obtain ⟨A', c', w', hrun, h2, h3, _⟩ := run_appendB w o.type h hr hy hlo hn hm
  unfold Oper.wp execOp
  simp only [ho, resolve, invoke, builtin, Sem.run_bind, Sem.run_pure, Result.andThen_ok, List.map_toArray, List.map_cons, List.map_nil, hs, hz, hrun]
  exact hK _ _ _ h2 h3
theorem wpList_appendB (hgd : o.guard = none) (s z : Operand)
    (ho : o.op = .call { callee := .builtin .append, args := #[s, z], argTypes := #[40, 40] })
    (hs : a.eval s = .slice A n c) (h : Own w lo hi 4 1 A n c x) (hz : a.eval z = .slice A2 m c2) (hr : RdV w B A2 m c2 y) (hy : ∀ k, (y k).oneCell' = true) (hlo : lo ≤ w.heap.size) (hn : n ≤ 1073741824) (hm : m ≤ 1073741824)
    (hK : ∀ A' c' w', Own w' lo w'.heap.size 4 1 A' (n + m) c' (thenB n x y) → Below lo w w' → wpList Tryz.prog ops Q rest (a.put o.dst (.slice A' (n + m) c')) w') : wpList Tryz.prog ops Q (o :: rest) a w :=
  wpList_plain hgd fun _ hK2 => wp_appendB w s z ho hs h hz hr hy hlo hn hm fun A' c' w' h2 h3 => hK2 _ _ (hK A' c' w' h2 h3)
end

section
variable {ops : Array Oper} {o : Oper} {a : Act} {K : Act → World → Prop} {Q : Exit → Act → World → Prop} {E : Prop}
/-- One vertex onto a list in a block of its own. -/
theorem step_pushI (W : World) (hgd : o.guard = none) (s y : Operand)
    (ho : o.op = .call { callee := .builtin .append, args := #[s, y], argTypes := #[22, 22] })
    (g c : Nat) (T : List Nat) (h : Own W g (g + 1) 3 1 (some ⟨g, 0, none⟩) T.length c (ni T)) (hg : g < W.heap.size) (v : Nat) (hs : a.eval s = .slice (some ⟨g, 0, none⟩) T.length c)
    (B cx : Nat) (hB : W.heap[B]? = some (.cells #[.int .i64 (v : Int)] 3 (0, 0))) (hy : a.eval y = .slice (some ⟨B, 0, none⟩) 1 cx) (hn : T.length ≤ 1073741824)
    (hK : ∀ g' cap w', Own w' g' (g' + 1) 3 1 (some ⟨g', 0, none⟩) (T.length + 1) cap (ni (T ++ [v])) → (g' = g ∨ g' = W.heap.size) → g' < w'.heap.size → Fr g (g + 1) W w' → K (a.put o.dst (.slice (some ⟨g', 0, none⟩) (T.length + 1) cap)) w') :
    if Region.wanted o (yielded ops a.tmps) = true then Oper.wp Tryz.prog o a W K Q else E := by
  refine step_push W hgd s y 22 ho 3 _ 1 8 Tryz.underlying22 info_int rfl (by omega) g (g + 1) (some ⟨g, 0, none⟩) T.length c (ni (T ++ [v])) hs (h.congr (fun j hj => (ni_left hj).symm)) (by omega) B #[.int .i64 (v : Int)] 3 (0, 0) cx hB hy rfl ni_news (by simp [Value.oneCell']) hn (by omega) ?_
  intro g' cap w' hp
  obtain ⟨h1, h2, h3, h4⟩ := hp.caged
  exact hK g' cap w' h1 h2 h3 h4
/-- One bool onto a list in a block of its own. -/
theorem step_pushB (W : World) (hgd : o.guard = none) (s y : Operand)
    (ho : o.op = .call { callee := .builtin .append, args := #[s, y], argTypes := #[40, 40] })
    (g c n : Nat) (b : Nat → Bool) (h : Own W g (g + 1) 4 1 (some ⟨g, 0, none⟩) n c (fun j => .bool (b j))) (hg : g < W.heap.size) (v : Bool) (hs : a.eval s = .slice (some ⟨g, 0, none⟩) n c)
    (B cx : Nat) (hB : W.heap[B]? = some (.cells #[.bool v] 4 (0, 0))) (hy : a.eval y = .slice (some ⟨B, 0, none⟩) 1 cx) (hn : n ≤ 1073741824)
    (hK : ∀ g' cap w', Own w' g' (g' + 1) 4 1 (some ⟨g', 0, none⟩) (n + 1) cap (fun j => .bool (if j < n then b j else v)) → (g' = g ∨ g' = W.heap.size) → g' < w'.heap.size → Fr g (g + 1) W w' → K (a.put o.dst (.slice (some ⟨g', 0, none⟩) (n + 1) cap)) w') :
    if Region.wanted o (yielded ops a.tmps) = true then Oper.wp Tryz.prog o a W K Q else E := by
  refine step_push W hgd s y 40 ho 4 _ 1 1 Tryz.underlying40 info_bool rfl (by omega) g (g + 1) (some ⟨g, 0, none⟩) n c (fun j => .bool (if j < n then b j else v)) hs (h.congr (fun j hj => by rw [if_pos (by omega)])) (by omega) B #[.bool v] 4 (0, 0) cx hB hy rfl (fun i hi => by (have h0 : i = 0 := by omega); subst h0; simp) (by simp [Value.oneCell']) hn (by omega) ?_
  intro g' cap w' hp
  obtain ⟨h1, h2, h3, h4⟩ := hp.caged
  exact hK g' cap w' h1 h2 h3 h4
end

set_option maxRecDepth 100000 in
set_option maxHeartbeats 1600000 in
/-- A list of bools is reversed in place: some list of bools is left. -/
theorem Reverse_b (g c n lo hi : Nat) (b : Nat → Bool) (w : World) (h : Own w lo hi 4 1 (some ⟨g, 0, none⟩) n c (fun j => .bool (b j))) (hlen : n ≤ 1048576) (h0 : 0 < n) :
    Calls Tryz.prog 374 #[.slice (some ⟨g, 0, none⟩) n c] w fun e w' => e = .returned (.tuple #[]) ∧ Fr lo hi w w' := by
  have H1 := Lib.hid h
  clear h
  go_enter Tryz.func374, Tryz.ntmps374
  go_wp2
  go_loopw [2, 3] (fun i jv wr => ∃ (k j : Nat) (q : Nat → Bool), Hid (j + k + 1 = n) ∧ k ≤ n ∧ i = .int .i64 k ∧ jv = .int .i64 j ∧ Hid (Own wr lo hi 4 1 (some ⟨g, 0, none⟩) n c (fun t => .bool (q t))) ∧ Hid (Fr lo hi w wr)) (fun i _ _ => n - (intOf i).toNat)
  case atStart => exact ⟨0, n - 1, b, (by show _ = _; omega), Nat.zero_le _, rfl, by congr 1; omega, H1, Fr.refl _ _ _⟩
  case round =>
    clear H1
    obtain ⟨k, j, q, hjk, hk, rfl, rfl, HO, HR⟩ := hrel
    have hjk1 : j + k + 1 ≤ n := by rw [hjk.out]; exact Nat.le_refl _
    by_cases hlt : k < j
    · obtain ⟨g', e1, hg1, hg2, hg3, hc, hf⟩ := HO.out.at_ (by omega)
      simp only [Option.some.injEq, Addr.mk.injEq, and_true] at e1
      subst e1
      have q0 := hc k (by omega)
      have q1 := hc j (by omega)
      have f0 := hf k
      have f1 := hf j
      have i1 : (k : Int) < (j : Int) := by omega
      have i2 : (j : Int) < (n : Int) := by omega
      have i3 : (k : Int) < (n : Int) := by omega
      have ne1 : (j = k) = False := by simp; omega
      have ne2 : (k = j) = False := by simp; omega
      obtain ⟨y0, hy0⟩ : ∃ y, y = q k := ⟨_, rfl⟩
      obtain ⟨y1, hy1⟩ : ∃ y, y = q j := ⟨_, rfl⟩
      rw [← hy0] at q0
      rw [← hy1] at q1
      clear hy0 hy1 hc hf
      go_wp2
      go_region
      have HO5 : Hid (Own ((wr.setCell ⟨g, k, none⟩ (.bool y1)).setCell ⟨g, j, none⟩ (.bool y0)).drew lo hi 4 1 (some ⟨g, 0, none⟩) n c (fun t => .bool (if t = j then y0 else if t = k then y1 else q t))) := by
        refine (((HO.out.set_ k _).set_ j _).drew).congr (fun t ht => ?_)
        by_cases h1 : t = j
        · rw [if_pos h1, if_pos h1]
        · rw [if_neg h1, if_neg h1]
          by_cases h2 : t = k
          · rw [if_pos h2, if_pos h2]
          · rw [if_neg h2, if_neg h2]
      have HR5 : Hid (Fr lo hi w ((wr.setCell ⟨g, k, none⟩ (.bool y1)).setCell ⟨g, j, none⟩ (.bool y0)).drew) := ((HR.out.setCell (p := ⟨g, k, none⟩) hg1 hg2 _).setCell (p := ⟨g, j, none⟩) hg1 hg2 _).drew
      have Hjk5 : Hid ((j - 1) + (k + 1) + 1 = n) := by show _ = _; have := hjk.out; omega
      have ej : ((j : Int) - 1) = ((j - 1 : Nat) : Int) := by omega
      have Hej := Lib.hid ej
      clear q0 q1 f0 f1 ne1 ne2 ej
      go_wp2
      go_roundw
      case rel => exact ⟨k + 1, j - 1, _, Hjk5, by omega, by go_num, by rw [Hej.out], HO5, HR5⟩
      case measure => simp [intOf]; omega
    · have i1 : (j : Int) ≤ (k : Int) := by omega
      go_wp2
      go_end0
      exact ⟨rfl, HR.out⟩
end Go.Proofs.YtdpkbfiggbcclaaGreat
