/-
  append of all elements of a slice of integers that is only read onto a slice of integers of the call's own.
-/
import Derived.Test.YtnnlmdenffnjbaaRows
import Derived.Test.YtnnlmdenffnjbaaPush
namespace Go.Proofs.Ytnnlmdenffnjbaa
open Go.RowKit

theorem info_int : (Try.prog.info? 3).map (fun i => (i.zero, i.size, i.bytes)) = some (some (.int .i64 0), 1, 8) := by kernel_rfl

/-- First x 0, .., x (n - 1), then y 0, y 1, .. -/
def thenI (n : Nat) (x : Nat → Value) (y : Nat → Int) : Nat → Value := fun j => if j < n then x j else .int .i64 (y (j - n))

theorem run_appendI (w : World) (ty : TypeId) {lo hi B n c m c2 : Nat} {A A2 : Option Addr} {x : Nat → Value} {y : Nat → Int} (h : Own w lo hi 3 1 A n c x) (hr : Rd w B A2 m c2 y) (hlo : lo ≤ w.heap.size) (hn : n ≤ 1073741824) (hm : m ≤ 1073741824) :
    ∃ A' c' w', (Builtin.append_ #[22, 22] ty #[.slice A n c, .slice A2 m c2]).run Try.prog w = .ok (.slice A' (n + m) c') w' ∧ Own w' lo w'.heap.size 3 1 A' (n + m) c' (thenI n x y) ∧ Below lo w w' ∧ ((Value.slice A' (n + m) c').ownBlock = (Value.slice A n c).ownBlock ∨ (Value.slice A' (n + m) c').ownBlock = some w.heap.size) ∧ w.grownBy w' (Value.slice A n c).ownBlock := by
  obtain ⟨i, hi', hzz⟩ := Option.map_eq_some_iff.1 info_int
  simp only [Prod.mk.injEq] at hzz
  obtain ⟨hz, hsize, hbytes⟩ := hzz
  have main : ∀ v' w', w'.ownsRow lo 3 1 v' (n + m) ((List.range (n * 1)).map x ++ (List.range m).map fun k => .int .i64 (y k)) → w.grownBy w' (Value.slice A n c).ownBlock →
      ∃ A' c', v' = .slice A' (n + m) c' ∧ Own w' lo w'.heap.size 3 1 A' (n + m) c' (thenI n x y) ∧ Below lo w w' := by
    intro v' w' hrow hg
    obtain ⟨A', c', rfl⟩ := row_form hrow
    refine ⟨A', c', rfl, Own.of_row hrow (fun j hj => ?_), (Below.refl _ _).grown hg hlo (fun k hk => (h.block k hk).1)⟩
    rw [List.getElem?_append]
    simp only [List.length_map, List.length_range, Nat.mul_one]
    unfold thenI
    by_cases hj2 : j < n
    · simp [hj2]
    · rw [if_neg hj2, if_neg hj2, List.getElem?_map, List.getElem?_range (by omega)]
      rfl
  rcases A2 with _ | ad
  · have hm0 : m = 0 := by
      rcases Nat.eq_zero_or_pos m with h0 | h0
      · exact h0
      · obtain ⟨b, o, he, _⟩ := hr.2 h0
        cases he
    subst hm0
    refine ⟨A, c, w, ?_, ?_, Below.refl _ _, .inl rfl, World.grownBy.refl w _⟩
    · rcases h with ⟨rfl, rfl, rfl⟩ | ⟨g, cur, rfl, _, _, _, hnc, _⟩
      · simp [Builtin.append_, run_underlying Try.underlying22, sizeOf, typeInfo, hi', Builtin.lenOf, Builtin.firstCells]
      · simp [Builtin.append_, run_underlying Try.underlying22, sizeOf, typeInfo, hi', Builtin.lenOf, Builtin.firstCells, hnc, storeCells]
    · exact (h.lt.mono (Nat.le_refl _) (Nat.min_le_right _ _)).congr (fun j hj => by unfold thenI; rw [if_pos (by omega)])
  · have hcells : ∀ (j : Nat) (u : Value), ((List.range m).map fun k => Value.int .i64 (y k))[j]? = some u → w.cell? (ad.add j) = some u := by
      intro j u hu
      have hj : j < m := by
        have := (List.getElem?_eq_some_iff.1 hu).1
        simpa using this
      obtain ⟨b, o, he, _, hc⟩ := hr.2 (by omega)
      simp only [Option.some.injEq] at he
      subst he
      have hadd : (⟨b, o, none⟩ : Addr).add j = ⟨b, o + j, none⟩ := by unfold Addr.add; split <;> simp_all
      rw [hadd, hc j hj]
      simpa [hj] using hu
    obtain ⟨v', w', hrun, h2, h3, _, h5⟩ := run_append_own_at (P := Try.prog) w lo 22 ty 3 i _ 1 8 Try.underlying22 hi' hz hsize hbytes rfl (by omega) _ n _ h.row ad m c2 _ (by simp) hcells (by
      intro u hu
      obtain ⟨j, _, rfl⟩ := List.mem_map.1 hu
      rfl) (by unfold maxLen; omega) (by omega) hlo
    obtain ⟨A', c', rfl, hO, hB⟩ := main v' w' h2 h3
    exact ⟨A', c', w', hrun, hO, hB, h5, h3⟩

section
variable (w : World) {ops : Array Oper} {rest : List Oper} {o : Oper} {a : Act} {K : Act → World → Prop} {Q : Exit → Act → World → Prop} {E : Prop}
  {lo hi B n c m c2 : Nat} {A A2 : Option Addr} {x : Nat → Value} {y : Nat → Int}
theorem wp_appendI (s z : Operand)
    (ho : o.op = .call { callee := .builtin .append, args := #[s, z], argTypes := #[22, 22] })
    (hs : a.eval s = .slice A n c) (h : Own w lo hi 3 1 A n c x) (hz : a.eval z = .slice A2 m c2) (hr : Rd w B A2 m c2 y) (hlo : lo ≤ w.heap.size) (hn : n ≤ 1073741824) (hm : m ≤ 1073741824)
    (hK : ∀ A' c' w', Own w' lo w'.heap.size 3 1 A' (n + m) c' (thenI n x y) → Below lo w w' → K (a.put o.dst (.slice A' (n + m) c')) w') : o.wp Try.prog a w K Q := by
  obtain ⟨A', c', w', hrun, h2, h3, _⟩ := run_appendI w o.type h hr hlo hn hm
  unfold Oper.wp execOp
  simp only [ho, resolve, invoke, builtin, Sem.run_bind, Sem.run_pure, Result.andThen_ok, List.map_toArray, List.map_cons, List.map_nil, hs, hz, hrun]
  exact hK _ _ _ h2 h3
theorem wpList_appendI (hgd : o.guard = none) (s z : Operand)
    (ho : o.op = .call { callee := .builtin .append, args := #[s, z], argTypes := #[22, 22] })
    (hs : a.eval s = .slice A n c) (h : Own w lo hi 3 1 A n c x) (hz : a.eval z = .slice A2 m c2) (hr : Rd w B A2 m c2 y) (hlo : lo ≤ w.heap.size) (hn : n ≤ 1073741824) (hm : m ≤ 1073741824)
    (hK : ∀ A' c' w', Own w' lo w'.heap.size 3 1 A' (n + m) c' (thenI n x y) → Below lo w w' → wpList Try.prog ops Q rest (a.put o.dst (.slice A' (n + m) c')) w') : wpList Try.prog ops Q (o :: rest) a w :=
  wpList_plain hgd fun _ hK2 => wp_appendI w s z ho hs h hz hr hlo hn hm fun A' c' w' h2 h3 => hK2 _ _ (hK A' c' w' h2 h3)
theorem step_appendI (hgd : o.guard = none) (s z : Operand)
    (ho : o.op = .call { callee := .builtin .append, args := #[s, z], argTypes := #[22, 22] })
    (hs : a.eval s = .slice A n c) (h : Own w lo hi 3 1 A n c x) (hz : a.eval z = .slice A2 m c2) (hr : Rd w B A2 m c2 y) (hlo : lo ≤ w.heap.size) (hn : n ≤ 1073741824) (hm : m ≤ 1073741824)
    (hK : ∀ A' c' w', Own w' lo w'.heap.size 3 1 A' (n + m) c' (thenI n x y) → Below lo w w' → K (a.put o.dst (.slice A' (n + m) c')) w') :
    if Region.wanted o (yielded ops a.tmps) = true then Oper.wp Try.prog o a w K Q else E := by
  have hw : Region.wanted o (yielded ops a.tmps) = true := by simp [Region.wanted, hgd]
  rw [if_pos hw]
  exact wp_appendI w s z ho hs h hz hr hlo hn hm hK
end
end Go.Proofs.Ytnnlmdenffnjbaa
