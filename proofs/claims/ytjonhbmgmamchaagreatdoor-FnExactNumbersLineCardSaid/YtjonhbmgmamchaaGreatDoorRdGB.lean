/-
  Several texts in one: words for memory, plain laws and contracts that the later texts lean on.
-/
import Derived.Test.YtjonhbmgmamchaaGreatDoorRows
import Derived.Test.YtjonhbmgmamchaaGreatDoorRdGA
import Derived.Deep.RegionHeld3
import Derived.Deep.QuietTactic
import Derived.BigQuiet
/-
  Words for memory: a slice of slices of integers that the call owns, or that it only reads.
-/
namespace Go.Proofs.YtjonhbmgmamchaaGreatDoor
open Go.RowKit

/-- One inner slice: its address, its capacity, what it holds. -/
abbrev Dsc := Option Addr × Nat × List Int
def dv (d : Dsc) : Value := .slice d.1 d.2.2.length d.2.1
def dvs (D : List Dsc) : Nat → Value := fun j => dv (D.getD j (none, 0, []))
def ii (l : List Int) : Nat → Value := fun i => .int .i64 (l.getD i 0)
def lists (D : List Dsc) : List (List Int) := D.map (·.2.2)
/-- No two inner slices lie at one place. -/
def Apart (D : List Dsc) : Prop := D.Pairwise fun d e => ∀ a, d.1 = some a → e.1 ≠ some a
def OwnD (w : World) (lo hi : Nat) (A : Option Addr) (c : Nat) (D : List Dsc) : Prop :=
  Own w lo hi 22 1 A D.length c (dvs D) ∧ (∀ d ∈ D, Own w lo hi 3 1 d.1 d.2.2.length d.2.1 (ii d.2.2)) ∧ Apart D
theorem info_ints : (Tryz.prog.info? 22).map (fun i => (i.zero, i.size, i.bytes)) = some (some (.slice none 0 0), 1, 24) := by kernel_rfl

section
variable {w w' : World} {lo hi lo' hi' B B' c : Nat} {A : Option Addr} {D : List Dsc}
theorem OwnD.mono (h : OwnD w lo hi A c D) (h1 : lo' ≤ lo) (h2 : hi ≤ hi') : OwnD w lo' hi' A c D := ⟨h.1.mono h1 h2, fun d hd => (h.2.1 d hd).mono h1 h2, h.2.2⟩
theorem OwnD.keep {a b : Nat} (h : OwnD w lo hi A c D) (hf : Fr a b w w') (hab : hi ≤ a ∨ b ≤ lo) : OwnD w' lo hi A c D := ⟨h.1.keep hf hab, fun d hd => (h.2.1 d hd).keep hf hab, h.2.2⟩
theorem OwnD.keepB (h : OwnD w lo hi A c D) (hf : Below B w w') (hB : hi ≤ B) : OwnD w' lo hi A c D := ⟨h.1.keepB hf hB, fun d hd => (h.2.1 d hd).keepB hf hB, h.2.2⟩
theorem OwnD.alloc (h : OwnD w lo hi A c D) (o : Obj) : OwnD (w.alloc o) lo hi A c D := ⟨h.1.alloc o, fun d hd => (h.2.1 d hd).alloc o, h.2.2⟩
theorem OwnD.drew (h : OwnD w lo hi A c D) : OwnD w.drew lo hi A c D := h
theorem OwnD.none_ (w : World) (lo hi : Nat) (g : Nat) (h1 : lo ≤ g) (h2 : g < hi) (hg : w.heap[g]? = some (.cells #[] 22 (0, 0))) : OwnD w lo hi (some ⟨g, 0, none⟩) 0 [] :=
  ⟨.inr ⟨g, #[], rfl, h1, h2, hg, Nat.le_refl _, by unfold maxLen; omega, rfl, fun j hj => absurd hj (by simp)⟩, (fun d hd => by cases hd), List.Pairwise.nil⟩
theorem Own.only {e : TypeId} {size n : Nat} {x : Nat → Value} (h : Own w lo hi e size A n c x) (hn : 0 < n) : ∃ g, A = some ⟨g, 0, none⟩ ∧ lo ≤ g ∧ g < hi ∧ Own w g (g + 1) e size A n c x := by
  rcases h with h | ⟨g, cur, k1, k2, k3, r⟩
  · omega
  · exact ⟨g, k1, k2, k3, .inr ⟨g, cur, k1, Nat.le_refl _, Nat.lt_succ_self _, r⟩⟩
/-- Rows of different element types are different blocks. -/
theorem Own.types {e e' : TypeId} {s1 s2 n1 n2 c1 c2 lo1 hi1 lo2 hi2 : Nat} {A1 A2 : Option Addr} {x y : Nat → Value} (h : Own w lo1 hi1 e s1 A1 n1 c1 x) (k : Own w lo2 hi2 e' s2 A2 n2 c2 y) (hne : e ≠ e') {g : Nat} (h1 : A1 = some ⟨g, 0, none⟩) : A2 ≠ some ⟨g, 0, none⟩ := by
  rintro rfl
  subst h1
  rcases h with ⟨h, _⟩ | ⟨g1, cur1, k1, _, _, r1, _⟩
  · cases h
  rcases k with ⟨h, _⟩ | ⟨g2, cur2, k2, _, _, r2, _⟩
  · cases h
  simp only [Option.some.injEq, Addr.mk.injEq, and_true] at k1 k2
  subst k1 k2
  rw [r1] at r2
  simp only [Option.some.injEq, Obj.cells.injEq] at r2
  exact hne r2.2.1
theorem Own.at_block {e : TypeId} {size n : Nat} {x : Nat → Value} (h : Own w lo hi e size A n c x) : A = none ∨ ∃ g, A = some ⟨g, 0, none⟩ ∧ lo ≤ g ∧ g < hi := by
  rcases h with ⟨h, _⟩ | ⟨g, cur, k1, k2, k3, _⟩
  · exact .inl h
  · exact .inr ⟨g, k1, k2, k3⟩
theorem getD_append_left {D : List Dsc} {d : Dsc} {j : Nat} (h : j < D.length) : (D ++ [d]).getD j (none, 0, []) = D.getD j (none, 0, []) := by
  simp [List.getD, List.getElem?_append_left h]
theorem dvs_left {D : List Dsc} {d : Dsc} {j : Nat} (h : j < D.length) : dvs (D ++ [d]) j = dvs D j := by unfold dvs; rw [getD_append_left h]
theorem dvs_last {D : List Dsc} {d : Dsc} : dvs (D ++ [d]) D.length = dv d := by unfold dvs; simp [List.getD]
theorem dvs_at {D : List Dsc} {j : Nat} (h : j < D.length) : ∃ d, D[j]? = some d ∧ d ∈ D ∧ dvs D j = dv d := by
  refine ⟨D[j], List.getElem?_eq_getElem h, List.getElem_mem h, ?_⟩
  unfold dvs
  simp [List.getD, List.getElem?_eq_getElem h]
/-- One inner slice more. -/
theorem OwnD.push {D : List Dsc} {d : Dsc} {w w1 : World} {A : Option Addr} {c g cap : Nat} (h : ∀ d ∈ D, Own w lo hi 3 1 d.1 d.2.2.length d.2.1 (ii d.2.2)) (ha : Apart D) (hd : Own w lo hi 3 1 d.1 d.2.2.length d.2.1 (ii d.2.2)) (hnew : ∀ e ∈ D, ∀ a, e.1 = some a → d.1 ≠ some a)
    (hp : Pushed w w1 lo 22 1 A D.length c (dvs (D ++ [d])) g cap) (hown : Own w lo hi 22 1 A D.length c (dvs D)) (hhi : hi ≤ w.heap.size) :
    OwnD w1 lo w1.heap.size (some ⟨g, 0, none⟩) cap (D ++ [d]) := by
  have hs := hp.grown.size
  have keep : ∀ e : Dsc, Own w lo hi 3 1 e.1 e.2.2.length e.2.1 (ii e.2.2) → Own w1 lo w1.heap.size 3 1 e.1 e.2.2.length e.2.1 (ii e.2.2) := by
    intro e he
    have hne : ∀ g', e.1 = some ⟨g', 0, none⟩ → A ≠ some ⟨g', 0, none⟩ := fun g' hg' => he.types hown (by decide) hg'
    rcases he with h | ⟨g1, cur, k1, k2, k3, k4, r⟩
    · exact .inl h
    · refine .inr ⟨g1, cur, k1, k2, by omega, (hp.grown.block g1 (Array.getElem?_eq_some_iff.1 k4).1 ?_).trans k4, r⟩
      intro heq
      rcases hown with ⟨rfl, _⟩ | ⟨g2, cur2, rfl, _⟩
      · simp [Value.ownBlock] at heq
      · simp [Value.ownBlock] at heq
        exact hne g1 k1 (by rw [heq])
  refine ⟨by rw [List.length_append]; exact hp.own, fun e he => ?_, ?_⟩
  · rw [List.mem_append, List.mem_singleton] at he
    rcases he with he | rfl
    · exact keep e (h e he)
    · exact keep e hd
  · refine List.pairwise_append.2 ⟨ha, List.pairwise_singleton _ _, ?_⟩
    intro e he f hf a h1
    rw [List.mem_singleton] at hf
    subst hf
    exact hnew e he a h1
end
end Go.Proofs.YtjonhbmgmamchaaGreatDoor

/-
  Contracts of the law's helpers on slices of slices of integers.
-/
namespace Go.Proofs.YtjonhbmgmamchaaGreatDoor
open Go.RowKit

theorem take_at {D : List Dsc} {k : Nat} {d : Dsc} (h : D[k]? = some d) : D.take (k + 1) = D.take k ++ [d] := by
  rw [List.take_add_one, h]; rfl
end Go.Proofs.YtjonhbmgmamchaaGreatDoor

/-
  append of all elements of a slice of integers that is only read onto a slice of integers of the call's own.
-/
namespace Go.Proofs.YtjonhbmgmamchaaGreatDoor
open Go.RowKit


/-- First x 0, .., x (n - 1), then y 0, y 1, .. -/
def thenI (n : Nat) (x : Nat → Value) (y : Nat → Int) : Nat → Value := fun j => if j < n then x j else .int .i64 (y (j - n))

theorem run_appendI (w : World) (ty : TypeId) {lo hi B n c m c2 : Nat} {A A2 : Option Addr} {x : Nat → Value} {y : Nat → Int} (h : Own w lo hi 3 1 A n c x) (hr : Rd w B A2 m c2 y) (hlo : lo ≤ w.heap.size) (hn : n ≤ 1073741824) (hm : m ≤ 1073741824) :
    ∃ A' c' w', (Builtin.append_ #[22, 22] ty #[.slice A n c, .slice A2 m c2]).run Tryz.prog w = .ok (.slice A' (n + m) c') w' ∧ Own w' lo w'.heap.size 3 1 A' (n + m) c' (thenI n x y) ∧ Below lo w w' ∧ ((Value.slice A' (n + m) c').ownBlock = (Value.slice A n c).ownBlock ∨ (Value.slice A' (n + m) c').ownBlock = some w.heap.size) ∧ w.grownBy w' (Value.slice A n c).ownBlock := by
  obtain ⟨i, hi', hzz⟩ := Option.map_eq_some_iff.1 info_int
  simp only [Prod.mk.injEq] at hzz
  obtain ⟨hz, hsize, hbytes⟩ := hzz
  have main : ∀ v' w', w'.ownsRow lo 3 1 v' (n + m) ((List.range (n * 1)).map x ++ (List.range m).map fun k => .int .i64 (y k)) → w.grownBy w' (Value.slice A n c).ownBlock →
      ∃ A' c', v' = .slice A' (n + m) c' ∧ Own w' lo w'.heap.size 3 1 A' (n + m) c' (thenI n x y) ∧ Below lo w w' := by
    intro v' w' hrow hg
    obtain ⟨A', c', rfl⟩ := row_form hrow
    refine ⟨A', c', rfl, Own.of_row hrow (fun j hj => ?_), (Below.refl _ _).grown hg hlo (fun k hk => (h.block k hk).1)⟩
    rw [List.getElem?_append]
    simp only [List.length_map, List.length_range, Nat.mul_one]
    unfold thenI
    by_cases hj2 : j < n
    · simp [hj2]
    · rw [if_neg hj2, if_neg hj2, List.getElem?_map, List.getElem?_range (by omega)]
      rfl
  rcases A2 with _ | ad
  · have hm0 : m = 0 := by
      rcases Nat.eq_zero_or_pos m with h0 | h0
      · exact h0
      · obtain ⟨b, o, he, _⟩ := hr.2 h0
        cases he
    subst hm0
    refine ⟨A, c, w, ?_, ?_, Below.refl _ _, .inl rfl, World.grownBy.refl w _⟩
    · rcases h with ⟨rfl, rfl, rfl⟩ | ⟨g, cur, rfl, _, _, _, hnc, _⟩
      · simp [Builtin.append_, run_underlying Tryz.underlying22, sizeOf, typeInfo, hi', Builtin.lenOf, Builtin.firstCells]
      · simp [Builtin.append_, run_underlying Tryz.underlying22, sizeOf, typeInfo, hi', Builtin.lenOf, Builtin.firstCells, hnc, storeCells]
    · exact (h.lt.mono (Nat.le_refl _) (Nat.min_le_right _ _)).congr (fun j hj => by unfold thenI; rw [if_pos (by omega)])
  · have hcells : ∀ (j : Nat) (u : Value), ((List.range m).map fun k => Value.int .i64 (y k))[j]? = some u → w.cell? (ad.add j) = some u := by
      intro j u hu
      have hj : j < m := by
        have := (List.getElem?_eq_some_iff.1 hu).1
        simpa using this
      obtain ⟨b, o, he, _, hc⟩ := hr.2 (by omega)
      simp only [Option.some.injEq] at he
      subst he
      have hadd : (⟨b, o, none⟩ : Addr).add j = ⟨b, o + j, none⟩ := by unfold Addr.add; split <;> simp_all
      rw [hadd, hc j hj]
      simpa [hj] using hu
    obtain ⟨v', w', hrun, h2, h3, _, h5⟩ := run_append_own_at (P := Tryz.prog) w lo 22 ty 3 i _ 1 8 Tryz.underlying22 hi' hz hsize hbytes rfl (by omega) _ n _ h.row ad m c2 _ (by simp) hcells (by
      intro u hu
      obtain ⟨j, _, rfl⟩ := List.mem_map.1 hu
      rfl) (by unfold maxLen; omega) (by omega) hlo
    obtain ⟨A', c', rfl, hO, hB⟩ := main v' w' h2 h3
    exact ⟨A', c', w', hrun, hO, hB, h5, h3⟩

section
variable (w : World) {ops : Array Oper} {rest : List Oper} {o : Oper} {a : Act} {K : Act → World → Prop} {Q : Exit → Act → World → Prop} {E : Prop}
  {lo hi B n c m c2 : Nat} {A A2 : Option Addr} {x : Nat → Value} {y : Nat → Int}
theorem wp_appendI (s z : Operand)
    (ho : o.op = .call { callee := .builtin .append, args := #[s, z], argTypes := #[22, 22] })
    (hs : a.eval s = .slice A n c) (h : Own w lo hi 3 1 A n c x) (hz : a.eval z = .slice A2 m c2) (hr : Rd w B A2 m c2 y) (hlo : lo ≤ w.heap.size) (hn : n ≤ 1073741824) (hm : m ≤ 1073741824)
    (hK : ∀ A' c' w', Own w' lo w'.heap.size 3 1 A' (n + m) c' (thenI n x y) → Below lo w w' → K (a.put o.dst (.slice A' (n + m) c')) w') : o.wp Tryz.prog a w K Q := by
  obtain ⟨A', c', w', hrun, h2, h3, _⟩ := run_appendI w o.type h hr hlo hn hm
  unfold Oper.wp execOp
  simp only [ho, resolve, invoke, builtin, Sem.run_bind, Sem.run_pure, Result.andThen_ok, List.map_toArray, List.map_cons, List.map_nil, hs, hz, hrun]
  exact hK _ _ _ h2 h3
theorem wpList_appendI (hgd : o.guard = none) (s z : Operand)
    (ho : o.op = .call { callee := .builtin .append, args := #[s, z], argTypes := #[22, 22] })
    (hs : a.eval s = .slice A n c) (h : Own w lo hi 3 1 A n c x) (hz : a.eval z = .slice A2 m c2) (hr : Rd w B A2 m c2 y) (hlo : lo ≤ w.heap.size) (hn : n ≤ 1073741824) (hm : m ≤ 1073741824)
    (hK : ∀ A' c' w', Own w' lo w'.heap.size 3 1 A' (n + m) c' (thenI n x y) → Below lo w w' → wpList Tryz.prog ops Q rest (a.put o.dst (.slice A' (n + m) c')) w') : wpList Tryz.prog ops Q (o :: rest) a w :=
  wpList_plain hgd fun _ hK2 => wp_appendI w s z ho hs h hz hr hlo hn hm fun A' c' w' h2 h3 => hK2 _ _ (hK A' c' w' h2 h3)
theorem step_appendI (hgd : o.guard = none) (s z : Operand)
    (ho : o.op = .call { callee := .builtin .append, args := #[s, z], argTypes := #[22, 22] })
    (hs : a.eval s = .slice A n c) (h : Own w lo hi 3 1 A n c x) (hz : a.eval z = .slice A2 m c2) (hr : Rd w B A2 m c2 y) (hlo : lo ≤ w.heap.size) (hn : n ≤ 1073741824) (hm : m ≤ 1073741824)
    (hK : ∀ A' c' w', Own w' lo w'.heap.size 3 1 A' (n + m) c' (thenI n x y) → Below lo w w' → K (a.put o.dst (.slice A' (n + m) c')) w') :
    if Region.wanted o (yielded ops a.tmps) = true then Oper.wp Tryz.prog o a w K Q else E := by
  have hw : Region.wanted o (yielded ops a.tmps) = true := by simp [Region.wanted, hgd]
  rw [if_pos hw]
  exact wp_appendI w s z ho hs h hz hr hlo hn hm hK
end
end Go.Proofs.YtjonhbmgmamchaaGreatDoor

/-
  append of all elements of a slice of slices that is only read onto a slice of slices of the call's own.
-/
namespace Go.Proofs.YtjonhbmgmamchaaGreatDoor
open Go.RowKit

/-- First x 0, .., x (n - 1), then y 0, y 1, .. -/
def thenV (n : Nat) (x y : Nat → Value) : Nat → Value := fun j => if j < n then x j else y (j - n)

theorem run_appendV (w : World) (ty : TypeId) {lo hi B n c m c2 : Nat} {A A2 : Option Addr} {x y : Nat → Value} (h : Own w lo hi 22 1 A n c x) (hr : RdV w B A2 m c2 y) (hy : ∀ k, (y k).oneCell' = true) (hlo : lo ≤ w.heap.size) (hn : n ≤ 1073741824) (hm : m ≤ 1073741824) :
    ∃ A' c' w', (Builtin.append_ #[37, 37] ty #[.slice A n c, .slice A2 m c2]).run Tryz.prog w = .ok (.slice A' (n + m) c') w' ∧ Own w' lo w'.heap.size 22 1 A' (n + m) c' (thenV n x y) ∧ Below lo w w' ∧ ((Value.slice A' (n + m) c').ownBlock = (Value.slice A n c).ownBlock ∨ (Value.slice A' (n + m) c').ownBlock = some w.heap.size) ∧ w.grownBy w' (Value.slice A n c).ownBlock := by
  obtain ⟨i, hi', hzz⟩ := Option.map_eq_some_iff.1 info_ints
  simp only [Prod.mk.injEq] at hzz
  obtain ⟨hz, hsize, hbytes⟩ := hzz
  have main : ∀ v' w', w'.ownsRow lo 22 1 v' (n + m) ((List.range (n * 1)).map x ++ (List.range m).map y) → w.grownBy w' (Value.slice A n c).ownBlock →
      ∃ A' c', v' = .slice A' (n + m) c' ∧ Own w' lo w'.heap.size 22 1 A' (n + m) c' (thenV n x y) ∧ Below lo w w' := by
    intro v' w' hrow hg
    obtain ⟨A', c', rfl⟩ := row_form hrow
    refine ⟨A', c', rfl, Own.of_row hrow (fun j hj => ?_), (Below.refl _ _).grown hg hlo (fun k hk => (h.block k hk).1)⟩
    rw [List.getElem?_append]
    simp only [List.length_map, List.length_range, Nat.mul_one]
    unfold thenV
    by_cases hj2 : j < n
    · simp [hj2]
    · rw [if_neg hj2, if_neg hj2, List.getElem?_map, List.getElem?_range (by omega)]
      rfl
  rcases A2 with _ | ad
  · have hm0 : m = 0 := by
      rcases Nat.eq_zero_or_pos m with h0 | h0
      · exact h0
      · obtain ⟨b, o, he, _⟩ := hr.2 h0
        cases he
    subst hm0
    refine ⟨A, c, w, ?_, ?_, Below.refl _ _, .inl rfl, World.grownBy.refl w _⟩
    · rcases h with ⟨rfl, rfl, rfl⟩ | ⟨g, cur, rfl, _, _, _, hnc, _⟩
      · simp [Builtin.append_, run_underlying Tryz.underlying37, sizeOf, typeInfo, hi', Builtin.lenOf, Builtin.firstCells]
      · simp [Builtin.append_, run_underlying Tryz.underlying37, sizeOf, typeInfo, hi', Builtin.lenOf, Builtin.firstCells, hnc, storeCells]
    · exact (h.lt.mono (Nat.le_refl _) (Nat.min_le_right _ _)).congr (fun j hj => by unfold thenV; rw [if_pos (by omega)])
  · have hcells : ∀ (j : Nat) (u : Value), ((List.range m).map y)[j]? = some u → w.cell? (ad.add j) = some u := by
      intro j u hu
      have hj : j < m := by
        have := (List.getElem?_eq_some_iff.1 hu).1
        simpa using this
      obtain ⟨b, o, he, _, hc⟩ := hr.2 (by omega)
      simp only [Option.some.injEq] at he
      subst he
      have hadd : (⟨b, o, none⟩ : Addr).add j = ⟨b, o + j, none⟩ := by unfold Addr.add; split <;> simp_all
      rw [hadd, hc j hj]
      simpa [hj] using hu
    obtain ⟨v', w', hrun, h2, h3, _, h5⟩ := run_append_own_at (P := Tryz.prog) w lo 37 ty 22 i _ 1 24 Tryz.underlying37 hi' hz hsize hbytes rfl (by omega) _ n _ h.row ad m c2 _ (by simp) hcells (by
      intro u hu
      obtain ⟨j, _, rfl⟩ := List.mem_map.1 hu
      exact hy j) (by unfold maxLen; omega) (by omega) hlo
    obtain ⟨A', c', rfl, hO, hB⟩ := main v' w' h2 h3
    exact ⟨A', c', w', hrun, hO, hB, h5, h3⟩

section
variable (w : World) {ops : Array Oper} {rest : List Oper} {o : Oper} {a : Act} {K : Act → World → Prop} {Q : Exit → Act → World → Prop} {E : Prop}
  {lo hi B n c m c2 : Nat} {A A2 : Option Addr} {x y : Nat → Value}
theorem wp_appendV (s z : Operand)
    (ho : o.op = .call { callee := .builtin .append, args := #[s, z], argTypes := #[37, 37] })
    (hs : a.eval s = .slice A n c) (h : Own w lo hi 22 1 A n c x) (hz : a.eval z = .slice A2 m c2) (hr : RdV w B A2 m c2 y) (hy : ∀ k, (y k).oneCell' = true) (hlo : lo ≤ w.heap.size) (hn : n ≤ 1073741824) (hm : m ≤ 1073741824)
    (hK : ∀ A' c' w', Own w' lo w'.heap.size 22 1 A' (n + m) c' (thenV n x y) → Below lo w w' → K (a.put o.dst (.slice A' (n + m) c')) w') : o.wp Tryz.prog a w K Q := by
  obtain ⟨A', c', w', hrun, h2, h3, _⟩ := run_appendV w o.type h hr hy hlo hn hm
  unfold Oper.wp execOp
  simp only [ho, resolve, invoke, builtin, Sem.run_bind, Sem.run_pure, Result.andThen_ok, List.map_toArray, List.map_cons, List.map_nil, hs, hz, hrun]
  exact hK _ _ _ h2 h3
theorem step_appendV (hgd : o.guard = none) (s z : Operand)
    (ho : o.op = .call { callee := .builtin .append, args := #[s, z], argTypes := #[37, 37] })
    (hs : a.eval s = .slice A n c) (h : Own w lo hi 22 1 A n c x) (hz : a.eval z = .slice A2 m c2) (hr : RdV w B A2 m c2 y) (hy : ∀ k, (y k).oneCell' = true) (hlo : lo ≤ w.heap.size) (hn : n ≤ 1073741824) (hm : m ≤ 1073741824)
    (hK : ∀ A' c' w', Own w' lo w'.heap.size 22 1 A' (n + m) c' (thenV n x y) → Below lo w w' → K (a.put o.dst (.slice A' (n + m) c')) w') :
    if Region.wanted o (yielded ops a.tmps) = true then Oper.wp Tryz.prog o a w K Q else E := by
  have hw : Region.wanted o (yielded ops a.tmps) = true := by simp [Region.wanted, hgd]
  rw [if_pos hw]
  exact wp_appendV w s z ho hs h hz hr hy hlo hn hm hK
end
end Go.Proofs.YtjonhbmgmamchaaGreatDoor

/-
  Contracts: a copy of a graph in new memory, of both programs; two bits turned.
-/
namespace Go.Proofs.YtjonhbmgmamchaaGreatDoor
open Go.RowKit

set_option maxHeartbeats 1000000 in
theorem copyGraph_any (sz : Int) (A : Option Addr) (m c : Nat) (x : Nat → Int) (w : World) (B : Nat) (h : Rd w B A m c x) (hB : B ≤ w.heap.size) (hm : m ≤ 1048576) :
    Calls Tryz.prog 97 #[.agg #[.int .i64 sz, .slice A m c]] w fun e w' => ∃ A' c', e = .returned (.agg #[.int .i64 sz, .slice A' m c']) ∧ Own w' (w.heap.size + 2) w'.heap.size 3 1 A' m c' (fun j => .int .i64 (x j)) ∧ Below w.heap.size w w' := by
  obtain ⟨W, hW⟩ : ∃ W : World, W = ((w.alloc (Obj.cells #[Value.int IntKind.i64 sz, Value.slice A m c] 27)).alloc (Obj.cells #[Value.int IntKind.i64 0, Value.slice none 0 0] 27)) := ⟨_, rfl⟩
  have HB : Hid (Below w.heap.size w W) := by rw [hW]; exact ((Below.refl _ _).alloc (Nat.le_refl _) _).alloc (by simp) _
  have HZ : Hid (w.heap.size + 2 = W.heap.size) := by rw [hW]; simp [Hid]
  have e0 : W.cell? ⟨w.heap.size, 0, none⟩ = some (.int .i64 sz) := by rw [hW]; simp [go_sem]
  have e1 : W.cell? ⟨w.heap.size, 1, none⟩ = some (.slice A m c) := by rw [hW]; simp [go_sem]
  have e2 : W.cell? ⟨w.heap.size + 1, 0, none⟩ = some (.int .i64 0) := by rw [hW]; simp [go_sem]
  have e3 : W.cell? ⟨w.heap.size + 1, 1, none⟩ = some (.slice none 0 0) := by rw [hW]; simp [go_sem]
  have e4 : W.frozen? ⟨w.heap.size + 1, 0, none⟩ = false := by rw [hW]; simp [go_sem]
  have e5 : W.frozen? ⟨w.heap.size + 1, 1, none⟩ = false := by rw [hW]; simp [go_sem]
  have k1 := h.keep (HB.out.mono hB) (Nat.le_refl _)
  have HK := Lib.hid k1
  have HW := Lib.hid hW
  clear hW h k1
  go_enter Tryz.func97, Tryz.ntmps97
  go_wp2_with fail
  rw [← HW.out]
  have HO : Hid (Own ((W.alloc (Obj.cells #[] 3)).drew) W.heap.size (W.heap.size + 1) 3 1 (some ⟨W.heap.size, 0, none⟩) 0 0 (fun _ => .int .i64 0)) :=
    .inr ⟨W.heap.size, #[], rfl, Nat.le_refl _, Nat.lt_succ_self _, heap_alloc_new W _, Nat.le_refl _, by unfold maxLen; omega, rfl, fun j hj => absurd hj (by omega)⟩
  have d2 : ((W.alloc (Obj.cells #[] 3)).drew).cell? ⟨w.heap.size + 1, 0, none⟩ = some (.int .i64 0) := (World.cell?_alloc_lt W _ ⟨w.heap.size + 1, 0, none⟩ (by have := HZ.out; show w.heap.size + 1 < _; omega)).trans e2
  have d3 : ((W.alloc (Obj.cells #[] 3)).drew).cell? ⟨w.heap.size + 1, 1, none⟩ = some (.slice none 0 0) := (World.cell?_alloc_lt W _ ⟨w.heap.size + 1, 1, none⟩ (by have := HZ.out; show w.heap.size + 1 < _; omega)).trans e3
  have d4 : ((W.alloc (Obj.cells #[] 3)).drew).frozen? ⟨w.heap.size + 1, 0, none⟩ = false := (World.frozen?_of_block (Below.heap_alloc W _ (w.heap.size + 1) (by have := HZ.out; omega))).trans e4
  have d5 : ((W.alloc (Obj.cells #[] 3)).drew).frozen? ⟨w.heap.size + 1, 1, none⟩ = false := (World.frozen?_of_block (Below.heap_alloc W _ (w.heap.size + 1) (by have := HZ.out; omega))).trans e5
  have HR : Hid (Rd ((W.alloc (Obj.cells #[] 3)).drew) B A m c x) := HK.out.keep (((Below.refl B W).alloc (by have := HZ.out; omega) _).drew) (Nat.le_refl _)
  go_region_held3 (fun z => z.cell? ⟨w.heap.size, 0, none⟩ = some (.int .i64 sz) ∧ z.cell? ⟨w.heap.size, 1, none⟩ = some (.slice A m c))
    (first | (refine ⟨?_, ?_⟩ <;> assumption) | go_keep | (refine ⟨?_, ?_⟩ <;> (refine (hb.cell (by have := HZ.out; show w.heap.size < _; omega)).trans ?_; go_keep)))
    ((refine step_appendI _ (by rfl) _ _ (by rfl) (by rfl) HO.out (by rfl) HR.out (by simp) (by omega) (by omega) ?_; intro A' c' w1 hO hb; have r2 := up hb d2 (by have := HZ.out; omega); have r3 := up hb d3 (by have := HZ.out; omega); have r4 := upf hb d4 (by have := HZ.out; omega); have r5 := upf hb d5 (by have := HZ.out; omega)))
  have hz2 := hb.size
  simp at hz2
  rw [Nat.zero_add] at hO
  have HO2 := Lib.hid hO
  have HB2 : Hid (Below w.heap.size w w1) := HB.out.trans (((((Below.refl W.heap.size W).alloc (Nat.le_refl _) _).drew).trans hb).mono (by have := HZ.out; omega))
  clear hO hb d2 d3 d4 d5 e0 e1 e2 e3 e4 e5 HO HR HK HW
  go_wp2
  have F : Fr (w.heap.size + 1) (w.heap.size + 2) w1 _ := ((Fr.refl _ _ _).setCell (p := ⟨w.heap.size + 1, 0, none⟩) (by show w.heap.size + 1 ≤ w.heap.size + 1; omega) (by show w.heap.size + 1 < _; omega) (Value.int IntKind.i64 sz)).setCell (p := ⟨w.heap.size + 1, 1, none⟩) (by show w.heap.size + 1 ≤ w.heap.size + 1; omega) (by show w.heap.size + 1 < _; omega) (Value.slice A' m c')
  have O1 := ((HO2.out.keep F (.inr (by have := HZ.out; omega))).mono (lo' := w.heap.size + 2) (by have := HZ.out; omega) F.size)
  exact bodyPost_ret (v := .agg #[.int .i64 sz, .slice A' m c']) (by simp [results, Tryz.results97, go_sem, *]) rfl ⟨A', c', rfl, O1.congr (fun j hj => by unfold thenI; simp), HB2.out.trans (F.below (by omega) (by have := HZ.out; omega))⟩
end Go.Proofs.YtjonhbmgmamchaaGreatDoor

/-
  Contracts: two bits of a graph turned.
-/
namespace Go.Proofs.YtjonhbmgmamchaaGreatDoor
open Go.RowKit


theorem bits_flip {a u : Nat} (ha : a < 128) (hu : u < 7) : bits .xor .i64 (a : Int) (2 ^ u) = ((a ^^^ 2 ^ u : Nat) : Int) := by
  have h2 := two_pow_le (n := u) (by omega)
  have := i64_xor_nat a (2 ^ u) (by omega) (by omega)
  rw [← this]; simp
set_option maxHeartbeats 1000000 in
theorem flip_any (sz : Int) (g m c : Nat) (x : Nat → Nat) (v u : Nat) (w : World) (lo hi : Nat) (h : Own w lo hi 3 1 (some ⟨g, 0, none⟩) m c (fun j => .int .i64 (x j))) (_hhi : hi ≤ w.heap.size) (hm : m ≤ 7) (hv : v < m) (hu : u < m) (hne : v ≠ u) (hx : ∀ j, j < m → x j < 128) :
    Calls Tryz.prog 103 #[.agg #[.int .i64 sz, .slice (some ⟨g, 0, none⟩) m c], .int .i64 v, .int .i64 u] w fun e w' => e = .returned (.tuple #[]) ∧ Own w' lo hi 3 1 (some ⟨g, 0, none⟩) m c (fun j => .int .i64 (addN x v u j)) ∧ Fr lo hi w w' := by
  obtain ⟨g', e1, hg1, hg2, hg3, hc, hf⟩ := h.at_ (by omega)
  simp only [Option.some.injEq, Addr.mk.injEq, and_true] at e1
  subst e1
  have q1 := hc v (by omega)
  have q2 := hc u (by omega)
  have b1 := bits_flip (hx v hv) (u := u) (by omega)
  have b2 := bits_flip (hx u hu) (u := v) (by omega)
  have f1 := hf v
  have f2 := hf u
  have p1 := pow_shl v (by omega)
  have p2 := pow_shl u (by omega)
  have i1 : (v : Int) < (m : Int) := by omega
  have i2 : (u : Int) < (m : Int) := by omega
  have HH := Lib.hid h
  have HX := Lib.hid hx
  clear h hc hf hx
  go_enter Tryz.func103, Tryz.ntmps103
  go_wp2_with fail
  go_region
  have hgn : g ≠ w.heap.size := by omega
  have hne2 : (u = v) = False := by simp; omega
  have hne3 : (v = u) = False := by simp; omega
  go_wp2
  go_region
  have O1 : Hid (Own (((w.setCell ⟨g, v, none⟩ (.int .i64 ((x v ^^^ 2 ^ u : Nat) : Int))).setCell ⟨g, u, none⟩ (.int .i64 ((x u ^^^ 2 ^ v : Nat) : Int))).alloc (Obj.cells #[Value.int IntKind.i64 sz, Value.slice (some ⟨g, 0, none⟩) m c] 27)).drew.drew lo hi 3 1 (some ⟨g, 0, none⟩) m c (fun j => .int .i64 (addN x v u j))) := by
    refine (((((HH.out.set_ v _).set_ u _).alloc _).drew).drew).congr (fun j hj => ?_)
    unfold addN
    by_cases h1 : j = u
    · subst h1; rw [if_pos rfl, if_neg (fun e => hne e.symm), if_pos rfl]
    · rw [if_neg h1]
      by_cases h2 : j = v
      · subst h2; rw [if_pos rfl, if_pos rfl]
      · rw [if_neg h2, if_neg h2, if_neg h1]
  have F1 : Hid (Fr lo hi w (((w.setCell ⟨g, v, none⟩ (.int .i64 ((x v ^^^ 2 ^ u : Nat) : Int))).setCell ⟨g, u, none⟩ (.int .i64 ((x u ^^^ 2 ^ v : Nat) : Int))).alloc (Obj.cells #[Value.int IntKind.i64 sz, Value.slice (some ⟨g, 0, none⟩) m c] 27)).drew.drew) :=
    ((((Fr.refl lo hi w).setCell (p := ⟨g, v, none⟩) hg1 hg2 _).setCell (p := ⟨g, u, none⟩) hg1 hg2 _).alloc _).drew.drew
  clear q1 q2 b1 b2 f1 f2 p1 p2
  go_end0
  exact ⟨rfl, O1.out, F1.out⟩
end Go.Proofs.YtjonhbmgmamchaaGreatDoor

/-
  The pairs of n vertices in lexicographic order, gone through one after the other; plain lists, no program.
-/
namespace Go.Proofs.YtjonhbmgmamchaaGreatDoor

/-- The pairs that stand before (v, w): all of the vertices before v, and those of v with a vertex before w. -/
def prRow (n v : Nat) : List (Nat × Nat) := (List.range' (v + 1) (n - (v + 1))).map fun w => (v, w)
def prTo (n v w : Nat) : List (Nat × Nat) := (List.range v).flatMap (prRow n) ++ (List.range' (v + 1) (w - (v + 1))).map fun u => (v, u)
def pr (n : Nat) : List (Nat × Nat) := (List.range n).flatMap (prRow n)

theorem prTo_zero (n : Nat) : prTo n 0 1 = [] := by simp [prTo]
theorem prTo_step (n v w : Nat) (h : v + 1 ≤ w) : prTo n v (w + 1) = prTo n v w ++ [(v, w)] := by
  unfold prTo
  rw [List.append_assoc]
  congr 1
  rw [show w + 1 - (v + 1) = (w - (v + 1)) + 1 by omega, List.range'_concat, List.map_append]
  congr 1
  simp only [List.map_cons, List.map_nil, Nat.one_mul]
  rw [show v + 1 + (w - (v + 1)) = w by omega]
theorem prTo_row (n v : Nat) : prTo n (v + 1) (v + 1 + 1) = prTo n v n := by
  unfold prTo
  rw [List.range_succ, List.flatMap_append]
  simp [prRow]
theorem prTo_end (n w : Nat) (h : w ≤ n + 1) : prTo n n w = pr n := by
  unfold prTo pr
  rw [show w - (n + 1) = 0 by omega]
  simp
theorem mem_pr {n : Nat} {p : Nat × Nat} : p ∈ pr n ↔ p.1 < p.2 ∧ p.2 < n := by
  obtain ⟨a, b⟩ := p
  simp only [pr, prRow, List.mem_flatMap, List.mem_range, List.mem_map, List.mem_range'_1, Prod.mk.injEq]
  constructor
  · rintro ⟨v, hv, w, hw, rfl, rfl⟩; omega
  · rintro ⟨h1, h2⟩; exact ⟨a, by omega, b, by omega, rfl, rfl⟩
/-- How long the list is. -/
theorem length_pr_le {n : Nat} (h : n ≤ 7) : (pr n).length ≤ 21 := by
  have h8 : n = 0 ∨ n = 1 ∨ n = 2 ∨ n = 3 ∨ n = 4 ∨ n = 5 ∨ n = 6 ∨ n = 7 := by omega
  rcases h8 with rfl | rfl | rfl | rfl | rfl | rfl | rfl | rfl <;> decide
theorem prTo_prefix (n v w : Nat) (hv : v < n) (h : v + 1 ≤ w) (hw : w ≤ n) : ∃ t, pr n = prTo n v w ++ t := by
  obtain ⟨d, rfl⟩ : ∃ d, n = w + d := ⟨n - w, by omega⟩
  have : prRow (w + d) v = (List.range' (v + 1) (w - (v + 1))).map (fun u => (v, u)) ++ (List.range' w d).map (fun u => (v, u)) := by
    unfold prRow
    rw [← List.map_append]
    congr 1
    rw [show w + d - (v + 1) = (w - (v + 1)) + d by omega, ← List.range'_append_1]
    rw [show v + 1 + (w - (v + 1)) = w by omega]
  obtain ⟨e, he⟩ : ∃ e, w + d = v + 1 + e := ⟨w + d - (v + 1), by omega⟩
  refine ⟨(List.range' w d).map (fun u => (v, u)) ++ (List.range' (v + 1) e).flatMap (prRow (w + d)), ?_⟩
  unfold pr prTo
  have hr : List.range (w + d) = List.range v ++ (v :: List.range' (v + 1) e) := by
    rw [he, List.range_eq_range', List.range_eq_range']
    have h1 := List.range'_append_1 (s := 0) (m := v) (n := e + 1)
    rw [Nat.zero_add] at h1
    rw [show v + 1 + e = v + (e + 1) by omega, ← h1, List.range'_succ]
  rw [hr, List.flatMap_append, List.flatMap_cons, this]
  simp [List.append_assoc]
end Go.Proofs.YtjonhbmgmamchaaGreatDoor

/-
  Slices of edits: what they read as; the law's helpers on them.
-/
namespace Go.Proofs.YtjonhbmgmamchaaGreatDoor
open Go.RowKit

end Go.Proofs.YtjonhbmgmamchaaGreatDoor

/-
  Contracts: the edges of a graph, of both programs; whether two vertices of a good graph are neighbours.
-/
namespace Go.Proofs.YtjonhbmgmamchaaGreatDoor
open Go.RowKit

/-- append of one inner slice. -/
theorem wpList_pushD (W : World) {ops : Array Oper} {rest : List Oper} {o : Oper} {a : Act} {Q : Exit → Act → World → Prop} (hgd : o.guard = none) (s y : Operand)
    (ho : o.op = .call { callee := .builtin .append, args := #[s, y], argTypes := #[37, 37] })
    (lo hi : Nat) (A : Option Addr) (c : Nat) (D : List Dsc) (h : OwnD W lo hi A c D) (hlo : lo ≤ W.heap.size) (hhi : hi ≤ W.heap.size) (d : Dsc)
    (hd : Own W lo hi 3 1 d.1 d.2.2.length d.2.1 (ii d.2.2)) (hnew : ∀ e ∈ D, ∀ a, e.1 = some a → d.1 ≠ some a) (hs : a.eval s = .slice A D.length c) (cx H : Nat) (hH : W.heap.size = H) (hy : a.eval y = .slice (some ⟨H, 0, none⟩) 1 cx)
    (hn : D.length ≤ 1073741824)
    (hK : ∀ g cap w', OwnD w' lo w'.heap.size (some ⟨g, 0, none⟩) cap (D ++ [d]) → Below lo W w' → wpList Tryz.prog ops Q rest (a.put o.dst (.slice (some ⟨g, 0, none⟩) (D.length + 1) cap)) w') :
    wpList Tryz.prog ops Q (o :: rest) a (W.alloc (Obj.cells #[dv d] 22)) := by
  subst hH
  have ha := h.alloc (Obj.cells #[dv d] 22)
  refine wpList_push (W.alloc (Obj.cells #[dv d] 22)) hgd s y 37 ho 22 (.slice none 0 0) 1 24 Tryz.underlying37 info_ints rfl (by omega) lo hi A D.length c (dvs (D ++ [d])) hs
    (ha.1.congr (fun j hj => (dvs_left (by omega)).symm)) (by simp; omega) W.heap.size #[dv d] 22 (0, 0) cx (heap_alloc_new W _) hy rfl ?_ (by intro u hu; simp at hu; subst hu; rfl) hn (by omega) ?_
  · intro j hj
    obtain rfl : j = 0 := by omega
    rw [show D.length * 1 + 0 = D.length by omega, dvs_last]; rfl
  · intro g cap w' hp
    exact hK g cap w' (OwnD.push ha.2.1 ha.2.2 (hd.alloc _) hnew hp ha.1 (by simp; omega)) (((Below.refl _ _).alloc hlo _).trans hp.below)

theorem pair_own (w : World) (lo : Nat) (h : lo ≤ w.heap.size) (v u : Int) : Own (w.alloc (Obj.cells #[Value.int .i64 v, Value.int .i64 u] 3)) lo (w.heap.size + 1) 3 1 (some ⟨w.heap.size, 0, none⟩) 2 2 (ii [v, u]) :=
  .inr ⟨w.heap.size, _, rfl, h, Nat.lt_succ_self _, heap_alloc_new w _, Nat.le_refl _, by unfold maxLen; omega, rfl, fun j hj => by
    have hc : j = 0 ∨ j = 1 := by omega
    rcases hc with rfl | rfl <;> rfl⟩
theorem OwnD.fresh {w : World} {lo hi g c : Nat} {A : Option Addr} {D : List Dsc} (h : OwnD w lo hi A c D) (hg : hi ≤ g) : ∀ e ∈ D, ∀ a, e.1 = some a → (some (⟨g, 0, none⟩ : Addr)) ≠ some a := by
  intro e he a ha h2
  rcases (h.2.1 e he).at_block with h3 | ⟨g5, h3, _, h5⟩
  · rw [h3] at ha; cases ha
  · rw [ha] at h3
    rw [h3] at h2
    simp only [Option.some.injEq, Addr.mk.injEq, and_true] at h2
    omega

/-- The edges that stand before (v, u). -/
def ed (x : Nat → Int) (n v u : Nat) : List (List Int) := ((prTo n v u).filter fun p => (x p.1).toNat.testBit p.2).map fun p => [(p.1 : Int), (p.2 : Int)]
def edAll (x : Nat → Int) (n : Nat) : List (List Int) := ((pr n).filter fun p => (x p.1).toNat.testBit p.2).map fun p => [(p.1 : Int), (p.2 : Int)]
theorem ed_yes {x : Nat → Int} {n v u : Nat} (h : v + 1 ≤ u) (hb : (x v).toNat.testBit u = true) : ed x n v (u + 1) = ed x n v u ++ [[(v : Int), (u : Int)]] := by
  unfold ed; rw [prTo_step n v u h]; simp [hb]
theorem ed_no {x : Nat → Int} {n v u : Nat} (h : v + 1 ≤ u) (hb : (x v).toNat.testBit u = false) : ed x n v (u + 1) = ed x n v u := by
  unfold ed; rw [prTo_step n v u h]; simp [hb]
theorem ed_row {x : Nat → Int} {n v : Nat} : ed x n (v + 1) (v + 1 + 1) = ed x n v n := by unfold ed; rw [prTo_row]
theorem ed_zero {x : Nat → Int} {n : Nat} : ed x n 0 1 = [] := by unfold ed; rw [prTo_zero]; rfl
theorem ed_end {x : Nat → Int} {n : Nat} : ed x n n (n + 1) = edAll x n := by unfold ed edAll; rw [prTo_end n _ (Nat.le_refl _)]
theorem ed_len {x : Nat → Int} {n v u : Nat} (hn : n ≤ 7) (hv : v < n) (h : v + 1 ≤ u) (hu : u ≤ n) : (ed x n v u).length ≤ 21 := by
  obtain ⟨t, ht⟩ := prTo_prefix n v u hv h hu
  have h1 := length_pr_le hn
  rw [ht, List.length_append] at h1
  unfold ed
  rw [List.length_map]
  have := List.length_filter_le (fun p => (x p.1).toNat.testBit p.2) (prTo n v u)
  omega

/-- The edges of a graph that is one, none else. -/
noncomputable def edgesL (s : Int) (m : Nat) (x : Nat → Int) : List (List Int) := if okB s m x = true then edAll x m else []

set_option maxHeartbeats 1000000 in
theorem EdgesOf_i (s : Int) (A : Option Addr) (m c : Nat) (x : Nat → Int) (w : World) (B : Nat) (h : Rd w B A m c x) (hB : B ≤ w.heap.size) (hm : m ≤ 1048576) :
    Calls Tryz.prog 66 #[.agg #[.int .i64 s, .slice A m c]] w fun e w' => ∃ A' c' D, e = .returned (.slice A' D.length c') ∧ lists D = edgesL s m x ∧ OwnD w' w.heap.size w'.heap.size A' c' D ∧ Below w.heap.size w w' := by
  obtain ⟨W, hW⟩ : ∃ W : World, W = (w.alloc (Obj.cells #[Value.int IntKind.i64 s, Value.slice A m c] 27)).alloc (Obj.cells #[] 22) := ⟨_, rfl⟩
  have HB : Hid (Below w.heap.size w W) := by rw [hW]; exact ((Below.refl _ _).alloc (Nat.le_refl _) _).alloc (by simp) _
  have hsz : w.heap.size < W.heap.size := by rw [hW]; simp; omega
  have hz1 : w.heap.size + 1 < W.heap.size := by rw [hW]; simp
  have e0 : W.cell? ⟨w.heap.size, 0, none⟩ = some (.int .i64 s) := by rw [hW]; simp [go_sem]
  have e1 : W.cell? ⟨w.heap.size, 1, none⟩ = some (.slice A m c) := by rw [hW]; simp [go_sem]
  have HD : Hid (OwnD W (w.heap.size + 1) W.heap.size (some ⟨w.heap.size + 1, 0, none⟩) 0 []) := by
    refine OwnD.none_ _ _ _ _ (Nat.le_refl _) hz1 ?_
    rw [hW]
    have := heap_alloc_new (w.alloc (Obj.cells #[Value.int IntKind.i64 s, Value.slice A m c] 27)) (Obj.cells #[] 22)
    simpa using this
  have HW := Lib.hid hW
  clear hW
  go_enter Tryz.func66, Tryz.ntmps66
  go_wp2_with fail
  rw [← HW.out]
  refine (IsGraph_any s A m c x W B (h.keep (HB.out.mono hB) (Nat.le_refl _)) (by omega) hm).mono ?_
  rintro e w1 ⟨rfl, hb1⟩
  have f0 := up hb1 e0 hsz
  have f1 := up hb1 e1 hsz
  have z1 := hb1.size
  have HD1 := Lib.hid (HD.out.keepB hb1 (Nat.le_refl _))
  have HB1 := Lib.hid (HB.out.trans (hb1.mono (by omega)))
  have k1 := h.keep (HB1.out.mono hB) (Nat.le_refl _)
  clear HW HB HD e0 e1 hb1
  cases hok : okB s m x
  · have hE : Hid (([] : List (List Int)) = edgesL s m x) := by show [] = edgesL s m x; unfold edgesL; rw [hok]; rfl
    clear hok h k1
    go_wp2
    go_ret
    exact ⟨_, 0, [], rfl, hE.out, HD1.out.mono (by omega) z1, HB1.out⟩
  · have hOK : OkG s m x := by
      refine Classical.byContradiction fun h => ?_
      rw [okB_no h] at hok; cases hok
    obtain ⟨r, rfl, vg, hx⟩ := hOK
    have hE : Hid (edgesL m m x = edAll x m) := by
      show edgesL m m x = _; unfold edgesL; rw [hok]; rfl
    have hm1 := vg.n1
    have hm7 := vg.n7
    obtain ⟨b, o, rfl, lb, hc⟩ := k1.pos (by omega)
    have HX := Lib.hid hx
    have hzz : w.heap.size < w1.heap.size := by omega
    clear hok h k1 hx
    go_wp2
    go_loopw [3, 15] (fun l i wr => ∃ (v : Nat) (A' : Option Addr) (c' : Nat) (D : List Dsc), v ≤ m ∧ i = .int .i64 v ∧ l = .slice A' D.length c' ∧ Hid (lists D = ed x m v (v + 1)) ∧ Hid (OwnD wr (w.heap.size + 1) wr.heap.size A' c' D) ∧ Below (w.heap.size + 1) w1 wr) (fun _ i _ => m - (intOf i).toNat)
    case atStart => exact ⟨0, _, 0, [], Nat.zero_le _, rfl, rfl, by show lists [] = _; rw [ed_zero]; rfl, HD1.out.mono (Nat.le_refl _) z1, Below.refl _ _⟩
    case round =>
      obtain ⟨v, A', c', D, hv, rfl, rfl, hL, hO, hbr⟩ := hrel
      by_cases hlt : v < m
      · have q0 := up hbr f0 (Nat.lt_succ_self _)
        have q1 := up hbr f1 (Nat.lt_succ_self _)
        have q2 := (hbr.cell (p := ⟨b, o + v, none⟩) (by show b < _; omega)).trans (hc v hlt)
        have x0 : 0 ≤ x v := by have := HX.out v hlt; omega
        have x1 : x v < 16777216 := by have := HX.out v hlt; have := vg.lt128 hlt; omega
        have i1 : (v : Int) < (m : Int) := by omega
        clear hc
        go_wp2
        obtain ⟨wo, rfl⟩ : ∃ wo : World, wo = wr := ⟨_, rfl⟩
        go_loopw [3, 6] (fun l i wr => ∃ (u : Nat) (A' : Option Addr) (c' : Nat) (D : List Dsc), v + 1 ≤ u ∧ u ≤ m ∧ i = .int .i64 u ∧ l = .slice A' D.length c' ∧ Hid (lists D = ed x m v u) ∧ Hid (OwnD wr (w.heap.size + 1) wr.heap.size A' c' D) ∧ Below (w.heap.size + 1) w1 wr) (fun _ i _ => m - (intOf i).toNat)
        case atStart => exact ⟨v + 1, A', c', D, Nat.le_refl _, by omega, by go_num, rfl, hL, hO, hbr⟩
        case round =>
          obtain ⟨u, A', c', D, hu1, hu2, rfl, rfl, hL, hO, hbr⟩ := hrel
          have q0 := up hbr f0 (Nat.lt_succ_self _)
          by_cases hlu : u < m
          · have i2 : (u : Int) < (m : Int) := by omega
            cases hbit : (x v).toNat.testBit u
            · have HL : Hid (lists D = ed x m v (u + 1)) := hL.out.trans (ed_no hu1 hbit).symm
              have Hb := Lib.hid hbit
              clear hbit hL
              go_wp2_with fail
              refine (has_any _ _ _ x0 x1 (by omega) (by omega)).mono ?_
              simp only [Int.toNat_natCast, Hb.out]
              rintro e w' ⟨rfl, rfl⟩
              go_wp2
              go_roundw
              case rel => exact ⟨u + 1, A', c', D, by omega, by omega, by go_num, rfl, HL, hO, hbr⟩
              case measure => simp [intOf]; omega
            · have HL : Hid (lists D ++ [[(v : Int), (u : Int)]] = ed x m v (u + 1)) := by show _ = _; rw [hL.out]; exact (ed_yes hu1 hbit).symm
              have hlen : D.length ≤ 21 := by
                have h1 := congrArg List.length hL.out
                rw [lists, List.length_map] at h1
                rw [h1]; exact ed_len hm7 hlt hu1 hu2
              have Hb := Lib.hid hbit
              have zz := hbr.size
              clear hbit hL
              go_wp2_with fail
              refine (has_any _ _ _ x0 x1 (by omega) (by omega)).mono ?_
              simp only [Int.toNat_natCast, Hb.out]
              rintro e w' ⟨rfl, rfl⟩
              go_wp2_with (first | (at_builtin; (refine wpList_pushD (wr.alloc (Obj.cells #[Value.int .i64 v, Value.int .i64 u] 3)) rfl _ _ rfl (w.heap.size + 1) (wr.heap.size + 1) A' c' D ((hO.out.alloc _).mono (Nat.le_refl _) (Nat.le_succ _)) (by simp; omega) (by simp) (some ⟨wr.heap.size, 0, none⟩, 2, [(v : Int), (u : Int)]) (pair_own wr (w.heap.size + 1) (by omega) v u) (hO.out.fresh (Nat.le_refl _)) rfl 1 (wr.heap.size + 1) (by simp) rfl (by omega) ?_; intro g cap w2 hO2 hb2)))
              have H1 := Lib.hid hO2
              have H2 : Hid (Below (w.heap.size + 1) w1 w2) := (hbr.alloc (by omega) _).trans hb2
              clear hO2 hb2 hO hbr q0
              go_wp2
              go_roundw
              case rel => exact ⟨u + 1, _, _, D ++ [(some ⟨wr.heap.size, 0, none⟩, 2, [(v : Int), (u : Int)])], by omega, by omega, by go_num, by rw [List.length_append]; rfl, by show lists (D ++ _) = _; rw [← HL.out]; simp [lists], H1, H2.out⟩
              case measure => simp [intOf]; omega
          · have hge : (m : Int) ≤ (u : Int) := by omega
            have eu : u = m := by omega
            have HL : Hid (lists D = ed x m (v + 1) (v + 1 + 1)) := by show _ = _; rw [ed_row, ← eu, hL.out, eu]
            have Hb := Lib.hid hbr
            clear hL hbr eu
            go_wp2
            go_roundw
            case rel => exact ⟨v + 1, A', c', D, by omega, by go_num, rfl, HL, hO, Hb.out⟩
            case measure => simp [intOf]; omega
      · have ev : v = m := by omega
        have hge : (m : Int) ≤ (v : Int) := by omega
        have HL : Hid (lists D = edgesL m m x) := by show _ = _; rw [hL.out, ev, ed_end, hE.out]
        have H2 : Hid (Below w.heap.size w wr) := HB1.out.trans (hbr.mono (Nat.le_succ _))
        clear hL hbr ev hc f0 f1
        go_wp2
        go_ret
        exact ⟨A', c', D, rfl, HL.out, hO.out.mono (Nat.le_succ _) (Nat.le_refl _), H2.out⟩
end Go.Proofs.YtjonhbmgmamchaaGreatDoor

/-
  Contracts of the reference: whether two vertices of a good graph are neighbours; the edges of a graph.
-/
namespace Go.Proofs.YtjonhbmgmamchaaGreatDoor
open Go.RowKit

theorem l2Edge_any (s : Int) (b o m c : Nat) (w : World) (v u : Nat) (y : Int) (hy : w.cell? ⟨b, o + v, none⟩ = some (.int .i64 y)) (hb : b < w.heap.size) (hv : v < m) (h0 : 0 ≤ y) (h1 : y < 16777216) (hu : u ≤ 63) :
    Calls Tryz.prog 87 #[.agg #[.int .i64 s, .slice (some ⟨b, o, none⟩) m c], .int .i64 v, .int .i64 u] w fun e w' => e = .returned (.bool (y.toNat.testBit u)) ∧ Below w.heap.size w w' := by
  have HB : Hid (Below w.heap.size w (w.alloc (Obj.cells #[Value.int IntKind.i64 s, Value.slice (some ⟨b, o, none⟩) m c] 27))) := (Below.refl _ _).alloc (Nat.le_refl _) _
  have E := and_one_i64 y u h0 h1
  have H := Lib.hid E
  have hv' : (v : Int) < (m : Int) := by omega
  have q := (HB.out.cell (p := ⟨b, o + v, none⟩) hb).trans hy
  clear E hy
  go_enter Tryz.func87, Tryz.ntmps87
  go_wp2
  go_ret
  exact ⟨ret_bool H.out, HB.out⟩

set_option maxHeartbeats 1000000 in
theorem EdgesOf_s (s : Int) (A : Option Addr) (m c : Nat) (x : Nat → Int) (w : World) (B : Nat) (h : Rd w B A m c x) (hB : B ≤ w.heap.size) (hm : m ≤ 1048576) :
    Calls Tryz.prog 49 #[.agg #[.int .i64 s, .slice A m c]] w fun e w' => ∃ A' c' D, e = .returned (.slice A' D.length c') ∧ lists D = edgesL s m x ∧ OwnD w' w.heap.size w'.heap.size A' c' D ∧ Below w.heap.size w w' := by
  obtain ⟨W, hW⟩ : ∃ W : World, W = (w.alloc (Obj.cells #[Value.int IntKind.i64 s, Value.slice A m c] 27)).alloc (Obj.cells #[] 22) := ⟨_, rfl⟩
  have HB : Hid (Below w.heap.size w W) := by rw [hW]; exact ((Below.refl _ _).alloc (Nat.le_refl _) _).alloc (by simp) _
  have hsz : w.heap.size < W.heap.size := by rw [hW]; simp; omega
  have hz1 : w.heap.size + 1 < W.heap.size := by rw [hW]; simp
  have f0 : W.cell? ⟨w.heap.size, 0, none⟩ = some (.int .i64 s) := by rw [hW]; simp [go_sem]
  have f1 : W.cell? ⟨w.heap.size, 1, none⟩ = some (.slice A m c) := by rw [hW]; simp [go_sem]
  have HD : Hid (OwnD W (w.heap.size + 1) W.heap.size (some ⟨w.heap.size + 1, 0, none⟩) 0 []) := by
    refine OwnD.none_ _ _ _ _ (Nat.le_refl _) hz1 ?_
    rw [hW]
    have := heap_alloc_new (w.alloc (Obj.cells #[Value.int IntKind.i64 s, Value.slice A m c] 27)) (Obj.cells #[] 22)
    simpa using this
  have k1 := h.keep (HB.out.mono hB) (Nat.le_refl _)
  have HW := Lib.hid hW
  clear hW
  go_enter Tryz.func49, Tryz.ntmps49
  go_wp2_with fail
  rw [← HW.out]
  cases hok : okB s m x
  · have hE : Hid (([] : List (List Int)) = edgesL s m x) := by show [] = edgesL s m x; unfold edgesL; rw [hok]; rfl
    have Hok := Lib.hid hok
    clear hok HW
    go_loopw [3, 4] (fun l i wr => i = .int .i64 0 ∧ l = .slice (some ⟨w.heap.size + 1, 0, none⟩) 0 0 ∧ W = wr) (fun _ i _ => 0)
    case atStart => exact ⟨rfl, rfl, rfl⟩
    case round =>
      obtain ⟨rfl, rfl, rfl⟩ := hrel
      by_cases hs : 0 < s
      · go_wp2_with fail
        refine (IsGraph_sany s A m c x W B k1 (by omega) hm).mono ?_
        rw [Hok.out]
        rintro e w1 ⟨rfl, hb1⟩
        have HB1 := Lib.hid (HB.out.trans (hb1.mono (by omega)))
        have HD1 := Lib.hid (HD.out.keepB hb1 (Nat.le_refl _))
        have z1 := hb1.size
        clear hb1
        go_wp2
        go_ret
        exact ⟨_, 0, [], rfl, hE.out, HD1.out.mono (by omega) z1, HB1.out⟩
      · have hs' : s ≤ 0 := by omega
        go_wp2
        go_ret
        exact ⟨_, 0, [], rfl, hE.out, HD.out.mono (by omega) (Nat.le_refl _), HB.out⟩
  · have hOK : OkG s m x := by
      refine Classical.byContradiction fun h => ?_
      rw [okB_no h] at hok; cases hok
    obtain ⟨r, rfl, vg, hx⟩ := hOK
    have hE : Hid (edgesL m m x = edAll x m) := by
      show edgesL m m x = _; unfold edgesL; rw [hok]; rfl
    have Hok := Lib.hid hok
    have hm1 := vg.n1
    have hm7 := vg.n7
    have HK := Lib.hid k1
    obtain ⟨b, o, rfl, lb, hc⟩ := k1.pos (by omega)
    have HX := Lib.hid hx
    have HC := Lib.hid hc
    clear hok h k1 hx HW hc
    go_loopw [3, 4] (fun l i wr => ∃ (v : Nat) (A' : Option Addr) (c' : Nat) (D : List Dsc), v ≤ m ∧ i = .int .i64 v ∧ l = .slice A' D.length c' ∧ Hid (lists D = ed x m v (v + 1)) ∧ Hid (OwnD wr (w.heap.size + 1) wr.heap.size A' c' D) ∧ Hid (Below (w.heap.size + 1) W wr)) (fun _ i _ => m - (intOf i).toNat)
    case atStart => exact ⟨0, _, 0, [], Nat.zero_le _, rfl, rfl, by show lists [] = _; rw [ed_zero]; rfl, HD, Below.refl _ _⟩
    case round =>
      obtain ⟨v, A', c', D, hv, rfl, rfl, hL, hO, hbr⟩ := hrel
      have q0 := up hbr.out f0 (Nat.lt_succ_self _)
      have q1 := up hbr.out f1 (Nat.lt_succ_self _)
      have zr := hbr.out.size
      by_cases hlt : v < m
      · have x0 : 0 ≤ x v := by have := HX.out v hlt; omega
        have x1 : x v < 16777216 := by have := HX.out v hlt; have := vg.lt128 hlt; omega
        have i1 : (v : Int) < (m : Int) := by omega
        go_wp2_with fail
        refine (IsGraph_sany m (some ⟨b, o, none⟩) m c x wr B (HK.out.keep (hbr.out.mono (by omega)) (Nat.le_refl _)) (by omega) hm).mono ?_
        rw [Hok.out]
        rintro e w1 ⟨rfl, hb1⟩
        have HB1 : Hid (Below (w.heap.size + 1) W w1) := hbr.out.trans (hb1.mono (by omega))
        have HD1 := Lib.hid (hO.out.keepB hb1 (Nat.le_refl _))
        have z1 := hb1.size
        have hO1 := Lib.hid (HD1.out.mono (Nat.le_refl _) z1)
        clear hb1 hO hbr q0 q1 HD1
        go_wp2
        go_loopw [3, 5] (fun l i wr => ∃ (u : Nat) (A' : Option Addr) (c' : Nat) (D : List Dsc), v + 1 ≤ u ∧ u ≤ m ∧ i = .int .i64 u ∧ l = .slice A' D.length c' ∧ Hid (lists D = ed x m v u) ∧ Hid (OwnD wr (w.heap.size + 1) wr.heap.size A' c' D) ∧ Hid (Below (w.heap.size + 1) W wr)) (fun _ i _ => m - (intOf i).toNat)
        case atStart => exact ⟨v + 1, A', c', D, Nat.le_refl _, by omega, by go_num, rfl, hL, hO1, HB1⟩
        case round =>
          rename_i wz _ _
          obtain ⟨u, A', c', D, hu1, hu2, rfl, rfl, hL, hO, hbr⟩ := hrel
          have q0 := up hbr.out f0 (Nat.lt_succ_self _)
          have q1 := up hbr.out f1 (Nat.lt_succ_self _)
          have q2 := (hbr.out.cell (p := ⟨b, o + v, none⟩) (by show b < _; omega)).trans (HC.out v hlt)
          have zz := hbr.out.size
          by_cases hlu : u < m
          · have i2 : (u : Int) < (m : Int) := by omega
            cases hbit : (x v).toNat.testBit u
            · have HL : Hid (lists D = ed x m v (u + 1)) := hL.out.trans (ed_no hu1 hbit).symm
              have Hb := Lib.hid hbit
              clear hbit hL
              go_wp2_with fail
              refine (l2Edge_any _ b o m c _ v u (x v) q2 (by omega) hlt x0 x1 (by omega)).mono ?_
              rw [Hb.out]
              rintro e w2 ⟨rfl, hb2⟩
              have H1 := Lib.hid ((hO.out.keepB hb2 (Nat.le_refl _)).mono (Nat.le_refl _) hb2.size)
              have H2 : Hid (Below (w.heap.size + 1) W w2) := hbr.out.trans (hb2.mono (by omega))
              clear hb2 q0 q1 q2 hO hbr
              go_wp2
              go_roundw
              case rel => exact ⟨u + 1, A', c', D, by omega, by omega, by go_num, rfl, HL, H1, H2⟩
              case measure => simp [intOf]; omega
            · have HL : Hid (lists D ++ [[(v : Int), (u : Int)]] = ed x m v (u + 1)) := by show _ = _; rw [hL.out]; exact (ed_yes hu1 hbit).symm
              have hlen : D.length ≤ 21 := by
                have h1 := congrArg List.length hL.out
                rw [lists, List.length_map] at h1
                rw [h1]; exact ed_len hm7 hlt hu1 hu2
              have Hb := Lib.hid hbit
              clear hbit hL
              go_wp2_with fail
              refine (l2Edge_any _ b o m c _ v u (x v) q2 (by omega) hlt x0 x1 (by omega)).mono ?_
              rw [Hb.out]
              rintro e w2 ⟨rfl, hb2⟩
              have H1 := Lib.hid ((hO.out.keepB hb2 (Nat.le_refl _)).mono (Nat.le_refl _) hb2.size)
              have H2 : Hid (Below (w.heap.size + 1) W w2) := hbr.out.trans (hb2.mono (by omega))
              have z2 := hb2.size
              clear hb2 q0 q1 q2 hO hbr
              go_wp2_with (first | (at_builtin; (refine wpList_pushD (w2.alloc (Obj.cells #[Value.int .i64 v, Value.int .i64 u] 3)) rfl _ _ rfl (w.heap.size + 1) (w2.heap.size + 1) A' c' D ((H1.out.alloc _).mono (Nat.le_refl _) (Nat.le_succ _)) (by simp; omega) (by simp) (some ⟨w2.heap.size, 0, none⟩, 2, [(v : Int), (u : Int)]) (pair_own w2 (w.heap.size + 1) (by omega) v u) (H1.out.fresh (Nat.le_refl _)) rfl 1 (w2.heap.size + 1) (by simp) rfl (by omega) ?_; intro g cap w3 hO2 hb2)))
              have H4 := Lib.hid hO2
              have H5 : Hid (Below (w.heap.size + 1) W w3) := (H2.out.alloc (by omega) _).trans hb2
              clear hO2 hb2 H1 H2
              go_wp2
              go_roundw
              case rel => exact ⟨u + 1, _, _, D ++ [(some ⟨w2.heap.size, 0, none⟩, 2, [(v : Int), (u : Int)])], by omega, by omega, by go_num, by rw [List.length_append]; rfl, by show lists (D ++ _) = _; rw [← HL.out]; simp [lists], H4, H5⟩
              case measure => simp [intOf]; omega
          · have hge : (m : Int) ≤ (u : Int) := by omega
            have eu : u = m := by omega
            have HL : Hid (lists D = ed x m (v + 1) (v + 1 + 1)) := by show _ = _; rw [ed_row, ← eu, hL.out, eu]
            have Hb := Lib.hid hbr
            clear hL eu
            go_wp2
            go_roundw
            case rel => exact ⟨v + 1, A', c', D, by omega, by go_num, rfl, HL, hO, hbr⟩
            case measure => simp [intOf]; omega
      · have ev : v = m := by omega
        have hge : (m : Int) ≤ (v : Int) := by omega
        have HL : Hid (lists D = edgesL m m x) := by show _ = _; rw [hL.out, ev, ed_end, hE.out]
        have H2 : Hid (Below w.heap.size w wr) := HB.out.trans (hbr.out.mono (Nat.le_succ _))
        clear hL hbr ev f0 f1
        go_wp2
        go_ret
        exact ⟨A', c', D, rfl, HL.out, hO.out.mono (Nat.le_succ _) (Nat.le_refl _), H2.out⟩
end Go.Proofs.YtjonhbmgmamchaaGreatDoor

/-
  Contracts: the optional edges between two graphs, of both programs.
-/
namespace Go.Proofs.YtjonhbmgmamchaaGreatDoor
open Go.RowKit

/-- append of one inner slice onto an outer one that lies in one known block. -/
theorem wpList_pushC (W : World) {ops : Array Oper} {rest : List Oper} {o : Oper} {a : Act} {Q : Exit → Act → World → Prop} (hgd : o.guard = none) (s y : Operand)
    (ho : o.op = .call { callee := .builtin .append, args := #[s, y], argTypes := #[37, 37] })
    (E : List Dsc) (g c : Nat) (h : Own W g (g + 1) 22 1 (some ⟨g, 0, none⟩) E.length c (dvs E)) (hg : g < W.heap.size) (d : Dsc) (hs : a.eval s = .slice (some ⟨g, 0, none⟩) E.length c) (cx H : Nat) (hH : W.heap.size = H) (hy : a.eval y = .slice (some ⟨H, 0, none⟩) 1 cx)
    (hn : E.length ≤ 1073741824)
    (hK : ∀ g' cap w', Own w' g' (g' + 1) 22 1 (some ⟨g', 0, none⟩) (E.length + 1) cap (dvs (E ++ [d])) → (g' = g ∨ W.heap.size ≤ g') → g' < w'.heap.size → Fr g (g + 1) W w' → wpList Tryz.prog ops Q rest (a.put o.dst (.slice (some ⟨g', 0, none⟩) (E.length + 1) cap)) w') :
    wpList Tryz.prog ops Q (o :: rest) a (W.alloc (Obj.cells #[dv d] 22)) := by
  subst hH
  have ha := h.alloc (Obj.cells #[dv d] 22)
  refine wpList_push (W.alloc (Obj.cells #[dv d] 22)) hgd s y 37 ho 22 (.slice none 0 0) 1 24 Tryz.underlying37 info_ints rfl (by omega) g (g + 1) (some ⟨g, 0, none⟩) E.length c (dvs (E ++ [d])) hs
    (ha.congr (fun j hj => (dvs_left (by omega)).symm)) (by simp; omega) W.heap.size #[dv d] 22 (0, 0) cx (heap_alloc_new W _) hy rfl ?_ (by intro u hu; simp at hu; subst hu; rfl) hn (by omega) ?_
  · intro j hj
    obtain rfl : j = 0 := by omega
    rw [show E.length * 1 + 0 = E.length by omega, dvs_last]; rfl
  · intro g' cap w' hp
    have hg' : g' = g ∨ W.heap.size ≤ g' := by
      rcases hp.at_ with h | h
      · simp [Value.ownBlock] at h; exact .inl h.symm
      · right; rw [h]; simp
    have hown : Own w' g' (g' + 1) 22 1 (some ⟨g', 0, none⟩) (E.length + 1) cap (dvs (E ++ [d])) ∧ g' < w'.heap.size := by
      rcases hp.own with ⟨h, _⟩ | ⟨g1, cur, k1, k2, k3, r⟩
      · cases h
      · simp only [Option.some.injEq, Addr.mk.injEq, and_true] at k1
        subst k1
        exact ⟨.inr ⟨g', cur, rfl, Nat.le_refl _, Nat.lt_succ_self _, r⟩, k3⟩
    refine hK g' cap w' hown.1 hg' hown.2 (((Fr.refl g (g + 1) W).alloc _).trans ⟨hp.grown.os, hp.grown.tape, hp.grown.output, hp.grown.size, fun k hk ho => hp.grown.block k hk ?_⟩)
    simp [Value.ownBlock]
    omega

theorem edge_at {D : List Dsc} {s : Int} {m : Nat} {x : Nat → Int} {k : Nat} (hD : lists D = edgesL s m x) (hk : k < D.length) :
    ∃ Ad cd v u, D[k]? = some (Ad, cd, [((v : Nat) : Int), ((u : Nat) : Int)]) ∧ v < u ∧ u < m ∧ OkG s m x := by
  have hok : okB s m x = true := by
    cases h : okB s m x
    · have h0 : lists D = [] := by rw [hD]; unfold edgesL; rw [h]; rfl
      have h1 := congrArg List.length h0
      rw [lists, List.length_map, List.length_nil] at h1
      omega
    · rfl
  have hOK : OkG s m x := by
    refine Classical.byContradiction fun h => ?_
    rw [okB_no h] at hok; cases hok
  unfold edgesL at hD
  rw [if_pos hok] at hD
  have h1 : (D[k]).2.2 ∈ edAll x m := by
    rw [← hD]
    exact List.mem_map.2 ⟨D[k], List.getElem_mem hk, rfl⟩
  unfold edAll at h1
  obtain ⟨p, hp, e⟩ := List.mem_map.1 h1
  have hp2 := mem_pr.1 (List.mem_filter.1 hp).1
  refine ⟨(D[k]).1, (D[k]).2.1, p.1, p.2, ?_, hp2.1, hp2.2, hOK⟩
  rw [List.getElem?_eq_getElem hk, e]
theorem edAll_len {m : Nat} {x : Nat → Int} (hm : m ≤ 7) : (edAll x m).length ≤ 21 := by
  unfold edAll
  rw [List.length_map]
  exact Nat.le_trans (List.length_filter_le _ _) (length_pr_le hm)
theorem edges_len {D : List Dsc} {s : Int} {m : Nat} {x : Nat → Int} (hD : lists D = edgesL s m x) : D.length ≤ 21 := by
  have h1 := congrArg List.length hD
  rw [lists, List.length_map] at h1
  rw [h1]
  unfold edgesL
  split
  · rename_i h
    have hOK : OkG s m x := by
      refine Classical.byContradiction fun h2 => ?_
      rw [okB_no h2] at h; cases h
    obtain ⟨r, rfl, vg, _⟩ := hOK
    exact edAll_len vg.n7
  · simp
/-- What stands in a slice of slices at a place. -/
theorem OwnD.pair {w : World} {lo hi c k : Nat} {A Ad : Option Addr} {cd : Nat} {v u : Int} {D : List Dsc} (h : OwnD w lo hi A c D) (hk : D[k]? = some (Ad, cd, [v, u])) :
    ∃ g gd, A = some ⟨g, 0, none⟩ ∧ Ad = some ⟨gd, 0, none⟩ ∧ w.cell? ⟨g, k, none⟩ = some (.slice Ad 2 cd) ∧ w.cell? ⟨gd, 0, none⟩ = some (.int .i64 v) ∧ w.cell? ⟨gd, 1, none⟩ = some (.int .i64 u) := by
  obtain ⟨hlt, he⟩ := List.getElem?_eq_some_iff.1 hk
  obtain ⟨g, e1, _, _, _, h1, _⟩ := h.1.at_ (by omega)
  obtain ⟨gd, e2, _, _, _, h2, _⟩ := (h.2.1 (Ad, cd, [v, u]) (List.mem_of_getElem? hk)).at_ (by show 0 < 2; omega)
  refine ⟨g, gd, e1, e2, ?_, h2 0 (by show 0 < 2 * 1; omega), h2 1 (by show 1 < 2 * 1; omega)⟩
  rw [h1 k (by omega)]
  unfold dvs
  simp [List.getD, hk, dv]

def pOpt (x : Nat → Int) (l : List Int) : Bool := !(x (l.getD 0 0).toNat).toNat.testBit (l.getD 1 0).toNat
def qOpt (x : Nat → Int) (d : Dsc) : Bool := pOpt x d.2.2
theorem lists_filter (D : List Dsc) (x : Nat → Int) : lists (D.filter (qOpt x)) = (lists D).filter (pOpt x) := by
  unfold lists; rw [List.filter_map]; rfl
theorem opt_step_yes {D : List Dsc} {d : Dsc} {x : Nat → Int} {k : Nat} (h : D[k]? = some d) (hq : qOpt x d = true) : (D.take (k + 1)).filter (qOpt x) = (D.take k).filter (qOpt x) ++ [d] := by
  rw [take_at h, List.filter_append]; simp [hq]
theorem opt_step_no {D : List Dsc} {d : Dsc} {x : Nat → Int} {k : Nat} (h : D[k]? = some d) (hq : qOpt x d = false) : (D.take (k + 1)).filter (qOpt x) = (D.take k).filter (qOpt x) := by
  rw [take_at h, List.filter_append]; simp [hq]
theorem OwnD.filtered {w : World} {lo hi lo2 hi2 c g c2 : Nat} {A : Option Addr} {D : List Dsc} {x : Nat → Int} (h : OwnD w lo hi A c D) (ho : Own w g (g + 1) 22 1 (some ⟨g, 0, none⟩) (D.filter (qOpt x)).length c2 (dvs (D.filter (qOpt x)))) (h1 : lo2 ≤ lo) (h2 : hi ≤ hi2) (h3 : lo2 ≤ g) (h4 : g < hi2) :
    OwnD w lo2 hi2 (some ⟨g, 0, none⟩) c2 (D.filter (qOpt x)) :=
  ⟨ho.mono h3 (by omega), fun d hd => (h.2.1 d (List.mem_filter.1 hd).1).mono h1 h2, h.2.2.filter _⟩
theorem OwnD.nil_ (w : World) (lo hi : Nat) : OwnD w lo hi none 0 [] := ⟨Own.nil _ _ _ _ _ _, (fun d hd => by cases hd), List.Pairwise.nil⟩

end Go.Proofs.YtjonhbmgmamchaaGreatDoor

/-
  Contract: all pairs of n vertices.
-/
namespace Go.Proofs.YtjonhbmgmamchaaGreatDoor
open Go.RowKit

end Go.Proofs.YtjonhbmgmamchaaGreatDoor

/-
  Plain lists of edits, and pushes onto slices of edits.
-/
namespace Go.Proofs.YtjonhbmgmamchaaGreatDoor
open Go.RowKit

end Go.Proofs.YtjonhbmgmamchaaGreatDoor

/-
  Contracts: a set's list, of both programs.
-/
namespace Go.Proofs.YtjonhbmgmamchaaGreatDoor
open Go.RowKit

/-- The cells of a list of vertices. -/
def ni (l : List Nat) : Nat → Value := fun i => .int .i64 ((l.getD i 0 : Nat) : Int)
theorem ni_left {l : List Nat} {k j : Nat} (h : j < l.length * 1) : ni (l ++ [k]) j = ni l j := by
  unfold ni; simp [List.getD, List.getElem?_append_left (by omega : j < l.length)]
theorem ni_news {l : List Nat} {k : Nat} : ∀ i, i < 1 → (#[Value.int .i64 (k : Int)] : Array Value)[i]? = some (ni (l ++ [k]) (l.length * 1 + i)) := by
  intro i hi
  obtain rfl : i = 0 := by omega
  unfold ni; simp [List.getD]
theorem ni_at {l : List Nat} {j : Nat} (h : j < l.length) : ni l j = .int .i64 (l[j] : Int) := by unfold ni; simp [List.getD, h]

/-- append of one vertex. -/
theorem wpList_pushN (W : World) {ops : Array Oper} {rest : List Oper} {o : Oper} {a : Act} {Q : Exit → Act → World → Prop} (hgd : o.guard = none) (s y : Operand)
    (ho : o.op = .call { callee := .builtin .append, args := #[s, y], argTypes := #[22, 22] })
    (lo hi : Nat) (A : Option Addr) (c : Nat) (T : List Nat) (h : Own W lo hi 3 1 A T.length c (ni T)) (hlo : lo ≤ W.heap.size) (k : Nat) (hs : a.eval s = .slice A T.length c) (cx H : Nat) (hH : W.heap.size = H) (hy : a.eval y = .slice (some ⟨H, 0, none⟩) 1 cx)
    (hn : T.length ≤ 1073741824)
    (hK : ∀ g cap w', Own w' lo w'.heap.size 3 1 (some ⟨g, 0, none⟩) (T.length + 1) cap (ni (T ++ [k])) → Below lo W w' → wpList Tryz.prog ops Q rest (a.put o.dst (.slice (some ⟨g, 0, none⟩) (T.length + 1) cap)) w') :
    wpList Tryz.prog ops Q (o :: rest) a (W.alloc (Obj.cells #[.int .i64 (k : Int)] 3)) := by
  subst hH
  have ha := h.alloc (Obj.cells #[.int .i64 (k : Int)] 3)
  refine wpList_push (W.alloc (Obj.cells #[.int .i64 (k : Int)] 3)) hgd s y 22 ho 3 _ 1 8 Tryz.underlying22 info_int rfl (by omega) lo hi A T.length c (ni (T ++ [k])) hs
    (ha.congr (fun j hj => (ni_left hj).symm)) (by simp; omega) W.heap.size #[.int .i64 (k : Int)] 3 (0, 0) cx (heap_alloc_new W _) hy rfl ni_news (by simp [Value.oneCell']) hn (by omega) ?_
  intro g cap w' hp
  exact hK g cap w' hp.own (((Below.refl _ _).alloc hlo _).trans hp.below)

set_option maxHeartbeats 1000000 in
theorem ListOf_i (s : Nat) (hs : s < 128) (w : World) :
    Calls Tryz.prog 61 #[.int .i64 s] w fun e w' => ∃ A c, e = .returned (.slice A (listN s).length c) ∧ Own w' w.heap.size w'.heap.size 3 1 A (listN s).length c (ni (listN s)) ∧ Below w.heap.size w w' := by
  obtain ⟨W, hW⟩ : ∃ W : World, W = w.alloc (Obj.cells #[] 3) := ⟨_, rfl⟩
  have HB : Hid (Below w.heap.size w W) := by rw [hW]; exact (Below.refl _ _).alloc (Nat.le_refl _) _
  have hz1 : w.heap.size < W.heap.size := by rw [hW]; simp
  have HO : Hid (Own W w.heap.size W.heap.size 3 1 (some ⟨w.heap.size, 0, none⟩) 0 0 (ni [])) := by
    refine .inr ⟨w.heap.size, #[], rfl, Nat.le_refl _, hz1, ?_, Nat.le_refl _, by unfold maxLen; omega, rfl, fun j hj => absurd hj (by omega)⟩
    rw [hW]
    exact heap_alloc_new w _
  have HW := Lib.hid hW
  clear hW
  go_enter Tryz.func61, Tryz.ntmps61
  go_wp2_with (first | (go_at_call 57; refine (within_yes _ _ _ _ (by omega) (by omega)).mono ?_; rintro e w' ⟨rfl, rfl⟩))
  rw [← HW.out]
  clear HW
  go_loopw [3, 10] (fun l i wr => ∃ (k : Nat) (A' : Option Addr) (c' : Nat), k ≤ 7 ∧ i = .int .i64 k ∧ l = .slice A' (listK s k).length c' ∧ Hid (Own wr w.heap.size wr.heap.size 3 1 A' (listK s k).length c' (ni (listK s k))) ∧ Hid (Below w.heap.size w wr)) (fun _ i _ => 7 - (intOf i).toNat)
  case atStart => exact ⟨0, _, 0, Nat.zero_le _, rfl, rfl, HO, HB⟩
  case round =>
    obtain ⟨k, A', c', hk, rfl, rfl, hO, hbr⟩ := hrel
    have zr := hbr.out.size
    have hlen := listK_len s k
    by_cases hlt : k < 7
    · have K1 : Hid (∀ w, Calls Tryz.prog 58 #[.int .i64 s, .int .i64 k] w fun e w' => e = .returned (.bool (s.testBit k)) ∧ w = w') := fun w => (has_any s k w (by omega) (by omega) (by omega) (by omega)).mono fun _ _ ⟨h1, h2⟩ => ⟨by rw [h1, Int.toNat_natCast, Int.toNat_natCast], h2⟩
      cases ht : s.testBit k
      · have HL := Lib.hid (listK_no ht)
        rw [ht] at K1
        clear ht
        go_wp2_with (first | (go_at_call 58; with_reducible refine (K1.out _).mono ?_; rintro e w' ⟨rfl, rfl⟩))
        go_roundw
        case rel => exact ⟨k + 1, A', c', by omega, by go_num, by rw [HL.out], by rw [HL.out]; exact hO, hbr⟩
        case measure => simp [intOf]; omega
      · have HL := Lib.hid (listK_yes ht)
        rw [ht] at K1
        clear ht
        go_wp2_with (first | (go_at_call 58; with_reducible refine (K1.out _).mono ?_; rintro e w' ⟨rfl, rfl⟩) | (at_builtin; (refine wpList_pushN wr rfl _ _ rfl w.heap.size wr.heap.size A' c' (listK s k) hO.out zr k rfl 1 wr.heap.size rfl rfl (by omega) ?_; intro g cap w3 hO2 hb2)))
        have H4 := Lib.hid hO2
        have H5 : Hid (Below w.heap.size w w3) := hbr.out.trans hb2
        clear hO2 hb2 hbr hO
        go_roundw
        case rel => exact ⟨k + 1, _, _, by omega, by go_num, by rw [HL.out, List.length_append]; rfl, by rw [HL.out, List.length_append]; exact H4.out, H5⟩
        case measure => simp [intOf]; omega
    · have hk7 : k = 7 := by omega
      have HN : Hid (listK s k = listN s) := by show _ = _; rw [hk7]; rfl
      have i1 : (7 : Int) ≤ (k : Int) := by omega
      clear hk7
      go_wp2
      go_ret
      exact ⟨A', c', by rw [← HN.out]; rfl, by rw [← HN.out]; exact hO.out, hbr.out⟩

theorem l3Fine_yes (s : Int) (w : World) (h0 : 0 ≤ s) (h1 : s ≤ 127) : Calls Tryz.prog 85 #[.int .i64 s] w fun e w' => e = .returned (.bool true) ∧ w = w' := by
  go_enter Tryz.func85, Tryz.ntmps85
  go_wp2_with (first | (go_at_call 42; refine (l1In_yes _ _ _ _ (by omega) (by omega)).mono ?_; rintro e w' ⟨rfl, rfl⟩))
  go_ret
  exact ⟨rfl, rfl⟩

set_option maxHeartbeats 1000000 in
theorem ListOf_s (s : Nat) (hs : s < 128) (w : World) :
    Calls Tryz.prog 45 #[.int .i64 s] w fun e w' => ∃ A c, e = .returned (.slice A (listN s).length c) ∧ Own w' w.heap.size w'.heap.size 3 1 A (listN s).length c (ni (listN s)) ∧ Below w.heap.size w w' := by
  obtain ⟨W, hW⟩ : ∃ W : World, W = w.alloc (Obj.cells #[] 3) := ⟨_, rfl⟩
  have HB : Hid (Below w.heap.size w W) := by rw [hW]; exact (Below.refl _ _).alloc (Nat.le_refl _) _
  have hz1 : w.heap.size < W.heap.size := by rw [hW]; simp
  have HO : Hid (Own W w.heap.size W.heap.size 3 1 (some ⟨w.heap.size, 0, none⟩) 0 0 (ni [])) := by
    refine .inr ⟨w.heap.size, #[], rfl, Nat.le_refl _, hz1, ?_, Nat.le_refl _, by unfold maxLen; omega, rfl, fun j hj => absurd hj (by omega)⟩
    rw [hW]
    exact heap_alloc_new w _
  have HW := Lib.hid hW
  clear hW
  go_enter Tryz.func45, Tryz.ntmps45
  go_wp2
  rw [← HW.out]
  clear HW
  go_loopw [3, 4] (fun l i wr => ∃ (k : Nat) (A' : Option Addr) (c' : Nat), k ≤ 7 ∧ i = .int .i64 k ∧ l = .slice A' (listK s k).length c' ∧ Hid (Own wr w.heap.size wr.heap.size 3 1 A' (listK s k).length c' (ni (listK s k))) ∧ Hid (Below w.heap.size w wr)) (fun _ i _ => 7 - (intOf i).toNat)
  case atStart => exact ⟨0, _, 0, Nat.zero_le _, rfl, rfl, HO, HB⟩
  case round =>
    obtain ⟨k, A', c', hk, rfl, rfl, hO, hbr⟩ := hrel
    have zr := hbr.out.size
    have hlen := listK_len s k
    by_cases hlt : k < 7
    · have E := and_one_i64 (s : Int) k (by omega) (by omega)
      rw [Int.toNat_natCast] at E
      cases ht : s.testBit k
      · have HL := Lib.hid (listK_no ht)
        rw [ht] at E
        clear ht
        go_wp2_with (first | (go_at_call 85; refine (l3Fine_yes _ _ (by omega) (by omega)).mono ?_; rintro e w' ⟨rfl, rfl⟩))
        go_roundw
        case rel => exact ⟨k + 1, A', c', by omega, by go_num, by rw [HL.out], by rw [HL.out]; exact hO, hbr⟩
        case measure => simp [intOf]; omega
      · have HL := Lib.hid (listK_yes ht)
        rw [ht] at E
        clear ht
        go_wp2_with (first | (go_at_call 85; refine (l3Fine_yes _ _ (by omega) (by omega)).mono ?_; rintro e w' ⟨rfl, rfl⟩) | (at_builtin; (refine wpList_pushN wr rfl _ _ rfl w.heap.size wr.heap.size A' c' (listK s k) hO.out zr k rfl 1 wr.heap.size rfl rfl (by omega) ?_; intro g cap w3 hO2 hb2)))
        have H4 := Lib.hid hO2
        have H5 : Hid (Below w.heap.size w w3) := hbr.out.trans hb2
        clear hO2 hb2 hbr hO
        go_roundw
        case rel => exact ⟨k + 1, _, _, by omega, by go_num, by rw [HL.out, List.length_append]; rfl, by rw [HL.out, List.length_append]; exact H4.out, H5⟩
        case measure => simp [intOf]; omega
    · have hk7 : k = 7 := by omega
      have HN : Hid (listK s k = listN s) := by show _ = _; rw [hk7]; rfl
      have i1 : (7 : Int) ≤ (k : Int) := by omega
      clear hk7
      go_wp2
      go_ret
      exact ⟨A', c', by rw [← HN.out]; rfl, by rw [← HN.out]; exact hO.out, hbr.out⟩
end Go.Proofs.YtjonhbmgmamchaaGreatDoor

/-
  Contracts: is a set a clique? The program's test; the closure that looks for a simplicial vertex; the search for the first.
-/
namespace Go.Proofs.YtjonhbmgmamchaaGreatDoor
open Go.RowKit

/-- A valid graph's rows as they are read. -/
def rw_ (x : Nat → Int) : Nat → Nat := fun v => (x v).toNat
theorem okB_vg {m : Nat} {x : Nat → Int} (h : okB m m x = true) : VG m (rw_ x) ∧ ∀ v, v < m → x v = (rw_ x v : Int) := by
  have hok : OkG m m x := by
    refine Classical.byContradiction fun h2 => ?_
    rw [okB_no h2] at h; cases h
  obtain ⟨r, _, vg, hx⟩ := hok
  exact ⟨vg.congr fun v hv => by show r v = (x v).toNat; rw [hx v hv]; simp, fun v hv => by show x v = ((x v).toNat : Int); rw [hx v hv]; simp⟩

set_option maxHeartbeats 1000000 in
theorem isClique_i (m : Nat) (A : Option Addr) (c : Nat) (x : Nat → Int) (s : Nat) (w : World) (B : Nat) (h : Rd w B A m c x) (hB : B ≤ w.heap.size) (hok : okB m m x = true) (hs : s < 2 ^ m) :
    Calls Tryz.prog 113 #[.agg #[.int .i64 m, .slice A m c], .int .i64 s] w fun e w' => e = .returned (.bool (cliq (rw_ x) s)) ∧ Below w.heap.size w w' := by
  obtain ⟨vg, hx⟩ := okB_vg hok
  have hn1 := vg.n1
  have hn7 := vg.n7
  have h128 := two_pow_le hn7
  obtain ⟨W, hW⟩ : ∃ W : World, W = (w.alloc (Obj.cells #[Value.int IntKind.i64 m, Value.slice A m c] 27)) := ⟨_, rfl⟩
  have HB : Hid (Below w.heap.size w W) := by rw [hW]; exact ((Below.refl _ _).alloc (Nat.le_refl _) _)
  have a0 : w.heap.size < W.heap.size := by rw [hW]; simp
  have e1 : W.cell? ⟨w.heap.size, 1, none⟩ = some (.slice A m c) := by rw [hW]; simp [go_sem]
  obtain ⟨b, o, rfl, hb, hc⟩ := (h.keep (HB.out.mono hB) (Nat.le_refl _)).pos (by omega)
  have HC := Lib.hid hc
  have HW := Lib.hid hW
  have HX := Lib.hid hx
  have HV := Lib.hid vg
  clear hW h hc hx vg hok
  go_enter Tryz.func113, Tryz.ntmps113
  go_wp2_with fail
  rw [← HW.out]
  clear HW
  refine (ListOf_i s (by omega) W).mono ?_
  rintro e w1 ⟨A', c', rfl, hO, hb1⟩
  have z1 := hb1.size
  have f1 := up hb1 e1 a0
  have HO := Lib.hid hO
  have HB1 : Hid (Below w.heap.size w w1) := HB.out.trans (hb1.mono (by omega))
  have HC1 : Hid (∀ v, v < m → w1.cell? ⟨b, o + v, none⟩ = some (.int .i64 (x v))) := fun v hv => (hb1.cell (p := ⟨b, o + v, none⟩) (by show b < _; omega)).trans (HC.out v hv)
  have hl7 := listN_len s
  have a1 : w.heap.size < w1.heap.size := by omega
  clear hO hb1 e1 HC HB
  go_wp2
  go_loopw [10] (fun i wr => ∃ k : Nat, k ≤ (listN s).length ∧ i = .int .i64 k ∧ Hid (∀ j (hj : j < (listN s).length), j < k → s ^^^ (s &&& rw_ x (listN s)[j]) = 2 ^ (listN s)[j]) ∧ Hid (Below w1.heap.size w1 wr)) (fun i _ => (listN s).length - (intOf i).toNat)
  case atStart => exact ⟨0, Nat.zero_le _, rfl, (fun j hj hk => absurd hk (by omega)), Below.refl _ _⟩
  case round =>
    obtain ⟨k, hk, rfl, hall, hbr⟩ := hrel
    have zr := hbr.out.size
    by_cases hlt : k < (listN s).length
    · obtain ⟨hv7, hvb⟩ := listN_at hlt
      have hvm := bit_lt hs hvb
      obtain ⟨v, hv⟩ : ∃ v, v = (listN s)[k] := ⟨_, rfl⟩
      rw [← hv] at hv7 hvb hvm
      obtain ⟨g, hA, hg1, hg2, _, hcell, _⟩ := HO.out.at_ (by omega)
      have q0 : wr.cell? ⟨g, k, none⟩ = some (.int .i64 v) := (hbr.out.cell (p := ⟨g, k, none⟩) (by show g < _; omega)).trans ((hcell k (by omega)).trans (by rw [ni_at hlt, ← hv]))
      have q1 := up hbr.out f1 a1
      have q2 := (hbr.out.cell (p := ⟨b, o + v, none⟩) (by show b < _; omega)).trans (HC1.out v hvm)
      have hxv := HX.out v hvm
      have hr128 := HV.out.lt128 hvm
      have E := i64_andNot (s : Int) (x v) (by omega) (by omega) (by omega) (by omega)
      rw [Int.toNat_natCast] at E
      have p1 := pow_shl v (by omega)
      have i1 : (k : Int) < ((listN s).length : Int) := by omega
      have i2 : (v : Int) < (m : Int) := by omega
      have Hv := Lib.hid hv
      subst hA
      by_cases hq : s ^^^ (s &&& (x v).toNat) = 2 ^ v
      · have hne : (bits BinOp.andNot .i64 (s : Int) (x v) != 2 ^ v) = false := by rw [E, hq]; simp
        have Hq : Hid (s ^^^ (s &&& rw_ x (listN s)[k]) = 2 ^ (listN s)[k]) := by show _ = _; rw [← Hv.out]; exact hq
        clear E hq hv hcell hxv hvb
        go_wp2
        go_quiet (fail)
        go_wp2
        go_roundw
        case rel =>
          refine ⟨k + 1, by omega, by go_num, fun j hj hk => ?_, below_drewN hbr.out _⟩
          by_cases hjk : j < k
          · exact hall.out j hj hjk
          · have : j = k := by omega
            subst this
            exact Hq.out
        case measure => simp [intOf]; omega
      · have hne : (bits BinOp.andNot .i64 (s : Int) (x v) != 2 ^ v) = true := by
          rw [E, bne_iff_ne]
          intro e
          apply hq
          have e2 : ((2 ^ v : Nat) : Int) = 2 ^ v := by simp
          rw [← e2] at e
          omega
        have hno : Hid (cliq (rw_ x) s = false) := cliq_no hv7 hvb hq
        clear E hq hv hcell hxv hvb
        go_wp2
        go_quiet (fail)
        go_wp2
        go_ret
        exact ⟨ret_bool hno.out.symm, HB1.out.trans ((below_drewN hbr.out _).mono (by omega))⟩
    · have hyes : Hid (cliq (rw_ x) s = true) := by
        refine cliq_yes fun v hv hb => ?_
        obtain ⟨j, hj, rfl⟩ := List.mem_iff_getElem.1 (mem_listN.2 ⟨hv, hb⟩)
        exact hall.out j hj (by omega)
      have i1 : ((listN s).length : Int) ≤ (k : Int) := by omega
      go_wp2
      go_ret
      exact ⟨ret_bool hyes.out.symm, HB1.out.trans (hbr.out.mono (by omega))⟩

end Go.Proofs.YtjonhbmgmamchaaGreatDoor

/-
  Contracts: is a set a clique? The reference's tests; is a vertex simplicial?
-/
namespace Go.Proofs.YtjonhbmgmamchaaGreatDoor
open Go.RowKit

set_option maxHeartbeats 1000000 in
theorem IsSet_yes (m : Nat) (A : Option Addr) (c : Nat) (x : Nat → Int) (s : Nat) (w : World) (B : Nat) (h : Rd w B A m c x) (hB : B ≤ w.heap.size) (hm : m ≤ 7) (hok : okB m m x = true) (hs : s < 2 ^ m) :
    Calls Tryz.prog 86 #[.agg #[.int .i64 m, .slice A m c], .int .i64 s] w fun e w' => e = .returned (.bool true) ∧ Below w.heap.size w w' := by
  obtain ⟨W, hW⟩ : ∃ W : World, W = (w.alloc (Obj.cells #[Value.int IntKind.i64 m, Value.slice A m c] 27)) := ⟨_, rfl⟩
  have HB : Hid (Below w.heap.size w W) := by rw [hW]; exact ((Below.refl _ _).alloc (Nat.le_refl _) _)
  have a0 : w.heap.size < W.heap.size := by rw [hW]; simp
  have e0 : W.cell? ⟨w.heap.size, 0, none⟩ = some (.int .i64 m) := by rw [hW]; simp [go_sem]
  have e1 : W.cell? ⟨w.heap.size, 1, none⟩ = some (.slice A m c) := by rw [hW]; simp [go_sem]
  have HK := Lib.hid (h.keep (HB.out.mono hB) (Nat.le_refl _))
  have HW := Lib.hid hW
  have Hok := Lib.hid hok
  have p1 := pow_shl m (by omega)
  have p2 : ((2 ^ m : Nat) : Int) = 2 ^ m := by simp
  have p3 : (s : Int) < 2 ^ m := by omega
  have p4 : (0 : Int) ≤ (s : Int) := by omega
  clear hW h hok p2
  go_enter Tryz.func86, Tryz.ntmps86
  go_wp2_with fail
  rw [← HW.out]
  refine (IsGraph_sany m A m c x W B HK.out (by omega) (by omega)).mono ?_
  rintro e w1 ⟨rfl, hb1⟩
  rw [Hok.out]
  have f0 := up hb1 e0 a0
  have f1 := up hb1 e1 a0
  have HB1 : Hid (Below w.heap.size w w1) := HB.out.trans (hb1.mono (by omega))
  clear hb1 e0 e1 HW HK HB
  go_wp2
  go_ret
  exact ⟨rfl, HB1.out⟩

set_option maxHeartbeats 1000000 in
theorem IsClique_s (m : Nat) (A : Option Addr) (c : Nat) (x : Nat → Int) (s : Nat) (w : World) (B : Nat) (h : Rd w B A m c x) (hB : B ≤ w.heap.size) (hok : okB m m x = true) (hs : s < 2 ^ m) :
    Calls Tryz.prog 83 #[.agg #[.int .i64 m, .slice A m c], .int .i64 s] w fun e w' => e = .returned (.bool (cliq (rw_ x) s)) ∧ Below w.heap.size w w' := by
  obtain ⟨vg, hx⟩ := okB_vg hok
  have hn1 := vg.n1
  have hn7 := vg.n7
  have h128 := two_pow_le hn7
  obtain ⟨W, hW⟩ : ∃ W : World, W = (w.alloc (Obj.cells #[Value.int IntKind.i64 m, Value.slice A m c] 27)) := ⟨_, rfl⟩
  have HB : Hid (Below w.heap.size w W) := by rw [hW]; exact ((Below.refl _ _).alloc (Nat.le_refl _) _)
  have a0 : w.heap.size < W.heap.size := by rw [hW]; simp
  have e0 : W.cell? ⟨w.heap.size, 0, none⟩ = some (.int .i64 m) := by rw [hW]; simp [go_sem]
  have e1 : W.cell? ⟨w.heap.size, 1, none⟩ = some (.slice A m c) := by rw [hW]; simp [go_sem]
  have HK := Lib.hid (h.keep (HB.out.mono hB) (Nat.le_refl _))
  obtain ⟨b, o, rfl, hb, hc⟩ := HK.out.pos (by omega)
  have HC := Lib.hid hc
  have HW := Lib.hid hW
  have HX := Lib.hid hx
  have HV := Lib.hid vg
  have Hok := Lib.hid hok
  clear hW h hc hx vg hok
  go_enter Tryz.func83, Tryz.ntmps83
  go_wp2_with fail
  rw [← HW.out]
  clear HW
  refine (IsSet_yes m (some ⟨b, o, none⟩) c x s W B HK.out (by omega) hn7 Hok.out hs).mono ?_
  rintro e w1 ⟨rfl, hb1⟩
  have z1 := hb1.size
  have f0 := up hb1 e0 a0
  have f1 := up hb1 e1 a0
  have HB1 : Hid (Below w.heap.size w w1) := HB.out.trans (hb1.mono (by omega))
  have HC1 : Hid (∀ v, v < m → w1.cell? ⟨b, o + v, none⟩ = some (.int .i64 (x v))) := fun v hv => (hb1.cell (p := ⟨b, o + v, none⟩) (by show b < _; omega)).trans (HC.out v hv)
  have a1 : w.heap.size < w1.heap.size := by omega
  clear hb1 e0 e1 HC HB HK
  go_wp2
  go_loopw [5] (fun i wr => ∃ k : Nat, k ≤ m ∧ i = .int .i64 k ∧ Hid (∀ v, v < k → s.testBit v = true → s ^^^ (s &&& rw_ x v) = 2 ^ v) ∧ Hid (Below w1.heap.size w1 wr)) (fun i _ => m - (intOf i).toNat)
  case atStart => exact ⟨0, Nat.zero_le _, rfl, (fun v hv => absurd hv (by omega)), Below.refl _ _⟩
  case round =>
    obtain ⟨v, hk, rfl, hall, hbr⟩ := hrel
    have zr := hbr.out.size
    have q3 := up hbr.out f0 a1
    by_cases hlt : v < m
    · have q1 := up hbr.out f1 a1
      have q2 := (hbr.out.cell (p := ⟨b, o + v, none⟩) (by show b < _; omega)).trans (HC1.out v hlt)
      have hxv := HX.out v hlt
      rw [hxv] at q2
      have hr128 := HV.out.lt128 hlt
      have E := i64_and_nat (rw_ x v) s (by omega) (by omega)
      have E1 := and_one_i64 (s : Int) v (by omega) (by omega)
      rw [Int.toNat_natCast] at E1
      have p1 := pow_shl v (by omega)
      have i2 : (v : Int) < (m : Int) := by omega
      cases ht : s.testBit v
      · rw [ht] at E1
        have Ht := Lib.hid ht
        clear E hxv ht
        go_wp2
        go_quiet (fail)
        go_wp2
        refine ⟨⟨v + 1, by omega, by go_num, fun j hj hb => ?_, below_drewN hbr.out _⟩, by simp [intOf]; omega⟩
        by_cases hjv : j < v
        · exact hall.out j hjv hb
        · obtain rfl : j = v := by omega
          rw [Ht.out] at hb; cases hb
      · rw [ht] at E1
        have Ht := Lib.hid ht
        have hge := bit_ge ht
        have p2 : ((2 ^ v : Nat) : Int) = 2 ^ v := by simp
        have E2 : ((s : Int) - 2 ^ v) = ((s - 2 ^ v : Nat) : Int) := by rw [Int.ofNat_sub hge]; simp
        have E3 : wrap64 ((s : Int) - 2 ^ v) = ((s - 2 ^ v : Nat) : Int) := by
          obtain ⟨d, hd⟩ : ∃ d, d = s - 2 ^ v := ⟨_, rfl⟩
          have hd2 : d ≤ s := by rw [hd]; exact Nat.sub_le _ _
          rw [E2, ← hd]
          exact Go.IntWalk.wrap64_in (d : Int) (by clear hd E2; omega)
        by_cases hq : s ^^^ (s &&& rw_ x v) = 2 ^ v
        · have hc := (clash (r := rw_ x) (by omega : s < 128) ht).2 hq
          have hne : (bits BinOp.and .i64 (rw_ x v : Int) (s : Int) != wrap64 ((s : Int) - 2 ^ v)) = false := by rw [E, E3, hc]; simp
          have Hq := Lib.hid hq
          clear E hq hxv ht hc p2 E2 E3
          go_wp2
          go_quiet (fail)
          go_wp2
          refine ⟨⟨v + 1, by omega, by go_num, fun j hj hb => ?_, below_drewN hbr.out _⟩, by simp [intOf]; omega⟩
          by_cases hjv : j < v
          · exact hall.out j hjv hb
          · obtain rfl : j = v := by omega
            exact Hq.out
        · have hno : Hid (cliq (rw_ x) s = false) := cliq_no (by omega) ht hq
          have hne : (bits BinOp.and .i64 (rw_ x v : Int) (s : Int) != wrap64 ((s : Int) - 2 ^ v)) = true := by
            rw [E, E3, bne_iff_ne]
            intro e
            exact hq ((clash (r := rw_ x) (by omega : s < 128) ht).1 (by omega))
          clear E hq hxv ht p2 E2 E3
          go_wp2
          go_quiet (fail)
          go_wp2
          go_ret
          exact ⟨ret_bool hno.out.symm, HB1.out.trans ((below_drewN hbr.out _).mono (by omega))⟩
    · have hyes : Hid (cliq (rw_ x) s = true) := cliq_yes fun v hv hb => hall.out v (by have := bit_lt hs hb; omega) hb
      have i1 : (m : Int) ≤ (v : Int) := by omega
      go_wp2
      go_ret
      exact ⟨ret_bool hyes.out.symm, HB1.out.trans (hbr.out.mono (by omega))⟩

end Go.Proofs.YtjonhbmgmamchaaGreatDoor
