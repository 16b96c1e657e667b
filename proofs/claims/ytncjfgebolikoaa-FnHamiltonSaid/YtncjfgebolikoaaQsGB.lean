/-
  Several texts in one: words for memory, plain laws and contracts that the later texts lean on.
-/
import Derived.Test.YtncjfgebolikoaaRows
import Derived.Test.YtncjfgebolikoaaQsGA
import Derived.Deep.RegionHeld3
import Derived.Deep.QuietTactic
import Derived.BigQuiet
/-
  Words for memory: a slice of slices of integers that the call owns, or that it only reads.
-/
namespace Go.Proofs.Ytncjfgebolikoaa
open Go.RowKit

/-- One inner slice: its address, its capacity, what it holds. -/
abbrev Dsc := Option Addr × Nat × List Int
def lists (D : List Dsc) : List (List Int) := D.map (·.2.2)
section
variable {w w' : World} {lo hi lo' hi' B B' c : Nat} {A : Option Addr} {D : List Dsc}
theorem Own.only {e : TypeId} {size n : Nat} {x : Nat → Value} (h : Own w lo hi e size A n c x) (hn : 0 < n) : ∃ g, A = some ⟨g, 0, none⟩ ∧ lo ≤ g ∧ g < hi ∧ Own w g (g + 1) e size A n c x := by
  rcases h with h | ⟨g, cur, k1, k2, k3, r⟩
  · omega
  · exact ⟨g, k1, k2, k3, .inr ⟨g, cur, k1, Nat.le_refl _, Nat.lt_succ_self _, r⟩⟩
theorem Own.at_block {e : TypeId} {size n : Nat} {x : Nat → Value} (h : Own w lo hi e size A n c x) : A = none ∨ ∃ g, A = some ⟨g, 0, none⟩ ∧ lo ≤ g ∧ g < hi := by
  rcases h with ⟨h, _⟩ | ⟨g, cur, k1, k2, k3, _⟩
  · exact .inl h
  · exact .inr ⟨g, k1, k2, k3⟩
/-- It stays while one other block is written. -/
theorem Own.keep1 {e : TypeId} {size n g : Nat} {x : Nat → Value} (h : Own w lo hi e size A n c x) (hf : Fr g (g + 1) w w') (hne : A ≠ some ⟨g, 0, none⟩) : Own w' lo hi e size A n c x := by
  rcases h with h | ⟨g1, cur, k1, k2, k3, k4, r⟩
  · exact .inl h
  · refine .inr ⟨g1, cur, k1, k2, k3, (hf.block g1 (Array.getElem?_eq_some_iff.1 k4).1 ?_).trans k4, r⟩
    have : g1 ≠ g := fun e => hne (by rw [k1, e])
    omega
end
end Go.Proofs.Ytncjfgebolikoaa

/-
  Contracts of the law's helpers on slices of slices of integers.
-/
namespace Go.Proofs.Ytncjfgebolikoaa
open Go.RowKit

end Go.Proofs.Ytncjfgebolikoaa

/-
  append of all elements of a slice of integers that is only read onto a slice of integers of the call's own.
-/
namespace Go.Proofs.Ytncjfgebolikoaa
open Go.RowKit


/-- First x 0, .., x (n - 1), then y 0, y 1, .. -/
def thenI (n : Nat) (x : Nat → Value) (y : Nat → Int) : Nat → Value := fun j => if j < n then x j else .int .i64 (y (j - n))

theorem run_appendI (w : World) (ty : TypeId) {lo hi B n c m c2 : Nat} {A A2 : Option Addr} {x : Nat → Value} {y : Nat → Int} (h : Own w lo hi 3 1 A n c x) (hr : Rd w B A2 m c2 y) (hlo : lo ≤ w.heap.size) (hn : n ≤ 1073741824) (hm : m ≤ 1073741824) :
    ∃ A' c' w', (Builtin.append_ #[24, 24] ty #[.slice A n c, .slice A2 m c2]).run Try.prog w = .ok (.slice A' (n + m) c') w' ∧ Own w' lo w'.heap.size 3 1 A' (n + m) c' (thenI n x y) ∧ Below lo w w' ∧ ((Value.slice A' (n + m) c').ownBlock = (Value.slice A n c).ownBlock ∨ (Value.slice A' (n + m) c').ownBlock = some w.heap.size) ∧ w.grownBy w' (Value.slice A n c).ownBlock := by
  obtain ⟨i, hi', hzz⟩ := Option.map_eq_some_iff.1 info_int
  simp only [Prod.mk.injEq] at hzz
  obtain ⟨hz, hsize, hbytes⟩ := hzz
  have main : ∀ v' w', w'.ownsRow lo 3 1 v' (n + m) ((List.range (n * 1)).map x ++ (List.range m).map fun k => .int .i64 (y k)) → w.grownBy w' (Value.slice A n c).ownBlock →
      ∃ A' c', v' = .slice A' (n + m) c' ∧ Own w' lo w'.heap.size 3 1 A' (n + m) c' (thenI n x y) ∧ Below lo w w' := by
    intro v' w' hrow hg
    obtain ⟨A', c', rfl⟩ := row_form hrow
    refine ⟨A', c', rfl, Own.of_row hrow (fun j hj => ?_), (Below.refl _ _).grown hg hlo (fun k hk => (h.block k hk).1)⟩
    rw [List.getElem?_append]
    simp only [List.length_map, List.length_range, Nat.mul_one]
    unfold thenI
    by_cases hj2 : j < n
    · simp [hj2]
    · rw [if_neg hj2, if_neg hj2, List.getElem?_map, List.getElem?_range (by omega)]
      rfl
  rcases A2 with _ | ad
  · have hm0 : m = 0 := by
      rcases Nat.eq_zero_or_pos m with h0 | h0
      · exact h0
      · obtain ⟨b, o, he, _⟩ := hr.2 h0
        cases he
    subst hm0
    refine ⟨A, c, w, ?_, ?_, Below.refl _ _, .inl rfl, World.grownBy.refl w _⟩
    · rcases h with ⟨rfl, rfl, rfl⟩ | ⟨g, cur, rfl, _, _, _, hnc, _⟩
      · simp [Builtin.append_, run_underlying Try.underlying24, sizeOf, typeInfo, hi', Builtin.lenOf, Builtin.firstCells]
      · simp [Builtin.append_, run_underlying Try.underlying24, sizeOf, typeInfo, hi', Builtin.lenOf, Builtin.firstCells, hnc, storeCells]
    · exact (h.lt.mono (Nat.le_refl _) (Nat.min_le_right _ _)).congr (fun j hj => by unfold thenI; rw [if_pos (by omega)])
  · have hcells : ∀ (j : Nat) (u : Value), ((List.range m).map fun k => Value.int .i64 (y k))[j]? = some u → w.cell? (ad.add j) = some u := by
      intro j u hu
      have hj : j < m := by
        have := (List.getElem?_eq_some_iff.1 hu).1
        simpa using this
      obtain ⟨b, o, he, _, hc⟩ := hr.2 (by omega)
      simp only [Option.some.injEq] at he
      subst he
      have hadd : (⟨b, o, none⟩ : Addr).add j = ⟨b, o + j, none⟩ := by unfold Addr.add; split <;> simp_all
      rw [hadd, hc j hj]
      simpa [hj] using hu
    obtain ⟨v', w', hrun, h2, h3, _, h5⟩ := run_append_own_at (P := Try.prog) w lo 24 ty 3 i _ 1 8 Try.underlying24 hi' hz hsize hbytes rfl (by omega) _ n _ h.row ad m c2 _ (by simp) hcells (by
      intro u hu
      obtain ⟨j, _, rfl⟩ := List.mem_map.1 hu
      rfl) (by unfold maxLen; omega) (by omega) hlo
    obtain ⟨A', c', rfl, hO, hB⟩ := main v' w' h2 h3
    exact ⟨A', c', w', hrun, hO, hB, h5, h3⟩

section
variable (w : World) {ops : Array Oper} {rest : List Oper} {o : Oper} {a : Act} {K : Act → World → Prop} {Q : Exit → Act → World → Prop} {E : Prop}
  {lo hi B n c m c2 : Nat} {A A2 : Option Addr} {x : Nat → Value} {y : Nat → Int}
theorem wp_appendI (s z : Operand)
    (ho : o.op = .call { callee := .builtin .append, args := #[s, z], argTypes := #[24, 24] })
    (hs : a.eval s = .slice A n c) (h : Own w lo hi 3 1 A n c x) (hz : a.eval z = .slice A2 m c2) (hr : Rd w B A2 m c2 y) (hlo : lo ≤ w.heap.size) (hn : n ≤ 1073741824) (hm : m ≤ 1073741824)
    (hK : ∀ A' c' w', Own w' lo w'.heap.size 3 1 A' (n + m) c' (thenI n x y) → Below lo w w' → K (a.put o.dst (.slice A' (n + m) c')) w') : o.wp Try.prog a w K Q := by
  obtain ⟨A', c', w', hrun, h2, h3, _⟩ := run_appendI w o.type h hr hlo hn hm
  unfold Oper.wp execOp
  simp only [ho, resolve, invoke, builtin, Sem.run_bind, Sem.run_pure, Result.andThen_ok, List.map_toArray, List.map_cons, List.map_nil, hs, hz, hrun]
  exact hK _ _ _ h2 h3
theorem wpList_appendI (hgd : o.guard = none) (s z : Operand)
    (ho : o.op = .call { callee := .builtin .append, args := #[s, z], argTypes := #[24, 24] })
    (hs : a.eval s = .slice A n c) (h : Own w lo hi 3 1 A n c x) (hz : a.eval z = .slice A2 m c2) (hr : Rd w B A2 m c2 y) (hlo : lo ≤ w.heap.size) (hn : n ≤ 1073741824) (hm : m ≤ 1073741824)
    (hK : ∀ A' c' w', Own w' lo w'.heap.size 3 1 A' (n + m) c' (thenI n x y) → Below lo w w' → wpList Try.prog ops Q rest (a.put o.dst (.slice A' (n + m) c')) w') : wpList Try.prog ops Q (o :: rest) a w :=
  wpList_plain hgd fun _ hK2 => wp_appendI w s z ho hs h hz hr hlo hn hm fun A' c' w' h2 h3 => hK2 _ _ (hK A' c' w' h2 h3)
theorem step_appendI (hgd : o.guard = none) (s z : Operand)
    (ho : o.op = .call { callee := .builtin .append, args := #[s, z], argTypes := #[24, 24] })
    (hs : a.eval s = .slice A n c) (h : Own w lo hi 3 1 A n c x) (hz : a.eval z = .slice A2 m c2) (hr : Rd w B A2 m c2 y) (hlo : lo ≤ w.heap.size) (hn : n ≤ 1073741824) (hm : m ≤ 1073741824)
    (hK : ∀ A' c' w', Own w' lo w'.heap.size 3 1 A' (n + m) c' (thenI n x y) → Below lo w w' → K (a.put o.dst (.slice A' (n + m) c')) w') :
    if Region.wanted o (yielded ops a.tmps) = true then Oper.wp Try.prog o a w K Q else E := by
  have hw : Region.wanted o (yielded ops a.tmps) = true := by simp [Region.wanted, hgd]
  rw [if_pos hw]
  exact wp_appendI w s z ho hs h hz hr hlo hn hm hK
end
end Go.Proofs.Ytncjfgebolikoaa

/-
  append of all elements of a slice of slices that is only read onto a slice of slices of the call's own.
-/
namespace Go.Proofs.Ytncjfgebolikoaa
open Go.RowKit

section
variable (w : World) {ops : Array Oper} {rest : List Oper} {o : Oper} {a : Act} {K : Act → World → Prop} {Q : Exit → Act → World → Prop} {E : Prop}
  {lo hi B n c m c2 : Nat} {A A2 : Option Addr} {x y : Nat → Value}
end
end Go.Proofs.Ytncjfgebolikoaa

/-
  Contracts: a copy of a graph in new memory, of both programs; two bits turned.
-/
namespace Go.Proofs.Ytncjfgebolikoaa
open Go.RowKit

set_option maxHeartbeats 1000000 in
theorem l2Copy_any (sz : Int) (A : Option Addr) (m c : Nat) (x : Nat → Int) (w : World) (B : Nat) (h : Rd w B A m c x) (hB : B ≤ w.heap.size) (hm : m ≤ 1048576) :
    Calls Try.prog 85 #[.agg #[.int .i64 sz, .slice A m c]] w fun e w' => ∃ A' c', e = .returned (.agg #[.int .i64 sz, .slice A' m c']) ∧ Own w' (w.heap.size + 2) w'.heap.size 3 1 A' m c' (fun j => .int .i64 (x j)) ∧ Below w.heap.size w w' := by
  obtain ⟨W, hW⟩ : ∃ W : World, W = ((w.alloc (Obj.cells #[Value.int IntKind.i64 sz, Value.slice A m c] 26)).alloc (Obj.cells #[Value.int IntKind.i64 0, Value.slice none 0 0] 26)) := ⟨_, rfl⟩
  have HB : Hid (Below w.heap.size w W) := by rw [hW]; exact ((Below.refl _ _).alloc (Nat.le_refl _) _).alloc (by simp) _
  have HZ : Hid (w.heap.size + 2 = W.heap.size) := by rw [hW]; simp [Hid]
  have e0 : W.cell? ⟨w.heap.size, 0, none⟩ = some (.int .i64 sz) := by rw [hW]; simp [go_sem]
  have e1 : W.cell? ⟨w.heap.size, 1, none⟩ = some (.slice A m c) := by rw [hW]; simp [go_sem]
  have e2 : W.cell? ⟨w.heap.size + 1, 0, none⟩ = some (.int .i64 0) := by rw [hW]; simp [go_sem]
  have e3 : W.cell? ⟨w.heap.size + 1, 1, none⟩ = some (.slice none 0 0) := by rw [hW]; simp [go_sem]
  have e4 : W.frozen? ⟨w.heap.size + 1, 0, none⟩ = false := by rw [hW]; simp [go_sem]
  have e5 : W.frozen? ⟨w.heap.size + 1, 1, none⟩ = false := by rw [hW]; simp [go_sem]
  have k1 := h.keep (HB.out.mono hB) (Nat.le_refl _)
  have HK := Lib.hid k1
  have HW := Lib.hid hW
  clear hW h k1
  go_enter Try.func85, Try.ntmps85
  go_wp2_with fail
  rw [← HW.out]
  have HO : Hid (Own ((W.alloc (Obj.cells #[] 3)).drew) W.heap.size (W.heap.size + 1) 3 1 (some ⟨W.heap.size, 0, none⟩) 0 0 (fun _ => .int .i64 0)) :=
    .inr ⟨W.heap.size, #[], rfl, Nat.le_refl _, Nat.lt_succ_self _, heap_alloc_new W _, Nat.le_refl _, by unfold maxLen; omega, rfl, fun j hj => absurd hj (by omega)⟩
  have d2 : ((W.alloc (Obj.cells #[] 3)).drew).cell? ⟨w.heap.size + 1, 0, none⟩ = some (.int .i64 0) := (World.cell?_alloc_lt W _ ⟨w.heap.size + 1, 0, none⟩ (by have := HZ.out; show w.heap.size + 1 < _; omega)).trans e2
  have d3 : ((W.alloc (Obj.cells #[] 3)).drew).cell? ⟨w.heap.size + 1, 1, none⟩ = some (.slice none 0 0) := (World.cell?_alloc_lt W _ ⟨w.heap.size + 1, 1, none⟩ (by have := HZ.out; show w.heap.size + 1 < _; omega)).trans e3
  have d4 : ((W.alloc (Obj.cells #[] 3)).drew).frozen? ⟨w.heap.size + 1, 0, none⟩ = false := (World.frozen?_of_block (Below.heap_alloc W _ (w.heap.size + 1) (by have := HZ.out; omega))).trans e4
  have d5 : ((W.alloc (Obj.cells #[] 3)).drew).frozen? ⟨w.heap.size + 1, 1, none⟩ = false := (World.frozen?_of_block (Below.heap_alloc W _ (w.heap.size + 1) (by have := HZ.out; omega))).trans e5
  have HR : Hid (Rd ((W.alloc (Obj.cells #[] 3)).drew) B A m c x) := HK.out.keep (((Below.refl B W).alloc (by have := HZ.out; omega) _).drew) (Nat.le_refl _)
  go_region_held3 (fun z => z.cell? ⟨w.heap.size, 0, none⟩ = some (.int .i64 sz) ∧ z.cell? ⟨w.heap.size, 1, none⟩ = some (.slice A m c))
    (first | (refine ⟨?_, ?_⟩ <;> assumption) | go_keep | (refine ⟨?_, ?_⟩ <;> (refine (hb.cell (by have := HZ.out; show w.heap.size < _; omega)).trans ?_; go_keep)))
    ((refine step_appendI _ (by rfl) _ _ (by rfl) (by rfl) HO.out (by rfl) HR.out (by simp) (by omega) (by omega) ?_; intro A' c' w1 hO hb; have r2 := up hb d2 (by have := HZ.out; omega); have r3 := up hb d3 (by have := HZ.out; omega); have r4 := upf hb d4 (by have := HZ.out; omega); have r5 := upf hb d5 (by have := HZ.out; omega)))
  have hz2 := hb.size
  simp at hz2
  rw [Nat.zero_add] at hO
  have HO2 := Lib.hid hO
  have HB2 : Hid (Below w.heap.size w w1) := HB.out.trans (((((Below.refl W.heap.size W).alloc (Nat.le_refl _) _).drew).trans hb).mono (by have := HZ.out; omega))
  clear hO hb d2 d3 d4 d5 e0 e1 e2 e3 e4 e5 HO HR HK HW
  go_wp2
  have F : Fr (w.heap.size + 1) (w.heap.size + 2) w1 _ := ((Fr.refl _ _ _).setCell (p := ⟨w.heap.size + 1, 0, none⟩) (by show w.heap.size + 1 ≤ w.heap.size + 1; omega) (by show w.heap.size + 1 < _; omega) (Value.int IntKind.i64 sz)).setCell (p := ⟨w.heap.size + 1, 1, none⟩) (by show w.heap.size + 1 ≤ w.heap.size + 1; omega) (by show w.heap.size + 1 < _; omega) (Value.slice A' m c')
  have O1 := ((HO2.out.keep F (.inr (by have := HZ.out; omega))).mono (lo' := w.heap.size + 2) (by have := HZ.out; omega) F.size)
  exact bodyPost_ret (v := .agg #[.int .i64 sz, .slice A' m c']) (by simp [results, Try.results85, go_sem, *]) rfl ⟨A', c', rfl, O1.congr (fun j hj => by unfold thenI; simp), HB2.out.trans (F.below (by omega) (by have := HZ.out; omega))⟩

end Go.Proofs.Ytncjfgebolikoaa

/-
  Contracts: two bits of a graph turned.
-/
namespace Go.Proofs.Ytncjfgebolikoaa
open Go.RowKit


end Go.Proofs.Ytncjfgebolikoaa

/-
  The pairs of n vertices in lexicographic order, gone through one after the other; plain lists, no program.
-/
namespace Go.Proofs.Ytncjfgebolikoaa

/-- The pairs that stand before (v, w): all of the vertices before v, and those of v with a vertex before w. -/
def prRow (n v : Nat) : List (Nat × Nat) := (List.range' (v + 1) (n - (v + 1))).map fun w => (v, w)
def pr (n : Nat) : List (Nat × Nat) := (List.range n).flatMap (prRow n)

end Go.Proofs.Ytncjfgebolikoaa

/-
  Slices of edits: what they read as; the law's helpers on them.
-/
namespace Go.Proofs.Ytncjfgebolikoaa
open Go.RowKit

end Go.Proofs.Ytncjfgebolikoaa

/-
  Contracts: the edges of a graph, of both programs; whether two vertices of a good graph are neighbours.
-/
namespace Go.Proofs.Ytncjfgebolikoaa
open Go.RowKit

end Go.Proofs.Ytncjfgebolikoaa

/-
  Contracts of the reference: whether two vertices of a good graph are neighbours; the edges of a graph.
-/
namespace Go.Proofs.Ytncjfgebolikoaa
open Go.RowKit

theorem l2Edge_any (s : Int) (b o m c : Nat) (w : World) (v u : Nat) (y : Int) (hy : w.cell? ⟨b, o + v, none⟩ = some (.int .i64 y)) (hb : b < w.heap.size) (hv : v < m) (h0 : 0 ≤ y) (h1 : y < 16777216) (hu : u ≤ 63) :
    Calls Try.prog 43 #[.agg #[.int .i64 s, .slice (some ⟨b, o, none⟩) m c], .int .i64 v, .int .i64 u] w fun e w' => e = .returned (.bool (y.toNat.testBit u)) ∧ Below w.heap.size w w' := by
  have HB : Hid (Below w.heap.size w (w.alloc (Obj.cells #[Value.int IntKind.i64 s, Value.slice (some ⟨b, o, none⟩) m c] 26))) := (Below.refl _ _).alloc (Nat.le_refl _) _
  have E := and_one_i64 y u h0 h1
  have H := Lib.hid E
  have hv' : (v : Int) < (m : Int) := by omega
  have q := (HB.out.cell (p := ⟨b, o + v, none⟩) hb).trans hy
  clear E hy
  go_enter Try.func43, Try.ntmps43
  go_wp2
  go_ret
  exact ⟨ret_bool H.out, HB.out⟩

end Go.Proofs.Ytncjfgebolikoaa

/-
  Contracts: the optional edges between two graphs, of both programs.
-/
namespace Go.Proofs.Ytncjfgebolikoaa
open Go.RowKit

end Go.Proofs.Ytncjfgebolikoaa

/-
  Contract: all pairs of n vertices.
-/
namespace Go.Proofs.Ytncjfgebolikoaa
open Go.RowKit

end Go.Proofs.Ytncjfgebolikoaa

/-
  Plain lists of edits, and pushes onto slices of edits.
-/
namespace Go.Proofs.Ytncjfgebolikoaa
open Go.RowKit

end Go.Proofs.Ytncjfgebolikoaa

/-
  Contracts: a set's list, of both programs.
-/
namespace Go.Proofs.Ytncjfgebolikoaa
open Go.RowKit

/-- The cells of a list of vertices. -/
def ni (l : List Nat) : Nat → Value := fun i => .int .i64 ((l.getD i 0 : Nat) : Int)
theorem ni_left {l : List Nat} {k j : Nat} (h : j < l.length * 1) : ni (l ++ [k]) j = ni l j := by
  unfold ni; simp [List.getD, List.getElem?_append_left (by omega : j < l.length)]
theorem ni_news {l : List Nat} {k : Nat} : ∀ i, i < 1 → (#[Value.int .i64 (k : Int)] : Array Value)[i]? = some (ni (l ++ [k]) (l.length * 1 + i)) := by
  intro i hi
  obtain rfl : i = 0 := by omega
  unfold ni; simp [List.getD]
theorem ni_at {l : List Nat} {j : Nat} (h : j < l.length) : ni l j = .int .i64 (l[j] : Int) := by unfold ni; simp [List.getD, h]

/-- append of one vertex. -/
theorem wpList_pushN (W : World) {ops : Array Oper} {rest : List Oper} {o : Oper} {a : Act} {Q : Exit → Act → World → Prop} (hgd : o.guard = none) (s y : Operand)
    (ho : o.op = .call { callee := .builtin .append, args := #[s, y], argTypes := #[24, 24] })
    (lo hi : Nat) (A : Option Addr) (c : Nat) (T : List Nat) (h : Own W lo hi 3 1 A T.length c (ni T)) (hlo : lo ≤ W.heap.size) (k : Nat) (hs : a.eval s = .slice A T.length c) (cx H : Nat) (hH : W.heap.size = H) (hy : a.eval y = .slice (some ⟨H, 0, none⟩) 1 cx)
    (hn : T.length ≤ 1073741824)
    (hK : ∀ g cap w', Own w' lo w'.heap.size 3 1 (some ⟨g, 0, none⟩) (T.length + 1) cap (ni (T ++ [k])) → Below lo W w' → wpList Try.prog ops Q rest (a.put o.dst (.slice (some ⟨g, 0, none⟩) (T.length + 1) cap)) w') :
    wpList Try.prog ops Q (o :: rest) a (W.alloc (Obj.cells #[.int .i64 (k : Int)] 3)) := by
  subst hH
  have ha := h.alloc (Obj.cells #[.int .i64 (k : Int)] 3)
  refine wpList_push (W.alloc (Obj.cells #[.int .i64 (k : Int)] 3)) hgd s y 24 ho 3 _ 1 8 Try.underlying24 info_int rfl (by omega) lo hi A T.length c (ni (T ++ [k])) hs
    (ha.congr (fun j hj => (ni_left hj).symm)) (by simp; omega) W.heap.size #[.int .i64 (k : Int)] 3 (0, 0) cx (heap_alloc_new W _) hy rfl ni_news (by simp [Value.oneCell']) hn (by omega) ?_
  intro g cap w' hp
  exact hK g cap w' hp.own (((Below.refl _ _).alloc hlo _).trans hp.below)

set_option maxHeartbeats 1000000 in
theorem ListOf_i (s : Nat) (hs : s < 128) (w : World) :
    Calls Try.prog 62 #[.int .i64 s] w fun e w' => ∃ A c, e = .returned (.slice A (listN s).length c) ∧ Own w' w.heap.size w'.heap.size 3 1 A (listN s).length c (ni (listN s)) ∧ Below w.heap.size w w' := by
  obtain ⟨W, hW⟩ : ∃ W : World, W = w.alloc (Obj.cells #[] 3) := ⟨_, rfl⟩
  have HB : Hid (Below w.heap.size w W) := by rw [hW]; exact (Below.refl _ _).alloc (Nat.le_refl _) _
  have hz1 : w.heap.size < W.heap.size := by rw [hW]; simp
  have HO : Hid (Own W w.heap.size W.heap.size 3 1 (some ⟨w.heap.size, 0, none⟩) 0 0 (ni [])) := by
    refine .inr ⟨w.heap.size, #[], rfl, Nat.le_refl _, hz1, ?_, Nat.le_refl _, by unfold maxLen; omega, rfl, fun j hj => absurd hj (by omega)⟩
    rw [hW]
    exact heap_alloc_new w _
  have HW := Lib.hid hW
  clear hW
  go_enter Try.func62, Try.ntmps62
  go_wp2_with (first | (go_at_call 66; refine (within_yes _ _ _ _ (by omega) (by omega)).mono ?_; rintro e w' ⟨rfl, rfl⟩))
  rw [← HW.out]
  clear HW
  go_loopw [3, 10] (fun l i wr => ∃ (k : Nat) (A' : Option Addr) (c' : Nat), k ≤ 7 ∧ i = .int .i64 k ∧ l = .slice A' (listK s k).length c' ∧ Hid (Own wr w.heap.size wr.heap.size 3 1 A' (listK s k).length c' (ni (listK s k))) ∧ Hid (Below w.heap.size w wr)) (fun _ i _ => 7 - (intOf i).toNat)
  case atStart => exact ⟨0, _, 0, Nat.zero_le _, rfl, rfl, HO, HB⟩
  case round =>
    obtain ⟨k, A', c', hk, rfl, rfl, hO, hbr⟩ := hrel
    have zr := hbr.out.size
    have hlen := listK_len s k
    by_cases hlt : k < 7
    · have K1 : Hid (∀ w, Calls Try.prog 34 #[.int .i64 s, .int .i64 k] w fun e w' => e = .returned (.bool (s.testBit k)) ∧ w = w') := fun w => (has_any s k w (by omega) (by omega) (by omega) (by omega)).mono fun _ _ ⟨h1, h2⟩ => ⟨by rw [h1, Int.toNat_natCast, Int.toNat_natCast], h2⟩
      cases ht : s.testBit k
      · have HL := Lib.hid (listK_no ht)
        rw [ht] at K1
        clear ht
        go_wp2_with (first | (go_at_call 34; with_reducible refine (K1.out _).mono ?_; rintro e w' ⟨rfl, rfl⟩))
        go_roundw
        case rel => exact ⟨k + 1, A', c', by omega, by go_num, by rw [HL.out], by rw [HL.out]; exact hO, hbr⟩
        case measure => simp [intOf]; omega
      · have HL := Lib.hid (listK_yes ht)
        rw [ht] at K1
        clear ht
        go_wp2_with (first | (go_at_call 34; with_reducible refine (K1.out _).mono ?_; rintro e w' ⟨rfl, rfl⟩) | (at_builtin; (refine wpList_pushN wr rfl _ _ rfl w.heap.size wr.heap.size A' c' (listK s k) hO.out zr k rfl 1 wr.heap.size rfl rfl (by omega) ?_; intro g cap w3 hO2 hb2)))
        have H4 := Lib.hid hO2
        have H5 : Hid (Below w.heap.size w w3) := hbr.out.trans hb2
        clear hO2 hb2 hbr hO
        go_roundw
        case rel => exact ⟨k + 1, _, _, by omega, by go_num, by rw [HL.out, List.length_append]; rfl, by rw [HL.out, List.length_append]; exact H4.out, H5⟩
        case measure => simp [intOf]; omega
    · have hk7 : k = 7 := by omega
      have HN : Hid (listK s k = listN s) := by show _ = _; rw [hk7]; rfl
      have i1 : (7 : Int) ≤ (k : Int) := by omega
      clear hk7
      go_wp2
      go_ret
      exact ⟨A', c', by rw [← HN.out]; rfl, by rw [← HN.out]; exact hO.out, hbr.out⟩

theorem l3Fine_yes (s : Int) (w : World) (h0 : 0 ≤ s) (h1 : s ≤ 127) : Calls Try.prog 77 #[.int .i64 s] w fun e w' => e = .returned (.bool true) ∧ w = w' := by
  go_enter Try.func77, Try.ntmps77
  go_wp2_with (first | (go_at_call 59; refine (l1In_yes _ _ _ _ (by omega) (by omega)).mono ?_; rintro e w' ⟨rfl, rfl⟩))
  go_ret
  exact ⟨rfl, rfl⟩

set_option maxHeartbeats 1000000 in
theorem ListOf_s (s : Nat) (hs : s < 128) (w : World) :
    Calls Try.prog 64 #[.int .i64 s] w fun e w' => ∃ A c, e = .returned (.slice A (listN s).length c) ∧ Own w' w.heap.size w'.heap.size 3 1 A (listN s).length c (ni (listN s)) ∧ Below w.heap.size w w' := by
  obtain ⟨W, hW⟩ : ∃ W : World, W = w.alloc (Obj.cells #[] 3) := ⟨_, rfl⟩
  have HB : Hid (Below w.heap.size w W) := by rw [hW]; exact (Below.refl _ _).alloc (Nat.le_refl _) _
  have hz1 : w.heap.size < W.heap.size := by rw [hW]; simp
  have HO : Hid (Own W w.heap.size W.heap.size 3 1 (some ⟨w.heap.size, 0, none⟩) 0 0 (ni [])) := by
    refine .inr ⟨w.heap.size, #[], rfl, Nat.le_refl _, hz1, ?_, Nat.le_refl _, by unfold maxLen; omega, rfl, fun j hj => absurd hj (by omega)⟩
    rw [hW]
    exact heap_alloc_new w _
  have HW := Lib.hid hW
  clear hW
  go_enter Try.func64, Try.ntmps64
  go_wp2
  rw [← HW.out]
  clear HW
  go_loopw [3, 4] (fun l i wr => ∃ (k : Nat) (A' : Option Addr) (c' : Nat), k ≤ 7 ∧ i = .int .i64 k ∧ l = .slice A' (listK s k).length c' ∧ Hid (Own wr w.heap.size wr.heap.size 3 1 A' (listK s k).length c' (ni (listK s k))) ∧ Hid (Below w.heap.size w wr)) (fun _ i _ => 7 - (intOf i).toNat)
  case atStart => exact ⟨0, _, 0, Nat.zero_le _, rfl, rfl, HO, HB⟩
  case round =>
    obtain ⟨k, A', c', hk, rfl, rfl, hO, hbr⟩ := hrel
    have zr := hbr.out.size
    have hlen := listK_len s k
    by_cases hlt : k < 7
    · have E := and_one_i64 (s : Int) k (by omega) (by omega)
      rw [Int.toNat_natCast] at E
      cases ht : s.testBit k
      · have HL := Lib.hid (listK_no ht)
        rw [ht] at E
        clear ht
        go_wp2_with (first | (go_at_call 77; refine (l3Fine_yes _ _ (by omega) (by omega)).mono ?_; rintro e w' ⟨rfl, rfl⟩))
        go_roundw
        case rel => exact ⟨k + 1, A', c', by omega, by go_num, by rw [HL.out], by rw [HL.out]; exact hO, hbr⟩
        case measure => simp [intOf]; omega
      · have HL := Lib.hid (listK_yes ht)
        rw [ht] at E
        clear ht
        go_wp2_with (first | (go_at_call 77; refine (l3Fine_yes _ _ (by omega) (by omega)).mono ?_; rintro e w' ⟨rfl, rfl⟩) | (at_builtin; (refine wpList_pushN wr rfl _ _ rfl w.heap.size wr.heap.size A' c' (listK s k) hO.out zr k rfl 1 wr.heap.size rfl rfl (by omega) ?_; intro g cap w3 hO2 hb2)))
        have H4 := Lib.hid hO2
        have H5 : Hid (Below w.heap.size w w3) := hbr.out.trans hb2
        clear hO2 hb2 hbr hO
        go_roundw
        case rel => exact ⟨k + 1, _, _, by omega, by go_num, by rw [HL.out, List.length_append]; rfl, by rw [HL.out, List.length_append]; exact H4.out, H5⟩
        case measure => simp [intOf]; omega
    · have hk7 : k = 7 := by omega
      have HN : Hid (listK s k = listN s) := by show _ = _; rw [hk7]; rfl
      have i1 : (7 : Int) ≤ (k : Int) := by omega
      clear hk7
      go_wp2
      go_ret
      exact ⟨A', c', by rw [← HN.out]; rfl, by rw [← HN.out]; exact hO.out, hbr.out⟩
end Go.Proofs.Ytncjfgebolikoaa

/-
  Contracts: is a set a clique? The program's test; the closure that looks for a simplicial vertex; the search for the first.
-/
namespace Go.Proofs.Ytncjfgebolikoaa
open Go.RowKit

/-- A valid graph's rows as they are read. -/
def rw_ (x : Nat → Int) : Nat → Nat := fun v => (x v).toNat
theorem okB_vg {m : Nat} {x : Nat → Int} (h : okB m m x = true) : VG m (rw_ x) ∧ ∀ v, v < m → x v = (rw_ x v : Int) := by
  have hok : OkG m m x := by
    refine Classical.byContradiction fun h2 => ?_
    rw [okB_no h2] at h; cases h
  obtain ⟨r, _, vg, hx⟩ := hok
  exact ⟨vg.congr fun v hv => by show r v = (x v).toNat; rw [hx v hv]; simp, fun v hv => by show x v = ((x v).toNat : Int); rw [hx v hv]; simp⟩

end Go.Proofs.Ytncjfgebolikoaa

/-
  Contracts: is a set a clique? The reference's tests; is a vertex simplicial?
-/
namespace Go.Proofs.Ytncjfgebolikoaa
open Go.RowKit

set_option maxHeartbeats 1000000 in
theorem IsSet_yes (m : Nat) (A : Option Addr) (c : Nat) (x : Nat → Int) (s : Nat) (w : World) (B : Nat) (h : Rd w B A m c x) (hB : B ≤ w.heap.size) (hm : m ≤ 7) (hok : okB m m x = true) (hs : s < 2 ^ m) :
    Calls Try.prog 63 #[.agg #[.int .i64 m, .slice A m c], .int .i64 s] w fun e w' => e = .returned (.bool true) ∧ Below w.heap.size w w' := by
  obtain ⟨W, hW⟩ : ∃ W : World, W = (w.alloc (Obj.cells #[Value.int IntKind.i64 m, Value.slice A m c] 26)) := ⟨_, rfl⟩
  have HB : Hid (Below w.heap.size w W) := by rw [hW]; exact ((Below.refl _ _).alloc (Nat.le_refl _) _)
  have a0 : w.heap.size < W.heap.size := by rw [hW]; simp
  have e0 : W.cell? ⟨w.heap.size, 0, none⟩ = some (.int .i64 m) := by rw [hW]; simp [go_sem]
  have e1 : W.cell? ⟨w.heap.size, 1, none⟩ = some (.slice A m c) := by rw [hW]; simp [go_sem]
  have HK := Lib.hid (h.keep (HB.out.mono hB) (Nat.le_refl _))
  have HW := Lib.hid hW
  have Hok := Lib.hid hok
  have p1 := pow_shl m (by omega)
  have p2 : ((2 ^ m : Nat) : Int) = 2 ^ m := by simp
  have p3 : (s : Int) < 2 ^ m := by omega
  have p4 : (0 : Int) ≤ (s : Int) := by omega
  clear hW h hok p2
  go_enter Try.func63, Try.ntmps63
  go_wp2_with fail
  rw [← HW.out]
  refine (IsGraph_sany m A m c x W B HK.out (by omega) (by omega)).mono ?_
  rintro e w1 ⟨rfl, hb1⟩
  rw [Hok.out]
  have f0 := up hb1 e0 a0
  have f1 := up hb1 e1 a0
  have HB1 : Hid (Below w.heap.size w w1) := HB.out.trans (hb1.mono (by omega))
  clear hb1 e0 e1 HW HK HB
  go_wp2
  go_ret
  exact ⟨rfl, HB1.out⟩

end Go.Proofs.Ytncjfgebolikoaa
