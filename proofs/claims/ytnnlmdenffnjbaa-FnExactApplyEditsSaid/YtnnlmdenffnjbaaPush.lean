/-
  append of one element onto a slice of the call's own, whose cells are a fixed function of the place; over no program.
-/
import Derived.Test.YtnnlmdenffnjbaaMem
import Derived.Deep.AppendLies
import Derived.Deep.RegionHeld3
namespace Go.Proofs.Ytnnlmdenffnjbaa
open Go.RowKit

theorem Own.block {w : World} {lo hi : Nat} {e : TypeId} {size n c : Nat} {A : Option Addr} {x : Nat → Value} (h : Own w lo hi e size A n c x) : ∀ k, (Value.slice A n c).ownBlock = some k → lo ≤ k ∧ k < hi := by
  intro k hk
  rcases h with ⟨rfl, _⟩ | ⟨g, cur, rfl, h2, h3, _⟩
  · simp [Value.ownBlock] at hk
  · simp [Value.ownBlock] at hk
    omega

/-- What stands behind an append: the new value owns one element more; nothing below lo has turned; of the blocks that were there only its own. -/
structure Pushed (w w' : World) (lo : Nat) (e : TypeId) (size : Nat) (A : Option Addr) (n c : Nat) (x : Nat → Value) (g cap : Nat) : Prop where
  own : Own w' lo w'.heap.size e size (some ⟨g, 0, none⟩) (n + 1) cap x
  below : Below lo w w'
  grown : w.grownBy w' (Value.slice A n c).ownBlock
  at_ : (Value.slice A n c).ownBlock = some g ∨ g = w.heap.size

section
variable {P : Program}
theorem wp_push (w : World) {o : Oper} {a : Act} {K : Act → World → Prop} {Q : Exit → Act → World → Prop} (s y : Operand) (t : TypeId)
    (ho : o.op = .call { callee := .builtin .append, args := #[s, y], argTypes := #[t, t] })
    (e : TypeId) (z : Value) (size bytes : Nat) (ht : P.underlying t = some (.slice e)) (hinfo : (P.info? e).map (fun i => (i.zero, i.size, i.bytes)) = some (some z, size, bytes)) (hzs : z.cells.size = size) (hsz : 0 < size)
    (lo hi : Nat) (A : Option Addr) (n c : Nat) (x : Nat → Value) (hs : a.eval s = .slice A n c) (hown : Own w lo hi e size A n c x) (hlo : lo ≤ w.heap.size)
    (B : Nat) (cs : Array Value) (T : TypeId) (fr : Nat × Nat) (cx : Nat) (hB : w.heap[B]? = some (.cells cs T fr)) (hy : a.eval y = .slice (some ⟨B, 0, none⟩) 1 cx) (hl : cs.size = size)
    (hX : ∀ j, j < size → cs[j]? = some (x (n * size + j))) (h1 : ∀ u ∈ cs.toList, u.oneCell' = true) (hn : n ≤ 1073741824) (hby : bytes ≤ 1024)
    (h : ∀ g cap w', Pushed w w' lo e size A n c x g cap → K (a.put o.dst (.slice (some ⟨g, 0, none⟩) (n + 1) cap)) w') : o.wp P a w K Q := by
  obtain ⟨i, hi, hzz⟩ := Option.map_eq_some_iff.1 hinfo
  simp only [Prod.mk.injEq] at hzz
  obtain ⟨hz, hsize, hbytes⟩ := hzz
  have hb2 : (n + 1) * bytes ≤ 140737488355328 := by
    have : (n + 1) * bytes ≤ 1073741825 * 1024 := Nat.mul_le_mul (by omega) hby
    omega
  refine wp_append_lies w s y t ho lo e i z size bytes ht hi hz hsize hbytes hzs hsz (.slice A n c) n _ hs hown.row ⟨B, 0, none⟩ 1 cx cs.toList hy (by simp [hl]) (World.news_of_block hB) h1 (by omega) (by unfold maxLen; omega) hb2 hlo w.heap.size rfl ?_
  intro g cap w' hr hg hat hlt
  refine h g cap w' ⟨Own.of_row hr (fun j hj => ?_), (Below.refl _ _).grown hg hlo (fun k hk => (hown.block k hk).1), hg, hat⟩
  rw [List.getElem?_append]
  simp only [List.length_map, List.length_range]
  by_cases hj2 : j < n * size
  · rw [if_pos hj2]; simp [hj2]
  · rw [if_neg hj2]
    have hlt2 : j - n * size < size := by rw [Nat.add_mul] at hj; omega
    have := hX (j - n * size) hlt2
    rw [show n * size + (j - n * size) = j by omega] at this
    simpa using this

theorem wpList_push (w : World) {ops : Array Oper} {rest : List Oper} {o : Oper} {a : Act} {Q : Exit → Act → World → Prop} (hgd : o.guard = none) (s y : Operand) (t : TypeId)
    (ho : o.op = .call { callee := .builtin .append, args := #[s, y], argTypes := #[t, t] })
    (e : TypeId) (z : Value) (size bytes : Nat) (ht : P.underlying t = some (.slice e)) (hinfo : (P.info? e).map (fun i => (i.zero, i.size, i.bytes)) = some (some z, size, bytes)) (hzs : z.cells.size = size) (hsz : 0 < size)
    (lo hi : Nat) (A : Option Addr) (n c : Nat) (x : Nat → Value) (hs : a.eval s = .slice A n c) (hown : Own w lo hi e size A n c x) (hlo : lo ≤ w.heap.size)
    (B : Nat) (cs : Array Value) (T : TypeId) (fr : Nat × Nat) (cx : Nat) (hB : w.heap[B]? = some (.cells cs T fr)) (hy : a.eval y = .slice (some ⟨B, 0, none⟩) 1 cx) (hl : cs.size = size)
    (hX : ∀ j, j < size → cs[j]? = some (x (n * size + j))) (h1 : ∀ u ∈ cs.toList, u.oneCell' = true) (hn : n ≤ 1073741824) (hby : bytes ≤ 1024)
    (h : ∀ g cap w', Pushed w w' lo e size A n c x g cap → wpList P ops Q rest (a.put o.dst (.slice (some ⟨g, 0, none⟩) (n + 1) cap)) w') : wpList P ops Q (o :: rest) a w :=
  wpList_plain hgd fun _ hK => wp_push w s y t ho e z size bytes ht hinfo hzs hsz lo hi A n c x hs hown hlo B cs T fr cx hB hy hl hX h1 hn hby fun g cap w' hp => hK _ _ (h g cap w' hp)

theorem step_push (w : World) {ops : Array Oper} {o : Oper} {a : Act} {K : Act → World → Prop} {Q : Exit → Act → World → Prop} {E : Prop} (hgd : o.guard = none) (s y : Operand) (t : TypeId)
    (ho : o.op = .call { callee := .builtin .append, args := #[s, y], argTypes := #[t, t] })
    (e : TypeId) (z : Value) (size bytes : Nat) (ht : P.underlying t = some (.slice e)) (hinfo : (P.info? e).map (fun i => (i.zero, i.size, i.bytes)) = some (some z, size, bytes)) (hzs : z.cells.size = size) (hsz : 0 < size)
    (lo hi : Nat) (A : Option Addr) (n c : Nat) (x : Nat → Value) (hs : a.eval s = .slice A n c) (hown : Own w lo hi e size A n c x) (hlo : lo ≤ w.heap.size)
    (B : Nat) (cs : Array Value) (T : TypeId) (fr : Nat × Nat) (cx : Nat) (hB : w.heap[B]? = some (.cells cs T fr)) (hy : a.eval y = .slice (some ⟨B, 0, none⟩) 1 cx) (hl : cs.size = size)
    (hX : ∀ j, j < size → cs[j]? = some (x (n * size + j))) (h1 : ∀ u ∈ cs.toList, u.oneCell' = true) (hn : n ≤ 1073741824) (hby : bytes ≤ 1024)
    (h : ∀ g cap w', Pushed w w' lo e size A n c x g cap → K (a.put o.dst (.slice (some ⟨g, 0, none⟩) (n + 1) cap)) w') :
    if Region.wanted o (yielded ops a.tmps) = true then Oper.wp P o a w K Q else E := by
  have hw : Region.wanted o (yielded ops a.tmps) = true := by simp [Region.wanted, hgd]
  rw [if_pos hw]
  exact wp_push w s y t ho e z size bytes ht hinfo hzs hsz lo hi A n c x hs hown hlo B cs T fr cx hB hy hl hX h1 hn hby h
end
end Go.Proofs.Ytnnlmdenffnjbaa
