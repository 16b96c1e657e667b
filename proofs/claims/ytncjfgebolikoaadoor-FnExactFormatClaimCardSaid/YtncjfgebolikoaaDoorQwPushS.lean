/-
  append of several texts onto a list of texts of the call's own; a joined list of texts.
-/
import Derived.Test.YtncjfgebolikoaaDoorQwNumI
namespace Go.Proofs.YtncjfgebolikoaaDoor
open Go.RowKit

theorem wpList_pushSs (w : World) {ops : Array Oper} {rest : List Oper} {o : Oper} {a : Act} {Q : Exit → Act → World → Prop} (hgd : o.guard = none) (s y : Operand)
    (ho : o.op = .call { callee := .builtin .append, args := #[s, y], argTypes := #[55, 55] })
    (lo hi : Nat) (A : Option Addr) (n m N c : Nat) (L M : List ByteArray) (hL : L.length = n) (hM : M.length = m) (hN : n + m = N) (hm : 0 < m) (hn : N ≤ 1048576)
    (hs : a.eval s = .slice A n c) (hown : Own w lo hi 9 1 A n c (stL L)) (hlo : lo ≤ w.heap.size)
    (B cx : Nat) (hB : w.heap[B]? = some (.cells (M.map Value.string).toArray 9 (0, 0))) (hy : a.eval y = .slice (some ⟨B, 0, none⟩) m cx)
    (h : ∀ g cap w', Own w' lo w'.heap.size 9 1 (some ⟨g, 0, none⟩) N cap (stL (L ++ M)) → Below lo w w' → wpList Tryd.prog ops Q rest (a.put o.dst (.slice (some ⟨g, 0, none⟩) N cap)) w') : wpList Tryd.prog ops Q (o :: rest) a w := by
  obtain ⟨i, hi2, hzz⟩ := Option.map_eq_some_iff.1 info_string
  simp only [Prod.mk.injEq] at hzz
  obtain ⟨hz, hsize, hbytes⟩ := hzz
  subst hN
  refine wpList_append_lies w hgd s y 55 ho lo 9 i (.string ⟨#[]⟩) 1 16 Tryd.underlying55 hi2 hz hsize hbytes rfl (by omega) (.slice A n c) n _ hs hown.row ⟨B, 0, none⟩ m cx (M.map Value.string) hy (by simp [hM]) (by have := World.news_of_block hB; simpa using this) (by
    intro u hu
    obtain ⟨x, _, rfl⟩ := List.mem_map.1 hu
    rfl) hm (by unfold maxLen; omega) (by omega) hlo w.heap.size rfl ?_
  intro g cap w' hr hg _ _
  refine h g cap w' (Own.of_row hr (fun j hj => ?_)) ((Below.refl _ _).grown hg hlo (fun k hk => (hown.block k hk).1))
  rw [List.getElem?_append]
  simp only [List.length_map, List.length_range, Nat.mul_one]
  by_cases hj2 : j < n
  · rw [if_pos hj2]
    simp only [hj2, List.getElem?_map, List.getElem?_range, Option.map_some]
    unfold stL
    simp [List.getD, List.getElem?_append_left (show j < L.length by omega)]
  · rw [if_neg hj2]
    have h3 : j - n < M.length := by omega
    unfold stL
    rw [← hL] at h3 ⊢
    simp [List.getD, List.getElem?_append_right (show L.length ≤ j by omega), h3]
/-- A new list of texts. -/
theorem own_texts (w : World) (L : List ByteArray) (n : Nat) (hL : L.length = n) (hn : n ≤ 1048576) : Own (w.alloc (Obj.cells (L.map Value.string).toArray 9)) w.heap.size (w.alloc (Obj.cells (L.map Value.string).toArray 9)).heap.size 9 1 (some ⟨w.heap.size, 0, none⟩) n n (stL L) :=
  .inr ⟨w.heap.size, _, rfl, Nat.le_refl _, by simp, heap_alloc_new w _, Nat.le_refl _, by unfold maxLen; omega, by simp [hL], fun j hj => by
    have : j < L.length := by omega
    unfold stL
    simp [List.getD, this]⟩
/-- Join of such a list. -/
theorem join_own (g n c : Nat) (L : List ByteArray) (J sep : ByteArray) (w : World) (lo : Nat) (hL : L.length = n) (h : Own w lo w.heap.size 9 1 (some ⟨g, 0, none⟩) n c (stL L)) (hJ : Lib.join (L.map (·.data.toList)) sep.data.toList = J.data.toList) (hl : n ≤ 1048576) (hs : J.size ≤ 140737488355328) :
    Calls Tryd.prog 27 #[.slice (some ⟨g, 0, none⟩) n c, .string sep] w fun e w' => e = .returned (.string J) ∧ Below w.heap.size w w' := by
  subst hL
  have hg : g < w.heap.size := by
    rcases h.at_block with h2 | ⟨g2, h2, _, h3⟩
    · cases h2
    · cases h2; exact h3
  have K := join_any g 0 c L sep w (fun j x hx => by
    obtain ⟨hj, hx2⟩ := List.getElem?_eq_some_iff.1 hx
    obtain ⟨g2, e2, _, _, _, hc, _⟩ := h.at_ (by omega)
    cases e2
    rw [Nat.zero_add, hc j (by omega)]
    unfold stL
    simp [List.getD, hx]) hg (by omega) h.le (by
      show (Lib.join (L.map (·.data.toList)) sep.data.toList).length ≤ _
      rw [hJ]
      have : J.data.toList.length = J.size := by simp
      omega)
  refine K.mono fun e w' ⟨he, hb⟩ => ⟨?_, hb⟩
  rw [he]
  show Ending.returned (.string ⟨(Lib.join (L.map (·.data.toList)) sep.data.toList).toArray⟩) = _
  rw [hJ]
end Go.Proofs.YtncjfgebolikoaaDoor
