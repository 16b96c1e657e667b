/-
  The pairs of n vertices in lexicographic order, gone through one after the other; plain lists, no program.
-/
namespace Go.Proofs.Ytnnlmdenffnjbaa

/-- The pairs that stand before (v, w): all of the vertices before v, and those of v with a vertex before w. -/
def prRow (n v : Nat) : List (Nat × Nat) := (List.range' (v + 1) (n - (v + 1))).map fun w => (v, w)
def prTo (n v w : Nat) : List (Nat × Nat) := (List.range v).flatMap (prRow n) ++ (List.range' (v + 1) (w - (v + 1))).map fun u => (v, u)
def pr (n : Nat) : List (Nat × Nat) := (List.range n).flatMap (prRow n)

theorem prTo_zero (n : Nat) : prTo n 0 1 = [] := by simp [prTo]
theorem prTo_step (n v w : Nat) (h : v + 1 ≤ w) : prTo n v (w + 1) = prTo n v w ++ [(v, w)] := by
  unfold prTo
  rw [List.append_assoc]
  congr 1
  rw [show w + 1 - (v + 1) = (w - (v + 1)) + 1 by omega, List.range'_concat, List.map_append]
  congr 1
  simp only [List.map_cons, List.map_nil, Nat.one_mul]
  rw [show v + 1 + (w - (v + 1)) = w by omega]
theorem prTo_row (n v : Nat) : prTo n (v + 1) (v + 1 + 1) = prTo n v n := by
  unfold prTo
  rw [List.range_succ, List.flatMap_append]
  simp [prRow]
theorem prTo_end (n w : Nat) (h : w ≤ n + 1) : prTo n n w = pr n := by
  unfold prTo pr
  rw [show w - (n + 1) = 0 by omega]
  simp
theorem mem_pr {n : Nat} {p : Nat × Nat} : p ∈ pr n ↔ p.1 < p.2 ∧ p.2 < n := by
  obtain ⟨a, b⟩ := p
  simp only [pr, prRow, List.mem_flatMap, List.mem_range, List.mem_map, List.mem_range'_1, Prod.mk.injEq]
  constructor
  · rintro ⟨v, hv, w, hw, rfl, rfl⟩; omega
  · rintro ⟨h1, h2⟩; exact ⟨a, by omega, b, by omega, rfl, rfl⟩
theorem length_prRow (n v : Nat) : (prRow n v).length = n - (v + 1) := by simp [prRow]
/-- How long the list is. -/
theorem length_pr_le {n : Nat} (h : n ≤ 7) : (pr n).length ≤ 21 := by
  have h8 : n = 0 ∨ n = 1 ∨ n = 2 ∨ n = 3 ∨ n = 4 ∨ n = 5 ∨ n = 6 ∨ n = 7 := by omega
  rcases h8 with rfl | rfl | rfl | rfl | rfl | rfl | rfl | rfl <;> decide
theorem prTo_prefix (n v w : Nat) (hv : v < n) (h : v + 1 ≤ w) (hw : w ≤ n) : ∃ t, pr n = prTo n v w ++ t := by
  obtain ⟨d, rfl⟩ : ∃ d, n = w + d := ⟨n - w, by omega⟩
  have : prRow (w + d) v = (List.range' (v + 1) (w - (v + 1))).map (fun u => (v, u)) ++ (List.range' w d).map (fun u => (v, u)) := by
    unfold prRow
    rw [← List.map_append]
    congr 1
    rw [show w + d - (v + 1) = (w - (v + 1)) + d by omega, ← List.range'_append_1]
    rw [show v + 1 + (w - (v + 1)) = w by omega]
  obtain ⟨e, he⟩ : ∃ e, w + d = v + 1 + e := ⟨w + d - (v + 1), by omega⟩
  refine ⟨(List.range' w d).map (fun u => (v, u)) ++ (List.range' (v + 1) e).flatMap (prRow (w + d)), ?_⟩
  unfold pr prTo
  have hr : List.range (w + d) = List.range v ++ (v :: List.range' (v + 1) e) := by
    rw [he, List.range_eq_range', List.range_eq_range']
    have h1 := List.range'_append_1 (s := 0) (m := v) (n := e + 1)
    rw [Nat.zero_add] at h1
    rw [show v + 1 + e = v + (e + 1) by omega, ← h1, List.range'_succ]
  rw [hr, List.flatMap_append, List.flatMap_cons, this]
  simp [List.append_assoc]
end Go.Proofs.Ytnnlmdenffnjbaa
