/-
  Plain: the first coloring with so many colors; the fewest colors; a cover by the colors' sets.
-/
import Derived.Test.YtdpkbfiggbcclaaGreatQiJoinI
import Derived.Test.YtdpkbfiggbcclaaGreatQiTake
import Derived.Test.YtdpkbfiggbcclaaGreatQiFirst
import Derived.Test.YtdpkbfiggbcclaaGreatQiSet2S
namespace Go.Proofs.YtdpkbfiggbcclaaGreat
open Go.RowKit

/-- Is a color free for vertex v, seen against the first j vertices? -/
def frK (r : Nat → Nat) (l : List Nat) (v c : Nat) : Nat → Bool
  | 0 => true
  | j + 1 => frK r l v c j && !(l.getD j 0 == c && (r v).testBit j)
def colS (r : Nat → Nat) (k : Nat) : Nat → List Nat → Option (List Nat)
  | 0, l => some l
  | j + 1, l => (List.range k).findSome? fun c => if frK r l l.length c l.length = true then colS r k j (l ++ [c]) else none
def cAt (r : Nat → Nat) (k j : Nat) (l : List Nat) (c : Nat) : Option (List Nat) := if frK r l l.length c l.length = true then colS r k j (l ++ [c]) else none
def cOf (r : Nat → Nat) (m k : Nat) : Option (List Nat) := colS r k m []
section
variable {r : Nat → Nat} {k j v c m : Nat} {l : List Nat}
theorem cAt_no (h : frK r l l.length c l.length = false) : cAt r k j l c = none := by unfold cAt; rw [h]; rfl
theorem cAt_yes (h : frK r l l.length c l.length = true) : cAt r k j l c = colS r k j (l ++ [c]) := by unfold cAt; rw [h]; rfl
theorem colS_some {o : List Nat} (hc : c < k) (h : cAt r k j l c = some o) (hmin : ∀ u, u < c → cAt r k j l u = none) : colS r k (j + 1) l = some o := range_some hc h hmin
theorem colS_none (h : ∀ u, u < k → cAt r k j l u = none) : colS r k (j + 1) l = none := range_none h
theorem missing : ∀ (k : Nat) (l : List Nat), l.length < k → ∃ c, c < k ∧ c ∉ l := by
  intro k
  induction k with
  | zero => intro l h; omega
  | succ k ih =>
    intro l h
    by_cases hk : k ∈ l
    · obtain ⟨c, hc, hn⟩ := ih (l.erase k) (by rw [List.length_erase_of_mem hk]; have := List.length_pos_of_mem hk; omega)
      exact ⟨c, by omega, fun hm => hn ((List.mem_erase_of_ne (by omega)).2 hm)⟩
    · exact ⟨k, Nat.lt_succ_self _, hk⟩
theorem frK_new (h : c ∉ l) : ∀ j, j ≤ l.length → frK r l v c j = true := by
  intro j
  induction j with
  | zero => intro _; rfl
  | succ j ih =>
    intro hj
    have h1 : (l.getD j 0 == c) = false := by
      have hlt : j < l.length := by omega
      simp only [List.getD, List.getElem?_eq_getElem hlt, Option.getD_some]
      rw [beq_eq_false_iff_ne]
      exact fun e => h (e ▸ List.getElem_mem hlt)
    rw [frK, ih (by omega), h1]; rfl
/-- With as many colors as vertices there is a coloring. -/
theorem colS_enough : ∀ (j : Nat) (l : List Nat), l.length + j ≤ k → colS r k j l ≠ none := by
  intro j
  induction j with
  | zero => intro l _ h; cases h
  | succ j ih =>
    intro l hl h
    obtain ⟨c, hc, hn⟩ := missing k l (by omega)
    rw [colS, List.findSome?_eq_none_iff] at h
    have := h c (List.mem_range.2 hc)
    rw [if_pos (frK_new hn _ (Nat.le_refl _))] at this
    exact ih (l ++ [c]) (by rw [List.length_append]; simp; omega) this
theorem cOf_enough (h : m ≤ k) : (cOf r m k).isSome = true := by
  cases e : cOf r m k with
  | none => exact absurd e (colS_enough m [] (by simpa using h))
  | some o => rfl
end
/-- The fewest colors. -/
def chN (r : Nat → Nat) (m : Nat) : Nat := ((List.range m).find? fun k => (cOf r m (k + 1)).isSome).getD 0 + 1
section
variable {r : Nat → Nat} {m k : Nat}
theorem chN_spec (hm : 1 ≤ m) : chN r m ≤ m ∧ (cOf r m (chN r m)).isSome = true ∧ ∀ j, 1 ≤ j → j < chN r m → (cOf r m j).isSome = false := by
  unfold chN
  cases e : (List.range m).find? fun k => (cOf r m (k + 1)).isSome with
  | none =>
    rw [List.find?_eq_none] at e
    have := e (m - 1) (List.mem_range.2 (by omega))
    rw [show m - 1 + 1 = m by omega, cOf_enough (Nat.le_refl _)] at this
    exact absurd rfl this
  | some i =>
    rw [List.find?_range_eq_some] at e
    obtain ⟨h1, h2, h3⟩ := e
    rw [List.mem_range] at h2
    refine ⟨by simp; omega, by simpa using h1, fun j hj1 hj => ?_⟩
    have := h3 (j - 1) (by simp at hj; omega)
    rw [show j - 1 + 1 = j by omega] at this
    simpa using this
theorem chN_pos : 1 ≤ chN r m := by unfold chN; omega
end
def lqN (r : Nat → Nat) (m : Nat) : Nat := lgK (cliq r) (2 ^ m)
theorem lq_lt (r : Nat → Nat) (m : Nat) : lqN r m < 2 ^ m := lgK_lt _ (Nat.two_pow_pos m)
end Go.Proofs.YtdpkbfiggbcclaaGreat
