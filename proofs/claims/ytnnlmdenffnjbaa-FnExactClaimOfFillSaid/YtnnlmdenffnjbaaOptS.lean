/-
  Contract: the optional edges between two graphs, of the reference.
-/
import Derived.Test.YtnnlmdenffnjbaaGB
import Derived.Test.YtnnlmdenffnjbaaGL
namespace Go.Proofs.Ytnnlmdenffnjbaa
open Go.RowKit

theorem tot_eq {D : List Dsc} {L : List (List Int)} (h : lists D = L) : tot D = (L.map List.length).sum := by
  subst h; unfold tot lists; rw [List.map_map]; rfl
theorem sum_two {L : List (List Int)} (h : ∀ l ∈ L, l.length = 2) : (L.map List.length).sum = 2 * L.length := by
  induction L with
  | nil => rfl
  | cons a L ih =>
    have h1 := h a List.mem_cons_self
    have h2 := ih fun l hl => h l (List.mem_cons_of_mem _ hl)
    simp only [List.map_cons, List.sum_cons, List.length_cons]
    omega
theorem edgesL_two {s : Int} {m : Nat} {x : Nat → Int} : ∀ l ∈ edgesL s m x, l.length = 2 := by
  intro l hl
  unfold edgesL at hl
  split at hl
  · unfold edAll at hl
    obtain ⟨p, _, rfl⟩ := List.mem_map.1 hl
    rfl
  · cases hl
theorem edgesL_len {s : Int} {m : Nat} {x : Nat → Int} : (edgesL s m x).length ≤ 21 := by
  unfold edgesL
  split
  · rename_i h
    have hOK : OkG s m x := by
      refine Classical.byContradiction fun h2 => ?_
      rw [okB_no h2] at h; cases h
    obtain ⟨r, rfl, vg, _⟩ := hOK
    exact edAll_len vg.n7
  · simp
section
variable {s1 s2 : Int} {m1 m2 : Nat} {x1 x2 : Nat → Int}
theorem optL_two : ∀ l ∈ optL s1 m1 x1 s2 m2 x2, l.length = 2 := by
  intro l hl
  unfold optL at hl
  split at hl
  · exact edgesL_two l (List.mem_filter.1 hl).1
  · cases hl
theorem optL_len : (optL s1 m1 x1 s2 m2 x2).length ≤ 21 := by
  unfold optL
  split
  · exact Nat.le_trans (List.length_filter_le _ _) edgesL_len
  · simp
theorem opt_len {D : List Dsc} (h : lists D = optL s1 m1 x1 s2 m2 x2) : D.length ≤ 1073741824 := by
  have h1 := congrArg List.length h
  rw [lists, List.length_map] at h1
  have := optL_len (s1 := s1) (m1 := m1) (x1 := x1) (s2 := s2) (m2 := m2) (x2 := x2)
  omega
theorem opt_tot {D : List Dsc} (h : lists D = optL s1 m1 x1 s2 m2 x2) : tot D ≤ 1073741824 := by
  rw [tot_eq h, sum_two optL_two]
  have := optL_len (s1 := s1) (m1 := m1) (x1 := x1) (s2 := s2) (m2 := m2) (x2 := x2)
  omega
end
end Go.Proofs.Ytnnlmdenffnjbaa
