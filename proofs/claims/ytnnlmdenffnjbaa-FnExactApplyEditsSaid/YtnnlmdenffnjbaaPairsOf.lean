/-
  Contract: all pairs of n vertices.
-/
import Derived.Test.YtnnlmdenffnjbaaOpt
namespace Go.Proofs.Ytnnlmdenffnjbaa
open Go.RowKit

def pl (n v u : Nat) : List (List Int) := (prTo n v u).map fun p => [(p.1 : Int), (p.2 : Int)]
def prL (n : Nat) : List (List Int) := (pr n).map fun p => [(p.1 : Int), (p.2 : Int)]
theorem pl_step {n v u : Nat} (h : v + 1 ≤ u) : pl n v (u + 1) = pl n v u ++ [[(v : Int), (u : Int)]] := by
  unfold pl; rw [prTo_step n v u h]; simp
theorem pl_row {n v : Nat} : pl n (v + 1) (v + 1 + 1) = pl n v n := by unfold pl; rw [prTo_row]
theorem pl_zero {n : Nat} : pl n 0 1 = [] := by unfold pl; rw [prTo_zero]; rfl
theorem pl_end {n : Nat} : pl n n (n + 1) = prL n := by unfold pl prL; rw [prTo_end n _ (Nat.le_refl _)]
theorem pl_len {n v u : Nat} (hn : n ≤ 7) (hv : v < n) (h : v + 1 ≤ u) (hu : u ≤ n) : (pl n v u).length ≤ 21 := by
  obtain ⟨t, ht⟩ := prTo_prefix n v u hv h hu
  have h1 := length_pr_le hn
  rw [ht, List.length_append] at h1
  unfold pl
  rw [List.length_map]
  omega

end Go.Proofs.Ytnnlmdenffnjbaa
