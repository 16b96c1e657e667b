/-
  Plain: orders in which all between two neighbors are neighbors of both.
-/
import Derived.Test.YtncjfgebolikoaaQsLater
import Derived.Test.YtncjfgebolikoaaQsFillS
import Derived.Test.YtncjfgebolikoaaQsSet2I
namespace Go.Proofs.Ytncjfgebolikoaa
open Go.RowKit

/-- What lies at j between the places i and k. -/
def Ub (r : Nat → Nat) (l : List Nat) (i k j : Nat) : Prop := (r (l.getD i 0)).testBit (l.getD k 0) = true → (r (l.getD i 0)).testBit (l.getD j 0) = true ∧ (r (l.getD k 0)).testBit (l.getD j 0) = true
def Um (r : Nat → Nat) (l : List Nat) : Prop := ∀ i k j, i < j → j < k → k < l.length → Ub r l i k j
noncomputable def umB (r : Nat → Nat) (l : List Nat) : Bool := @decide (Um r l) (Classical.propDecidable _)
section
variable {r : Nat → Nat} {l : List Nat}
theorem um_yes (h : Um r l) : umB r l = true := @decide_eq_true _ (Classical.propDecidable _) h
theorem um_no (h : ¬ Um r l) : umB r l = false := @decide_eq_false _ (Classical.propDecidable _) h
/-- Up to the first place, the second, the third. -/
def Um1 (r : Nat → Nat) (l : List Nat) (i : Nat) : Prop := ∀ i', i' < i → ∀ k j, i' < j → j < k → k < l.length → Ub r l i' k j
def Um2 (r : Nat → Nat) (l : List Nat) (i k : Nat) : Prop := ∀ k', k' < k → ∀ j, i < j → j < k' → Ub r l i k' j
def Um3 (r : Nat → Nat) (l : List Nat) (i k j : Nat) : Prop := ∀ j', i < j' → j' < j → Ub r l i k j'
theorem Um1.zero : Um1 r l 0 := fun i' h => absurd h (by omega)
theorem Um2.zero {i : Nat} : Um2 r l i (i + 2) := fun k' h j h1 h2 => absurd h1 (by omega)
theorem Um3.zero {i k : Nat} : Um3 r l i k (i + 1) := fun j' h1 h2 => absurd h1 (by omega)
theorem Um3.step {i k j : Nat} (h : Um3 r l i k j) (h2 : Ub r l i k j) : Um3 r l i k (j + 1) := fun j' h3 h4 => by
  by_cases e : j' < j
  · exact h j' h3 e
  · obtain rfl : j' = j := by omega
    exact h2
theorem Um2.step {i k : Nat} (h : Um2 r l i k) (h2 : Um3 r l i k k) : Um2 r l i (k + 1) := fun k' h3 j h4 h5 => by
  by_cases e : k' < k
  · exact h k' e j h4 h5
  · obtain rfl : k' = k := by omega
    exact h2 j h4 h5
theorem Um2.skip {i k : Nat} (h : Um2 r l i k) (h2 : (r (l.getD i 0)).testBit (l.getD k 0) = false) : Um2 r l i (k + 1) := h.step fun j _ _ h3 => by rw [h2] at h3; cases h3
theorem Um1.step {i k : Nat} (h : Um1 r l i) (h2 : Um2 r l i k) (hk : l.length ≤ k) : Um1 r l (i + 1) := fun i' h3 k' j h4 h5 h6 => by
  by_cases e : i' < i
  · exact h i' e k' j h4 h5 h6
  · obtain rfl : i' = i := by omega
    exact h2 k' (by omega) j h4 h5
theorem Um1.all {i : Nat} (h : Um1 r l i) (hi : l.length ≤ i) : Um r l := fun i' k j h1 h2 h3 => h i' (by omega) k j h1 h2 h3
theorem um_bad {i k j : Nat} (h1 : i < j) (h2 : j < k) (h3 : k < l.length) (h : ¬ Ub r l i k j) : umB r l = false := um_no fun hu => h (hu i k j h1 h2 h3)
end
/-- The vertices of an order as natural numbers. -/
def nats (l : List Int) : List Nat := l.map Int.toNat
theorem LI.ln {w : World} {A : Option Addr} {n c : Nat} {l : List Int} {m : Nat} (h : LI w A n c l) (hV : VZ m l) : LN w A c (nats l) := by
  have hl : (nats l).length = n := by rw [h.len]; unfold nats; simp
  refine ⟨?_⟩
  rw [hl]
  refine h.rd.congr fun k hk => ?_
  have hk2 : k < l.length := by rw [← h.len]; exact hk
  have := (hV.2 _ (getD_mem hk2)).1
  unfold nats
  simp only [List.getD, List.getElem?_map, List.getElem?_eq_getElem hk2, Option.map_some, Option.getD_some] at this ⊢
  omega
theorem getD_lt {m : Nat} {l : List Nat} (h : ∀ v ∈ l, v < m) {j : Nat} (hj : j < l.length) : l.getD j 0 < m := by
  have : l.getD j 0 = l[j] := by simp [List.getD, hj]
  rw [this]; exact h _ (List.getElem_mem hj)
end Go.Proofs.Ytncjfgebolikoaa
