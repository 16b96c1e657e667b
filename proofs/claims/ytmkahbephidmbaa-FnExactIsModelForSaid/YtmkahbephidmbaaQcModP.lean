/-
  Plain: intervals, and the graph of intervals.
-/
import Derived.Test.YtmkahbephidmbaaQcWgtS
import Derived.Test.YtmkahbephidmbaaQcSameG
namespace Go.Proofs.Ytmkahbephidmbaa
open Go.RowKit

def Im1 (L R : List Int) (k : Nat) : Prop := ∀ i, i < k → 0 ≤ L.getD i 0 ∧ L.getD i 0 ≤ R.getD i 0 ∧ R.getD i 0 ≤ 99
noncomputable def imB (L R : List Int) : Bool := decide (1 ≤ L.length ∧ L.length ≤ 7) && decide (R.length = L.length) && @decide (Im1 L R L.length) (Classical.propDecidable _)
section
variable {L R : List Int} {k : Nat}
theorem im_len (h : ¬ (1 ≤ L.length ∧ L.length ≤ 7)) : imB L R = false := by unfold imB; rw [decide_eq_false h]; rfl
theorem im_same (h : R.length ≠ L.length) : imB L R = false := by unfold imB; rw [decide_eq_false h, Bool.and_false]; rfl
theorem im_no (hk : k < L.length) (h : ¬ (0 ≤ L.getD k 0 ∧ L.getD k 0 ≤ R.getD k 0 ∧ R.getD k 0 ≤ 99)) : imB L R = false := by
  unfold imB
  rw [@decide_eq_false _ (Classical.propDecidable _) fun hb => h (hb k hk), Bool.and_false]
theorem im_yes (h1 : 1 ≤ L.length ∧ L.length ≤ 7) (h2 : R.length = L.length) (h3 : Im1 L R L.length) : imB L R = true := by
  unfold imB
  rw [decide_eq_true h1, decide_eq_true h2, @decide_eq_true _ (Classical.propDecidable _) h3]; rfl
theorem Im1.zero : Im1 L R 0 := fun i h => absurd h (by omega)
theorem Im1.step (h : Im1 L R k) (h2 : 0 ≤ L.getD k 0 ∧ L.getD k 0 ≤ R.getD k 0 ∧ R.getD k 0 ≤ 99) : Im1 L R (k + 1) := fun i hi => by
  by_cases e : i < k
  · exact h i e
  · obtain rfl : i = k := by omega
    exact h2
theorem im_parts (h : imB L R = true) : (1 ≤ L.length ∧ L.length ≤ 7) ∧ R.length = L.length ∧ Im1 L R L.length := by
  unfold imB at h
  simp only [Bool.and_eq_true, decide_eq_true_eq] at h
  exact ⟨h.1.1, h.1.2, h.2⟩
end
/-- The two lists of intervals in a box. -/
structure IB (w : World) (q : Nat) (Al : Option Addr) (n cl : Nat) (Ar : Option Addr) (k cr : Nat) : Prop where
  c0 : w.cell? ⟨q, 0, none⟩ = some (.slice Al n cl)
  c1 : w.cell? ⟨q, 1, none⟩ = some (.slice Ar k cr)
theorem IB.keep {w w' : World} {q : Nat} {Al : Option Addr} {n cl : Nat} {Ar : Option Addr} {k cr : Nat} (h : IB w q Al n cl Ar k cr) (hb : Below w.heap.size w w') : IB w' q Al n cl Ar k cr := ⟨up_ hb h.c0, up_ hb h.c1⟩
theorem IB.lt {w : World} {q : Nat} {Al : Option Addr} {n cl : Nat} {Ar : Option Addr} {k cr : Nat} (h : IB w q Al n cl Ar k cr) : q < w.heap.size := World.block_lt_of_cell? _ _ h.c0
end Go.Proofs.Ytmkahbephidmbaa
