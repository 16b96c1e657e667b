/-
  Plain: sets of vertices of a graph that may not be valid; dominating sets, packings, independent sets.
-/
import Derived.Test.YtmkahbephidmbaaQcV
import Derived.Test.YtmkahbephidmbaaQcGA
namespace Go.Proofs.Ytmkahbephidmbaa

noncomputable def setB (sz : Int) (m : Nat) (x : Nat → Int) (s : Int) : Bool := okB sz m x && decide (0 ≤ s ∧ s < 2 ^ m)
def indB (r : Nat → Nat) (s : Nat) : Bool := nb r s &&& s == 0
theorem pow_cast (m : Nat) : ((2 ^ m : Nat) : Int) = 2 ^ m := by simp
theorem setB_yes {sz : Int} {m : Nat} {x : Nat → Int} {s : Nat} (h : okB sz m x = true) (hs : s < 2 ^ m) : setB sz m x s = true := by
  unfold setB
  have := pow_cast m
  rw [h, decide_eq_true (⟨by omega, by omega⟩ : 0 ≤ (s : Int) ∧ (s : Int) < 2 ^ m)]; rfl
theorem setB_parts {sz : Int} {m : Nat} {x : Nat → Int} {s : Int} (h : setB sz m x s = true) : okB sz m x = true ∧ sz = m ∧ ∃ k : Nat, s = k ∧ k < 2 ^ m := by
  unfold setB at h
  simp only [Bool.and_eq_true, decide_eq_true_eq] at h
  obtain ⟨h1, h2, h3⟩ := h
  obtain ⟨_, e, _⟩ := okB_ok' h1
  have := pow_cast m
  exact ⟨h1, e, s.toNat, by omega, by omega⟩
theorem setB_out {sz : Int} {m : Nat} {x : Nat → Int} {s : Int} (h : s < 0 ∨ 2 ^ m ≤ s) : setB sz m x s = false := by
  unfold setB
  rw [decide_eq_false (by omega : ¬(0 ≤ s ∧ s < 2 ^ m)), Bool.and_false]
theorem indB_no {r : Nat → Nat} {s v : Nat} (hv : v < 7) (hb : s.testBit v = true) (h : r v &&& s ≠ 0) : indB r s = false := by
  unfold indB
  obtain ⟨u, hu⟩ := ex_bit h
  rw [Nat.testBit_and, Bool.and_eq_true] at hu
  have : (nb r s &&& s).testBit u = true := by
    rw [Nat.testBit_and, Bool.and_eq_true]
    exact ⟨nb_bit.2 ⟨v, hv, hb, hu.1⟩, hu.2⟩
  cases hz : (nb r s &&& s == 0)
  · rfl
  · have e : nb r s &&& s = 0 := by simpa using hz
    rw [e] at this; simp at this
theorem indB_yes {r : Nat → Nat} {s : Nat} (h : ∀ v, v < 7 → s.testBit v = true → r v &&& s = 0) : indB r s = true := by
  unfold indB
  rw [beq_iff_eq]
  apply Nat.eq_of_testBit_eq
  intro u
  rw [Nat.zero_testBit, Nat.testBit_and]
  cases hu : s.testBit u
  · simp
  · cases hn : (nb r s).testBit u
    · rfl
    · obtain ⟨v, hv, hb, hr⟩ := nb_bit.1 hn
      have := h v hv hb
      have h2 : (r v &&& s).testBit u = true := by rw [Nat.testBit_and, hr, hu]; rfl
      rw [this] at h2; simp at h2
end Go.Proofs.Ytmkahbephidmbaa
