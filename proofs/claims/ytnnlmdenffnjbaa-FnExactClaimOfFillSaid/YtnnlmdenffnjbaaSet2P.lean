/-
  Plain: sets of vertices of a graph that may not be valid; dominating sets, packings, independent sets.
-/
import Derived.Test.YtnnlmdenffnjbaaV
import Derived.Test.YtnnlmdenffnjbaaGA
namespace Go.Proofs.Ytnnlmdenffnjbaa

noncomputable def setB (sz : Int) (m : Nat) (x : Nat → Int) (s : Int) : Bool := okB sz m x && decide (0 ≤ s ∧ s < 2 ^ m)
def domB (r : Nat → Nat) (m s : Nat) : Bool := s ||| nb r s == 2 ^ m - 1
def pakB (r : Nat → Nat) (m s : Nat) : Bool := (List.range m).all fun v => decide (cn ((r v ||| 2 ^ v) &&& s) ≤ 1)
def indB (r : Nat → Nat) (s : Nat) : Bool := nb r s &&& s == 0
theorem pow_cast (m : Nat) : ((2 ^ m : Nat) : Int) = 2 ^ m := by simp
theorem setB_yes {sz : Int} {m : Nat} {x : Nat → Int} {s : Nat} (h : okB sz m x = true) (hs : s < 2 ^ m) : setB sz m x s = true := by
  unfold setB
  have := pow_cast m
  rw [h, decide_eq_true (⟨by omega, by omega⟩ : 0 ≤ (s : Int) ∧ (s : Int) < 2 ^ m)]; rfl
theorem setB_parts {sz : Int} {m : Nat} {x : Nat → Int} {s : Int} (h : setB sz m x s = true) : okB sz m x = true ∧ sz = m ∧ ∃ k : Nat, s = k ∧ k < 2 ^ m := by
  unfold setB at h
  simp only [Bool.and_eq_true, decide_eq_true_eq] at h
  obtain ⟨h1, h2, h3⟩ := h
  obtain ⟨_, e, _⟩ := okB_ok' h1
  have := pow_cast m
  exact ⟨h1, e, s.toNat, by omega, by omega⟩
theorem setB_out {sz : Int} {m : Nat} {x : Nat → Int} {s : Int} (h : s < 0 ∨ 2 ^ m ≤ s) : setB sz m x s = false := by
  unfold setB
  rw [decide_eq_false (by omega : ¬(0 ≤ s ∧ s < 2 ^ m)), Bool.and_false]
theorem pakB_no {r : Nat → Nat} {m s v : Nat} (hv : v < m) (h : 1 < cn ((r v ||| 2 ^ v) &&& s)) : pakB r m s = false := by
  unfold pakB
  rw [List.all_eq_false]
  exact ⟨v, List.mem_range.2 hv, by simp; omega⟩
theorem pakB_yes {r : Nat → Nat} {m s : Nat} (h : ∀ v, v < m → ¬ 1 < cn ((r v ||| 2 ^ v) &&& s)) : pakB r m s = true := by
  unfold pakB
  rw [List.all_eq_true]
  intro v hv
  have := h v (List.mem_range.1 hv)
  simp; omega
theorem indB_no {r : Nat → Nat} {s v : Nat} (hv : v < 7) (hb : s.testBit v = true) (h : r v &&& s ≠ 0) : indB r s = false := by
  unfold indB
  obtain ⟨u, hu⟩ := ex_bit h
  rw [Nat.testBit_and, Bool.and_eq_true] at hu
  have : (nb r s &&& s).testBit u = true := by
    rw [Nat.testBit_and, Bool.and_eq_true]
    exact ⟨nb_bit.2 ⟨v, hv, hb, hu.1⟩, hu.2⟩
  cases hz : (nb r s &&& s == 0)
  · rfl
  · have e : nb r s &&& s = 0 := by simpa using hz
    rw [e] at this; simp at this
theorem indB_yes {r : Nat → Nat} {s : Nat} (h : ∀ v, v < 7 → s.testBit v = true → r v &&& s = 0) : indB r s = true := by
  unfold indB
  rw [beq_iff_eq]
  apply Nat.eq_of_testBit_eq
  intro u
  rw [Nat.zero_testBit, Nat.testBit_and]
  cases hu : s.testBit u
  · simp
  · cases hn : (nb r s).testBit u
    · rfl
    · obtain ⟨v, hv, hb, hr⟩ := nb_bit.1 hn
      have := h v hv hb
      have h2 : (r v &&& s).testBit u = true := by rw [Nat.testBit_and, hr, hu]; rfl
      rw [this] at h2; simp at h2
theorem dom_all {r : Nat → Nat} {m : Nat} (h : VG m r) : domB r m (2 ^ m - 1) = true := by
  unfold domB
  rw [beq_iff_eq]
  have hl := nb_lt (r := r) (s := 2 ^ m - 1) h.lt (by have := Nat.two_pow_pos m; omega) 7
  apply Nat.eq_of_testBit_eq
  intro i
  rw [Nat.testBit_or, Nat.testBit_two_pow_sub_one]
  by_cases hi : i < m
  · simp [hi]
  · have : (nb r (2 ^ m - 1)).testBit i = false := Nat.testBit_lt_two_pow (Nat.lt_of_lt_of_le hl (Nat.pow_le_pow_right (by omega) (by omega)))
    simp [hi, this]
end Go.Proofs.Ytnnlmdenffnjbaa
