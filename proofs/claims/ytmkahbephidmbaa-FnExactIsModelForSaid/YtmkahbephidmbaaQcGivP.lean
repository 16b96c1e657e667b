/-
  Plain: a graph made pair by pair.
-/
import Derived.Test.YtmkahbephidmbaaQcModP
import Derived.Test.YtmkahbephidmbaaQcGB
import Derived.Test.YtmkahbephidmbaaQcCovI
namespace Go.Proofs.Ytmkahbephidmbaa
open Go.RowKit

def bmK (P : Nat → Bool) : Nat → Nat
  | 0 => 0
  | n + 1 => if P n = true then bmK P n ||| 2 ^ n else bmK P n
theorem bmK_bit {P : Nat → Bool} {i : Nat} : ∀ n, (bmK P n).testBit i = (decide (i < n) && P i) := by
  intro n
  induction n with
  | zero => simp [bmK]
  | succ n ih =>
    rw [bmK]
    by_cases h : P n = true
    · rw [if_pos h, Nat.testBit_or, ih, Nat.testBit_two_pow]
      by_cases e : n = i
      · subst e; simp [h]
      · by_cases e2 : i < n
        · simp [e, e2, show i < n + 1 by omega]
        · simp [e, e2, show ¬ i < n + 1 by omega]
    · rw [if_neg h, ih]
      by_cases e : i = n
      · subst e; simp [h]
      · by_cases e2 : i < n
        · simp [e2, show i < n + 1 by omega]
        · simp [e2, show ¬ i < n + 1 by omega]
theorem bmK_lt {P : Nat → Bool} : ∀ n, bmK P n < 2 ^ n := by
  intro n
  induction n with
  | zero => exact Nat.one_pos
  | succ n ih =>
    have h1 : 2 ^ n < 2 ^ (n + 1) := Nat.pow_lt_pow_right (by omega) (Nat.lt_succ_self _)
    rw [bmK]
    split
    · exact Nat.or_lt_two_pow (by omega) h1
    · omega
/-- Is the pair of i and j, seen up to the pair a below b, joined? -/
def stB (p : Nat → Nat → Bool) (b a j i : Nat) : Bool := (decide (i < j) && p i j && (decide (j < b) || decide (j = b ∧ i < a))) || (decide (j < i) && p j i && (decide (i < b) || decide (i = b ∧ j < a)))
def grS (p : Nat → Nat → Bool) (n b a j : Nat) : Nat := bmK (stB p b a j) n
theorem grS_lt {p : Nat → Nat → Bool} {n b a j : Nat} : grS p n b a j < 2 ^ n := bmK_lt n
theorem grS_zero {p : Nat → Nat → Bool} {n j : Nat} : grS p n 0 0 j = 0 := by
  apply Nat.eq_of_testBit_eq
  intro i
  unfold grS
  rw [bmK_bit]
  simp [stB]
theorem grS_next {p : Nat → Nat → Bool} {n b j : Nat} : grS p n b b j = grS p n (b + 1) 0 j := by
  apply Nat.eq_of_testBit_eq
  intro i
  unfold grS
  rw [bmK_bit, bmK_bit]
  congr 1
  unfold stB
  by_cases h1 : i < j
  · have h2 : ¬ j < i := by omega
    have e : (decide (j < b) || decide (j = b ∧ i < b)) = (decide (j < b + 1) || decide (j = b + 1 ∧ i < 0)) := by
      rw [Bool.eq_iff_iff]; simp; omega
    rw [e, decide_eq_false h2]; simp
  · by_cases h2 : j < i
    · have e : (decide (i < b) || decide (i = b ∧ j < b)) = (decide (i < b + 1) || decide (i = b + 1 ∧ j < 0)) := by
        rw [Bool.eq_iff_iff]; simp; omega
      rw [e, decide_eq_false h1]; simp
    · rw [decide_eq_false h1, decide_eq_false h2]; simp
theorem grS_no {p : Nat → Nat → Bool} {n b a j : Nat} (hp : p a b = false) : grS p n b (a + 1) j = grS p n b a j := by
  apply Nat.eq_of_testBit_eq
  intro i
  unfold grS
  rw [bmK_bit, bmK_bit]
  congr 1
  unfold stB
  by_cases h1 : i = a ∧ j = b
  · obtain ⟨rfl, rfl⟩ := h1
    simp only [hp, Bool.and_false, Bool.false_and, Bool.false_or]
    by_cases h3 : j < i
    · have h4 : ¬ i = j := by omega
      simp [h4]
    · simp [h3]
  · by_cases h2 : j = a ∧ i = b
    · obtain ⟨rfl, rfl⟩ := h2
      simp only [hp, Bool.and_false, Bool.false_and, Bool.or_false]
      by_cases h3 : i < j
      · have h4 : ¬ j = i := by omega
        simp [h4]
      · simp [h3]
    · have e1 : decide (j = b ∧ i < a + 1) = decide (j = b ∧ i < a) := by rw [decide_eq_decide]; omega
      have e2 : decide (i = b ∧ j < a + 1) = decide (i = b ∧ j < a) := by rw [decide_eq_decide]; omega
      rw [e1, e2]
theorem grS_yes {p : Nat → Nat → Bool} {n b a j : Nat} (hp : p a b = true) (hab : a < b) (hb : b < n) : grS p n b (a + 1) j = addN (grS p n b a) a b j := by
  apply Nat.eq_of_testBit_eq
  intro i
  have hx : ∀ t k : Nat, (t ^^^ 2 ^ k).testBit i = (t.testBit i ^^ decide (k = i)) := fun t k => by rw [Nat.testBit_xor, Nat.testBit_two_pow]
  unfold addN
  by_cases h1 : j = a
  · subst h1
    rw [if_pos rfl, hx]
    unfold grS
    rw [bmK_bit, bmK_bit]
    by_cases h2 : b = i
    · subst h2
      simp [stB, hp, hab, hb, show ¬ b < j by omega]
    · have : stB p b (j + 1) j i = stB p b j j i := by
        unfold stB
        have e1 : decide (j = b ∧ i < j + 1) = decide (j = b ∧ i < j) := by rw [decide_eq_decide]; omega
        have e2 : decide (i = b ∧ j < j + 1) = decide (i = b ∧ j < j) := by rw [decide_eq_decide]; omega
        rw [e1, e2]
      rw [this]; simp [h2]
  · rw [if_neg h1]
    by_cases h2 : j = b
    · subst h2
      rw [if_pos rfl, hx]
      unfold grS
      rw [bmK_bit, bmK_bit]
      by_cases h3 : a = i
      · subst h3
        simp [stB, hp, hab, show a < n by omega, show ¬ j < a by omega]
      · have : stB p j (a + 1) j i = stB p j a j i := by
          unfold stB
          have e1 : decide (j = j ∧ i < a + 1) = decide (j = j ∧ i < a) := by rw [decide_eq_decide]; omega
          have e2 : decide (i = j ∧ j < a + 1) = decide (i = j ∧ j < a) := by rw [decide_eq_decide]; omega
          rw [e1, e2]
        rw [this]; simp [h3]
    · rw [if_neg h2]
      unfold grS
      rw [bmK_bit, bmK_bit]
      congr 1
      unfold stB
      have e1 : decide (j = b ∧ i < a + 1) = decide (j = b ∧ i < a) := by rw [decide_eq_decide]; omega
      have e2 : decide (i = b ∧ j < a + 1) = decide (i = b ∧ j < a) := by rw [decide_eq_decide]; omega
      rw [e1, e2]
end Go.Proofs.Ytmkahbephidmbaa
