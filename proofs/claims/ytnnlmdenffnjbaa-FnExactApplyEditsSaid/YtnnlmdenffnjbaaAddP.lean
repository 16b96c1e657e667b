/-
  Plain: a graph and one edge more.
-/
import Derived.Test.YtnnlmdenffnjbaaPlain
import Derived.Test.YtnnlmdenffnjbaaLib
namespace Go.Proofs.Ytnnlmdenffnjbaa

theorem add_pow_bit {a u : Nat} (h : a.testBit u = false) : a + 2 ^ u = a ^^^ 2 ^ u := by
  have h1 : a &&& 2 ^ u = 0 := by
    apply Nat.eq_of_testBit_eq
    intro i
    rw [Nat.testBit_and, Nat.testBit_two_pow, Nat.zero_testBit]
    by_cases hi : u = i
    · subst hi; simp [h]
    · simp [hi]
  have h2 := Nat.two_pow_pos u
  have h3 : a + 2 ^ u = a ||| 2 ^ u := by
    have hl : 2 ^ u < 2 ^ (u + 1) := Nat.pow_lt_pow_right (by omega) (by omega)
    apply Nat.eq_of_testBit_eq
    intro i
    rw [Nat.testBit_or]
    rw [Nat.testBit_two_pow]
    by_cases hi : i = u
    · subst hi
      rw [Nat.add_comm, Nat.testBit_two_pow_add_eq, h]; simp
    · by_cases hlt : i < u
      · rw [Nat.add_comm, Nat.testBit_two_pow_add_gt hlt]
        have : ¬ u = i := by omega
        simp [this]
      · have hgt : u < i := by omega
        have e : a = 2 ^ u * (a / 2 ^ u) + a % 2 ^ u := (Nat.div_add_mod a (2 ^ u)).symm
        have hb : (a / 2 ^ u) % 2 = 0 := by
          have := h
          rw [Nat.testBit_eq_decide_div_mod_eq] at this
          have h5 := of_decide_eq_false this
          omega
        have hq : (a + 2 ^ u) / 2 ^ u = a / 2 ^ u + 1 := Nat.add_div_right _ h2
        have hne : ¬ u = i := by omega
        simp only [hne, decide_false, Bool.or_false]
        obtain ⟨k, rfl⟩ : ∃ k, i = u + (k + 1) := ⟨i - u - 1, by omega⟩
        rw [Nat.testBit_eq_decide_div_mod_eq, Nat.testBit_eq_decide_div_mod_eq]
        rw [Nat.pow_add, ← Nat.div_div_eq_div_mul, ← Nat.div_div_eq_div_mul, hq, Nat.pow_succ, Nat.mul_comm (2 ^ k) 2, ← Nat.div_div_eq_div_mul, ← Nat.div_div_eq_div_mul]
        have : (a / 2 ^ u + 1) / 2 = a / 2 ^ u / 2 := by omega
        rw [this]
  rw [h3]
  apply Nat.eq_of_testBit_eq
  intro i
  rw [Nat.testBit_or, Nat.testBit_xor, Nat.testBit_two_pow]
  by_cases hi : u = i
  · subst hi; simp [h]
  · simp [hi]

/-- Rows with one edge more. -/
def addN (r : Nat → Nat) (v u : Nat) : Nat → Nat := fun i => if i = v then r i ^^^ 2 ^ u else if i = u then r i ^^^ 2 ^ v else r i
theorem VG.add {n : Nat} {r : Nat → Nat} (h : VG n r) {v u : Nat} (hv : v < n) (hu : u < n) (hne : v ≠ u) : VG n (addN r v u) := by
  have bit : ∀ a i j : Nat, (a ^^^ 2 ^ i).testBit j = (a.testBit j ^^ decide (j = i)) := fun a i j => by rw [Nat.testBit_xor, Nat.testBit_two_pow]; congr 1; exact decide_eq_decide.2 eq_comm
  refine ⟨h.n1, h.n7, fun i hi => ?_, fun i hi => ?_, fun i j hi hj => ?_⟩
  · have hp : ∀ k, k < n → 2 ^ k < 2 ^ n := fun k hk => Nat.pow_lt_pow_right (by omega) hk
    unfold addN
    split
    · exact Nat.xor_lt_two_pow (h.lt i hi) (hp u hu)
    · split
      · exact Nat.xor_lt_two_pow (h.lt i hi) (hp v hv)
      · exact h.lt i hi
  · have hirr := h.irr i hi
    unfold addN
    split
    · rename_i e; subst e; rw [bit, hirr]; simp [hne]
    · split
      · rename_i e; subst e; rw [bit, hirr]; have : ¬ i = v := fun e => hne e.symm
        simp [this]
      · exact hirr
  · have hs := h.sym i j hi hj
    unfold addN
    have hne' : ¬ u = v := fun e => hne e.symm
    by_cases h1 : i = v <;> by_cases h2 : i = u <;> by_cases h3 : j = v <;> by_cases h4 : j = u <;> simp only [h1, h2, h3, h4, if_true, if_false, bit] <;> simp_all
end Go.Proofs.Ytnnlmdenffnjbaa
