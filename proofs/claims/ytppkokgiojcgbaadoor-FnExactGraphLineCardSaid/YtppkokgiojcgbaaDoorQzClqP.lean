/-
  Plain: the largest sets of neighbors of each other; lists of sets in which those with a vertex follow one another; the first such order.
-/
import Derived.Test.YtppkokgiojcgbaaDoorQzColP
import Derived.Test.YtppkokgiojcgbaaDoorQzUmbI
import Derived.Test.YtppkokgiojcgbaaDoorQzTake
import Derived.Test.YtppkokgiojcgbaaDoorQzGB
import Derived.Test.YtppkokgiojcgbaaDoorQzGL
import Derived.Test.YtppkokgiojcgbaaDoorQzSet2I
import Derived.Test.YtppkokgiojcgbaaDoorQzGC
import Derived.Deep.QuietTactic
import Derived.BigQuiet
namespace Go.Proofs.YtppkokgiojcgbaaDoor
open Go.RowKit

/-- Is a clique seen to be maximal against the first k vertices? -/
def mxK (r : Nat → Nat) (s : Nat) : Nat → Bool
  | 0 => cliq r s
  | k + 1 => mxK r s k && (s.testBit k || !(r k &&& s == s))
def mxB (r : Nat → Nat) (m s : Nat) : Bool := mxK r s m
def mqK (r : Nat → Nat) (m k : Nat) : List Nat := (List.range k).filter fun s => !(s == 0) && mxB r m s
def mqL (r : Nat → Nat) (m : Nat) : List Nat := mqK r m (2 ^ m)
theorem mxK_no {r : Nat → Nat} {s j : Nat} (h : mxK r s j = false) : ∀ {i}, j ≤ i → mxK r s i = false := by
  intro i hi
  induction hi with
  | refl => exact h
  | step _ ih => rw [mxK, ih]; rfl
theorem mqK_one (r : Nat → Nat) (m : Nat) : mqK r m 1 = [] := by unfold mqK; simp [List.range_succ]
theorem mqK_yes {r : Nat → Nat} {m k : Nat} (h0 : 1 ≤ k) (h : mxB r m k = true) : mqK r m (k + 1) = mqK r m k ++ [k] := by
  unfold mqK
  rw [List.range_succ, List.filter_append]
  simp [h, show k ≠ 0 by omega]
theorem mqK_no {r : Nat → Nat} {m k : Nat} (h : mxB r m k = false) : mqK r m (k + 1) = mqK r m k := by
  unfold mqK
  rw [List.range_succ, List.filter_append]
  simp [h]
theorem mqK_len (r : Nat → Nat) (m k : Nat) : (mqK r m k).length ≤ k := by
  unfold mqK
  exact Nat.le_trans (List.length_filter_le _ _) (by simp)
theorem mem_mqL {r : Nat → Nat} {m s : Nat} : s ∈ mqL r m ↔ s < 2 ^ m ∧ s ≠ 0 ∧ mxB r m s = true := by
  unfold mqL mqK; simp
theorem mxK_yes {r : Nat → Nat} {s : Nat} (h : cliq r s = true) : ∀ k, (∀ v, v < k → s.testBit v = true ∨ r v &&& s ≠ s) → mxK r s k = true := by
  intro k
  induction k with
  | zero => exact fun _ => h
  | succ k ih =>
    intro hv
    rw [mxK, ih fun v h => hv v (by omega), Bool.true_and]
    rcases hv k (by omega) with h | h
    · rw [h]; rfl
    · simp [h]
theorem cn_add_table : ∀ s, s < 128 → ∀ v, v < 7 → s.testBit v = false → cn (s ||| 2 ^ v) = cn s + 1 := by decide +kernel
theorem mqL_ne {r : Nat → Nat} {m : Nat} (vg : VG m r) : mqL r m ≠ [] := by
  have h128 := two_pow_le vg.n7
  have n1 := vg.n1
  have hlt := lq_lt r m
  have h1 : cliq r 1 = true := cliq_yes fun v hv hb => by
    obtain rfl : v = 0 := by
      rcases Nat.lt_or_ge 0 v with h | h
      · have := bit_lt (n := 1) (by omega : (1 : Nat) < 2 ^ 1) hb; omega
      · omega
    have := vg.irr 0 (by omega)
    have e : 1 &&& r 0 = 0 := by
      apply Nat.eq_of_testBit_eq
      intro i
      rw [Nat.testBit_and, Nat.zero_testBit]
      cases i with
      | zero => rw [this]; simp
      | succ i => simp [Nat.testBit_succ]
    rw [e]; rfl
  have hmost := lgK_most (p := cliq r) (2 ^ m) 1 (by have := Nat.pow_le_pow_right (n := 2) (by omega) n1; omega) h1
  have hc1 : cn 1 = 1 := by decide
  have hne : lqN r m ≠ 0 := fun e => by
    have : cn (lqN r m) = 0 := by rw [e]; decide
    unfold lqN at this
    omega
  have hcl : cliq r (lqN r m) = true := by
    rcases lgK_holds (p := cliq r) (2 ^ m) with h | h
    · exact absurd h hne
    · exact h
  have hmem : lqN r m ∈ mqL r m := by
    refine mem_mqL.2 ⟨hlt, hne, mxK_yes hcl _ fun v hv => ?_⟩
    cases hb : (lqN r m).testBit v
    · refine .inr fun e => ?_
      have h2 : cliq r (lqN r m ||| 2 ^ v) = true := cliq_yes fun u hu hbu => by
        rw [Nat.testBit_or, Nat.testBit_two_pow] at hbu
        have hum : u < m := by
          cases h3 : (lqN r m).testBit u
          · rw [h3] at hbu; simp at hbu; omega
          · exact bit_lt hlt h3
        apply Nat.eq_of_testBit_eq
        intro i
        rw [Nat.testBit_xor, Nat.testBit_and, Nat.testBit_or, Nat.testBit_two_pow, Nat.testBit_two_pow]
        have hL : ∀ j, (lqN r m).testBit j = true → (r v).testBit j = true := fun j hj => by
          have := congrArg (Nat.testBit · j) e
          simp only [Nat.testBit_and, hj, Bool.and_true] at this
          exact this
        have hC : ∀ a, (lqN r m).testBit a = true → ∀ j, (lqN r m).testBit j = true → j ≠ a → (r a).testBit j = true := fun a ha j hj hja => by
          have ha7 : a < 7 := by have := bit_lt hlt ha; have := vg.n7; omega
          have := (List.all_eq_true.1 (show ((listN (lqN r m)).all fun v => lqN r m ^^^ (lqN r m &&& r v) == 2 ^ v) = true from hcl)) a (mem_listN.2 ⟨ha7, ha⟩)
          have := congrArg (Nat.testBit · j) (beq_iff_eq.1 this)
          simp only [Nat.testBit_xor, Nat.testBit_and, Nat.testBit_two_pow, hj, Bool.true_and] at this
          rw [decide_eq_false (fun h => hja h.symm)] at this
          simpa using this
        by_cases hiu : u = i
        · subst hiu
          rw [vg.irr u hum, hbu, decide_eq_true rfl]; rfl
        · rw [decide_eq_false hiu]
          cases h3 : (lqN r m).testBit i
          · by_cases hvi : v = i
            · subst hvi
              have hu' : (lqN r m).testBit u = true := by
                rw [decide_eq_false (fun h => hiu h.symm)] at hbu; simpa using hbu
              have := hL u hu'
              rw [vg.sym v u hv hum] at this
              rw [this]; simp
            · rw [decide_eq_false hvi]; rfl
          · have : (r u).testBit i = true := by
              cases h4 : (lqN r m).testBit u
              · rw [h4] at hbu
                have hvu : v = u := by simpa using hbu
                rw [← hvu]; exact hL i h3
              · exact hC u h4 i h3 (fun h => hiu h.symm)
            rw [this]; simp
      have hlt2 : lqN r m ||| 2 ^ v < 2 ^ m := Nat.or_lt_two_pow hlt (Nat.pow_lt_pow_right (by omega) hv)
      have h3 := lgK_most (p := cliq r) (2 ^ m) _ hlt2 h2
      have h4 := cn_add_table (lqN r m) (by omega) v (by have := vg.n7; omega) hb
      unfold lqN at h4 h3
      omega
    · exact .inl rfl
  intro e
  rw [e] at hmem
  cases hmem

section
variable {Q l : List Nat} {k i : Nat}
end
end Go.Proofs.YtppkokgiojcgbaaDoor
