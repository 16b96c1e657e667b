/-
  Plain: the complement of a graph.
-/
import Derived.Test.YtdpkbfiggbcclaaGreatQjJoinI
import Derived.Test.YtdpkbfiggbcclaaGreatQjTake
namespace Go.Proofs.YtdpkbfiggbcclaaGreat
open Go.RowKit

/-- The rows of the complement. -/
def coR (r : Nat → Nat) (m v : Nat) : Nat := (2 ^ m - 1) ^^^ (r v ||| 2 ^ v)
section
variable {m : Nat} {r : Nat → Nat}
theorem or_pow_lt (vg : VG m r) {v : Nat} (hv : v < m) : r v ||| 2 ^ v < 2 ^ m := Nat.or_lt_two_pow (vg.lt v hv) (Nat.pow_lt_pow_right (by omega) hv)
theorem coR_sub (vg : VG m r) {v : Nat} (hv : v < m) : coR r m v = 2 ^ m - 1 - r v - 2 ^ v ∧ r v + 2 ^ v ≤ 2 ^ m - 1 := by
  have h1 := or_pow_lt vg hv
  have h2 : r v + 2 ^ v = r v ||| 2 ^ v := or_of_add (vg.irr v hv)
  unfold coR
  rw [full_sub vg.n7 h1, ← h2]
  rw [← h2] at h1
  omega
theorem coR_bit {v u : Nat} (hu : u < m) : (coR r m v).testBit u = (!((r v).testBit u || decide (v = u))) := by
  unfold coR
  rw [Nat.testBit_xor, Nat.testBit_two_pow_sub_one, Nat.testBit_or, Nat.testBit_two_pow, decide_eq_true hu]
  simp
theorem coR_vg (vg : VG m r) : VG m (coR r m) where
  n1 := vg.n1
  n7 := vg.n7
  lt := fun v hv => by unfold coR; exact full_lt vg.n7 (or_pow_lt vg hv)
  irr := fun v hv => by rw [coR_bit hv]; simp
  sym := fun v w hv hw => by
    rw [coR_bit hw, coR_bit hv, vg.sym v w hv hw]
    by_cases h : v = w
    · subst h; rfl
    · rw [decide_eq_false h, decide_eq_false (fun e => h e.symm)]
theorem coR_and {v : Nat} : ((2 ^ m - 1) ^^^ ((2 ^ m - 1) &&& r v)) ^^^ (((2 ^ m - 1) ^^^ ((2 ^ m - 1) &&& r v)) &&& 2 ^ v) = (2 ^ m - 1) ^^^ ((2 ^ m - 1) &&& (r v ||| 2 ^ v)) := by
  apply Nat.eq_of_testBit_eq
  intro i
  simp only [Nat.testBit_xor, Nat.testBit_and, Nat.testBit_or]
  cases (2 ^ m - 1).testBit i <;> cases (r v).testBit i <;> cases (2 ^ v).testBit i <;> rfl
end
end Go.Proofs.YtdpkbfiggbcclaaGreat
