/-
  Plain: is a vertex simple within a set?
-/
import Derived.Test.YtmkahbephidmbaaQcUmbI
import Derived.Test.YtmkahbephidmbaaQcListS
import Derived.Deep.QuietTactic
import Derived.BigQuiet
import Derived.Test.YtmkahbephidmbaaQcTake
import Derived.Test.YtmkahbephidmbaaQcV
import Derived.Test.YtmkahbephidmbaaQcGC
import Derived.Laws.EntriesVeiled
import Derived.Test.YtmkahbephidmbaaQcSet2P
namespace Go.Proofs.Ytmkahbephidmbaa
open Go.RowKit

def nN (r : Nat → Nat) (s u : Nat) : Nat := (r u ||| 2 ^ u) &&& s
def Cm (a b : Nat) : Prop := a &&& b = a ∨ a &&& b = b
def Sm (r : Nat → Nat) (s : Nat) (T : List Nat) : Prop := ∀ i, i < T.length → ∀ k, k < i → Cm (nN r s (T.getD i 0)) (nN r s (T.getD k 0))
def Sm1 (r : Nat → Nat) (s : Nat) (T : List Nat) (n : Nat) : Prop := ∀ i, i < n → ∀ k, k < i → Cm (nN r s (T.getD i 0)) (nN r s (T.getD k 0))
noncomputable def simB (r : Nat → Nat) (v s : Nat) : Bool := s.testBit v && @decide (Sm r s (listN (nN r s v))) (Classical.propDecidable _)
section
variable {r : Nat → Nat} {s v n i k a b : Nat} {T : List Nat}
theorem sim_out (h : s.testBit v = false) : simB r v s = false := by unfold simB; rw [h]; rfl
theorem sim_yes (h : s.testBit v = true) (h2 : Sm r s (listN (nN r s v))) : simB r v s = true := by unfold simB; rw [h, @decide_eq_true _ (Classical.propDecidable _) h2]; rfl
theorem sim_no (hT : T = listN (nN r s v)) (hi : i < T.length) (hk : k < i) (h : ¬ Cm (nN r s (T.getD i 0)) (nN r s (T.getD k 0))) : simB r v s = false := by
  unfold simB
  rw [@decide_eq_false _ (Classical.propDecidable _) fun hb => h (by subst hT; exact hb i hi k hk), Bool.and_false]
theorem Sm1.zero : Sm1 r s T 0 := fun i h => absurd h (by omega)
theorem Sm1.step (h : Sm1 r s T n) (h2 : ∀ k, k < n → Cm (nN r s (T.getD n 0)) (nN r s (T.getD k 0))) : Sm1 r s T (n + 1) := fun i hi => by
  by_cases e : i < n
  · exact h i e
  · obtain rfl : i = n := by omega
    exact h2
theorem nN_lt (hs : s < 2 ^ n) : nN r s v < 2 ^ n := Nat.and_lt_two_pow _ hs
theorem xor_and (a b : Nat) : (a ^^^ (a &&& b) = 0) ↔ a &&& b = a := by
  constructor
  · intro h
    apply Nat.eq_of_testBit_eq
    intro i
    have := congrArg (fun t => t.testBit i) h
    simp only [Nat.testBit_xor, Nat.testBit_and, Nat.zero_testBit] at this ⊢
    cases ha : a.testBit i <;> cases hb : b.testBit i <;> simp_all
  · intro h; rw [h, Nat.xor_self]
theorem cm_of (h : (a ^^^ (a &&& b) = 0) ∨ (b ^^^ (b &&& a) = 0)) : Cm a b := by
  rw [xor_and, xor_and] at h
  rcases h with h | h
  · exact .inl h
  · exact .inr (by rw [Nat.and_comm]; exact h)
theorem cm_not (h1 : a ^^^ (a &&& b) ≠ 0) (h2 : b ^^^ (b &&& a) ≠ 0) : ¬ Cm a b := by
  rw [Ne, xor_and] at h1 h2
  rintro (h | h)
  · exact h1 h
  · exact h2 (by rw [Nat.and_comm]; exact h)
end
/-- The neighborhoods of the first k. -/
def nK (r : Nat → Nat) (s : Nat) (T : List Nat) (k : Nat) : List Nat := (List.range k).map fun j => nN r s (T.getD j 0)
theorem nK_len {r : Nat → Nat} {s : Nat} {T : List Nat} {k : Nat} : (nK r s T k).length = k := by unfold nK; simp
theorem nK_succ {r : Nat → Nat} {s : Nat} {T : List Nat} {k : Nat} : nK r s T (k + 1) = nK r s T k ++ [nN r s (T.getD k 0)] := by unfold nK; rw [List.range_succ, List.map_append]; rfl
theorem nK_at {r : Nat → Nat} {s : Nat} {T : List Nat} {k j : Nat} (h : j < k) : (nK r s T k).getD j 0 = nN r s (T.getD j 0) := by unfold nK; simp [List.getD, h]
end Go.Proofs.Ytmkahbephidmbaa
