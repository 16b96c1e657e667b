/-
  Plain: orders by a test of each vertex within what is left.
-/
import Derived.Test.YtmkahbephidmbaaQcElzS
namespace Go.Proofs.Ytmkahbephidmbaa
open Go.RowKit

/-- What is left ahead of place k. -/
def lfN (l : List Int) (k : Nat) : Nat := stN (l.drop k)
section
variable {m k : Nat} {l : List Int}
theorem lf_zero (h : VZ m l) (hl : l.length = m) : lfN l 0 = 2 ^ m - 1 := stN_all h hl
theorem lf_lt (h : VZ m l) : lfN l k < 2 ^ m := stN_lt (h.drop k).2
theorem lf_at (h : VZ m l) (hk : k < l.length) : ∃ d : Nat, l.getD k 0 = (d : Int) ∧ d < m ∧ (lfN l k).testBit d = true ∧ lfN l k = lfN l (k + 1) + 2 ^ d ∧ lfN l k ^^^ (lfN l k &&& 2 ^ d) = lfN l (k + 1) := by
  have hm := h.2 _ (getD_mem hk)
  obtain ⟨d, hd⟩ := Int.eq_ofNat_of_zero_le hm.1
  have hs := stN_drop h hk
  rw [hd, Int.toNat_natCast] at hs
  have hb : (lfN l k).testBit d = true := by
    unfold lfN
    rw [stN_bit (fun v hv => ((h.drop k).2 v hv).1), drop_consz hk, hd]
    exact List.mem_cons_self
  have hn : (lfN l (k + 1)).testBit d = false := by
    cases e : (lfN l (k + 1)).testBit d
    · rfl
    · unfold lfN at e
      rw [stN_bit (fun v hv => ((h.drop (k + 1)).2 v hv).1)] at e
      have hd2 := (h.drop k).1
      rw [drop_consz hk, hd] at hd2
      exact absurd e (List.nodup_cons.1 hd2).1
  refine ⟨d, hd, by omega, hb, hs, ?_⟩
  have ho : lfN l k = lfN l (k + 1) ||| 2 ^ d := by rw [← or_of_add hn]; exact hs
  apply Nat.eq_of_testBit_eq
  intro i
  rw [Nat.testBit_xor, Nat.testBit_and, ho, Nat.testBit_or, Nat.testBit_two_pow]
  by_cases e : d = i
  · subst e; rw [hn]; simp
  · simp [e]
end
noncomputable def obG (sz : Int) (m : Nat) (x : Nat → Int) (l : List Int) (p : Nat → Nat → Bool) : Bool := orB sz m x l && (List.range l.length).all fun j => p (l.getD j 0).toNat (lfN l j)
theorem obG_no {sz : Int} {m : Nat} {x : Nat → Int} {l : List Int} {p : Nat → Nat → Bool} (h : orB sz m x l = false) : obG sz m x l p = false := by unfold obG; rw [h]; rfl
theorem obG_bad {sz : Int} {m : Nat} {x : Nat → Int} {l : List Int} {p : Nat → Nat → Bool} {k d : Nat} (hk : k < l.length) (hd : l.getD k 0 = (d : Int)) (h : p d (lfN l k) = false) : obG sz m x l p = false := by
  unfold obG
  rw [all_snoc (p := fun j => p (l.getD j 0).toNat (lfN l j)) hk (by show p (l.getD k 0).toNat _ = _; rw [hd]; exact h), Bool.and_false]
theorem obG_yes {sz : Int} {m : Nat} {x : Nat → Int} {l : List Int} {p : Nat → Nat → Bool} (ho : orB sz m x l = true) (h : ∀ j, j < l.length → p (l.getD j 0).toNat (lfN l j) = true) : obG sz m x l p = true := by
  unfold obG; rw [ho, all_yes (p := fun j => p (l.getD j 0).toNat (lfN l j)) h]; rfl
end Go.Proofs.Ytmkahbephidmbaa
