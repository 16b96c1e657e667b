/-
  Plain: twins within a set.
-/
import Derived.Test.YtmkahbephidmbaaQcOrdP
namespace Go.Proofs.Ytmkahbephidmbaa
open Go.RowKit

/-- w is another vertex of the set with the same neighbors among the rest of it. -/
def Tp (r : Nat → Nat) (s v w : Nat) : Prop := w ≠ v ∧ s.testBit w = true ∧ ∀ u, s.testBit u = true → u ≠ v → u ≠ w → (r v).testBit u = (r w).testBit u
noncomputable def tpB (r : Nat → Nat) (s v w : Nat) : Bool := @decide (Tp r s v w) (Classical.propDecidable _)
/-- Is there a twin among the first n? -/
noncomputable def tkB (r : Nat → Nat) (s v : Nat) : Nat → Bool
  | 0 => false
  | n + 1 => tkB r s v n || tpB r s v n
noncomputable def tnB (r : Nat → Nat) (m v s : Nat) : Bool := decide (s = 2 ^ v) || tkB r s v m
section
variable {r : Nat → Nat} {s v w n m : Nat}
theorem tp_yes (h : Tp r s v w) : tpB r s v w = true := @decide_eq_true _ (Classical.propDecidable _) h
theorem tp_no (h : ¬ Tp r s v w) : tpB r s v w = false := @decide_eq_false _ (Classical.propDecidable _) h
theorem tk_iff : ∀ n, tkB r s v n = true ↔ ∃ w, w < n ∧ tpB r s v w = true := by
  intro n
  induction n with
  | zero =>
    constructor
    · intro h; cases h
    · rintro ⟨w, h, _⟩; omega
  | succ n ih =>
    rw [tkB, Bool.or_eq_true, ih]
    constructor
    · rintro (⟨w, h1, h2⟩ | h)
      · exact ⟨w, by omega, h2⟩
      · exact ⟨n, Nat.lt_succ_self _, h⟩
    · rintro ⟨w, h1, h2⟩
      by_cases e : w < n
      · exact .inl ⟨w, e, h2⟩
      · obtain rfl : w = n := by omega
        exact .inr h2
theorem tp_bit (h : tpB r s v w = true) : s.testBit w = true := (@of_decide_eq_true _ (Classical.propDecidable _) h).2.1
theorem tk_any (hs : s < 2 ^ m) (hm : m ≤ 7) : ((listN s).map fun w : Nat => (w : Int)).any (fun w => tpB r s v w.toNat) = tkB r s v m := by
  rw [Bool.eq_iff_iff, List.any_eq_true, tk_iff]
  constructor
  · rintro ⟨w, hw, h⟩
    rw [List.mem_map] at hw
    obtain ⟨u, hu, rfl⟩ := hw
    rw [Int.toNat_natCast] at h
    exact ⟨u, bit_lt hs (tp_bit h), h⟩
  · rintro ⟨w, hw, h⟩
    exact ⟨(w : Int), List.mem_map.2 ⟨w, mem_listN.2 ⟨by omega, tp_bit h⟩, rfl⟩, by rw [Int.toNat_natCast]; exact h⟩
def prN (v w : Nat) : Nat := 2 ^ v ||| 2 ^ w
theorem pr_bit {u : Nat} : (prN v w).testBit u = (decide (v = u) || decide (w = u)) := by unfold prN; rw [Nat.testBit_or, Nat.testBit_two_pow, Nat.testBit_two_pow]
/-- What the program sees. -/
theorem tw_i (hw : w ≠ v) (hb : s.testBit w = true) : (((r v ^^^ r w) &&& s) ^^^ (((r v ^^^ r w) &&& s) &&& prN v w) = 0) ↔ Tp r s v w := by
  constructor
  · intro h
    refine ⟨hw, hb, fun u h1 h2 h3 => ?_⟩
    have := congrArg (fun t => t.testBit u) h
    simp only [Nat.testBit_xor, Nat.testBit_and, Nat.zero_testBit, pr_bit, h1, Bool.and_true, decide_eq_false (fun e : v = u => h2 e.symm), decide_eq_false (fun e : w = u => h3 e.symm), Bool.or_self, Bool.and_false, Bool.xor_false] at this
    cases h4 : (r v).testBit u <;> cases h5 : (r w).testBit u <;> simp_all
  · rintro ⟨_, _, h⟩
    apply Nat.eq_of_testBit_eq
    intro u
    simp only [Nat.testBit_xor, Nat.testBit_and, Nat.zero_testBit, pr_bit]
    by_cases h1 : v = u
    · simp [h1]
    · by_cases h2 : w = u
      · simp [h2]
      · cases h3 : s.testBit u
        · simp
        · have := h u h3 (fun e => h1 e.symm) (fun e => h2 e.symm)
          simp [h1, h2, this]
/-- What the reference sees. -/
theorem pr_in (hv : s.testBit v = true) : (s &&& prN v w = prN v w) ↔ s.testBit w = true := by
  constructor
  · intro h
    have := congrArg (fun t => t.testBit w) h
    simp only [Nat.testBit_and, pr_bit, decide_true, Bool.or_true, Bool.and_true] at this
    exact this
  · intro h
    apply Nat.eq_of_testBit_eq
    intro u
    rw [Nat.testBit_and, pr_bit]
    by_cases h1 : v = u
    · subst h1; simp [hv]
    · by_cases h2 : w = u
      · subst h2; simp [h]
      · simp [h1, h2]
theorem pr_sub (hs : s < 128) (h : s &&& prN v w = prN v w) : s - prN v w = s ^^^ prN v w ∧ prN v w ≤ s := by
  have hle : prN v w ≤ s := by rw [← h]; exact Nat.and_le_left
  have := xor_sub hs (prN v w)
  rw [h] at this
  exact ⟨by omega, hle⟩
theorem tw_s (hw : w ≠ v) (hb : s.testBit w = true) (hv : s.testBit v = true) : (r v &&& (s ^^^ prN v w) = r w &&& (s ^^^ prN v w)) ↔ Tp r s v w := by
  constructor
  · intro h
    refine ⟨hw, hb, fun u h1 h2 h3 => ?_⟩
    have := congrArg (fun t => t.testBit u) h
    simp only [Nat.testBit_xor, Nat.testBit_and, pr_bit, h1, decide_eq_false (fun e : v = u => h2 e.symm), decide_eq_false (fun e : w = u => h3 e.symm), Bool.or_self, Bool.xor_false, Bool.and_true] at this
    exact this
  · rintro ⟨_, _, h⟩
    apply Nat.eq_of_testBit_eq
    intro u
    simp only [Nat.testBit_xor, Nat.testBit_and, pr_bit]
    by_cases h1 : v = u
    · subst h1; simp [hv]
    · by_cases h2 : w = u
      · subst h2; simp [hb]
      · cases h3 : s.testBit u
        · simp [h1, h2]
        · have := h u h3 (fun e => h1 e.symm) (fun e => h2 e.symm)
          simp [h1, h2, this]
end
end Go.Proofs.Ytmkahbephidmbaa
