/-
  Plain: a graph and one edge less; a graph behind a list of edits.
-/
import Derived.Test.YtnnlmdenffnjbaaAddAllP
import Derived.Test.YtnnlmdenffnjbaaAddP
namespace Go.Proofs.Ytnnlmdenffnjbaa

theorem sub_pow_bit {a u : Nat} (h : a.testBit u = true) : a - 2 ^ u = a ^^^ 2 ^ u ∧ 2 ^ u ≤ a := by
  have h1 : (a ^^^ 2 ^ u).testBit u = false := by rw [Nat.testBit_xor, h, Nat.testBit_two_pow_self]; rfl
  have h2 := add_pow_bit h1
  have h3 : (a ^^^ 2 ^ u) ^^^ 2 ^ u = a := by rw [Nat.xor_assoc, Nat.xor_self, Nat.xor_zero]
  rw [h3] at h2
  generalize 2 ^ u = p at *
  omega

noncomputable def reB (sz : Int) (m : Nat) (x : Nat → Int) (v u : Int) : Bool := okB sz m x && decide (0 ≤ v ∧ v < sz ∧ 0 ≤ u ∧ u < sz ∧ v ≠ u) && ((x v.toNat).toNat.testBit u.toNat)
noncomputable def reX (sz : Int) (m : Nat) (x : Nat → Int) (v u : Int) : Nat → Int := if reB sz m x v u = true then fun j => ((addN (fun i => (x i).toNat) v.toNat u.toNat j : Nat) : Int) else x
theorem reB_ok {sz : Int} {m : Nat} {x : Nat → Int} {v u : Int} (h : okB sz m x = false) : reB sz m x v u = false := by unfold reB; rw [h]; rfl
theorem reX_no {sz : Int} {m : Nat} {x : Nat → Int} {v u : Int} (h : reB sz m x v u = false) : reX sz m x v u = x := by unfold reX; rw [h]; rfl
theorem reB_parts {sz : Int} {m : Nat} {x : Nat → Int} {v u : Int} (h : reB sz m x v u = true) : okB sz m x = true ∧ (0 ≤ v ∧ v < sz ∧ 0 ≤ u ∧ u < sz ∧ v ≠ u) ∧ (x v.toNat).toNat.testBit u.toNat = true := by
  unfold reB at h
  simp only [Bool.and_eq_true, decide_eq_true_eq] at h
  exact ⟨h.1.1, h.1.2, h.2⟩
theorem reX_ok {sz : Int} {m : Nat} {x : Nat → Int} {v u : Int} (h : okB sz m x = true) : okB sz m (reX sz m x v u) = true := by
  cases hb : reB sz m x v u
  · rw [reX_no hb]; exact h
  · obtain ⟨_, ⟨h1, h2, h3, h4, h5⟩, h6⟩ := reB_parts hb
    obtain ⟨r, rfl, vg, hx⟩ := okB_ok' h
    refine okB_yes ⟨addN (fun i => (x i).toNat) v.toNat u.toNat, rfl, ?_, fun i hi => ?_⟩
    · exact (vg.congr (s := fun i => (x i).toNat) (fun i hi => by show r i = (x i).toNat; rw [hx i hi]; simp)).add (by omega) (by omega) (by omega)
    · unfold reX; rw [hb]; rfl
/-- Between vertices of a valid graph. -/
theorem reB_val {m : Nat} {x : Nat → Int} {n k : Nat} (h : okB m m x = true) (hn : n < m) (hk : k < m) : reB m m x n k = (x n).toNat.testBit k := by
  obtain ⟨r, _, vg, hx⟩ := okB_ok' h
  unfold reB
  rw [h, Int.toNat_natCast, Int.toNat_natCast]
  by_cases hne : n = k
  · subst hne
    rw [hx n hn, Int.toNat_natCast, vg.irr n hn]; simp
  · rw [decide_eq_true (⟨by omega, by omega, by omega, by omega, by omega⟩ : 0 ≤ (n : Int) ∧ (n : Int) < m ∧ 0 ≤ (k : Int) ∧ (k : Int) < m ∧ (n : Int) ≠ k)]
    simp
theorem reB_out {m : Nat} {x : Nat → Int} {v u : Int} (h : ¬(0 ≤ v ∧ v < m ∧ 0 ≤ u ∧ u < m)) : reB m m x v u = false := by
  cases hb : reB m m x v u
  · rfl
  · obtain ⟨_, ⟨h1, h2, h3, h4, h5⟩, h6⟩ := reB_parts hb
    exact absurd ⟨h1, h2, h3, h4⟩ h

noncomputable def apB (a : Bool) (sz : Int) (m : Nat) (x : Nat → Int) (v u : Int) : Bool := if a then aeB sz m x v u else reB sz m x v u
noncomputable def apX (a : Bool) (sz : Int) (m : Nat) (x : Nat → Int) (v u : Int) : Nat → Int := if a then aeX sz m x v u else reX sz m x v u
theorem apX_ok {a : Bool} {sz : Int} {m : Nat} {x : Nat → Int} {v u : Int} (h : okB sz m x = true) : okB sz m (apX a sz m x v u) = true := by
  unfold apX; split
  · exact aeX_ok h
  · exact reX_ok h
/-- The rows behind r edits from the k-th on. -/
noncomputable def apF (sz : Int) (m : Nat) (a : Nat → Bool) (v u : Nat → Int) : Nat → Nat → (Nat → Int) → Option (Nat → Int)
  | _, 0, x => some x
  | k, r + 1, x => if apB (a k) sz m x (v k) (u k) = true then apF sz m a v u (k + 1) r (apX (a k) sz m x (v k) (u k)) else none
noncomputable def apR (sz : Int) (m : Nat) (x : Nat → Int) (n : Nat) (a : Nat → Bool) (v u : Nat → Int) : Option (Nat → Int) := if okB sz m x = true ∧ n ≤ 12 then apF sz m a v u 0 n x else none
noncomputable def apD (sz : Int) (m : Nat) (x : Nat → Int) (n : Nat) (a : Nat → Bool) (v u : Nat → Int) : Bool := (apR sz m x n a v u).isSome
noncomputable def apN (sz : Int) (m : Nat) (x : Nat → Int) (n : Nat) (a : Nat → Bool) (v u : Nat → Int) : Nat := if apD sz m x n a v u = true then m else 0
noncomputable def apZ (sz : Int) (m : Nat) (x : Nat → Int) (n : Nat) (a : Nat → Bool) (v u : Nat → Int) : Int := if apD sz m x n a v u = true then sz else 0
noncomputable def apY (sz : Int) (m : Nat) (x : Nat → Int) (n : Nat) (a : Nat → Bool) (v u : Nat → Int) : Nat → Int := (apR sz m x n a v u).getD x
section
variable {sz : Int} {m : Nat} {x y : Nat → Int} {n k r : Nat} {a : Nat → Bool} {v u : Nat → Int}
theorem apN_le : apN sz m x n a v u ≤ m := by unfold apN; split <;> omega
theorem ap_none (h : apR sz m x n a v u = none) : apD sz m x n a v u = false ∧ apN sz m x n a v u = 0 ∧ apZ sz m x n a v u = 0 := by
  have hb : apD sz m x n a v u = false := by unfold apD; rw [h]; rfl
  exact ⟨hb, by unfold apN; rw [hb]; rfl, by unfold apZ; rw [hb]; rfl⟩
theorem ap_some (h : apR sz m x n a v u = some y) : apD sz m x n a v u = true ∧ apN sz m x n a v u = m ∧ apZ sz m x n a v u = sz ∧ apY sz m x n a v u = y := by
  have hb : apD sz m x n a v u = true := by unfold apD; rw [h]; rfl
  exact ⟨hb, by unfold apN; rw [hb]; rfl, by unfold apZ; rw [hb]; rfl, by unfold apY; rw [h]; rfl⟩
theorem apR_no (h : okB sz m x = false) : apR sz m x n a v u = none := by unfold apR; rw [h]; rfl
theorem apR_long (h : 12 < n) : apR sz m x n a v u = none := by unfold apR; rw [if_neg]; omega
theorem apR_yes (h : okB sz m x = true) (hn : n ≤ 12) : apR sz m x n a v u = apF sz m a v u 0 n x := by unfold apR; rw [if_pos ⟨h, hn⟩]
theorem apF_no (h : apB (a k) sz m x (v k) (u k) = false) : apF sz m a v u k (r + 1) x = none := by
  unfold apF; rw [h]; rfl
theorem apF_yes (h : apB (a k) sz m x (v k) (u k) = true) : apF sz m a v u k (r + 1) x = apF sz m a v u (k + 1) r (apX (a k) sz m x (v k) (u k)) := by
  rw [apF, if_pos h]
end
end Go.Proofs.Ytnnlmdenffnjbaa
