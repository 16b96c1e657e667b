/-
  Graphs of at most seven vertices as plain functions: no program in sight.
-/
namespace Go.Proofs.Ytnnlmdenffnjbaa

/-- A valid graph of n vertices: r v is the set of the neighbours of v. -/
structure VG (n : Nat) (r : Nat → Nat) : Prop where
  n1 : 1 ≤ n
  n7 : n ≤ 7
  lt : ∀ v, v < n → r v < 2 ^ n
  irr : ∀ v, v < n → (r v).testBit v = false
  sym : ∀ v w, v < n → w < n → (r v).testBit w = (r w).testBit v

/-- Size and rows as they come in: they are those of a valid graph. -/
def OkG (sz : Int) (m : Nat) (x : Nat → Int) : Prop := ∃ (r : Nat → Nat), sz = (m : Int) ∧ VG m r ∧ ∀ v, v < m → x v = (r v : Int)

theorem two_pow_le {n : Nat} (h : n ≤ 7) : 2 ^ n ≤ 128 := by
  have : (2 : Nat) ^ n ≤ 2 ^ 7 := Nat.pow_le_pow_right (by omega) h
  omega
theorem VG.lt128 {n : Nat} {r : Nat → Nat} (h : VG n r) {v : Nat} (hv : v < n) : r v < 128 := Nat.lt_of_lt_of_le (h.lt v hv) (two_pow_le h.n7)
theorem VG.congr {n : Nat} {r s : Nat → Nat} (h : VG n r) (e : ∀ v, v < n → r v = s v) : VG n s :=
  ⟨h.n1, h.n7, fun v hv => by rw [← e v hv]; exact h.lt v hv, fun v hv => by rw [← e v hv]; exact h.irr v hv, fun v w hv hw => by rw [← e v hv, ← e w hw]; exact h.sym v w hv hw⟩

/-- Where size and length agree and each row is a set of vertices without its own, only the symmetry is left. -/
theorem OkG.mk {n : Nat} {x : Nat → Int} (h1 : 1 ≤ n) (h7 : n ≤ 7) (hr : ∀ v, v < n → 0 ≤ x v ∧ x v < 2 ^ n ∧ (x v).toNat.testBit v = false)
    (hs : ∀ v w, v < n → w < v → (x v).toNat.testBit w = (x w).toNat.testBit v) : OkG n n x := by
  refine ⟨fun v => (x v).toNat, rfl, ⟨h1, h7, fun v hv => ?_, fun v hv => (hr v hv).2.2, fun v w hv hw => ?_⟩, fun v hv => ?_⟩
  · have := hr v hv
    have h2 : ((2 ^ n : Nat) : Int) = 2 ^ n := by simp
    omega
  · rcases Nat.lt_trichotomy v w with h | h | h
    · exact (hs w v hw h).symm
    · subst h; rfl
    · exact hs v w hv h
  · have := hr v hv
    show x v = ((x v).toNat : Int)
    omega
theorem OkG.rows {n : Nat} {x : Nat → Int} (h : OkG n n x) : ∀ v, v < n → 0 ≤ x v ∧ x v < 2 ^ n ∧ (x v).toNat.testBit v = false := by
  obtain ⟨r, _, hg, hx⟩ := h
  intro v hv
  rw [hx v hv]
  have h2 : ((2 ^ n : Nat) : Int) = 2 ^ n := by simp
  have := hg.lt v hv
  exact ⟨by omega, by omega, by rw [Int.toNat_natCast]; exact hg.irr v hv⟩
theorem OkG.sym {n : Nat} {x : Nat → Int} (h : OkG n n x) : ∀ v w, v < n → w < n → (x v).toNat.testBit w = (x w).toNat.testBit v := by
  obtain ⟨r, _, hg, hx⟩ := h
  intro v w hv hw
  rw [hx v hv, hx w hw, Int.toNat_natCast, Int.toNat_natCast]
  exact hg.sym v w hv hw
/-- The test's answer. -/
noncomputable def okB (sz : Int) (m : Nat) (x : Nat → Int) : Bool := @decide (OkG sz m x) (Classical.propDecidable _)
theorem okB_yes {sz : Int} {m : Nat} {x : Nat → Int} (h : OkG sz m x) : okB sz m x = true := @decide_eq_true _ (Classical.propDecidable _) h
theorem okB_no {sz : Int} {m : Nat} {x : Nat → Int} (h : ¬ OkG sz m x) : okB sz m x = false := @decide_eq_false _ (Classical.propDecidable _) h
end Go.Proofs.Ytnnlmdenffnjbaa
