/-
  Plain: sets of at most seven vertices as numbers; cliques; the elimination of simplicial vertices.
-/
import Derived.Test.YtnnlmdenffnjbaaAddP
namespace Go.Proofs.Ytnnlmdenffnjbaa

/-- The members of s below k, in order. -/
def listK (s k : Nat) : List Nat := (List.range k).filter fun v => s.testBit v
def listN (s : Nat) : List Nat := listK s 7
theorem listK_zero (s : Nat) : listK s 0 = [] := rfl
theorem listK_yes {s k : Nat} (h : s.testBit k = true) : listK s (k + 1) = listK s k ++ [k] := by
  unfold listK; rw [List.range_succ, List.filter_append]; simp [h]
theorem listK_no {s k : Nat} (h : s.testBit k = false) : listK s (k + 1) = listK s k := by
  unfold listK; rw [List.range_succ, List.filter_append]; simp [h]
theorem listK_len (s k : Nat) : (listK s k).length ≤ k := by
  unfold listK; have := List.length_filter_le (fun v => s.testBit v) (List.range k); simpa using this
theorem mem_listK {s k v : Nat} : v ∈ listK s k ↔ v < k ∧ s.testBit v = true := by unfold listK; simp
theorem mem_listN {s v : Nat} : v ∈ listN s ↔ v < 7 ∧ s.testBit v = true := mem_listK
theorem listN_len (s : Nat) : (listN s).length ≤ 7 := listK_len s 7
theorem listN_at {s j : Nat} (h : j < (listN s).length) : (listN s)[j] < 7 ∧ s.testBit (listN s)[j] = true := mem_listN.1 (List.getElem_mem h)

theorem bit_lt {s n v : Nat} (h : s < 2 ^ n) (hb : s.testBit v = true) : v < n := by
  refine Classical.byContradiction fun hv => ?_
  have := Nat.testBit_lt_two_pow (Nat.lt_of_lt_of_le h (Nat.pow_le_pow_right (by omega) (by omega : n ≤ v)))
  rw [this] at hb; cases hb
theorem bit_ge {s v : Nat} (hb : s.testBit v = true) : 2 ^ v ≤ s := Nat.ge_two_pow_of_testBit hb
theorem ex_bit {s : Nat} (h : s ≠ 0) : ∃ v, s.testBit v = true := Nat.exists_testBit_of_ne_zero h

theorem xor_sub_table : ∀ s, s < 128 → ∀ a, a < 128 → (s ^^^ (s &&& a)) + (s &&& a) = s := by decide +kernel
theorem and_low {s a : Nat} (hs : s < 128) : s &&& a = s &&& (a % 128) := by
  apply Nat.eq_of_testBit_eq
  intro i
  rw [Nat.testBit_and, Nat.testBit_and, show (128 : Nat) = 2 ^ 7 from rfl, Nat.testBit_mod_two_pow]
  by_cases hi : i < 7
  · simp [hi]
  · have : s.testBit i = false := Nat.testBit_lt_two_pow (Nat.lt_of_lt_of_le hs (by have : 2 ^ 7 ≤ 2 ^ i := Nat.pow_le_pow_right (by omega) (by omega); omega))
    simp [this]
theorem xor_sub {s : Nat} (hs : s < 128) (a : Nat) : (s ^^^ (s &&& a)) + (s &&& a) = s := by
  rw [and_low hs]; exact xor_sub_table s hs _ (Nat.mod_lt _ (by omega))
theorem and_le {s : Nat} (a : Nat) : s &&& a ≤ s := Nat.and_le_left
theorem xor_bit {s v : Nat} (h : s.testBit v = true) : s ^^^ (s &&& 2 ^ v) = s ^^^ 2 ^ v ∧ (s ^^^ 2 ^ v) + 2 ^ v = s := by
  have e : s &&& 2 ^ v = 2 ^ v := by
    apply Nat.eq_of_testBit_eq
    intro i
    rw [Nat.testBit_and, Nat.testBit_two_pow]
    by_cases hi : v = i
    · subst hi; simp [h]
    · simp [hi]
  refine ⟨by rw [e], ?_⟩
  have hx : (s ^^^ 2 ^ v).testBit v = false := by rw [Nat.testBit_xor, h, Nat.testBit_two_pow]; simp
  rw [add_pow_bit hx, Nat.xor_assoc, Nat.xor_self, Nat.xor_zero]
theorem xor_bit_sub {s v : Nat} (h : s.testBit v = true) : s ^^^ 2 ^ v = s - 2 ^ v := by have := (xor_bit h).2; omega
theorem xor_bit_lt {s v : Nat} (h : s.testBit v = true) : s ^^^ 2 ^ v < s := by have := (xor_bit h).2; have := Nat.two_pow_pos v; omega

/-- Any two members are neighbours. -/
def cliq (r : Nat → Nat) (s : Nat) : Bool := (listN s).all fun v => s ^^^ (s &&& r v) == 2 ^ v
theorem cliq_no {r : Nat → Nat} {s v : Nat} (h : v < 7) (hb : s.testBit v = true) (hn : s ^^^ (s &&& r v) ≠ 2 ^ v) : cliq r s = false := by
  cases hc : cliq r s
  · rfl
  · unfold cliq at hc
    rw [List.all_eq_true] at hc
    have := hc v (mem_listN.2 ⟨h, hb⟩)
    exact absurd (by simpa using this) hn
theorem cliq_yes {r : Nat → Nat} {s : Nat} (h : ∀ v, v < 7 → s.testBit v = true → s ^^^ (s &&& r v) = 2 ^ v) : cliq r s = true := by
  unfold cliq
  rw [List.all_eq_true]
  intro v hv
  have := mem_listN.1 hv
  simpa using h v this.1 this.2
/-- The reference's own test of one member says the same. -/
theorem clash {r : Nat → Nat} {s v : Nat} (hs : s < 128) (hb : s.testBit v = true) : (r v &&& s = s - 2 ^ v) ↔ (s ^^^ (s &&& r v) = 2 ^ v) := by
  have h1 := xor_sub hs (r v)
  have h2 := bit_ge hb
  have h3 := and_le (s := s) (r v)
  rw [Nat.and_comm (r v) s]
  omega

/-- The least simplicial vertex of what is left. -/
def firstS (r : Nat → Nat) (left : Nat) : Option Nat := (listN left).find? fun v => cliq r (r v &&& left)
theorem firstS_bit {r : Nat → Nat} {left v : Nat} (h : firstS r left = some v) : v < 7 ∧ left.testBit v = true := mem_listN.1 (List.mem_of_find?_eq_some h)
/-- Can all be taken away? -/
def elimB (r : Nat → Nat) (left : Nat) : Bool :=
  if left = 0 then true
  else match h : firstS r left with
    | none => false
    | some v => elimB r (left ^^^ 2 ^ v)
termination_by left
decreasing_by exact xor_bit_lt (firstS_bit h).2
theorem elimB_zero (r : Nat → Nat) : elimB r 0 = true := by unfold elimB; rfl
theorem elimB_none {r : Nat → Nat} {left : Nat} (h0 : left ≠ 0) (h : firstS r left = none) : elimB r left = false := by
  unfold elimB
  rw [if_neg h0]
  split
  · rfl
  · rename_i h2; rw [h] at h2; cases h2
theorem elimB_some {r : Nat → Nat} {left v : Nat} (h : firstS r left = some v) : elimB r left = elimB r (left ^^^ 2 ^ v) := by
  have h0 : left ≠ 0 := by
    rintro rfl
    have := (firstS_bit h).2
    simp at this
  rw [elimB, if_neg h0]
  split
  · rename_i h2; rw [h] at h2; cases h2
  · rename_i h2; rw [h] at h2; cases h2; rfl
/-- As the first place of the list. -/
theorem firstS_at {r : Nat → Nat} {left k : Nat} (hk : k < (listN left).length) (hy : cliq r (r (listN left)[k] &&& left) = true) (hmin : ∀ j (hj : j < k), cliq r (r (listN left)[j] &&& left) = false) : firstS r left = some (listN left)[k] := by
  unfold firstS
  rw [List.find?_eq_some_iff_getElem]
  exact ⟨hy, k, hk, rfl, fun j hj => by have := hmin j hj; simp [this]⟩
theorem firstS_none {r : Nat → Nat} {left : Nat} (h : ∀ j (hj : j < (listN left).length), cliq r (r (listN left)[j] &&& left) = false) : firstS r left = none := by
  unfold firstS
  rw [List.find?_eq_none]
  intro v hv
  obtain ⟨j, hj, rfl⟩ := List.mem_iff_getElem.1 hv
  simp [h j hj]
/-- As the least member that serves. -/
theorem firstS_least {r : Nat → Nat} {left v : Nat} (hv : v < 7) (hb : left.testBit v = true) (hy : cliq r (r v &&& left) = true) (hmin : ∀ u, u < v → left.testBit u = true → cliq r (r u &&& left) = false) : firstS r left = some v := by
  cases h : firstS r left with
  | none =>
    unfold firstS at h
    rw [List.find?_eq_none] at h
    exact absurd hy (h v (mem_listN.2 ⟨hv, hb⟩))
  | some u =>
    have hu := firstS_bit h
    have hyu : cliq r (r u &&& left) = true := by unfold firstS at h; exact List.find?_some (p := fun v => cliq r (r v &&& left)) h
    rcases Nat.lt_trichotomy u v with h1 | h1 | h1
    · rw [hmin u h1 hu.2] at hyu; cases hyu
    · rw [h1]
    · exfalso
      unfold firstS listN listK at h
      rw [List.find?_eq_some_iff_append] at h
      obtain ⟨_, as, bs, hab, hno⟩ := h
      have hsort : ((List.range 7).filter fun v => left.testBit v).Pairwise (· < ·) := List.Pairwise.filter _ List.pairwise_lt_range
      have hvm : v ∈ (List.range 7).filter fun v => left.testBit v := by simp [hv, hb]
      rw [hab] at hvm hsort
      rw [List.mem_append] at hvm
      rcases hvm with hvm | hvm
      · have := hno v hvm; rw [hy] at this; cases this
      · rw [List.mem_cons] at hvm
        rcases hvm with rfl | hvm
        · omega
        · have := (List.pairwise_cons.1 (List.pairwise_append.1 hsort).2.1).1 v hvm
          omega
theorem firstS_no {r : Nat → Nat} {left : Nat} (h : ∀ u, u < 7 → left.testBit u = true → cliq r (r u &&& left) = false) : firstS r left = none := by
  unfold firstS
  rw [List.find?_eq_none]
  intro v hv
  have := mem_listN.1 hv
  simp [h v this.1 this.2]
end Go.Proofs.Ytnnlmdenffnjbaa
