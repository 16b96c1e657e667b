/-
  Several texts in one: words for memory, plain laws and contracts that the later texts lean on.
-/
import Derived.Test.YtdpkbfiggbcclaaGreatQjBarP
import Derived.Test.YtdpkbfiggbcclaaGreatQjWgtI
/-
  Plain: shortest ways within a set, by layers; what is left of a graph without a vertex and its neighbours.
-/
namespace Go.Proofs.YtdpkbfiggbcclaaGreat
open Go.RowKit

/-- What is reached at step k and not before. -/
def lyr (r : Nat → Nat) (set s : Nat) : Nat → Nat
  | 0 => s
  | k + 1 => (nb r (lyr r set s k) &&& set) ^^^ ((nb r (lyr r set s k) &&& set) &&& gro r set s k)
section
variable {r : Nat → Nat} {set s : Nat}
theorem lyr_bit {k u : Nat} : (lyr r set s (k + 1)).testBit u = true ↔ (nb r (lyr r set s k)).testBit u = true ∧ set.testBit u = true ∧ (gro r set s k).testBit u = false := by
  show ((nb r (lyr r set s k) &&& set) ^^^ ((nb r (lyr r set s k) &&& set) &&& gro r set s k)).testBit u = true ↔ _
  rw [Nat.testBit_xor, Nat.testBit_and, Nat.testBit_and, Nat.testBit_and]
  cases (nb r (lyr r set s k)).testBit u <;> cases set.testBit u <;> cases (gro r set s k).testBit u <;> simp
theorem gro_bit {k u : Nat} : (gro r set s (k + 1)).testBit u = true ↔ ((gro r set s k).testBit u = true ∨ (nb r (gro r set s k)).testBit u = true) ∧ set.testBit u = true := stp_bit
theorem lyr_both (h : Sub s set) : ∀ k, Sub (lyr r set s k) (gro r set s k) ∧ gro r set s (k + 1) = gro r set s k ||| lyr r set s (k + 1) := by
  intro k
  induction k with
  | zero =>
    refine ⟨fun u hu => hu, ?_⟩
    apply Nat.eq_of_testBit_eq
    intro u
    rw [Bool.eq_iff_iff, gro_bit, Nat.testBit_or, Bool.or_eq_true, lyr_bit]
    show (s.testBit u = true ∨ (nb r s).testBit u = true) ∧ _ ↔ s.testBit u = true ∨ (nb r s).testBit u = true ∧ _ ∧ s.testBit u = false
    have := h u
    cases hs0 : s.testBit u <;> cases (nb r s).testBit u <;> cases hs : set.testBit u <;> simp_all
  | succ k ih =>
    obtain ⟨ih1, ih2⟩ := ih
    have h1 : Sub (lyr r set s (k + 1)) (gro r set s (k + 1)) := fun u hu => by rw [ih2, Nat.testBit_or, hu, Bool.or_true]
    refine ⟨h1, ?_⟩
    apply Nat.eq_of_testBit_eq
    intro u
    rw [Bool.eq_iff_iff, gro_bit, Nat.testBit_or, Bool.or_eq_true, lyr_bit]
    constructor
    · rintro ⟨h2, h3⟩
      cases hg : (gro r set s (k + 1)).testBit u
      · rw [hg] at h2
        rcases h2 with h2 | h2
        · cases h2
        · obtain ⟨v, hv, h4, h5⟩ := nb_bit.1 h2
          refine .inr ⟨nb_bit.2 ⟨v, hv, ?_, h5⟩, h3, rfl⟩
          rw [ih2, Nat.testBit_or, Bool.or_eq_true] at h4
          rcases h4 with h4 | h4
          · have : (gro r set s (k + 1)).testBit u = true := gro_bit.2 ⟨.inr (nb_bit.2 ⟨v, hv, h4, h5⟩), h3⟩
            rw [hg] at this; cases this
          · exact h4
      · exact .inl rfl
    · rintro (h2 | ⟨h2, h3, _⟩)
      · exact ⟨.inl h2, gro_sub h (k + 1) u h2⟩
      · obtain ⟨v, hv, h4, h5⟩ := nb_bit.1 h2
        exact ⟨.inr (nb_bit.2 ⟨v, hv, h1 v h4, h5⟩), h3⟩
theorem gro_lyr (h : Sub s set) (k : Nat) : gro r set s (k + 1) = gro r set s k ||| lyr r set s (k + 1) := (lyr_both h k).2
theorem lyr_sub (h : Sub s set) (k : Nat) : Sub (lyr r set s k) (gro r set s k) := (lyr_both h k).1
/-- No more is reached. -/
theorem lyr_zero (h : Sub s set) {k : Nat} (e : lyr r set s (k + 1) = 0) : gro r set s (k + 1) = gro r set s k := by rw [gro_lyr h, e, Nat.or_zero]
/-- A member is first reached in a layer. -/
theorem in_lyr (h : Sub s set) {a : Nat} : ∀ k, (gro r set s k).testBit a = true → (∀ j, j < k → (gro r set s j).testBit a = false) → (lyr r set s k).testBit a = true := by
  intro k
  cases k with
  | zero => exact fun h _ => h
  | succ k =>
    intro h1 h2
    rw [gro_lyr h, Nat.testBit_or, h2 k (Nat.lt_succ_self _), Bool.false_or] at h1
    exact h1
theorem gro_mono (h : Sub s set) {j k : Nat} (hjk : j ≤ k) : Sub (gro r set s j) (gro r set s k) := by
  induction k with
  | zero => obtain rfl : j = 0 := by omega
            exact fun _ h => h
  | succ k ih =>
    by_cases e : j = k + 1
    · subst e; exact fun _ h => h
    · exact (ih (by omega)).trans (gro_grow h k)
/-- Who has a member in a layer has a neighbour in the layer before. -/
theorem lyr_back {m k a : Nat} (vg : VG m r) (hset : set < 2 ^ m) (h : Sub s set) (ha : a < m) (hb : (lyr r set s (k + 1)).testBit a = true) : ∃ v, v < m ∧ (r a &&& lyr r set s k).testBit v = true := by
  obtain ⟨h1, _, _⟩ := lyr_bit.1 hb
  obtain ⟨v, _, h2, h3⟩ := nb_bit.1 h1
  have hv : v < m := bit_lt hset (gro_sub h k v (lyr_sub h k v h2))
  refine ⟨v, hv, ?_⟩
  rw [Nat.testBit_and, h2, Bool.and_true, vg.sym a v ha hv]
  exact h3
/-- Is a reached from s within the set? -/
theorem reach_yes {m k a : Nat} (hm : m ≤ 7) (hset : set < 2 ^ m) (h : Sub s set) (h0 : s ≠ 0) (hb : (gro r set s k).testBit a = true) : (part r set s).testBit a = true := by
  have e := gro_part (r := r) hm hset h h0
  by_cases hk : k ≤ m
  · rw [← e]; exact gro_mono h hk a hb
  · have := gro_fix (gro_stop (r := r) hm hset h h0) k (by omega)
    rw [← e, ← this]; exact hb
theorem reach_no {k a : Nat} (h : Sub s set) (e : gro r set s (k + 1) = gro r set s k) (hb : (gro r set s k).testBit a = false) : ∀ j, (gro r set s j).testBit a = false := by
  intro j
  by_cases hj : k ≤ j
  · rw [gro_fix e j hj]; exact hb
  · cases hj' : (gro r set s j).testBit a
    · rfl
    · rw [gro_mono h (show j ≤ k by omega) a hj'] at hb; cases hb
end
/-- What is left without c and its neighbours. -/
def avS (r : Nat → Nat) (m c : Nat) : Nat := (2 ^ m - 1) ^^^ (r c ||| 2 ^ c)
def avN (r : Nat → Nat) (m a b c : Nat) : Bool := ((avS r m c).testBit a && (avS r m c).testBit b) && (part r (avS r m c) (2 ^ b)).testBit a
noncomputable def avB (sz : Int) (m : Nat) (x : Nat → Int) (a b c : Int) : Bool :=
  okB sz m x && decide ((0 ≤ a ∧ a < sz) ∧ (0 ≤ b ∧ b < sz) ∧ (0 ≤ c ∧ c < sz)) && avN (rw_ x) m a.toNat b.toNat c.toNat
noncomputable def trB (sz : Int) (m : Nat) (x : Nat → Int) (a b c : Int) : Bool :=
  (avB sz m x a b c && avB sz m x b c a && avB sz m x c a b) && (decide (a ≠ b) && decide (b ≠ c) && decide (a ≠ c))
theorem avS_lt {m c : Nat} {r : Nat → Nat} (vg : VG m r) (hc : c < m) : avS r m c < 2 ^ m := full_lt vg.n7 (or_pow_lt vg hc)
theorem pow_sub {b set : Nat} (h : set.testBit b = true) : Sub (2 ^ b) set := fun u hu => by
  rw [Nat.testBit_two_pow] at hu
  have : b = u := by simpa using hu
  rw [← this]; exact h
end Go.Proofs.YtdpkbfiggbcclaaGreat

/-
  Contracts: the edges that fill a graph in an order, of the program.
-/
namespace Go.Proofs.YtdpkbfiggbcclaaGreat
open Go.RowKit

/-- Rows of numbers, and an empty outer slice, in blocks that are written. -/
structure OF (lo hi : Nat) (w : World) (g m c : Nat) (r : Nat → Nat) : Prop where
  own : Own w lo hi 3 1 (some ⟨g, 0, none⟩) m c (fun j => .int .i64 (r j : Nat))
  le : hi ≤ w.heap.size
structure OE (q : Nat) (w : World) : Prop where
  own : Own w q (q + 1) 22 1 (some ⟨q, 0, none⟩) 0 0 (dvs [])
  le : q + 1 ≤ w.heap.size
section
variable {w w' : World} {lo hi g m c q : Nat} {r : Nat → Nat}
theorem OF.keep (h : OF lo hi w g m c r) (hb : Below w.heap.size w w') : OF lo hi w' g m c r := ⟨h.own.keepB hb h.le, Nat.le_trans h.le hb.size⟩
theorem OF.gv (h : OF lo hi w g m c r) (vg : VG m r) : GV w (some ⟨g, 0, none⟩) m c r := ⟨vg, (h.own.mono (Nat.le_refl _) h.le).rd⟩
theorem OE.keep (h : OE q w) (hb : Below w.heap.size w w') : OE q w' := ⟨h.own.keepB hb h.le, Nat.le_trans h.le hb.size⟩
end

end Go.Proofs.YtdpkbfiggbcclaaGreat
