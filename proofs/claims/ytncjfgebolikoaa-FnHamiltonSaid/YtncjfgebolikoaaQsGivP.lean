/-
  Several texts in one.
-/
import Derived.Test.YtncjfgebolikoaaQsUmoI
import Derived.Test.YtncjfgebolikoaaQsUmbS
import Derived.Test.YtncjfgebolikoaaQsGB
import Derived.Test.YtncjfgebolikoaaQsGL
import Derived.Test.YtncjfgebolikoaaQsListS
import Derived.Deep.QuietTactic
import Derived.BigQuiet
import Derived.Test.YtncjfgebolikoaaQsTake
import Derived.Test.YtncjfgebolikoaaQsFirst
import Derived.Test.YtncjfgebolikoaaQsSet2I
/-
  Contract: do weights and a limit make a threshold graph? The reference's test.
-/
namespace Go.Proofs.Ytncjfgebolikoaa
open Go.RowKit

theorem l1In_b {n lo hi : Int} (w : World) {b : Bool} (h : decide (lo ≤ n ∧ n ≤ hi) = b) : Calls Try.prog 59 #[.int .i64 n, .int .i64 lo, .int .i64 hi] w fun e w' => e = .returned (.bool b) ∧ Below w.heap.size w w' :=
  (l1In_any n lo hi w).mono fun _ _ ⟨h1, h2⟩ => ⟨by rw [h1, ← h]; simp, h2 ▸ Below.refl _ _⟩
end Go.Proofs.Ytncjfgebolikoaa

/-
  Contracts: are two slices, two graphs, two slices of slices the same? The program's and the reference's tests.
-/
namespace Go.Proofs.Ytncjfgebolikoaa
open Go.RowKit

/-- Two slices of integers hold the same. -/
def sl (n : Nat) (x : Nat → Int) (m : Nat) (y : Nat → Int) : Bool := decide (n = m ∧ ∀ i, i < n → x i = y i)
theorem sl_len {n m : Nat} {x y : Nat → Int} (h : n ≠ m) : sl n x m y = false := by
  unfold sl; exact decide_eq_false fun k => h k.1
theorem sl_no {n : Nat} {x y : Nat → Int} {k : Nat} (hk : k < n) (h : x k ≠ y k) : sl n x n y = false := by
  unfold sl; exact decide_eq_false fun q => h (q.2 k hk)
theorem sl_yes {n : Nat} {x y : Nat → Int} (h : ∀ i, i < n → x i = y i) : sl n x n y = true := by
  unfold sl; exact decide_eq_true ⟨rfl, h⟩
end Go.Proofs.Ytncjfgebolikoaa

/-
  Plain: intervals, and the graph of intervals.
-/
namespace Go.Proofs.Ytncjfgebolikoaa
open Go.RowKit

def Im1 (L R : List Int) (k : Nat) : Prop := ∀ i, i < k → 0 ≤ L.getD i 0 ∧ L.getD i 0 ≤ R.getD i 0 ∧ R.getD i 0 ≤ 99
noncomputable def imB (L R : List Int) : Bool := decide (1 ≤ L.length ∧ L.length ≤ 7) && decide (R.length = L.length) && @decide (Im1 L R L.length) (Classical.propDecidable _)
section
variable {L R : List Int} {k : Nat}
theorem im_len (h : ¬ (1 ≤ L.length ∧ L.length ≤ 7)) : imB L R = false := by unfold imB; rw [decide_eq_false h]; rfl
theorem im_same (h : R.length ≠ L.length) : imB L R = false := by unfold imB; rw [decide_eq_false h, Bool.and_false]; rfl
theorem im_no (hk : k < L.length) (h : ¬ (0 ≤ L.getD k 0 ∧ L.getD k 0 ≤ R.getD k 0 ∧ R.getD k 0 ≤ 99)) : imB L R = false := by
  unfold imB
  rw [@decide_eq_false _ (Classical.propDecidable _) fun hb => h (hb k hk), Bool.and_false]
theorem im_yes (h1 : 1 ≤ L.length ∧ L.length ≤ 7) (h2 : R.length = L.length) (h3 : Im1 L R L.length) : imB L R = true := by
  unfold imB
  rw [decide_eq_true h1, decide_eq_true h2, @decide_eq_true _ (Classical.propDecidable _) h3]; rfl
theorem Im1.zero : Im1 L R 0 := fun i h => absurd h (by omega)
theorem Im1.step (h : Im1 L R k) (h2 : 0 ≤ L.getD k 0 ∧ L.getD k 0 ≤ R.getD k 0 ∧ R.getD k 0 ≤ 99) : Im1 L R (k + 1) := fun i hi => by
  by_cases e : i < k
  · exact h i e
  · obtain rfl : i = k := by omega
    exact h2
theorem im_parts (h : imB L R = true) : (1 ≤ L.length ∧ L.length ≤ 7) ∧ R.length = L.length ∧ Im1 L R L.length := by
  unfold imB at h
  simp only [Bool.and_eq_true, decide_eq_true_eq] at h
  exact ⟨h.1.1, h.1.2, h.2⟩
end
/-- The two lists of intervals in a box. -/
structure IB (w : World) (q : Nat) (Al : Option Addr) (n cl : Nat) (Ar : Option Addr) (k cr : Nat) : Prop where
  c0 : w.cell? ⟨q, 0, none⟩ = some (.slice Al n cl)
  c1 : w.cell? ⟨q, 1, none⟩ = some (.slice Ar k cr)
theorem IB.keep {w w' : World} {q : Nat} {Al : Option Addr} {n cl : Nat} {Ar : Option Addr} {k cr : Nat} (h : IB w q Al n cl Ar k cr) (hb : Below w.heap.size w w') : IB w' q Al n cl Ar k cr := ⟨up_ hb h.c0, up_ hb h.c1⟩
theorem IB.lt {w : World} {q : Nat} {Al : Option Addr} {n cl : Nat} {Ar : Option Addr} {k cr : Nat} (h : IB w q Al n cl Ar k cr) : q < w.heap.size := World.block_lt_of_cell? _ _ h.c0
end Go.Proofs.Ytncjfgebolikoaa

/-
  Contracts: a cover by cliques: the program's.
-/
namespace Go.Proofs.Ytncjfgebolikoaa
open Go.RowKit

section
variable {A : Option Addr} {m c : Nat} {r : Nat → Nat}
theorem made_own (w : World) (n : Nat) (hn : n ≤ 1048576) : ∃ W : World, (Instr.makeSlice 24 (.int .i64 (n : Int)) (.int .i64 (n : Int))).run Try.prog w = .ok (.slice (some ⟨w.heap.size, 0, none⟩) n n) W ∧ Own W w.heap.size (w.heap.size + 1) 3 1 (some ⟨w.heap.size, 0, none⟩) n n (fun _ => .int .i64 0) ∧ Below w.heap.size w W := by
  refine ⟨_, run_make_row' (P := Try.prog) 24 3 (.int .i64 0) 8 Try.underlying24 info_int rfl .i64 .i64 n (by omega) (by omega) w, ?_, (Below.refl _ _).alloc (Nat.le_refl _) _⟩
  obtain ⟨cc, q1, q2, q3⟩ := World.rowIs_made w (.int .i64 0) n 3
  exact .inr ⟨_, cc, rfl, Nat.le_refl _, Nat.lt_succ_self _, q1, Nat.le_refl _, by unfold maxLen; omega, by omega, fun j hj => by rw [q3 j (by omega)]⟩
end
end Go.Proofs.Ytncjfgebolikoaa

/-
  Plain: a graph made pair by pair.
-/
namespace Go.Proofs.Ytncjfgebolikoaa
open Go.RowKit

def bmK (P : Nat → Bool) : Nat → Nat
  | 0 => 0
  | n + 1 => if P n = true then bmK P n ||| 2 ^ n else bmK P n
theorem bmK_bit {P : Nat → Bool} {i : Nat} : ∀ n, (bmK P n).testBit i = (decide (i < n) && P i) := by
  intro n
  induction n with
  | zero => simp [bmK]
  | succ n ih =>
    rw [bmK]
    by_cases h : P n = true
    · rw [if_pos h, Nat.testBit_or, ih, Nat.testBit_two_pow]
      by_cases e : n = i
      · subst e; simp [h]
      · by_cases e2 : i < n
        · simp [e, e2, show i < n + 1 by omega]
        · simp [e, e2, show ¬ i < n + 1 by omega]
    · rw [if_neg h, ih]
      by_cases e : i = n
      · subst e; simp [h]
      · by_cases e2 : i < n
        · simp [e2, show i < n + 1 by omega]
        · simp [e2, show ¬ i < n + 1 by omega]
theorem bmK_lt {P : Nat → Bool} : ∀ n, bmK P n < 2 ^ n := by
  intro n
  induction n with
  | zero => exact Nat.one_pos
  | succ n ih =>
    have h1 : 2 ^ n < 2 ^ (n + 1) := Nat.pow_lt_pow_right (by omega) (Nat.lt_succ_self _)
    rw [bmK]
    split
    · exact Nat.or_lt_two_pow (by omega) h1
    · omega
/-- Is the pair of i and j, seen up to the pair a below b, joined? -/
def stB (p : Nat → Nat → Bool) (b a j i : Nat) : Bool := (decide (i < j) && p i j && (decide (j < b) || decide (j = b ∧ i < a))) || (decide (j < i) && p j i && (decide (i < b) || decide (i = b ∧ j < a)))
def grS (p : Nat → Nat → Bool) (n b a j : Nat) : Nat := bmK (stB p b a j) n
theorem grS_lt {p : Nat → Nat → Bool} {n b a j : Nat} : grS p n b a j < 2 ^ n := bmK_lt n
theorem grS_zero {p : Nat → Nat → Bool} {n j : Nat} : grS p n 0 0 j = 0 := by
  apply Nat.eq_of_testBit_eq
  intro i
  unfold grS
  rw [bmK_bit]
  simp [stB]
theorem grS_next {p : Nat → Nat → Bool} {n b j : Nat} : grS p n b b j = grS p n (b + 1) 0 j := by
  apply Nat.eq_of_testBit_eq
  intro i
  unfold grS
  rw [bmK_bit, bmK_bit]
  congr 1
  unfold stB
  by_cases h1 : i < j
  · have h2 : ¬ j < i := by omega
    have e : (decide (j < b) || decide (j = b ∧ i < b)) = (decide (j < b + 1) || decide (j = b + 1 ∧ i < 0)) := by
      rw [Bool.eq_iff_iff]; simp; omega
    rw [e, decide_eq_false h2]; simp
  · by_cases h2 : j < i
    · have e : (decide (i < b) || decide (i = b ∧ j < b)) = (decide (i < b + 1) || decide (i = b + 1 ∧ j < 0)) := by
        rw [Bool.eq_iff_iff]; simp; omega
      rw [e, decide_eq_false h1]; simp
    · rw [decide_eq_false h1, decide_eq_false h2]; simp
theorem grS_no {p : Nat → Nat → Bool} {n b a j : Nat} (hp : p a b = false) : grS p n b (a + 1) j = grS p n b a j := by
  apply Nat.eq_of_testBit_eq
  intro i
  unfold grS
  rw [bmK_bit, bmK_bit]
  congr 1
  unfold stB
  by_cases h1 : i = a ∧ j = b
  · obtain ⟨rfl, rfl⟩ := h1
    simp only [hp, Bool.and_false, Bool.false_and, Bool.false_or]
    by_cases h3 : j < i
    · have h4 : ¬ i = j := by omega
      simp [h4]
    · simp [h3]
  · by_cases h2 : j = a ∧ i = b
    · obtain ⟨rfl, rfl⟩ := h2
      simp only [hp, Bool.and_false, Bool.false_and, Bool.or_false]
      by_cases h3 : i < j
      · have h4 : ¬ j = i := by omega
        simp [h4]
      · simp [h3]
    · have e1 : decide (j = b ∧ i < a + 1) = decide (j = b ∧ i < a) := by rw [decide_eq_decide]; omega
      have e2 : decide (i = b ∧ j < a + 1) = decide (i = b ∧ j < a) := by rw [decide_eq_decide]; omega
      rw [e1, e2]
theorem grS_yes {p : Nat → Nat → Bool} {n b a j : Nat} (hp : p a b = true) (hab : a < b) (hb : b < n) : grS p n b (a + 1) j = addN (grS p n b a) a b j := by
  apply Nat.eq_of_testBit_eq
  intro i
  have hx : ∀ t k : Nat, (t ^^^ 2 ^ k).testBit i = (t.testBit i ^^ decide (k = i)) := fun t k => by rw [Nat.testBit_xor, Nat.testBit_two_pow]
  unfold addN
  by_cases h1 : j = a
  · subst h1
    rw [if_pos rfl, hx]
    unfold grS
    rw [bmK_bit, bmK_bit]
    by_cases h2 : b = i
    · subst h2
      simp [stB, hp, hab, hb, show ¬ b < j by omega]
    · have : stB p b (j + 1) j i = stB p b j j i := by
        unfold stB
        have e1 : decide (j = b ∧ i < j + 1) = decide (j = b ∧ i < j) := by rw [decide_eq_decide]; omega
        have e2 : decide (i = b ∧ j < j + 1) = decide (i = b ∧ j < j) := by rw [decide_eq_decide]; omega
        rw [e1, e2]
      rw [this]; simp [h2]
  · rw [if_neg h1]
    by_cases h2 : j = b
    · subst h2
      rw [if_pos rfl, hx]
      unfold grS
      rw [bmK_bit, bmK_bit]
      by_cases h3 : a = i
      · subst h3
        simp [stB, hp, hab, show a < n by omega, show ¬ j < a by omega]
      · have : stB p j (a + 1) j i = stB p j a j i := by
          unfold stB
          have e1 : decide (j = j ∧ i < a + 1) = decide (j = j ∧ i < a) := by rw [decide_eq_decide]; omega
          have e2 : decide (i = j ∧ j < a + 1) = decide (i = j ∧ j < a) := by rw [decide_eq_decide]; omega
          rw [e1, e2]
        rw [this]; simp [h3]
    · rw [if_neg h2]
      unfold grS
      rw [bmK_bit, bmK_bit]
      congr 1
      unfold stB
      have e1 : decide (j = b ∧ i < a + 1) = decide (j = b ∧ i < a) := by rw [decide_eq_decide]; omega
      have e2 : decide (i = b ∧ j < a + 1) = decide (i = b ∧ j < a) := by rw [decide_eq_decide]; omega
      rw [e1, e2]
end Go.Proofs.Ytncjfgebolikoaa
