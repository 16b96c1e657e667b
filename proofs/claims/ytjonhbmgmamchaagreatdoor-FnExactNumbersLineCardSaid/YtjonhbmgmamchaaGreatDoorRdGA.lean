/-
  Several texts in one: words for memory, plain laws and contracts that the later texts lean on.
-/
import Derived.WalkKit
import Derived.WalkSpells
import Derived.WalkLawsBesides
import Derived.Lib.Hide
import Derived.Deep.OwnRows
import Derived.Deep.AppendLies
import Derived.Deep.RegionHeld3
import Derived.Test.YtjonhbmgmamchaaGreatDoorRows
import Derived.Deep.QuietTactic
import Derived.BigQuiet
import Derived.Deep.DeepCutAuto
import Derived.Deep.RegionWith
import Derived.Outline
/-
  Small words for memory and for bits, over no program: a slice that reads as so many numbers, what lies below a block, bits of numbers that are not negative.
-/
namespace Go.Proofs.YtjonhbmgmamchaaGreatDoor
open Go.RowKit

theorem ret_bool {a b : Bool} (h : a = b) : Ending.returned (.bool a) = .returned (.bool b) := by rw [h]
theorem ret_int {k : IntKind} {a b : Int} (h : a = b) : Ending.returned (.int k a) = .returned (.int k b) := by rw [h]

theorem bcell {B : Nat} {W w1 : World} (hb : Below B W w1) : (∀ b o, b < B → w1.cell? ⟨b, o, none⟩ = W.cell? ⟨b, o, none⟩) ∧ (∀ b o, b < B → w1.frozen? ⟨b, o, none⟩ = W.frozen? ⟨b, o, none⟩) :=
  ⟨fun b o h => hb.cell (p := ⟨b, o, none⟩) h, fun b o h => hb.frozen (p := ⟨b, o, none⟩) h⟩

/-- The slice value '.slice A n c' reads as the numbers x 0, .., x (n - 1), in blocks below B. -/
def Rd (w : World) (B : Nat) (A : Option Addr) (n c : Nat) (x : Nat → Int) : Prop :=
  n ≤ c ∧ (0 < n → ∃ b o, A = some ⟨b, o, none⟩ ∧ b < B ∧ ∀ k, k < n → w.cell? ⟨b, o + k, none⟩ = some (.int .i64 (x k)))

theorem Rd.le {w : World} {B : Nat} {A : Option Addr} {n c : Nat} {x : Nat → Int} (h : Rd w B A n c x) : n ≤ c := h.1
theorem Rd.pos {w : World} {B : Nat} {A : Option Addr} {n c : Nat} {x : Nat → Int} (h : Rd w B A n c x) (hn : 0 < n) :
    ∃ b o, A = some ⟨b, o, none⟩ ∧ b < B ∧ ∀ k, k < n → w.cell? ⟨b, o + k, none⟩ = some (.int .i64 (x k)) := h.2 hn
theorem Rd.keep {w w' : World} {B B' : Nat} {A : Option Addr} {n c : Nat} {x : Nat → Int} (h : Rd w B A n c x) (hb : Below B w w') (hB : B ≤ B') : Rd w' B' A n c x := by
  refine ⟨h.1, fun hn => ?_⟩
  obtain ⟨b, o, e, hlt, hc⟩ := h.2 hn
  exact ⟨b, o, e, by omega, fun k hk => (hb.cell (p := ⟨b, o + k, none⟩) hlt).trans (hc k hk)⟩
theorem Rd.nil (w : World) (B : Nat) (A : Option Addr) (c : Nat) (x : Nat → Int) : Rd w B A 0 c x := ⟨Nat.zero_le _, fun h => absurd h (by omega)⟩
theorem Rd.congr {w : World} {B : Nat} {A : Option Addr} {n c : Nat} {x y : Nat → Int} (h : Rd w B A n c x) (he : ∀ k, k < n → x k = y k) : Rd w B A n c y :=
  ⟨h.1, fun hn => by
    obtain ⟨b, o, e, hlt, hc⟩ := h.2 hn
    exact ⟨b, o, e, hlt, fun k hk => by rw [← he k hk]; exact hc k hk⟩⟩

/-! ### bits -/
theorem ofInt_i64 (a : Nat) (ha : a < 9223372036854775808) : (BitVec.ofInt 64 (a : Int)).toNat = a := by
  rw [BitVec.ofInt_natCast, BitVec.toNat_ofNat]; exact Nat.mod_eq_of_lt (by omega)
theorem i64_and_nat (a b : Nat) (ha : a < 9223372036854775808) (hb : b < 9223372036854775808) : bits .and .i64 (a : Int) (b : Int) = ((a &&& b : Nat) : Int) := by
  have hx : a &&& b < 2 ^ 63 := Nat.and_lt_two_pow _ (by omega)
  show IntKind.i64.wrap ((BitVec.ofInt 64 (a : Int) &&& BitVec.ofInt 64 (b : Int)).toNat : Int) = _
  rw [BitVec.toNat_and, ofInt_i64 a ha, ofInt_i64 b hb, IntKind.wrap_i64]
  omega
theorem i64_or_nat (a b : Nat) (ha : a < 9223372036854775808) (hb : b < 9223372036854775808) : bits .or .i64 (a : Int) (b : Int) = ((a ||| b : Nat) : Int) := by
  have hx : a ||| b < 2 ^ 63 := Nat.or_lt_two_pow (by omega) (by omega)
  show IntKind.i64.wrap ((BitVec.ofInt 64 (a : Int) ||| BitVec.ofInt 64 (b : Int)).toNat : Int) = _
  rw [BitVec.toNat_or, ofInt_i64 a ha, ofInt_i64 b hb, IntKind.wrap_i64]
  omega
theorem i64_xor_nat (a b : Nat) (ha : a < 9223372036854775808) (hb : b < 9223372036854775808) : bits .xor .i64 (a : Int) (b : Int) = ((a ^^^ b : Nat) : Int) := by
  have hx : a ^^^ b < 2 ^ 63 := Nat.xor_lt_two_pow (by omega) (by omega)
  show IntKind.i64.wrap ((BitVec.ofInt 64 (a : Int) ^^^ BitVec.ofInt 64 (b : Int)).toNat : Int) = _
  rw [BitVec.toNat_xor, ofInt_i64 a ha, ofInt_i64 b hb, IntKind.wrap_i64]
  omega
theorem and_one_i64 (s : Int) (v : Nat) (h0 : 0 ≤ s) (h1 : s < 16777216) : (bits .and .i64 (s / 2 ^ v) 1 == 1) = s.toNat.testBit v := by
  obtain ⟨a, rfl⟩ := Int.eq_ofNat_of_zero_le h0
  have e : ((a : Int) / 2 ^ v) = ((a / 2 ^ v : Nat) : Int) := by simp
  have hlt : a / 2 ^ v < 9223372036854775808 := by
    have : a / 2 ^ v ≤ a := Nat.div_le_self _ _
    omega
  have hb := i64_and_nat (a / 2 ^ v) 1 hlt (by omega)
  rw [e]
  show (bits .and .i64 ((a / 2 ^ v : Nat) : Int) ((1 : Nat) : Int) == 1) = _
  rw [hb, Int.toNat_natCast, Nat.testBit_eq_decide_div_mod_eq, Nat.and_one_is_mod]
  rw [Bool.eq_iff_iff]
  simp
  omega
theorem and_one_i64' (s : Int) (v : Nat) (h0 : 0 ≤ s) (h1 : s < 16777216) : (bits .and .i64 (s / 2 ^ v) 1 == 0) = !s.toNat.testBit v := by
  obtain ⟨a, rfl⟩ := Int.eq_ofNat_of_zero_le h0
  have e : ((a : Int) / 2 ^ v) = ((a / 2 ^ v : Nat) : Int) := by simp
  have hlt : a / 2 ^ v < 9223372036854775808 := by
    have : a / 2 ^ v ≤ a := Nat.div_le_self _ _
    omega
  have hb := i64_and_nat (a / 2 ^ v) 1 hlt (by omega)
  rw [e]
  show (bits .and .i64 ((a / 2 ^ v : Nat) : Int) ((1 : Nat) : Int) == 0) = _
  rw [hb, Int.toNat_natCast, Nat.testBit_eq_decide_div_mod_eq, Nat.and_one_is_mod]
  rw [Bool.eq_iff_iff]
  simp
  omega
end Go.Proofs.YtjonhbmgmamchaaGreatDoor

/-
  The operations on bits of an int, where both numbers are small and not negative; over no program.
-/
namespace Go.Proofs.YtjonhbmgmamchaaGreatDoor
open Go.RowKit

theorem up {B b o : Nat} {W w1 : World} {v : Value} (hb : Below B W w1) (e : W.cell? ⟨b, o, none⟩ = some v) (h : b < B) : w1.cell? ⟨b, o, none⟩ = some v := (hb.cell (p := ⟨b, o, none⟩) h).trans e
theorem upf {B b o : Nat} {W w1 : World} {v : Bool} (hb : Below B W w1) (e : W.frozen? ⟨b, o, none⟩ = v) (h : b < B) : w1.frozen? ⟨b, o, none⟩ = v := (hb.frozen (p := ⟨b, o, none⟩) h).trans e

theorem bv_andNot (x y : BitVec 64) : x &&& ~~~y = x ^^^ (x &&& y) := by
  apply BitVec.eq_of_getLsbD_eq
  intro i hi
  simp only [BitVec.getLsbD_and, BitVec.getLsbD_not, BitVec.getLsbD_xor, hi, decide_true, Bool.true_and]
  cases x.getLsbD i <;> cases y.getLsbD i <;> rfl
theorem i64_andNot_nat (a b : Nat) (ha : a < 9223372036854775808) (hb : b < 9223372036854775808) : bits .andNot .i64 (a : Int) (b : Int) = ((a ^^^ (a &&& b) : Nat) : Int) := by
  have hx : a ^^^ (a &&& b) < 2 ^ 63 := Nat.xor_lt_two_pow (by omega) (Nat.and_lt_two_pow _ (by omega))
  show IntKind.i64.wrap ((BitVec.ofInt 64 (a : Int) &&& ~~~(BitVec.ofInt 64 (b : Int))).toNat : Int) = _
  rw [bv_andNot, BitVec.toNat_xor, BitVec.toNat_and, ofInt_i64 a ha, ofInt_i64 b hb, IntKind.wrap_i64]
  omega
theorem i64_andNot (x y : Int) (h0 : 0 ≤ x) (h1 : x < 16777216) (h2 : 0 ≤ y) (h3 : y < 16777216) : bits .andNot .i64 x y = ((x.toNat ^^^ (x.toNat &&& y.toNat) : Nat) : Int) := by
  obtain ⟨a, rfl⟩ := Int.eq_ofNat_of_zero_le h0
  obtain ⟨b, rfl⟩ := Int.eq_ofNat_of_zero_le h2
  exact i64_andNot_nat a b (by omega) (by omega)
end Go.Proofs.YtjonhbmgmamchaaGreatDoor

/-
  Graphs of at most seven vertices as plain functions: no program in sight.
-/
namespace Go.Proofs.YtjonhbmgmamchaaGreatDoor

/-- A valid graph of n vertices: r v is the set of the neighbours of v. -/
structure VG (n : Nat) (r : Nat → Nat) : Prop where
  n1 : 1 ≤ n
  n7 : n ≤ 7
  lt : ∀ v, v < n → r v < 2 ^ n
  irr : ∀ v, v < n → (r v).testBit v = false
  sym : ∀ v w, v < n → w < n → (r v).testBit w = (r w).testBit v

/-- Size and rows as they come in: they are those of a valid graph. -/
def OkG (sz : Int) (m : Nat) (x : Nat → Int) : Prop := ∃ (r : Nat → Nat), sz = (m : Int) ∧ VG m r ∧ ∀ v, v < m → x v = (r v : Int)

theorem two_pow_le {n : Nat} (h : n ≤ 7) : 2 ^ n ≤ 128 := by
  have : (2 : Nat) ^ n ≤ 2 ^ 7 := Nat.pow_le_pow_right (by omega) h
  omega
theorem VG.lt128 {n : Nat} {r : Nat → Nat} (h : VG n r) {v : Nat} (hv : v < n) : r v < 128 := Nat.lt_of_lt_of_le (h.lt v hv) (two_pow_le h.n7)
theorem VG.congr {n : Nat} {r s : Nat → Nat} (h : VG n r) (e : ∀ v, v < n → r v = s v) : VG n s :=
  ⟨h.n1, h.n7, fun v hv => by rw [← e v hv]; exact h.lt v hv, fun v hv => by rw [← e v hv]; exact h.irr v hv, fun v w hv hw => by rw [← e v hv, ← e w hw]; exact h.sym v w hv hw⟩

/-- Where size and length agree and each row is a set of vertices without its own, only the symmetry is left. -/
theorem OkG.mk {n : Nat} {x : Nat → Int} (h1 : 1 ≤ n) (h7 : n ≤ 7) (hr : ∀ v, v < n → 0 ≤ x v ∧ x v < 2 ^ n ∧ (x v).toNat.testBit v = false)
    (hs : ∀ v w, v < n → w < v → (x v).toNat.testBit w = (x w).toNat.testBit v) : OkG n n x := by
  refine ⟨fun v => (x v).toNat, rfl, ⟨h1, h7, fun v hv => ?_, fun v hv => (hr v hv).2.2, fun v w hv hw => ?_⟩, fun v hv => ?_⟩
  · have := hr v hv
    have h2 : ((2 ^ n : Nat) : Int) = 2 ^ n := by simp
    omega
  · rcases Nat.lt_trichotomy v w with h | h | h
    · exact (hs w v hw h).symm
    · subst h; rfl
    · exact hs v w hv h
  · have := hr v hv
    show x v = ((x v).toNat : Int)
    omega
theorem OkG.rows {n : Nat} {x : Nat → Int} (h : OkG n n x) : ∀ v, v < n → 0 ≤ x v ∧ x v < 2 ^ n ∧ (x v).toNat.testBit v = false := by
  obtain ⟨r, _, hg, hx⟩ := h
  intro v hv
  rw [hx v hv]
  have h2 : ((2 ^ n : Nat) : Int) = 2 ^ n := by simp
  have := hg.lt v hv
  exact ⟨by omega, by omega, by rw [Int.toNat_natCast]; exact hg.irr v hv⟩
theorem OkG.sym {n : Nat} {x : Nat → Int} (h : OkG n n x) : ∀ v w, v < n → w < n → (x v).toNat.testBit w = (x w).toNat.testBit v := by
  obtain ⟨r, _, hg, hx⟩ := h
  intro v w hv hw
  rw [hx v hv, hx w hw, Int.toNat_natCast, Int.toNat_natCast]
  exact hg.sym v w hv hw
/-- The test's answer. -/
noncomputable def okB (sz : Int) (m : Nat) (x : Nat → Int) : Bool := @decide (OkG sz m x) (Classical.propDecidable _)
theorem okB_yes {sz : Int} {m : Nat} {x : Nat → Int} (h : OkG sz m x) : okB sz m x = true := @decide_eq_true _ (Classical.propDecidable _) h
theorem okB_no {sz : Int} {m : Nat} {x : Nat → Int} (h : ¬ OkG sz m x) : okB sz m x = false := @decide_eq_false _ (Classical.propDecidable _) h
end Go.Proofs.YtjonhbmgmamchaaGreatDoor

/-
  Plain: a graph and one edge more.
-/
namespace Go.Proofs.YtjonhbmgmamchaaGreatDoor

theorem add_pow_bit {a u : Nat} (h : a.testBit u = false) : a + 2 ^ u = a ^^^ 2 ^ u := by
  have h1 : a &&& 2 ^ u = 0 := by
    apply Nat.eq_of_testBit_eq
    intro i
    rw [Nat.testBit_and, Nat.testBit_two_pow, Nat.zero_testBit]
    by_cases hi : u = i
    · subst hi; simp [h]
    · simp [hi]
  have h2 := Nat.two_pow_pos u
  have h3 : a + 2 ^ u = a ||| 2 ^ u := by
    have hl : 2 ^ u < 2 ^ (u + 1) := Nat.pow_lt_pow_right (by omega) (by omega)
    apply Nat.eq_of_testBit_eq
    intro i
    rw [Nat.testBit_or]
    rw [Nat.testBit_two_pow]
    by_cases hi : i = u
    · subst hi
      rw [Nat.add_comm, Nat.testBit_two_pow_add_eq, h]; simp
    · by_cases hlt : i < u
      · rw [Nat.add_comm, Nat.testBit_two_pow_add_gt hlt]
        have : ¬ u = i := by omega
        simp [this]
      · have hgt : u < i := by omega
        have e : a = 2 ^ u * (a / 2 ^ u) + a % 2 ^ u := (Nat.div_add_mod a (2 ^ u)).symm
        have hb : (a / 2 ^ u) % 2 = 0 := by
          have := h
          rw [Nat.testBit_eq_decide_div_mod_eq] at this
          have h5 := of_decide_eq_false this
          omega
        have hq : (a + 2 ^ u) / 2 ^ u = a / 2 ^ u + 1 := Nat.add_div_right _ h2
        have hne : ¬ u = i := by omega
        simp only [hne, decide_false, Bool.or_false]
        obtain ⟨k, rfl⟩ : ∃ k, i = u + (k + 1) := ⟨i - u - 1, by omega⟩
        rw [Nat.testBit_eq_decide_div_mod_eq, Nat.testBit_eq_decide_div_mod_eq]
        rw [Nat.pow_add, ← Nat.div_div_eq_div_mul, ← Nat.div_div_eq_div_mul, hq, Nat.pow_succ, Nat.mul_comm (2 ^ k) 2, ← Nat.div_div_eq_div_mul, ← Nat.div_div_eq_div_mul]
        have : (a / 2 ^ u + 1) / 2 = a / 2 ^ u / 2 := by omega
        rw [this]
  rw [h3]
  apply Nat.eq_of_testBit_eq
  intro i
  rw [Nat.testBit_or, Nat.testBit_xor, Nat.testBit_two_pow]
  by_cases hi : u = i
  · subst hi; simp [h]
  · simp [hi]

/-- Rows with one edge more. -/
def addN (r : Nat → Nat) (v u : Nat) : Nat → Nat := fun i => if i = v then r i ^^^ 2 ^ u else if i = u then r i ^^^ 2 ^ v else r i
theorem VG.add {n : Nat} {r : Nat → Nat} (h : VG n r) {v u : Nat} (hv : v < n) (hu : u < n) (hne : v ≠ u) : VG n (addN r v u) := by
  have bit : ∀ a i j : Nat, (a ^^^ 2 ^ i).testBit j = (a.testBit j ^^ decide (j = i)) := fun a i j => by rw [Nat.testBit_xor, Nat.testBit_two_pow]; congr 1; exact decide_eq_decide.2 eq_comm
  refine ⟨h.n1, h.n7, fun i hi => ?_, fun i hi => ?_, fun i j hi hj => ?_⟩
  · have hp : ∀ k, k < n → 2 ^ k < 2 ^ n := fun k hk => Nat.pow_lt_pow_right (by omega) hk
    unfold addN
    split
    · exact Nat.xor_lt_two_pow (h.lt i hi) (hp u hu)
    · split
      · exact Nat.xor_lt_two_pow (h.lt i hi) (hp v hv)
      · exact h.lt i hi
  · have hirr := h.irr i hi
    unfold addN
    split
    · rename_i e; subst e; rw [bit, hirr]; simp [hne]
    · split
      · rename_i e; subst e; rw [bit, hirr]; have : ¬ i = v := fun e => hne e.symm
        simp [this]
      · exact hirr
  · have hs := h.sym i j hi hj
    unfold addN
    have hne' : ¬ u = v := fun e => hne e.symm
    by_cases h1 : i = v <;> by_cases h2 : i = u <;> by_cases h3 : j = v <;> by_cases h4 : j = u <;> simp only [h1, h2, h3, h4, if_true, if_false, bit] <;> simp_all
end Go.Proofs.YtjonhbmgmamchaaGreatDoor

/-
  Plain: sets of at most seven vertices as numbers; cliques; the elimination of simplicial vertices.
-/
namespace Go.Proofs.YtjonhbmgmamchaaGreatDoor

/-- The members of s below k, in order. -/
def listK (s k : Nat) : List Nat := (List.range k).filter fun v => s.testBit v
def listN (s : Nat) : List Nat := listK s 7
theorem listK_yes {s k : Nat} (h : s.testBit k = true) : listK s (k + 1) = listK s k ++ [k] := by
  unfold listK; rw [List.range_succ, List.filter_append]; simp [h]
theorem listK_no {s k : Nat} (h : s.testBit k = false) : listK s (k + 1) = listK s k := by
  unfold listK; rw [List.range_succ, List.filter_append]; simp [h]
theorem listK_len (s k : Nat) : (listK s k).length ≤ k := by
  unfold listK; have := List.length_filter_le (fun v => s.testBit v) (List.range k); simpa using this
theorem mem_listK {s k v : Nat} : v ∈ listK s k ↔ v < k ∧ s.testBit v = true := by unfold listK; simp
theorem mem_listN {s v : Nat} : v ∈ listN s ↔ v < 7 ∧ s.testBit v = true := mem_listK
theorem listN_len (s : Nat) : (listN s).length ≤ 7 := listK_len s 7
theorem listN_at {s j : Nat} (h : j < (listN s).length) : (listN s)[j] < 7 ∧ s.testBit (listN s)[j] = true := mem_listN.1 (List.getElem_mem h)

theorem bit_lt {s n v : Nat} (h : s < 2 ^ n) (hb : s.testBit v = true) : v < n := by
  refine Classical.byContradiction fun hv => ?_
  have := Nat.testBit_lt_two_pow (Nat.lt_of_lt_of_le h (Nat.pow_le_pow_right (by omega) (by omega : n ≤ v)))
  rw [this] at hb; cases hb
theorem bit_ge {s v : Nat} (hb : s.testBit v = true) : 2 ^ v ≤ s := Nat.ge_two_pow_of_testBit hb
theorem ex_bit {s : Nat} (h : s ≠ 0) : ∃ v, s.testBit v = true := Nat.exists_testBit_of_ne_zero h

theorem xor_sub_table : ∀ s, s < 128 → ∀ a, a < 128 → (s ^^^ (s &&& a)) + (s &&& a) = s := by decide +kernel
theorem and_low {s a : Nat} (hs : s < 128) : s &&& a = s &&& (a % 128) := by
  apply Nat.eq_of_testBit_eq
  intro i
  rw [Nat.testBit_and, Nat.testBit_and, show (128 : Nat) = 2 ^ 7 from rfl, Nat.testBit_mod_two_pow]
  by_cases hi : i < 7
  · simp [hi]
  · have : s.testBit i = false := Nat.testBit_lt_two_pow (Nat.lt_of_lt_of_le hs (by have : 2 ^ 7 ≤ 2 ^ i := Nat.pow_le_pow_right (by omega) (by omega); omega))
    simp [this]
theorem xor_sub {s : Nat} (hs : s < 128) (a : Nat) : (s ^^^ (s &&& a)) + (s &&& a) = s := by
  rw [and_low hs]; exact xor_sub_table s hs _ (Nat.mod_lt _ (by omega))
theorem and_le {s : Nat} (a : Nat) : s &&& a ≤ s := Nat.and_le_left
theorem xor_bit {s v : Nat} (h : s.testBit v = true) : s ^^^ (s &&& 2 ^ v) = s ^^^ 2 ^ v ∧ (s ^^^ 2 ^ v) + 2 ^ v = s := by
  have e : s &&& 2 ^ v = 2 ^ v := by
    apply Nat.eq_of_testBit_eq
    intro i
    rw [Nat.testBit_and, Nat.testBit_two_pow]
    by_cases hi : v = i
    · subst hi; simp [h]
    · simp [hi]
  refine ⟨by rw [e], ?_⟩
  have hx : (s ^^^ 2 ^ v).testBit v = false := by rw [Nat.testBit_xor, h, Nat.testBit_two_pow]; simp
  rw [add_pow_bit hx, Nat.xor_assoc, Nat.xor_self, Nat.xor_zero]
theorem xor_bit_lt {s v : Nat} (h : s.testBit v = true) : s ^^^ 2 ^ v < s := by have := (xor_bit h).2; have := Nat.two_pow_pos v; omega

/-- Any two members are neighbours. -/
def cliq (r : Nat → Nat) (s : Nat) : Bool := (listN s).all fun v => s ^^^ (s &&& r v) == 2 ^ v
theorem cliq_no {r : Nat → Nat} {s v : Nat} (h : v < 7) (hb : s.testBit v = true) (hn : s ^^^ (s &&& r v) ≠ 2 ^ v) : cliq r s = false := by
  cases hc : cliq r s
  · rfl
  · unfold cliq at hc
    rw [List.all_eq_true] at hc
    have := hc v (mem_listN.2 ⟨h, hb⟩)
    exact absurd (by simpa using this) hn
theorem cliq_yes {r : Nat → Nat} {s : Nat} (h : ∀ v, v < 7 → s.testBit v = true → s ^^^ (s &&& r v) = 2 ^ v) : cliq r s = true := by
  unfold cliq
  rw [List.all_eq_true]
  intro v hv
  have := mem_listN.1 hv
  simpa using h v this.1 this.2
/-- The reference's own test of one member says the same. -/
theorem clash {r : Nat → Nat} {s v : Nat} (hs : s < 128) (hb : s.testBit v = true) : (r v &&& s = s - 2 ^ v) ↔ (s ^^^ (s &&& r v) = 2 ^ v) := by
  have h1 := xor_sub hs (r v)
  have h2 := bit_ge hb
  have h3 := and_le (s := s) (r v)
  rw [Nat.and_comm (r v) s]
  omega

end Go.Proofs.YtjonhbmgmamchaaGreatDoor

/-
  Plain: the parts of a set of vertices; a witness against toughness.
-/
namespace Go.Proofs.YtjonhbmgmamchaaGreatDoor

/-- The neighbours of a set's members below k. -/
def nbK (r : Nat → Nat) (s : Nat) : Nat → Nat
  | 0 => 0
  | k + 1 => if s.testBit k = true then nbK r s k ||| r k else nbK r s k
def nb (r : Nat → Nat) (s : Nat) : Nat := nbK r s 7
theorem nbK_yes {r : Nat → Nat} {s k : Nat} (h : s.testBit k = true) : nbK r s (k + 1) = nbK r s k ||| r k := by rw [nbK, if_pos h]
theorem nbK_no {r : Nat → Nat} {s k : Nat} (h : s.testBit k = false) : nbK r s (k + 1) = nbK r s k := by rw [nbK, if_neg (by simp [h])]
theorem nbK_bit {r : Nat → Nat} {s k u : Nat} : (nbK r s k).testBit u = true ↔ ∃ v, v < k ∧ s.testBit v = true ∧ (r v).testBit u = true := by
  induction k with
  | zero => simp [nbK]
  | succ k ih =>
    cases h : s.testBit k
    · rw [nbK_no h, ih]
      exact ⟨fun ⟨v, h1, h2⟩ => ⟨v, by omega, h2⟩, fun ⟨v, h1, h2, h3⟩ => by
        by_cases hv : v = k
        · subst hv; rw [h] at h2; cases h2
        · exact ⟨v, by omega, h2, h3⟩⟩
    · rw [nbK_yes h, Nat.testBit_or, Bool.or_eq_true, ih]
      constructor
      · rintro (⟨v, h1, h2⟩ | h2)
        · exact ⟨v, by omega, h2⟩
        · exact ⟨k, by omega, h, h2⟩
      · rintro ⟨v, h1, h2, h3⟩
        by_cases hv : v = k
        · subst hv; exact .inr h3
        · exact .inl ⟨v, by omega, h2, h3⟩
theorem nb_bit {r : Nat → Nat} {s u : Nat} : (nb r s).testBit u = true ↔ ∃ v, v < 7 ∧ s.testBit v = true ∧ (r v).testBit u = true := nbK_bit
/-- As the list of the members goes. -/
theorem nb_list {r : Nat → Nat} {s : Nat} : ∀ k, (listK s k).foldl (fun a v => a ||| r v) 0 = nbK r s k := by
  intro k
  induction k with
  | zero => rfl
  | succ k ih =>
    cases h : s.testBit k
    · rw [listK_no h, nbK_no h, ih]
    · rw [listK_yes h, nbK_yes h, List.foldl_append, ih]; rfl
theorem nb_lt {r : Nat → Nat} {s n : Nat} (hr : ∀ v, v < n → r v < 2 ^ n) (hs : s < 2 ^ n) : ∀ k, nbK r s k < 2 ^ n := by
  intro k
  induction k with
  | zero => exact Nat.two_pow_pos n
  | succ k ih =>
    cases h : s.testBit k
    · rw [nbK_no h]; exact ih
    · rw [nbK_yes h]; exact Nat.or_lt_two_pow ih (hr k (bit_lt hs h))

/-- One step of growing within a set. -/
def stp (r : Nat → Nat) (set s : Nat) : Nat := (s ||| nb r s) &&& set
def gro (r : Nat → Nat) (set s : Nat) : Nat → Nat
  | 0 => s
  | k + 1 => stp r set (gro r set s k)
def Sub (s t : Nat) : Prop := ∀ v, s.testBit v = true → t.testBit v = true
theorem Sub.trans {a b c : Nat} (h : Sub a b) (k : Sub b c) : Sub a c := fun v hv => k v (h v hv)
theorem Sub.and {s t : Nat} (h : Sub s t) : s &&& t = s := by
  apply Nat.eq_of_testBit_eq
  intro i
  rw [Nat.testBit_and]
  cases hs : s.testBit i
  · simp
  · simp [h i hs]
theorem stp_bit {r : Nat → Nat} {set s u : Nat} : (stp r set s).testBit u = true ↔ (s.testBit u = true ∨ (nb r s).testBit u = true) ∧ set.testBit u = true := by
  unfold stp; rw [Nat.testBit_and, Nat.testBit_or]; simp
theorem stp_sub (r : Nat → Nat) (set s : Nat) : Sub (stp r set s) set := fun _u hu => (stp_bit.1 hu).2
theorem stp_grow {r : Nat → Nat} {set s : Nat} (h : Sub s set) : Sub s (stp r set s) := fun u hu => stp_bit.2 ⟨.inl hu, h u hu⟩
theorem gro_sub {r : Nat → Nat} {set s : Nat} (h : Sub s set) : ∀ k, Sub (gro r set s k) set := by
  intro k
  cases k with
  | zero => exact h
  | succ k => exact stp_sub _ _ _
theorem gro_grow {r : Nat → Nat} {set s : Nat} (h : Sub s set) (k : Nat) : Sub (gro r set s k) (gro r set s (k + 1)) := stp_grow (gro_sub h k)
theorem gro_from {r : Nat → Nat} {set s : Nat} (h : Sub s set) : ∀ k, Sub s (gro r set s k) := by
  intro k
  induction k with
  | zero => exact fun _ h => h
  | succ k ih => exact ih.trans (gro_grow h k)
theorem gro_fix {r : Nat → Nat} {set s k : Nat} (h : gro r set s (k + 1) = gro r set s k) : ∀ j, k ≤ j → gro r set s j = gro r set s k := by
  intro j hj
  induction j with
  | zero => obtain rfl : k = 0 := by omega
            rfl
  | succ j ih =>
    by_cases hk : k = j + 1
    · rw [hk]
    · have := ih (by omega)
      show stp r set (gro r set s j) = _
      rw [this]; exact h

/-- How many members. -/
def pc (s : Nat) : Nat := s % 2 + s / 2 % 2 + s / 4 % 2 + s / 8 % 2 + s / 16 % 2 + s / 32 % 2 + s / 64 % 2
theorem pc_table : ∀ s, s < 128 → ∀ t, t < 128 → s &&& t = s → s ≠ t → pc s < pc t := by decide +kernel
theorem pc_bound : ∀ n, n < 8 → ∀ s, s < 2 ^ n → pc s ≤ n := by decide +kernel
theorem pc_pos : ∀ s, s < 128 → s ≠ 0 → 0 < pc s := by decide +kernel
theorem sub_lt {s t n : Nat} (h : Sub s t) (ht : t < 2 ^ n) : s < 2 ^ n := by
  have := h.and
  rw [← this]
  exact Nat.lt_of_le_of_lt Nat.and_le_right ht
/-- As long as it grows it has k + 1 members at least. -/
theorem gro_pc {r : Nat → Nat} {set s n k : Nat} (hn : n ≤ 7) (hset : set < 2 ^ n) (h : Sub s set) (h0 : s ≠ 0) (hk : ∀ j, j < k → gro r set s (j + 1) ≠ gro r set s j) : k + 1 ≤ pc (gro r set s k) := by
  have h128 := two_pow_le hn
  induction k with
  | zero => exact pc_pos s (by have := sub_lt h hset; omega) h0
  | succ k ih =>
    have h1 := ih (fun j hj => hk j (by omega))
    have h2 := gro_grow (r := r) h k
    have := pc_table _ (by have := sub_lt (gro_sub (r := r) h k) hset; omega) _ (by have := sub_lt (gro_sub (r := r) h (k + 1)) hset; omega) h2.and (fun e => hk k (by omega) e.symm)
    omega
theorem gro_le {r : Nat → Nat} {set s n k : Nat} (hn : n ≤ 7) (hset : set < 2 ^ n) (h : Sub s set) (h0 : s ≠ 0) (hk : ∀ j, j < k → gro r set s (j + 1) ≠ gro r set s j) : k + 1 ≤ n := by
  have h1 := gro_pc (r := r) hn hset h h0 hk
  have h2 := pc_bound n (by omega) _ (sub_lt (gro_sub (r := r) h k) hset)
  omega
/-- After n steps nothing grows. -/
theorem gro_stop {r : Nat → Nat} {set s n : Nat} (hn : n ≤ 7) (hset : set < 2 ^ n) (h : Sub s set) (h0 : s ≠ 0) : gro r set s (n + 1) = gro r set s n := by
  refine Classical.byContradiction fun hne => ?_
  have : ∀ j, j < n + 1 → gro r set s (j + 1) ≠ gro r set s j := by
    intro j hj e
    have := gro_fix e
    exact hne ((this (n + 1) (by omega)).trans (this n (by omega)).symm)
  have := gro_le (r := r) hn hset h h0 this
  omega
/-- The part of a set that holds a vertex. -/
def part (r : Nat → Nat) (set s : Nat) : Nat := gro r set s 7
theorem gro_part {r : Nat → Nat} {set s n : Nat} (hn : n ≤ 7) (hset : set < 2 ^ n) (h : Sub s set) (h0 : s ≠ 0) : gro r set s n = part r set s :=
  (gro_fix (gro_stop (r := r) hn hset h h0) 7 hn).symm
/-- The least member, as a set. -/
def low (s : Nat) : Nat := match (listN s) with | [] => 0 | v :: _ => 2 ^ v
theorem low_of {s v : Nat} {l : List Nat} (h : listN s = v :: l) : low s = 2 ^ v := by unfold low; rw [h]
theorem list_ne {s : Nat} (hs : s < 128) (h : s ≠ 0) : ∃ v l, listN s = v :: l ∧ v < 7 ∧ s.testBit v = true := by
  obtain ⟨v, hv⟩ := ex_bit h
  have hm : v ∈ listN s := mem_listN.2 ⟨bit_lt (n := 7) hs hv, hv⟩
  match hl : listN s, hm with
  | u :: l, _ =>
    have := mem_listN.1 (by rw [hl]; exact List.mem_cons_self : u ∈ listN s)
    exact ⟨u, l, rfl, this.1, this.2⟩
theorem low_sub {s : Nat} (hs : s < 128) (h : s ≠ 0) : Sub (low s) s ∧ low s ≠ 0 := by
  obtain ⟨v, l, hl, hv7, hv⟩ := list_ne hs h
  rw [low_of hl]
  refine ⟨fun u hu => ?_, by have := Nat.two_pow_pos v; omega⟩
  rw [Nat.testBit_two_pow] at hu
  have : v = u := by simpa using hu
  rw [← this]; exact hv
theorem part_sub {r : Nat → Nat} {set : Nat} (hs : set < 128) (h : set ≠ 0) : Sub (part r set (low set)) set ∧ part r set (low set) ≠ 0 := by
  obtain ⟨h1, h2⟩ := low_sub hs h
  refine ⟨gro_sub h1 7, fun e => ?_⟩
  have h3 := gro_from (r := r) h1 7
  obtain ⟨v, hv⟩ := ex_bit h2
  have := h3 v hv
  unfold part at e
  rw [e] at this
  simp at this
theorem xor_sub_lt {s t : Nat} (hs : s < 128) (h : Sub t s) (h0 : t ≠ 0) : s ^^^ t < s ∧ s ^^^ t = s - t := by
  have e := xor_sub hs t
  have e2 : s &&& t = t := by rw [Nat.and_comm]; exact h.and
  rw [e2] at e
  exact ⟨by omega, by omega⟩
/-- How many parts. -/
def np (r : Nat → Nat) (set : Nat) : Nat :=
  if h : set = 0 ∨ 128 ≤ set then 0
  else np r (set ^^^ part r set (low set)) + 1
termination_by set
decreasing_by
  have hs : set < 128 := by omega
  have h0 : set ≠ 0 := by omega
  exact (xor_sub_lt hs (part_sub hs h0).1 (part_sub hs h0).2).1
/-! ### growing within what is left -/
/-! ### the witness -/
theorem full_and {m s : Nat} (h : s < 2 ^ m) : (2 ^ m - 1) &&& s = s := by rw [Nat.and_comm, Nat.and_two_pow_sub_one_eq_mod]; exact Nat.mod_eq_of_lt h
theorem full_sub {m s : Nat} (hm : m ≤ 7) (h : s < 2 ^ m) : (2 ^ m - 1) ^^^ s = 2 ^ m - 1 - s := by
  have h128 := two_pow_le hm
  have := xor_sub (s := 2 ^ m - 1) (by omega) s
  rw [full_and h] at this
  omega
theorem full_lt {m s : Nat} (hm : m ≤ 7) (h : s < 2 ^ m) : (2 ^ m - 1) ^^^ s < 2 ^ m := by rw [full_sub hm h]; omega
theorem fold_lt {r : Nat → Nat} {n : Nat} : ∀ (l : List Nat) (a : Nat), a < 2 ^ n → (∀ v ∈ l, r v < 2 ^ n) → l.foldl (fun a v => a ||| r v) a < 2 ^ n := by
  intro l
  induction l with
  | nil => intro a ha _; exact ha
  | cons v l ih => intro a ha h; exact ih _ (Nat.or_lt_two_pow ha (h v List.mem_cons_self)) (fun u hu => h u (List.mem_cons_of_mem _ hu))
end Go.Proofs.YtjonhbmgmamchaaGreatDoor

/-
  Plain: the least set with fewest, the least set with most vertices for which something holds.
-/
namespace Go.Proofs.YtjonhbmgmamchaaGreatDoor

/-- How many vertices. -/
def cn (s : Nat) : Nat := (listN s).length
/-- The least one with most vertices among the sets below k. -/
def lgK (p : Nat → Bool) : Nat → Nat
  | 0 => 0
  | k + 1 => if (decide (cn (lgK p k) < cn k) && p k) = true then k else lgK p k
theorem lgK_yes {p : Nat → Bool} {k : Nat} (h : cn (lgK p k) < cn k) (hp : p k = true) : lgK p (k + 1) = k := by rw [lgK, if_pos]; simp [h, hp]
theorem lgK_no {p : Nat → Bool} {k : Nat} (h : ¬(cn (lgK p k) < cn k) ∨ p k = false) : lgK p (k + 1) = lgK p k := by
  rw [lgK, if_neg]
  rcases h with h | h <;> simp [h]
theorem lgK_one (p : Nat → Bool) : lgK p 1 = 0 := by
  show (if _ then _ else _) = _
  split <;> rfl
theorem lgK_lt {p : Nat → Bool} : ∀ k, 0 < k → lgK p k < k := by
  intro k
  induction k with
  | zero => intro h; omega
  | succ k ih =>
    intro _
    rw [lgK]
    split
    · omega
    · by_cases h : k = 0
      · subst h; exact Nat.lt_succ_self _
      · have := ih (by omega); omega
/-- The least one with fewest vertices among the sets below k. -/
def fwK (p : Nat → Bool) : Nat → Option Nat
  | 0 => none
  | k + 1 => if (((fwK p k).all fun b => decide (cn k < cn b)) && p k) = true then some k else fwK p k
def fwI (o : Option Nat) : Int := match o with | none => -1 | some b => (b : Int)
theorem fwK_yes {p : Nat → Bool} {k : Nat} (h : ∀ b, fwK p k = some b → cn k < cn b) (hp : p k = true) : fwK p (k + 1) = some k := by
  rw [fwK, if_pos]
  cases e : fwK p k with
  | none => simp [hp]
  | some b => simp [h b e, hp]
theorem fwK_no {p : Nat → Bool} {k : Nat} (h : (∃ b, fwK p k = some b ∧ ¬ cn k < cn b) ∨ p k = false) : fwK p (k + 1) = fwK p k := by
  rw [fwK, if_neg]
  rcases h with ⟨b, e, h⟩ | h
  · simp [e, h]
  · simp [h]
theorem fwK_lt {p : Nat → Bool} : ∀ k b, fwK p k = some b → b < k ∧ p b = true := by
  intro k
  induction k with
  | zero => intro b h; cases h
  | succ k ih =>
    intro b h
    rw [fwK] at h
    split at h
    · rename_i h2
      simp only [Bool.and_eq_true] at h2
      injection h with h
      subst h
      exact ⟨Nat.lt_succ_self _, h2.2⟩
    · have := ih b h
      exact ⟨by omega, this.2⟩
theorem fwK_some {p : Nat → Bool} : ∀ k s, s < k → p s = true → fwK p k ≠ none := by
  intro k
  induction k with
  | zero => intro s h; omega
  | succ k ih =>
    intro s hs hp
    rw [fwK]
    split
    · simp
    · rename_i h
      by_cases e : s = k
      · subst e
        cases ef : fwK p s with
        | none => rw [ef] at h; simp [hp] at h
        | some b => simp
      · exact ih s (by omega) hp
end Go.Proofs.YtjonhbmgmamchaaGreatDoor

/-
  Plain: the search for a way through all vertices.
-/
namespace Go.Proofs.YtjonhbmgmamchaaGreatDoor

def edg (r : Nat → Nat) (a b : Nat) : Bool := (r a).testBit b
/-- May v be set behind l? -/
def cnd (r : Nat → Nat) (closed : Bool) (l : List Nat) (v : Nat) : Bool := !l.contains v && (match l.getLast? with | none => !closed || v == 0 | some a => edg r a v)
def fin_ (r : Nat → Nat) (closed : Bool) (l : List Nat) : Bool := !closed || edg r (l.getLastD 0) (l.headD 0)
def sea (r : Nat → Nat) (m : Nat) (closed : Bool) : Nat → List Nat → Option (List Nat)
  | 0, l => if fin_ r closed l = true then some l else none
  | k + 1, l => (List.range m).findSome? fun v => if cnd r closed l v = true then sea r m closed k (l ++ [v]) else none
theorem sea_zero (r : Nat → Nat) (m : Nat) (closed : Bool) (l : List Nat) : sea r m closed 0 l = if fin_ r closed l = true then some l else none := rfl
theorem range_some {α : Type} {f : Nat → Option α} {m v : Nat} {a : α} (hv : v < m) (h : f v = some a) (hmin : ∀ u, u < v → f u = none) : (List.range m).findSome? f = some a := by
  have e : List.range m = List.range v ++ (v :: (List.range (m - v - 1)).map (v + 1 + ·)) := by
    have h1 : m = v + (1 + (m - v - 1)) := by omega
    conv => lhs; rw [h1, List.range_add, List.range_add]
    simp [List.range_succ, Nat.add_assoc, Function.comp_def]
  rw [e, List.findSome?_append]
  have : (List.range v).findSome? f = none := by
    rw [List.findSome?_eq_none_iff]
    intro u hu
    exact hmin u (List.mem_range.1 hu)
  rw [this]
  simp [h]
theorem range_none {α : Type} {f : Nat → Option α} {m : Nat} (h : ∀ u, u < m → f u = none) : (List.range m).findSome? f = none := by
  rw [List.findSome?_eq_none_iff]
  intro u hu
  exact h u (List.mem_range.1 hu)
/-- What the search does at one vertex. -/
def at_ (r : Nat → Nat) (m : Nat) (closed : Bool) (k : Nat) (l : List Nat) (v : Nat) : Option (List Nat) := if cnd r closed l v = true then sea r m closed k (l ++ [v]) else none
theorem at_no {r : Nat → Nat} {m k v : Nat} {closed : Bool} {l : List Nat} (h : cnd r closed l v = false) : at_ r m closed k l v = none := by unfold at_; rw [h]; rfl
theorem at_yes {r : Nat → Nat} {m k v : Nat} {closed : Bool} {l : List Nat} (h : cnd r closed l v = true) : at_ r m closed k l v = sea r m closed k (l ++ [v]) := by unfold at_; rw [h]; rfl
theorem sea_some {r : Nat → Nat} {m k v : Nat} {closed : Bool} {l o : List Nat} (hv : v < m) (h : at_ r m closed k l v = some o) (hmin : ∀ u, u < v → at_ r m closed k l u = none) : sea r m closed (k + 1) l = some o := range_some hv h hmin
theorem sea_none {r : Nat → Nat} {m k : Nat} {closed : Bool} {l : List Nat} (h : ∀ u, u < m → at_ r m closed k l u = none) : sea r m closed (k + 1) l = none := range_none h

/-- A way: different vertices, each the next one's neighbour. -/
def wayB (r : Nat → Nat) (l : List Nat) : Bool := !l.isEmpty && decide l.Nodup && (List.range (l.length - 1)).all fun i => edg r (l.getD i 0) (l.getD (i + 1) 0)
structure Way (r : Nat → Nat) (m : Nat) (closed : Bool) (l : List Nat) : Prop where
  lt : ∀ v ∈ l, v < m
  nodup : l.Nodup
  edge : ∀ i, i + 1 < l.length → edg r (l.getD i 0) (l.getD (i + 1) 0) = true
  head : closed = true → l ≠ [] → l.headD 0 = 0
theorem Way.nil (r : Nat → Nat) (m : Nat) (closed : Bool) : Way r m closed [] := ⟨(fun v h => by cases h), List.nodup_nil, (fun i h => by simp at h), (fun _ h => absurd rfl h)⟩
theorem last_getD {l : List Nat} {a : Nat} (h : l.getLast? = some a) : 0 < l.length ∧ l.getD (l.length - 1) 0 = a := by
  have hne : l ≠ [] := by rintro rfl; cases h
  have h1 : 0 < l.length := List.length_pos_iff.2 hne
  refine ⟨h1, ?_⟩
  rw [List.getLast?_eq_some_getLast hne] at h
  injection h with h
  rw [← h, List.getLast_eq_getElem]
  simp [List.getD, List.getElem?_eq_getElem (by omega : l.length - 1 < l.length)]
theorem getD_app {l : List Nat} {v i : Nat} : (l ++ [v]).getD i 0 = if i < l.length then l.getD i 0 else if i = l.length then v else 0 := by
  by_cases h : i < l.length
  · rw [if_pos h]; simp [List.getD, List.getElem?_append_left h]
  · rw [if_neg h]
    by_cases h2 : i = l.length
    · subst h2; simp [List.getD]
    · rw [if_neg h2]
      have : (l ++ [v])[i]? = none := List.getElem?_eq_none (by simp; omega)
      simp [List.getD, this]
theorem Way.snoc {r : Nat → Nat} {m v : Nat} {closed : Bool} {l : List Nat} (h : Way r m closed l) (hv : v < m) (hc : cnd r closed l v = true) : Way r m closed (l ++ [v]) := by
  unfold cnd at hc
  rw [Bool.and_eq_true] at hc
  obtain ⟨h1, h2⟩ := hc
  have hnm : v ∉ l := by simpa using h1
  refine ⟨fun u hu => ?_, ?_, fun i hi => ?_, fun hcl _ => ?_⟩
  · rw [List.mem_append, List.mem_singleton] at hu
    rcases hu with hu | rfl
    · exact h.lt u hu
    · exact hv
  · rw [List.nodup_append]
    exact ⟨h.nodup, by simp, fun a ha b hb e => by rw [List.mem_singleton] at hb; subst hb; subst e; exact hnm ha⟩
  · rw [List.length_append, List.length_singleton] at hi
    rw [getD_app, getD_app]
    by_cases hlt : i + 1 < l.length
    · rw [if_pos (by omega), if_pos hlt]; exact h.edge i hlt
    · have he : i + 1 = l.length := by omega
      rw [if_pos (by omega), if_neg hlt, if_pos he]
      cases hl : l.getLast? with
      | none => rw [List.getLast?_eq_none_iff] at hl; subst hl; simp at he
      | some a =>
        rw [hl] at h2
        have := (last_getD hl).2
        have e : i = l.length - 1 := by omega
        rw [e, this]; exact h2
  · cases l with
    | nil =>
      simp only [List.getLast?_nil, hcl] at h2
      simpa using h2
    | cons a l => simpa using h.head hcl (by simp)
/-- The test of a way behind a way. -/
theorem way_snoc {r : Nat → Nat} {m v : Nat} {closed : Bool} {l : List Nat} (h : Way r m closed l) (hn : v ∉ l) : wayB r (l ++ [v]) = (match l.getLast? with | none => true | some a => edg r a v) := by
  have hnd : (l ++ [v]).Nodup := by
    rw [List.nodup_append]
    exact ⟨h.nodup, by simp, fun a ha b hb e => by rw [List.mem_singleton] at hb; subst hb; subst e; exact hn ha⟩
  unfold wayB
  rw [decide_eq_true hnd]
  have he : (l ++ [v]).isEmpty = false := by cases l <;> rfl
  rw [he]
  simp only [Bool.not_false, Bool.true_and, List.length_append, List.length_singleton, Nat.add_sub_cancel]
  cases hl : l.getLast? with
  | none => rw [List.getLast?_eq_none_iff] at hl; subst hl; rfl
  | some a =>
    obtain ⟨hpos, ha⟩ := last_getD hl
    show _ = edg r a v
    cases hh : edg r a v
    · rw [List.all_eq_false]
      refine ⟨l.length - 1, by simp; omega, ?_⟩
      rw [getD_app, getD_app, if_pos (by omega), if_neg (by omega), if_pos (by omega), ha, hh]
      simp
    · rw [List.all_eq_true]
      intro i hi
      have hi := List.mem_range.1 hi
      rw [getD_app, getD_app, if_pos hi]
      by_cases hlt : i + 1 < l.length
      · rw [if_pos hlt]; exact h.edge i hlt
      · rw [if_neg hlt, if_pos (by omega)]
        have e : i = l.length - 1 := by omega
        rw [e, ha, hh]
theorem cnd_in {r : Nat → Nat} {closed : Bool} {l : List Nat} {v : Nat} (h : v ∈ l) : cnd r closed l v = false := by unfold cnd; simp [h]
/-- The program's own conditions: the path's, the cycle's. -/
theorem cnd_path {r : Nat → Nat} {m v : Nat} {l : List Nat} (h : Way r m false l) (hn : v ∉ l) : cnd r false l v = wayB r (l ++ [v]) := by
  rw [way_snoc h hn]
  unfold cnd
  have : l.contains v = false := by simpa using hn
  rw [this]
  cases l.getLast? <;> simp
theorem cnd_cycle {r : Nat → Nat} {m v : Nat} {l : List Nat} (h : Way r m true l) (hn : v ∉ l) : cnd r true l v = ((l ++ [v]).headD 0 == 0 && wayB r (l ++ [v])) := by
  rw [way_snoc h hn]
  unfold cnd
  have : l.contains v = false := by simpa using hn
  rw [this]
  cases l with
  | nil => simp
  | cons a l =>
    have := h.head rfl (by simp)
    have ha : a = 0 := by simpa using this
    subst ha
    cases hl : (0 :: l).getLast? with
    | none => simp at hl
    | some b => simp
/-- The last vertex of a cycle's list. -/
theorem cycle_first {r : Nat → Nat} {m : Nat} (hm : 0 < m) (k : Nat) : sea r m true (k + 1) [] = sea r m true k [0] := by
  have h0 : at_ r m true k [] 0 = sea r m true k [0] := by rw [at_yes (by simp [cnd])]; rfl
  cases h : sea r m true k [0] with
  | some o => exact sea_some hm (h0.trans h) (fun u hu => absurd hu (by omega))
  | none =>
    refine sea_none fun u hu => ?_
    by_cases hu0 : u = 0
    · subst hu0; exact h0.trans h
    · exact at_no (by simp [cnd, hu0])
end Go.Proofs.YtjonhbmgmamchaaGreatDoor

/-
  Words for memory, over no program: what lies outside a range of blocks is as it was; a slice of the call's own whose cells are known; a slice that is only read.
-/
namespace Go.Proofs.YtjonhbmgmamchaaGreatDoor
open Go.RowKit

/-- Outside the blocks lo, .., hi - 1 the world w' is as w was. -/
structure Fr (lo hi : Nat) (w w' : World) : Prop where
  os : w'.os = w.os
  tape : w'.tape = w.tape
  output : w'.output = w.output
  size : w.heap.size ≤ w'.heap.size
  block : ∀ k, k < w.heap.size → (k < lo ∨ hi ≤ k) → w'.heap[k]? = w.heap[k]?

section
variable {lo hi B : Nat} {w w' w'' : World}
theorem Fr.refl (lo hi : Nat) (w : World) : Fr lo hi w w := ⟨rfl, rfl, rfl, Nat.le_refl _, fun _ _ _ => rfl⟩
theorem Fr.trans (h : Fr lo hi w w') (k : Fr lo hi w' w'') : Fr lo hi w w'' :=
  ⟨k.os.trans h.os, k.tape.trans h.tape, k.output.trans h.output, Nat.le_trans h.size k.size, fun i hi ho => (k.block i (Nat.lt_of_lt_of_le hi h.size) ho).trans (h.block i hi ho)⟩
theorem Fr.of_below (h : Below w.heap.size w w') : Fr lo hi w w' := ⟨h.os, h.tape, h.output, h.size, fun k hk _ => h.block k hk⟩
theorem Fr.drew (h : Fr lo hi w w') : Fr lo hi w w'.drew := ⟨h.os, h.tape, h.output, h.size, h.block⟩
theorem Fr.drewN (h : Fr lo hi w w') (n : Nat) : Fr lo hi w (w'.drewN n) := ⟨h.os, h.tape, h.output, h.size, h.block⟩
theorem Fr.alloc (h : Fr lo hi w w') (o : Obj) : Fr lo hi w (w'.alloc o) :=
  ⟨h.os, h.tape, h.output, by have := h.size; simp; omega, fun k hk ho => (Below.heap_alloc w' o k (Nat.lt_of_lt_of_le hk h.size)).trans (h.block k hk ho)⟩
theorem Fr.setCell (h : Fr lo hi w w') {p : Addr} (hp : lo ≤ p.block) (hq : p.block < hi) (u : Value) : Fr lo hi w (w'.setCell p u) :=
  ⟨h.os, h.tape, h.output, by have := h.size; simpa [World.setCell] using this, fun k hk ho => (Below.heap_setCell w' p u k (by omega)).trans (h.block k hk ho)⟩
theorem Fr.below (h : Fr lo hi w w') (hB : B ≤ lo) (hw : B ≤ w.heap.size) : Below B w w' := ⟨h.os, h.tape, h.output, h.size, fun k hk => h.block k (by omega) (by omega)⟩
theorem Fr.cell (h : Fr lo hi w w') {p : Addr} (hp : p.block < w.heap.size) (ho : p.block < lo ∨ hi ≤ p.block) : w'.cell? p = w.cell? p := World.cell?_of_block (h.block _ hp ho)
theorem Fr.mono {lo' hi' : Nat} (h : Fr lo hi w w') (h1 : lo' ≤ lo) (h2 : hi ≤ hi') : Fr lo' hi' w w' := ⟨h.os, h.tape, h.output, h.size, fun k hk ho => h.block k hk (by omega)⟩
theorem below_drewN {a : World} (h : Below B a w) (n : Nat) : Below B a (w.drewN n) := ⟨h.os, h.tape, h.output, h.size, h.block⟩
end

/-- The slice value '.slice A n c', its elements of 'size' cells of type e, lies at the head of a block from lo to hi - 1 (or is nil), and its cells hold x 0, x 1, .. -/
def Own (w : World) (lo hi : Nat) (e : TypeId) (size : Nat) (A : Option Addr) (n c : Nat) (x : Nat → Value) : Prop :=
  (A = none ∧ n = 0 ∧ c = 0) ∨ ∃ g cur, A = some ⟨g, 0, none⟩ ∧ lo ≤ g ∧ g < hi ∧ w.heap[g]? = some (.cells cur e (0, 0)) ∧ n ≤ c ∧ c ≤ maxLen ∧ cur.size = c * size ∧ ∀ j, j < n * size → cur[j]? = some (x j)

section
variable {lo hi lo' hi' : Nat} {w w' : World} {e : TypeId} {size n c : Nat} {A : Option Addr} {x y : Nat → Value}
theorem Own.congr (h : Own w lo hi e size A n c x) (hx : ∀ j, j < n * size → x j = y j) : Own w lo hi e size A n c y := by
  rcases h with h | ⟨g, cur, h1, h2, h3, h4, h5, h6, h7, h8⟩
  · exact .inl h
  · exact .inr ⟨g, cur, h1, h2, h3, h4, h5, h6, h7, fun j hj => by rw [h8 j hj, hx j hj]⟩
theorem Own.mono (h : Own w lo hi e size A n c x) (h1 : lo' ≤ lo) (h2 : hi ≤ hi') : Own w lo' hi' e size A n c x := by
  rcases h with h | ⟨g, cur, k1, k2, k3, r⟩
  · exact .inl h
  · exact .inr ⟨g, cur, k1, by omega, by omega, r⟩
theorem Own.le (h : Own w lo hi e size A n c x) : n ≤ c := by
  rcases h with ⟨_, h1, h2⟩ | ⟨g, cur, _, _, _, _, h5, _⟩ <;> omega
theorem Own.lt {w : World} (h : Own w lo hi e size A n c x) : Own w lo (min hi w.heap.size) e size A n c x := by
  rcases h with h | ⟨g, cur, k1, k2, k3, k4, r⟩
  · exact .inl h
  · have := (Array.getElem?_eq_some_iff.1 k4).1
    exact .inr ⟨g, cur, k1, k2, by omega, k4, r⟩
/-- It stays while other blocks are written. -/
theorem Own.keep {a b : Nat} (h : Own w lo hi e size A n c x) (hf : Fr a b w w') (hab : hi ≤ a ∨ b ≤ lo) : Own w' lo hi e size A n c x := by
  rcases h with h | ⟨g, cur, k1, k2, k3, k4, r⟩
  · exact .inl h
  · exact .inr ⟨g, cur, k1, k2, k3, (hf.block g (Array.getElem?_eq_some_iff.1 k4).1 (by omega)).trans k4, r⟩
theorem Own.keepB {B : Nat} (h : Own w lo hi e size A n c x) (hf : Below B w w') (hB : hi ≤ B) : Own w' lo hi e size A n c x := by
  rcases h with h | ⟨g, cur, k1, k2, k3, k4, r⟩
  · exact .inl h
  · exact .inr ⟨g, cur, k1, k2, k3, (hf.block g (by omega)).trans k4, r⟩
theorem Own.alloc (h : Own w lo hi e size A n c x) (o : Obj) : Own (w.alloc o) lo hi e size A n c x := by
  rcases h with h | ⟨g, cur, k1, k2, k3, k4, r⟩
  · exact .inl h
  · exact .inr ⟨g, cur, k1, k2, k3, (Below.heap_alloc w o g (Array.getElem?_eq_some_iff.1 k4).1).trans k4, r⟩
theorem Own.drewN (h : Own w lo hi e size A n c x) (k : Nat) : Own (w.drewN k) lo hi e size A n c x := h
theorem Own.drew (h : Own w lo hi e size A n c x) : Own w.drew lo hi e size A n c x := h
/-- Where there are elements: the block; its cells; that none is frozen. -/
theorem Own.at_ (h : Own w lo hi e size A n c x) (hn : 0 < n) : ∃ g, A = some ⟨g, 0, none⟩ ∧ lo ≤ g ∧ g < hi ∧ g < w.heap.size ∧ (∀ j, j < n * size → w.cell? ⟨g, j, none⟩ = some (x j)) ∧ ∀ j, w.frozen? ⟨g, j, none⟩ = false := by
  rcases h with h | ⟨g, cur, k1, k2, k3, k4, k5, k6, k7, k8⟩
  · omega
  · refine ⟨g, k1, k2, k3, (Array.getElem?_eq_some_iff.1 k4).1, fun j hj => ?_, fun j => ?_⟩
    · rw [cell_of_row w g j cur e (0, 0) k4]; exact k8 j hj
    · exact frozen_of_row w g j cur e k4
/-- A store into it. -/
theorem Own.set_ {g : Nat} (h : Own w lo hi e size (some ⟨g, 0, none⟩) n c x) (i : Nat) (u : Value) :
    Own (w.setCell ⟨g, i, none⟩ u) lo hi e size (some ⟨g, 0, none⟩) n c (fun j => if j = i then u else x j) := by
  rcases h with ⟨h, _⟩ | ⟨g', cur, k1, k2, k3, k4, k5, k6, k7, k8⟩
  · cases h
  · simp only [Option.some.injEq, Addr.mk.injEq, and_true] at k1
    subst k1
    refine .inr ⟨g, cur.setIfInBounds i u, rfl, k2, k3, heap_setCell_same w g i cur e u k4, k5, k6, by simpa using k7, fun j hj => ?_⟩
    have hlt : j < cur.size := by rw [k7]; exact Nat.lt_of_lt_of_le hj (Nat.mul_le_mul_right _ k5)
    rw [Array.getElem?_setIfInBounds]
    by_cases hji : j = i
    · subst hji; simp [hlt]
    · rw [if_neg (fun e => hji e.symm)]; simp only [if_neg hji]; exact k8 j hj
theorem Own.of_row {xs : List Value} (h : w.ownsRow lo e size (.slice A n c) n xs) (hx : ∀ j, j < n * size → xs[j]? = some (x j)) : Own w lo w.heap.size e size A n c x := by
  rcases h.2 with ⟨h1, h2⟩ | ⟨g, cap, cur, h1, h2, h3, h4, h5, h6, h7⟩
  · simp only [Value.slice.injEq] at h1
    exact .inl ⟨h1.1, h2, h1.2.2⟩
  · simp only [Value.slice.injEq, true_and] at h1
    obtain ⟨rfl, rfl⟩ := h1
    refine .inr ⟨g, cur, rfl, h2, (Array.getElem?_eq_some_iff.1 h3).1, h3, h4, h5, h6, fun j hj => ?_⟩
    have := hx j hj
    rw [← h7, List.getElem?_take, if_pos hj] at this
    simpa using this
theorem row_form {v : Value} {xs : List Value} (h : w.ownsRow lo e size v n xs) : ∃ A c, v = .slice A n c := by
  rcases h.2 with ⟨h1, h2⟩ | ⟨g, cap, cur, h1, h2⟩
  · exact ⟨none, 0, by rw [h1, h2]⟩
  · exact ⟨_, _, h1⟩
theorem Own.nil (w : World) (lo hi : Nat) (e : TypeId) (size : Nat) (x : Nat → Value) : Own w lo hi e size none 0 0 x := .inl ⟨rfl, rfl, rfl⟩
theorem Own.row (h : Own w lo hi e size A n c x) : w.ownsRow lo e size (.slice A n c) n ((List.range (n * size)).map x) := by
  refine ⟨by simp, ?_⟩
  rcases h with ⟨rfl, rfl, rfl⟩ | ⟨g, cur, rfl, k2, k3, k4, k5, k6, k7, k8⟩
  · exact .inl ⟨rfl, rfl⟩
  · refine .inr ⟨g, c, cur, rfl, k2, k4, k5, k6, k7, ?_⟩
    have hle : n * size ≤ cur.size := by rw [k7]; exact Nat.mul_le_mul_right _ k5
    apply List.ext_getElem?
    intro j
    rw [List.getElem?_take]
    by_cases hj : j < n * size
    · rw [if_pos hj, Array.getElem?_toList, k8 j hj]; simp [hj]
    · rw [if_neg hj]; simp [hj]
end

/-- The slice value '.slice A n c' reads as the values x 0, .., x (n - 1), each one cell, in blocks below B. -/
def RdV (w : World) (B : Nat) (A : Option Addr) (n c : Nat) (x : Nat → Value) : Prop :=
  n ≤ c ∧ (0 < n → ∃ b o, A = some ⟨b, o, none⟩ ∧ b < B ∧ ∀ k, k < n → w.cell? ⟨b, o + k, none⟩ = some (x k))
theorem Own.rdV {lo hi : Nat} {w : World} {e : TypeId} {n c : Nat} {A : Option Addr} {x : Nat → Value} (h : Own w lo hi e 1 A n c x) : RdV w hi A n c x :=
  ⟨h.le, fun hn => by
    obtain ⟨g, e1, _, h2, _, h3, _⟩ := h.at_ hn
    exact ⟨g, 0, e1, h2, fun k hk => by rw [Nat.zero_add]; exact h3 k (by omega)⟩⟩
theorem Own.rd {lo hi : Nat} {w : World} {e : TypeId} {n c : Nat} {A : Option Addr} {x : Nat → Int} (h : Own w lo hi e 1 A n c (fun j => .int .i64 (x j))) : Rd w hi A n c x :=
  ⟨h.le, fun hn => by
    obtain ⟨g, e1, _, h2, _, h3, _⟩ := h.at_ hn
    exact ⟨g, 0, e1, h2, fun k hk => by rw [Nat.zero_add]; exact h3 k (by omega)⟩⟩
theorem RdV.keep {w w' : World} {B B' : Nat} {A : Option Addr} {n c : Nat} {x : Nat → Value} (h : RdV w B A n c x) (hb : Below B w w') (hB : B ≤ B') : RdV w' B' A n c x := by
  refine ⟨h.1, fun hn => ?_⟩
  obtain ⟨b, o, e, hlt, hc⟩ := h.2 hn
  exact ⟨b, o, e, by omega, fun k hk => (hb.cell (p := ⟨b, o + k, none⟩) hlt).trans (hc k hk)⟩
end Go.Proofs.YtjonhbmgmamchaaGreatDoor

/-
  append of one element onto a slice of the call's own, whose cells are a fixed function of the place; over no program.
-/
namespace Go.Proofs.YtjonhbmgmamchaaGreatDoor
open Go.RowKit

theorem Own.block {w : World} {lo hi : Nat} {e : TypeId} {size n c : Nat} {A : Option Addr} {x : Nat → Value} (h : Own w lo hi e size A n c x) : ∀ k, (Value.slice A n c).ownBlock = some k → lo ≤ k ∧ k < hi := by
  intro k hk
  rcases h with ⟨rfl, _⟩ | ⟨g, cur, rfl, h2, h3, _⟩
  · simp [Value.ownBlock] at hk
  · simp [Value.ownBlock] at hk
    omega

/-- What stands behind an append: the new value owns one element more; nothing below lo has turned; of the blocks that were there only its own. -/
structure Pushed (w w' : World) (lo : Nat) (e : TypeId) (size : Nat) (A : Option Addr) (n c : Nat) (x : Nat → Value) (g cap : Nat) : Prop where
  own : Own w' lo w'.heap.size e size (some ⟨g, 0, none⟩) (n + 1) cap x
  below : Below lo w w'
  grown : w.grownBy w' (Value.slice A n c).ownBlock
  at_ : (Value.slice A n c).ownBlock = some g ∨ g = w.heap.size

section
variable {P : Program}
theorem wp_push (w : World) {o : Oper} {a : Act} {K : Act → World → Prop} {Q : Exit → Act → World → Prop} (s y : Operand) (t : TypeId)
    (ho : o.op = .call { callee := .builtin .append, args := #[s, y], argTypes := #[t, t] })
    (e : TypeId) (z : Value) (size bytes : Nat) (ht : P.underlying t = some (.slice e)) (hinfo : (P.info? e).map (fun i => (i.zero, i.size, i.bytes)) = some (some z, size, bytes)) (hzs : z.cells.size = size) (hsz : 0 < size)
    (lo hi : Nat) (A : Option Addr) (n c : Nat) (x : Nat → Value) (hs : a.eval s = .slice A n c) (hown : Own w lo hi e size A n c x) (hlo : lo ≤ w.heap.size)
    (B : Nat) (cs : Array Value) (T : TypeId) (fr : Nat × Nat) (cx : Nat) (hB : w.heap[B]? = some (.cells cs T fr)) (hy : a.eval y = .slice (some ⟨B, 0, none⟩) 1 cx) (hl : cs.size = size)
    (hX : ∀ j, j < size → cs[j]? = some (x (n * size + j))) (h1 : ∀ u ∈ cs.toList, u.oneCell' = true) (hn : n ≤ 1073741824) (hby : bytes ≤ 1024)
    (h : ∀ g cap w', Pushed w w' lo e size A n c x g cap → K (a.put o.dst (.slice (some ⟨g, 0, none⟩) (n + 1) cap)) w') : o.wp P a w K Q := by
  obtain ⟨i, hi, hzz⟩ := Option.map_eq_some_iff.1 hinfo
  simp only [Prod.mk.injEq] at hzz
  obtain ⟨hz, hsize, hbytes⟩ := hzz
  have hb2 : (n + 1) * bytes ≤ 140737488355328 := by
    have : (n + 1) * bytes ≤ 1073741825 * 1024 := Nat.mul_le_mul (by omega) hby
    omega
  refine wp_append_lies w s y t ho lo e i z size bytes ht hi hz hsize hbytes hzs hsz (.slice A n c) n _ hs hown.row ⟨B, 0, none⟩ 1 cx cs.toList hy (by simp [hl]) (World.news_of_block hB) h1 (by omega) (by unfold maxLen; omega) hb2 hlo w.heap.size rfl ?_
  intro g cap w' hr hg hat hlt
  refine h g cap w' ⟨Own.of_row hr (fun j hj => ?_), (Below.refl _ _).grown hg hlo (fun k hk => (hown.block k hk).1), hg, hat⟩
  rw [List.getElem?_append]
  simp only [List.length_map, List.length_range]
  by_cases hj2 : j < n * size
  · rw [if_pos hj2]; simp [hj2]
  · rw [if_neg hj2]
    have hlt2 : j - n * size < size := by rw [Nat.add_mul] at hj; omega
    have := hX (j - n * size) hlt2
    rw [show n * size + (j - n * size) = j by omega] at this
    simpa using this

theorem wpList_push (w : World) {ops : Array Oper} {rest : List Oper} {o : Oper} {a : Act} {Q : Exit → Act → World → Prop} (hgd : o.guard = none) (s y : Operand) (t : TypeId)
    (ho : o.op = .call { callee := .builtin .append, args := #[s, y], argTypes := #[t, t] })
    (e : TypeId) (z : Value) (size bytes : Nat) (ht : P.underlying t = some (.slice e)) (hinfo : (P.info? e).map (fun i => (i.zero, i.size, i.bytes)) = some (some z, size, bytes)) (hzs : z.cells.size = size) (hsz : 0 < size)
    (lo hi : Nat) (A : Option Addr) (n c : Nat) (x : Nat → Value) (hs : a.eval s = .slice A n c) (hown : Own w lo hi e size A n c x) (hlo : lo ≤ w.heap.size)
    (B : Nat) (cs : Array Value) (T : TypeId) (fr : Nat × Nat) (cx : Nat) (hB : w.heap[B]? = some (.cells cs T fr)) (hy : a.eval y = .slice (some ⟨B, 0, none⟩) 1 cx) (hl : cs.size = size)
    (hX : ∀ j, j < size → cs[j]? = some (x (n * size + j))) (h1 : ∀ u ∈ cs.toList, u.oneCell' = true) (hn : n ≤ 1073741824) (hby : bytes ≤ 1024)
    (h : ∀ g cap w', Pushed w w' lo e size A n c x g cap → wpList P ops Q rest (a.put o.dst (.slice (some ⟨g, 0, none⟩) (n + 1) cap)) w') : wpList P ops Q (o :: rest) a w :=
  wpList_plain hgd fun _ hK => wp_push w s y t ho e z size bytes ht hinfo hzs hsz lo hi A n c x hs hown hlo B cs T fr cx hB hy hl hX h1 hn hby fun g cap w' hp => hK _ _ (h g cap w' hp)

theorem step_push (w : World) {ops : Array Oper} {o : Oper} {a : Act} {K : Act → World → Prop} {Q : Exit → Act → World → Prop} {E : Prop} (hgd : o.guard = none) (s y : Operand) (t : TypeId)
    (ho : o.op = .call { callee := .builtin .append, args := #[s, y], argTypes := #[t, t] })
    (e : TypeId) (z : Value) (size bytes : Nat) (ht : P.underlying t = some (.slice e)) (hinfo : (P.info? e).map (fun i => (i.zero, i.size, i.bytes)) = some (some z, size, bytes)) (hzs : z.cells.size = size) (hsz : 0 < size)
    (lo hi : Nat) (A : Option Addr) (n c : Nat) (x : Nat → Value) (hs : a.eval s = .slice A n c) (hown : Own w lo hi e size A n c x) (hlo : lo ≤ w.heap.size)
    (B : Nat) (cs : Array Value) (T : TypeId) (fr : Nat × Nat) (cx : Nat) (hB : w.heap[B]? = some (.cells cs T fr)) (hy : a.eval y = .slice (some ⟨B, 0, none⟩) 1 cx) (hl : cs.size = size)
    (hX : ∀ j, j < size → cs[j]? = some (x (n * size + j))) (h1 : ∀ u ∈ cs.toList, u.oneCell' = true) (hn : n ≤ 1073741824) (hby : bytes ≤ 1024)
    (h : ∀ g cap w', Pushed w w' lo e size A n c x g cap → K (a.put o.dst (.slice (some ⟨g, 0, none⟩) (n + 1) cap)) w') :
    if Region.wanted o (yielded ops a.tmps) = true then Oper.wp P o a w K Q else E := by
  have hw : Region.wanted o (yielded ops a.tmps) = true := by simp [Region.wanted, hgd]
  rw [if_pos hw]
  exact wp_push w s y t ho e z size bytes ht hinfo hzs hsz lo hi A n c x hs hown hlo B cs T fr cx hB hy hl hX h1 hn hby h
end
end Go.Proofs.YtjonhbmgmamchaaGreatDoor

/-
  Contracts of the smallest functions of the seat: ranges and bits.
-/
namespace Go.Proofs.YtjonhbmgmamchaaGreatDoor
open Go.RowKit

theorem within_any (n lo hi : Int) (w : World) :
    Calls Tryz.prog 57 #[.int .i64 n, .int .i64 lo, .int .i64 hi] w fun e w' => e = .returned (.bool (decide (lo ≤ n) && decide (n ≤ hi))) ∧ w = w' := by
  by_cases h1 : lo ≤ n
  · by_cases h2 : n ≤ hi
    · go_enter Tryz.func57, Tryz.ntmps57
      go_wp2
      go_ret
      exact ⟨ret_bool (by simp; omega), rfl⟩
    · have h2' : hi < n := by omega
      go_enter Tryz.func57, Tryz.ntmps57
      go_wp2
      go_ret
      exact ⟨ret_bool (by simp; omega), rfl⟩
  · go_enter Tryz.func57, Tryz.ntmps57
    go_wp2
    go_ret
    exact ⟨ret_bool (by simp; omega), rfl⟩

theorem l1In_any (n lo hi : Int) (w : World) :
    Calls Tryz.prog 42 #[.int .i64 n, .int .i64 lo, .int .i64 hi] w fun e w' => e = .returned (.bool (decide (lo ≤ n) && decide (n ≤ hi))) ∧ w = w' := by
  by_cases h1 : lo ≤ n
  · by_cases h2 : n ≤ hi
    · go_enter Tryz.func42, Tryz.ntmps42
      go_wp2
      go_ret
      exact ⟨ret_bool (by simp; omega), rfl⟩
    · have h2' : hi < n := by omega
      go_enter Tryz.func42, Tryz.ntmps42
      go_wp2
      go_ret
      exact ⟨ret_bool (by simp; omega), rfl⟩
  · go_enter Tryz.func42, Tryz.ntmps42
    go_wp2
    go_ret
    exact ⟨ret_bool (by simp; omega), rfl⟩

/-- 'within' where the answer is known. -/
theorem within_yes (n lo hi : Int) (w : World) (h1 : lo ≤ n) (h2 : n ≤ hi) :
    Calls Tryz.prog 57 #[.int .i64 n, .int .i64 lo, .int .i64 hi] w fun e w' => e = .returned (.bool true) ∧ w = w' :=
  (within_any n lo hi w).mono fun _ _ ⟨he, hw⟩ => ⟨he.trans (ret_bool (by simp; omega)), hw⟩
theorem within_no (n lo hi : Int) (w : World) (h : n < lo ∨ hi < n) :
    Calls Tryz.prog 57 #[.int .i64 n, .int .i64 lo, .int .i64 hi] w fun e w' => e = .returned (.bool false) ∧ w = w' :=
  (within_any n lo hi w).mono fun _ _ ⟨he, hw⟩ => ⟨he.trans (ret_bool (by simp; omega)), hw⟩
theorem l1In_yes (n lo hi : Int) (w : World) (h1 : lo ≤ n) (h2 : n ≤ hi) :
    Calls Tryz.prog 42 #[.int .i64 n, .int .i64 lo, .int .i64 hi] w fun e w' => e = .returned (.bool true) ∧ w = w' :=
  (l1In_any n lo hi w).mono fun _ _ ⟨he, hw⟩ => ⟨he.trans (ret_bool (by simp; omega)), hw⟩
theorem l1In_no (n lo hi : Int) (w : World) (h : n < lo ∨ hi < n) :
    Calls Tryz.prog 42 #[.int .i64 n, .int .i64 lo, .int .i64 hi] w fun e w' => e = .returned (.bool false) ∧ w = w' :=
  (l1In_any n lo hi w).mono fun _ _ ⟨he, hw⟩ => ⟨he.trans (ret_bool (by simp; omega)), hw⟩

theorem has_any (s v : Int) (w : World) (h1 : 0 ≤ s) (h2 : s < 16777216) (h3 : 0 ≤ v) (h4 : v ≤ 63) :
    Calls Tryz.prog 58 #[.int .i64 s, .int .i64 v] w fun e w' => e = .returned (.bool (s.toNat.testBit v.toNat)) ∧ w = w' := by
  obtain ⟨k, rfl⟩ := Int.eq_ofNat_of_zero_le h3
  have E := and_one_i64 s k h1 h2
  have H := Lib.hid E
  clear E
  go_enter Tryz.func58, Tryz.ntmps58
  go_wp2
  go_ret
  exact ⟨ret_bool H.out, rfl⟩
end Go.Proofs.YtjonhbmgmamchaaGreatDoor

/-
  Contracts of the law's own helpers on slices of integers: copy, compare, mark, look at the marks, size.
-/
namespace Go.Proofs.YtjonhbmgmamchaaGreatDoor
open Go.RowKit

theorem info_int : (Tryz.prog.info? 3).map (fun i => (i.zero, i.size, i.bytes)) = some (some (.int .i64 0), 1, 8) := by kernel_rfl

/-- What is left of a bound behind n elements. -/
def szl (left : Int) (n : Nat) : Int := if left < n then -1 else left - n

set_option maxHeartbeats 400000 in
theorem eqIntS_yes (A1 A2 : Option Addr) (n c1 c2 : Nat) (x : Nat → Int) (w : World) (B1 B2 : Nat) (h1 : Rd w B1 A1 n c1 x) (h2 : Rd w B2 A2 n c2 x) (hB1 : B1 ≤ w.heap.size) (hB2 : B2 ≤ w.heap.size) (hn : n ≤ 140737488355328) :
    Calls Tryz.prog 41 #[.slice A1 n c1, .slice A2 n c2] w fun e w' => e = .returned (.bool true) ∧ Below w.heap.size w w' := by
  go_enter Tryz.func41, Tryz.ntmps41
  go_wp2
  go_loopw [5] (fun i wr => ∃ k : Nat, k ≤ n ∧ i = .int .i64 k ∧ Below w.heap.size w wr) (fun i _ => n - (intOf i).toNat)
  case atStart => exact ⟨0, Nat.zero_le _, rfl, Below.refl _ _⟩
  case round =>
    obtain ⟨k, hk, rfl, hbr⟩ := hrel
    by_cases hlt : k < n
    · obtain ⟨b1, o1, rfl, l1, c1'⟩ := h1.pos (by omega)
      obtain ⟨b2, o2, rfl, l2, c2'⟩ := h2.pos (by omega)
      have f1 := (hbr.cell (p := ⟨b1, o1 + k, none⟩) (by show b1 < _; omega)).trans (c1' k hlt)
      have f2 := (hbr.cell (p := ⟨b2, o2 + k, none⟩) (by show b2 < _; omega)).trans (c2' k hlt)
      have hi : (k : Int) < (n : Int) := by omega
      clear c1' c2' h1 h2
      go_wp2
      go_quiet (fail)
      go_wp2
      go_roundw
      case rel => exact ⟨k + 1, by omega, by go_num, below_drewN hbr _⟩
      case measure => simp [intOf]; omega
    · have hge : (n : Int) ≤ (k : Int) := by omega
      go_wp2
      go_ret
      exact ⟨rfl, hbr⟩

/-- The copied cells so far. -/
def cps (x : Nat → Int) (i : Nat) : Nat → Value := fun j => .int .i64 (if j < i then x j else 0)
theorem cps_succ (x : Nat → Int) (i : Nat) : (fun j => if j = i then Value.int .i64 (x i) else cps x i j) = cps x (i + 1) := by
  funext j
  unfold cps
  by_cases h : j = i
  · subst h; simp
  · rw [if_neg h]
    by_cases h2 : j < i
    · rw [if_pos h2, if_pos (by omega)]
    · rw [if_neg h2, if_neg (by omega)]

set_option maxHeartbeats 400000 in
theorem toIntS_any (A : Option Addr) (n c : Nat) (x : Nat → Int) (w : World) (B : Nat) (h : Rd w B A n c x) (hB : B ≤ w.heap.size) (hn : n ≤ 1048576) :
    Calls Tryz.prog 25 #[.slice A n c] w fun e w' => ∃ g, w.heap.size ≤ g ∧ e = .returned (.slice (some ⟨g, 0, none⟩) n n) ∧ Own w' w.heap.size w'.heap.size 3 1 (some ⟨g, 0, none⟩) n n (fun j => .int .i64 (x j)) ∧ Below w.heap.size w w' := by
  have hmk := fun W => run_make_row' (P := Tryz.prog) 22 3 (.int .i64 0) 8 Tryz.underlying22 info_int rfl .i64 .i64 n (by omega) (by omega) W
  go_enter Tryz.func25, Tryz.ntmps25
  go_wp2
  clear hmk
  go_loopw [4] (fun i wr => ∃ j : Nat, j ≤ n ∧ i = .int .i64 j ∧ Own wr w.heap.size (w.heap.size + 1) 3 1 (some ⟨w.heap.size, 0, none⟩) n n (cps x j) ∧ Below w.heap.size w wr) (fun i _ => n - (intOf i).toNat)
  case atStart =>
    refine ⟨0, Nat.zero_le _, rfl, ?_, (Below.refl _ _).alloc (Nat.le_refl _) _⟩
    obtain ⟨cc, q1, q2, q3⟩ := World.rowIs_made w (.int .i64 0) n 3
    exact .inr ⟨_, cc, rfl, Nat.le_refl _, Nat.lt_succ_self _, q1, Nat.le_refl _, by unfold maxLen; omega, by omega, fun j hj => by rw [q3 j (by omega)]; simp [cps]⟩
  case round =>
    obtain ⟨j, hj, rfl, hown, hbr⟩ := hrel
    by_cases hlt : j < n
    · obtain ⟨b, o, rfl, l, hc⟩ := h.pos (by omega)
      have f1 := (hbr.cell (p := ⟨b, o + j, none⟩) (by show b < _; omega)).trans (hc j hlt)
      obtain ⟨g, e, g1, g2, g3, hc2, hf2⟩ := hown.at_ (by omega)
      simp only [Option.some.injEq, Addr.mk.injEq, and_true] at e
      subst e
      have f2 := hc2 j (by omega)
      have f3 := hf2 j
      have hs := hown.set_ j (.int .i64 (x j))
      rw [cps_succ] at hs
      have hb' := hbr.setCell (p := ⟨w.heap.size, j, none⟩) (Nat.le_refl _) (.int .i64 (x j))
      have H1 := Lib.hid hs
      have H2 := Lib.hid hb'
      have hne : b ≠ w.heap.size := by omega
      clear hc hc2 hf2 hs hb' h hown hbr
      go_wp2
      go_roundw
      case rel => exact ⟨j + 1, by omega, by go_num, H1.out, H2.out⟩
      case measure => simp [intOf]; omega
    · obtain rfl : j = n := by omega
      have hsz := (hown.at_ (n := j))
      have H := Lib.hid hown
      have Hb := Lib.hid hbr
      clear hown hbr hsz
      go_wp2
      go_ret
      refine ⟨w.heap.size, Nat.le_refl _, rfl, ?_, Hb.out⟩
      have h1 := (H.out.congr (y := fun j => .int .i64 (x j)) (fun i hi => by unfold cps; rw [if_pos (by omega)])).lt
      exact h1.mono (Nat.le_refl _) (Nat.min_le_right _ _)
end Go.Proofs.YtjonhbmgmamchaaGreatDoor

/-
  Contracts of the law's own helpers on graphs: size, copy, compare, mark.
-/
namespace Go.Proofs.YtjonhbmgmamchaaGreatDoor
open Go.RowKit

theorem szIntS_max (A : Option Addr) (n c : Nat) (left : Int) (w : World) (hn : n ≤ maxLen) (h0 : 0 ≤ left) (h1 : left ≤ 1048576) :
    Calls Tryz.prog 9 #[.slice A n c, .int .i64 left] w fun e w' => e = .returned (.int .i64 (szl left n)) ∧ w = w' := by
  unfold maxLen at hn
  by_cases h : left < n
  · have h' : left - n < 0 := by omega
    go_enter Tryz.func9, Tryz.ntmps9
    go_wp2
    go_ret
    exact ⟨ret_int (by unfold szl; rw [if_pos (by omega)]), rfl⟩
  · have h' : 0 ≤ left - n := by omega
    go_enter Tryz.func9, Tryz.ntmps9
    go_wp2
    go_ret
    exact ⟨ret_int (by unfold szl; rw [if_neg (by omega)]), rfl⟩

theorem szGraph_any (sz : Int) (A : Option Addr) (n c : Nat) (left : Int) (w : World) (hn : n ≤ maxLen) (h0 : 0 ≤ left) (h1 : left ≤ 1048576) :
    Calls Tryz.prog 4 #[.agg #[.int .i64 sz, .slice A n c], .int .i64 left] w fun e w' => e = .returned (.int .i64 (szl left n)) ∧ Below w.heap.size w w' := by
  have Hb : Hid (Below w.heap.size w (w.alloc (Obj.cells #[Value.int IntKind.i64 sz, Value.slice A n c] 24))) := (Below.refl _ _).alloc (Nat.le_refl _) _
  have HC := Lib.hid (fun W => szIntS_max A n c left W hn h0 h1)
  by_cases h : left < n
  · have e0 : szl left n = -1 := by unfold szl; rw [if_pos h]
    rw [e0] at HC ⊢
    clear e0 hn
    go_enter Tryz.func4, Tryz.ntmps4
    go_wp2_with (first | (go_at_call 9; refine (HC.out _).mono ?_; rintro e w' ⟨rfl, rfl⟩))
    go_ret
    exact ⟨rfl, Hb.out⟩
  · have e0 : szl left n = left - n := by unfold szl; rw [if_neg h]
    rw [e0] at HC ⊢
    have h' : 0 ≤ left - n := by omega
    clear e0 hn
    go_enter Tryz.func4, Tryz.ntmps4
    go_wp2_with (first | (go_at_call 9; refine (HC.out _).mono ?_; rintro e w' ⟨rfl, rfl⟩))
    go_ret
    exact ⟨rfl, Hb.out⟩

set_option maxHeartbeats 400000 in
theorem toGraph_any (sz : Int) (A : Option Addr) (n c : Nat) (x : Nat → Int) (w : World) (B : Nat) (h : Rd w B A n c x) (hB : B ≤ w.heap.size) (hn : n ≤ 1048576) :
    Calls Tryz.prog 6 #[.agg #[.int .i64 sz, .slice A n c]] w fun e w' => ∃ g, w.heap.size ≤ g ∧ e = .returned (.agg #[.int .i64 sz, .slice (some ⟨g, 0, none⟩) n n]) ∧ Own w' w.heap.size w'.heap.size 3 1 (some ⟨g, 0, none⟩) n n (fun j => .int .i64 (x j)) ∧ Below w.heap.size w w' := by
  go_enter Tryz.func6, Tryz.ntmps6
  go_wp2_with fail
  refine (toIntS_any A n c x _ B (h.keep ((((Below.refl B w).alloc hB _).alloc (by simp; omega) _).alloc (by simp; omega) _) (Nat.le_refl _)) (by simp; omega) hn).mono ?_
  rintro e w1 ⟨g, hg, rfl, hown, hb⟩
  obtain ⟨hcx, hfx⟩ := bcell hb
  have hz := hb.size
  simp at hz hg hown
  have HO := Lib.hid hown
  have HB1 := Lib.hid hb
  clear hown hb h
  go_wp2
  have F : Fr w.heap.size (w.heap.size + 1 + 1 + 1) w1 _ := (((Fr.refl _ _ _).setCell (p := ⟨w.heap.size + 1 + 1, 1, none⟩) (by show w.heap.size ≤ w.heap.size + 1 + 1; omega) (by show w.heap.size + 1 + 1 < _; omega) (Value.slice (some ⟨g, 0, none⟩) n n)).setCell (p := ⟨w.heap.size + 1, 0, none⟩) (by show w.heap.size ≤ w.heap.size + 1; omega) (by show w.heap.size + 1 < _; omega) (Value.int IntKind.i64 sz)).setCell (p := ⟨w.heap.size + 1, 1, none⟩) (by show w.heap.size ≤ w.heap.size + 1; omega) (by show w.heap.size + 1 < _; omega) (Value.slice (some ⟨g, 0, none⟩) n n)
  have O1 := (HO.out.keep F (.inr (Nat.le_refl _))).mono (lo' := w.heap.size) (by omega) F.size
  have B1 : Below w.heap.size w _ := (((((Below.refl _ _).alloc (Nat.le_refl _) _).alloc (by simp) _).alloc (by simp; omega) _).trans (HB1.out.mono (by simp; omega))).trans (F.below (Nat.le_refl _) (by omega))
  exact bodyPost_ret (v := .agg #[.int .i64 sz, .slice (some ⟨g, 0, none⟩) n n]) (by simp [results, Tryz.results6, go_sem, hcx]) rfl ⟨g, by omega, rfl, O1, B1⟩

set_option maxHeartbeats 400000 in
theorem eqGraph_yes (sz : Int) (A1 A2 : Option Addr) (n c1 c2 : Nat) (x : Nat → Int) (w : World) (B1 B2 : Nat) (h1 : Rd w B1 A1 n c1 x) (h2 : Rd w B2 A2 n c2 x) (hB1 : B1 ≤ w.heap.size) (hB2 : B2 ≤ w.heap.size) (hn : n ≤ 1048576) :
    Calls Tryz.prog 8 #[.agg #[.int .i64 sz, .slice A1 n c1], .agg #[.int .i64 sz, .slice A2 n c2]] w fun e w' => e = .returned (.bool true) ∧ Below w.heap.size w w' := by
  go_enter Tryz.func8, Tryz.ntmps8
  go_wp2_with fail
  have b1 : Below w.heap.size w ((w.alloc (Obj.cells #[Value.int IntKind.i64 sz, Value.slice A1 n c1] 27)).alloc (Obj.cells #[Value.int IntKind.i64 sz, Value.slice A2 n c2] 27)) := ((Below.refl _ _).alloc (Nat.le_refl _) _).alloc (by simp) _
  refine (eqIntS_yes A1 A2 n c1 c2 x _ B1 B2 (h1.keep (b1.mono hB1) (Nat.le_refl _)) (h2.keep (b1.mono hB2) (Nat.le_refl _)) (by simp; omega) (by simp; omega) (by omega)).mono ?_
  rintro e w1 ⟨rfl, hb⟩
  have HB := Lib.hid (b1.trans (hb.mono (by simp; omega)))
  clear hb b1 h1 h2
  go_wp2
  go_ret
  exact ⟨rfl, HB.out⟩

end Go.Proofs.YtjonhbmgmamchaaGreatDoor

/-
  Contracts: is it a graph? Both programs' tests, and the law's helpers on graphs.
-/
namespace Go.Proofs.YtjonhbmgmamchaaGreatDoor
open Go.RowKit

theorem two_pow_int (n : Nat) (h : n ≤ 7) : (1 : Int) ≤ 2 ^ n ∧ (2 : Int) ^ n ≤ 128 := by
  have h2 : ((2 ^ n : Nat) : Int) = 2 ^ n := by simp
  have := two_pow_le h
  have := Nat.two_pow_pos n
  omega
theorem pow_shl (n : Nat) (h : n ≤ 7) : IntKind.i64.wrap (2 ^ n) = 2 ^ n := by
  have := two_pow_int n h
  exact Go.IntWalk.i64_in _ (by omega)

set_option maxHeartbeats 1000000 in
theorem IsGraph_i (sz : Int) (A : Option Addr) (m c : Nat) (x : Nat → Int) (w : World) (B : Nat) (h : Rd w B A m c x) (hB : B ≤ w.heap.size) (hm : m ≤ 1048576) (h1 : 1 ≤ sz) (h7 : sz ≤ 7) (hs : sz = (m : Int)) :
    Calls Tryz.prog 26 #[.agg #[.int .i64 sz, .slice A m c]] w fun e w' => e = .returned (.bool (okB sz m x)) ∧ Below w.heap.size w w' := by
  subst hs
  obtain ⟨b, o, rfl, hb, hc⟩ := h.pos (by omega)
  have p1 := two_pow_int m (by omega)
  have p2 := pow_shl m (by omega)
  go_enter Tryz.func26, Tryz.ntmps26
  go_wp2_with (first | (go_at_call 57; refine (within_yes _ _ _ _ h1 h7).mono ?_; rintro e w' ⟨rfl, rfl⟩))
  go_loop [23] (fun i => ∃ k : Nat, k ≤ m ∧ i = .int .i64 k ∧ Hid (∀ v, v < k → 0 ≤ x v ∧ x v < 2 ^ m ∧ (x v).toNat.testBit v = false)) (fun i => m - (intOf i).toNat)
  case atStart => exact ⟨0, Nat.zero_le _, rfl, fun v hv => absurd hv (by omega)⟩
  case round =>
    obtain ⟨k, hk, rfl, hall⟩ := hrel
    by_cases hlt : k < m
    · have f1 := (World.cell?_alloc_lt w (Obj.cells #[Value.int IntKind.i64 ↑m, Value.slice (some ⟨b, o, none⟩) m c] 27) ⟨b, o + k, none⟩ (by show b < _; omega)).trans (hc k hlt)
      by_cases hr : 0 ≤ x k ∧ x k < 2 ^ m
      · have hbit : (x k).toNat.testBit k = true ∨ (x k).toNat.testBit k = false := by cases (x k).toNat.testBit k <;> simp
        obtain ⟨hr1, hr2⟩ := hr
        rcases hbit with hbit | hbit
        · have hno : Hid (okB m m x = false) := okB_no (fun hok => by have := (hok.rows k hlt).2.2; rw [hbit] at this; cases this)
          have Hbit := Lib.hid hbit
          clear hc h hbit
          go_wp2_with (first | (go_at_call 57; refine (within_yes _ _ _ _ hr1 (by omega)).mono ?_; rintro e w' ⟨rfl, rfl⟩) | (go_at_call 58; refine (has_any _ _ _ hr1 (by omega) (by omega) (by omega)).mono ?_; simp only [Int.toNat_natCast, Hbit.out]; rintro e w' ⟨rfl, rfl⟩))
          go_ret
          exact ⟨ret_bool hno.out.symm, (Below.refl _ _).alloc (Nat.le_refl _) _⟩
        · have Hbit := Lib.hid hbit
          clear hc h hbit
          go_wp2_with (first | (go_at_call 57; refine (within_yes _ _ _ _ hr1 (by omega)).mono ?_; rintro e w' ⟨rfl, rfl⟩) | (go_at_call 58; refine (has_any _ _ _ hr1 (by omega) (by omega) (by omega)).mono ?_; simp only [Int.toNat_natCast, Hbit.out]; rintro e w' ⟨rfl, rfl⟩))
          go_round
          case rel =>
            refine ⟨k + 1, by omega, by go_num, fun v hv => ?_⟩
            by_cases hvk : v < k
            · exact hall.out v hvk
            · obtain rfl : v = k := by omega
              exact ⟨hr1, hr2, Hbit.out⟩
          case measure => simp [intOf]; omega
      · have hno : Hid (okB m m x = false) := okB_no (fun hok => hr ⟨(hok.rows k hlt).1, (hok.rows k hlt).2.1⟩)
        have hr' : x k < 0 ∨ 2 ^ m - 1 < x k := by omega
        have Hr := Lib.hid hr'
        clear hc h hr hr'
        go_wp2_with (first | (go_at_call 57; refine (within_no _ _ _ _ Hr.out).mono ?_; rintro e w' ⟨rfl, rfl⟩))
        go_ret
        exact ⟨ret_bool hno.out.symm, (Below.refl _ _).alloc (Nat.le_refl _) _⟩
    · obtain rfl : k = m := by omega
      go_wp2
      obtain ⟨W, hW⟩ : ∃ W : World, W = w.alloc (Obj.cells #[Value.int IntKind.i64 ↑k, Value.slice (some ⟨b, o, none⟩) k c] 27) := ⟨_, rfl⟩
      rw [← hW]
      have e0 : W.cell? ⟨w.heap.size, 0, none⟩ = some (.int .i64 k) := by rw [hW]; simp [go_sem]
      have e1 : W.cell? ⟨w.heap.size, 1, none⟩ = some (.slice (some ⟨b, o, none⟩) k c) := by rw [hW]; simp [go_sem]
      have hcW : ∀ j, j < k → W.cell? ⟨b, o + j, none⟩ = some (.int .i64 (x j)) := fun j hj => by rw [hW]; exact (World.cell?_alloc_lt w _ ⟨b, o + j, none⟩ (by show b < _; omega)).trans (hc j hj)
      have HB : Below w.heap.size w W := by rw [hW]; exact (Below.refl _ _).alloc (Nat.le_refl _) _
      have hsz : w.heap.size < W.heap.size := by rw [hW]; simp
      clear hW hc h
      go_loopw [44] (fun i wr => ∃ v : Nat, v ≤ k ∧ i = .int .i64 v ∧ Hid (∀ a b, a < v → b < a → (x a).toNat.testBit b = (x b).toNat.testBit a) ∧ Below W.heap.size W wr) (fun i _ => k - (intOf i).toNat)
      case atStart => exact ⟨0, Nat.zero_le _, rfl, fun a b ha => absurd ha (by omega), Below.refl _ _⟩
      case round =>
        obtain ⟨v, hv, rfl, hsym, hbr⟩ := hrel
        by_cases hlt : v < k
        · have f1 := (hbr.cell (p := ⟨b, o + v, none⟩) (by show b < _; omega)).trans (hcW v hlt)
          have r1 := (hall.out v hlt).1
          have r2 := (hall.out v hlt).2.1
          go_wp2
          obtain ⟨wo, rfl⟩ : ∃ wo : World, wo = wr := ⟨_, rfl⟩
          go_loopw [50] (fun i wr => ∃ u : Nat, u ≤ v ∧ i = .int .i64 u ∧ Hid (∀ b, b < u → (x v).toNat.testBit b = (x b).toNat.testBit v) ∧ Below W.heap.size W wr) (fun i _ => v - (intOf i).toNat)
          case atStart => exact ⟨0, Nat.zero_le _, rfl, fun b hb => absurd hb (by omega), hbr⟩
          case round =>
            obtain ⟨u, hu, rfl, hrow, hbr2⟩ := hrel
            by_cases hlu : u < v
            · have f2 := (hbr2.cell (p := ⟨b, o + u, none⟩) (by show b < _; omega)).trans (hcW u (by omega))
              have q1 := (hbr2.cell (p := ⟨w.heap.size, 1, none⟩) hsz).trans e1
              have r3 := (hall.out u (by omega)).1
              have r4 := (hall.out u (by omega)).2.1
              have i1 : (u : Int) < (k : Int) := by omega
              cases hb1 : (x v).toNat.testBit u <;> cases hb2 : (x u).toNat.testBit v
              all_goals
                have H1 := Lib.hid hb1
                have H2 := Lib.hid hb2
                clear hcW hb1 hb2 e0 e1 f1
                go_wp2
                go_quiet (first | (go_at_call 58; exact Calls.quiet_of_same ((has_any _ _ _ (by omega) (by omega) (by omega) (by omega)).mono fun _ _ ⟨h1, h2⟩ => ⟨h1, h2.symm⟩)))
                simp only [Int.toNat_natCast, H1.out, H2.out]
                go_wp2
                first
                  | (go_roundw
                     case rel =>
                       refine ⟨u + 1, by omega, by go_num, fun b hb => ?_, below_drewN hbr2 _⟩
                       by_cases hbu : b < u
                       · exact hrow.out b hbu
                       · obtain rfl : b = u := by omega
                         exact H1.out.trans H2.out.symm
                     case measure => simp [intOf]; omega)
                  | (have hno : Hid (okB k k x = false) := okB_no (fun hok => by have := hok.sym v u hlt (by omega); rw [H1.out, H2.out] at this; cases this)
                     go_ret
                     exact ⟨ret_bool hno.out.symm, HB.trans (below_drewN (hbr2.mono (Nat.le_of_lt hsz)) _)⟩)
            · obtain rfl : u = v := by omega
              clear hcW e0 e1 f1
              go_wp2
              go_roundw
              case rel =>
                refine ⟨u + 1, by omega, by go_num, fun a b ha hb => ?_, hbr2⟩
                by_cases hbu : a < u
                · exact hsym.out a b hbu hb
                · obtain rfl : a = u := by omega
                  exact hrow.out b hb
              case measure => simp [intOf]; omega
        · obtain rfl : v = k := by omega
          have hyes : Hid (okB v v x = true) := okB_yes (OkG.mk (by omega) (by omega) hall.out hsym.out)
          clear hcW e0 e1
          go_wp2
          go_ret
          exact ⟨ret_bool hyes.out.symm, HB.trans (hbr.mono (Nat.le_of_lt hsz))⟩
end Go.Proofs.YtjonhbmgmamchaaGreatDoor

/-
  Contract: the reference's IsGraph.
-/
namespace Go.Proofs.YtjonhbmgmamchaaGreatDoor
open Go.RowKit

/-- What has been looked at for vertex a: its row is a set without a, and whoever stands in it has a valid row with a in it. -/
def Seen (m : Nat) (x : Nat → Int) (a u : Nat) : Prop := ∀ b, b < u → (x a).toNat.testBit b = true → 0 ≤ x b ∧ x b < 2 ^ m ∧ (x b).toNat.testBit a = true

set_option maxRecDepth 100000 in
set_option maxHeartbeats 2000000 in
theorem IsGraph_s (sz : Int) (A : Option Addr) (m c : Nat) (x : Nat → Int) (w : World) (B : Nat) (h : Rd w B A m c x) (hB : B ≤ w.heap.size) (hm : m ≤ 1048576) (h1 : 1 ≤ sz) (h7 : sz ≤ 7) (hs : sz = (m : Int)) :
    Calls Tryz.prog 10 #[.agg #[.int .i64 sz, .slice A m c]] w fun e w' => e = .returned (.bool (okB sz m x)) ∧ Below w.heap.size w w' := by
  subst hs
  obtain ⟨b, o, rfl, hb, hc⟩ := h.pos (by omega)
  have p1 := two_pow_int m (by omega)
  have p2 := pow_shl m (by omega)
  go_enter Tryz.func10, Tryz.ntmps10
  go_wp2_with (first | (go_at_call 42; refine (l1In_yes _ _ _ _ h1 h7).mono ?_; rintro e w' ⟨rfl, rfl⟩))
  obtain ⟨W, hW⟩ : ∃ W : World, W = w.alloc (Obj.cells #[Value.int IntKind.i64 ↑m, Value.slice (some ⟨b, o, none⟩) m c] 27) := ⟨_, rfl⟩
  rw [← hW]
  have e0 : W.cell? ⟨w.heap.size, 0, none⟩ = some (.int .i64 m) := by rw [hW]; simp [go_sem]
  have e1 : W.cell? ⟨w.heap.size, 1, none⟩ = some (.slice (some ⟨b, o, none⟩) m c) := by rw [hW]; simp [go_sem]
  have hcW : ∀ j, j < m → W.cell? ⟨b, o + j, none⟩ = some (.int .i64 (x j)) := fun j hj => by rw [hW]; exact (World.cell?_alloc_lt w _ ⟨b, o + j, none⟩ (by show b < _; omega)).trans (hc j hj)
  have HB : Below w.heap.size w W := by rw [hW]; exact (Below.refl _ _).alloc (Nat.le_refl _) _
  have hsz : w.heap.size < W.heap.size := by rw [hW]; simp
  clear hW hc h
  go_loopw [3] (fun i wr => ∃ v : Nat, v ≤ m ∧ i = .int .i64 v ∧ Hid (∀ a, a < v → (0 ≤ x a ∧ x a < 2 ^ m ∧ (x a).toNat.testBit a = false) ∧ Seen m x a m) ∧ Below W.heap.size W wr) (fun i _ => m - (intOf i).toNat)
  case atStart => exact ⟨0, Nat.zero_le _, rfl, fun a ha => absurd ha (by omega), Below.refl _ _⟩
  case round =>
    obtain ⟨v, hv, rfl, hall, hbr⟩ := hrel
    by_cases hlt : v < m
    · have f1 := (hbr.cell (p := ⟨b, o + v, none⟩) (by show b < _; omega)).trans (hcW v hlt)
      have q0 := (hbr.cell (p := ⟨w.heap.size, 0, none⟩) hsz).trans e0
      have q1 := (hbr.cell (p := ⟨w.heap.size, 1, none⟩) hsz).trans e1
      have i1 : (v : Int) < (m : Int) := by omega
      by_cases hr1 : 0 ≤ x v
      · by_cases hr2 : x v < 2 ^ m
        · cases hbit : (x v).toNat.testBit v
          · have g1 := and_one_i64 (x v) v hr1 (by omega)
            rw [hbit] at g1
            have Hbit := Lib.hid hbit
            clear hbit
            have hd : decide (x v < 0) = false := by simpa using hr1
            have hd2 : decide (2 ^ m ≤ x v) = false := by simpa using hr2
            go_wp2
            go_quiet (fail)
            clear f1 q0 q1 g1 hd hd2
            go_wp2
            obtain ⟨wo, rfl⟩ : ∃ wo : World, wo = wr := ⟨_, rfl⟩
            go_loopw [4] (fun i wr => ∃ u : Nat, u ≤ m ∧ i = .int .i64 u ∧ Hid (Seen m x v u) ∧ Below W.heap.size W wr) (fun i _ => m - (intOf i).toNat)
            case atStart => exact ⟨0, Nat.zero_le _, rfl, fun b hb => absurd hb (by omega), below_drewN hbr _⟩
            case round =>
              obtain ⟨u, hu, rfl, hseen, hbr2⟩ := hrel
              by_cases hlu : u < m
              · have f1 := (hbr2.cell (p := ⟨b, o + v, none⟩) (by show b < _; omega)).trans (hcW v hlt)
                have f2 := (hbr2.cell (p := ⟨b, o + u, none⟩) (by show b < _; omega)).trans (hcW u hlu)
                have q0 := (hbr2.cell (p := ⟨w.heap.size, 0, none⟩) hsz).trans e0
                have q1 := (hbr2.cell (p := ⟨w.heap.size, 1, none⟩) hsz).trans e1
                have i2 : (u : Int) < (m : Int) := by omega
                have g1 := and_one_i64 (x v) u hr1 (by omega)
                clear hcW
                cases hb1 : (x v).toNat.testBit u
                · rw [hb1] at g1
                  have H1 := Lib.hid hb1
                  clear hb1
                  go_wp2
                  go_quiet (fail)
                  go_wp2
                  go_roundw
                  case rel =>
                    refine ⟨u + 1, by omega, by go_num, fun b hb ht => ?_, below_drewN hbr2 _⟩
                    by_cases hbu : b < u
                    · exact hseen.out b hbu ht
                    · obtain rfl : b = u := by omega
                      rw [H1.out] at ht; cases ht
                  case measure => simp [intOf]; omega
                · rw [hb1] at g1
                  have H1 := Lib.hid hb1
                  clear hb1
                  by_cases hu1 : 0 ≤ x u
                  · have hd : decide (x u < 0) = false := by simpa using hu1
                    by_cases hu2 : x u < 2 ^ m
                    · have hd2 : decide (2 ^ m ≤ x u) = false := by simpa using hu2
                      have g2 := and_one_i64' (x u) v hu1 (by omega)
                      cases hb2 : (x u).toNat.testBit v
                      · rw [hb2] at g2
                        have hno : Hid (okB m m x = false) := okB_no (fun hok => by have := hok.sym v u hlt (by omega); rw [H1.out, hb2] at this; cases this)
                        clear hb2
                        go_wp2
                        go_quiet (fail)
                        go_wp2
                        go_ret
                        exact ⟨ret_bool hno.out.symm, HB.trans (below_drewN (hbr2.mono (Nat.le_of_lt hsz)) _)⟩
                      · rw [hb2] at g2
                        have H2 := Lib.hid hb2
                        clear hb2
                        go_wp2
                        go_quiet (fail)
                        go_wp2
                        go_roundw
                        case rel =>
                          refine ⟨u + 1, by omega, by go_num, fun b hb ht => ?_, below_drewN hbr2 _⟩
                          by_cases hbu : b < u
                          · exact hseen.out b hbu ht
                          · obtain rfl : b = u := by omega
                            exact ⟨hu1, hu2, H2.out⟩
                        case measure => simp [intOf]; omega
                    · have hno : Hid (okB m m x = false) := okB_no (fun hok => hu2 (hok.rows u hlu).2.1)
                      have hd2 : decide (2 ^ m ≤ x u) = true := by simp; omega
                      go_wp2
                      go_quiet (fail)
                      go_wp2
                      go_ret
                      exact ⟨ret_bool hno.out.symm, HB.trans (below_drewN (hbr2.mono (Nat.le_of_lt hsz)) _)⟩
                  · have hno : Hid (okB m m x = false) := okB_no (fun hok => hu1 (hok.rows u hlu).1)
                    have hd : decide (x u < 0) = true := by simp; omega
                    go_wp2
                    go_quiet (fail)
                    go_wp2
                    go_ret
                    exact ⟨ret_bool hno.out.symm, HB.trans (below_drewN (hbr2.mono (Nat.le_of_lt hsz)) _)⟩
              · have hge : (m : Int) ≤ (u : Int) := by omega
                have q0 := (hbr2.cell (p := ⟨w.heap.size, 0, none⟩) hsz).trans e0
                clear hcW e0 e1 p2
                go_wp2
                go_roundw
                case rel =>
                  refine ⟨v + 1, by omega, by go_num, fun a ha => ?_, hbr2⟩
                  by_cases hav : a < v
                  · exact hall.out a hav
                  · obtain rfl : a = v := by omega
                    exact ⟨⟨hr1, hr2, Hbit.out⟩, fun b hb => hseen.out b (by omega)⟩
                case measure => simp [intOf]; omega
          · have g1 := and_one_i64 (x v) v hr1 (by omega)
            rw [hbit] at g1
            have hno : Hid (okB m m x = false) := okB_no (fun hok => by have := (hok.rows v hlt).2.2; rw [hbit] at this; cases this)
            have hd : decide (x v < 0) = false := by simpa using hr1
            have hd2 : decide (2 ^ m ≤ x v) = false := by simpa using hr2
            clear hbit hcW
            go_wp2
            go_quiet (fail)
            go_wp2
            go_ret
            exact ⟨ret_bool hno.out.symm, HB.trans (below_drewN (hbr.mono (Nat.le_of_lt hsz)) _)⟩
        · have hno : Hid (okB m m x = false) := okB_no (fun hok => hr2 (hok.rows v hlt).2.1)
          have hd : decide (x v < 0) = false := by simpa using hr1
          have hd2 : decide (2 ^ m ≤ x v) = true := by simp; omega
          clear hcW
          go_wp2
          go_quiet (fail)
          go_wp2
          go_ret
          exact ⟨ret_bool hno.out.symm, HB.trans (below_drewN (hbr.mono (Nat.le_of_lt hsz)) _)⟩
      · have hno : Hid (okB m m x = false) := okB_no (fun hok => hr1 (hok.rows v hlt).1)
        have hd : decide (x v < 0) = true := by simp; omega
        clear hcW
        go_wp2
        go_quiet (fail)
        go_wp2
        go_ret
        exact ⟨ret_bool hno.out.symm, HB.trans (below_drewN (hbr.mono (Nat.le_of_lt hsz)) _)⟩
    · obtain rfl : v = m := by omega
      have hyes : Hid (okB v v x = true) := okB_yes (OkG.mk (by omega) (by omega) (fun a ha => (hall.out a ha).1) (fun a b ha hb => by
        have s1 := (hall.out a ha).2 b (by omega)
        have s2 := (hall.out b (by omega)).2 a ha
        cases ha' : (x a).toNat.testBit b <;> cases hb' : (x b).toNat.testBit a
        · rfl
        · have := (s2 hb').2.2; rw [ha'] at this; cases this
        · have := (s1 ha').2.2; rw [hb'] at this; cases this
        · rfl))
      have q0 := (hbr.cell (p := ⟨w.heap.size, 0, none⟩) hsz).trans e0
      clear hcW
      go_wp2
      go_ret
      exact ⟨ret_bool hyes.out.symm, HB.trans (hbr.mono (Nat.le_of_lt hsz))⟩
end Go.Proofs.YtjonhbmgmamchaaGreatDoor

/-
  Contracts: is it a graph (any size); has one graph at most the edges of another; is a graph between two others.
-/
namespace Go.Proofs.YtjonhbmgmamchaaGreatDoor
open Go.RowKit

theorem okB_far {sz : Int} {m : Nat} {x : Nat → Int} (h : sz < 1 ∨ 7 < sz ∨ sz ≠ m) : okB sz m x = false := okB_no (fun ⟨r, e, hg, _⟩ => by have := hg.n1; have := hg.n7; omega)

set_option maxHeartbeats 400000 in
theorem IsGraph_any (sz : Int) (A : Option Addr) (m c : Nat) (x : Nat → Int) (w : World) (B : Nat) (h : Rd w B A m c x) (hB : B ≤ w.heap.size) (hm : m ≤ 1048576) :
    Calls Tryz.prog 26 #[.agg #[.int .i64 sz, .slice A m c]] w fun e w' => e = .returned (.bool (okB sz m x)) ∧ Below w.heap.size w w' := by
  by_cases h1 : 1 ≤ sz ∧ sz ≤ 7
  · by_cases hs : sz = (m : Int)
    · exact IsGraph_i sz A m c x w B h hB hm h1.1 h1.2 hs
    · rw [okB_far (.inr (.inr hs))]
      have Hb : Hid (Below w.heap.size w (w.alloc (Obj.cells #[Value.int IntKind.i64 sz, Value.slice A m c] 27))) := (Below.refl _ _).alloc (Nat.le_refl _) _
      have hne : ((m : Int) != sz) = true := by simp; omega
      obtain ⟨ha, hb⟩ := h1
      clear h hs
      go_enter Tryz.func26, Tryz.ntmps26
      go_wp2_with (first | (go_at_call 57; refine (within_yes _ _ _ _ ha hb).mono ?_; rintro e w' ⟨rfl, rfl⟩))
      go_ret
      exact ⟨rfl, Hb.out⟩
  · rw [okB_far (by omega)]
    have Hb : Hid (Below w.heap.size w (w.alloc (Obj.cells #[Value.int IntKind.i64 sz, Value.slice A m c] 27))) := (Below.refl _ _).alloc (Nat.le_refl _) _
    have hn : sz < 1 ∨ 7 < sz := by omega
    have Hn := Lib.hid hn
    clear h h1 hn
    go_enter Tryz.func26, Tryz.ntmps26
    go_wp2_with (first | (go_at_call 57; refine (within_no _ _ _ _ Hn.out).mono ?_; rintro e w' ⟨rfl, rfl⟩))
    go_ret
    exact ⟨rfl, Hb.out⟩

set_option maxHeartbeats 400000 in
set_option maxRecDepth 100000 in
theorem IsGraph_sany (sz : Int) (A : Option Addr) (m c : Nat) (x : Nat → Int) (w : World) (B : Nat) (h : Rd w B A m c x) (hB : B ≤ w.heap.size) (hm : m ≤ 1048576) :
    Calls Tryz.prog 10 #[.agg #[.int .i64 sz, .slice A m c]] w fun e w' => e = .returned (.bool (okB sz m x)) ∧ Below w.heap.size w w' := by
  by_cases h1 : 1 ≤ sz ∧ sz ≤ 7
  · by_cases hs : sz = (m : Int)
    · exact IsGraph_s sz A m c x w B h hB hm h1.1 h1.2 hs
    · rw [okB_far (.inr (.inr hs))]
      have Hb : Hid (Below w.heap.size w (w.alloc (Obj.cells #[Value.int IntKind.i64 sz, Value.slice A m c] 27))) := (Below.refl _ _).alloc (Nat.le_refl _) _
      have hne : ((m : Int) != sz) = true := by simp; omega
      obtain ⟨ha, hb⟩ := h1
      clear h hs
      go_enter Tryz.func10, Tryz.ntmps10
      go_wp2_with (first | (go_at_call 42; refine (l1In_yes _ _ _ _ ha hb).mono ?_; rintro e w' ⟨rfl, rfl⟩))
      go_ret
      exact ⟨rfl, Hb.out⟩
  · rw [okB_far (by omega)]
    have Hb : Hid (Below w.heap.size w (w.alloc (Obj.cells #[Value.int IntKind.i64 sz, Value.slice A m c] 27))) := (Below.refl _ _).alloc (Nat.le_refl _) _
    have hn : sz < 1 ∨ 7 < sz := by omega
    have Hn := Lib.hid hn
    clear h h1 hn
    go_enter Tryz.func10, Tryz.ntmps10
    go_wp2_with (first | (go_at_call 42; refine (l1In_no _ _ _ _ Hn.out).mono ?_; rintro e w' ⟨rfl, rfl⟩))
    go_ret
    exact ⟨rfl, Hb.out⟩

end Go.Proofs.YtjonhbmgmamchaaGreatDoor
