/-
  Small words for memory and for bits, over no program: a slice that reads as so many numbers, what lies below a block, bits of numbers that are not negative.
-/
import Derived.WalkKit
import Derived.WalkSpells
import Derived.WalkLawsBesides
import Derived.Lib.Hide
namespace Go.Proofs.Ytnnlmdenffnjbaa
open Go.RowKit

theorem ret_bool {a b : Bool} (h : a = b) : Ending.returned (.bool a) = .returned (.bool b) := by rw [h]
theorem ret_int {k : IntKind} {a b : Int} (h : a = b) : Ending.returned (.int k a) = .returned (.int k b) := by rw [h]

theorem bcell {B : Nat} {W w1 : World} (hb : Below B W w1) : (∀ b o, b < B → w1.cell? ⟨b, o, none⟩ = W.cell? ⟨b, o, none⟩) ∧ (∀ b o, b < B → w1.frozen? ⟨b, o, none⟩ = W.frozen? ⟨b, o, none⟩) :=
  ⟨fun b o h => hb.cell (p := ⟨b, o, none⟩) h, fun b o h => hb.frozen (p := ⟨b, o, none⟩) h⟩

/-- The slice value '.slice A n c' reads as the numbers x 0, .., x (n - 1), in blocks below B. -/
def Rd (w : World) (B : Nat) (A : Option Addr) (n c : Nat) (x : Nat → Int) : Prop :=
  n ≤ c ∧ (0 < n → ∃ b o, A = some ⟨b, o, none⟩ ∧ b < B ∧ ∀ k, k < n → w.cell? ⟨b, o + k, none⟩ = some (.int .i64 (x k)))

theorem Rd.le {w : World} {B : Nat} {A : Option Addr} {n c : Nat} {x : Nat → Int} (h : Rd w B A n c x) : n ≤ c := h.1
theorem Rd.pos {w : World} {B : Nat} {A : Option Addr} {n c : Nat} {x : Nat → Int} (h : Rd w B A n c x) (hn : 0 < n) :
    ∃ b o, A = some ⟨b, o, none⟩ ∧ b < B ∧ ∀ k, k < n → w.cell? ⟨b, o + k, none⟩ = some (.int .i64 (x k)) := h.2 hn
theorem Rd.keep {w w' : World} {B B' : Nat} {A : Option Addr} {n c : Nat} {x : Nat → Int} (h : Rd w B A n c x) (hb : Below B w w') (hB : B ≤ B') : Rd w' B' A n c x := by
  refine ⟨h.1, fun hn => ?_⟩
  obtain ⟨b, o, e, hlt, hc⟩ := h.2 hn
  exact ⟨b, o, e, by omega, fun k hk => (hb.cell (p := ⟨b, o + k, none⟩) hlt).trans (hc k hk)⟩
theorem Rd.nil (w : World) (B : Nat) (A : Option Addr) (c : Nat) (x : Nat → Int) : Rd w B A 0 c x := ⟨Nat.zero_le _, fun h => absurd h (by omega)⟩
theorem Rd.congr {w : World} {B : Nat} {A : Option Addr} {n c : Nat} {x y : Nat → Int} (h : Rd w B A n c x) (he : ∀ k, k < n → x k = y k) : Rd w B A n c y :=
  ⟨h.1, fun hn => by
    obtain ⟨b, o, e, hlt, hc⟩ := h.2 hn
    exact ⟨b, o, e, hlt, fun k hk => by rw [← he k hk]; exact hc k hk⟩⟩

/-! ### bits -/
theorem ofInt_i64 (a : Nat) (ha : a < 9223372036854775808) : (BitVec.ofInt 64 (a : Int)).toNat = a := by
  rw [BitVec.ofInt_natCast, BitVec.toNat_ofNat]; exact Nat.mod_eq_of_lt (by omega)
theorem i64_and_nat (a b : Nat) (ha : a < 9223372036854775808) (hb : b < 9223372036854775808) : bits .and .i64 (a : Int) (b : Int) = ((a &&& b : Nat) : Int) := by
  have hx : a &&& b < 2 ^ 63 := Nat.and_lt_two_pow _ (by omega)
  show IntKind.i64.wrap ((BitVec.ofInt 64 (a : Int) &&& BitVec.ofInt 64 (b : Int)).toNat : Int) = _
  rw [BitVec.toNat_and, ofInt_i64 a ha, ofInt_i64 b hb, IntKind.wrap_i64]
  omega
theorem i64_or_nat (a b : Nat) (ha : a < 9223372036854775808) (hb : b < 9223372036854775808) : bits .or .i64 (a : Int) (b : Int) = ((a ||| b : Nat) : Int) := by
  have hx : a ||| b < 2 ^ 63 := Nat.or_lt_two_pow (by omega) (by omega)
  show IntKind.i64.wrap ((BitVec.ofInt 64 (a : Int) ||| BitVec.ofInt 64 (b : Int)).toNat : Int) = _
  rw [BitVec.toNat_or, ofInt_i64 a ha, ofInt_i64 b hb, IntKind.wrap_i64]
  omega
theorem i64_xor_nat (a b : Nat) (ha : a < 9223372036854775808) (hb : b < 9223372036854775808) : bits .xor .i64 (a : Int) (b : Int) = ((a ^^^ b : Nat) : Int) := by
  have hx : a ^^^ b < 2 ^ 63 := Nat.xor_lt_two_pow (by omega) (by omega)
  show IntKind.i64.wrap ((BitVec.ofInt 64 (a : Int) ^^^ BitVec.ofInt 64 (b : Int)).toNat : Int) = _
  rw [BitVec.toNat_xor, ofInt_i64 a ha, ofInt_i64 b hb, IntKind.wrap_i64]
  omega
theorem and_one_i64 (s : Int) (v : Nat) (h0 : 0 ≤ s) (h1 : s < 16777216) : (bits .and .i64 (s / 2 ^ v) 1 == 1) = s.toNat.testBit v := by
  obtain ⟨a, rfl⟩ := Int.eq_ofNat_of_zero_le h0
  have e : ((a : Int) / 2 ^ v) = ((a / 2 ^ v : Nat) : Int) := by simp
  have hlt : a / 2 ^ v < 9223372036854775808 := by
    have : a / 2 ^ v ≤ a := Nat.div_le_self _ _
    omega
  have hb := i64_and_nat (a / 2 ^ v) 1 hlt (by omega)
  rw [e]
  show (bits .and .i64 ((a / 2 ^ v : Nat) : Int) ((1 : Nat) : Int) == 1) = _
  rw [hb, Int.toNat_natCast, Nat.testBit_eq_decide_div_mod_eq, Nat.and_one_is_mod]
  rw [Bool.eq_iff_iff]
  simp
  omega
theorem and_one_i64' (s : Int) (v : Nat) (h0 : 0 ≤ s) (h1 : s < 16777216) : (bits .and .i64 (s / 2 ^ v) 1 == 0) = !s.toNat.testBit v := by
  obtain ⟨a, rfl⟩ := Int.eq_ofNat_of_zero_le h0
  have e : ((a : Int) / 2 ^ v) = ((a / 2 ^ v : Nat) : Int) := by simp
  have hlt : a / 2 ^ v < 9223372036854775808 := by
    have : a / 2 ^ v ≤ a := Nat.div_le_self _ _
    omega
  have hb := i64_and_nat (a / 2 ^ v) 1 hlt (by omega)
  rw [e]
  show (bits .and .i64 ((a / 2 ^ v : Nat) : Int) ((1 : Nat) : Int) == 0) = _
  rw [hb, Int.toNat_natCast, Nat.testBit_eq_decide_div_mod_eq, Nat.and_one_is_mod]
  rw [Bool.eq_iff_iff]
  simp
  omega
end Go.Proofs.Ytnnlmdenffnjbaa
