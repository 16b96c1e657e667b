/-
  Contracts: the classes' names, of both programs.
-/
import Derived.Test.YtccblehcemggjaaLawStr
namespace Go.Proofs.Ytccblehcemggjaa
open Go.RowKit

/-- The names, in order. -/
def cnL : List ByteArray := [⟨#[99, 104, 111, 114, 100, 97, 108]⟩, ⟨#[105, 110, 116, 101, 114, 118, 97, 108]⟩, ⟨#[112, 114, 111, 112, 101, 114]⟩, ⟨#[99, 111, 103, 114, 97, 112, 104]⟩, ⟨#[115, 112, 108, 105, 116]⟩, ⟨#[116, 104, 114, 101, 115, 104, 111, 108, 100]⟩, ⟨#[98, 105, 112, 97, 114, 116, 105, 116, 101]⟩, ⟨#[115, 116, 114, 111, 110, 103]⟩, ⟨#[112, 101, 114, 102, 101, 99, 116]⟩]
def cn (j : Nat) : ByteArray := cnL.getD j ⟨#[]⟩
theorem cn_own (w : World) : Own (w.alloc (Obj.cells #[.string ⟨#[99, 104, 111, 114, 100, 97, 108]⟩, .string ⟨#[105, 110, 116, 101, 114, 118, 97, 108]⟩, .string ⟨#[112, 114, 111, 112, 101, 114]⟩, .string ⟨#[99, 111, 103, 114, 97, 112, 104]⟩, .string ⟨#[115, 112, 108, 105, 116]⟩, .string ⟨#[116, 104, 114, 101, 115, 104, 111, 108, 100]⟩, .string ⟨#[98, 105, 112, 97, 114, 116, 105, 116, 101]⟩, .string ⟨#[115, 116, 114, 111, 110, 103]⟩, .string ⟨#[112, 101, 114, 102, 101, 99, 116]⟩] 9)) w.heap.size (w.heap.size + 1) 9 1 (some ⟨w.heap.size, 0, none⟩) 9 9 (strs cn) :=
  .inr ⟨w.heap.size, _, rfl, Nat.le_refl _, Nat.lt_succ_self _, heap_alloc_new w _, Nat.le_refl _, by unfold maxLen; omega, rfl, fun j hj => by
    have hc : j = 0 ∨ j = 1 ∨ j = 2 ∨ j = 3 ∨ j = 4 ∨ j = 5 ∨ j = 6 ∨ j = 7 ∨ j = 8 := by omega
    rcases hc with rfl | rfl | rfl | rfl | rfl | rfl | rfl | rfl | rfl <;> rfl⟩

set_option maxRecDepth 100000 in
set_option maxHeartbeats 1000000 in
theorem ClassNames_i (w : World) : Calls Try.prog 18 #[] w fun e w' => ∃ A c, e = .returned (.slice A 9 c) ∧ Own w' w.heap.size w'.heap.size 9 1 A 9 c (strs cn) ∧ Below w.heap.size w w' := by
  have H := Lib.hid (cn_own w)
  go_enter Try.func18, Try.ntmps18
  go_wp2
  go_ret
  exact ⟨_, 9, rfl, H.out.mono (Nat.le_refl _) (by simp), (Below.refl _ _).alloc (Nat.le_refl _) _⟩

set_option maxRecDepth 100000 in
set_option maxHeartbeats 1000000 in
theorem ClassNames_s (w : World) : Calls Try.prog 17 #[] w fun e w' => ∃ A c, e = .returned (.slice A 9 c) ∧ Own w' w.heap.size w'.heap.size 9 1 A 9 c (strs cn) ∧ Below w.heap.size w w' := by
  have H := Lib.hid (cn_own w)
  go_enter Try.func17, Try.ntmps17
  go_wp2
  go_ret
  exact ⟨_, 9, rfl, H.out.mono (Nat.le_refl _) (by simp), (Below.refl _ _).alloc (Nat.le_refl _) _⟩
end Go.Proofs.Ytccblehcemggjaa
