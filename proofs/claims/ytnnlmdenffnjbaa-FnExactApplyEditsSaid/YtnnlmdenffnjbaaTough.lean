/-
  Contracts: a set without which more parts are left than it has members: the program's search.
-/
import Derived.Test.YtnnlmdenffnjbaaParts
import Derived.Test.YtnnlmdenffnjbaaWithin
import Derived.Deep.RegionHeld3
namespace Go.Proofs.Ytnnlmdenffnjbaa
open Go.RowKit

theorem low_bits : ∀ s : Nat, s < 128 → s ≠ 0 → bits .and .i64 (s : Int) (-(s : Int)) = ((low s : Nat) : Int) := by decide +kernel

noncomputable def tw (sz : Int) (m : Nat) (x : Nat → Int) : Option Nat := if okB sz m x = true then twR (rw_ x) m else none
noncomputable def twI (sz : Int) (m : Nat) (x : Nat → Int) : Int := (((tw sz m x).getD 0 : Nat) : Int)
noncomputable def twO (sz : Int) (m : Nat) (x : Nat → Int) : Bool := (tw sz m x).isSome
theorem tw_none {sz : Int} {m : Nat} {x : Nat → Int} (h : tw sz m x = none) : twI sz m x = 0 ∧ twO sz m x = false := by unfold twI twO; rw [h]; exact ⟨rfl, rfl⟩
theorem tw_some {sz : Int} {m : Nat} {x : Nat → Int} {k : Nat} (h : tw sz m x = some k) : twI sz m x = k ∧ twO sz m x = true := by unfold twI twO; rw [h]; exact ⟨rfl, rfl⟩
theorem tw_bad {sz : Int} {m : Nat} {x : Nat → Int} (h : okB sz m x = false) : tw sz m x = none := by unfold tw; rw [h]; rfl
theorem tw_ok {sz : Int} {m : Nat} {x : Nat → Int} (h : okB sz m x = true) : tw sz m x = twR (rw_ x) m := by unfold tw; rw [h]; rfl

end Go.Proofs.Ytnnlmdenffnjbaa
