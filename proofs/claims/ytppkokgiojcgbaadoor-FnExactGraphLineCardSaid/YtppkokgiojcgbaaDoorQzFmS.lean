/-
  Contracts: a number of one digit as text: the reference's way. What a list of edits reads as.
-/
import Derived.Test.YtppkokgiojcgbaaDoorQzGL
import Derived.Test.YtppkokgiojcgbaaDoorQzGB
namespace Go.Proofs.YtppkokgiojcgbaaDoor
open Go.RowKit

/-- The text of a digit. -/
def dgB (d : Nat) : ByteArray := ⟨#[UInt8.ofNat (48 + d)]⟩

set_option maxRecDepth 100000 in
set_option maxHeartbeats 2000000 in
theorem FormatInt_s1 (d : Nat) (hd : d < 10) (w : World) : Calls Tryd.prog 31 #[.int .i64 d] w fun e w' => e = .returned (.string (dgB d)) ∧ Below w.heap.size w w' := by
  have hc : d = 0 ∨ d = 1 ∨ d = 2 ∨ d = 3 ∨ d = 4 ∨ d = 5 ∨ d = 6 ∨ d = 7 ∨ d = 8 ∨ d = 9 := by omega
  clear hd
  have cv := conv1
  rcases hc with rfl | rfl | rfl | rfl | rfl | rfl | rfl | rfl | rfl | rfl
  · go_enter Tryd.func31, Tryd.ntmps31
    go_wp2
    go_ret
    exact ⟨rfl, Below.refl _ _⟩
  all_goals
    go_enter Tryd.func31, Tryd.ntmps31
    go_wp2
    refine wp_loop_rounds 2 ?_
    rw [rounds_succ]
    go_wp2
    rw [rounds_succ]
    go_wp2
    go_ret
    exact ⟨rfl, (Below.refl _ _).alloc (Nat.le_refl _) _⟩
end Go.Proofs.YtppkokgiojcgbaaDoor
