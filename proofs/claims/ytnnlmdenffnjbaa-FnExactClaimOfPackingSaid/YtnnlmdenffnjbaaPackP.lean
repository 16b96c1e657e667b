/-
  Plain: the least dominating set, the greatest packing, the gap between them; the claim of a packing.
-/
import Derived.Test.YtnnlmdenffnjbaaSet2S
import Derived.Test.YtnnlmdenffnjbaaClaimBox
namespace Go.Proofs.Ytnnlmdenffnjbaa

def fdN (r : Nat → Nat) (m : Nat) : Nat := (fwK (domB r m) (2 ^ m)).getD 0
def lpN (r : Nat → Nat) (m : Nat) : Nat := lgK (pakB r m) (2 ^ m)
theorem fd_some {r : Nat → Nat} {m : Nat} (h : VG m r) : fwK (domB r m) (2 ^ m) = some (fdN r m) := by
  unfold fdN
  cases e : fwK (domB r m) (2 ^ m) with
  | none => exact absurd e (fwK_some _ (2 ^ m - 1) (by have := Nat.two_pow_pos m; omega) (dom_all h))
  | some b => rfl
theorem fd_lt {r : Nat → Nat} {m : Nat} (h : VG m r) : fdN r m < 2 ^ m := (fwK_lt _ _ (fd_some h)).1
theorem lp_lt (r : Nat → Nat) (m : Nat) : lpN r m < 2 ^ m := lgK_lt _ (Nat.two_pow_pos m)
/-- The gap is none. -/
noncomputable def cpB (sz : Int) (m : Nat) (x : Nat → Int) : Bool := okB sz m x && (cn (fdN (rw_ x) m) == cn (lpN (rw_ x) m))
noncomputable def cpK (sz : Int) (m : Nat) (x : Nat → Int) : Clm := if cpB sz m x = true then { zeroK with K := 6, s := sz, n0 := m, x0 := x, n1 := 1, x1 := fun _ => (fdN (rw_ x) m : Int), n2 := 1, x2 := fun _ => (lpN (rw_ x) m : Int) } else zeroK
theorem cpK_no {sz : Int} {m : Nat} {x : Nat → Int} (h : cpB sz m x = false) : cpK sz m x = zeroK := by unfold cpK; rw [h]; rfl
theorem cpK_yes {sz : Int} {m : Nat} {x : Nat → Int} (h : cpB sz m x = true) : cpK sz m x = { zeroK with K := 6, s := sz, n0 := m, x0 := x, n1 := 1, x1 := fun _ => (fdN (rw_ x) m : Int), n2 := 1, x2 := fun _ => (lpN (rw_ x) m : Int) } := by unfold cpK; rw [h]; rfl
theorem cpK_small {sz : Int} {m : Nat} {x : Nat → Int} (h : m ≤ 1048576) : SmK (cpK sz m x) := by
  cases hb : cpB sz m x
  · rw [cpK_no hb]; exact ⟨by decide, by decide, by decide, by decide, by decide, by decide⟩
  · rw [cpK_yes hb]; exact ⟨h, Nat.zero_le _, by show 1 ≤ _; omega, by show 1 ≤ _; omega, Nat.zero_le _, Nat.zero_le _⟩
theorem cpB_ok {sz : Int} {m : Nat} {x : Nat → Int} (h : okB sz m x = false) : cpB sz m x = false := by unfold cpB; rw [h]; rfl
end Go.Proofs.Ytnnlmdenffnjbaa
