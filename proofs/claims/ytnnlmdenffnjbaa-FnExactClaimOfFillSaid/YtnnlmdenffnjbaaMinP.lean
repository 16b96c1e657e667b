/-
  Plain: the edges of a fill, of which one after the other is taken away while the graph stays chordal.
-/
import Derived.Test.YtnnlmdenffnjbaaMinFillS
import Derived.Test.YtnnlmdenffnjbaaRev
import Derived.Test.YtnnlmdenffnjbaaLexS
import Derived.Test.YtnnlmdenffnjbaaFillOI
namespace Go.Proofs.Ytnnlmdenffnjbaa

section
variable {sz : Int} {m : Nat} {x : Nat → Int}
/-- One round: from the last edge on. -/
noncomputable def mrK (sz : Int) (m : Nat) (x : Nat → Int) : Nat → List (List Int) → List (List Int)
  | 0, L => L
  | k + 1, L => mrK sz m x k (if fiB sz m x (L.eraseIdx k) = true then L.eraseIdx k else L)
theorem mrK_len : ∀ (k : Nat) (L : List (List Int)), (mrK sz m x k L).length ≤ L.length
  | 0, _ => Nat.le_refl _
  | k + 1, L => by
    rw [mrK]
    refine Nat.le_trans (mrK_len k _) ?_
    split
    · exact List.length_eraseIdx_le ..
    · exact Nat.le_refl _
/-- A round that takes no edge away leaves the list as it is. -/
theorem mrK_same : ∀ (k : Nat) (L : List (List Int)), k ≤ L.length → (mrK sz m x k L).length = L.length → mrK sz m x k L = L
  | 0, _, _, _ => rfl
  | k + 1, L, hk, h => by
    rw [mrK] at h ⊢
    split at h
    · rename_i hf
      have h1 := mrK_len (sz := sz) (m := m) (x := x) k (L.eraseIdx k)
      rw [List.length_eraseIdx_of_lt (by omega)] at h1
      omega
    · rename_i hf
      rw [if_neg hf]
      exact mrK_same k L (by omega) h
/-- Rounds until nothing is taken away. -/
noncomputable def mfL (sz : Int) (m : Nat) (x : Nat → Int) (L : List (List Int)) : List (List Int) :=
  if (mrK sz m x L.length L).length < L.length then mfL sz m x (mrK sz m x L.length L) else L
termination_by L.length
theorem mfL_more {L : List (List Int)} (h : (mrK sz m x L.length L).length < L.length) : mfL sz m x L = mfL sz m x (mrK sz m x L.length L) := by
  rw [mfL, if_pos h]
theorem mfL_done {L : List (List Int)} (h : ¬(mrK sz m x L.length L).length < L.length) : mfL sz m x L = L := by
  rw [mfL, if_neg h]
theorem mrK_yes {k : Nat} {L : List (List Int)} (h : fiB sz m x (L.eraseIdx k) = true) : mrK sz m x (k + 1) L = mrK sz m x k (L.eraseIdx k) := by rw [mrK, if_pos h]
theorem mrK_no {k : Nat} {L : List (List Int)} (h : fiB sz m x (L.eraseIdx k) = false) : mrK sz m x (k + 1) L = mrK sz m x k L := by rw [mrK, if_neg (by simp [h])]
end
/-- The minimal fill. -/
noncomputable def miL (sz : Int) (m : Nat) (x : Nat → Int) : List (List Int) := if lxB sz m x 0 = true then mfL sz m x (fofL sz m x (ci (lxL sz m x 0).reverse)) else []
theorem miL_no {sz : Int} {m : Nat} {x : Nat → Int} (h : lxB sz m x 0 = false) : miL sz m x = [] := by unfold miL; rw [h]; rfl
theorem miL_yes {sz : Int} {m : Nat} {x : Nat → Int} (h : lxB sz m x 0 = true) : miL sz m x = mfL sz m x (fofL sz m x (ci (lxL sz m x 0).reverse)) := by unfold miL; rw [h]; rfl
end Go.Proofs.Ytnnlmdenffnjbaa
