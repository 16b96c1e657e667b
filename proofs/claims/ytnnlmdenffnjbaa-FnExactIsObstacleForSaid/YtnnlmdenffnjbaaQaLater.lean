/-
  Contracts: the neighbours of a vertex that stand behind it in an order: both programs'.
-/
import Derived.Test.YtnnlmdenffnjbaaQaListS
namespace Go.Proofs.Ytnnlmdenffnjbaa
open Go.RowKit

/-- An order has every vertex. -/
theorem VZ.all {m : Nat} {l : List Int} (h : VZ m l) (hl : l.length = m) {v : Int} (h0 : 0 ≤ v) (h1 : v < m) : v ∈ l := by
  refine Classical.byContradiction fun hn => ?_
  have : VZ m (v :: l) := ⟨List.nodup_cons.2 ⟨hn, h.1⟩, fun u hu => by
    rw [List.mem_cons] at hu
    rcases hu with rfl | hu
    · exact ⟨h0, h1⟩
    · exact h.2 u hu⟩
  have := this.len
  rw [List.length_cons] at this
  omega
end Go.Proofs.Ytnnlmdenffnjbaa
