/-
  Several texts in one: words for memory, plain laws and contracts that the later texts lean on.
-/
import Derived.Test.YtncjfgebolikoaaDoorQvGB
import Derived.Test.YtncjfgebolikoaaDoorQvGA
import Derived.Deep.RegionLaw
import Derived.Deep.RegionHeld3
import Derived.ArgAppend
/-
  Contracts: is a graph chordal? The program's elimination.
-/
namespace Go.Proofs.YtncjfgebolikoaaDoor
open Go.RowKit

/-- The first place at which p holds, or -1. -/
def fIdx (p : Nat → Bool) (n : Nat) : Int := match (List.range n).find? p with | some k => (k : Int) | none => -1
theorem fIdx_yes {p : Nat → Bool} {n k : Nat} (hk : k < n) (hp : p k = true) (hmin : ∀ j, j < k → p j = false) : fIdx p n = k := by
  have : (List.range n).find? p = some k := by
    rw [List.find?_range_eq_some]
    exact ⟨hp, by simp [hk], fun j hj => by simp [hmin j hj]⟩
  unfold fIdx; rw [this]
theorem fIdx_no {p : Nat → Bool} {n : Nat} (h : ∀ j, j < n → p j = false) : fIdx p n = -1 := by
  have : (List.range n).find? p = none := by
    rw [List.find?_eq_none]
    intro j hj
    simp [h j (List.mem_range.1 hj)]
  unfold fIdx; rw [this]

end Go.Proofs.YtncjfgebolikoaaDoor

/-
  Contracts: neighbours, parts, numbers of members: the program's.
-/
namespace Go.Proofs.YtncjfgebolikoaaDoor
open Go.RowKit

end Go.Proofs.YtncjfgebolikoaaDoor

/-
  Contracts: a set without which more parts are left than it has members: the program's search.
-/
namespace Go.Proofs.YtncjfgebolikoaaDoor
open Go.RowKit

end Go.Proofs.YtncjfgebolikoaaDoor

/-
  Contracts: a set without which more parts are left than it has members: the reference's search.
-/
namespace Go.Proofs.YtncjfgebolikoaaDoor
open Go.RowKit

end Go.Proofs.YtncjfgebolikoaaDoor

/-
  Contract: a graph and one edge more, of the program.
-/
namespace Go.Proofs.YtncjfgebolikoaaDoor
open Go.RowKit

end Go.Proofs.YtncjfgebolikoaaDoor

/-
  Plain: a graph and a list of edges more.
-/
namespace Go.Proofs.YtncjfgebolikoaaDoor

end Go.Proofs.YtncjfgebolikoaaDoor

/-
  Contract: a graph and one edge more, of the reference.
-/
namespace Go.Proofs.YtncjfgebolikoaaDoor
open Go.RowKit

end Go.Proofs.YtncjfgebolikoaaDoor

/-
  Contract: a graph and a list of edges more, of the program.
-/
namespace Go.Proofs.YtncjfgebolikoaaDoor
open Go.RowKit

end Go.Proofs.YtncjfgebolikoaaDoor

/-
  Contract: a graph and a list of edges more, of the reference.
-/
namespace Go.Proofs.YtncjfgebolikoaaDoor
open Go.RowKit

end Go.Proofs.YtncjfgebolikoaaDoor

/-
  Contracts: is a graph chordal? The program's answer.
-/
namespace Go.Proofs.YtncjfgebolikoaaDoor
open Go.RowKit

end Go.Proofs.YtncjfgebolikoaaDoor

/-
  Contracts: is a graph chordal? The reference's answer.
-/
namespace Go.Proofs.YtncjfgebolikoaaDoor
open Go.RowKit

end Go.Proofs.YtncjfgebolikoaaDoor

/-
  Contracts: is a vertex in a list? is a list a way? The program's tests.
-/
namespace Go.Proofs.YtncjfgebolikoaaDoor
open Go.RowKit

end Go.Proofs.YtncjfgebolikoaaDoor

/-
  Contracts: is a list a way? a list's copy; a list and one vertex more: the program's.
-/
namespace Go.Proofs.YtncjfgebolikoaaDoor
open Go.RowKit

/-! ### a list and one vertex more -/
end Go.Proofs.YtncjfgebolikoaaDoor

/-
  What the searches for ways answer, as plain functions.
-/
namespace Go.Proofs.YtncjfgebolikoaaDoor
open Go.RowKit

end Go.Proofs.YtncjfgebolikoaaDoor

/-
  Contracts: the reference's search for a way through all vertices.
-/
namespace Go.Proofs.YtncjfgebolikoaaDoor
open Go.RowKit

end Go.Proofs.YtncjfgebolikoaaDoor
