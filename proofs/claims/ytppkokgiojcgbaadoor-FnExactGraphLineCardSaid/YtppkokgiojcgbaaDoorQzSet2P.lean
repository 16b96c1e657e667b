/-
  Plain: sets of vertices of a graph that may not be valid; dominating sets, packings, independent sets.
-/
import Derived.Test.YtppkokgiojcgbaaDoorQzV
import Derived.Test.YtppkokgiojcgbaaDoorQzGA
namespace Go.Proofs.YtppkokgiojcgbaaDoor

theorem pow_cast (m : Nat) : ((2 ^ m : Nat) : Int) = 2 ^ m := by simp
end Go.Proofs.YtppkokgiojcgbaaDoor
