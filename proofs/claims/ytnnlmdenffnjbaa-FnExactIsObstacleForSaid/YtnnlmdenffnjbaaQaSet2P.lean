/-
  Plain: sets of vertices of a graph that may not be valid; dominating sets, packings, independent sets.
-/
import Derived.Test.YtnnlmdenffnjbaaQaV
import Derived.Test.YtnnlmdenffnjbaaQaGA
namespace Go.Proofs.Ytnnlmdenffnjbaa

theorem pow_cast (m : Nat) : ((2 ^ m : Nat) : Int) = 2 ^ m := by simp
end Go.Proofs.Ytnnlmdenffnjbaa
