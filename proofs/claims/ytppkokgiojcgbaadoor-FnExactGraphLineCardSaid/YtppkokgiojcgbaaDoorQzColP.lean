/-
  Plain: the first coloring with so many colors; the fewest colors; a cover by the colors' sets.
-/
import Derived.Test.YtppkokgiojcgbaaDoorQzSet2I
import Derived.Test.YtppkokgiojcgbaaDoorQzGC
import Derived.Deep.QuietTactic
import Derived.BigQuiet
import Derived.Test.YtppkokgiojcgbaaDoorQzTake
import Derived.Test.YtppkokgiojcgbaaDoorQzFirst
import Derived.Test.YtppkokgiojcgbaaDoorQzSet2P
namespace Go.Proofs.YtppkokgiojcgbaaDoor
open Go.RowKit

section
variable {r : Nat → Nat} {k j v c m : Nat} {l : List Nat}
end
section
variable {r : Nat → Nat} {m k : Nat}
end
def lqN (r : Nat → Nat) (m : Nat) : Nat := lgK (cliq r) (2 ^ m)
theorem lq_lt (r : Nat → Nat) (m : Nat) : lqN r m < 2 ^ m := lgK_lt _ (Nat.two_pow_pos m)
end Go.Proofs.YtppkokgiojcgbaaDoor
