/-
  Plain: searches for the first list leave out only what cannot be; lists of four by their number; lengths one after another.
-/
import Derived.Test.YtppkokgiojcgbaaDoorQzBest
import Derived.Test.YtppkokgiojcgbaaDoorQzSet2P
import Derived.Test.YtppkokgiojcgbaaDoorQzSet2I
import Derived.Test.YtppkokgiojcgbaaDoorQzGC
import Derived.Test.YtppkokgiojcgbaaDoorQzTake
import Derived.Deep.QuietTactic
import Derived.BigQuiet
import Derived.Test.YtppkokgiojcgbaaDoorQzColP
import Derived.Test.YtppkokgiojcgbaaDoorQzFirst
import Derived.Test.YtppkokgiojcgbaaDoorQzV
import Derived.Test.YtppkokgiojcgbaaDoorQzUmbI
namespace Go.Proofs.YtppkokgiojcgbaaDoor
open Go.RowKit

section
variable {n0 s n m : Nat} {f : Nat → Option (List Nat)}
end
/-! The obstacles, over lists of vertices. -/
abbrev zl (l : List Nat) : List Int := l.map fun v : Nat => (v : Int)
theorem zl_getD (l : List Nat) (i : Nat) : (zl l).getD i 0 = ((l.getD i 0 : Nat) : Int) := by
  simp only [zl, List.getD_eq_getElem?_getD, List.getElem?_map]
  cases l[i]? <;> rfl
theorem zl_len (l : List Nat) : (zl l).length = l.length := List.length_map ..
section
variable (r : Nat → Nat) (m : Nat)
end
section
variable {r : Nat → Nat} {m : Nat} {J K : Nat → Nat → Bool} {l a : List Nat}
/-! The reference's tests on the way. -/
end
end Go.Proofs.YtppkokgiojcgbaaDoor
