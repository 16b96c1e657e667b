/-
  Contracts: is a number a set of a graph's vertices? is it a clique, independent, dominating, a packing? The program's tests.
-/
import Derived.Test.YtppkokgiojcgbaaDoorQzSet2P
import Derived.Test.YtppkokgiojcgbaaDoorQzBest
namespace Go.Proofs.YtppkokgiojcgbaaDoor
open Go.RowKit

/-- A graph argument that may not be valid. -/
structure GA (w : World) (A : Option Addr) (m c : Nat) (x : Nat → Int) : Prop where
  rd : Rd w w.heap.size A m c x
theorem GA.keep {w w' : World} {A : Option Addr} {m c : Nat} {x : Nat → Int} (h : GA w A m c x) (hb : Below w.heap.size w w') : GA w' A m c x := ⟨h.rd.keep hb hb.size⟩
theorem GA.gv {w : World} {A : Option Addr} {m c : Nat} {x : Nat → Int} (h : GA w A m c x) (hok : okB m m x = true) : GV w A m c (rw_ x) := GV.of h.rd (Nat.le_refl _) hok
section
variable {A : Option Addr} {m c : Nat} {r : Nat → Nat}
end
end Go.Proofs.YtppkokgiojcgbaaDoor
