/-
  A claim as it lies in memory; contracts of the law's helpers on claims: size, copy, compare.
-/
import Derived.Test.YtncjfgebolikoaaDoorQvGB
import Derived.Test.YtncjfgebolikoaaDoorQvGL
namespace Go.Proofs.YtncjfgebolikoaaDoor
open Go.RowKit

/-- A claim: kind, graph, class, numbers, others, edges, each slice with its place. -/
structure Clm where
  K : Int
  s : Int
  A0 : Option Addr
  n0 : Nat
  c0 : Nat
  x0 : Nat → Int
  t : ByteArray
  A1 : Option Addr
  n1 : Nat
  c1 : Nat
  x1 : Nat → Int
  A2 : Option Addr
  n2 : Nat
  c2 : Nat
  x2 : Nat → Int
  A3 : Option Addr
  c3 : Nat
  D : List Dsc
section
variable {w w' : World} {lo hi lo' hi' B B' : Nat} {k j : Clm}
end

end Go.Proofs.YtncjfgebolikoaaDoor
