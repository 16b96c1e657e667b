/-
  Contracts: the filling of a graph in an order, of the reference.
-/
import Derived.Test.YtppkokgiojcgbaaDoorQzSet2I
import Derived.Test.YtppkokgiojcgbaaDoorQzGC
import Derived.Test.YtppkokgiojcgbaaDoorQzGB
import Derived.Test.YtppkokgiojcgbaaDoorQzGL
namespace Go.Proofs.YtppkokgiojcgbaaDoor
open Go.RowKit

section
variable {w w' : World} {A : Option Addr} {c lo m : Nat} {r : Nat → Nat}
theorem ON.set {q : Nat} {AL : Option Addr} {cL : Nat} {L : List Nat} (h : ON (q + 1) w AL cL L) (x y : Value) : ON (q + 1) ((w.setCell ⟨q, 0, none⟩ x).setCell ⟨q, 1, none⟩ y) AL cL L :=
  ⟨(h.own.keep (fr2 w q x y) (.inr (Nat.le_refl _))).mono (Nat.le_refl _) (fr2 w q x y).size⟩
end
end Go.Proofs.YtppkokgiojcgbaaDoor
