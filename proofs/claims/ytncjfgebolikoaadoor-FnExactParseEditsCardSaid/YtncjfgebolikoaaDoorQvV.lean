/-
  A valid graph in memory, by value and in its box; the contracts known so far in these words.
-/
import Derived.Test.YtncjfgebolikoaaDoorQvGC
import Derived.Test.YtncjfgebolikoaaDoorQvGB
namespace Go.Proofs.YtncjfgebolikoaaDoor
open Go.RowKit

theorem up_ {b o : Nat} {W w1 : World} {v : Value} (hb : Below W.heap.size W w1) (e : W.cell? ⟨b, o, none⟩ = some v) : w1.cell? ⟨b, o, none⟩ = some v := up hb e (World.block_lt_of_cell? _ _ e)

section
variable {w w' : World} {A : Option Addr} {m c q b o v : Nat} {r : Nat → Nat}
end
/-- The world w is w0 with new memory. -/
structure From (w0 w : World) : Prop where
  below : Below w0.heap.size w0 w
theorem From.refl (w : World) : From w w := ⟨Below.refl _ _⟩
theorem From.keep {w0 w w' : World} (h : From w0 w) (hb : Below w.heap.size w w') : From w0 w' := ⟨h.below.trans (hb.mono h.below.size)⟩
theorem From.alloc (w : World) (o : Obj) : From w (w.alloc o) := ⟨(Below.refl _ _).alloc (Nat.le_refl _) _⟩
theorem From.drewN {w0 w : World} (h : From w0 w) (n : Nat) : From w0 (w.drewN n) := ⟨below_drewN h.below n⟩
theorem From.drew {w0 w : World} (h : From w0 w) : From w0 w.drew := h.drewN 1
theorem From.up {w0 w w1 : World} (h : From w0 w) (k : From w w1) : From w0 w1 := h.keep k.below
section
variable {w w' : World} {A : Option Addr} {c lo b o j : Nat} {l : List Nat}
end
theorem bl_trans {w z y : World} (h : Below w.heap.size w z) (k : Below z.heap.size z y) : Below w.heap.size w y := h.trans (k.mono h.size)
section
variable {w w' : World} {q m c m' c' lo hi : Nat} {sz sz' : Int} {A A' : Option Addr}
theorem From.set {w0 w : World} (h : From w0 w) (hq : w0.heap.size ≤ q) (x y : Value) : From w0 ((w.setCell ⟨q, 0, none⟩ x).setCell ⟨q, 1, none⟩ y) :=
  ⟨(h.below.setCell (p := ⟨q, 0, none⟩) hq _).setCell (p := ⟨q, 1, none⟩) hq _⟩
end
end Go.Proofs.YtncjfgebolikoaaDoor
