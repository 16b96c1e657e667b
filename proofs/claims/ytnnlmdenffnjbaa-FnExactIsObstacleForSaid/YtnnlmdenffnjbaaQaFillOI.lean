/-
  Contracts: the edges that fill a graph in an order, of the program.
-/
import Derived.Test.YtnnlmdenffnjbaaQaFillS
namespace Go.Proofs.Ytnnlmdenffnjbaa
open Go.RowKit

/-- Rows of numbers, and an empty outer slice, in blocks that are written. -/
structure OF (lo hi : Nat) (w : World) (g m c : Nat) (r : Nat → Nat) : Prop where
  own : Own w lo hi 3 1 (some ⟨g, 0, none⟩) m c (fun j => .int .i64 (r j : Nat))
  le : hi ≤ w.heap.size
structure OE (q : Nat) (w : World) : Prop where
  own : Own w q (q + 1) 22 1 (some ⟨q, 0, none⟩) 0 0 (dvs [])
  le : q + 1 ≤ w.heap.size
section
variable {w w' : World} {lo hi g m c q : Nat} {r : Nat → Nat}
theorem OF.keep (h : OF lo hi w g m c r) (hb : Below w.heap.size w w') : OF lo hi w' g m c r := ⟨h.own.keepB hb h.le, Nat.le_trans h.le hb.size⟩
theorem OF.gv (h : OF lo hi w g m c r) (vg : VG m r) : GV w (some ⟨g, 0, none⟩) m c r := ⟨vg, (h.own.mono (Nat.le_refl _) h.le).rd⟩
theorem OE.keep (h : OE q w) (hb : Below w.heap.size w w') : OE q w' := ⟨h.own.keepB hb h.le, Nat.le_trans h.le hb.size⟩
end

end Go.Proofs.Ytnnlmdenffnjbaa
