/-
  Contracts: the filling of a graph in an order, of the reference.
-/
import Derived.Test.YtnnlmdenffnjbaaQaLater
import Derived.Test.YtnnlmdenffnjbaaQaGB
import Derived.Test.YtnnlmdenffnjbaaQaGC
import Derived.Test.YtnnlmdenffnjbaaQaGL
namespace Go.Proofs.Ytnnlmdenffnjbaa
open Go.RowKit

/-- Rows of numbers that the call made. -/
structure OG (lo : Nat) (w : World) (A : Option Addr) (m c : Nat) (r : Nat → Nat) : Prop where
  own : Own w lo w.heap.size 3 1 A m c (fun j => .int .i64 (r j : Nat))
section
variable {w w' : World} {A : Option Addr} {c lo m : Nat} {r : Nat → Nat}
theorem OG.keep (h : OG lo w A m c r) (hb : Below w.heap.size w w') : OG lo w' A m c r := ⟨(h.own.keepB hb (Nat.le_refl _)).mono (Nat.le_refl _) hb.size⟩
theorem OG.gv (h : OG lo w A m c r) (vg : VG m r) : GV w A m c r := ⟨vg, h.own.rd⟩
theorem OG.drew (h : OG lo w A m c r) : OG lo w.drew A m c r := ⟨h.own.drew⟩
theorem ON.set {q : Nat} {AL : Option Addr} {cL : Nat} {L : List Nat} (h : ON (q + 1) w AL cL L) (x y : Value) : ON (q + 1) ((w.setCell ⟨q, 0, none⟩ x).setCell ⟨q, 1, none⟩ y) AL cL L :=
  ⟨(h.own.keep (fr2 w q x y) (.inr (Nat.le_refl _))).mono (Nat.le_refl _) (fr2 w q x y).size⟩
end
end Go.Proofs.Ytnnlmdenffnjbaa
