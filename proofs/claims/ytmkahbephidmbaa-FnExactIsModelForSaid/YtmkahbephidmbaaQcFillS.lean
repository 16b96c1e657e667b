/-
  Contracts: the filling of a graph in an order, of the reference.
-/
import Derived.Test.YtmkahbephidmbaaQcFillP
import Derived.Test.YtmkahbephidmbaaQcGC
import Derived.Test.YtmkahbephidmbaaQcGB
import Derived.Test.YtmkahbephidmbaaQcGL
namespace Go.Proofs.Ytmkahbephidmbaa
open Go.RowKit

/-- Rows of numbers that the call made. -/
structure OG (lo : Nat) (w : World) (A : Option Addr) (m c : Nat) (r : Nat → Nat) : Prop where
  own : Own w lo w.heap.size 3 1 A m c (fun j => .int .i64 (r j : Nat))
section
variable {w w' : World} {A : Option Addr} {c lo m : Nat} {r : Nat → Nat}
theorem OG.keep (h : OG lo w A m c r) (hb : Below w.heap.size w w') : OG lo w' A m c r := ⟨(h.own.keepB hb (Nat.le_refl _)).mono (Nat.le_refl _) hb.size⟩
theorem OG.gv (h : OG lo w A m c r) (vg : VG m r) : GV w A m c r := ⟨vg, h.own.rd⟩
theorem OG.drew (h : OG lo w A m c r) : OG lo w.drew A m c r := ⟨h.own.drew⟩
theorem ON.set {q : Nat} {AL : Option Addr} {cL : Nat} {L : List Nat} (h : ON (q + 1) w AL cL L) (x y : Value) : ON (q + 1) ((w.setCell ⟨q, 0, none⟩ x).setCell ⟨q, 1, none⟩ y) AL cL L :=
  ⟨(h.own.keep (fr2 w q x y) (.inr (Nat.le_refl _))).mono (Nat.le_refl _) (fr2 w q x y).size⟩
end
theorem LaterNeighbours_sv {A : Option Addr} {m c : Nat} {r : Nat → Nat} {Al : Option Addr} {n cl : Nat} {l : List Int} {w : World} (h : GV w A m c r) (hl : LI w Al n cl l) (hV : VZ m l) (hlen : l.length = m) {v : Int} (hv : v ∈ l) :
    Calls Try.prog 34 #[.agg #[.int .i64 m, .slice A m c], .slice Al n cl, .int .i64 v] w fun e w' => e = .returned (.int .i64 (ltN r l v : Nat)) ∧ Below w.heap.size w w' := by
  have := LaterNeighbours_s (m : Int) A m c (fun v => (r v : Int)) Al n cl l v w ⟨h.rd⟩ hl (by have := h.vg.n7; omega) (by have := h.vg.n7; rw [hl.len]; omega)
  rwa [ltZ_yes (orB_yes h.ok hV hlen) (hV.2 _ hv), rw_cast] at this
theorem LaterNeighbours_iv {A : Option Addr} {m c : Nat} {r : Nat → Nat} {Al : Option Addr} {n cl : Nat} {l : List Int} {w : World} (h : GV w A m c r) (hl : LI w Al n cl l) (hV : VZ m l) (hlen : l.length = m) {v : Int} (hv : v ∈ l) :
    Calls Try.prog 53 #[.agg #[.int .i64 m, .slice A m c], .slice Al n cl, .int .i64 v] w fun e w' => e = .returned (.int .i64 (ltN r l v : Nat)) ∧ Below w.heap.size w w' := by
  have := LaterNeighbours_i (m : Int) A m c (fun v => (r v : Int)) Al n cl l v w ⟨h.rd⟩ hl (by have := h.vg.n7; omega) (by have := h.vg.n7; rw [hl.len]; omega)
  rwa [ltZ_yes (orB_yes h.ok hV hlen) (hV.2 _ hv), rw_cast] at this

end Go.Proofs.Ytmkahbephidmbaa
