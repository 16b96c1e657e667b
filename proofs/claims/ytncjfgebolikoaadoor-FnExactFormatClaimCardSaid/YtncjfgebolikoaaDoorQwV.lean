/-
  A valid graph in memory, by value and in its box; the contracts known so far in these words.
-/
import Derived.Test.YtncjfgebolikoaaDoorQwGC
import Derived.Test.YtncjfgebolikoaaDoorQwGB
namespace Go.Proofs.YtncjfgebolikoaaDoor
open Go.RowKit

theorem up_ {b o : Nat} {W w1 : World} {v : Value} (hb : Below W.heap.size W w1) (e : W.cell? ⟨b, o, none⟩ = some v) : w1.cell? ⟨b, o, none⟩ = some v := up hb e (World.block_lt_of_cell? _ _ e)

section
variable {w w' : World} {A : Option Addr} {m c q b o v : Nat} {r : Nat → Nat}
end
/-- The world w is w0 with new memory. -/
structure From (w0 w : World) : Prop where
  below : Below w0.heap.size w0 w
theorem From.refl (w : World) : From w w := ⟨Below.refl _ _⟩
theorem From.keep {w0 w w' : World} (h : From w0 w) (hb : Below w.heap.size w w') : From w0 w' := ⟨h.below.trans (hb.mono h.below.size)⟩
theorem From.alloc (w : World) (o : Obj) : From w (w.alloc o) := ⟨(Below.refl _ _).alloc (Nat.le_refl _) _⟩
theorem From.alloc_ {w0 w : World} (h : From w0 w) (o : Obj) : From w0 (w.alloc o) := h.keep ((Below.refl _ _).alloc (Nat.le_refl _) _)
theorem From.drewN {w0 w : World} (h : From w0 w) (n : Nat) : From w0 (w.drewN n) := ⟨below_drewN h.below n⟩
theorem From.drew {w0 w : World} (h : From w0 w) : From w0 w.drew := h.drewN 1
theorem From.up {w0 w w1 : World} (h : From w0 w) (k : From w w1) : From w0 w1 := h.keep k.below
section
variable {w w' : World} {A : Option Addr} {c lo b o j : Nat} {l : List Nat}
end
theorem bl_alloc {w z : World} {o : Obj} (h : Below w.heap.size w z) : Below w.heap.size w (z.alloc o) := h.alloc h.size o
theorem bl_trans {w z y : World} (h : Below w.heap.size w z) (k : Below z.heap.size z y) : Below w.heap.size w y := h.trans (k.mono h.size)
/-- A graph's value in a box that may be written. -/
structure GC (w : World) (q : Nat) (sz : Int) (A : Option Addr) (m c : Nat) : Prop where
  c0 : w.cell? ⟨q, 0, none⟩ = some (.int .i64 sz)
  c1 : w.cell? ⟨q, 1, none⟩ = some (.slice A m c)
  f0 : w.frozen? ⟨q, 0, none⟩ = false
  f1 : w.frozen? ⟨q, 1, none⟩ = false
section
variable {w w' : World} {q m c m' c' lo hi : Nat} {sz sz' : Int} {A A' : Option Addr}
theorem GC.lt (h : GC w q sz A m c) : q < w.heap.size := World.block_lt_of_cell? _ _ h.c0
theorem GC.keep (h : GC w q sz A m c) (hb : Below w.heap.size w w') : GC w' q sz A m c := ⟨up hb h.c0 h.lt, up hb h.c1 h.lt, upf hb h.f0 h.lt, upf hb h.f1 h.lt⟩
theorem GC.drew (h : GC w q sz A m c) : GC w.drew q sz A m c := ⟨h.c0, h.c1, h.f0, h.f1⟩
theorem GC.new (w : World) (sz : Int) (A : Option Addr) (m c : Nat) : GC (w.alloc (Obj.cells #[Value.int IntKind.i64 sz, Value.slice A m c] 37)) w.heap.size sz A m c := by constructor <;> simp [go_sem]
theorem GC.set (h : GC w q sz A m c) : GC ((w.setCell ⟨q, 0, none⟩ (.int .i64 sz')).setCell ⟨q, 1, none⟩ (.slice A' m' c')) q sz' A' m' c' := by
  have h0 := h.c0
  have h1 := h.c1
  have h2 := h.f0
  have h3 := h.f1
  constructor <;> simp [go_sem, h0, h1, h2, h3]
theorem From.set {w0 w : World} (h : From w0 w) (hq : w0.heap.size ≤ q) (x y : Value) : From w0 ((w.setCell ⟨q, 0, none⟩ x).setCell ⟨q, 1, none⟩ y) :=
  ⟨(h.below.setCell (p := ⟨q, 0, none⟩) hq _).setCell (p := ⟨q, 1, none⟩) hq _⟩
end
end Go.Proofs.YtncjfgebolikoaaDoor
