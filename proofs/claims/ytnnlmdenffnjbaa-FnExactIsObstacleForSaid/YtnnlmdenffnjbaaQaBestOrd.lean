/-
  Contracts: the first order for which a number is least, whatever the number is.
-/
import Derived.Test.YtnnlmdenffnjbaaQaFirst
import Derived.Test.YtnnlmdenffnjbaaQaV
namespace Go.Proofs.Ytnnlmdenffnjbaa
open Go.RowKit

/-- The captured variables of the search. -/
structure BO (w0 z : World) (H : Nat) (A : Option Addr) (m c : Nat) (fn : FuncId) (caps : Array Value) (s : List Nat × Int) : Prop where
  fr : From w0 z
  c0 : z.cell? ⟨H, 0, none⟩ = some (.int .i64 m)
  c1 : z.cell? ⟨H, 1, none⟩ = some (.slice A m c)
  f : z.cell? ⟨H + 1, 0, none⟩ = some (.func (.func fn) #[] caps)
  b : ∃ Ab cb, z.cell? ⟨H + 2, 0, none⟩ = some (.slice Ab s.1.length cb) ∧ ON (H + 4) z Ab cb s.1
  n : z.cell? ⟨H + 3, 0, none⟩ = some (.int .i64 s.2)
  fb : z.frozen? ⟨H + 2, 0, none⟩ = false
  fn : z.frozen? ⟨H + 3, 0, none⟩ = false
theorem BO.keep {w0 z z' : World} {H m c : Nat} {A : Option Addr} {fn : FuncId} {caps : Array Value} {s : List Nat × Int} (h : BO w0 z H A m c fn caps s) (hb : Below z.heap.size z z') : BO w0 z' H A m c fn caps s := by
  obtain ⟨Ab, cb, hc, ho⟩ := h.b
  exact ⟨h.fr.keep hb, up_ hb h.c0, up_ hb h.c1, up_ hb h.f, ⟨Ab, cb, up_ hb hc, ho.keep hb⟩, up_ hb h.n, upf hb h.fb (World.block_lt_of_cell? _ _ hc), upf hb h.fn (World.block_lt_of_cell? _ _ h.n)⟩

section
variable {m c H : Nat} {A : Option Addr} {r : Nat → Nat} {fn : FuncId} {caps : Array Value} {p : List Nat → Int} {w0 : World}
end
end Go.Proofs.Ytnnlmdenffnjbaa
