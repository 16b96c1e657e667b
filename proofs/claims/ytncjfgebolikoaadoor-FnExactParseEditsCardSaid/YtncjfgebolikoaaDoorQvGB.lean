/-
  Several texts in one: words for memory, plain laws and contracts that the later texts lean on.
-/
import Derived.Test.YtncjfgebolikoaaDoorRows
import Derived.Test.YtncjfgebolikoaaDoorQvGA
import Derived.Deep.RegionHeld3
import Derived.Deep.QuietTactic
import Derived.BigQuiet
/-
  Words for memory: a slice of slices of integers that the call owns, or that it only reads.
-/
namespace Go.Proofs.YtncjfgebolikoaaDoor
open Go.RowKit

/-- One inner slice: its address, its capacity, what it holds. -/
abbrev Dsc := Option Addr × Nat × List Int
def lists (D : List Dsc) : List (List Int) := D.map (·.2.2)
section
variable {w w' : World} {lo hi lo' hi' B B' c : Nat} {A : Option Addr} {D : List Dsc}
theorem Own.only {e : TypeId} {size n : Nat} {x : Nat → Value} (h : Own w lo hi e size A n c x) (hn : 0 < n) : ∃ g, A = some ⟨g, 0, none⟩ ∧ lo ≤ g ∧ g < hi ∧ Own w g (g + 1) e size A n c x := by
  rcases h with h | ⟨g, cur, k1, k2, k3, r⟩
  · omega
  · exact ⟨g, k1, k2, k3, .inr ⟨g, cur, k1, Nat.le_refl _, Nat.lt_succ_self _, r⟩⟩
end
end Go.Proofs.YtncjfgebolikoaaDoor

/-
  Contracts of the law's helpers on slices of slices of integers.
-/
namespace Go.Proofs.YtncjfgebolikoaaDoor
open Go.RowKit

end Go.Proofs.YtncjfgebolikoaaDoor

/-
  append of all elements of a slice of integers that is only read onto a slice of integers of the call's own.
-/
namespace Go.Proofs.YtncjfgebolikoaaDoor
open Go.RowKit


section
variable (w : World) {ops : Array Oper} {rest : List Oper} {o : Oper} {a : Act} {K : Act → World → Prop} {Q : Exit → Act → World → Prop} {E : Prop}
  {lo hi B n c m c2 : Nat} {A A2 : Option Addr} {x : Nat → Value} {y : Nat → Int}
end
end Go.Proofs.YtncjfgebolikoaaDoor

/-
  append of all elements of a slice of slices that is only read onto a slice of slices of the call's own.
-/
namespace Go.Proofs.YtncjfgebolikoaaDoor
open Go.RowKit

section
variable (w : World) {ops : Array Oper} {rest : List Oper} {o : Oper} {a : Act} {K : Act → World → Prop} {Q : Exit → Act → World → Prop} {E : Prop}
  {lo hi B n c m c2 : Nat} {A A2 : Option Addr} {x y : Nat → Value}
end
end Go.Proofs.YtncjfgebolikoaaDoor

/-
  Contracts: a copy of a graph in new memory, of both programs; two bits turned.
-/
namespace Go.Proofs.YtncjfgebolikoaaDoor
open Go.RowKit

end Go.Proofs.YtncjfgebolikoaaDoor

/-
  Contracts: two bits of a graph turned.
-/
namespace Go.Proofs.YtncjfgebolikoaaDoor
open Go.RowKit


end Go.Proofs.YtncjfgebolikoaaDoor

/-
  The pairs of n vertices in lexicographic order, gone through one after the other; plain lists, no program.
-/
namespace Go.Proofs.YtncjfgebolikoaaDoor

end Go.Proofs.YtncjfgebolikoaaDoor

/-
  Slices of edits: what they read as; the law's helpers on them.
-/
namespace Go.Proofs.YtncjfgebolikoaaDoor
open Go.RowKit

/-- The cells of a list of edits, one after the other. -/
def eds (a : Nat → Bool) (v u : Nat → Int) : Nat → Value := fun j => if j % 3 = 0 then .bool (a (j / 3)) else if j % 3 = 1 then .int .i64 (v (j / 3)) else .int .i64 (u (j / 3))
theorem eds0 (a : Nat → Bool) (v u : Nat → Int) (k : Nat) : eds a v u (k * 3) = .bool (a k) := by
  unfold eds; rw [if_pos (by omega), show k * 3 / 3 = k by omega]
theorem eds1 (a : Nat → Bool) (v u : Nat → Int) (k : Nat) : eds a v u (k * 3 + 1) = .int .i64 (v k) := by
  unfold eds; rw [if_neg (by omega), if_pos (by omega), show (k * 3 + 1) / 3 = k by omega]
theorem eds2 (a : Nat → Bool) (v u : Nat → Int) (k : Nat) : eds a v u (k * 3 + 2) = .int .i64 (u k) := by
  unfold eds; rw [if_neg (by omega), if_neg (by omega), show (k * 3 + 2) / 3 = k by omega]

theorem eds_news {a : Nat → Bool} {v u : Nat → Int} {k : Nat} {p : Bool} {q r : Int} (h0 : a k = p) (h1 : v k = q) (h2 : u k = r) : ∀ i, i < 3 → (#[Value.bool p, Value.int .i64 q, Value.int .i64 r] : Array Value)[i]? = some (eds a v u (k * 3 + i)) := by
  intro i hi
  have : i = 0 ∨ i = 1 ∨ i = 2 := by omega
  rcases this with rfl | rfl | rfl
  · rw [Nat.add_zero, eds0, h0]; rfl
  · rw [eds1, h1]; rfl
  · rw [eds2, h2]; rfl

/-- The slice value '.slice A n c' reads as n edits, in blocks below B. -/
def RdE (w : World) (B : Nat) (A : Option Addr) (n c : Nat) (a : Nat → Bool) (v u : Nat → Int) : Prop :=
  n ≤ c ∧ (0 < n → ∃ b o, A = some ⟨b, o, none⟩ ∧ b < B ∧ ∀ k, k < n → w.cell? ⟨b, o + k * 3, none⟩ = some (.bool (a k)) ∧ w.cell? ⟨b, o + k * 3 + 1, none⟩ = some (.int .i64 (v k)) ∧ w.cell? ⟨b, o + k * 3 + 2, none⟩ = some (.int .i64 (u k)))
theorem RdE.keep {w w' : World} {B B' : Nat} {A : Option Addr} {n c : Nat} {a : Nat → Bool} {v u : Nat → Int} (h : RdE w B A n c a v u) (hb : Below B w w') (hB : B ≤ B') : RdE w' B' A n c a v u := by
  refine ⟨h.1, fun hn => ?_⟩
  obtain ⟨b, o, e, hlt, hc⟩ := h.2 hn
  exact ⟨b, o, e, by omega, fun k hk => ⟨(hb.cell (p := ⟨b, _, none⟩) hlt).trans (hc k hk).1, (hb.cell (p := ⟨b, _, none⟩) hlt).trans (hc k hk).2.1, (hb.cell (p := ⟨b, _, none⟩) hlt).trans (hc k hk).2.2⟩⟩
theorem Own.rdE {lo hi : Nat} {w : World} {e : TypeId} {n c : Nat} {A : Option Addr} {a : Nat → Bool} {v u : Nat → Int} (h : Own w lo hi e 3 A n c (eds a v u)) : RdE w hi A n c a v u :=
  ⟨h.le, fun hn => by
    obtain ⟨g, e1, _, h2, _, h3, _⟩ := h.at_ hn
    refine ⟨g, 0, e1, h2, fun k hk => ?_⟩
    rw [Nat.zero_add]
    exact ⟨by rw [h3 _ (by omega), eds0], by rw [h3 _ (by omega), eds1], by rw [h3 _ (by omega), eds2]⟩⟩

theorem info_edit : (Tryd.prog.info? 49).map (fun i => (i.zero, i.size, i.bytes)) = some (some (.agg #[.bool false, .int .i64 0, .int .i64 0]), 3, 24) := by kernel_rfl

end Go.Proofs.YtncjfgebolikoaaDoor

/-
  Contracts: the edges of a graph, of both programs; whether two vertices of a good graph are neighbours.
-/
namespace Go.Proofs.YtncjfgebolikoaaDoor
open Go.RowKit

end Go.Proofs.YtncjfgebolikoaaDoor

/-
  Contracts of the reference: whether two vertices of a good graph are neighbours; the edges of a graph.
-/
namespace Go.Proofs.YtncjfgebolikoaaDoor
open Go.RowKit

end Go.Proofs.YtncjfgebolikoaaDoor

/-
  Contracts: the optional edges between two graphs, of both programs.
-/
namespace Go.Proofs.YtncjfgebolikoaaDoor
open Go.RowKit

end Go.Proofs.YtncjfgebolikoaaDoor

/-
  Contract: all pairs of n vertices.
-/
namespace Go.Proofs.YtncjfgebolikoaaDoor
open Go.RowKit

end Go.Proofs.YtncjfgebolikoaaDoor

/-
  Plain lists of edits, and pushes onto slices of edits.
-/
namespace Go.Proofs.YtncjfgebolikoaaDoor
open Go.RowKit

theorem Pushed.caged {w w' : World} {lo g size n c g' cap : Nat} {e : TypeId} {x : Nat → Value} (hp : Pushed w w' lo e size (some ⟨g, 0, none⟩) n c x g' cap) :
    Own w' g' (g' + 1) e size (some ⟨g', 0, none⟩) (n + 1) cap x ∧ (g' = g ∨ g' = w.heap.size) ∧ g' < w'.heap.size ∧ Fr g (g + 1) w w' := by
  have hg' : g' = g ∨ g' = w.heap.size := by
    rcases hp.at_ with h | h
    · simp [Value.ownBlock] at h; exact .inl h.symm
    · exact .inr h
  rcases hp.own with ⟨h, _⟩ | ⟨g1, cur, k1, k2, k3, r⟩
  · cases h
  · simp only [Option.some.injEq, Addr.mk.injEq, and_true] at k1
    subst k1
    refine ⟨.inr ⟨g', cur, rfl, Nat.le_refl _, Nat.lt_succ_self _, r⟩, hg', k3, ⟨hp.grown.os, hp.grown.tape, hp.grown.output, hp.grown.size, fun k hk ho => hp.grown.block k hk ?_⟩⟩
    simp [Value.ownBlock]
    omega

end Go.Proofs.YtncjfgebolikoaaDoor

/-
  Contracts: a set's list, of both programs.
-/
namespace Go.Proofs.YtncjfgebolikoaaDoor
open Go.RowKit

end Go.Proofs.YtncjfgebolikoaaDoor

/-
  Contracts: is a set a clique? The program's test; the closure that looks for a simplicial vertex; the search for the first.
-/
namespace Go.Proofs.YtncjfgebolikoaaDoor
open Go.RowKit

end Go.Proofs.YtncjfgebolikoaaDoor

/-
  Contracts: is a set a clique? The reference's tests; is a vertex simplicial?
-/
namespace Go.Proofs.YtncjfgebolikoaaDoor
open Go.RowKit

end Go.Proofs.YtncjfgebolikoaaDoor
