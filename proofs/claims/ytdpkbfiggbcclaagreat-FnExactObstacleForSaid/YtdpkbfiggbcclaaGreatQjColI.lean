/-
  Contracts: the program's search for a coloring: a function value that calls itself through a variable and writes into another.
-/
import Derived.Test.YtdpkbfiggbcclaaGreatQjBarP
import Derived.Test.YtdpkbfiggbcclaaGreatQjFirst
import Derived.Test.YtdpkbfiggbcclaaGreatQjSet2I
namespace Go.Proofs.YtdpkbfiggbcclaaGreat
open Go.RowKit

theorem set_cell {w : World} {q : Nat} {u v : Value} (h : w.cell? ⟨q, 0, none⟩ = some u) (hf : w.frozen? ⟨q, 0, none⟩ = false) : (w.setCell ⟨q, 0, none⟩ v).cell? ⟨q, 0, none⟩ = some v ∧ (w.setCell ⟨q, 0, none⟩ v).frozen? ⟨q, 0, none⟩ = false := by
  constructor <;> simp [go_sem, h, hf]
/-- The variables of the search. -/
structure CE (z : World) (q m kk b0 o0 c0 : Nat) (r : Nat → Nat) (l : List Nat) (g c : Nat) : Prop where
  rd : Rd z q (some ⟨b0, o0, none⟩) m c0 (fun v => (r v : Int))
  g0 : z.cell? ⟨q + 1, 0, none⟩ = some (.int .i64 m)
  g1 : z.cell? ⟨q + 1, 1, none⟩ = some (.slice (some ⟨b0, o0, none⟩) m c0)
  k : z.cell? ⟨q + 2, 0, none⟩ = some (.int .i64 kk)
  vis : z.cell? ⟨q + 3, 0, none⟩ = some (.func (.func 415) #[] #[.pointer (some ⟨q, 0, none⟩)])
  srch : z.cell? ⟨q + 6, 0, none⟩ = some (.func (.func 423) #[] #[.pointer (some ⟨q + 5, 0, none⟩), .pointer (some ⟨q + 1, 0, none⟩), .pointer (some ⟨q + 3, 0, none⟩), .pointer (some ⟨q + 2, 0, none⟩), .pointer (some ⟨q + 6, 0, none⟩)])
  col : z.cell? ⟨q + 5, 0, none⟩ = some (.slice (some ⟨g, 0, none⟩) l.length c)
  colf : z.frozen? ⟨q + 5, 0, none⟩ = false
  out : z.cell? ⟨q, 0, none⟩ = some (.slice none 0 0)
  outf : z.frozen? ⟨q, 0, none⟩ = false
  own : Own z (q + 4) z.heap.size 3 1 (some ⟨g, 0, none⟩) l.length c (ni l)
  ne5 : g ≠ q + 5
  ne6 : g ≠ q + 6
section
variable {z z' w3 : World} {q m kk b0 o0 c0 g c : Nat} {r : Nat → Nat} {l : List Nat}
theorem CE.lt (h : CE z q m kk b0 o0 c0 r l g c) : q + 6 < z.heap.size := World.block_lt_of_cell? _ _ h.srch
theorem CE.keep (h : CE z q m kk b0 o0 c0 r l g c) (hb : Below z.heap.size z z') : CE z' q m kk b0 o0 c0 r l g c := by
  have hl := h.lt
  exact ⟨h.rd.keep (hb.mono (by omega)) (Nat.le_refl _), up_ hb h.g0, up_ hb h.g1, up_ hb h.k, up_ hb h.vis, up_ hb h.srch, up_ hb h.col, upf hb h.colf (by omega), up_ hb h.out, upf hb h.outf (by omega), (h.own.keepB hb (Nat.le_refl _)).mono (Nat.le_refl _) hb.size, h.ne5, h.ne6⟩
theorem CE.row (h : CE z q m kk b0 o0 c0 r l g c) {v : Nat} (hv : v < m) : z.cell? ⟨b0, o0 + v, none⟩ = some (.int .i64 (r v : Nat)) := by
  obtain ⟨b', o', e, _, hc⟩ := h.rd.pos (by omega)
  simp only [Option.some.injEq, Addr.mk.injEq, and_true] at e
  obtain ⟨rfl, rfl⟩ := e
  exact hc v hv
theorem CE.at (h : CE z q m kk b0 o0 c0 r l g c) {j : Nat} (hj : j < l.length) : z.cell? ⟨g, j, none⟩ = some (.int .i64 (l.getD j 0 : Nat)) := by
  obtain ⟨g', e, _, _, _, h1, _⟩ := h.own.at_ (by omega)
  simp only [Option.some.injEq, Addr.mk.injEq, and_true] at e
  subst e
  rw [h1 j (by omega), ni_at hj]
  simp [List.getD, hj]
theorem CE.set (h : CE z q m kk b0 o0 c0 r l g c) {l' : List Nat} {g' c' : Nat} (ho : Own z (q + 4) z.heap.size 3 1 (some ⟨g', 0, none⟩) l'.length c' (ni l')) (h5 : g' ≠ q + 5) (h6 : g' ≠ q + 6) :
    CE (z.setCell ⟨q + 5, 0, none⟩ (.slice (some ⟨g', 0, none⟩) l'.length c')) q m kk b0 o0 c0 r l' g' c' := by
  have hl := h.lt
  have F : Fr (q + 5) (q + 6) z (z.setCell ⟨q + 5, 0, none⟩ (.slice (some ⟨g', 0, none⟩) l'.length c')) := (Fr.refl _ _ z).setCell (p := ⟨q + 5, 0, none⟩) (Nat.le_refl _) (Nat.lt_succ_self _) _
  have hs := set_cell (v := .slice (some ⟨g', 0, none⟩) l'.length c') h.col h.colf
  have k : ∀ {b o : Nat} {v : Value}, b < q + 5 ∨ q + 6 ≤ b → z.cell? ⟨b, o, none⟩ = some v → (z.setCell ⟨q + 5, 0, none⟩ (.slice (some ⟨g', 0, none⟩) l'.length c')).cell? ⟨b, o, none⟩ = some v := fun hb e => frC_ F e (World.block_lt_of_cell? _ _ e) hb
  refine ⟨h.rd.keep (F.below (by omega) (by omega)) (Nat.le_refl _), k (by omega) h.g0, k (by omega) h.g1, k (by omega) h.k, k (by omega) h.vis, k (by omega) h.srch, hs.1, hs.2, k (by omega) h.out, frZ_ F h.outf (by omega) (by omega), ?_, h5, h6⟩
  rcases ho with ⟨e, _⟩ | ⟨g2, cur, e, k2, k3, k4, rest⟩
  · cases e
  · simp only [Option.some.injEq, Addr.mk.injEq, and_true] at e
    subst e
    exact .inr ⟨g', cur, rfl, k2, Nat.lt_of_lt_of_le k3 F.size, (F.block g' k3 (by omega)).trans k4, rest⟩
end
/-- The world in which the search begins. -/
def colW (w : World) (q m kk b0 o0 c0 : Nat) (t1 t2 t3 t5 t6 : TypeId) : World :=
  ((((((w.alloc (Obj.cells #[Value.int IntKind.i64 m, Value.slice (some ⟨b0, o0, none⟩) m c0] t1)).alloc (Obj.cells #[Value.int IntKind.i64 kk] t2)).alloc
    (Obj.cells #[Value.func (Fn.func 415) #[] #[Value.pointer (some ⟨q, 0, none⟩)]] t3)).alloc (Obj.cells #[] 3)).alloc
    (Obj.cells #[Value.slice (some ⟨q + 1 + 1 + 1 + 1, 0, none⟩) 0 0] t5)).alloc
    (Obj.cells #[Value.func (Fn.func 423) #[] #[.pointer (some ⟨q + 1 + 1 + 1 + 1 + 1, 0, none⟩), .pointer (some ⟨q + 1, 0, none⟩), .pointer (some ⟨q + 1 + 1 + 1, 0, none⟩), .pointer (some ⟨q + 1 + 1, 0, none⟩), .pointer (some ⟨q + 1 + 1 + 1 + 1 + 1 + 1, 0, none⟩)]] t6))
theorem colW_below (w : World) (q m kk b0 o0 c0 : Nat) (t1 t2 t3 t5 t6 : TypeId) : Below w.heap.size w (colW w q m kk b0 o0 c0 t1 t2 t3 t5 t6) :=
  bl_alloc (bl_alloc (bl_alloc (bl_alloc (bl_alloc (bl_alloc (Below.refl _ _))))))
theorem CE.new {w : World} {q m kk b0 o0 c0 : Nat} {r : Nat → Nat} (hz : w.heap.size = q + 1) (hr : Rd w q (some ⟨b0, o0, none⟩) m c0 (fun v => (r v : Int)))
    (hout : w.cell? ⟨q, 0, none⟩ = some (.slice none 0 0)) (hof : w.frozen? ⟨q, 0, none⟩ = false) (t1 t2 t3 t5 t6 : TypeId) : CE (colW w q m kk b0 o0 c0 t1 t2 t3 t5 t6) q m kk b0 o0 c0 r [] (q + 4) 0 := by
  have hb := colW_below w q m kk b0 o0 c0 t1 t2 t3 t5 t6
  refine ⟨hr.keep (hb.mono (by omega)) (Nat.le_refl _), ?_, ?_, ?_, ?_, ?_, ?_, ?_, up_ hb hout, upf hb hof (by omega), ?_, by omega, by omega⟩
  · unfold colW; simp [go_sem, hz]
  · unfold colW; simp [go_sem, hz]
  · unfold colW; simp [go_sem, hz]
  · unfold colW; simp [go_sem, hz]
  · unfold colW; simp [go_sem, hz]
  · unfold colW; simp [go_sem, hz]
  · unfold colW; simp [go_sem, hz]
  · refine .inr ⟨q + 4, #[], rfl, Nat.le_refl _, by unfold colW; simp [hz], ?_, Nat.le_refl _, by unfold maxLen; omega, rfl, fun j hj => absurd hj (by simp)⟩
    unfold colW
    rw [Below.heap_alloc _ _ _ (by simp [hz]), Below.heap_alloc _ _ _ (by simp [hz])]
    have := heap_alloc_new (((w.alloc (Obj.cells #[Value.int IntKind.i64 m, Value.slice (some ⟨b0, o0, none⟩) m c0] t1)).alloc (Obj.cells #[Value.int IntKind.i64 kk] t2)).alloc (Obj.cells #[Value.func (Fn.func 415) #[] #[Value.pointer (some ⟨q, 0, none⟩)]] t3)) (Obj.cells #[] 3)
    simpa [hz] using this
end Go.Proofs.YtdpkbfiggbcclaaGreat
