/-
  Several texts in one: words for memory, plain laws and contracts that the later texts lean on.
-/
import Derived.Test.YtmkahbephidmbaaGreatQgGA
import Derived.Test.YtmkahbephidmbaaGreatQgGB
import Derived.Test.YtmkahbephidmbaaGreatRows
import Derived.Deep.RegionHeld3
import Derived.Deep.QuietTactic
import Derived.BigQuiet
import Derived.ProofKit
import Derived.OpenShut
import Derived.ShutString
import Derived.Lib.SmallJoins
import Derived.Carry
import Derived.Deep.Slices
import Derived.Deep.Fields
import Derived.ChangeSame
/-
  Plain: a graph with those of some new edges whose bits are set.
-/
namespace Go.Proofs.YtmkahbephidmbaaGreat
open Go.RowKit

def PrE (E : List (Nat × Nat)) : List (List Int) := E.map fun p => [(p.1 : Int), (p.2 : Int)]
/-- The rows with those of the first i edges whose bits are set. -/
def wbR (r : Nat → Nat) (E : List (Nat × Nat)) (b : Nat) : Nat → Nat → Nat
  | 0 => r
  | i + 1 => if b.testBit i = true then addN (wbR r E b i) (E.getD i (0, 0)).1 (E.getD i (0, 0)).2 else wbR r E b i
theorem wbR_yes {r : Nat → Nat} {E : List (Nat × Nat)} {b i : Nat} (h : b.testBit i = true) : wbR r E b (i + 1) = addN (wbR r E b i) (E.getD i (0, 0)).1 (E.getD i (0, 0)).2 := by rw [wbR, if_pos h]
theorem wbR_no {r : Nat → Nat} {E : List (Nat × Nat)} {b i : Nat} (h : b.testBit i = false) : wbR r E b (i + 1) = wbR r E b i := by rw [wbR, if_neg (by rw [h]; simp)]
/-- New edges, each once, the lesser vertex ahead. -/
structure EdN (r : Nat → Nat) (m : Nat) (E : List (Nat × Nat)) : Prop where
  inc : ∀ p ∈ E, p.1 < p.2 ∧ p.2 < m
  new : ∀ p ∈ E, (r p.1).testBit p.2 = false
  nd : E.Nodup
theorem getP_mem {E : List (Nat × Nat)} {i : Nat} (h : i < E.length) : E.getD i (0, 0) ∈ E := by simp [List.getD, h]
theorem getP_ne {E : List (Nat × Nat)} (h : E.Nodup) {i k : Nat} (hik : i < k) (hk : k < E.length) : E.getD i (0, 0) ≠ E.getD k (0, 0) := by
  have hi : i < E.length := by omega
  have e1 : E.getD i (0, 0) = E[i] := by simp [List.getD, hi]
  have e2 : E.getD k (0, 0) = E[k] := by simp [List.getD, hk]
  rw [e1, e2]
  exact (List.pairwise_iff_getElem.1 h) i k hi hk hik
theorem addN_other {q : Nat → Nat} {v u v' u' : Nat} (huv : v < u) (h' : v' < u') (hne : ¬ (v = v' ∧ u = u')) : (addN q v u v').testBit u' = (q v').testBit u' := by
  unfold addN
  by_cases h1 : v' = v
  · rw [if_pos h1, Nat.testBit_xor, Nat.testBit_two_pow, h1]
    have : u ≠ u' := fun e => hne ⟨h1.symm, e⟩
    simp [this]
  · rw [if_neg h1]
    by_cases h2 : v' = u
    · rw [if_pos h2, Nat.testBit_xor, Nat.testBit_two_pow, h2]
      have : v ≠ u' := by omega
      simp [this]
    · rw [if_neg h2]
section
variable {r : Nat → Nat} {m b : Nat} {E : List (Nat × Nat)}
theorem wbR_vg (vg : VG m r) (h : EdN r m E) : ∀ i, i ≤ E.length → VG m (wbR r E b i) := by
  intro i
  induction i with
  | zero => exact fun _ => vg
  | succ i ih =>
    intro hi
    have hv := ih (by omega)
    cases hb : b.testBit i
    · rw [wbR_no hb]; exact hv
    · rw [wbR_yes hb]
      have := h.inc _ (getP_mem (show i < E.length by omega))
      exact hv.add (by omega) this.2 (by omega)
theorem wbR_bit (h : EdN r m E) {k : Nat} (hk : k < E.length) : ∀ i, i ≤ k → (wbR r E b i (E.getD k (0, 0)).1).testBit (E.getD k (0, 0)).2 = false := by
  intro i
  induction i with
  | zero => exact fun _ => h.new _ (getP_mem hk)
  | succ i ih =>
    intro hi
    have hv := ih (by omega)
    cases hb : b.testBit i
    · rw [wbR_no hb]; exact hv
    · rw [wbR_yes hb, addN_other (h.inc _ (getP_mem (show i < E.length by omega))).1 (h.inc _ (getP_mem hk)).1]
      · exact hv
      · rintro ⟨h1, h2⟩
        exact getP_ne h.nd (show i < k by omega) hk (Prod.ext h1 h2)
end
end Go.Proofs.YtmkahbephidmbaaGreat

/-
  Several texts in one: words for memory, plain laws and contracts that the later texts lean on.
-/
/-
  Contracts of the law's helpers on slices of edits.
-/
namespace Go.Proofs.YtmkahbephidmbaaGreat
open Go.RowKit

end Go.Proofs.YtmkahbephidmbaaGreat

/-
  Contracts of the law's helpers on slices of at most nine strings.
-/
namespace Go.Proofs.YtmkahbephidmbaaGreat
open Go.RowKit

end Go.Proofs.YtmkahbephidmbaaGreat

/-
  How the laws' arguments read: slices of integers, graphs, integers, strings.
-/
namespace Go.Proofs.YtmkahbephidmbaaGreat
open Go.ChangeShapes Go.WideShapes Go.ChangeAt Go.RowKit

theorem own : ownKnob Tryz.prog.godebug = none := by kernel_rfl
theorem laidOut : laidOutB Tryz.prog = true := by kernel_rfl

section
variable {H : Type} {enc : TypeId × Value → H} {w : World} {base : Nat} {spare : Nat → Bool} {held : Bool}

theorem rd_of_cells {a : Addr} {n c : Nat} {x : Nat → Int} (hl : n ≤ c) (hc : ∀ i, i < n → w.cell? (a.add i) = some (.int .i64 (x i))) : Rd w w.heap.size (some a) n c x := by
  refine ⟨hl, fun hn => ?_⟩
  obtain ⟨b, o, s⟩ := a
  have h0 := hc 0 hn
  have hs : s = none := by simpa [Addr.add] using World.cell?_spot h0
  subst hs
  have hadd : ∀ k, (⟨b, o, none⟩ : Addr).add k = ⟨b, o + k, none⟩ := fun k => by unfold Addr.add; split <;> simp_all
  refine ⟨b, o, rfl, ?_, fun k hk => by rw [← hadd]; exact hc k hk⟩
  have := World.block_lt_of_cell? w _ h0
  rw [hadd] at this
  exact this

theorem open_intS {fuel : Nat} {v : Value} {y : DataW H × List MemPlace} (h : DataW.trod enc Tryz.prog w base spare held fuel 22 [v] = some y) :
    ∃ A n c x, v = .slice A n c ∧ Rd w w.heap.size A n c x ∧ n ≤ maxLen := by
  rcases open_ints Tryz.underlying22 Tryz.underlying3 (by kernel_rfl) h with ⟨hcs, _⟩ | ⟨a, l, c, zs, hcs, _, hl, hm, hz, _, hcell, _⟩
  · simp only [List.cons.injEq, and_true] at hcs
    exact ⟨none, 0, 0, fun _ => 0, hcs, Rd.nil _ _ _ _ _, Nat.zero_le _⟩
  · simp only [List.cons.injEq, and_true] at hcs
    refine ⟨some a, l, c, fun i => zs.getD i 0, hcs, rd_of_cells hl (fun i hi => hcell i ?_), Nat.le_trans hl hm⟩
    rw [hz]; split <;> omega

set_option maxRecDepth 100000 in
theorem open_graph {r : Reach} {b0 : Nat} {v : Value} {d : DataW H} {p : List MemPlace} (hv : Value.okWide Tryz.prog w r b0 24 v)
    (h : DataW.Trod enc Tryz.prog w base spare held 24 v d p) :
    ∃ sz A n c x, v = .agg #[.int .i64 sz, .slice A n c] ∧ Rd w w.heap.size A n c x ∧ n ≤ maxLen := by
  obtain ⟨v0, v1, y0, y1, m, rfl, _, _, h0, h1⟩ := Go.Joins.open_agg2 Tryz.underlying24 (by kernel_rfl) (by kernel_rfl) hv h
  obtain ⟨sz, e0, _, _⟩ := DataW.trod_int Tryz.underlying3 h0
  simp only [List.cons.injEq, and_true] at e0
  subst e0
  obtain ⟨A, n, c, x, rfl, hr, hn⟩ := open_intS h1
  exact ⟨sz, A, n, c, x, rfl, hr, hn⟩

theorem places_lt {t : TypeId} {v : Value} {d : DataW H} {p : List MemPlace} (h : DataW.Trod enc Tryz.prog w base spare held t v d p) : ∀ x ∈ p, x.block < w.heap.size := by
  obtain ⟨m, hm⟩ := h
  exact DataW.trod_lt m _ _ _ hm
end
end Go.Proofs.YtmkahbephidmbaaGreat

/-
  How further arguments read (slices of edits); small laws that the generated walks use.
-/
namespace Go.Proofs.YtmkahbephidmbaaGreat
open Go.ChangeShapes Go.WideShapes Go.ChangeAt Go.RowKit Go.Deep

theorem bd {w w' : World} (h : Below w.drew.heap.size w.drew w') : Below w.heap.size w w' := ⟨h.os, h.tape, h.output, h.size, h.block⟩
theorem upFr {lo hi b o : Nat} {W w1 : World} {v : Value} (hf : Fr lo hi W w1) (e : W.cell? ⟨b, o, none⟩ = some v) (h : b < W.heap.size) (h2 : b < lo ∨ hi ≤ b) : w1.cell? ⟨b, o, none⟩ = some v := (hf.cell (p := ⟨b, o, none⟩) h h2).trans e
theorem Own.marked {w : World} {lo hi n c : Nat} {e : TypeId} {A : Option Addr} {k : Int} {x : Nat → Value} (h : Own w lo hi e 1 A n c (mks k x n)) : Own w lo hi e 1 A n c (fun j => .int .i64 (k + j)) :=
  h.congr (fun j hj => by unfold mks; rw [if_pos (by omega)])
section
variable {H : Type} {enc : TypeId × Value → H} {w : World} {base : Nat} {spare : Nat → Bool} {held : Bool}
end
end Go.Proofs.YtmkahbephidmbaaGreat

/-
  Contract of the law's helper that asks whether a graph holds its marks.
-/
namespace Go.Proofs.YtmkahbephidmbaaGreat
open Go.RowKit

end Go.Proofs.YtmkahbephidmbaaGreat

/-
  How arguments read: slices of slices of integers; integers; strings.
-/
namespace Go.Proofs.YtmkahbephidmbaaGreat
open Go.ChangeShapes Go.WideShapes Go.ChangeAt Go.RowKit Go.Deep

section
variable {H : Type} {enc : TypeId × Value → H} {w : World} {base : Nat} {spare : Nat → Bool} {held : Bool}
end
end Go.Proofs.YtmkahbephidmbaaGreat
