/-
  Several texts in one: words for memory, plain laws and contracts that the later texts lean on.
-/
import Derived.Test.YtmkahbephidmbaaQcGB
import Derived.Test.YtmkahbephidmbaaRows
import Derived.Test.YtmkahbephidmbaaQcGA
import Derived.Deep.RegionHeld3
import Derived.Deep.QuietTactic
import Derived.BigQuiet
import Derived.ProofKit
import Derived.OpenShut
import Derived.ShutString
import Derived.Lib.SmallJoins
import Derived.Carry
import Derived.Deep.Slices
import Derived.Deep.Fields
import Derived.ChangeSame
/-
  Contracts of the law's helpers on slices of edits.
-/
namespace Go.Proofs.Ytmkahbephidmbaa
open Go.RowKit

end Go.Proofs.Ytmkahbephidmbaa

/-
  Contracts of the law's helpers on slices of at most nine strings.
-/
namespace Go.Proofs.Ytmkahbephidmbaa
open Go.RowKit

end Go.Proofs.Ytmkahbephidmbaa

/-
  How the laws' arguments read: slices of integers, graphs, integers, strings.
-/
namespace Go.Proofs.Ytmkahbephidmbaa
open Go.ChangeShapes Go.WideShapes Go.ChangeAt Go.RowKit

theorem own : ownKnob Try.prog.godebug = none := by kernel_rfl
theorem laidOut : laidOutB Try.prog = true := by kernel_rfl

section
variable {H : Type} {enc : TypeId × Value → H} {w : World} {base : Nat} {spare : Nat → Bool} {held : Bool}

theorem rd_of_cells {a : Addr} {n c : Nat} {x : Nat → Int} (hl : n ≤ c) (hc : ∀ i, i < n → w.cell? (a.add i) = some (.int .i64 (x i))) : Rd w w.heap.size (some a) n c x := by
  refine ⟨hl, fun hn => ?_⟩
  obtain ⟨b, o, s⟩ := a
  have h0 := hc 0 hn
  have hs : s = none := by simpa [Addr.add] using World.cell?_spot h0
  subst hs
  have hadd : ∀ k, (⟨b, o, none⟩ : Addr).add k = ⟨b, o + k, none⟩ := fun k => by unfold Addr.add; split <;> simp_all
  refine ⟨b, o, rfl, ?_, fun k hk => by rw [← hadd]; exact hc k hk⟩
  have := World.block_lt_of_cell? w _ h0
  rw [hadd] at this
  exact this

theorem open_intS {fuel : Nat} {v : Value} {y : DataW H × List MemPlace} (h : DataW.trod enc Try.prog w base spare held fuel 22 [v] = some y) :
    ∃ A n c x, v = .slice A n c ∧ Rd w w.heap.size A n c x ∧ n ≤ maxLen := by
  rcases open_ints Try.underlying22 Try.underlying3 (by kernel_rfl) h with ⟨hcs, _⟩ | ⟨a, l, c, zs, hcs, _, hl, hm, hz, _, hcell, _⟩
  · simp only [List.cons.injEq, and_true] at hcs
    exact ⟨none, 0, 0, fun _ => 0, hcs, Rd.nil _ _ _ _ _, Nat.zero_le _⟩
  · simp only [List.cons.injEq, and_true] at hcs
    refine ⟨some a, l, c, fun i => zs.getD i 0, hcs, rd_of_cells hl (fun i hi => hcell i ?_), Nat.le_trans hl hm⟩
    rw [hz]; split <;> omega

set_option maxRecDepth 100000 in
theorem open_graph {r : Reach} {b0 : Nat} {v : Value} {d : DataW H} {p : List MemPlace} (hv : Value.okWide Try.prog w r b0 24 v)
    (h : DataW.Trod enc Try.prog w base spare held 24 v d p) :
    ∃ sz A n c x, v = .agg #[.int .i64 sz, .slice A n c] ∧ Rd w w.heap.size A n c x ∧ n ≤ maxLen := by
  obtain ⟨v0, v1, y0, y1, m, rfl, _, _, h0, h1⟩ := Go.Joins.open_agg2 Try.underlying24 (by kernel_rfl) (by kernel_rfl) hv h
  obtain ⟨sz, e0, _, _⟩ := DataW.trod_int Try.underlying3 h0
  simp only [List.cons.injEq, and_true] at e0
  subst e0
  obtain ⟨A, n, c, x, rfl, hr, hn⟩ := open_intS h1
  exact ⟨sz, A, n, c, x, rfl, hr, hn⟩

theorem places_lt {t : TypeId} {v : Value} {d : DataW H} {p : List MemPlace} (h : DataW.Trod enc Try.prog w base spare held t v d p) : ∀ x ∈ p, x.block < w.heap.size := by
  obtain ⟨m, hm⟩ := h
  exact DataW.trod_lt m _ _ _ hm
end
end Go.Proofs.Ytmkahbephidmbaa

/-
  How further arguments read (slices of edits); small laws that the generated walks use.
-/
namespace Go.Proofs.Ytmkahbephidmbaa
open Go.ChangeShapes Go.WideShapes Go.ChangeAt Go.RowKit Go.Deep

theorem bd {w w' : World} (h : Below w.drew.heap.size w.drew w') : Below w.heap.size w w' := ⟨h.os, h.tape, h.output, h.size, h.block⟩
section
variable {H : Type} {enc : TypeId × Value → H} {w : World} {base : Nat} {spare : Nat → Bool} {held : Bool}
end
end Go.Proofs.Ytmkahbephidmbaa

/-
  Contract of the law's helper that asks whether a graph holds its marks.
-/
namespace Go.Proofs.Ytmkahbephidmbaa
open Go.RowKit

end Go.Proofs.Ytmkahbephidmbaa

/-
  How arguments read: slices of slices of integers; integers; strings.
-/
namespace Go.Proofs.Ytmkahbephidmbaa
open Go.ChangeShapes Go.WideShapes Go.ChangeAt Go.RowKit Go.Deep

section
variable {H : Type} {enc : TypeId × Value → H} {w : World} {base : Nat} {spare : Nat → Bool} {held : Bool}
set_option maxRecDepth 100000 in
theorem open_slice_int {r : Reach} {b0 : Nat} {vv : Value} {d : DataW H} {p : List MemPlace} (_hv : Value.okWide Try.prog w r b0 22 vv)
    (h : DataW.Trod enc Try.prog w base spare held 22 vv d p) : ∃ A n c x, vv = .slice A n c ∧ Rd w w.heap.size A n c x ∧ n ≤ maxLen := by
  obtain ⟨A0, n0, c0, rfl⟩ := okWide_slice Try.underlying22 _hv
  obtain ⟨fuel, hf⟩ := h
  exact open_intS hf
end
end Go.Proofs.Ytmkahbephidmbaa
