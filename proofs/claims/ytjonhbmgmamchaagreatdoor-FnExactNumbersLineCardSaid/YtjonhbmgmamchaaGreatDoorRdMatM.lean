/-
  A list of pairs that is read at any offset, and a list of slices of which only the length counts.
-/
import Derived.Test.YtjonhbmgmamchaaGreatDoorRdBndQ
import Derived.Test.YtjonhbmgmamchaaGreatDoorRdPackP
import Derived.Test.YtjonhbmgmamchaaGreatDoorRdGB
namespace Go.Proofs.YtjonhbmgmamchaaGreatDoor
open Go.RowKit

/-- A slice that reads as a list of pairs. -/
structure RPr (w : World) (A : Option Addr) (c : Nat) (L : List (Nat × Nat)) : Prop where
  le : L.length ≤ c
  pos : 0 < L.length → ∃ b o, A = some ⟨b, o, none⟩ ∧ b < w.heap.size ∧ ∀ k (hk : k < L.length), ∃ g cap, w.cell? ⟨b, o + k, none⟩ = some (.slice (some ⟨g, 0, none⟩) 2 cap) ∧ AC w g cap L[k]
/-- A slice of slices that is read. -/
structure MR (w : World) (A : Option Addr) (n c : Nat) : Prop where
  rd : ∃ y : Nat → Value, RdV w w.heap.size A n c y ∧ ∀ k, (y k).oneCell' = true
section
variable {w w' : World} {A : Option Addr} {b o c n : Nat} {L : List (Nat × Nat)} {e : Nat × Nat}
theorem RPr.keep (h : RPr w A c L) (hb : Below w.heap.size w w') : RPr w' A c L := by
  refine ⟨h.le, fun hp => ?_⟩
  obtain ⟨b, o, h1, h2, h3⟩ := h.pos hp
  refine ⟨b, o, h1, Nat.lt_of_lt_of_le h2 hb.size, fun k hk => ?_⟩
  obtain ⟨g, cap, h4, h5⟩ := h3 k hk
  exact ⟨g, cap, up hb h4 h2, h5.keep hb⟩
theorem RPr.addr (h : RPr w A c L) (hp : 0 < L.length) : ∃ b o, A = some ⟨b, o, none⟩ := by
  obtain ⟨b, o, h1, _⟩ := h.pos hp
  exact ⟨b, o, h1⟩
theorem RPr.at (h : RPr w (some ⟨b, o, none⟩) c L) {k : Nat} (hk : k < L.length) : ∃ g cap, w.cell? ⟨b, o + k, none⟩ = some (.slice (some ⟨g, 0, none⟩) 2 cap) ∧ AC w g cap L[k] := by
  obtain ⟨b', o', h1, _, h3⟩ := h.pos (by omega)
  simp only [Option.some.injEq, Addr.mk.injEq, and_true] at h1
  obtain ⟨rfl, rfl⟩ := h1
  exact h3 k hk
theorem RPr.bl (h : RPr w (some ⟨b, o, none⟩) c L) (hp : 0 < L.length) : b < w.heap.size := by
  obtain ⟨b', o', h1, h2, _⟩ := h.pos hp
  simp only [Option.some.injEq, Addr.mk.injEq, and_true] at h1
  obtain ⟨rfl, rfl⟩ := h1
  exact h2
theorem RPr.tail (h : RPr w (some ⟨b, o, none⟩) c (e :: L)) (A' : Option Addr) (hA : 0 < L.length → A' = some ⟨b, o + 1, none⟩) : RPr w A' (c - 1) L := by
  have hle := h.le
  simp only [List.length_cons] at hle
  refine ⟨by omega, fun hp => ⟨b, o + 1, hA hp, h.bl (by simp), fun k hk => ?_⟩⟩
  obtain ⟨g, cap, h1, h2⟩ := h.at (k := k + 1) (by simp; omega)
  exact ⟨g, cap, by rw [show o + 1 + k = o + (k + 1) by omega]; exact h1, h2⟩
theorem OC.re {lo hi : Nat} (h : OC lo hi w A c L) : RPr w A c L := by
  refine ⟨h.le, fun hp => ?_⟩
  obtain ⟨b, rfl⟩ := h.addr hp
  have hb : b < w.heap.size := by
    obtain ⟨g, cap, h1, _⟩ := h.arc hp
    exact World.block_lt_of_cell? _ _ h1
  refine ⟨b, 0, rfl, hb, fun k hk => ?_⟩
  obtain ⟨g, cap, h1, _, h3⟩ := h.arc hk
  exact ⟨g, cap, by rw [Nat.zero_add]; exact h1, h3⟩
theorem MR.keep (h : MR w A n c) (hb : Below w.heap.size w w') : MR w' A n c := by
  obtain ⟨y, h1, h2⟩ := h.rd
  exact ⟨y, h1.keep hb hb.size, h2⟩
theorem MR.nil (w : World) (A : Option Addr) (c : Nat) : MR w A 0 c := ⟨fun _ => .bool false, ⟨Nat.zero_le _, fun h => absurd h (by omega)⟩, fun _ => rfl⟩
theorem MR.of {lo hi : Nat} {y : Nat → Value} (h : Own w lo hi 22 1 A n c y) (hhi : hi ≤ w.heap.size) (hy : ∀ k, (y k).oneCell' = true) : MR w A n c := ⟨y, (h.mono (Nat.le_refl _) hhi).rdV, hy⟩
theorem one_slice (w : World) (g cap : Nat) : Own (w.alloc (Obj.cells #[.slice (some ⟨g, 0, none⟩) 2 cap] 22)) w.heap.size (w.heap.size + 1) 22 1 (some ⟨w.heap.size, 0, none⟩) 1 1 (fun _ => .slice (some ⟨g, 0, none⟩) 2 cap) :=
  .inr ⟨w.heap.size, #[.slice (some ⟨g, 0, none⟩) 2 cap], rfl, Nat.le_refl _, Nat.lt_succ_self _, heap_alloc_new w _, Nat.le_refl _, by unfold maxLen; omega, rfl, fun j hj => by
    obtain rfl : j = 0 := by omega
    rfl⟩
theorem thenV_one {x : Value} {y : Nat → Value} (hx : x.oneCell' = true) (hy : ∀ k, (y k).oneCell' = true) (k : Nat) : (thenV 1 (fun _ => x) y k).oneCell' = true := by
  unfold thenV
  split
  · exact hx
  · exact hy _
end
end Go.Proofs.YtjonhbmgmamchaaGreatDoor
