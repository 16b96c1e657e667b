/-
  Words for memory, over no program: what lies outside a range of blocks is as it was; a slice of the call's own whose cells are known; a slice that is only read.
-/
import Derived.Test.YtnnlmdenffnjbaaLib
import Derived.Deep.OwnRows
namespace Go.Proofs.Ytnnlmdenffnjbaa
open Go.RowKit

/-- Outside the blocks lo, .., hi - 1 the world w' is as w was. -/
structure Fr (lo hi : Nat) (w w' : World) : Prop where
  os : w'.os = w.os
  tape : w'.tape = w.tape
  output : w'.output = w.output
  size : w.heap.size ≤ w'.heap.size
  block : ∀ k, k < w.heap.size → (k < lo ∨ hi ≤ k) → w'.heap[k]? = w.heap[k]?

section
variable {lo hi B : Nat} {w w' w'' : World}
theorem Fr.refl (lo hi : Nat) (w : World) : Fr lo hi w w := ⟨rfl, rfl, rfl, Nat.le_refl _, fun _ _ _ => rfl⟩
theorem Fr.trans (h : Fr lo hi w w') (k : Fr lo hi w' w'') : Fr lo hi w w'' :=
  ⟨k.os.trans h.os, k.tape.trans h.tape, k.output.trans h.output, Nat.le_trans h.size k.size, fun i hi ho => (k.block i (Nat.lt_of_lt_of_le hi h.size) ho).trans (h.block i hi ho)⟩
theorem Fr.of_below (h : Below w.heap.size w w') : Fr lo hi w w' := ⟨h.os, h.tape, h.output, h.size, fun k hk _ => h.block k hk⟩
theorem Fr.drew (h : Fr lo hi w w') : Fr lo hi w w'.drew := ⟨h.os, h.tape, h.output, h.size, h.block⟩
theorem Fr.drewN (h : Fr lo hi w w') (n : Nat) : Fr lo hi w (w'.drewN n) := ⟨h.os, h.tape, h.output, h.size, h.block⟩
theorem Fr.alloc (h : Fr lo hi w w') (o : Obj) : Fr lo hi w (w'.alloc o) :=
  ⟨h.os, h.tape, h.output, by have := h.size; simp; omega, fun k hk ho => (Below.heap_alloc w' o k (Nat.lt_of_lt_of_le hk h.size)).trans (h.block k hk ho)⟩
theorem Fr.setCell (h : Fr lo hi w w') {p : Addr} (hp : lo ≤ p.block) (hq : p.block < hi) (u : Value) : Fr lo hi w (w'.setCell p u) :=
  ⟨h.os, h.tape, h.output, by have := h.size; simpa [World.setCell] using this, fun k hk ho => (Below.heap_setCell w' p u k (by omega)).trans (h.block k hk ho)⟩
theorem Fr.below (h : Fr lo hi w w') (hB : B ≤ lo) (hw : B ≤ w.heap.size) : Below B w w' := ⟨h.os, h.tape, h.output, h.size, fun k hk => h.block k (by omega) (by omega)⟩
theorem Fr.cell (h : Fr lo hi w w') {p : Addr} (hp : p.block < w.heap.size) (ho : p.block < lo ∨ hi ≤ p.block) : w'.cell? p = w.cell? p := World.cell?_of_block (h.block _ hp ho)
theorem Fr.mono {lo' hi' : Nat} (h : Fr lo hi w w') (h1 : lo' ≤ lo) (h2 : hi ≤ hi') : Fr lo' hi' w w' := ⟨h.os, h.tape, h.output, h.size, fun k hk ho => h.block k hk (by omega)⟩
theorem below_drewN {a : World} (h : Below B a w) (n : Nat) : Below B a (w.drewN n) := ⟨h.os, h.tape, h.output, h.size, h.block⟩
end

/-- The slice value '.slice A n c', its elements of 'size' cells of type e, lies at the head of a block from lo to hi - 1 (or is nil), and its cells hold x 0, x 1, .. -/
def Own (w : World) (lo hi : Nat) (e : TypeId) (size : Nat) (A : Option Addr) (n c : Nat) (x : Nat → Value) : Prop :=
  (A = none ∧ n = 0 ∧ c = 0) ∨ ∃ g cur, A = some ⟨g, 0, none⟩ ∧ lo ≤ g ∧ g < hi ∧ w.heap[g]? = some (.cells cur e (0, 0)) ∧ n ≤ c ∧ c ≤ maxLen ∧ cur.size = c * size ∧ ∀ j, j < n * size → cur[j]? = some (x j)

section
variable {lo hi lo' hi' : Nat} {w w' : World} {e : TypeId} {size n c : Nat} {A : Option Addr} {x y : Nat → Value}
theorem Own.congr (h : Own w lo hi e size A n c x) (hx : ∀ j, j < n * size → x j = y j) : Own w lo hi e size A n c y := by
  rcases h with h | ⟨g, cur, h1, h2, h3, h4, h5, h6, h7, h8⟩
  · exact .inl h
  · exact .inr ⟨g, cur, h1, h2, h3, h4, h5, h6, h7, fun j hj => by rw [h8 j hj, hx j hj]⟩
theorem Own.mono (h : Own w lo hi e size A n c x) (h1 : lo' ≤ lo) (h2 : hi ≤ hi') : Own w lo' hi' e size A n c x := by
  rcases h with h | ⟨g, cur, k1, k2, k3, r⟩
  · exact .inl h
  · exact .inr ⟨g, cur, k1, by omega, by omega, r⟩
theorem Own.le (h : Own w lo hi e size A n c x) : n ≤ c := by
  rcases h with ⟨_, h1, h2⟩ | ⟨g, cur, _, _, _, _, h5, _⟩ <;> omega
theorem Own.lt {w : World} (h : Own w lo hi e size A n c x) : Own w lo (min hi w.heap.size) e size A n c x := by
  rcases h with h | ⟨g, cur, k1, k2, k3, k4, r⟩
  · exact .inl h
  · have := (Array.getElem?_eq_some_iff.1 k4).1
    exact .inr ⟨g, cur, k1, k2, by omega, k4, r⟩
/-- It stays while other blocks are written. -/
theorem Own.keep {a b : Nat} (h : Own w lo hi e size A n c x) (hf : Fr a b w w') (hab : hi ≤ a ∨ b ≤ lo) : Own w' lo hi e size A n c x := by
  rcases h with h | ⟨g, cur, k1, k2, k3, k4, r⟩
  · exact .inl h
  · exact .inr ⟨g, cur, k1, k2, k3, (hf.block g (Array.getElem?_eq_some_iff.1 k4).1 (by omega)).trans k4, r⟩
theorem Own.keepB {B : Nat} (h : Own w lo hi e size A n c x) (hf : Below B w w') (hB : hi ≤ B) : Own w' lo hi e size A n c x := by
  rcases h with h | ⟨g, cur, k1, k2, k3, k4, r⟩
  · exact .inl h
  · exact .inr ⟨g, cur, k1, k2, k3, (hf.block g (by omega)).trans k4, r⟩
theorem Own.alloc (h : Own w lo hi e size A n c x) (o : Obj) : Own (w.alloc o) lo hi e size A n c x := by
  rcases h with h | ⟨g, cur, k1, k2, k3, k4, r⟩
  · exact .inl h
  · exact .inr ⟨g, cur, k1, k2, k3, (Below.heap_alloc w o g (Array.getElem?_eq_some_iff.1 k4).1).trans k4, r⟩
theorem Own.drewN (h : Own w lo hi e size A n c x) (k : Nat) : Own (w.drewN k) lo hi e size A n c x := h
theorem Own.drew (h : Own w lo hi e size A n c x) : Own w.drew lo hi e size A n c x := h
/-- Where there are elements: the block; its cells; that none is frozen. -/
theorem Own.at_ (h : Own w lo hi e size A n c x) (hn : 0 < n) : ∃ g, A = some ⟨g, 0, none⟩ ∧ lo ≤ g ∧ g < hi ∧ g < w.heap.size ∧ (∀ j, j < n * size → w.cell? ⟨g, j, none⟩ = some (x j)) ∧ ∀ j, w.frozen? ⟨g, j, none⟩ = false := by
  rcases h with h | ⟨g, cur, k1, k2, k3, k4, k5, k6, k7, k8⟩
  · omega
  · refine ⟨g, k1, k2, k3, (Array.getElem?_eq_some_iff.1 k4).1, fun j hj => ?_, fun j => ?_⟩
    · rw [cell_of_row w g j cur e (0, 0) k4]; exact k8 j hj
    · exact frozen_of_row w g j cur e k4
/-- A store into it. -/
theorem Own.set_ {g : Nat} (h : Own w lo hi e size (some ⟨g, 0, none⟩) n c x) (i : Nat) (u : Value) :
    Own (w.setCell ⟨g, i, none⟩ u) lo hi e size (some ⟨g, 0, none⟩) n c (fun j => if j = i then u else x j) := by
  rcases h with ⟨h, _⟩ | ⟨g', cur, k1, k2, k3, k4, k5, k6, k7, k8⟩
  · cases h
  · simp only [Option.some.injEq, Addr.mk.injEq, and_true] at k1
    subst k1
    refine .inr ⟨g, cur.setIfInBounds i u, rfl, k2, k3, heap_setCell_same w g i cur e u k4, k5, k6, by simpa using k7, fun j hj => ?_⟩
    have hlt : j < cur.size := by rw [k7]; exact Nat.lt_of_lt_of_le hj (Nat.mul_le_mul_right _ k5)
    rw [Array.getElem?_setIfInBounds]
    by_cases hji : j = i
    · subst hji; simp [hlt]
    · rw [if_neg (fun e => hji e.symm)]; simp only [if_neg hji]; exact k8 j hj
theorem Own.of_row {xs : List Value} (h : w.ownsRow lo e size (.slice A n c) n xs) (hx : ∀ j, j < n * size → xs[j]? = some (x j)) : Own w lo w.heap.size e size A n c x := by
  rcases h.2 with ⟨h1, h2⟩ | ⟨g, cap, cur, h1, h2, h3, h4, h5, h6, h7⟩
  · simp only [Value.slice.injEq] at h1
    exact .inl ⟨h1.1, h2, h1.2.2⟩
  · simp only [Value.slice.injEq, true_and] at h1
    obtain ⟨rfl, rfl⟩ := h1
    refine .inr ⟨g, cur, rfl, h2, (Array.getElem?_eq_some_iff.1 h3).1, h3, h4, h5, h6, fun j hj => ?_⟩
    have := hx j hj
    rw [← h7, List.getElem?_take, if_pos hj] at this
    simpa using this
theorem row_form {v : Value} {xs : List Value} (h : w.ownsRow lo e size v n xs) : ∃ A c, v = .slice A n c := by
  rcases h.2 with ⟨h1, h2⟩ | ⟨g, cap, cur, h1, h2⟩
  · exact ⟨none, 0, by rw [h1, h2]⟩
  · exact ⟨_, _, h1⟩
theorem Own.nil (w : World) (lo hi : Nat) (e : TypeId) (size : Nat) (x : Nat → Value) : Own w lo hi e size none 0 0 x := .inl ⟨rfl, rfl, rfl⟩
theorem Own.row (h : Own w lo hi e size A n c x) : w.ownsRow lo e size (.slice A n c) n ((List.range (n * size)).map x) := by
  refine ⟨by simp, ?_⟩
  rcases h with ⟨rfl, rfl, rfl⟩ | ⟨g, cur, rfl, k2, k3, k4, k5, k6, k7, k8⟩
  · exact .inl ⟨rfl, rfl⟩
  · refine .inr ⟨g, c, cur, rfl, k2, k4, k5, k6, k7, ?_⟩
    have hle : n * size ≤ cur.size := by rw [k7]; exact Nat.mul_le_mul_right _ k5
    apply List.ext_getElem?
    intro j
    rw [List.getElem?_take]
    by_cases hj : j < n * size
    · rw [if_pos hj, Array.getElem?_toList, k8 j hj]; simp [hj]
    · rw [if_neg hj]; simp [hj]
end

/-- The slice value '.slice A n c' reads as the values x 0, .., x (n - 1), each one cell, in blocks below B. -/
def RdV (w : World) (B : Nat) (A : Option Addr) (n c : Nat) (x : Nat → Value) : Prop :=
  n ≤ c ∧ (0 < n → ∃ b o, A = some ⟨b, o, none⟩ ∧ b < B ∧ ∀ k, k < n → w.cell? ⟨b, o + k, none⟩ = some (x k))
theorem Own.rdV {lo hi : Nat} {w : World} {e : TypeId} {n c : Nat} {A : Option Addr} {x : Nat → Value} (h : Own w lo hi e 1 A n c x) : RdV w hi A n c x :=
  ⟨h.le, fun hn => by
    obtain ⟨g, e1, _, h2, _, h3, _⟩ := h.at_ hn
    exact ⟨g, 0, e1, h2, fun k hk => by rw [Nat.zero_add]; exact h3 k (by omega)⟩⟩
theorem Own.rd {lo hi : Nat} {w : World} {e : TypeId} {n c : Nat} {A : Option Addr} {x : Nat → Int} (h : Own w lo hi e 1 A n c (fun j => .int .i64 (x j))) : Rd w hi A n c x :=
  ⟨h.le, fun hn => by
    obtain ⟨g, e1, _, h2, _, h3, _⟩ := h.at_ hn
    exact ⟨g, 0, e1, h2, fun k hk => by rw [Nat.zero_add]; exact h3 k (by omega)⟩⟩
theorem RdV.keep {w w' : World} {B B' : Nat} {A : Option Addr} {n c : Nat} {x : Nat → Value} (h : RdV w B A n c x) (hb : Below B w w') (hB : B ≤ B') : RdV w' B' A n c x := by
  refine ⟨h.1, fun hn => ?_⟩
  obtain ⟨b, o, e, hlt, hc⟩ := h.2 hn
  exact ⟨b, o, e, by omega, fun k hk => (hb.cell (p := ⟨b, o + k, none⟩) hlt).trans (hc k hk)⟩
end Go.Proofs.Ytnnlmdenffnjbaa
