/-
  Words for memory: a slice of slices of integers that the call owns, or that it only reads.
-/
import Derived.Test.YtnnlmdenffnjbaaRows
import Derived.Test.YtnnlmdenffnjbaaPush
import Derived.Test.YtnnlmdenffnjbaaLawGraph
namespace Go.Proofs.Ytnnlmdenffnjbaa
open Go.RowKit

/-- One inner slice: its address, its capacity, what it holds. -/
abbrev Dsc := Option Addr × Nat × List Int
def dv (d : Dsc) : Value := .slice d.1 d.2.2.length d.2.1
def dvs (D : List Dsc) : Nat → Value := fun j => dv (D.getD j (none, 0, []))
def ii (l : List Int) : Nat → Value := fun i => .int .i64 (l.getD i 0)
def lists (D : List Dsc) : List (List Int) := D.map (·.2.2)
/-- No two inner slices lie at one place. -/
def Apart (D : List Dsc) : Prop := D.Pairwise fun d e => ∀ a, d.1 = some a → e.1 ≠ some a
def OwnD (w : World) (lo hi : Nat) (A : Option Addr) (c : Nat) (D : List Dsc) : Prop :=
  Own w lo hi 22 1 A D.length c (dvs D) ∧ (∀ d ∈ D, Own w lo hi 3 1 d.1 d.2.2.length d.2.1 (ii d.2.2)) ∧ Apart D
def RdD (w : World) (B : Nat) (A : Option Addr) (c : Nat) (D : List Dsc) : Prop :=
  RdV w B A D.length c (dvs D) ∧ ∀ d ∈ D, Rd w B d.1 d.2.2.length d.2.1 (fun i => d.2.2.getD i 0)

theorem info_ints : (Try.prog.info? 22).map (fun i => (i.zero, i.size, i.bytes)) = some (some (.slice none 0 0), 1, 24) := by kernel_rfl

section
variable {w w' : World} {lo hi lo' hi' B B' c : Nat} {A : Option Addr} {D : List Dsc}
theorem OwnD.mono (h : OwnD w lo hi A c D) (h1 : lo' ≤ lo) (h2 : hi ≤ hi') : OwnD w lo' hi' A c D := ⟨h.1.mono h1 h2, fun d hd => (h.2.1 d hd).mono h1 h2, h.2.2⟩
theorem OwnD.keep {a b : Nat} (h : OwnD w lo hi A c D) (hf : Fr a b w w') (hab : hi ≤ a ∨ b ≤ lo) : OwnD w' lo hi A c D := ⟨h.1.keep hf hab, fun d hd => (h.2.1 d hd).keep hf hab, h.2.2⟩
theorem OwnD.keepB (h : OwnD w lo hi A c D) (hf : Below B w w') (hB : hi ≤ B) : OwnD w' lo hi A c D := ⟨h.1.keepB hf hB, fun d hd => (h.2.1 d hd).keepB hf hB, h.2.2⟩
theorem OwnD.alloc (h : OwnD w lo hi A c D) (o : Obj) : OwnD (w.alloc o) lo hi A c D := ⟨h.1.alloc o, fun d hd => (h.2.1 d hd).alloc o, h.2.2⟩
theorem OwnD.drew (h : OwnD w lo hi A c D) : OwnD w.drew lo hi A c D := h
theorem OwnD.rdD (h : OwnD w lo hi A c D) : RdD w hi A c D := ⟨h.1.rdV, fun d hd => (h.2.1 d hd).rd⟩
theorem RdD.keep (h : RdD w B A c D) (hb : Below B w w') (hB : B ≤ B') : RdD w' B' A c D := ⟨h.1.keep hb hB, fun d hd => (h.2 d hd).keep hb hB⟩
theorem OwnD.none_ (w : World) (lo hi : Nat) (g : Nat) (h1 : lo ≤ g) (h2 : g < hi) (hg : w.heap[g]? = some (.cells #[] 22 (0, 0))) : OwnD w lo hi (some ⟨g, 0, none⟩) 0 [] :=
  ⟨.inr ⟨g, #[], rfl, h1, h2, hg, Nat.le_refl _, by unfold maxLen; omega, rfl, fun j hj => absurd hj (by simp)⟩, (fun d hd => by cases hd), List.Pairwise.nil⟩
theorem OwnD.lt_ (h : OwnD w lo hi A c D) : OwnD w lo (min hi w.heap.size) A c D := ⟨h.1.lt, fun d hd => (h.2.1 d hd).lt, h.2.2⟩
theorem Own.only {e : TypeId} {size n : Nat} {x : Nat → Value} (h : Own w lo hi e size A n c x) (hn : 0 < n) : ∃ g, A = some ⟨g, 0, none⟩ ∧ lo ≤ g ∧ g < hi ∧ Own w g (g + 1) e size A n c x := by
  rcases h with h | ⟨g, cur, k1, k2, k3, r⟩
  · omega
  · exact ⟨g, k1, k2, k3, .inr ⟨g, cur, k1, Nat.le_refl _, Nat.lt_succ_self _, r⟩⟩
/-- Rows of different element types are different blocks. -/
theorem Own.types {e e' : TypeId} {s1 s2 n1 n2 c1 c2 lo1 hi1 lo2 hi2 : Nat} {A1 A2 : Option Addr} {x y : Nat → Value} (h : Own w lo1 hi1 e s1 A1 n1 c1 x) (k : Own w lo2 hi2 e' s2 A2 n2 c2 y) (hne : e ≠ e') {g : Nat} (h1 : A1 = some ⟨g, 0, none⟩) : A2 ≠ some ⟨g, 0, none⟩ := by
  rintro rfl
  subst h1
  rcases h with ⟨h, _⟩ | ⟨g1, cur1, k1, _, _, r1, _⟩
  · cases h
  rcases k with ⟨h, _⟩ | ⟨g2, cur2, k2, _, _, r2, _⟩
  · cases h
  simp only [Option.some.injEq, Addr.mk.injEq, and_true] at k1 k2
  subst k1 k2
  rw [r1] at r2
  simp only [Option.some.injEq, Obj.cells.injEq] at r2
  exact hne r2.2.1
theorem Own.at_block {e : TypeId} {size n : Nat} {x : Nat → Value} (h : Own w lo hi e size A n c x) : A = none ∨ ∃ g, A = some ⟨g, 0, none⟩ ∧ lo ≤ g ∧ g < hi := by
  rcases h with ⟨h, _⟩ | ⟨g, cur, k1, k2, k3, _⟩
  · exact .inl h
  · exact .inr ⟨g, k1, k2, k3⟩
/-- It stays while one other block is written. -/
theorem Own.keep1 {e : TypeId} {size n g : Nat} {x : Nat → Value} (h : Own w lo hi e size A n c x) (hf : Fr g (g + 1) w w') (hne : A ≠ some ⟨g, 0, none⟩) : Own w' lo hi e size A n c x := by
  rcases h with h | ⟨g1, cur, k1, k2, k3, k4, r⟩
  · exact .inl h
  · refine .inr ⟨g1, cur, k1, k2, k3, (hf.block g1 (Array.getElem?_eq_some_iff.1 k4).1 ?_).trans k4, r⟩
    have : g1 ≠ g := fun e => hne (by rw [k1, e])
    omega
theorem getD_append_left {D : List Dsc} {d : Dsc} {j : Nat} (h : j < D.length) : (D ++ [d]).getD j (none, 0, []) = D.getD j (none, 0, []) := by
  simp [List.getD, List.getElem?_append_left h]
theorem dvs_left {D : List Dsc} {d : Dsc} {j : Nat} (h : j < D.length) : dvs (D ++ [d]) j = dvs D j := by unfold dvs; rw [getD_append_left h]
theorem dvs_last {D : List Dsc} {d : Dsc} : dvs (D ++ [d]) D.length = dv d := by unfold dvs; simp [List.getD]
theorem dvs_at {D : List Dsc} {j : Nat} (h : j < D.length) : ∃ d, D[j]? = some d ∧ d ∈ D ∧ dvs D j = dv d := by
  refine ⟨D[j], List.getElem?_eq_getElem h, List.getElem_mem h, ?_⟩
  unfold dvs
  simp [List.getD, List.getElem?_eq_getElem h]
/-- One inner slice more. -/
theorem OwnD.push {D : List Dsc} {d : Dsc} {w w1 : World} {A : Option Addr} {c g cap : Nat} (h : ∀ d ∈ D, Own w lo hi 3 1 d.1 d.2.2.length d.2.1 (ii d.2.2)) (ha : Apart D) (hd : Own w lo hi 3 1 d.1 d.2.2.length d.2.1 (ii d.2.2)) (hnew : ∀ e ∈ D, ∀ a, e.1 = some a → d.1 ≠ some a)
    (hp : Pushed w w1 lo 22 1 A D.length c (dvs (D ++ [d])) g cap) (hown : Own w lo hi 22 1 A D.length c (dvs D)) (hhi : hi ≤ w.heap.size) :
    OwnD w1 lo w1.heap.size (some ⟨g, 0, none⟩) cap (D ++ [d]) := by
  have hs := hp.grown.size
  have keep : ∀ e : Dsc, Own w lo hi 3 1 e.1 e.2.2.length e.2.1 (ii e.2.2) → Own w1 lo w1.heap.size 3 1 e.1 e.2.2.length e.2.1 (ii e.2.2) := by
    intro e he
    have hne : ∀ g', e.1 = some ⟨g', 0, none⟩ → A ≠ some ⟨g', 0, none⟩ := fun g' hg' => he.types hown (by decide) hg'
    rcases he with h | ⟨g1, cur, k1, k2, k3, k4, r⟩
    · exact .inl h
    · refine .inr ⟨g1, cur, k1, k2, by omega, (hp.grown.block g1 (Array.getElem?_eq_some_iff.1 k4).1 ?_).trans k4, r⟩
      intro heq
      rcases hown with ⟨rfl, _⟩ | ⟨g2, cur2, rfl, _⟩
      · simp [Value.ownBlock] at heq
      · simp [Value.ownBlock] at heq
        exact hne g1 k1 (by rw [heq])
  refine ⟨by rw [List.length_append]; exact hp.own, fun e he => ?_, ?_⟩
  · rw [List.mem_append, List.mem_singleton] at he
    rcases he with he | rfl
    · exact keep e (h e he)
    · exact keep e hd
  · refine List.pairwise_append.2 ⟨ha, List.pairwise_singleton _ _, ?_⟩
    intro e he f hf a h1
    rw [List.mem_singleton] at hf
    subst hf
    exact hnew e he a h1
end
end Go.Proofs.Ytnnlmdenffnjbaa
