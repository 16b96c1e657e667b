/-
  Words for memory: a list of arcs whose outer row the call owns and whose inner rows, typed blocks, may be shared.
-/
import Derived.Test.YtjonhbmgmamchaaGreatDoorRdGB
import Derived.Test.YtjonhbmgmamchaaGreatDoorRdPackP
import Derived.Test.YtjonhbmgmamchaaGreatDoorRdGA
namespace Go.Proofs.YtjonhbmgmamchaaGreatDoor
open Go.RowKit

def OwnE (w : World) (lo hi : Nat) (A : Option Addr) (c : Nat) (D : List Dsc) : Prop :=
  Own w lo hi 22 1 A D.length c (dvs D) ∧ ∀ d ∈ D, Own w lo hi 3 1 d.1 d.2.2.length d.2.1 (ii d.2.2)
/-- Arcs as lists of two numbers. -/
def arI (L : List (Nat × Nat)) : List (List Int) := L.map fun p => [(p.1 : Int), (p.2 : Int)]
section
variable {w w' : World} {lo hi lo' hi' B c : Nat} {A : Option Addr} {D : List Dsc} {L : List (Nat × Nat)}
theorem OwnD.e (h : OwnD w lo hi A c D) : OwnE w lo hi A c D := ⟨h.1, h.2.1⟩
theorem OwnE.mono (h : OwnE w lo hi A c D) (h1 : lo' ≤ lo) (h2 : hi ≤ hi') : OwnE w lo' hi' A c D := ⟨h.1.mono h1 h2, fun d hd => (h.2 d hd).mono h1 h2⟩
theorem OwnE.keep {a b : Nat} (h : OwnE w lo hi A c D) (hf : Fr a b w w') (hab : hi ≤ a ∨ b ≤ lo) : OwnE w' lo hi A c D := ⟨h.1.keep hf hab, fun d hd => (h.2 d hd).keep hf hab⟩
theorem OwnE.keepB (h : OwnE w lo hi A c D) (hf : Below B w w') (hB : hi ≤ B) : OwnE w' lo hi A c D := ⟨h.1.keepB hf hB, fun d hd => (h.2 d hd).keepB hf hB⟩
theorem OwnE.alloc (h : OwnE w lo hi A c D) (o : Obj) : OwnE (w.alloc o) lo hi A c D := ⟨h.1.alloc o, fun d hd => (h.2 d hd).alloc o⟩
theorem OwnE.drewN (h : OwnE w lo hi A c D) (k : Nat) : OwnE (w.drewN k) lo hi A c D := h
/-- One arc more. -/
theorem OwnE.push {d : Dsc} {w w1 : World} {g cap : Nat} (h : OwnE w lo hi A c D) (hd : Own w lo hi 3 1 d.1 d.2.2.length d.2.1 (ii d.2.2))
    (hp : Pushed w w1 lo 22 1 A D.length c (dvs (D ++ [d])) g cap) (hhi : hi ≤ w.heap.size) : OwnE w1 lo w1.heap.size (some ⟨g, 0, none⟩) cap (D ++ [d]) := by
  have hs := hp.grown.size
  have hown := h.1
  have keep : ∀ e : Dsc, Own w lo hi 3 1 e.1 e.2.2.length e.2.1 (ii e.2.2) → Own w1 lo w1.heap.size 3 1 e.1 e.2.2.length e.2.1 (ii e.2.2) := by
    intro e he
    have hne : ∀ g', e.1 = some ⟨g', 0, none⟩ → A ≠ some ⟨g', 0, none⟩ := fun g' hg' => he.types hown (by decide) hg'
    rcases he with h | ⟨g1, cur, k1, k2, k3, k4, r⟩
    · exact .inl h
    · refine .inr ⟨g1, cur, k1, k2, by omega, (hp.grown.block g1 (Array.getElem?_eq_some_iff.1 k4).1 ?_).trans k4, r⟩
      intro heq
      rcases hown with ⟨rfl, _⟩ | ⟨g2, cur2, rfl, _⟩
      · simp [Value.ownBlock] at heq
      · simp [Value.ownBlock] at heq
        exact hne g1 k1 (by rw [heq])
  refine ⟨by rw [List.length_append]; exact hp.own, fun e he => ?_⟩
  rw [List.mem_append, List.mem_singleton] at he
  rcases he with he | rfl
  · exact keep e (h.2 e he)
  · exact keep e hd
/-- An arc in memory. -/
structure AC (w : World) (g : Nat) (cap : Nat) (p : Nat × Nat) : Prop where
  own : Own w g (g + 1) 3 1 (some ⟨g, 0, none⟩) 2 cap (ii [(p.1 : Int), (p.2 : Int)])
theorem AC.lt {g cap : Nat} {p : Nat × Nat} (h : AC w g cap p) : g < w.heap.size := by
  obtain ⟨g2, e, _, _, h2, _⟩ := h.own.at_ (by omega)
  cases e
  exact h2
theorem AC.c0 {g cap : Nat} {p : Nat × Nat} (h : AC w g cap p) : w.cell? ⟨g, 0, none⟩ = some (.int .i64 (p.1 : Nat)) := by
  obtain ⟨g2, e, _, _, _, h2, _⟩ := h.own.at_ (by omega)
  cases e
  exact h2 0 (by omega)
theorem AC.c1 {g cap : Nat} {p : Nat × Nat} (h : AC w g cap p) : w.cell? ⟨g, 1, none⟩ = some (.int .i64 (p.2 : Nat)) := by
  obtain ⟨g2, e, _, _, _, h2, _⟩ := h.own.at_ (by omega)
  cases e
  exact h2 1 (by omega)
theorem AC.le {g cap : Nat} {p : Nat × Nat} (h : AC w g cap p) : 2 ≤ cap := h.own.le
theorem AC.keep {g cap : Nat} {p : Nat × Nat} (h : AC w g cap p) (hb : Below w.heap.size w w') : AC w' g cap p := ⟨h.own.keepB hb h.lt⟩
/-- The k-th arc of a list. -/
theorem OwnE.arc (h : OwnE w lo hi A c D) (hD : lists D = arI L) {k : Nat} (hk : k < L.length) : ∃ (b g cap : Nat), A = some ⟨b, 0, none⟩ ∧ b < w.heap.size ∧ w.cell? ⟨b, k, none⟩ = some (.slice (some ⟨g, 0, none⟩) 2 cap) ∧ lo ≤ g ∧ g < hi ∧ AC w g cap L[k] ∧ D[k]? = some (some ⟨g, 0, none⟩, cap, [((L[k]).1 : Int), ((L[k]).2 : Int)]) := by
  have hlen : D.length = L.length := by
    have := congrArg List.length hD
    unfold lists arI at this
    rwa [List.length_map, List.length_map] at this
  obtain ⟨b, e, _, _, hbw, hc, _⟩ := h.1.at_ (by omega)
  obtain ⟨d, hd1, hd2, hd3⟩ := dvs_at (D := D) (j := k) (by omega)
  have h3 := hc k (by omega)
  rw [hd3] at h3
  have hv : d.2.2 = [((L[k]).1 : Int), ((L[k]).2 : Int)] := by
    have e1 : (lists D)[k]? = some d.2.2 := by unfold lists; rw [List.getElem?_map, hd1]; rfl
    have e2 : (arI L)[k]? = some [((L[k]).1 : Int), ((L[k]).2 : Int)] := by unfold arI; rw [List.getElem?_map, List.getElem?_eq_getElem hk]; rfl
    rw [hD, e2] at e1
    exact (Option.some.inj e1).symm
  have ho := h.2 d hd2
  obtain ⟨a, cp, l⟩ := d
  simp only at hv
  subst hv
  have ho2 : Own w lo hi 3 1 a 2 cp (ii [((L[k]).1 : Int), ((L[k]).2 : Int)]) := ho
  obtain ⟨g, hg1, hg2, hg3, hg4⟩ := ho2.only (by omega)
  subst hg1
  exact ⟨b, g, cp, e, hbw, h3, hg2, hg3, ⟨hg4⟩, hd1⟩
theorem arI_len (hD : lists D = arI L) : D.length = L.length := by
  have := congrArg List.length hD
  unfold lists arI at this
  rwa [List.length_map, List.length_map] at this
end
/-- A list of arcs that can be read, in blocks from lo to hi - 1. -/
structure OC (lo hi : Nat) (w : World) (A : Option Addr) (c : Nat) (L : List (Nat × Nat)) : Prop where
  ex : ∃ D, OwnE w lo hi A c D ∧ lists D = arI L
  hi_le : hi ≤ w.heap.size
section
variable {w w' : World} {lo hi lo' hi' B c g : Nat} {A : Option Addr} {L : List (Nat × Nat)} {p : Nat × Nat} {P P' : Nat → Prop}
theorem OC.keep (h : OC lo hi w A c L) (hb : Below w.heap.size w w') : OC lo hi w' A c L := by
  obtain ⟨D, h1, h2⟩ := h.ex
  exact ⟨⟨D, h1.keepB hb h.hi_le, h2⟩, Nat.le_trans h.hi_le hb.size⟩
theorem OC.keepF (h : OC lo hi w A c L) (hf : Fr g (g + 1) w w') (hg : g < lo ∨ hi ≤ g) : OC lo hi w' A c L := by
  obtain ⟨D, h1, h2⟩ := h.ex
  exact ⟨⟨D, h1.keep hf (by omega), h2⟩, Nat.le_trans h.hi_le hf.size⟩
theorem OC.mono (h : OC lo hi w A c L) (hl : lo' ≤ lo) : OC lo' hi w A c L := by
  obtain ⟨D, h1, h2⟩ := h.ex
  exact ⟨⟨D, h1.mono hl (Nat.le_refl _), h2⟩, h.hi_le⟩
theorem OC.le (h : OC lo hi w A c L) : L.length ≤ c := by
  obtain ⟨D, h1, h2⟩ := h.ex
  have := h1.1.le
  rwa [arI_len h2] at this
theorem OC.addr (h : OC lo hi w A c L) (hn : 0 < L.length) : ∃ b, A = some ⟨b, 0, none⟩ := by
  obtain ⟨D, h1, h2⟩ := h.ex
  obtain ⟨b, g, cap, e, _⟩ := h1.arc h2 hn
  exact ⟨b, e⟩
theorem OC.arc {b : Nat} (h : OC lo hi w (some ⟨b, 0, none⟩) c L) {k : Nat} (hk : k < L.length) : ∃ (g cap : Nat), w.cell? ⟨b, k, none⟩ = some (.slice (some ⟨g, 0, none⟩) 2 cap) ∧ (lo ≤ g ∧ g < hi) ∧ AC w g cap L[k] := by
  obtain ⟨D, h1, h2⟩ := h.ex
  obtain ⟨b2, g, cap, e, _, h3, h4, h5, h6, _⟩ := h1.arc h2 hk
  cases e
  exact ⟨g, cap, h3, ⟨h4, h5⟩, h6⟩
theorem AC.new (w : World) (u v : Nat) : AC (w.alloc (Obj.cells #[Value.int .i64 (u : Int), Value.int .i64 (v : Int)] 3)) w.heap.size 2 (u, v) := ⟨pair_own w w.heap.size (Nat.le_refl _) _ _⟩
end
end Go.Proofs.YtjonhbmgmamchaaGreatDoor
