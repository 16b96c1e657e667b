/-
  Several texts in one.
-/
import Derived.Test.YtjonhbmgmamchaaGreatDoorRdArcM
import Derived.Test.YtjonhbmgmamchaaGreatDoorRdIdxI
import Derived.Test.YtjonhbmgmamchaaGreatDoorRdGB
import Derived.Test.YtjonhbmgmamchaaGreatDoorRdPackP
import Derived.Test.YtjonhbmgmamchaaGreatDoorRdBndP
/-
  Contracts: a valid graph's edges as arcs in memory (both programs); what an orientation's search leaves; plain: the two orders of a permutation graph's model.
-/
namespace Go.Proofs.YtjonhbmgmamchaaGreatDoor
open Go.RowKit

theorem ed_arI {r : Nat → Nat} {m : Nat} : edAll (fun v => (r v : Int)) m = arI (edN r m) := by unfold edAll arI edN; simp
section
variable {A : Option Addr} {m c : Nat} {r : Nat → Nat} {w : World}
theorem EdgesOf_v (h : GV w A m c r) :
    Calls Tryz.prog 66 #[.agg #[.int .i64 m, .slice A m c]] w fun e w' => ∃ A' c', e = .returned (.slice A' (edN r m).length c') ∧ OC w.heap.size w'.heap.size w' A' c' (edN r m) ∧ Below w.heap.size w w' := by
  refine (EdgesOf_i (m : Int) A m c _ w w.heap.size h.rd (Nat.le_refl _) (by have := h.vg.n7; omega)).mono ?_
  rintro e w' ⟨A', c', D, rfl, hD, ho, hb⟩
  have hD2 : lists D = arI (edN r m) := by rw [hD, ← ed_arI]; unfold edgesL; rw [h.ok]; rfl
  exact ⟨A', c', by rw [arI_len hD2], ⟨⟨D, ho.e, hD2⟩, Nat.le_refl _⟩, hb⟩
theorem EdgesOf_sv (h : GV w A m c r) :
    Calls Tryz.prog 49 #[.agg #[.int .i64 m, .slice A m c]] w fun e w' => ∃ A' c', e = .returned (.slice A' (edN r m).length c') ∧ OC w.heap.size w'.heap.size w' A' c' (edN r m) ∧ Below w.heap.size w w' := by
  refine (EdgesOf_s (m : Int) A m c _ w w.heap.size h.rd (Nat.le_refl _) (by have := h.vg.n7; omega)).mono ?_
  rintro e w' ⟨A', c', D, rfl, hD, ho, hb⟩
  have hD2 : lists D = arI (edN r m) := by rw [hD, ← ed_arI]; unfold edgesL; rw [h.ok]; rfl
  exact ⟨A', c', by rw [arI_len hD2], ⟨⟨D, ho.e, hD2⟩, Nat.le_refl _⟩, hb⟩
end
/-- A row of numbers in block g that may be written. -/
structure RW (w : World) (g m c : Nat) (x : Nat → Nat) : Prop where
  own : Own w g (g + 1) 3 1 (some ⟨g, 0, none⟩) m c (fun j => .int .i64 (x j : Nat))
  pos : 0 < m
section
variable {w w' : World} {g m c : Nat} {x y : Nat → Nat}
theorem RW.lt (h : RW w g m c x) : g < w.heap.size := by
  obtain ⟨g2, e, _, _, h2, _⟩ := h.own.at_ h.pos
  cases e
  exact h2
theorem RW.keep (h : RW w g m c x) (hb : Below w.heap.size w w') : RW w' g m c x := ⟨h.own.keepB hb h.lt, h.pos⟩
theorem RW.keepF {k : Nat} (h : RW w g m c x) (hf : Fr k (k + 1) w w') (hg : g ≠ k) : RW w' g m c x := ⟨h.own.keep hf (by omega), h.pos⟩
theorem RW.cell (h : RW w g m c x) {j : Nat} (hj : j < m) : w.cell? ⟨g, j, none⟩ = some (.int .i64 (x j : Nat)) := by
  obtain ⟨g2, e, _, _, _, h2, _⟩ := h.own.at_ h.pos
  cases e
  exact h2 j (by omega)
theorem RW.set (h : RW w g m c x) {j v : Nat} (hx : ∀ i, y i = if i = j then v else x i) : RW (w.setCell ⟨g, j, none⟩ (.int .i64 (v : Nat))) g m c y :=
  ⟨(h.own.set_ j _).congr (fun i _ => by rw [hx]; split <;> rfl), h.pos⟩
theorem RW.drew (h : RW w g m c x) : RW w.drew g m c x := ⟨h.own.drew, h.pos⟩
theorem RW.gv (h : RW w g m c x) (vg : VG m x) : GV w (some ⟨g, 0, none⟩) m c x := ⟨vg, (h.own.mono (Nat.zero_le _) h.lt).rd⟩
theorem RW.le (h : RW w g m c x) : m ≤ c := h.own.le
/-- A row of one's own that holds something lies in a block. -/
theorem RW.of {lo hi : Nat} {A : Option Addr} (h : Own w lo hi 3 1 A m c (fun j => .int .i64 (x j : Nat))) (hm : 0 < m) : ∃ g, A = some ⟨g, 0, none⟩ ∧ lo ≤ g ∧ g < hi ∧ RW w g m c x := by
  obtain ⟨g, h1, h2, h3, h4⟩ := h.only hm
  subst h1
  exact ⟨g, rfl, h2, h3, ⟨h4, hm⟩⟩
end
section
variable {r : Nat → Nat} {m : Nat} {t1 t2 : Nat → Nat}
end
end Go.Proofs.YtjonhbmgmamchaaGreatDoor

/-
  Plain: how far neighbours stand apart, as the two sides compute it.
-/
namespace Go.Proofs.YtjonhbmgmamchaaGreatDoor

/-- The reference's loops: at the i-th vertex, after the first k before it. -/
def bwR (r : Nat → Nat) (q : List Nat) (i a : Nat) : Nat → Nat
  | 0 => a
  | k + 1 => if (r (q.getD i 0)).testBit (q.getD k 0) = true then max (bwR r q i a k) (i - k) else bwR r q i a k
def bwA (r : Nat → Nat) (q : List Nat) : Nat → Nat
  | 0 => 0
  | i + 1 => bwR r q i (bwA r q i) i
/-- The program's loop over the edges, with the places of the vertices. -/
def beK (ix : Nat → Nat) (es : List (Nat × Nat)) : Nat → Nat
  | 0 => 0
  | k + 1 => max (beK ix es k) (max (ix (es.getD k (0, 0)).1 - ix (es.getD k (0, 0)).2) (ix (es.getD k (0, 0)).2 - ix (es.getD k (0, 0)).1))
section
variable {r : Nat → Nat} {m i a k K n : Nat} {q : List Nat} {ix : Nat → Nat} {es : List (Nat × Nat)}
theorem bwR_yes (h : (r (q.getD i 0)).testBit (q.getD k 0) = true) : bwR r q i a (k + 1) = max (bwR r q i a k) (i - k) := by rw [bwR, if_pos h]
theorem bwR_no (h : (r (q.getD i 0)).testBit (q.getD k 0) = false) : bwR r q i a (k + 1) = bwR r q i a k := by rw [bwR, if_neg (by rw [h]; simp)]
theorem bwR_le : bwR r q i a k ≤ K ↔ a ≤ K ∧ ∀ j, j < k → (r (q.getD i 0)).testBit (q.getD j 0) = true → i - j ≤ K := by
  induction k with
  | zero => exact ⟨fun h => ⟨h, fun j hj => by omega⟩, (·.1)⟩
  | succ k ih =>
    cases h : (r (q.getD i 0)).testBit (q.getD k 0) with
    | true =>
      rw [bwR_yes h, Nat.max_le, ih]
      refine ⟨fun ⟨⟨h1, h2⟩, h3⟩ => ⟨h1, fun j hj he => ?_⟩, fun ⟨h1, h2⟩ => ⟨⟨h1, fun j hj => h2 j (by omega)⟩, h2 k (by omega) h⟩⟩
      by_cases e : j = k
      · subst e; exact h3
      · exact h2 j (by omega) he
    | false =>
      rw [bwR_no h, ih]
      refine ⟨fun ⟨h1, h2⟩ => ⟨h1, fun j hj he => ?_⟩, fun ⟨h1, h2⟩ => ⟨h1, fun j hj => h2 j (by omega)⟩⟩
      by_cases e : j = k
      · subst e; rw [h] at he; cases he
      · exact h2 j (by omega) he
theorem bwA_le : bwA r q n ≤ K ↔ ∀ i, i < n → ∀ j, j < i → (r (q.getD i 0)).testBit (q.getD j 0) = true → i - j ≤ K := by
  induction n with
  | zero => exact ⟨fun _ i hi => by omega, fun _ => Nat.zero_le _⟩
  | succ n ih =>
    rw [bwA, bwR_le, ih]
    refine ⟨fun ⟨h1, h2⟩ i hi => ?_, fun h => ⟨fun i hi => h i (by omega), h n (by omega)⟩⟩
    by_cases e : i = n
    · subst e; exact h2
    · exact h1 i (by omega)
theorem getD_ltm (hq : ∀ v ∈ q, v < m) (hi : i < q.length) : q.getD i 0 < m := by
  rw [List.getD_eq_getElem?_getD, List.getElem?_eq_getElem hi]; exact hq _ (List.getElem_mem hi)
theorem bwA_bd (vg : VG m r) (hq : ∀ v ∈ q, v < m) : bwA r q q.length = bdV r q := by
  refine bdV_of fun K => ?_
  rw [bwA_le]
  constructor
  · intro h i j hij hj he
    refine h j hj i hij ?_
    rw [vg.sym _ _ (getD_ltm hq hj) (getD_ltm hq (by omega))]; exact he
  · intro h i hi j hj he
    refine h j i hj hi ?_
    rw [vg.sym _ _ (getD_ltm hq (by omega)) (getD_ltm hq hi)]; exact he
theorem beK_le : beK ix es n ≤ K ↔ ∀ k, k < n → ix (es.getD k (0, 0)).1 - ix (es.getD k (0, 0)).2 ≤ K ∧ ix (es.getD k (0, 0)).2 - ix (es.getD k (0, 0)).1 ≤ K := by
  induction n with
  | zero => exact ⟨fun _ k hk => by omega, fun _ => Nat.zero_le _⟩
  | succ n ih =>
    rw [beK, Nat.max_le, Nat.max_le, ih]
    refine ⟨fun ⟨h1, h2⟩ k hk => ?_, fun h => ⟨fun k hk => h k (by omega), h n (by omega)⟩⟩
    by_cases e : k = n
    · subst e; exact h2
    · exact h1 k (by omega)
theorem beK_all : beK ix es es.length ≤ K ↔ ∀ p ∈ es, ix p.1 - ix p.2 ≤ K ∧ ix p.2 - ix p.1 ≤ K := by
  rw [beK_le]
  constructor
  · intro h p hp
    obtain ⟨k, hk, rfl⟩ := List.mem_iff_getElem.1 hp
    have := h k hk
    rw [List.getD_eq_getElem?_getD, List.getElem?_eq_getElem hk] at this
    exact this
  · intro h k hk
    rw [List.getD_eq_getElem?_getD, List.getElem?_eq_getElem hk]
    exact h _ (List.getElem_mem hk)
theorem beK_bd (vg : VG m r) (hq : ∀ v ∈ q, v < m) (hall : ∀ v, v < m → v ∈ q) (hix : ∀ i, i < q.length → ix (q.getD i 0) = i) : beK ix (edN r m) (edN r m).length = bdV r q := by
  refine bdV_of fun K => ?_
  rw [beK_all]
  have at_ : ∀ v, v < m → ∃ i, i < q.length ∧ q.getD i 0 = v := fun v hv => by
    obtain ⟨i, hi, e⟩ := List.mem_iff_getElem.1 (hall v hv)
    exact ⟨i, hi, by rw [List.getD_eq_getElem?_getD, List.getElem?_eq_getElem hi]; exact e⟩
  constructor
  · intro h i j hij hj he
    have hi := getD_ltm hq (i := i) (by omega)
    have hjm := getD_ltm hq hj
    rcases Nat.lt_trichotomy (q.getD i 0) (q.getD j 0) with hlt | heq | hlt
    · have := (h (q.getD i 0, q.getD j 0) (mem_edN.2 ⟨⟨hlt, hjm⟩, he⟩)).2
      rwa [hix i (by omega), hix j hj] at this
    · rw [heq, vg.irr _ hjm] at he; cases he
    · have := (h (q.getD j 0, q.getD i 0) (mem_edN.2 ⟨⟨hlt, hi⟩, by rw [vg.sym _ _ hjm hi]; exact he⟩)).1
      rwa [hix i (by omega), hix j hj] at this
  · intro h p hp
    obtain ⟨⟨h1, h2⟩, h3⟩ := mem_edN.1 hp
    obtain ⟨i, hi, ei⟩ := at_ p.1 (by omega)
    obtain ⟨j, hj, ej⟩ := at_ p.2 h2
    rw [← ei, ← ej, hix i hi, hix j hj]
    rw [← ei, ← ej] at h3
    rcases Nat.lt_trichotomy i j with hlt | rfl | hlt
    · have := h i j hlt hj h3; omega
    · omega
    · have := h j i hlt hi (by rw [vg.sym _ _ (getD_ltm hq hj) (getD_ltm hq hi)]; exact h3); omega
end
end Go.Proofs.YtjonhbmgmamchaaGreatDoor
