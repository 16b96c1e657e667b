/-
  Several texts in one.
-/
import Derived.Test.YtjonhbmgmamchaaGreatDoorRdBestOrd
import Derived.Test.YtjonhbmgmamchaaGreatDoorRdV
import Derived.Test.YtjonhbmgmamchaaGreatDoorRdGA
/-
  Plain: all orders that the search visits, and the least of a number over them (out of the text on fewest fills).
-/
namespace Go.Proofs.YtjonhbmgmamchaaGreatDoor
open Go.RowKit

theorem mem_visG {m : Nat} : ∀ {k : Nat} {l q : List Nat}, l.Nodup → (q ∈ visG m (fun _ => true) k l ↔ ∃ t, q = l ++ t ∧ t.length = k ∧ q.Nodup ∧ ∀ v ∈ t, v < m) := by
  intro k
  induction k with
  | zero =>
    intro l q hl
    show q ∈ [l] ↔ _
    rw [List.mem_singleton]
    constructor
    · rintro rfl; exact ⟨[], by simp, rfl, hl, fun v hv => by cases hv⟩
    · rintro ⟨t, rfl, ht, _, _⟩
      rw [List.eq_nil_of_length_eq_zero ht]; simp
  | succ k ih =>
    intro l q hl
    show q ∈ (List.range m).flatMap (fun v => if okG (fun _ => true) l v = true then visG m (fun _ => true) k (l ++ [v]) else []) ↔ _
    rw [List.mem_flatMap]
    constructor
    · rintro ⟨v, hv, hq⟩
      rw [List.mem_range] at hv
      split at hq
      · rename_i hok
        have hvl : v ∉ l := by unfold okG at hok; simpa using hok
        have hn : (l ++ [v]).Nodup := by
          rw [List.nodup_append]
          exact ⟨hl, by simp, fun x hx y hy => by rw [List.mem_singleton] at hy; subst hy; exact fun e => hvl (e ▸ hx)⟩
        obtain ⟨t, rfl, ht, hnd, htm⟩ := (ih hn).1 hq
        refine ⟨v :: t, by simp, by simp [ht], hnd, ?_⟩
        intro u hu
        rw [List.mem_cons] at hu
        rcases hu with rfl | hu
        · exact hv
        · exact htm u hu
      · cases hq
    · rintro ⟨t, rfl, ht, hnd, htm⟩
      cases t with
      | nil => cases ht
      | cons v t =>
        have hvl : v ∉ l := by
          rw [List.nodup_append] at hnd
          exact fun hm => hnd.2.2 v hm v (by simp) rfl
        refine ⟨v, List.mem_range.2 (htm v (by simp)), ?_⟩
        have hok : okG (fun _ => true) l v = true := by unfold okG; simp [hvl]
        rw [if_pos hok]
        have hn : (l ++ [v]).Nodup := by
          rw [List.nodup_append]
          exact ⟨hl, by simp, fun x hx y hy => by rw [List.mem_singleton] at hy; subst hy; exact fun e => hvl (e ▸ hx)⟩
        exact (ih hn).2 ⟨t, by simp, by simpa using ht, hnd, fun u hu => htm u (by simp [hu])⟩
theorem visG_all {m : Nat} {q : List Nat} : q ∈ visG m (fun _ => true) m [] ↔ q.length = m ∧ q.Nodup ∧ ∀ v ∈ q, v < m := by
  rw [mem_visG List.nodup_nil]
  constructor
  · rintro ⟨t, rfl, h1, h2, h3⟩; exact ⟨by simpa using h1, h2, by simpa using h3⟩
  · rintro ⟨h1, h2, h3⟩; exact ⟨q, by simp, h1, h2, h3⟩
theorem visG_some {m : Nat} : visG m (fun _ => true) m [] ≠ [] := fun e => by
  have : List.range m ∈ visG m (fun _ => true) m [] := visG_all.2 ⟨List.length_range, List.nodup_range, fun v hv => List.mem_range.1 hv⟩
  rw [e] at this; cases this
/-- What is the least number of a list. -/
def isMin (p : List Nat → Int) (vis : List (List Nat)) (n : Int) : Prop := (∃ l ∈ vis, n = p l) ∧ ∀ l ∈ vis, n ≤ p l
theorem boF_min {p : List Nat → Int} (hp : ∀ l, 0 ≤ p l) {vis : List (List Nat)} (hv : vis ≠ []) : isMin p vis (boF p vis).2 := by
  have key : ∀ (vis dn : List (List Nat)) (s : List Nat × Int), ((dn = [] ∧ s.2 = -1) ∨ isMin p dn s.2) → ((dn ++ vis = [] ∧ (vis.foldl (boS p) s).2 = -1) ∨ isMin p (dn ++ vis) (vis.foldl (boS p) s).2) := by
    intro vis
    induction vis with
    | nil => intro dn s h; simpa using h
    | cons l vis ih =>
      intro dn s h
      rw [List.foldl_cons, show dn ++ l :: vis = (dn ++ [l]) ++ vis by simp]
      refine ih (dn ++ [l]) (boS p s l) (.inr ?_)
      by_cases hc : s.2 < 0 ∨ p l < s.2
      · rw [boS_yes hc]
        refine ⟨⟨l, by simp, rfl⟩, fun k hk => ?_⟩
        rw [List.mem_append, List.mem_singleton] at hk
        rcases hk with hk | rfl
        · rcases h with ⟨rfl, _⟩ | ⟨⟨l0, _, e0⟩, h2⟩
          · cases hk
          · have := h2 k hk
            have := hp l0
            show p l ≤ p k
            omega
        · exact Int.le_refl _
      · rw [boS_no hc]
        rcases h with ⟨_, e⟩ | ⟨⟨l0, h0, e0⟩, h2⟩
        · omega
        · refine ⟨⟨l0, List.mem_append_left _ h0, e0⟩, fun k hk => ?_⟩
          rw [List.mem_append, List.mem_singleton] at hk
          rcases hk with hk | rfl
          · exact h2 k hk
          · omega
  rcases key vis [] ([], -1) (.inl ⟨rfl, rfl⟩) with ⟨h, _⟩ | h
  · exact absurd (by simpa using h) hv
  · simpa [boF] using h
/-- The least number over all orders, from a number that is one order's and below all. -/
theorem boF_is {p : List Nat → Int} (hp : ∀ l, 0 ≤ p l) {m : Nat} {n : Int} (h1 : ∃ q : List Nat, (q.length = m ∧ q.Nodup ∧ ∀ v ∈ q, v < m) ∧ n = p q) (h2 : ∀ q : List Nat, q.length = m → q.Nodup → (∀ v ∈ q, v < m) → n ≤ p q) :
    (boF p (visG m (fun _ => true) m [])).2 = n := by
  obtain ⟨⟨l, hl, e⟩, h⟩ := boF_min hp (visG_some (m := m))
  obtain ⟨q, hq, rfl⟩ := h1
  have hl' := visG_all.1 hl
  refine Int.le_antisymm (h q (visG_all.2 hq)) ?_
  rw [e]; exact h2 l hl'.1 hl'.2.1 hl'.2.2
end Go.Proofs.YtjonhbmgmamchaaGreatDoor

/-
  Plain: sets of vertices of a graph that may not be valid; dominating sets, packings, independent sets.
-/
namespace Go.Proofs.YtjonhbmgmamchaaGreatDoor

noncomputable def setB (sz : Int) (m : Nat) (x : Nat → Int) (s : Int) : Bool := okB sz m x && decide (0 ≤ s ∧ s < 2 ^ m)
def domB (r : Nat → Nat) (m s : Nat) : Bool := s ||| nb r s == 2 ^ m - 1
def indB (r : Nat → Nat) (s : Nat) : Bool := nb r s &&& s == 0
theorem pow_cast (m : Nat) : ((2 ^ m : Nat) : Int) = 2 ^ m := by simp
theorem setB_yes {sz : Int} {m : Nat} {x : Nat → Int} {s : Nat} (h : okB sz m x = true) (hs : s < 2 ^ m) : setB sz m x s = true := by
  unfold setB
  have := pow_cast m
  rw [h, decide_eq_true (⟨by omega, by omega⟩ : 0 ≤ (s : Int) ∧ (s : Int) < 2 ^ m)]; rfl
theorem setB_out {sz : Int} {m : Nat} {x : Nat → Int} {s : Int} (h : s < 0 ∨ 2 ^ m ≤ s) : setB sz m x s = false := by
  unfold setB
  rw [decide_eq_false (by omega : ¬(0 ≤ s ∧ s < 2 ^ m)), Bool.and_false]
theorem indB_no {r : Nat → Nat} {s v : Nat} (hv : v < 7) (hb : s.testBit v = true) (h : r v &&& s ≠ 0) : indB r s = false := by
  unfold indB
  obtain ⟨u, hu⟩ := ex_bit h
  rw [Nat.testBit_and, Bool.and_eq_true] at hu
  have : (nb r s &&& s).testBit u = true := by
    rw [Nat.testBit_and, Bool.and_eq_true]
    exact ⟨nb_bit.2 ⟨v, hv, hb, hu.1⟩, hu.2⟩
  cases hz : (nb r s &&& s == 0)
  · rfl
  · have e : nb r s &&& s = 0 := by simpa using hz
    rw [e] at this; simp at this
theorem indB_yes {r : Nat → Nat} {s : Nat} (h : ∀ v, v < 7 → s.testBit v = true → r v &&& s = 0) : indB r s = true := by
  unfold indB
  rw [beq_iff_eq]
  apply Nat.eq_of_testBit_eq
  intro u
  rw [Nat.zero_testBit, Nat.testBit_and]
  cases hu : s.testBit u
  · simp
  · cases hn : (nb r s).testBit u
    · rfl
    · obtain ⟨v, hv, hb, hr⟩ := nb_bit.1 hn
      have := h v hv hb
      have h2 : (r v &&& s).testBit u = true := by rw [Nat.testBit_and, hr, hu]; rfl
      rw [this] at h2; simp at h2
theorem dom_all {r : Nat → Nat} {m : Nat} (h : VG m r) : domB r m (2 ^ m - 1) = true := by
  unfold domB
  rw [beq_iff_eq]
  have hl := nb_lt (r := r) (s := 2 ^ m - 1) h.lt (by have := Nat.two_pow_pos m; omega) 7
  apply Nat.eq_of_testBit_eq
  intro i
  rw [Nat.testBit_or, Nat.testBit_two_pow_sub_one]
  by_cases hi : i < m
  · simp [hi]
  · have : (nb r (2 ^ m - 1)).testBit i = false := Nat.testBit_lt_two_pow (Nat.lt_of_lt_of_le hl (Nat.pow_le_pow_right (by omega) (by omega)))
    simp [hi, this]
end Go.Proofs.YtjonhbmgmamchaaGreatDoor
