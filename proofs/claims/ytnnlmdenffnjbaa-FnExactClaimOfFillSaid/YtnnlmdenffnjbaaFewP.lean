/-
  Plain: all orders, and the least of a number over them.
-/
import Derived.Test.YtnnlmdenffnjbaaFewI
namespace Go.Proofs.Ytnnlmdenffnjbaa
open Go.RowKit

/-- All lists of k different numbers below n. -/
def extN (n : Nat) (l : List Nat) : List (List Nat) := ((List.range n).filter fun v => !decide (v ∈ l)).map fun v => l ++ [v]
def ordN (n : Nat) : Nat → List (List Nat)
  | 0 => [[]]
  | k + 1 => (ordN n k).flatMap (extN n)
theorem snoc_cases {l : List Nat} {k : Nat} (h : l.length = k + 1) : ∃ a v, l = a ++ [v] ∧ a.length = k := by
  refine ⟨l.dropLast, l.getLast (by intro e; rw [e] at h; simp at h), (List.dropLast_concat_getLast _).symm, by rw [List.length_dropLast, h]; rfl⟩
theorem mem_ordN {n : Nat} : ∀ {k : Nat} {l : List Nat}, l ∈ ordN n k ↔ l.length = k ∧ l.Nodup ∧ ∀ v ∈ l, v < n := by
  intro k
  induction k with
  | zero =>
    intro l
    show l ∈ [[]] ↔ _
    rw [List.mem_singleton]
    constructor
    · rintro rfl; exact ⟨rfl, List.nodup_nil, fun v hv => by cases hv⟩
    · intro h; exact List.eq_nil_of_length_eq_zero h.1
  | succ k ih =>
    intro l
    show l ∈ (ordN n k).flatMap (extN n) ↔ _
    rw [List.mem_flatMap]
    constructor
    · rintro ⟨a, ha, hl⟩
      obtain ⟨h1, h2, h3⟩ := ih.1 ha
      unfold extN at hl
      obtain ⟨v, hv, rfl⟩ := List.mem_map.1 hl
      rw [List.mem_filter, List.mem_range] at hv
      have hva : v ∉ a := by simpa using hv.2
      refine ⟨by rw [List.length_append, h1]; rfl, ?_, ?_⟩
      · rw [List.nodup_append]
        exact ⟨h2, by simp, fun x hx y hy => by rw [List.mem_singleton] at hy; subst hy; exact fun e => hva (e ▸ hx)⟩
      · intro u hu
        rw [List.mem_append, List.mem_singleton] at hu
        rcases hu with hu | rfl
        · exact h3 u hu
        · exact hv.1
    · rintro ⟨h1, h2, h3⟩
      obtain ⟨a, v, rfl, ha⟩ := snoc_cases h1
      rw [List.nodup_append] at h2
      refine ⟨a, ih.2 ⟨ha, h2.1, fun u hu => h3 u (List.mem_append_left _ hu)⟩, ?_⟩
      unfold extN
      refine List.mem_map.2 ⟨v, ?_, rfl⟩
      rw [List.mem_filter, List.mem_range]
      refine ⟨h3 v (by simp), ?_⟩
      have : v ∉ a := fun hm => h2.2.2 v hm v (by simp) rfl
      simpa using this
theorem mem_visG {m : Nat} : ∀ {k : Nat} {l q : List Nat}, l.Nodup → (q ∈ visG m (fun _ => true) k l ↔ ∃ t, q = l ++ t ∧ t.length = k ∧ q.Nodup ∧ ∀ v ∈ t, v < m) := by
  intro k
  induction k with
  | zero =>
    intro l q hl
    show q ∈ [l] ↔ _
    rw [List.mem_singleton]
    constructor
    · rintro rfl; exact ⟨[], by simp, rfl, hl, fun v hv => by cases hv⟩
    · rintro ⟨t, rfl, ht, _, _⟩
      rw [List.eq_nil_of_length_eq_zero ht]; simp
  | succ k ih =>
    intro l q hl
    show q ∈ (List.range m).flatMap (fun v => if okG (fun _ => true) l v = true then visG m (fun _ => true) k (l ++ [v]) else []) ↔ _
    rw [List.mem_flatMap]
    constructor
    · rintro ⟨v, hv, hq⟩
      rw [List.mem_range] at hv
      split at hq
      · rename_i hok
        have hvl : v ∉ l := by unfold okG at hok; simpa using hok
        have hn : (l ++ [v]).Nodup := by
          rw [List.nodup_append]
          exact ⟨hl, by simp, fun x hx y hy => by rw [List.mem_singleton] at hy; subst hy; exact fun e => hvl (e ▸ hx)⟩
        obtain ⟨t, rfl, ht, hnd, htm⟩ := (ih hn).1 hq
        refine ⟨v :: t, by simp, by simp [ht], hnd, ?_⟩
        intro u hu
        rw [List.mem_cons] at hu
        rcases hu with rfl | hu
        · exact hv
        · exact htm u hu
      · cases hq
    · rintro ⟨t, rfl, ht, hnd, htm⟩
      cases t with
      | nil => cases ht
      | cons v t =>
        have hvl : v ∉ l := by
          rw [List.nodup_append] at hnd
          exact fun hm => hnd.2.2 v hm v (by simp) rfl
        refine ⟨v, List.mem_range.2 (htm v (by simp)), ?_⟩
        have hok : okG (fun _ => true) l v = true := by unfold okG; simp [hvl]
        rw [if_pos hok]
        have hn : (l ++ [v]).Nodup := by
          rw [List.nodup_append]
          exact ⟨hl, by simp, fun x hx y hy => by rw [List.mem_singleton] at hy; subst hy; exact fun e => hvl (e ▸ hx)⟩
        exact (ih hn).2 ⟨t, by simp, by simpa using ht, hnd, fun u hu => htm u (by simp [hu])⟩
theorem visG_ordN {m : Nat} {q : List Nat} : q ∈ visG m (fun _ => true) m [] ↔ q ∈ ordN m m := by
  rw [mem_visG List.nodup_nil, mem_ordN]
  constructor
  · rintro ⟨t, rfl, h1, h2, h3⟩; exact ⟨by simpa using h1, h2, by simpa using h3⟩
  · rintro ⟨h1, h2, h3⟩; exact ⟨q, by simp, h1, h2, h3⟩
/-- What is the least number of a list. -/
def isMin (p : List Nat → Int) (vis : List (List Nat)) (n : Int) : Prop := (∃ l ∈ vis, n = p l) ∧ ∀ l ∈ vis, n ≤ p l
theorem isMin_one {p : List Nat → Int} {L M : List (List Nat)} {a b : Int} (h : ∀ q, q ∈ L ↔ q ∈ M) (ha : isMin p L a) (hb : isMin p M b) : a = b := by
  obtain ⟨⟨l, hl, rfl⟩, ha2⟩ := ha
  obtain ⟨⟨k, hk, rfl⟩, hb2⟩ := hb
  exact Int.le_antisymm (ha2 k ((h k).2 hk)) (hb2 l ((h l).1 hl))
theorem boF_min {p : List Nat → Int} (hp : ∀ l, 0 ≤ p l) {vis : List (List Nat)} (hv : vis ≠ []) : isMin p vis (boF p vis).2 := by
  have key : ∀ (vis dn : List (List Nat)) (s : List Nat × Int), ((dn = [] ∧ s.2 = -1) ∨ isMin p dn s.2) → ((dn ++ vis = [] ∧ (vis.foldl (boS p) s).2 = -1) ∨ isMin p (dn ++ vis) (vis.foldl (boS p) s).2) := by
    intro vis
    induction vis with
    | nil => intro dn s h; simpa using h
    | cons l vis ih =>
      intro dn s h
      rw [List.foldl_cons, show dn ++ l :: vis = (dn ++ [l]) ++ vis by simp]
      refine ih (dn ++ [l]) (boS p s l) (.inr ?_)
      by_cases hc : s.2 < 0 ∨ p l < s.2
      · rw [boS_yes hc]
        refine ⟨⟨l, by simp, rfl⟩, fun k hk => ?_⟩
        rw [List.mem_append, List.mem_singleton] at hk
        rcases hk with hk | rfl
        · rcases h with ⟨rfl, _⟩ | ⟨⟨l0, _, e0⟩, h2⟩
          · cases hk
          · have := h2 k hk
            have := hp l0
            show p l ≤ p k
            omega
        · exact Int.le_refl _
      · rw [boS_no hc]
        rcases h with ⟨_, e⟩ | ⟨⟨l0, h0, e0⟩, h2⟩
        · omega
        · refine ⟨⟨l0, List.mem_append_left _ h0, e0⟩, fun k hk => ?_⟩
          rw [List.mem_append, List.mem_singleton] at hk
          rcases hk with hk | rfl
          · exact h2 k hk
          · omega
  rcases key vis [] ([], -1) (.inl ⟨rfl, rfl⟩) with ⟨h, _⟩ | h
  · exact absurd (by simpa using h) hv
  · simpa [boF] using h
def mnF (p : List Nat → Int) (b : Int) (L : List (List Nat)) : Int := L.foldl (fun b l => min b (p l)) b
theorem mnF_one (p : List Nat → Int) (b : Int) (L : List (List Nat)) (l : List Nat) : mnF p b (L ++ [l]) = min (mnF p b L) (p l) := by unfold mnF; rw [List.foldl_append]; rfl
theorem mnF_min {p : List Nat → Int} {b : Int} {L : List (List Nat)} (hb : ∀ l, p l < b) (hL : L ≠ []) : isMin p L (mnF p b L) := by
  have key : ∀ (L dn : List (List Nat)) (s : Int), ((dn = [] ∧ s = b) ∨ isMin p dn s) → ((dn ++ L = [] ∧ mnF p s L = b) ∨ isMin p (dn ++ L) (mnF p s L)) := by
    intro L
    induction L with
    | nil => intro dn s h; simpa [mnF] using h
    | cons l L ih =>
      intro dn s h
      rw [show mnF p s (l :: L) = mnF p (min s (p l)) L from rfl, show dn ++ l :: L = (dn ++ [l]) ++ L by simp]
      refine ih (dn ++ [l]) _ (.inr ?_)
      rcases h with ⟨rfl, rfl⟩ | ⟨⟨l0, h0, e0⟩, h2⟩
      · have := hb l
        refine ⟨⟨l, by simp, by omega⟩, fun k hk => ?_⟩
        simp at hk
        subst hk; omega
      · by_cases hc : p l < s
        · refine ⟨⟨l, by simp, by omega⟩, fun k hk => ?_⟩
          rw [List.mem_append, List.mem_singleton] at hk
          rcases hk with hk | rfl
          · have := h2 k hk; omega
          · omega
        · refine ⟨⟨l0, List.mem_append_left _ h0, by omega⟩, fun k hk => ?_⟩
          rw [List.mem_append, List.mem_singleton] at hk
          rcases hk with hk | rfl
          · have := h2 k hk; omega
          · omega
  rcases key L [] b (.inl ⟨rfl, rfl⟩) with ⟨h, _⟩ | h
  · exact absurd (by simpa using h) hL
  · simpa using h
theorem pfN_le {m : Nat} {r : Nat → Nat} {l : List Nat} (hm : m ≤ 7) : 0 ≤ pfN m r l ∧ pfN m r l ≤ 21 := by
  unfold pfN fofL
  split
  · have h1 := List.length_filter_le (pOpt fun v => (r v : Int)) (edAll (fun v => ((fl (rw_ fun v => (r v : Int)) (l.map fun v : Nat => (v : Int)) (l.map fun v : Nat => (v : Int)).length v : Nat) : Int)) m)
    have h2 := edAll_len (m := m) (x := fun v => ((fl (rw_ fun v => (r v : Int)) (l.map fun v : Nat => (v : Int)) (l.map fun v : Nat => (v : Int)).length v : Nat) : Int)) hm
    omega
  · simp
theorem ffN_eq {m : Nat} {r : Nat → Nat} (hm : m ≤ 7) {b : Int} (hb : 22 ≤ b) : mnF (pfN m r) b (ordN m m) = ffN m r := by
  have hr : List.range m ∈ ordN m m := mem_ordN.2 ⟨List.length_range, List.nodup_range, fun v hv => List.mem_range.1 hv⟩
  have h1 : ordN m m ≠ [] := fun e => by rw [e] at hr; cases hr
  have h2 : visG m (fun _ => true) m [] ≠ [] := fun e => by have := visG_ordN.2 hr; rw [e] at this; cases this
  exact isMin_one (fun q => visG_ordN.symm) (mnF_min (fun l => by have := (pfN_le (r := r) (l := l) hm).2; omega) h1) (boF_min (fun l => (pfN_le (r := r) (l := l) hm).1) h2)
end Go.Proofs.Ytnnlmdenffnjbaa
