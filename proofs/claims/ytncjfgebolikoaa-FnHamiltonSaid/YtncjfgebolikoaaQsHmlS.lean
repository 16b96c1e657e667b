/-
  Plain: all ways through all vertices, as the search visits them; their number is even where there are two vertices or more.
-/
import Derived.Test.YtncjfgebolikoaaQsHmlR
namespace Go.Proofs.Ytncjfgebolikoaa

section
variable {r : Nat → Nat} {m : Nat} {l : List Nat}
theorem cnd_of_way {closed : Bool} {v : Nat} {t : List Nat} (hw : Way r m closed ((l ++ [v]) ++ t)) : cnd r closed l v = true ∧ v < m ∧ v ∉ l := by
  have hv : v < m := hw.lt v (by simp)
  have hnl : v ∉ l := by
    have h1 := (List.nodup_append.1 hw.nodup).1
    have h2 := (List.nodup_append.1 h1).2.2
    exact fun hm => h2 v hm v (by simp) rfl
  refine ⟨?_, hv, hnl⟩
  unfold cnd
  have : l.contains v = false := by simpa using hnl
  rw [this]
  cases hl : l.getLast? with
  | none =>
    rw [List.getLast?_eq_none_iff] at hl
    subst hl
    cases hcl : closed
    · rfl
    · have := hw.head hcl (by simp)
      have hv0 : v = 0 := by simpa using this
      subst hv0
      rfl
  | some a =>
    obtain ⟨h1, h2⟩ := last_getD hl
    have := hw.edge (l.length - 1) (by rw [List.length_append, List.length_append, List.length_singleton]; omega)
    have q1 : l.length - 1 < (l ++ [v]).length := by rw [List.length_append, List.length_singleton]; omega
    have q2 : l.length - 1 + 1 < (l ++ [v]).length := by rw [List.length_append, List.length_singleton]; omega
    rw [getD_pre q1, getD_pre q2, getD_app, getD_app, if_pos (by omega), if_neg (by omega), if_pos (by omega), h2] at this
    rw [Bool.not_false, Bool.true_and]
    exact this
theorem mem_visW : ∀ (k : Nat) (l q : List Nat), Way r m false l → (q ∈ visG m (wayB r) k l ↔ ∃ t, q = l ++ t ∧ t.length = k ∧ Way r m false q) := by
  intro k
  induction k with
  | zero =>
    intro l q hl
    show q ∈ [l] ↔ _
    rw [List.mem_singleton]
    constructor
    · rintro rfl; exact ⟨[], by simp, rfl, hl⟩
    · rintro ⟨t, rfl, ht, _⟩
      obtain rfl : t = [] := List.length_eq_zero_iff.1 ht
      simp
  | succ k ih =>
    intro l q hl
    show q ∈ (List.range m).flatMap (fun v => if okG (wayB r) l v = true then visG m (wayB r) k (l ++ [v]) else []) ↔ _
    rw [List.mem_flatMap]
    constructor
    · rintro ⟨v, hv, h⟩
      split at h
      · rename_i hc
        unfold okG at hc
        rw [Bool.and_eq_true] at hc
        have hnv : v ∉ l := by simpa using hc.1
        have hs := hl.snoc (List.mem_range.1 hv) (by rw [cnd_path hl hnv]; exact hc.2)
        obtain ⟨t, e, ht, hw⟩ := (ih (l ++ [v]) q hs).1 h
        exact ⟨v :: t, by rw [e]; simp, by simp [ht], hw⟩
      · cases h
    · rintro ⟨t, e, ht, hw⟩
      cases t with
      | nil => simp at ht
      | cons v t =>
        have e2 : q = (l ++ [v]) ++ t := by rw [e]; simp
        rw [e2] at hw
        obtain ⟨hc, hv, hnv⟩ := cnd_of_way hw
        refine ⟨v, List.mem_range.2 hv, ?_⟩
        have hok : okG (wayB r) l v = true := by
          rw [okG_out hnv, ← cnd_path hl hnv]; exact hc
        rw [if_pos hok]
        exact (ih (l ++ [v]) q (hl.snoc hv hc)).2 ⟨t, e2, by simpa using ht, by rw [e2]; exact hw⟩
theorem visG_pre {may : List Nat → Bool} : ∀ (k : Nat) (l q : List Nat), q ∈ visG m may k l → ∃ t, q = l ++ t
  | 0, l, q, h => by
    have : q ∈ [l] := h
    rw [List.mem_singleton] at this
    exact ⟨[], by rw [this]; simp⟩
  | k + 1, l, q, h => by
    have h2 : q ∈ (List.range m).flatMap (fun v => if okG may l v = true then visG m may k (l ++ [v]) else []) := h
    rw [List.mem_flatMap] at h2
    obtain ⟨v, _, h3⟩ := h2
    split at h3
    · obtain ⟨t, e⟩ := visG_pre k _ q h3
      exact ⟨v :: t, by rw [e]; simp⟩
    · cases h3
theorem visG_nodup {may : List Nat → Bool} : ∀ (k : Nat) (l : List Nat), (visG m may k l).Nodup
  | 0, l => by show [l].Nodup; simp
  | k + 1, l => by
    show List.Pairwise _ ((List.range m).flatMap (fun v => if okG may l v = true then visG m may k (l ++ [v]) else []))
    rw [List.pairwise_flatMap]
    refine ⟨fun v _ => ?_, List.Pairwise.imp ?_ (List.nodup_range (n := m))⟩
    · split
      · exact visG_nodup k _
      · exact List.Pairwise.nil
    · intro a b hab x hx y hy e
      split at hx
      · split at hy
        · obtain ⟨t, ex⟩ := visG_pre k _ x hx
          obtain ⟨u, ey⟩ := visG_pre k _ y hy
          have h1 : x.getD l.length 0 = a := by rw [ex, getD_pre (by simp), getD_app]; simp
          have h2 : y.getD l.length 0 = b := by rw [ey, getD_pre (by simp), getD_app]; simp
          rw [e] at h1
          exact hab (h1.symm.trans h2)
        · cases hy
      · cases hx
/-- All ways through all vertices. -/
def wayL (r : Nat → Nat) (m : Nat) : List (List Nat) := visG m (wayB r) m []
theorem mem_wayL {q : List Nat} : q ∈ wayL r m ↔ q.length = m ∧ Way r m false q := by
  unfold wayL
  rw [mem_visW m [] q (Way.nil r m false)]
  constructor
  · rintro ⟨t, e, ht, hw⟩
    rw [List.nil_append] at e
    subst e
    exact ⟨ht, hw⟩
  · rintro ⟨h1, h2⟩
    exact ⟨q, by simp, h1, h2⟩
theorem wayL_some : decide (0 < (wayL r m).length) = (sea r m false m []).isSome := by
  cases h : sea r m false m [] with
  | none =>
    apply decide_eq_false
    intro h0
    obtain ⟨q, hq⟩ := List.exists_mem_of_length_pos h0
    obtain ⟨h1, h2⟩ := mem_wayL.1 hq
    exact sea_found m [] q h1 (by simpa using h2) rfl h
  | some o =>
    obtain ⟨h1, _, h3⟩ := sea_gives m [] o (Way.nil r m false) h
    rw [List.length_nil, Nat.zero_add] at h3
    exact decide_eq_true (List.length_pos_of_mem (mem_wayL.2 ⟨h3, h1⟩))
theorem Way.rev (vg : VG m r) {q : List Nat} (h : Way r m false q) : Way r m false q.reverse := by
  have hg : ∀ j (hj : j < q.length), q.reverse.getD j 0 = q.getD (q.length - 1 - j) 0 := fun j hj => by
    have a : q.length - 1 - j < q.length := by omega
    simp [List.getD, hj, a]
  have hlt : ∀ j, j < q.length → q.getD j 0 < m := fun j hj => by
    have : q.getD j 0 = q[j] := by simp [List.getD, hj]
    rw [this]; exact h.lt _ (List.getElem_mem _)
  refine ⟨fun v hv => h.lt v (List.mem_reverse.1 hv), List.pairwise_reverse.2 (h.nodup.imp fun hne e => hne e.symm), fun i hi => ?_, fun h => by cases h⟩
  rw [List.length_reverse] at hi
  rw [hg i (by omega), hg (i + 1) hi]
  have he := h.edge (q.length - 1 - (i + 1)) (by omega)
  rw [show q.length - 1 - (i + 1) + 1 = q.length - 1 - i by omega] at he
  unfold edg at he ⊢
  rw [vg.sym _ _ (hlt _ (by omega)) (hlt _ (by omega))]
  exact he
/-- Each way goes back too: their number is even. -/
theorem wayL_even (vg : VG m r) (hm : 2 ≤ m) : (wayL r m).length % 2 = 0 := by
  refine even_len List.reverse (fun a => List.reverse_reverse a) _ _ (Nat.le_refl _) (visG_nodup _ _) fun q hq => ?_
  obtain ⟨h1, h2⟩ := mem_wayL.1 hq
  refine ⟨mem_wayL.2 ⟨by rw [List.length_reverse, h1], h2.rev vg⟩, fun e => ?_⟩
  have hg : q.reverse.getD 0 0 = q.getD (q.length - 1) 0 := by
    have a : q.length - 1 < q.length := by omega
    have b : 0 < q.length := by omega
    simp [List.getD, a, b]
  rw [e] at hg
  have a0 : q.getD 0 0 = q[0]'(by omega) := by simp [List.getD, show 0 < q.length by omega]
  have a1 : q.getD (q.length - 1) 0 = q[q.length - 1]'(by omega) := by simp [List.getD, show q.length - 1 < q.length by omega]
  rw [a0, a1] at hg
  have := (List.getElem_inj h2.nodup).1 hg
  omega
end
end Go.Proofs.Ytncjfgebolikoaa
