/-
  Plain: the search finds a way or a cycle exactly if there is one; an order that is an umbrella of a connected graph is a way, and where no vertex cuts, its zigzag is a cycle.
-/
import Derived.Test.YtncjfgebolikoaaQsGA
import Derived.Test.YtncjfgebolikoaaQsUmbP
namespace Go.Proofs.Ytncjfgebolikoaa

section
variable {r : Nat → Nat} {m : Nat} {closed : Bool}
theorem getD_pre {a b : List Nat} {i : Nat} (h : i < a.length) : (a ++ b).getD i 0 = a.getD i 0 := by simp [List.getD, List.getElem?_append_left h]
/-- The search finds a way if there is one behind the list. -/
theorem sea_found : ∀ (k : Nat) (l t : List Nat), t.length = k → Way r m closed (l ++ t) → fin_ r closed (l ++ t) = true → sea r m closed k l ≠ none
  | 0, l, t, ht, _, hf => by
    obtain rfl : t = [] := List.length_eq_zero_iff.1 ht
    rw [List.append_nil] at hf
    rw [sea_zero, if_pos hf]; simp
  | k + 1, l, t, ht, hw, hf => by
    cases t with
    | nil => simp at ht
    | cons v t =>
      have e : l ++ v :: t = (l ++ [v]) ++ t := by simp
      rw [e] at hw hf
      have ih := sea_found k (l ++ [v]) t (by simpa using ht) hw hf
      have hv : v < m := hw.lt v (by simp)
      have hnl : v ∉ l := by
        have h1 := (List.nodup_append.1 hw.nodup).1
        have h2 := (List.nodup_append.1 h1).2.2
        exact fun hm => h2 v hm v (by simp) rfl
      have hc : cnd r closed l v = true := by
        unfold cnd
        have : l.contains v = false := by simpa using hnl
        rw [this]
        cases hl : l.getLast? with
        | none =>
          rw [List.getLast?_eq_none_iff] at hl
          subst hl
          cases hcl : closed
          · rfl
          · have := hw.head hcl (by simp)
            have hv0 : v = 0 := by simpa using this
            subst hv0
            rfl
        | some a =>
          obtain ⟨h1, h2⟩ := last_getD hl
          have := hw.edge (l.length - 1) (by rw [List.length_append, List.length_append, List.length_singleton]; omega)
          have q1 : l.length - 1 < (l ++ [v]).length := by rw [List.length_append, List.length_singleton]; omega
          have q2 : l.length - 1 + 1 < (l ++ [v]).length := by rw [List.length_append, List.length_singleton]; omega
          rw [getD_pre q1, getD_pre q2, getD_app, getD_app, if_pos (by omega), if_neg (by omega), if_pos (by omega), h2] at this
          rw [Bool.not_false, Bool.true_and]
          exact this
      intro hnone
      unfold sea at hnone
      rw [List.findSome?_eq_none_iff] at hnone
      have := hnone v (List.mem_range.2 hv)
      rw [if_pos hc] at this
      exact ih this
/-- What the search finds is a way. -/
theorem sea_gives : ∀ (k : Nat) (l o : List Nat), Way r m closed l → sea r m closed k l = some o → Way r m closed o ∧ fin_ r closed o = true ∧ o.length = l.length + k
  | 0, l, o, hw, h => by
    rw [sea_zero] at h
    split at h
    · rename_i hf
      injection h with h
      subst h
      exact ⟨hw, hf, rfl⟩
    · cases h
  | k + 1, l, o, hw, h => by
    unfold sea at h
    obtain ⟨v, hv, h2⟩ := List.exists_of_findSome?_eq_some h
    split at h2
    · rename_i hc
      obtain ⟨h3, h4, h5⟩ := sea_gives k _ o (hw.snoc (List.mem_range.1 hv) hc) h2
      rw [List.length_append, List.length_singleton] at h5
      exact ⟨h3, h4, by omega⟩
    · cases h2
/-- All vertices around a circle. -/
structure Cyc (r : Nat → Nat) (m : Nat) (c : Nat → Nat) : Prop where
  lt : ∀ j, j < m → c j < m
  inj : ∀ i j, i < m → j < m → c i = c j → i = j
  edge : ∀ j, j < m → edg r (c j) (c ((j + 1) % m)) = true
theorem mapD {f : Nat → Nat} {n i : Nat} (h : i < n) : ((List.range n).map f).getD i 0 = f i := by simp [List.getD, h]
theorem Cyc.turn {c : Nat → Nat} (h : Cyc r m c) (t : Nat) : Cyc r m fun j => c ((j + t) % m) := by
  refine ⟨fun j hj => h.lt _ (Nat.mod_lt _ (by omega)), fun i j hi hj e => ?_, fun j hj => ?_⟩
  · have e2 := h.inj _ _ (Nat.mod_lt _ (by omega)) (Nat.mod_lt _ (by omega)) e
    have key : ∀ a b, a < m → b < m → a ≤ b → (a + t) % m = (b + t) % m → a = b := fun a b ha hb hab hh => by
      have h1 : (b + t) = (a + t) + (b - a) := by omega
      rw [h1, Nat.add_mod (a + t) (b - a) m] at hh
      have h2 : (b - a) % m = b - a := Nat.mod_eq_of_lt (by omega)
      rw [h2] at hh
      have h3 : (a + t) % m < m := Nat.mod_lt _ (by omega)
      generalize (a + t) % m = x at hh h3
      by_cases hlt : x + (b - a) < m
      · rw [Nat.mod_eq_of_lt hlt] at hh; omega
      · rw [Nat.mod_eq_sub_mod (by omega), Nat.mod_eq_of_lt (by omega)] at hh; omega
    rcases Nat.le_total i j with hij | hij
    · exact key i j hi hj hij e2
    · exact (key j i hj hi hij e2.symm).symm
  · have := h.edge ((j + t) % m) (Nat.mod_lt _ (by omega))
    have e : ((j + t) % m + 1) % m = ((j + 1) % m + t) % m := by
      rw [Nat.mod_add_mod, Nat.mod_add_mod]; congr 1; omega
    rw [e] at this
    exact this
theorem Cyc.onto {c : Nat → Nat} (h : Cyc r m c) {v : Nat} (hv : v < m) : ∃ j, j < m ∧ c j = v := by
  refine Classical.byContradiction fun hn => ?_
  have hnd : ((List.range m).map c).Nodup := by
    rw [List.nodup_iff_pairwise_ne, List.pairwise_map]
    refine List.Pairwise.imp_of_mem ?_ (List.nodup_range (n := m))
    intro a b ha hb hab e
    exact hab (h.inj a b (List.mem_range.1 ha) (List.mem_range.1 hb) e)
  have hsub : ∀ x ∈ (List.range m).map c, x ∈ (List.range m).erase v := fun x hx => by
    obtain ⟨j, hj, rfl⟩ := List.mem_map.1 hx
    have hj := List.mem_range.1 hj
    exact (List.mem_erase_of_ne (fun e => hn ⟨j, hj, e⟩)).2 (List.mem_range.2 (h.lt j hj))
  have h1 := hnd.length_le_of_subset hsub
  rw [List.length_map, List.length_range, List.length_erase_of_mem (List.mem_range.2 hv), List.length_range] at h1
  omega
/-- Where there is a circle the search finds one. -/
theorem Cyc.found {c : Nat → Nat} (h : Cyc r m c) (hm : 0 < m) : sea r m true m [] ≠ none := by
  obtain ⟨t, ht, e⟩ := h.onto hm
  have h2 := h.turn t
  have hlen : ((List.range m).map fun j => c ((j + t) % m)).length = m := by simp
  refine sea_found m [] ((List.range m).map fun j => c ((j + t) % m)) hlen ?_ ?_
  · rw [List.nil_append]
    refine ⟨fun v hv => ?_, ?_, fun i hi => ?_, fun _ _ => ?_⟩
    · obtain ⟨j, hj, rfl⟩ := List.mem_map.1 hv
      exact h2.lt j (List.mem_range.1 hj)
    · rw [List.nodup_iff_pairwise_ne, List.pairwise_map]
      refine List.Pairwise.imp_of_mem ?_ (List.nodup_range (n := m))
      intro a b ha hb hab e
      exact hab (h2.inj a b (List.mem_range.1 ha) (List.mem_range.1 hb) e)
    · rw [hlen] at hi
      rw [mapD (by omega), mapD hi]
      have := h2.edge i (by omega)
      rw [Nat.mod_eq_of_lt hi] at this
      exact this
    · have h0 : ((List.range m).map fun j => c ((j + t) % m)).headD 0 = ((List.range m).map fun j => c ((j + t) % m)).getD 0 0 := by
        cases ((List.range m).map fun j => c ((j + t) % m)) <;> rfl
      rw [h0, mapD hm, Nat.zero_add, Nat.mod_eq_of_lt ht]
      exact e
  · rw [List.nil_append]
    unfold fin_
    rw [Bool.not_true, Bool.false_or]
    have hl : ((List.range m).map fun j => c ((j + t) % m)).getLastD 0 = c ((m - 1 + t) % m) := by
      obtain ⟨n, rfl⟩ : ∃ n, m = n + 1 := ⟨m - 1, by omega⟩
      rw [List.range_succ, List.map_append]
      simp
    have h0 : ((List.range m).map fun j => c ((j + t) % m)).headD 0 = c ((0 + t) % m) := by
      obtain ⟨n, rfl⟩ : ∃ n, m = n + 1 := ⟨m - 1, by omega⟩
      rw [List.range_succ_eq_map, List.map_cons]
      rfl
    rw [hl, h0]
    have := h2.edge (m - 1) (by omega)
    rw [show (m - 1 + 1) % m = 0 by rw [Nat.sub_add_cancel hm, Nat.mod_self]] at this
    exact this
/-- What the search for a circle finds goes around. -/
theorem sea_cyc {o : List Nat} (hm : 0 < m) (h : sea r m true m [] = some o) : Cyc r m fun j => o.getD j 0 := by
  obtain ⟨hw, hf, hlen⟩ := sea_gives m [] o (Way.nil r m true) h
  rw [List.length_nil, Nat.zero_add] at hlen
  have hg : ∀ j (hj : j < o.length), o.getD j 0 = o[j] := fun j hj => by simp [List.getD, hj]
  refine ⟨fun j hj => ?_, fun i j hi hj e => ?_, fun j hj => ?_⟩
  · rw [hg j (by omega)]; exact hw.lt _ (List.getElem_mem _)
  · rw [hg i (by omega), hg j (by omega)] at e
    exact (List.getElem_inj hw.nodup).1 e
  · by_cases hj1 : j + 1 < m
    · rw [Nat.mod_eq_of_lt hj1]
      exact hw.edge j (by omega)
    · obtain rfl : j = m - 1 := by omega
      rw [show (m - 1 + 1) % m = 0 by rw [Nat.sub_add_cancel hm, Nat.mod_self]]
      unfold fin_ at hf
      rw [Bool.not_true, Bool.false_or] at hf
      have h1 : o.getLastD 0 = o.getD (m - 1) 0 := by
        cases hl : o.getLast? with
        | none => rw [List.getLast?_eq_none_iff] at hl; subst hl; simp at hlen; omega
        | some a =>
          have := (last_getD hl).2
          rw [hlen] at this
          rw [this, List.getLastD_eq_getLast?, hl]; rfl
      have h2 : o.headD 0 = o.getD 0 0 := by cases o <;> rfl
      rw [h1, h2] at hf
      exact hf
/-- A circle without the edge that closes it is a way. -/
theorem sea_path {o : List Nat} (h : sea r m true m [] = some o) : sea r m false m [] ≠ none := by
  obtain ⟨hw, _, hlen⟩ := sea_gives m [] o (Way.nil r m true) h
  rw [List.length_nil, Nat.zero_add] at hlen
  refine sea_found m [] o hlen ?_ ?_
  · rw [List.nil_append]
    exact ⟨hw.lt, hw.nodup, hw.edge, fun h => by cases h⟩
  · unfold fin_; rfl
end
section
variable {r : Nat → Nat} {m : Nat} {l : List Nat}
/-- Joined, by their places in the order. -/
def eL (r : Nat → Nat) (l : List Nat) (i j : Nat) : Prop := (r (l.getD i 0)).testBit (l.getD j 0) = true
theorem umb_one (hs : ∀ i j, i < l.length → j < l.length → eL r l i j → eL r l j i) (hU : Um r l) {i p q : Nat} (hi : 0 < i) (hp : p < i) (hq : i ≤ q) (hql : q < l.length) (he : eL r l p q) : eL r l (i - 1) i := by
  have step : ∀ p q, p = i - 1 → i ≤ q → q < l.length → eL r l p q → eL r l (i - 1) i := fun p q h1 h2 h3 h4 => by
    subst h1
    by_cases e : q = i
    · rw [← e]; exact (show eL r l (i - 1) q from h4) |> fun h => by rw [e] at h ⊢; exact h
    · exact (hU (i - 1) q i (by omega) (by omega) h3 h4).1
  by_cases e : p = i - 1
  · exact step p q e hq hql he
  · have h1 := (hU p q (i - 1) (by omega) (by omega) hql he).2
    exact step (i - 1) q rfl hq hql (hs q (i - 1) hql (by omega) h1)
theorem umb_two (hs : ∀ i j, i < l.length → j < l.length → eL r l i j → eL r l j i) (hU : Um r l) {i p q : Nat} (hi : 0 < i) (hp : p < i) (hq : i < q) (hql : q < l.length) (he : eL r l p q) : eL r l (i - 1) (i + 1) := by
  have step : ∀ q, i < q → q < l.length → eL r l (i - 1) q → eL r l (i - 1) (i + 1) := fun q h2 h3 h4 => by
    by_cases e : q = i + 1
    · rw [← e]; exact h4
    · exact (hU (i - 1) q (i + 1) (by omega) (by omega) h3 h4).1
  by_cases e : p = i - 1
  · subst e; exact step q hq hql he
  · have h1 := (hU p q (i - 1) (by omega) (by omega) hql he).2
    exact step q hq hql (hs q (i - 1) hql (by omega) h1)
/-- Where the order of an umbrella goes back and forth. -/
def zz (m j : Nat) : Nat := if 2 * j < m then 2 * j else 2 * (m - 1 - j) + 1
theorem zz_lt {j : Nat} (h : j < m) : zz m j < m := by unfold zz; split <;> omega
theorem zz_inj {i j : Nat} (hi : i < m) (hj : j < m) (e : zz m i = zz m j) : i = j := by
  unfold zz at e
  split at e <;> split at e <;> omega
theorem zz_next {j : Nat} (h : j < m) (hm : 3 ≤ m) : zz m ((j + 1) % m) = zz m j + 2 ∨ zz m j = zz m ((j + 1) % m) + 2 ∨ zz m ((j + 1) % m) = zz m j + 1 ∨ zz m j = zz m ((j + 1) % m) + 1 := by
  by_cases hj : j + 1 < m
  · rw [Nat.mod_eq_of_lt hj]
    unfold zz
    split <;> split <;> omega
  · obtain rfl : j = m - 1 := by omega
    rw [show (m - 1 + 1) % m = 0 by rw [Nat.sub_add_cancel (by omega), Nat.mod_self]]
    unfold zz
    split <;> split <;> omega
theorem umb_cyc (hn : l.Nodup) (hlt : ∀ v ∈ l, v < m) (hl : l.length = m) (hm : 3 ≤ m) (h1 : ∀ i, i + 1 < m → eL r l i (i + 1) ∧ eL r l (i + 1) i) (h2 : ∀ i, i + 2 < m → eL r l i (i + 2) ∧ eL r l (i + 2) i) : Cyc r m fun j => l.getD (zz m j) 0 := by
  have hg : ∀ j (hj : j < l.length), l.getD j 0 = l[j] := fun j hj => by simp [List.getD, hj]
  refine ⟨fun j hj => ?_, fun i j hi hj e => ?_, fun j hj => ?_⟩
  · have := zz_lt hj
    rw [hg _ (by omega)]; exact hlt _ (List.getElem_mem _)
  · have a := zz_lt hi
    have b := zz_lt hj
    rw [hg _ (by omega), hg _ (by omega)] at e
    exact zz_inj hi hj ((List.getElem_inj hn).1 e)
  · have a := zz_lt hj
    have b := zz_lt (m := m) (j := (j + 1) % m) (Nat.mod_lt _ (by omega))
    show eL r l (zz m j) (zz m ((j + 1) % m))
    rcases zz_next hj hm with e | e | e | e
    · rw [e]; exact (h2 _ (by omega)).1
    · rw [e]; exact (h2 _ (by omega)).2
    · rw [e]; exact (h1 _ (by omega)).1
    · rw [e]; exact (h1 _ (by omega)).2
end
end Go.Proofs.Ytncjfgebolikoaa
