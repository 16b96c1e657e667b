/-
  Plain: the search for a way through all vertices.
-/
import Derived.Test.YtccblehcemggjaaSetP
import Derived.Test.YtccblehcemggjaaPlain
namespace Go.Proofs.Ytccblehcemggjaa

def edg (r : Nat → Nat) (a b : Nat) : Bool := (r a).testBit b
/-- May v be set behind l? -/
def cnd (r : Nat → Nat) (closed : Bool) (l : List Nat) (v : Nat) : Bool := !l.contains v && (match l.getLast? with | none => !closed || v == 0 | some a => edg r a v)
def fin_ (r : Nat → Nat) (closed : Bool) (l : List Nat) : Bool := !closed || edg r (l.getLastD 0) (l.headD 0)
def sea (r : Nat → Nat) (m : Nat) (closed : Bool) : Nat → List Nat → Option (List Nat)
  | 0, l => if fin_ r closed l = true then some l else none
  | k + 1, l => (List.range m).findSome? fun v => if cnd r closed l v = true then sea r m closed k (l ++ [v]) else none
theorem sea_zero (r : Nat → Nat) (m : Nat) (closed : Bool) (l : List Nat) : sea r m closed 0 l = if fin_ r closed l = true then some l else none := rfl
theorem range_some {α : Type} {f : Nat → Option α} {m v : Nat} {a : α} (hv : v < m) (h : f v = some a) (hmin : ∀ u, u < v → f u = none) : (List.range m).findSome? f = some a := by
  have e : List.range m = List.range v ++ (v :: (List.range (m - v - 1)).map (v + 1 + ·)) := by
    have h1 : m = v + (1 + (m - v - 1)) := by omega
    conv => lhs; rw [h1, List.range_add, List.range_add]
    simp [List.range_succ, Nat.add_assoc, Function.comp_def]
  rw [e, List.findSome?_append]
  have : (List.range v).findSome? f = none := by
    rw [List.findSome?_eq_none_iff]
    intro u hu
    exact hmin u (List.mem_range.1 hu)
  rw [this]
  simp [h]
theorem range_none {α : Type} {f : Nat → Option α} {m : Nat} (h : ∀ u, u < m → f u = none) : (List.range m).findSome? f = none := by
  rw [List.findSome?_eq_none_iff]
  intro u hu
  exact h u (List.mem_range.1 hu)
/-- What the search does at one vertex. -/
def at_ (r : Nat → Nat) (m : Nat) (closed : Bool) (k : Nat) (l : List Nat) (v : Nat) : Option (List Nat) := if cnd r closed l v = true then sea r m closed k (l ++ [v]) else none
theorem at_no {r : Nat → Nat} {m k v : Nat} {closed : Bool} {l : List Nat} (h : cnd r closed l v = false) : at_ r m closed k l v = none := by unfold at_; rw [h]; rfl
theorem at_yes {r : Nat → Nat} {m k v : Nat} {closed : Bool} {l : List Nat} (h : cnd r closed l v = true) : at_ r m closed k l v = sea r m closed k (l ++ [v]) := by unfold at_; rw [h]; rfl
theorem sea_some {r : Nat → Nat} {m k v : Nat} {closed : Bool} {l o : List Nat} (hv : v < m) (h : at_ r m closed k l v = some o) (hmin : ∀ u, u < v → at_ r m closed k l u = none) : sea r m closed (k + 1) l = some o := range_some hv h hmin
theorem sea_none {r : Nat → Nat} {m k : Nat} {closed : Bool} {l : List Nat} (h : ∀ u, u < m → at_ r m closed k l u = none) : sea r m closed (k + 1) l = none := range_none h

/-- A way: different vertices, each the next one's neighbour. -/
def wayB (r : Nat → Nat) (l : List Nat) : Bool := !l.isEmpty && decide l.Nodup && (List.range (l.length - 1)).all fun i => edg r (l.getD i 0) (l.getD (i + 1) 0)
structure Way (r : Nat → Nat) (m : Nat) (closed : Bool) (l : List Nat) : Prop where
  lt : ∀ v ∈ l, v < m
  nodup : l.Nodup
  edge : ∀ i, i + 1 < l.length → edg r (l.getD i 0) (l.getD (i + 1) 0) = true
  head : closed = true → l ≠ [] → l.headD 0 = 0
theorem Way.nil (r : Nat → Nat) (m : Nat) (closed : Bool) : Way r m closed [] := ⟨(fun v h => by cases h), List.nodup_nil, (fun i h => by simp at h), (fun _ h => absurd rfl h)⟩
theorem last_getD {l : List Nat} {a : Nat} (h : l.getLast? = some a) : 0 < l.length ∧ l.getD (l.length - 1) 0 = a := by
  have hne : l ≠ [] := by rintro rfl; cases h
  have h1 : 0 < l.length := List.length_pos_iff.2 hne
  refine ⟨h1, ?_⟩
  rw [List.getLast?_eq_some_getLast hne] at h
  injection h with h
  rw [← h, List.getLast_eq_getElem]
  simp [List.getD, List.getElem?_eq_getElem (by omega : l.length - 1 < l.length)]
theorem getD_app {l : List Nat} {v i : Nat} : (l ++ [v]).getD i 0 = if i < l.length then l.getD i 0 else if i = l.length then v else 0 := by
  by_cases h : i < l.length
  · rw [if_pos h]; simp [List.getD, List.getElem?_append_left h]
  · rw [if_neg h]
    by_cases h2 : i = l.length
    · subst h2; simp [List.getD]
    · rw [if_neg h2]
      have : (l ++ [v])[i]? = none := List.getElem?_eq_none (by simp; omega)
      simp [List.getD, this]
theorem Way.snoc {r : Nat → Nat} {m v : Nat} {closed : Bool} {l : List Nat} (h : Way r m closed l) (hv : v < m) (hc : cnd r closed l v = true) : Way r m closed (l ++ [v]) := by
  unfold cnd at hc
  rw [Bool.and_eq_true] at hc
  obtain ⟨h1, h2⟩ := hc
  have hnm : v ∉ l := by simpa using h1
  refine ⟨fun u hu => ?_, ?_, fun i hi => ?_, fun hcl _ => ?_⟩
  · rw [List.mem_append, List.mem_singleton] at hu
    rcases hu with hu | rfl
    · exact h.lt u hu
    · exact hv
  · rw [List.nodup_append]
    exact ⟨h.nodup, by simp, fun a ha b hb e => by rw [List.mem_singleton] at hb; subst hb; subst e; exact hnm ha⟩
  · rw [List.length_append, List.length_singleton] at hi
    rw [getD_app, getD_app]
    by_cases hlt : i + 1 < l.length
    · rw [if_pos (by omega), if_pos hlt]; exact h.edge i hlt
    · have he : i + 1 = l.length := by omega
      rw [if_pos (by omega), if_neg hlt, if_pos he]
      cases hl : l.getLast? with
      | none => rw [List.getLast?_eq_none_iff] at hl; subst hl; simp at he
      | some a =>
        rw [hl] at h2
        have := (last_getD hl).2
        have e : i = l.length - 1 := by omega
        rw [e, this]; exact h2
  · cases l with
    | nil =>
      simp only [List.getLast?_nil, hcl] at h2
      simpa using h2
    | cons a l => simpa using h.head hcl (by simp)
/-- The test of a way behind a way. -/
theorem way_snoc {r : Nat → Nat} {m v : Nat} {closed : Bool} {l : List Nat} (h : Way r m closed l) (hn : v ∉ l) : wayB r (l ++ [v]) = (match l.getLast? with | none => true | some a => edg r a v) := by
  have hnd : (l ++ [v]).Nodup := by
    rw [List.nodup_append]
    exact ⟨h.nodup, by simp, fun a ha b hb e => by rw [List.mem_singleton] at hb; subst hb; subst e; exact hn ha⟩
  unfold wayB
  rw [decide_eq_true hnd]
  have he : (l ++ [v]).isEmpty = false := by cases l <;> rfl
  rw [he]
  simp only [Bool.not_false, Bool.true_and, List.length_append, List.length_singleton, Nat.add_sub_cancel]
  cases hl : l.getLast? with
  | none => rw [List.getLast?_eq_none_iff] at hl; subst hl; rfl
  | some a =>
    obtain ⟨hpos, ha⟩ := last_getD hl
    show _ = edg r a v
    cases hh : edg r a v
    · rw [List.all_eq_false]
      refine ⟨l.length - 1, by simp; omega, ?_⟩
      rw [getD_app, getD_app, if_pos (by omega), if_neg (by omega), if_pos (by omega), ha, hh]
      simp
    · rw [List.all_eq_true]
      intro i hi
      have hi := List.mem_range.1 hi
      rw [getD_app, getD_app, if_pos hi]
      by_cases hlt : i + 1 < l.length
      · rw [if_pos hlt]; exact h.edge i hlt
      · rw [if_neg hlt, if_pos (by omega)]
        have e : i = l.length - 1 := by omega
        rw [e, ha, hh]
theorem cnd_in {r : Nat → Nat} {closed : Bool} {l : List Nat} {v : Nat} (h : v ∈ l) : cnd r closed l v = false := by unfold cnd; simp [h]
/-- The program's own conditions: the path's, the cycle's. -/
theorem cnd_path {r : Nat → Nat} {m v : Nat} {l : List Nat} (h : Way r m false l) (hn : v ∉ l) : cnd r false l v = wayB r (l ++ [v]) := by
  rw [way_snoc h hn]
  unfold cnd
  have : l.contains v = false := by simpa using hn
  rw [this]
  cases l.getLast? <;> simp
theorem cnd_cycle {r : Nat → Nat} {m v : Nat} {l : List Nat} (h : Way r m true l) (hn : v ∉ l) : cnd r true l v = ((l ++ [v]).headD 0 == 0 && wayB r (l ++ [v])) := by
  rw [way_snoc h hn]
  unfold cnd
  have : l.contains v = false := by simpa using hn
  rw [this]
  cases l with
  | nil => simp
  | cons a l =>
    have := h.head rfl (by simp)
    have ha : a = 0 := by simpa using this
    subst ha
    cases hl : (0 :: l).getLast? with
    | none => simp at hl
    | some b => simp
/-- The last vertex of a cycle's list. -/
theorem cycle_first {r : Nat → Nat} {m : Nat} (hm : 0 < m) (k : Nat) : sea r m true (k + 1) [] = sea r m true k [0] := by
  have h0 : at_ r m true k [] 0 = sea r m true k [0] := by rw [at_yes (by simp [cnd])]; rfl
  cases h : sea r m true k [0] with
  | some o => exact sea_some hm (h0.trans h) (fun u hu => absurd hu (by omega))
  | none =>
    refine sea_none fun u hu => ?_
    by_cases hu0 : u = 0
    · subst hu0; exact h0.trans h
    · exact at_no (by simp [cnd, hu0])
theorem sea_len {r : Nat → Nat} {m : Nat} {closed : Bool} : ∀ (k : Nat) (l o : List Nat), sea r m closed k l = some o → o.length = l.length + k ∧ (l ≠ [] ∨ 0 < k → o ≠ []) := by
  intro k
  induction k with
  | zero =>
    intro l o h
    rw [sea_zero] at h
    split at h
    · injection h with h; subst h; exact ⟨rfl, fun h => h.elim id (fun h => absurd h (by omega))⟩
    · cases h
  | succ k ih =>
    intro l o h
    unfold sea at h
    obtain ⟨v, hv, h2⟩ := List.exists_of_findSome?_eq_some h
    split at h2
    · have := ih _ _ h2
      rw [List.length_append, List.length_singleton] at this
      exact ⟨by omega, fun _ => this.2 (.inl (by simp))⟩
    · cases h2
end Go.Proofs.Ytccblehcemggjaa
