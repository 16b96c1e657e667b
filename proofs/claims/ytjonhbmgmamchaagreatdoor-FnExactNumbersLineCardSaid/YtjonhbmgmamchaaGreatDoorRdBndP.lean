/-
  Several texts in one.
-/
import Derived.Test.YtjonhbmgmamchaaGreatDoorRdGA
import Derived.Test.YtjonhbmgmamchaaGreatDoorRdIdxI
import Derived.Test.YtjonhbmgmamchaaGreatDoorRdSet2P
import Derived.Test.YtjonhbmgmamchaaGreatDoorRdWidP
import Derived.Test.YtjonhbmgmamchaaGreatDoorRdTrwP
import Derived.Test.YtjonhbmgmamchaaGreatDoorRdFirst
/-
  Plain: modules, strong modules, and their tree: the sets, the kinds, the parents, the depths.
-/
namespace Go.Proofs.YtjonhbmgmamchaaGreatDoor

section
variable {r : Nat → Nat} {m s v i k n : Nat} {l : List Nat}
theorem cn_le_table : ∀ m, m < 8 → ∀ s, s < 2 ^ m → cn s ≤ m ∧ (cn s = m → s = 2 ^ m - 1) := by decide +kernel
theorem cn_all_table : ∀ m, m < 8 → cn (2 ^ m - 1) = m := by decide +kernel
end
end Go.Proofs.YtjonhbmgmamchaaGreatDoor

/-
  Plain: pathwidth and treewidth as costs of orders.
-/
namespace Go.Proofs.YtjonhbmgmamchaaGreatDoor

/-- How many vertices of a set have neighbours outside of it. -/
def fwN (r : Nat → Nat) (S : Nat) : Nat := ((listN S).filter fun w => decide (r w &&& S ≠ r w)).length
/-- The greatest number of later neighbours of the first k vertices of an order. -/
noncomputable def mwK (G : Nat → Nat) (l : List Int) : Nat → Nat
  | 0 => 0
  | k + 1 => max (mwK G l k) (cn (ltN G l (l.getD k 0)))
section
variable {r : Nat → Nat} {m k S : Nat} {q : List Nat}
theorem fwN_le (hm : m ≤ 7) (hS : S < 2 ^ m) : fwN r S ≤ m := Nat.le_trans (List.length_filter_le _ _) (cn_le_table m (by omega) S hS).1
theorem rchN_lt (hm : m ≤ 7) (hS : S < 2 ^ m) {v : Nat} : rchN r m S v < 2 ^ m := Nat.lt_of_le_of_lt Nat.and_le_right (full_lt hm hS)
theorem rch_le (hm : m ≤ 7) (hS : S < 2 ^ m) {v : Nat} : cn (rchN r m S v) ≤ m := (cn_le_table m (by omega) _ (rchN_lt hm hS)).1
theorem stN_nat : ∀ q : List Nat, stN (q.map fun v : Nat => (v : Int)) = stM q
  | [] => rfl
  | v :: q => by rw [List.map_cons, stN, stM, stN_nat q]; rfl
theorem getD_nat (q : List Nat) (k : Nat) : (q.map fun v : Nat => (v : Int)).getD k 0 = ((q.getD k 0 : Nat) : Int) := by
  rw [List.getD_eq_getElem?_getD, List.getD_eq_getElem?_getD, List.getElem?_map]
  cases q[k]? <;> rfl
theorem vz_nat (hn : q.Nodup) (hq : ∀ v ∈ q, v < m) : VZ m (q.map fun v : Nat => (v : Int)) := by
  refine ⟨?_, ?_⟩
  · exact (List.pairwise_map.2 (hn.imp fun h e => h (by omega)))
  · intro v hv
    obtain ⟨u, hu, rfl⟩ := List.mem_map.1 hv
    have := hq u hu
    omega
theorem all_in (hn : q.Nodup) (hq : ∀ v ∈ q, v < m) (hl : q.length = m) {u : Nat} (hu : u < m) : u ∈ q := by
  rw [← stM_bit, stM_all hn hq hl, Nat.testBit_two_pow_sub_one, decide_eq_true hu]
/-- The width of an order. -/
theorem mwK_cs (vg : VG m r) (hn : q.Nodup) (hq : ∀ v ∈ q, v < m) (hl : q.length = m) : ∀ k, k ≤ m →
    mwK (fl r (q.map fun v : Nat => (v : Int)) m) (q.map fun v : Nat => (v : Int)) k = csW (fun S v => cn (rchN r m S v)) q k
  | 0, _ => rfl
  | k + 1, hk => by
    have hL : (q.map fun v : Nat => (v : Int)).length = m := by rw [List.length_map, hl]
    have h := later_rch (l := q.map fun v : Nat => (v : Int)) (k := k) vg (vz_nat hn hq) (fun u hu => List.mem_map.2 ⟨u, all_in hn hq hl hu, rfl⟩) (by rw [hL]; omega)
    rw [hL, ← List.map_take, stN_nat, getD_nat] at h
    rw [mwK, csW, mwK_cs vg hn hq hl k (by omega), getD_nat, h]; rfl
/-- The table of the treewidth against all orders. -/
theorem tw_min (vg : VG m r) : (∃ q : List Nat, (q.length = m ∧ q.Nodup ∧ ∀ v ∈ q, v < m) ∧ wdF (fun S v => cn (rchN r m S v)) m (2 ^ m - 1) = mwK (fl r (q.map fun v : Nat => (v : Int)) m) (q.map fun v : Nat => (v : Int)) m) ∧
    ∀ q : List Nat, q.length = m → q.Nodup → (∀ v ∈ q, v < m) → wdF (fun S v => cn (rchN r m S v)) m (2 ^ m - 1) ≤ mwK (fl r (q.map fun v : Nat => (v : Int)) m) (q.map fun v : Nat => (v : Int)) m := by
  have hm := vg.n7
  obtain ⟨⟨q, hq, e⟩, h⟩ := wdF_min (c := fun S v => cn (rchN r m S v)) hm (fun S v hS _ => rch_le hm hS) (cn_all_table m (by omega))
  refine ⟨⟨q, hq, by rw [e, mwK_cs vg hq.2.1 hq.2.2 hq.1 m (Nat.le_refl _)]⟩, fun q h1 h2 h3 => ?_⟩
  rw [mwK_cs vg h2 h3 h1 m (Nat.le_refl _)]
  exact h q h1 h2 h3
theorem pw_min (vg : VG m r) : (∃ q : List Nat, (q.length = m ∧ q.Nodup ∧ ∀ v ∈ q, v < m) ∧ wdF (fun S _ => fwN r S) m (2 ^ m - 1) = csW (fun S _ => fwN r S) q m) ∧
    ∀ q : List Nat, q.length = m → q.Nodup → (∀ v ∈ q, v < m) → wdF (fun S _ => fwN r S) m (2 ^ m - 1) ≤ csW (fun S _ => fwN r S) q m :=
  wdF_min (c := fun S _ => fwN r S) vg.n7 (fun S v hS _ => fwN_le vg.n7 hS) (cn_all_table m (by have := vg.n7; omega))
/-- The reference takes the front at the end of each set. -/
theorem pw_step {S : Nat} (h0 : S ≠ 0) (hm : m ≤ 7) (hS : S < 2 ^ m) : max (wdK (fun _ _ => 0) m (wdF (fun S _ => fwN r S) m) S m) (fwN r S) = wdF (fun S _ => fwN r S) m S := by
  rw [wdF_pos h0, wdK_front (fwN_le hm hS)]
  exact wdK_same fun _ _ => rfl
end
end Go.Proofs.YtjonhbmgmamchaaGreatDoor

/-
  Plain: how far neighbours stand apart in an order, and the search for an order with a bound, bound after bound.
-/
namespace Go.Proofs.YtjonhbmgmamchaaGreatDoor

/-- Neighbours stand at most so far apart. -/
def bdK (r : Nat → Nat) (k : Nat) (q : List Nat) : Prop := ∀ i j, i < j → j < q.length → (r (q.getD i 0)).testBit (q.getD j 0) = true → j - i ≤ k
noncomputable def bdB (r : Nat → Nat) (k : Nat) (q : List Nat) : Bool := @decide (bdK r k q) (Classical.propDecidable _)
section
variable {r : Nat → Nat} {m k n : Nat} {q l o : List Nat}
theorem bdB_iff : bdB r k q = true ↔ bdK r k q := @decide_eq_true_iff _ (Classical.propDecidable _)
theorem bdB_no (h : ¬ bdK r k q) : bdB r k q = false := @decide_eq_false _ (Classical.propDecidable _) h
theorem bdK_mono {k' : Nat} (h : bdK r k q) (hk : k ≤ k') : bdK r k' q := fun i j h1 h2 h3 => Nat.le_trans (h i j h1 h2 h3) hk
theorem bdK_len (h : q.length ≤ k + 1) : bdK r k q := fun i j h1 h2 _ => by omega
theorem bd_ex (r : Nat → Nat) (q : List Nat) : ∃ n, ∀ k, n ≤ k ↔ bdK r k q := by
  have : ∀ d n, bdK r n q → n ≤ d → ∃ n, ∀ k, n ≤ k ↔ bdK r k q := by
    intro d
    induction d with
    | zero => intro n h hd; exact ⟨0, fun k => ⟨fun _ => bdK_mono h (by omega), fun _ => Nat.zero_le _⟩⟩
    | succ d ih =>
      intro n h hd
      by_cases hs : ∃ j, j < n ∧ bdK r j q
      · obtain ⟨j, h1, h2⟩ := hs; exact ih j h2 (by omega)
      · exact ⟨n, fun k => ⟨fun hk => bdK_mono h hk, fun hk => Classical.byContradiction fun hn => hs ⟨k, by omega, hk⟩⟩⟩
  exact this q.length q.length (bdK_len (by omega)) (Nat.le_refl _)
/-- The greatest distance of neighbours in an order. -/
noncomputable def bdV (r : Nat → Nat) (q : List Nat) : Nat := Classical.choose (bd_ex r q)
theorem bdV_iff : bdV r q ≤ k ↔ bdK r k q := Classical.choose_spec (bd_ex r q) k
theorem bdV_of (h : ∀ k, n ≤ k ↔ bdK r k q) : n = bdV r q := Nat.le_antisymm ((h _).2 (bdV_iff.1 (Nat.le_refl _))) (bdV_iff.2 ((h n).1 (Nat.le_refl _)))
theorem bdV_le (h : q.length ≤ m) : bdV r q ≤ m - 1 := bdV_iff.2 (bdK_len (by omega))
theorem bdK_nil : bdK r k [] := fun i j _ h2 => by simp at h2
theorem bdK_snoc {v : Nat} (h : bdK r k l) : bdK r k (l ++ [v]) ↔ ∀ i, i < l.length → (r (l.getD i 0)).testBit v = true → l.length - i ≤ k := by
  have e : ∀ i, i < l.length → (l ++ [v]).getD i 0 = l.getD i 0 := fun i hi => by rw [List.getD_eq_getElem?_getD, List.getD_eq_getElem?_getD, List.getElem?_append_left hi]
  have e2 : (l ++ [v]).getD l.length 0 = v := by rw [List.getD_eq_getElem?_getD, List.getElem?_append_right (Nat.le_refl _), Nat.sub_self]; rfl
  constructor
  · intro h2 i hi hr
    refine h2 i l.length hi (by simp) ?_
    rw [e i hi, e2]; exact hr
  · intro h2 i j hij hj hr
    have hj' : j < l.length + 1 := by simpa using hj
    by_cases hjl : j = l.length
    · subst hjl
      rw [e i hij, e2] at hr
      exact h2 i hij hr
    · rw [e i (by omega), e j (by omega)] at hr
      exact h i j hij (by omega) hr
theorem bdK_pre {t : List Nat} (h : bdK r k (l ++ t)) : bdK r k l := by
  intro i j hij hj hr
  refine h i j hij (by rw [List.length_append]; omega) ?_
  rw [List.getD_eq_getElem?_getD, List.getElem?_append_left (by omega), List.getD_eq_getElem?_getD, List.getElem?_append_left hj, ← List.getD_eq_getElem?_getD, ← List.getD_eq_getElem?_getD]
  exact hr
/-- What the search finds. -/
theorem sea_sound : ∀ (j : Nat) (l o : List Nat), seaG m (bdB r k) (fun _ => true) j l = some o → l.Nodup → (∀ v ∈ l, v < m) → bdK r k l → o.length = l.length + j ∧ o.Nodup ∧ (∀ v ∈ o, v < m) ∧ bdK r k o := by
  intro j
  induction j with
  | zero =>
    intro l o h h1 h2 h3
    have e : some l = some o := h
    cases e
    exact ⟨rfl, h1, h2, h3⟩
  | succ j ih =>
    intro l o h h1 h2 h3
    have h' : (List.range m).findSome? (fun v => if okG (bdB r k) l v = true then seaG m (bdB r k) (fun _ => true) j (l ++ [v]) else none) = some o := h
    obtain ⟨v, hv, he⟩ := List.exists_of_findSome?_eq_some h'
    rw [List.mem_range] at hv
    by_cases hok : okG (bdB r k) l v = true
    · rw [if_pos hok] at he
      have hvl : v ∉ l := fun hin => by rw [okG_in hin] at hok; cases hok
      rw [okG_out hvl, bdB_iff] at hok
      have := ih (l ++ [v]) o he (by
        rw [List.nodup_append]
        exact ⟨h1, by simp, fun x hx y hy => by rw [List.mem_singleton] at hy; subst hy; exact fun e => hvl (e ▸ hx)⟩) (by
        intro u hu
        rw [List.mem_append, List.mem_singleton] at hu
        rcases hu with hu | rfl
        · exact h2 u hu
        · exact hv) hok
      rw [List.length_append, List.length_singleton] at this
      exact ⟨by omega, this.2⟩
    · rw [if_neg hok] at he; cases he
/-- The search finds if there is anything. -/
theorem sea_full : ∀ (j : Nat) (l t : List Nat), t.length = j → (l ++ t).Nodup → (∀ v ∈ t, v < m) → bdK r k (l ++ t) → seaG m (bdB r k) (fun _ => true) j l ≠ none := by
  intro j
  induction j with
  | zero => intro l t _ _ _ _ h; cases h
  | succ j ih =>
    intro l t ht hn hm hb h
    cases t with
    | nil => cases ht
    | cons v t =>
      have h' : (List.range m).findSome? (fun v => if okG (bdB r k) l v = true then seaG m (bdB r k) (fun _ => true) j (l ++ [v]) else none) = none := h
      rw [List.findSome?_eq_none_iff] at h'
      have h2 := h' v (List.mem_range.2 (hm v (by simp)))
      have hvl : v ∉ l := fun hin => by
        rw [List.nodup_append] at hn
        exact hn.2.2 v hin v (by simp) rfl
      have e : l ++ v :: t = (l ++ [v]) ++ t := by simp
      rw [e] at hn hb
      rw [if_pos (by rw [okG_out hvl, bdB_iff]; exact bdK_pre hb)] at h2
      exact ih (l ++ [v]) t (by simpa using ht) hn (fun u hu => hm u (by simp [hu])) hb h2
/-- The first bound at which the search finds: its order is best. -/
theorem bd_law (h1 : seaG m (bdB r k) (fun _ => true) m [] = some o) (h2 : ∀ j, j < k → seaG m (bdB r j) (fun _ => true) m [] = none) :
    (o.length = m ∧ o.Nodup ∧ ∀ v ∈ o, v < m) ∧ ∀ q : List Nat, q.length = m → q.Nodup → (∀ v ∈ q, v < m) → bdV r o ≤ bdV r q := by
  have hs := sea_sound m [] o h1 List.nodup_nil (fun v hv => by cases hv) bdK_nil
  refine ⟨⟨by simpa using hs.1, hs.2.1, hs.2.2.1⟩, fun q q1 q2 q3 => Classical.byContradiction fun hn => ?_⟩
  have hk : bdV r o ≤ k := bdV_iff.2 hs.2.2.2
  exact sea_full m [] q q1 q2 q3 (bdV_iff.1 (Nat.le_refl _)) (h2 (bdV r q) (by omega))
theorem bd_last : seaG m (bdB r (m - 1)) (fun _ => true) m [] ≠ none :=
  sea_full m [] (List.range m) List.length_range (by simpa using List.nodup_range) (fun v hv => List.mem_range.1 hv) (bdK_len (by simp; omega))
end
end Go.Proofs.YtjonhbmgmamchaaGreatDoor
