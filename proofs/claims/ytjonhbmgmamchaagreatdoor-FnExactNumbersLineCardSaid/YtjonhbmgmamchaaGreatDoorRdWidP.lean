/-
  Plain: a table over all sets, each reached from one vertex less, against the least over all orders of the greatest cost on the way.
-/
import Derived.Test.YtjonhbmgmamchaaGreatDoorRdClqP
import Derived.Test.YtjonhbmgmamchaaGreatDoorRdListZ
namespace Go.Proofs.YtjonhbmgmamchaaGreatDoor

/-- The set of a list. -/
def stM : List Nat → Nat
  | [] => 0
  | v :: l => 2 ^ v ||| stM l
/-- The greatest cost of the first k steps of an order. -/
def csW (c : Nat → Nat → Nat) (l : List Nat) : Nat → Nat
  | 0 => 0
  | k + 1 => max (csW c l k) (c (stM (l.take (k + 1))) (l.getD k 0))
/-- The least over the first vertices of a set, from a table. -/
def wdK (c : Nat → Nat → Nat) (m : Nat) (T : Nat → Nat) (S : Nat) : Nat → Nat
  | 0 => m
  | v + 1 => if S.testBit v = true then min (wdK c m T S v) (max (T (S ^^^ 2 ^ v)) (c S v)) else wdK c m T S v
/-- The table of the sets 0 to n. -/
def wdL (c : Nat → Nat → Nat) (m : Nat) : Nat → List Nat
  | 0 => [0]
  | n + 1 => wdL c m n ++ [wdK c m (fun j => (wdL c m n).getD j 0) (n + 1) m]
def wdF (c : Nat → Nat → Nat) (m S : Nat) : Nat := (wdL c m S).getD S 0
section
variable {c : Nat → Nat → Nat} {m S n v k : Nat} {T U : Nat → Nat} {l : List Nat}
theorem stM_bit {u : Nat} : ∀ {l : List Nat}, (stM l).testBit u = true ↔ u ∈ l
  | [] => by simp [stM]
  | v :: l => by
    rw [stM, Nat.testBit_or, Bool.or_eq_true, stM_bit, List.mem_cons, Nat.testBit_two_pow, decide_eq_true_eq]
    exact ⟨(fun h => h.imp (·.symm) id), (fun h => h.imp (·.symm) id)⟩
theorem stM_snoc : stM (l ++ [v]) = stM l ||| 2 ^ v := by
  apply Nat.eq_of_testBit_eq; intro j
  rw [Bool.eq_iff_iff, stM_bit, Nat.testBit_or, Bool.or_eq_true, stM_bit, List.mem_append, List.mem_singleton, Nat.testBit_two_pow, decide_eq_true_eq]
  exact ⟨(fun h => h.imp id (·.symm)), (fun h => h.imp id (·.symm))⟩
theorem stM_lt (h : ∀ v ∈ l, v < m) : stM l < 2 ^ m := by
  induction l with
  | nil => exact Nat.two_pow_pos m
  | cons v l ih =>
    rw [stM]
    exact Nat.or_lt_two_pow (Nat.pow_lt_pow_right (by omega) (h v (List.mem_cons_self ..))) (ih fun u hu => h u (List.mem_cons_of_mem _ hu))
theorem stM_all (hn : l.Nodup) (h : ∀ v ∈ l, v < m) (hl : l.length = m) : stM l = 2 ^ m - 1 := by
  apply Nat.eq_of_testBit_eq; intro j
  rw [Nat.testBit_two_pow_sub_one, Bool.eq_iff_iff, stM_bit, decide_eq_true_eq]
  refine ⟨fun hj => h j hj, fun hj => Classical.byContradiction fun hnj => ?_⟩
  have := nodup_lenz (m := m) (l := j :: l) (List.nodup_cons.2 ⟨hnj, hn⟩) (fun u hu => by
    rw [List.mem_cons] at hu
    rcases hu with rfl | hu
    · exact hj
    · exact h u hu)
  simp only [List.length_cons] at this
  omega
theorem csW_take {a : List Nat} : ∀ k, k ≤ a.length → csW c (a ++ [v]) k = csW c a k
  | 0, _ => rfl
  | k + 1, hk => by
    rw [csW, csW, csW_take k (by omega), List.take_append_of_le_length hk]
    rw [List.getD_eq_getElem?_getD, List.getD_eq_getElem?_getD, List.getElem?_append_left (by omega)]
theorem csW_snoc : csW c (l ++ [v]) (l.length + 1) = max (csW c l l.length) (c (stM l ||| 2 ^ v) v) := by
  rw [csW, csW_take _ (Nat.le_refl _), ← stM_snoc]
  have e1 : (l ++ [v]).take (l.length + 1) = l ++ [v] := List.take_of_length_le (by simp)
  have e2 : (l ++ [v]).getD l.length 0 = v := by rw [List.getD_eq_getElem?_getD, List.getElem?_append_right (Nat.le_refl _), Nat.sub_self]; rfl
  rw [e1, e2]
theorem csW_le (hc : ∀ S v, S < 2 ^ m → v < m → c S v ≤ m) (h : ∀ v ∈ l, v < m) : ∀ k, k ≤ l.length → csW c l k ≤ m
  | 0, _ => Nat.zero_le _
  | k + 1, hk => by
    rw [csW]
    have h1 := csW_le hc h k (by omega)
    have h2 := hc (stM (l.take (k + 1))) (l.getD k 0) (stM_lt fun v hv => h v (List.mem_of_mem_take hv)) (by
      rw [List.getD_eq_getElem?_getD, List.getElem?_eq_getElem (by omega)]
      exact h _ (List.getElem_mem _))
    omega
theorem wdK_yes (h : S.testBit v = true) : wdK c m T S (v + 1) = min (wdK c m T S v) (max (T (S ^^^ 2 ^ v)) (c S v)) := by rw [wdK, if_pos h]
theorem wdK_no (h : S.testBit v = false) : wdK c m T S (v + 1) = wdK c m T S v := by rw [wdK, if_neg (by rw [h]; simp)]
theorem wdK_congr (h : ∀ v, S.testBit v = true → T (S ^^^ 2 ^ v) = U (S ^^^ 2 ^ v)) : ∀ k, wdK c m T S k = wdK c m U S k
  | 0 => rfl
  | k + 1 => by
    cases hb : S.testBit k with
    | true => rw [wdK_yes hb, wdK_yes hb, wdK_congr h k, h k hb]
    | false => rw [wdK_no hb, wdK_no hb, wdK_congr h k]
theorem wdK_le (hv : v < k) (h : S.testBit v = true) : wdK c m T S k ≤ max (T (S ^^^ 2 ^ v)) (c S v) := by
  induction k with
  | zero => omega
  | succ k ih =>
    by_cases e : v = k
    · subst e; rw [wdK_yes h]; exact Nat.min_le_right _ _
    · have := ih (by omega)
      cases hb : S.testBit k with
      | true => rw [wdK_yes hb]; exact Nat.le_trans (Nat.min_le_left _ _) this
      | false => rw [wdK_no hb]; exact this
theorem wdK_at : wdK c m T S k = m ∨ ∃ v, v < k ∧ S.testBit v = true ∧ wdK c m T S k = max (T (S ^^^ 2 ^ v)) (c S v) := by
  induction k with
  | zero => exact .inl rfl
  | succ k ih =>
    cases hb : S.testBit k with
    | true =>
      rw [wdK_yes hb]
      by_cases hm : wdK c m T S k ≤ max (T (S ^^^ 2 ^ k)) (c S k)
      · rw [Nat.min_eq_left hm]
        exact ih.imp id fun ⟨v, h1, h2, h3⟩ => ⟨v, by omega, h2, h3⟩
      · exact .inr ⟨k, by omega, hb, Nat.min_eq_right (by omega)⟩
    | false =>
      rw [wdK_no hb]
      exact ih.imp id fun ⟨v, h1, h2, h3⟩ => ⟨v, by omega, h2, h3⟩
theorem wdL_len : (wdL c m n).length = n + 1 := by
  induction n with
  | zero => rfl
  | succ n ih => rw [wdL, List.length_append, ih]; rfl
theorem wdL_at (h : S ≤ n) : (wdL c m n).getD S 0 = wdF c m S := by
  induction n with
  | zero => obtain rfl : S = 0 := by omega
            rfl
  | succ n ih =>
    by_cases e : S = n + 1
    · subst e; rfl
    · rw [← ih (by omega), wdL, List.getD_eq_getElem?_getD, List.getD_eq_getElem?_getD, List.getElem?_append_left (by rw [wdL_len]; omega)]
theorem wdF_zero : wdF c m 0 = 0 := rfl
theorem wdF_succ : wdF c m (n + 1) = wdK c m (wdF c m) (n + 1) m := by
  unfold wdF
  rw [wdL, List.getD_eq_getElem?_getD, List.getElem?_append_right (by rw [wdL_len]; exact Nat.le_refl _), wdL_len, Nat.sub_self]
  show wdK c m _ (n + 1) m = _
  exact wdK_congr (fun v hv => wdL_at (by have := xor_bit_lt hv; omega)) m
theorem wdF_pos (h : S ≠ 0) : wdF c m S = wdK c m (wdF c m) S m := by
  obtain ⟨n, rfl⟩ : ∃ n, S = n + 1 := ⟨S - 1, by omega⟩
  exact wdF_succ
theorem wdL_succ : wdL c m (n + 1) = wdL c m n ++ [wdF c m (n + 1)] := by rw [wdF_succ, wdL]; congr 2; exact wdK_congr (fun v hv => wdL_at (by have := xor_bit_lt hv; omega)) m
theorem bit_in {u : Nat} (hS : S < 2 ^ m) (h : S.testBit u = true) : u < m := by
  refine Classical.byContradiction fun hn => ?_
  rw [Nat.testBit_lt_two_pow (Nat.lt_of_lt_of_le hS (Nat.pow_le_pow_right (by omega) (by omega)))] at h; cases h
/-- No order is cheaper than the table says. -/
theorem wdF_le : ∀ (k : Nat) (l : List Nat), l.length = k → l.Nodup → (∀ v ∈ l, v < m) → wdF c m (stM l) ≤ csW c l k := by
  intro k
  induction k with
  | zero => intro l hl _ _; obtain rfl := List.eq_nil_of_length_eq_zero hl; exact Nat.zero_le _
  | succ k ih =>
    intro l hl hn hm
    obtain ⟨a, v, rfl⟩ : ∃ a v, l = a ++ [v] := ⟨l.dropLast, l.getLast (by intro e; rw [e] at hl; simp at hl), (List.dropLast_concat_getLast _).symm⟩
    obtain rfl : a.length = k := by simpa using hl
    rw [List.nodup_append] at hn
    have hva : v ∉ a := fun hm => hn.2.2 v hm v (by simp) rfl
    have h1 := ih a rfl hn.1 fun u hu => hm u (List.mem_append_left _ hu)
    have hb : (stM a).testBit v = false := by cases e : (stM a).testBit v; rfl; exact absurd (stM_bit.1 e) hva
    have hS : (stM a ||| 2 ^ v).testBit v = true := by rw [Nat.testBit_or, Nat.testBit_two_pow]; simp
    have hx : (stM a ||| 2 ^ v) ^^^ 2 ^ v = stM a := by
      apply Nat.eq_of_testBit_eq; intro j
      rw [Nat.testBit_xor, Nat.testBit_or, Nat.testBit_two_pow]
      by_cases e : v = j
      · subst e; rw [hb]; simp
      · simp [e]
    rw [csW_snoc, stM_snoc, wdF_pos (by intro e; rw [e] at hS; simp at hS)]
    have h2 := wdK_le (c := c) (m := m) (T := wdF c m) (hm v (by simp)) hS
    rw [hx] at h2
    refine Nat.le_trans h2 ?_
    omega
/-- Some order is as cheap as the table says. -/
theorem wdF_ex (hm7 : m ≤ 7) (hc : ∀ S v, S < 2 ^ m → v < m → c S v ≤ m) : ∀ (S : Nat), S < 2 ^ m → ∃ l : List Nat, l.Nodup ∧ (∀ v ∈ l, v < m) ∧ stM l = S ∧ l.length = cn S ∧ csW c l l.length ≤ wdF c m S := by
  intro S
  induction S using Nat.strongRecOn with
  | ind S ih =>
    intro hS
    by_cases h0 : S = 0
    · subst h0; exact ⟨[], List.nodup_nil, (fun v hv => by cases hv), rfl, rfl, Nat.zero_le _⟩
    · have h128 : S < 128 := Nat.lt_of_lt_of_le hS (two_pow_le hm7)
      have key : ∀ v, S.testBit v = true → (wdF c m S = m ∨ wdF c m S = max (wdF c m (S ^^^ 2 ^ v)) (c S v)) → ∃ l : List Nat, l.Nodup ∧ (∀ v ∈ l, v < m) ∧ stM l = S ∧ l.length = cn S ∧ csW c l l.length ≤ wdF c m S := by
        intro v hv hw
        have hvm := bit_in hS hv
        have hlt := xor_bit_lt hv
        obtain ⟨a, a1, a2, a3, a4, a5⟩ := ih (S ^^^ 2 ^ v) hlt (by omega)
        have hb : (S ^^^ 2 ^ v).testBit v = false := by rw [Nat.testBit_xor, hv, Nat.testBit_two_pow]; simp
        have hva : v ∉ a := fun h => by rw [← stM_bit, a3, hb] at h; cases h
        have ho : (S ^^^ 2 ^ v) ||| 2 ^ v = S := by
          apply Nat.eq_of_testBit_eq; intro j
          rw [Nat.testBit_or, Nat.testBit_xor, Nat.testBit_two_pow]
          by_cases e : v = j
          · subst e; rw [hv]; simp
          · simp [e]
        have hall : ∀ u ∈ a ++ [v], u < m := by
          intro u hu
          rw [List.mem_append, List.mem_singleton] at hu
          rcases hu with hu | rfl
          · exact a2 u hu
          · exact hvm
        refine ⟨a ++ [v], ?_, hall, by rw [stM_snoc, a3, ho], ?_, ?_⟩
        · rw [List.nodup_append]
          exact ⟨a1, by simp, fun x hx y hy => by rw [List.mem_singleton] at hy; subst hy; exact fun e => hva (e ▸ hx)⟩
        · have := cn_add_table (S ^^^ 2 ^ v) (by omega) v (by omega) hb
          rw [ho] at this
          rw [List.length_append, a4, this]; rfl
        · rcases hw with hw | hw
          · rw [hw]; exact csW_le hc hall _ (Nat.le_refl _)
          · rw [List.length_append, List.length_singleton, csW_snoc, a3, ho, hw]; omega
      have hw := wdF_pos (c := c) (m := m) h0
      rcases wdK_at (c := c) (m := m) (T := wdF c m) (S := S) (k := m) with h | ⟨v, h1, h2, h3⟩
      · obtain ⟨v, hv⟩ := ex_bit h0
        exact key v hv (.inl (by rw [hw, h]))
      · exact key v h2 (.inr (by rw [hw, h3]))
/-- The table's last number is the least over all orders. -/
theorem wdF_min (hm7 : m ≤ 7) (hc : ∀ S v, S < 2 ^ m → v < m → c S v ≤ m) (hcn : cn (2 ^ m - 1) = m) :
    (∃ l : List Nat, (l.length = m ∧ l.Nodup ∧ ∀ v ∈ l, v < m) ∧ wdF c m (2 ^ m - 1) = csW c l m) ∧ ∀ l : List Nat, l.length = m → l.Nodup → (∀ v ∈ l, v < m) → wdF c m (2 ^ m - 1) ≤ csW c l m := by
  have H : ∀ l : List Nat, l.length = m → l.Nodup → (∀ v ∈ l, v < m) → wdF c m (2 ^ m - 1) ≤ csW c l m := by
    intro l h1 h2 h3
    have := wdF_le (c := c) m l h1 h2 h3
    rwa [stM_all h2 h3 h1] at this
  refine ⟨?_, H⟩
  obtain ⟨l, h1, h2, h3, h4, h5⟩ := wdF_ex hm7 hc (2 ^ m - 1) (by have := Nat.two_pow_pos m; omega)
  rw [hcn] at h4
  rw [h4] at h5
  exact ⟨l, ⟨h4, h1, h2⟩, Nat.le_antisymm (H l h4 h1 h2) h5⟩
/-- A cost that does not name the vertex may be taken at the end. -/
theorem wdK_front {f : Nat} (hf : f ≤ m) : ∀ k, max (wdK (fun _ _ => 0) m T S k) f = wdK (fun _ _ => f) m T S k
  | 0 => Nat.max_eq_left hf
  | k + 1 => by
    have ih := wdK_front hf k
    cases hb : S.testBit k with
    | true => rw [wdK_yes hb, wdK_yes hb, ← ih]; omega
    | false => rw [wdK_no hb, wdK_no hb, ih]
theorem wdK_same {d : Nat → Nat → Nat} (h : ∀ v, v < k → c S v = d S v) : wdK c m T S k = wdK d m T S k := by
  induction k with
  | zero => rfl
  | succ k ih =>
    have e := ih fun v hv => h v (by omega)
    cases hb : S.testBit k with
    | true => rw [wdK_yes hb, wdK_yes hb, e, h k (by omega)]
    | false => rw [wdK_no hb, wdK_no hb, e]
end
end Go.Proofs.YtjonhbmgmamchaaGreatDoor
