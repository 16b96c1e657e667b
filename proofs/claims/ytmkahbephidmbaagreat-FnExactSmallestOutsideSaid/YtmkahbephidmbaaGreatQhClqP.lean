/-
  Plain: the largest sets of neighbors of each other; lists of sets in which those with a vertex follow one another; the first such order.
-/
import Derived.Test.YtmkahbephidmbaaGreatQhInP
namespace Go.Proofs.YtmkahbephidmbaaGreat
open Go.RowKit

/-- Is a clique seen to be maximal against the first k vertices? -/
def mxK (r : Nat → Nat) (s : Nat) : Nat → Bool
  | 0 => cliq r s
  | k + 1 => mxK r s k && (s.testBit k || !(r k &&& s == s))
def mxB (r : Nat → Nat) (m s : Nat) : Bool := mxK r s m
def mqK (r : Nat → Nat) (m k : Nat) : List Nat := (List.range k).filter fun s => !(s == 0) && mxB r m s
def mqL (r : Nat → Nat) (m : Nat) : List Nat := mqK r m (2 ^ m)
theorem mxK_no {r : Nat → Nat} {s j : Nat} (h : mxK r s j = false) : ∀ {i}, j ≤ i → mxK r s i = false := by
  intro i hi
  induction hi with
  | refl => exact h
  | step _ ih => rw [mxK, ih]; rfl
theorem mqK_one (r : Nat → Nat) (m : Nat) : mqK r m 1 = [] := by unfold mqK; simp [List.range_succ]
theorem mqK_yes {r : Nat → Nat} {m k : Nat} (h0 : 1 ≤ k) (h : mxB r m k = true) : mqK r m (k + 1) = mqK r m k ++ [k] := by
  unfold mqK
  rw [List.range_succ, List.filter_append]
  simp [h, show k ≠ 0 by omega]
theorem mqK_no {r : Nat → Nat} {m k : Nat} (h : mxB r m k = false) : mqK r m (k + 1) = mqK r m k := by
  unfold mqK
  rw [List.range_succ, List.filter_append]
  simp [h]
theorem mqK_len (r : Nat → Nat) (m k : Nat) : (mqK r m k).length ≤ k := by
  unfold mqK
  exact Nat.le_trans (List.length_filter_le _ _) (by simp)
theorem mem_mqL {r : Nat → Nat} {m s : Nat} : s ∈ mqL r m ↔ s < 2 ^ m ∧ s ≠ 0 ∧ mxB r m s = true := by
  unfold mqL mqK; simp
theorem mxK_yes {r : Nat → Nat} {s : Nat} (h : cliq r s = true) : ∀ k, (∀ v, v < k → s.testBit v = true ∨ r v &&& s ≠ s) → mxK r s k = true := by
  intro k
  induction k with
  | zero => exact fun _ => h
  | succ k ih =>
    intro hv
    rw [mxK, ih fun v h => hv v (by omega), Bool.true_and]
    rcases hv k (by omega) with h | h
    · rw [h]; rfl
    · simp [h]
theorem cn_add_table : ∀ s, s < 128 → ∀ v, v < 7 → s.testBit v = false → cn (s ||| 2 ^ v) = cn s + 1 := by decide +kernel
theorem mqL_ne {r : Nat → Nat} {m : Nat} (vg : VG m r) : mqL r m ≠ [] := by
  have h128 := two_pow_le vg.n7
  have n1 := vg.n1
  have hlt := lq_lt r m
  have h1 : cliq r 1 = true := cliq_yes fun v hv hb => by
    obtain rfl : v = 0 := by
      rcases Nat.lt_or_ge 0 v with h | h
      · have := bit_lt (n := 1) (by omega : (1 : Nat) < 2 ^ 1) hb; omega
      · omega
    have := vg.irr 0 (by omega)
    have e : 1 &&& r 0 = 0 := by
      apply Nat.eq_of_testBit_eq
      intro i
      rw [Nat.testBit_and, Nat.zero_testBit]
      cases i with
      | zero => rw [this]; simp
      | succ i => simp [Nat.testBit_succ]
    rw [e]; rfl
  have hmost := lgK_most (p := cliq r) (2 ^ m) 1 (by have := Nat.pow_le_pow_right (n := 2) (by omega) n1; omega) h1
  have hc1 : cn 1 = 1 := by decide
  have hne : lqN r m ≠ 0 := fun e => by
    have : cn (lqN r m) = 0 := by rw [e]; decide
    unfold lqN at this
    omega
  have hcl : cliq r (lqN r m) = true := by
    rcases lgK_holds (p := cliq r) (2 ^ m) with h | h
    · exact absurd h hne
    · exact h
  have hmem : lqN r m ∈ mqL r m := by
    refine mem_mqL.2 ⟨hlt, hne, mxK_yes hcl _ fun v hv => ?_⟩
    cases hb : (lqN r m).testBit v
    · refine .inr fun e => ?_
      have h2 : cliq r (lqN r m ||| 2 ^ v) = true := cliq_yes fun u hu hbu => by
        rw [Nat.testBit_or, Nat.testBit_two_pow] at hbu
        have hum : u < m := by
          cases h3 : (lqN r m).testBit u
          · rw [h3] at hbu; simp at hbu; omega
          · exact bit_lt hlt h3
        apply Nat.eq_of_testBit_eq
        intro i
        rw [Nat.testBit_xor, Nat.testBit_and, Nat.testBit_or, Nat.testBit_two_pow, Nat.testBit_two_pow]
        have hL : ∀ j, (lqN r m).testBit j = true → (r v).testBit j = true := fun j hj => by
          have := congrArg (Nat.testBit · j) e
          simp only [Nat.testBit_and, hj, Bool.and_true] at this
          exact this
        have hC : ∀ a, (lqN r m).testBit a = true → ∀ j, (lqN r m).testBit j = true → j ≠ a → (r a).testBit j = true := fun a ha j hj hja => by
          have ha7 : a < 7 := by have := bit_lt hlt ha; have := vg.n7; omega
          have := (List.all_eq_true.1 (show ((listN (lqN r m)).all fun v => lqN r m ^^^ (lqN r m &&& r v) == 2 ^ v) = true from hcl)) a (mem_listN.2 ⟨ha7, ha⟩)
          have := congrArg (Nat.testBit · j) (beq_iff_eq.1 this)
          simp only [Nat.testBit_xor, Nat.testBit_and, Nat.testBit_two_pow, hj, Bool.true_and] at this
          rw [decide_eq_false (fun h => hja h.symm)] at this
          simpa using this
        by_cases hiu : u = i
        · subst hiu
          rw [vg.irr u hum, hbu, decide_eq_true rfl]; rfl
        · rw [decide_eq_false hiu]
          cases h3 : (lqN r m).testBit i
          · by_cases hvi : v = i
            · subst hvi
              have hu' : (lqN r m).testBit u = true := by
                rw [decide_eq_false (fun h => hiu h.symm)] at hbu; simpa using hbu
              have := hL u hu'
              rw [vg.sym v u hv hum] at this
              rw [this]; simp
            · rw [decide_eq_false hvi]; rfl
          · have : (r u).testBit i = true := by
              cases h4 : (lqN r m).testBit u
              · rw [h4] at hbu
                have hvu : v = u := by simpa using hbu
                rw [← hvu]; exact hL i h3
              · exact hC u h4 i h3 (fun h => hiu h.symm)
            rw [this]; simp
      have hlt2 : lqN r m ||| 2 ^ v < 2 ^ m := Nat.or_lt_two_pow hlt (Nat.pow_lt_pow_right (by omega) hv)
      have h3 := lgK_most (p := cliq r) (2 ^ m) _ hlt2 h2
      have h4 := cn_add_table (lqN r m) (by omega) v (by have := vg.n7; omega) hb
      unfold lqN at h4 h3
      omega
    · exact .inl rfl
  intro e
  rw [e] at hmem
  cases hmem

/-- What has been seen in the first i sets; the last of these. -/
def seK (l : List Nat) : Nat → Nat
  | 0 => 0
  | i + 1 => seK l i ||| l.getD i 0
def laK (l : List Nat) : Nat → Nat
  | 0 => 0
  | i + 1 => l.getD i 0
def fcB (l : List Nat) (i : Nat) : Bool := (l.getD i 0 &&& seK l i) ^^^ ((l.getD i 0 &&& seK l i) &&& laK l i) == 0
def foB (l : List Nat) : Bool := (List.range l.length).all (fcB l)
theorem foB_no {l : List Nat} {i : Nat} (hi : i < l.length) (h : fcB l i = false) : foB l = false := by
  unfold foB
  rw [List.all_eq_false]
  exact ⟨i, List.mem_range.2 hi, by rw [h]; simp⟩
theorem foB_yes {l : List Nat} (h : ∀ i, i < l.length → fcB l i = true) : foB l = true := by
  unfold foB
  rw [List.all_eq_true]
  exact fun i hi => h i (List.mem_range.1 hi)
theorem foB_iff {l : List Nat} : foB l = true ↔ ∀ i, i < l.length → fcB l i = true := by
  unfold foB
  rw [List.all_eq_true]
  simp
theorem seK_lt {l : List Nat} (h : ∀ v ∈ l, v < 128) : ∀ i, i ≤ l.length → seK l i < 128 := by
  intro i
  induction i with
  | zero => exact fun _ => (by decide : (0 : Nat) < 128)
  | succ i ih =>
    intro hi
    have e : l.getD i 0 = l[i] := by simp [List.getD, show i < l.length by omega]
    exact Nat.or_lt_two_pow (n := 7) (ih (by omega)) (by rw [e]; exact h _ (List.getElem_mem _))
/-- How often the sets with a vertex begin, among the first i. -/
def bgK (l : List Nat) (v : Nat) : Nat → Nat
  | 0 => 0
  | i + 1 => bgK l v i + (if ((l.getD i 0).testBit v && !(laK l i).testBit v) = true then 1 else 0)
def coB (l : List Nat) : Bool := (List.range 7).all fun v => decide (bgK l v l.length ≤ 1)
theorem bgK_yes {l : List Nat} {v i : Nat} (h1 : (l.getD i 0).testBit v = true) (h2 : (laK l i).testBit v = false) : bgK l v (i + 1) = bgK l v i + 1 := by
  rw [bgK, h1, h2]; rfl
theorem bgK_no {l : List Nat} {v i : Nat} (h : (l.getD i 0).testBit v = false ∨ (laK l i).testBit v = true) : bgK l v (i + 1) = bgK l v i := by
  rw [bgK, if_neg, Nat.add_zero]
  rw [Bool.and_eq_true]
  rintro ⟨h1, h2⟩
  rcases h with h | h
  · rw [h] at h1; cases h1
  · rw [h] at h2; cases h2
theorem bgK_le (l : List Nat) (v : Nat) : ∀ i, bgK l v i ≤ i := by
  intro i
  induction i with
  | zero => exact Nat.le_refl _
  | succ i ih => rw [bgK]; split <;> omega
theorem coB_no {l : List Nat} {v : Nat} (hv : v < 7) (h : 1 < bgK l v l.length) : coB l = false := by
  unfold coB
  rw [List.all_eq_false]
  exact ⟨v, List.mem_range.2 hv, by rw [decide_eq_false (by omega)]; simp⟩
theorem coB_yes {l : List Nat} (h : ∀ v, v < 7 → bgK l v l.length ≤ 1) : coB l = true := by
  unfold coB
  rw [List.all_eq_true]
  exact fun v hv => decide_eq_true (h v (List.mem_range.1 hv))
theorem fcB_bit {l : List Nat} {i : Nat} : fcB l i = true ↔ ∀ v, (l.getD i 0).testBit v = true → (seK l i).testBit v = true → (laK l i).testBit v = true := by
  unfold fcB
  rw [beq_iff_eq, andNot_zero]
  constructor
  · intro h v h1 h2
    have := congrArg (Nat.testBit · v) h
    simp only [Nat.testBit_and, h1, h2, Bool.true_and] at this
    exact this
  · intro h
    apply Nat.eq_of_testBit_eq
    intro v
    simp only [Nat.testBit_and]
    cases h1 : (l.getD i 0).testBit v
    · rfl
    · cases h2 : (seK l i).testBit v
      · rfl
      · rw [h v h1 h2]; rfl
theorem seK_bg {l : List Nat} {v : Nat} : ∀ i, (seK l i).testBit v = false ↔ bgK l v i = 0 := by
  intro i
  induction i with
  | zero => simp [seK, bgK]
  | succ i ih =>
    rw [seK, bgK, Nat.testBit_or]
    cases h1 : (l.getD i 0).testBit v
    · simp [ih]
    · cases h2 : (laK l i).testBit v
      · simp
      · have h3 : (seK l i).testBit v = true := by
          cases i with
          | zero => simp [laK] at h2
          | succ i => rw [seK, Nat.testBit_or]; rw [laK] at h2; rw [h2]; simp
        rw [h3] at ih
        simp at ih
        simp [h3]; omega
theorem bg_fc {l : List Nat} {v : Nat} : ∀ n, bgK l v n ≤ 1 ↔ ∀ i, i < n → (l.getD i 0).testBit v = true → (seK l i).testBit v = true → (laK l i).testBit v = true := by
  intro n
  induction n with
  | zero => simp [bgK]
  | succ n ih =>
    have hs := seK_bg (l := l) (v := v) n
    constructor
    · intro h i hi
      have hn : bgK l v n ≤ 1 := by rw [bgK] at h; omega
      by_cases hin : i < n
      · exact ih.1 hn i hin
      · obtain rfl : i = n := by omega
        intro h1 h2
        cases h3 : (laK l i).testBit v
        · rw [bgK_yes h1 h3] at h
          have := hs.2 (by omega)
          rw [h2] at this; cases this
        · rfl
    · intro h
      have hn := ih.2 fun i hi => h i (by omega)
      cases h1 : (l.getD n 0).testBit v
      · rw [bgK_no (.inl h1)]; exact hn
      · cases h2 : (laK l n).testBit v
        · rw [bgK_yes h1 h2]
          have : (seK l n).testBit v = false := by
            cases h3 : (seK l n).testBit v
            · rfl
            · have := h n (by omega) h1 h3; rw [h2] at this; cases this
          have := hs.1 this
          omega
        · rw [bgK_no (.inr h2)]; exact hn
theorem co_fo {l : List Nat} (h : ∀ s ∈ l, s < 128) : coB l = foB l := by
  rw [Bool.eq_iff_iff]
  constructor
  · intro hc
    refine foB_yes fun i hi => fcB_bit.2 fun v h1 h2 => ?_
    have e : l.getD i 0 = l[i] := by simp [List.getD, hi]
    have hv : v < 7 := bit_lt (n := 7) (by rw [e]; exact h _ (List.getElem_mem _)) h1
    unfold coB at hc
    rw [List.all_eq_true] at hc
    have := of_decide_eq_true (hc v (List.mem_range.2 hv))
    exact (bg_fc _).1 this i hi h1 h2
  · intro hf
    exact coB_yes fun v _ => (bg_fc _).2 fun i hi => fcB_bit.1 (foB_iff.1 hf i hi) v

/-- The first order of the sets of Q that goes on from l. -/
def okQ (l : List Nat) (s : Nat) : Bool := !decide (s ∈ l) && foB (l ++ [s])
def cqS (Q : List Nat) : Nat → List Nat → Option (List Nat)
  | 0, l => some l
  | k + 1, l => (List.range Q.length).findSome? fun i => if okQ l (Q.getD i 0) = true then cqS Q k (l ++ [Q.getD i 0]) else none
def cqA (Q : List Nat) (k : Nat) (l : List Nat) (i : Nat) : Option (List Nat) := if okQ l (Q.getD i 0) = true then cqS Q k (l ++ [Q.getD i 0]) else none
section
variable {Q l : List Nat} {k i : Nat}
theorem okQ_in {s : Nat} (h : s ∈ l) : okQ l s = false := by unfold okQ; rw [decide_eq_true h]; rfl
theorem okQ_out {s : Nat} (h : s ∉ l) : okQ l s = foB (l ++ [s]) := by unfold okQ; rw [decide_eq_false h]; rfl
theorem cqA_no (h : okQ l (Q.getD i 0) = false) : cqA Q k l i = none := by unfold cqA; rw [h]; rfl
theorem cqA_yes (h : okQ l (Q.getD i 0) = true) : cqA Q k l i = cqS Q k (l ++ [Q.getD i 0]) := by unfold cqA; rw [h]; rfl
theorem cqS_some {o : List Nat} (hi : i < Q.length) (h : cqA Q k l i = some o) (hmin : ∀ u, u < i → cqA Q k l u = none) : cqS Q (k + 1) l = some o := range_some hi h hmin
theorem cqS_none (h : ∀ u, u < Q.length → cqA Q k l u = none) : cqS Q (k + 1) l = none := range_none h
end
end Go.Proofs.YtmkahbephidmbaaGreat
