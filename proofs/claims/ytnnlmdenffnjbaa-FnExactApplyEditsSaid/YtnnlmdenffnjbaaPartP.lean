/-
  Plain: the parts of a set of vertices; a witness against toughness.
-/
import Derived.Test.YtnnlmdenffnjbaaSetP
import Derived.Test.YtnnlmdenffnjbaaPlain
namespace Go.Proofs.Ytnnlmdenffnjbaa

/-- The neighbours of a set's members below k. -/
def nbK (r : Nat → Nat) (s : Nat) : Nat → Nat
  | 0 => 0
  | k + 1 => if s.testBit k = true then nbK r s k ||| r k else nbK r s k
def nb (r : Nat → Nat) (s : Nat) : Nat := nbK r s 7
theorem nbK_yes {r : Nat → Nat} {s k : Nat} (h : s.testBit k = true) : nbK r s (k + 1) = nbK r s k ||| r k := by rw [nbK, if_pos h]
theorem nbK_no {r : Nat → Nat} {s k : Nat} (h : s.testBit k = false) : nbK r s (k + 1) = nbK r s k := by rw [nbK, if_neg (by simp [h])]
theorem nbK_bit {r : Nat → Nat} {s k u : Nat} : (nbK r s k).testBit u = true ↔ ∃ v, v < k ∧ s.testBit v = true ∧ (r v).testBit u = true := by
  induction k with
  | zero => simp [nbK]
  | succ k ih =>
    cases h : s.testBit k
    · rw [nbK_no h, ih]
      exact ⟨fun ⟨v, h1, h2⟩ => ⟨v, by omega, h2⟩, fun ⟨v, h1, h2, h3⟩ => by
        by_cases hv : v = k
        · subst hv; rw [h] at h2; cases h2
        · exact ⟨v, by omega, h2, h3⟩⟩
    · rw [nbK_yes h, Nat.testBit_or, Bool.or_eq_true, ih]
      constructor
      · rintro (⟨v, h1, h2⟩ | h2)
        · exact ⟨v, by omega, h2⟩
        · exact ⟨k, by omega, h, h2⟩
      · rintro ⟨v, h1, h2, h3⟩
        by_cases hv : v = k
        · subst hv; exact .inr h3
        · exact .inl ⟨v, by omega, h2, h3⟩
theorem nb_bit {r : Nat → Nat} {s u : Nat} : (nb r s).testBit u = true ↔ ∃ v, v < 7 ∧ s.testBit v = true ∧ (r v).testBit u = true := nbK_bit
/-- As the list of the members goes. -/
theorem nb_list {r : Nat → Nat} {s : Nat} : ∀ k, (listK s k).foldl (fun a v => a ||| r v) 0 = nbK r s k := by
  intro k
  induction k with
  | zero => rfl
  | succ k ih =>
    cases h : s.testBit k
    · rw [listK_no h, nbK_no h, ih]
    · rw [listK_yes h, nbK_yes h, List.foldl_append, ih]; rfl
theorem nb_lt {r : Nat → Nat} {s n : Nat} (hr : ∀ v, v < n → r v < 2 ^ n) (hs : s < 2 ^ n) : ∀ k, nbK r s k < 2 ^ n := by
  intro k
  induction k with
  | zero => exact Nat.two_pow_pos n
  | succ k ih =>
    cases h : s.testBit k
    · rw [nbK_no h]; exact ih
    · rw [nbK_yes h]; exact Nat.or_lt_two_pow ih (hr k (bit_lt hs h))

/-- One step of growing within a set. -/
def stp (r : Nat → Nat) (set s : Nat) : Nat := (s ||| nb r s) &&& set
def gro (r : Nat → Nat) (set s : Nat) : Nat → Nat
  | 0 => s
  | k + 1 => stp r set (gro r set s k)
def Sub (s t : Nat) : Prop := ∀ v, s.testBit v = true → t.testBit v = true
theorem Sub.trans {a b c : Nat} (h : Sub a b) (k : Sub b c) : Sub a c := fun v hv => k v (h v hv)
theorem Sub.and {s t : Nat} (h : Sub s t) : s &&& t = s := by
  apply Nat.eq_of_testBit_eq
  intro i
  rw [Nat.testBit_and]
  cases hs : s.testBit i
  · simp
  · simp [h i hs]
theorem Sub.antisymm {s t : Nat} (h : Sub s t) (k : Sub t s) : s = t := by
  apply Nat.eq_of_testBit_eq
  intro i
  rw [Bool.eq_iff_iff]
  exact ⟨h i, k i⟩
theorem stp_bit {r : Nat → Nat} {set s u : Nat} : (stp r set s).testBit u = true ↔ (s.testBit u = true ∨ (nb r s).testBit u = true) ∧ set.testBit u = true := by
  unfold stp; rw [Nat.testBit_and, Nat.testBit_or]; simp
theorem stp_sub (r : Nat → Nat) (set s : Nat) : Sub (stp r set s) set := fun _u hu => (stp_bit.1 hu).2
theorem stp_grow {r : Nat → Nat} {set s : Nat} (h : Sub s set) : Sub s (stp r set s) := fun u hu => stp_bit.2 ⟨.inl hu, h u hu⟩
theorem gro_sub {r : Nat → Nat} {set s : Nat} (h : Sub s set) : ∀ k, Sub (gro r set s k) set := by
  intro k
  cases k with
  | zero => exact h
  | succ k => exact stp_sub _ _ _
theorem gro_grow {r : Nat → Nat} {set s : Nat} (h : Sub s set) (k : Nat) : Sub (gro r set s k) (gro r set s (k + 1)) := stp_grow (gro_sub h k)
theorem gro_from {r : Nat → Nat} {set s : Nat} (h : Sub s set) : ∀ k, Sub s (gro r set s k) := by
  intro k
  induction k with
  | zero => exact fun _ h => h
  | succ k ih => exact ih.trans (gro_grow h k)
theorem gro_fix {r : Nat → Nat} {set s k : Nat} (h : gro r set s (k + 1) = gro r set s k) : ∀ j, k ≤ j → gro r set s j = gro r set s k := by
  intro j hj
  induction j with
  | zero => obtain rfl : k = 0 := by omega
            rfl
  | succ j ih =>
    by_cases hk : k = j + 1
    · rw [hk]
    · have := ih (by omega)
      show stp r set (gro r set s j) = _
      rw [this]; exact h

/-- How many members. -/
def pc (s : Nat) : Nat := s % 2 + s / 2 % 2 + s / 4 % 2 + s / 8 % 2 + s / 16 % 2 + s / 32 % 2 + s / 64 % 2
theorem pc_table : ∀ s, s < 128 → ∀ t, t < 128 → s &&& t = s → s ≠ t → pc s < pc t := by decide +kernel
theorem pc_bound : ∀ n, n < 8 → ∀ s, s < 2 ^ n → pc s ≤ n := by decide +kernel
theorem pc_pos : ∀ s, s < 128 → s ≠ 0 → 0 < pc s := by decide +kernel
theorem sub_lt {s t n : Nat} (h : Sub s t) (ht : t < 2 ^ n) : s < 2 ^ n := by
  have := h.and
  rw [← this]
  exact Nat.lt_of_le_of_lt Nat.and_le_right ht
/-- As long as it grows it has k + 1 members at least. -/
theorem gro_pc {r : Nat → Nat} {set s n k : Nat} (hn : n ≤ 7) (hset : set < 2 ^ n) (h : Sub s set) (h0 : s ≠ 0) (hk : ∀ j, j < k → gro r set s (j + 1) ≠ gro r set s j) : k + 1 ≤ pc (gro r set s k) := by
  have h128 := two_pow_le hn
  induction k with
  | zero => exact pc_pos s (by have := sub_lt h hset; omega) h0
  | succ k ih =>
    have h1 := ih (fun j hj => hk j (by omega))
    have h2 := gro_grow (r := r) h k
    have := pc_table _ (by have := sub_lt (gro_sub (r := r) h k) hset; omega) _ (by have := sub_lt (gro_sub (r := r) h (k + 1)) hset; omega) h2.and (fun e => hk k (by omega) e.symm)
    omega
theorem gro_le {r : Nat → Nat} {set s n k : Nat} (hn : n ≤ 7) (hset : set < 2 ^ n) (h : Sub s set) (h0 : s ≠ 0) (hk : ∀ j, j < k → gro r set s (j + 1) ≠ gro r set s j) : k + 1 ≤ n := by
  have h1 := gro_pc (r := r) hn hset h h0 hk
  have h2 := pc_bound n (by omega) _ (sub_lt (gro_sub (r := r) h k) hset)
  omega
/-- After n steps nothing grows. -/
theorem gro_stop {r : Nat → Nat} {set s n : Nat} (hn : n ≤ 7) (hset : set < 2 ^ n) (h : Sub s set) (h0 : s ≠ 0) : gro r set s (n + 1) = gro r set s n := by
  refine Classical.byContradiction fun hne => ?_
  have : ∀ j, j < n + 1 → gro r set s (j + 1) ≠ gro r set s j := by
    intro j hj e
    have := gro_fix e
    exact hne ((this (n + 1) (by omega)).trans (this n (by omega)).symm)
  have := gro_le (r := r) hn hset h h0 this
  omega
/-- The part of a set that holds a vertex. -/
def part (r : Nat → Nat) (set s : Nat) : Nat := gro r set s 7
theorem gro_part {r : Nat → Nat} {set s n : Nat} (hn : n ≤ 7) (hset : set < 2 ^ n) (h : Sub s set) (h0 : s ≠ 0) : gro r set s n = part r set s :=
  (gro_fix (gro_stop (r := r) hn hset h h0) 7 hn).symm
theorem fix_part {r : Nat → Nat} {set s n k : Nat} (hn : n ≤ 7) (hset : set < 2 ^ n) (h : Sub s set) (h0 : s ≠ 0) (hk : ∀ j, j < k → gro r set s (j + 1) ≠ gro r set s j) (e : gro r set s (k + 1) = gro r set s k) : gro r set s k = part r set s := by
  have := gro_le (r := r) hn hset h h0 hk
  exact (gro_fix e 7 (by omega)).symm

/-- The least member, as a set. -/
def low (s : Nat) : Nat := match (listN s) with | [] => 0 | v :: _ => 2 ^ v
theorem low_of {s v : Nat} {l : List Nat} (h : listN s = v :: l) : low s = 2 ^ v := by unfold low; rw [h]
theorem list_ne {s : Nat} (hs : s < 128) (h : s ≠ 0) : ∃ v l, listN s = v :: l ∧ v < 7 ∧ s.testBit v = true := by
  obtain ⟨v, hv⟩ := ex_bit h
  have hm : v ∈ listN s := mem_listN.2 ⟨bit_lt (n := 7) hs hv, hv⟩
  match hl : listN s, hm with
  | u :: l, _ =>
    have := mem_listN.1 (by rw [hl]; exact List.mem_cons_self : u ∈ listN s)
    exact ⟨u, l, rfl, this.1, this.2⟩
theorem low_sub {s : Nat} (hs : s < 128) (h : s ≠ 0) : Sub (low s) s ∧ low s ≠ 0 := by
  obtain ⟨v, l, hl, hv7, hv⟩ := list_ne hs h
  rw [low_of hl]
  refine ⟨fun u hu => ?_, by have := Nat.two_pow_pos v; omega⟩
  rw [Nat.testBit_two_pow] at hu
  have : v = u := by simpa using hu
  rw [← this]; exact hv
theorem part_sub {r : Nat → Nat} {set : Nat} (hs : set < 128) (h : set ≠ 0) : Sub (part r set (low set)) set ∧ part r set (low set) ≠ 0 := by
  obtain ⟨h1, h2⟩ := low_sub hs h
  refine ⟨gro_sub h1 7, fun e => ?_⟩
  have h3 := gro_from (r := r) h1 7
  obtain ⟨v, hv⟩ := ex_bit h2
  have := h3 v hv
  unfold part at e
  rw [e] at this
  simp at this
theorem xor_sub_lt {s t : Nat} (hs : s < 128) (h : Sub t s) (h0 : t ≠ 0) : s ^^^ t < s ∧ s ^^^ t = s - t := by
  have e := xor_sub hs t
  have e2 : s &&& t = t := by rw [Nat.and_comm]; exact h.and
  rw [e2] at e
  exact ⟨by omega, by omega⟩
/-- How many parts. -/
def np (r : Nat → Nat) (set : Nat) : Nat :=
  if h : set = 0 ∨ 128 ≤ set then 0
  else np r (set ^^^ part r set (low set)) + 1
termination_by set
decreasing_by
  have hs : set < 128 := by omega
  have h0 : set ≠ 0 := by omega
  exact (xor_sub_lt hs (part_sub hs h0).1 (part_sub hs h0).2).1
theorem np_zero (r : Nat → Nat) : np r 0 = 0 := by unfold np; simp
theorem np_succ {r : Nat → Nat} {set : Nat} (hs : set < 128) (h : set ≠ 0) : np r set = np r (set ^^^ part r set (low set)) + 1 := by
  rw [np, dif_neg (by omega)]

/-! ### growing within what is left -/
theorem nb_mono {r : Nat → Nat} {s t : Nat} (h : Sub s t) : Sub (nb r s) (nb r t) := fun u hu => by
  obtain ⟨v, h1, h2, h3⟩ := nb_bit.1 hu
  exact nb_bit.2 ⟨v, h1, h v h2, h3⟩
theorem gro_left {r : Nat → Nat} {set left s : Nat} (hcl : Sub (stp r set left) left) (hls : Sub left set) (hs : Sub s left) : ∀ k, gro r set s k = gro r left s k := by
  intro k
  induction k with
  | zero => rfl
  | succ k ih =>
    show stp r set (gro r set s k) = stp r left (gro r left s k)
    rw [ih]
    have ht := gro_sub (r := r) hs k
    refine Sub.antisymm (fun u hu => ?_) (fun u hu => ?_)
    · have h1 := stp_bit.1 hu
      refine stp_bit.2 ⟨h1.1, hcl u (stp_bit.2 ⟨?_, h1.2⟩)⟩
      rcases h1.1 with h | h
      · exact .inl (ht u h)
      · exact .inr (nb_mono ht u h)
    · have h1 := stp_bit.1 hu
      exact stp_bit.2 ⟨h1.1, hls u h1.2⟩
theorem closed_next {n : Nat} {r : Nat → Nat} {set left : Nat} (vg : VG n r) (hset : set < 2 ^ n) (hls : Sub left set) (hcl : Sub (stp r set left) left) (h0 : left ≠ 0) :
    Sub (stp r set (left ^^^ part r left (low left))) (left ^^^ part r left (low left)) := by
  have hn7 := vg.n7
  have h128 := two_pow_le hn7
  have hl2 := sub_lt hls hset
  have hx := part_sub (r := r) (by omega : left < 128) h0
  have hlow := low_sub (by omega : left < 128) h0
  have hfix : stp r left (part r left (low left)) = part r left (low left) := gro_stop (n := 7) (by omega) (by omega) hlow.1 hlow.2
  intro u hu
  have h1 := stp_bit.1 hu
  rw [Nat.testBit_xor]
  have key : left.testBit u = true → (part r left (low left)).testBit u = false → (left.testBit u ^^ (part r left (low left)).testBit u) = true := fun a b => by rw [a, b]; rfl
  rcases h1.1 with h | h
  · rw [Nat.testBit_xor] at h; exact h
  · obtain ⟨v, hv7, hv, hvu⟩ := nb_bit.1 h
    rw [Nat.testBit_xor] at hv
    have hvl : left.testBit v = true := by
      cases hh : left.testBit v
      · have := mt (hx.1 v) (by simp [hh])
        simp [hh, this] at hv
      · rfl
    have hvx : (part r left (low left)).testBit v = false := by rw [hvl] at hv; simpa using hv
    have hul : left.testBit u = true := hcl u (stp_bit.2 ⟨.inr (nb_bit.2 ⟨v, hv7, hvl, hvu⟩), h1.2⟩)
    refine key hul ?_
    cases hux : (part r left (low left)).testBit u
    · rfl
    · exfalso
      have hun := bit_lt hl2 hul
      have hvn := bit_lt hl2 hvl
      have hsym : (r u).testBit v = true := by rw [vg.sym u v hun hvn]; exact hvu
      have : (stp r left (part r left (low left))).testBit v = true := stp_bit.2 ⟨.inr (nb_bit.2 ⟨u, by omega, hux, hsym⟩), hvl⟩
      rw [hfix, hvx] at this
      cases this

/-! ### the witness -/
def twB (r : Nat → Nat) (m set : Nat) : Bool := decide (max (listN set).length 1 < np r ((2 ^ m - 1) ^^^ set))
theorem full_and {m s : Nat} (h : s < 2 ^ m) : (2 ^ m - 1) &&& s = s := by rw [Nat.and_comm, Nat.and_two_pow_sub_one_eq_mod]; exact Nat.mod_eq_of_lt h
theorem full_sub {m s : Nat} (hm : m ≤ 7) (h : s < 2 ^ m) : (2 ^ m - 1) ^^^ s = 2 ^ m - 1 - s := by
  have h128 := two_pow_le hm
  have := xor_sub (s := 2 ^ m - 1) (by omega) s
  rw [full_and h] at this
  omega
theorem full_lt {m s : Nat} (hm : m ≤ 7) (h : s < 2 ^ m) : (2 ^ m - 1) ^^^ s < 2 ^ m := by rw [full_sub hm h]; omega
def twR (r : Nat → Nat) (m : Nat) : Option Nat := (List.range (2 ^ m)).find? (twB r m)
theorem twR_some {r : Nat → Nat} {m k : Nat} (hk : k < 2 ^ m) (hp : twB r m k = true) (hmin : ∀ j, j < k → twB r m j = false) : twR r m = some k := by
  unfold twR
  rw [List.find?_range_eq_some]
  exact ⟨hp, by simp [hk], fun j hj => by simp [hmin j hj]⟩
theorem twR_none {r : Nat → Nat} {m : Nat} (h : ∀ j, j < 2 ^ m → twB r m j = false) : twR r m = none := by
  unfold twR
  rw [List.find?_eq_none]
  intro j hj
  simp [h j (List.mem_range.1 hj)]
theorem fold_lt {r : Nat → Nat} {n : Nat} : ∀ (l : List Nat) (a : Nat), a < 2 ^ n → (∀ v ∈ l, r v < 2 ^ n) → l.foldl (fun a v => a ||| r v) a < 2 ^ n := by
  intro l
  induction l with
  | nil => intro a ha _; exact ha
  | cons v l ih => intro a ha h; exact ih _ (Nat.or_lt_two_pow ha (h v List.mem_cons_self)) (fun u hu => h u (List.mem_cons_of_mem _ hu))
theorem sub_num {s t : Nat} (h : Sub s t) : s ≤ t := by rw [← h.and]; exact Nat.and_le_right
end Go.Proofs.Ytnnlmdenffnjbaa
