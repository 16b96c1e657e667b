/-
  Plain: proper interval graphs that are connected have a way, and a circle where no vertex cuts; ways are even in number.
-/
import Derived.Test.YtncjfgebolikoaaQsHmlQ
import Derived.Test.YtncjfgebolikoaaQsUmoI
import Derived.Test.YtncjfgebolikoaaQsFirst
namespace Go.Proofs.Ytncjfgebolikoaa

section
variable {r : Nat → Nat} {m : Nat} {l : List Nat}
/-- What the general search finds is a list of different vertices. -/
theorem seaG_list {may hol : List Nat → Bool} : ∀ (k : Nat) (l o : List Nat), l.Nodup → (∀ v ∈ l, v < m) → seaG m may hol k l = some o → o.Nodup ∧ (∀ v ∈ o, v < m) ∧ o.length = l.length + k ∧ (0 < k → may o = true)
  | 0, l, o, hn, hl, h => by
    unfold seaG at h
    split at h
    · injection h with h
      subst h
      exact ⟨hn, hl, rfl, fun h => absurd h (by omega)⟩
    · cases h
  | k + 1, l, o, hn, hl, h => by
    unfold seaG at h
    obtain ⟨v, hv, h2⟩ := List.exists_of_findSome?_eq_some h
    split at h2
    · rename_i hc
      unfold okG at hc
      rw [Bool.and_eq_true] at hc
      have hnv : v ∉ l := by simpa using hc.1
      obtain ⟨a, b, c, d⟩ := seaG_list k (l ++ [v]) o (List.nodup_append.2 ⟨hn, by simp, fun a ha b hb e => by rw [List.mem_singleton] at hb; subst hb; subst e; exact hnv ha⟩) (fun u hu => by
        rcases List.mem_append.1 hu with h | h
        · exact hl u h
        · rw [List.mem_singleton] at h; subst h; exact List.mem_range.1 hv) h2
      rw [List.length_append, List.length_singleton] at c
      refine ⟨a, b, by omega, fun _ => ?_⟩
      cases k with
      | zero =>
        unfold seaG at h2
        split at h2
        · injection h2 with h2
          subst h2
          exact hc.2
        · cases h2
      | succ k => exact d (by omega)
    · cases h2
theorem onto_list (hn : l.Nodup) (hlt : ∀ v ∈ l, v < m) (hl : l.length = m) {v : Nat} (hv : v < m) : ∃ i, i < m ∧ l.getD i 0 = v := by
  have hin : v ∈ l := by
    refine Classical.byContradiction fun h => ?_
    have := hn.length_le_of_subset (l₂ := (List.range m).erase v) fun x hx => (List.mem_erase_of_ne (fun e : x = v => h (by rw [← e]; exact hx))).2 (List.mem_range.2 (hlt x hx))
    rw [List.length_erase_of_mem (List.mem_range.2 hv), List.length_range] at this
    omega
  obtain ⟨i, hi, e⟩ := List.getElem_of_mem hin
  exact ⟨i, by omega, by simp [List.getD, hi, e]⟩
/-- Between the places ahead of one and those from there on there is an edge. -/
theorem umb_edge (vg : VG m r) (hn : l.Nodup) (hlt : ∀ v ∈ l, v < m) (hl : l.length = m) {set : Nat} (hset : set < 2 ^ m) (hc : np r set = 1) {i a b : Nat} (ha : a < i) (hb : i ≤ b) (hbm : b < m) (ha2 : set.testBit (l.getD a 0) = true) (hb2 : set.testBit (l.getD b 0) = true) : ∃ p q, p < i ∧ i ≤ q ∧ q < m ∧ set.testBit (l.getD p 0) = true ∧ set.testBit (l.getD q 0) = true ∧ eL r l p q := by
  have h128 := two_pow_le vg.n7
  have hg : ∀ j (hj : j < l.length), l.getD j 0 = l[j] := fun j hj => by simp [List.getD, hj]
  obtain ⟨x, y, hx, hy, ⟨p, hp, ep⟩, hny, he⟩ := np_conn (by omega) hc (fun a b ha hb => vg.sym a b (bit_lt hset ha) (bit_lt hset hb)) (fun x => ∃ p, p < i ∧ l.getD p 0 = x) ⟨_, ha2, a, ha, rfl⟩ ⟨_, hb2, by
    rintro ⟨p, hp, e⟩
    rw [hg p (by omega), hg b (by omega)] at e
    have := (List.getElem_inj hn).1 e
    omega⟩
  obtain ⟨q, hq, eq⟩ := onto_list hn hlt hl (bit_lt hset hy)
  refine ⟨p, q, hp, Nat.le_of_not_lt fun h => hny ⟨q, h, eq⟩, hq, by rw [ep]; exact hx, by rw [eq]; exact hy, ?_⟩
  show (r (l.getD p 0)).testBit (l.getD q 0) = true
  rw [ep, eq]
  exact he
theorem eL_sym (vg : VG m r) (hlt : ∀ v ∈ l, v < m) {i j : Nat} (hi : i < l.length) (hj : j < l.length) (h : eL r l i j) : eL r l j i := by
  have hg : ∀ j (hj : j < l.length), l.getD j 0 < m := fun j hj => by
    have : l.getD j 0 = l[j] := by simp [List.getD, hj]
    rw [this]; exact hlt _ (List.getElem_mem _)
  unfold eL at h ⊢
  rw [vg.sym _ _ (hg j hj) (hg i hi)]
  exact h
/-- An umbrella of a connected graph is a way. -/
theorem umb_next (vg : VG m r) (hn : l.Nodup) (hlt : ∀ v ∈ l, v < m) (hl : l.length = m) (hU : Um r l) (hc : np r (2 ^ m - 1) = 1) : ∀ i, i + 1 < m → eL r l i (i + 1) := by
  intro i hi
  have hb : ∀ j, j < m → (2 ^ m - 1).testBit (l.getD j 0) = true := fun j hj => by
    have : l.getD j 0 = l[j]'(by omega) := by simp [List.getD, show j < l.length by omega]
    rw [full_bit_iff, this]
    exact hlt _ (List.getElem_mem _)
  obtain ⟨p, q, hp, hq, hqm, _, _, he⟩ := umb_edge vg hn hlt hl (set := 2 ^ m - 1) (by have := Nat.two_pow_pos m; omega) hc (i := i + 1) (a := i) (b := i + 1) (by omega) (Nat.le_refl _) hi (hb _ (by omega)) (hb _ hi)
  exact umb_one (fun a b ha hb h => eL_sym vg hlt ha hb h) hU (by omega) hp hq (by omega) he
theorem umb_skip (vg : VG m r) (hn : l.Nodup) (hlt : ∀ v ∈ l, v < m) (hl : l.length = m) (hU : Um r l) (hc : ∀ v, v < m → np r ((2 ^ m - 1) ^^^ 2 ^ v) = 1) : ∀ i, i + 2 < m → eL r l i (i + 2) := by
  intro i hi
  have hg : ∀ j (hj : j < l.length), l.getD j 0 = l[j] := fun j hj => by simp [List.getD, hj]
  have hm1 : l.getD (i + 1) 0 < m := by rw [hg _ (by omega)]; exact hlt _ (List.getElem_mem _)
  have hp2 : 2 ^ l.getD (i + 1) 0 < 2 ^ m := Nat.pow_lt_pow_right (by omega) hm1
  have hb : ∀ j, j < m → j ≠ i + 1 → ((2 ^ m - 1) ^^^ 2 ^ l.getD (i + 1) 0).testBit (l.getD j 0) = true := fun j hj hne => by
    have hjm : l.getD j 0 < m := by rw [hg _ (by omega)]; exact hlt _ (List.getElem_mem _)
    rw [Nat.testBit_xor, full_bit_iff.2 hjm, Nat.testBit_two_pow, decide_eq_false]
    · rfl
    · intro e
      rw [hg _ (by omega), hg _ (by omega)] at e
      exact hne ((List.getElem_inj hn).1 e).symm
  have hno : ¬ ((2 ^ m - 1) ^^^ 2 ^ l.getD (i + 1) 0).testBit (l.getD (i + 1) 0) = true := by
    rw [Nat.testBit_xor, full_bit_iff.2 hm1, Nat.testBit_two_pow]; simp
  obtain ⟨p, q, hp, hq, hqm, hps, hqs, he⟩ := umb_edge vg hn hlt hl (full_lt vg.n7 hp2) (hc _ hm1) (i := i + 1) (a := i) (b := i + 2) (by omega) (by omega) hi (hb _ (by omega) (by omega)) (hb _ hi (by omega))
  have hq1 : q ≠ i + 1 := by rintro rfl; exact hno hqs
  exact umb_two (fun a b ha hb h => eL_sym vg hlt ha hb h) hU (i := i + 1) (by omega) hp (by omega) (by omega) he
/-- What the law says of connected proper interval graphs. -/
theorem proper_way (vg : VG m r) (hO : (umO r m).isSome = true) (hc : np r (2 ^ m - 1) = 1) : sea r m false m [] ≠ none ∧ (3 ≤ m → (∀ v, v < m → np r ((2 ^ m - 1) ^^^ 2 ^ v) ≤ 1) → sea r m true m [] ≠ none) := by
  obtain ⟨l, hl⟩ := Option.isSome_iff_exists.1 hO
  obtain ⟨hn, hlt, hlen, hh⟩ := seaG_list m [] l List.nodup_nil (fun v hv => by cases hv) hl
  rw [List.length_nil, Nat.zero_add] at hlen
  have hU : Um r l := @of_decide_eq_true _ (Classical.propDecidable _) (hh (by have := vg.n1; omega))
  have hnext := umb_next vg hn hlt hlen hU hc
  refine ⟨sea_found m [] l hlen ?_ ?_, fun hm hcut => ?_⟩
  · rw [List.nil_append]
    exact ⟨hlt, hn, fun i hi => hnext i (by omega), fun h => by cases h⟩
  · rfl
  · have hcut1 : ∀ v, v < m → np r ((2 ^ m - 1) ^^^ 2 ^ v) = 1 := fun v hv => by
      have h128 := two_pow_le vg.n7
      have hp2 : 2 ^ v < 2 ^ m := Nat.pow_lt_pow_right (by omega) hv
      have hlt2 := full_lt vg.n7 hp2
      have h1 := hcut v hv
      have hne : (2 ^ m - 1) ^^^ 2 ^ v ≠ 0 := by
        intro h0
        obtain ⟨u, hu, huv⟩ : ∃ u, u < m ∧ u ≠ v := by
          by_cases e : v = 0
          · exact ⟨1, by omega, by omega⟩
          · exact ⟨0, by omega, fun h => e h.symm⟩
        have := congrArg (fun z => z.testBit u) h0
        simp only [Nat.testBit_xor, full_bit_iff.2 hu, Nat.testBit_two_pow, decide_eq_false (fun e : v = u => huv e.symm), Nat.zero_testBit] at this
        cases this
      have h2 := np_succ (r := r) (by omega : (2 ^ m - 1) ^^^ 2 ^ v < 128) hne
      omega
    have hskip := umb_skip vg hn hlt hlen hU hcut1
    exact (umb_cyc hn hlt hlen hm (fun i hi => ⟨hnext i hi, eL_sym vg hlt (by omega) (by omega) (hnext i hi)⟩) (fun i hi => ⟨hskip i hi, eL_sym vg hlt (by omega) (by omega) (hskip i hi)⟩)).found (by omega)
end
/-- A list without repetition that holds with each member another, its mirror, is even in length. -/
theorem even_len {α : Type} [DecidableEq α] (f : α → α) (hf : ∀ a, f (f a) = a) : ∀ (n : Nat) (L : List α), L.length ≤ n → L.Nodup → (∀ a ∈ L, f a ∈ L ∧ f a ≠ a) → L.length % 2 = 0 := by
  intro n
  induction n with
  | zero =>
    intro L h _ _
    rw [Nat.le_zero.1 h]
  | succ n ih =>
    intro L h hn hL
    cases L with
    | nil => rfl
    | cons a t =>
      obtain ⟨h1, h2⟩ := hL a (by simp)
      have hft : f a ∈ t := by
        rcases List.mem_cons.1 h1 with e | e
        · exact absurd e h2
        · exact e
      have hnt := (List.nodup_cons.1 hn)
      have hlen := List.length_erase_of_mem hft
      have hpos := List.length_pos_of_mem hft
      rw [List.length_cons] at h
      have := ih (t.erase (f a)) (by omega) (hnt.2.sublist List.erase_sublist) fun b hb => by
        have hbt : b ∈ t := List.mem_of_mem_erase hb
        have hbne : b ≠ f a := fun e => by
          subst e
          exact (List.Nodup.not_mem_erase hnt.2) hb
        obtain ⟨q1, q2⟩ := hL b (List.mem_cons_of_mem _ hbt)
        refine ⟨?_, q2⟩
        have hne1 : f b ≠ f a := fun e => by
          have := congrArg f e
          rw [hf, hf] at this
          subst this
          exact hnt.1 hbt
        have hne2 : f b ≠ a := fun e => hbne (by rw [← e, hf])
        rcases List.mem_cons.1 q1 with e | e
        · exact absurd e hne2
        · exact (List.mem_erase_of_ne hne1).2 e
      rw [List.length_cons]
      omega
end Go.Proofs.Ytncjfgebolikoaa
