/-
  Plain: a graph with a circle through all vertices does not fall into more parts than vertices are taken away; one part is connected.
-/
import Derived.Test.YtncjfgebolikoaaQsHmlP
import Derived.Test.YtncjfgebolikoaaQsGA
namespace Go.Proofs.Ytncjfgebolikoaa

section
variable {r : Nat → Nat} {m set s : Nat}
theorem part_closed (hs : set < 128) (h1 : Sub s set) (h0 : s ≠ 0) {a b : Nat} (ha : (part r set s).testBit a = true) (hb : set.testBit b = true) (he : (r a).testBit b = true) : (part r set s).testBit b = true := by
  have hfix : stp r set (part r set s) = part r set s := gro_stop (n := 7) (by omega) (by omega) h1 h0
  rw [← hfix]
  have hpa : a < 7 := bit_lt (n := 7) (by omega) (gro_sub h1 7 a ha)
  exact stp_bit.2 ⟨.inr (nb_bit.2 ⟨a, hpa, ha, he⟩), hb⟩
theorem part_least (P : Nat → Prop) (h0 : ∀ a, s.testBit a = true → P a) (hP : ∀ a b, P a → set.testBit b = true → (r a).testBit b = true → P b) : ∀ a, (part r set s).testBit a = true → P a := by
  have key : ∀ k a, (gro r set s k).testBit a = true → P a := by
    intro k
    induction k with
    | zero => exact h0
    | succ k ih =>
      intro a ha
      obtain ⟨h1, h2⟩ := stp_bit.1 ha
      rcases h1 with h1 | h1
      · exact ih a h1
      · obtain ⟨v, _, hv, he⟩ := nb_bit.1 h1
        exact hP v a (ih v hv) h2 he
  exact key 7
theorem np_nil (hs : set < 128) (h : np r set = 0) : set = 0 := by
  refine Classical.byContradiction fun h0 => ?_
  rw [np_succ hs h0] at h
  omega
theorem xor_zero {a b : Nat} (h : a ^^^ b = 0) : a = b := by
  refine Nat.eq_of_testBit_eq fun i => ?_
  have := congrArg (fun z => z.testBit i) h
  simp only [Nat.testBit_xor, Nat.zero_testBit] at this
  cases ha : a.testBit i <;> cases hb : b.testBit i <;> simp_all
/-- One part: between two halves there is an edge. -/
theorem np_conn (hs : set < 128) (h : np r set = 1) (sym : ∀ a b, set.testBit a = true → set.testBit b = true → (r a).testBit b = (r b).testBit a) (T : Nat → Prop) (h1 : ∃ a, set.testBit a = true ∧ T a) (h2 : ∃ b, set.testBit b = true ∧ ¬ T b) : ∃ a b, set.testBit a = true ∧ set.testBit b = true ∧ T a ∧ ¬ T b ∧ (r a).testBit b = true := by
  refine Classical.byContradiction fun hn => ?_
  have hno : ∀ a b, set.testBit a = true → set.testBit b = true → T a → ¬ T b → (r a).testBit b = false := fun a b ha hb hta htb => by
    cases he : (r a).testBit b
    · rfl
    · exact absurd ⟨a, b, ha, hb, hta, htb, he⟩ hn
  obtain ⟨a0, ha0, hta0⟩ := h1
  have h0 : set ≠ 0 := by rintro rfl; simp at ha0
  have hp := np_succ (r := r) hs h0
  obtain ⟨hl1, hl2⟩ := low_sub hs h0
  have hall : set = part r set (low set) := by
    have hz : np r (set ^^^ part r set (low set)) = 0 := by omega
    have hlt := (xor_sub_lt hs (part_sub (r := r) hs h0).1 (part_sub hs h0).2).1
    exact xor_zero (np_nil (by omega) hz)
  obtain ⟨v, lr, hv, _, hvs⟩ := list_ne hs h0
  have hlow : ∀ a, (low set).testBit a = true → a = v := fun a ha => by
    rw [low_of hv, Nat.testBit_two_pow] at ha
    have : v = a := by simpa using ha
    exact this.symm
  obtain ⟨b0, hb0, htb0⟩ := h2
  by_cases hT : T v
  · have := part_least (r := r) (set := set) (s := low set) (fun x => set.testBit x = true ∧ T x) (fun a ha => by rw [hlow a ha]; exact ⟨hvs, hT⟩) (fun a b ha hb he => ⟨hb, Classical.byContradiction fun htb => by
      have := hno a b ha.1 hb ha.2 htb
      rw [he] at this; cases this⟩) b0 (by rw [← hall]; exact hb0)
    exact htb0 this.2
  · have := part_least (r := r) (set := set) (s := low set) (fun x => set.testBit x = true ∧ ¬ T x) (fun a ha => by rw [hlow a ha]; exact ⟨hvs, hT⟩) (fun a b ha hb he => ⟨hb, fun htb => by
      have := hno b a hb ha.1 htb ha.2
      rw [← sym a b ha.1 hb, he] at this; cases this⟩) a0 (by rw [← hall]; exact ha0)
    exact this.2 hta0
/-- The places of a circle whose vertex lies in one set and the next one in another. -/
def outC (m : Nat) (c : Nat → Nat) (s set : Nat) : List Nat := (List.range m).filter fun i => set.testBit (c i) && s.testBit (c ((i + 1) % m))
theorem mem_outC {c : Nat → Nat} {i : Nat} : i ∈ outC m c s set ↔ i < m ∧ set.testBit (c i) = true ∧ s.testBit (c ((i + 1) % m)) = true := by
  unfold outC
  rw [List.mem_filter, List.mem_range, Bool.and_eq_true]
theorem outC_nodup {c : Nat → Nat} : (outC m c s set).Nodup := List.Pairwise.filter _ List.nodup_range
theorem full_bit_iff {a : Nat} : (2 ^ m - 1).testBit a = true ↔ a < m := by rw [Nat.testBit_two_pow_sub_one, decide_eq_true_eq]
/-- From a part one comes out. -/
theorem part_out {c : Nat → Nat} (vg : VG m r) (hc : Cyc r m c) (hs : s < 2 ^ m) (hs0 : s ≠ 0) (hset : set < 2 ^ m) (hin : Sub set ((2 ^ m - 1) ^^^ s)) (hcl : Sub (stp r ((2 ^ m - 1) ^^^ s) set) set) (h0 : set ≠ 0) : ∃ i, i ∈ outC m c s (part r set (low set)) := by
  have h128 := two_pow_le vg.n7
  refine Classical.byContradiction fun hn => ?_
  obtain ⟨hl1, hl2⟩ := low_sub (by omega : set < 128) h0
  have hps := (part_sub (r := r) (by omega : set < 128) h0).1
  obtain ⟨v, lr, hv, _, hvs⟩ := list_ne (by omega : set < 128) h0
  have hvp : (part r set (low set)).testBit v = true := gro_from hl1 7 v (by rw [low_of hv, Nat.testBit_two_pow]; simp)
  have hvm : v < m := bit_lt hset hvs
  obtain ⟨j, hj, ej⟩ := hc.onto hvm
  have all : ∀ i, (part r set (low set)).testBit (c ((j + i) % m)) = true := by
    intro i
    induction i with
    | zero => rw [Nat.add_zero, Nat.mod_eq_of_lt hj, ej]; exact hvp
    | succ i ih =>
      have hx : (j + i) % m < m := Nat.mod_lt _ (by omega)
      have hnx : ((j + i) % m + 1) % m = (j + (i + 1)) % m := by rw [Nat.mod_add_mod]; rfl
      have hed := hc.edge _ hx
      rw [hnx] at hed
      have hcm := hc.lt ((j + (i + 1)) % m) (Nat.mod_lt _ (by omega))
      have hsn : s.testBit (c ((j + (i + 1)) % m)) = false := by
        cases hb : s.testBit (c ((j + (i + 1)) % m))
        · rfl
        · exact absurd ⟨_, mem_outC.2 ⟨hx, ih, by rw [hnx]; exact hb⟩⟩ hn
      have hleft : ((2 ^ m - 1) ^^^ s).testBit (c ((j + (i + 1)) % m)) = true := by rw [Nat.testBit_xor, full_bit_iff.2 hcm, hsn]; rfl
      have hxm := hc.lt _ hx
      have hsetn : set.testBit (c ((j + (i + 1)) % m)) = true := hcl _ (stp_bit.2 ⟨.inr (nb_bit.2 ⟨c ((j + i) % m), by have := vg.n7; omega, hps _ ih, hed⟩), hleft⟩)
      exact part_closed (by omega) hl1 hl2 ih hsetn hed
  obtain ⟨u, hu⟩ := ex_bit hs0
  obtain ⟨k, hk, ek⟩ := hc.onto (bit_lt hs hu)
  have h1 := all (m + k - j)
  rw [show j + (m + k - j) = m + k by omega, Nat.add_mod_left, Nat.mod_eq_of_lt hk, ek] at h1
  have h2 := hin u (hps u h1)
  rw [Nat.testBit_xor, hu, full_bit_iff.2 (bit_lt hs hu)] at h2
  cases h2
theorem np_out {c : Nat → Nat} (vg : VG m r) (hc : Cyc r m c) (hs : s < 2 ^ m) (hs0 : s ≠ 0) : ∀ set, set < 2 ^ m → Sub set ((2 ^ m - 1) ^^^ s) → Sub (stp r ((2 ^ m - 1) ^^^ s) set) set → np r set ≤ (outC m c s set).length := by
  have h128 := two_pow_le vg.n7
  intro set
  induction set using Nat.strongRecOn with
  | ind set ih =>
    intro hset hin hcl
    by_cases h0 : set = 0
    · subst h0; rw [np_zero]; exact Nat.zero_le _
    · obtain ⟨i, hi⟩ := part_out vg hc hs hs0 hset hin hcl h0
      have hps := part_sub (r := r) (by omega : set < 128) h0
      have hlt := (xor_sub_lt (by omega : set < 128) hps.1 hps.2).1
      have hsub : Sub (set ^^^ part r set (low set)) set := fun a ha => by
        rw [Nat.testBit_xor] at ha
        cases hb : set.testBit a
        · have : (part r set (low set)).testBit a = false := by
            cases hc2 : (part r set (low set)).testBit a
            · rfl
            · have := hps.1 a hc2; rw [hb] at this; cases this
          rw [hb, this] at ha; cases ha
        · rfl
      have hle := ih _ hlt (by omega) (fun a ha => hin a (hsub a ha)) (closed_next vg (full_lt vg.n7 hs) hin hcl h0)
      obtain ⟨hi1, hi2, hi3⟩ := mem_outC.1 hi
      have h2 := (outC_nodup (m := m) (c := c) (s := s) (set := set ^^^ part r set (low set))).length_le_of_subset (l₂ := (outC m c s set).erase i) fun k hk => by
        obtain ⟨hk1, hk2, hk3⟩ := mem_outC.1 hk
        refine (List.mem_erase_of_ne ?_).2 (mem_outC.2 ⟨hk1, hsub _ hk2, hk3⟩)
        rintro rfl
        rw [Nat.testBit_xor, hi2, hps.1 _ hi2] at hk2
        cases hk2
      have hmem : i ∈ outC m c s set := mem_outC.2 ⟨hi1, hps.1 _ hi2, hi3⟩
      rw [List.length_erase_of_mem hmem] at h2
      have := List.length_pos_of_mem hmem
      rw [np_succ (by omega) h0]
      omega
/-- A graph with a circle has no witness against it. -/
theorem Cyc.tough {c : Nat → Nat} (vg : VG m r) (hc : Cyc r m c) : twR r m = none := by
  have h128 := two_pow_le vg.n7
  have hm1 := vg.n1
  refine twR_none fun s hs => ?_
  unfold twB
  apply decide_eq_false
  by_cases hs0 : s = 0
  · subst hs0
    rw [Nat.xor_zero]
    have hf0 : 2 ^ m - 1 ≠ 0 := by
      have : 2 ^ 1 ≤ 2 ^ m := Nat.pow_le_pow_right (by omega) hm1
      omega
    obtain ⟨hl1, hl2⟩ := low_sub (by omega : 2 ^ m - 1 < 128) hf0
    obtain ⟨v, lr, hv, _, hvs⟩ := list_ne (by omega : 2 ^ m - 1 < 128) hf0
    have hvp : (part r (2 ^ m - 1) (low (2 ^ m - 1))).testBit v = true := gro_from hl1 7 v (by rw [low_of hv, Nat.testBit_two_pow]; simp)
    obtain ⟨j, hj, ej⟩ := hc.onto (full_bit_iff.1 hvs)
    have all : ∀ i, (part r (2 ^ m - 1) (low (2 ^ m - 1))).testBit (c ((j + i) % m)) = true := by
      intro i
      induction i with
      | zero => rw [Nat.add_zero, Nat.mod_eq_of_lt hj, ej]; exact hvp
      | succ i ih =>
        have hx : (j + i) % m < m := Nat.mod_lt _ (by omega)
        have hed := hc.edge _ hx
        rw [show ((j + i) % m + 1) % m = (j + (i + 1)) % m by rw [Nat.mod_add_mod]; rfl] at hed
        exact part_closed (by omega) hl1 hl2 ih (full_bit_iff.2 (hc.lt _ (Nat.mod_lt _ (by omega)))) hed
    have heq : part r (2 ^ m - 1) (low (2 ^ m - 1)) = 2 ^ m - 1 := Sub.antisymm (part_sub (by omega) hf0).1 fun u hu => by
      obtain ⟨k, hk, ek⟩ := hc.onto (full_bit_iff.1 hu)
      have h1 := all (m + k - j)
      rw [show j + (m + k - j) = m + k by omega, Nat.add_mod_left, Nat.mod_eq_of_lt hk, ek] at h1
      exact h1
    rw [np_succ (by omega) hf0, heq, Nat.xor_self, np_zero]
    omega
  · have h1 := np_out vg hc hs hs0 ((2 ^ m - 1) ^^^ s) (full_lt vg.n7 hs) (fun _ h => h) (stp_sub _ _ _)
    have h2 : ((outC m c s ((2 ^ m - 1) ^^^ s)).map fun i => c ((i + 1) % m)).Nodup := by
      rw [List.nodup_iff_pairwise_ne, List.pairwise_map]
      refine List.Pairwise.imp_of_mem ?_ (outC_nodup (m := m) (c := c) (s := s) (set := (2 ^ m - 1) ^^^ s))
      intro a b ha hb hab e
      have ha1 := (mem_outC.1 ha).1
      have hb1 := (mem_outC.1 hb).1
      have e2 := hc.inj _ _ (Nat.mod_lt _ (by omega)) (Nat.mod_lt _ (by omega)) e
      refine hab ?_
      by_cases h1 : a + 1 < m
      · by_cases h2 : b + 1 < m
        · rw [Nat.mod_eq_of_lt h1, Nat.mod_eq_of_lt h2] at e2; omega
        · rw [Nat.mod_eq_of_lt h1, show b + 1 = m by omega, Nat.mod_self] at e2; omega
      · by_cases h2 : b + 1 < m
        · rw [Nat.mod_eq_of_lt h2, show a + 1 = m by omega, Nat.mod_self] at e2; omega
        · omega
    have h3 := h2.length_le_of_subset (l₂ := listN s) fun x hx => by
      obtain ⟨i, hi, rfl⟩ := List.mem_map.1 hx
      obtain ⟨hi1, _, hi3⟩ := mem_outC.1 hi
      exact mem_listN.2 ⟨by have := hc.lt ((i + 1) % m) (Nat.mod_lt _ (by omega)); have := vg.n7; omega, hi3⟩
    rw [List.length_map] at h3
    omega
end
end Go.Proofs.Ytncjfgebolikoaa
