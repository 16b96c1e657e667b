/-
  Several texts in one.
-/
import Derived.Test.YtncjfgebolikoaaQsHmlS
import Derived.Test.YtncjfgebolikoaaQsGivP
import Derived.Test.YtncjfgebolikoaaQsListS
/-
  Plain: how many ways go on behind a list, as the reference counts them; the vertices that cut.
-/
namespace Go.Proofs.Ytncjfgebolikoaa

/-- How many ways go on behind a list. -/
def cwN (r : Nat → Nat) (m k : Nat) (l : List Nat) : Nat := (visG m (wayB r) k l).length
/-- The same, of those that go on with a vertex below v. -/
def cwU (r : Nat → Nat) (m k : Nat) (l : List Nat) (v : Nat) : Nat := (visU m (wayB r) k l v).length
section
variable {r : Nat → Nat} {m k v a : Nat} {l : List Nat}
theorem cwN_zero : cwN r m 0 l = 1 := rfl
theorem cwU_all : cwU r m k l m = cwN r m (k + 1) l := rfl
theorem cwU_no (h : okG (wayB r) l v = false) : cwU r m k l (v + 1) = cwU r m k l v := by unfold cwU; rw [visU_no h]
theorem cwU_yes (h : okG (wayB r) l v = true) : cwU r m k l (v + 1) = cwU r m k l v + cwN r m k (l ++ [v]) := by unfold cwU cwN; rw [visU_yes h, List.length_append]
/-- May v be set behind a way that ends at a? -/
theorem okW (hw : Way r m false l) (ha : l.getLast? = some a) : okG (wayB r) l v = (!decide (v ∈ l) && edg r a v) := by
  by_cases h : v ∈ l
  · rw [okG_in h, decide_eq_true h]; rfl
  · rw [okG_out h, decide_eq_false h, way_snoc hw h, ha]; rfl
theorem okW_nil (_ : v < m) : okG (wayB r) [] v = true := by
  rw [okG_out (by simp), way_snoc (Way.nil r m false) (by simp)]; rfl
/-- The vertices that cut. -/
def cvB (r : Nat → Nat) (m v : Nat) : Bool := decide (np r (2 ^ m - 1) < np r ((2 ^ m - 1) ^^^ 2 ^ v))
def cvN (r : Nat → Nat) (m : Nat) : Nat := bmK (cvB r m) m
theorem cvN_zero (h : cvN r m = 0) (hv : v < m) : np r ((2 ^ m - 1) ^^^ 2 ^ v) ≤ np r (2 ^ m - 1) := by
  have h1 := congrArg (fun z => z.testBit v) h
  unfold cvN at h1
  simp only [bmK_bit, decide_eq_true hv, Bool.true_and, Nat.zero_testBit] at h1
  unfold cvB at h1
  have := of_decide_eq_false h1
  omega
/-- What the law says of connected proper interval graphs, with the set of cutting vertices. -/
theorem proper_law (vg : VG m r) (hO : (umO r m).isSome = true) (hc : np r (2 ^ m - 1) = 1) : (sea r m false m []).isSome = true ∧ (3 ≤ m → cvN r m = 0 → (sea r m true m []).isSome = true) := by
  obtain ⟨h1, h2⟩ := proper_way vg hO hc
  refine ⟨Option.isSome_iff_ne_none.2 h1, fun hm h0 => Option.isSome_iff_ne_none.2 (h2 hm fun v hv => ?_)⟩
  have := cvN_zero h0 hv
  omega
/-- What the law says of a circle that is found. -/
theorem circle_law (vg : VG m r) {o : List Nat} (h : sea r m true m [] = some o) : wayB r o = true ∧ o.length = m ∧ (∀ v ∈ o, v < m) ∧ edg r (o.headD 0) (o.getLastD 0) = true ∧ (sea r m false m []).isSome = true ∧ twR r m = none := by
  have hm := vg.n1
  obtain ⟨hw, hf, hlen⟩ := sea_gives m [] o (Way.nil r m true) h
  rw [List.length_nil, Nat.zero_add] at hlen
  refine ⟨?_, hlen, hw.lt, ?_, Option.isSome_iff_ne_none.2 (sea_path h), (sea_cyc (by omega) h).tough vg⟩
  · unfold wayB
    have he : o.isEmpty = false := by
      cases o with
      | nil => simp at hlen; omega
      | cons _ _ => rfl
    rw [he, decide_eq_true hw.nodup, Bool.not_false, Bool.true_and, Bool.true_and, List.all_eq_true]
    intro i hi
    have := List.mem_range.1 hi
    exact hw.edge i (by omega)
  · unfold fin_ at hf
    rw [Bool.not_true, Bool.false_or] at hf
    have hne : o ≠ [] := by rintro rfl; simp at hlen; omega
    have h1 : o.headD 0 ∈ o := by cases o with
      | nil => exact absurd rfl hne
      | cons a t => simp
    have h2 : o.getLastD 0 ∈ o := by
      rw [List.getLastD_eq_getLast?, List.getLast?_eq_some_getLast hne]
      exact List.getLast_mem hne
    unfold edg at hf ⊢
    rw [vg.sym _ _ (hw.lt _ h1) (hw.lt _ h2)]
    exact hf
end
end Go.Proofs.Ytncjfgebolikoaa

/-
  Plain: how many ways there can be; sets that grow with a list.
-/
namespace Go.Proofs.Ytncjfgebolikoaa

section
variable {r : Nat → Nat} {m k v b s : Nat} {may : List Nat → Bool} {l : List Nat}
theorem visU_len_le (h : ∀ l, (visG m may k l).length ≤ b) : (visU m may k l v).length ≤ v * b := by
  induction v with
  | zero => exact Nat.zero_le _
  | succ v ih =>
    cases ho : okG may l v
    · rw [visU_no ho]; exact Nat.le_trans ih (Nat.mul_le_mul_right _ (Nat.le_succ _))
    · rw [visU_yes ho, List.length_append, Nat.succ_mul]; exact Nat.add_le_add ih (h _)
theorem visG_len_le : ∀ (k : Nat) (l : List Nat), (visG m may k l).length ≤ m ^ k
  | 0, l => Nat.le_refl _
  | k + 1, l => by rw [← visU_all, Nat.pow_succ, Nat.mul_comm]; exact visU_len_le (visG_len_le k)
theorem pow7_le (hm : m ≤ 7) (hk : k ≤ 7) : m ^ k ≤ 823543 := Nat.le_trans (Nat.pow_le_pow_left hm k) (Nat.le_trans (Nat.pow_le_pow_right (by omega) hk) (by decide))
theorem cwN_le (hm : m ≤ 7) (hk : k ≤ 7) : cwN r m k l ≤ 823543 := Nat.le_trans (visG_len_le k l) (pow7_le hm hk)
theorem cwU_le (hm : m ≤ 7) (hk : k + 1 ≤ 7) (hv : v ≤ m) : cwU r m k l v ≤ 823543 := by
  refine Nat.le_trans (visU_len_le (visG_len_le k)) (Nat.le_trans (Nat.mul_le_mul_right _ hv) ?_)
  rw [Nat.mul_comm, ← Nat.pow_succ]
  exact pow7_le hm hk
/-- The set of a list's vertices. -/
structure US (m : Nat) (l : List Nat) (s : Nat) : Prop where
  lt : s < 2 ^ m
  bit : ∀ v, s.testBit v = decide (v ∈ l)
theorem US.snoc (h : US m l s) (hv : v < m) (hn : v ∉ l) : US m (l ++ [v]) (s + 2 ^ v) := by
  have e : s + 2 ^ v = s ||| 2 ^ v := or_of_add (by rw [h.bit, decide_eq_false hn])
  rw [e]
  refine ⟨Nat.or_lt_two_pow h.lt (Nat.pow_lt_pow_right (by omega) hv), fun u => ?_⟩
  rw [Nat.testBit_or, Nat.testBit_two_pow, h.bit]
  by_cases h1 : u ∈ l
  · simp [h1]
  · by_cases h2 : v = u
    · simp [h2]
    · have h3 : ¬ u = v := fun e => h2 e.symm
      simp [h1, h2, h3]
theorem US.one (hv : v < m) : US m [v] (2 ^ v) := by
  refine ⟨Nat.pow_lt_pow_right (by omega) hv, fun u => ?_⟩
  rw [Nat.testBit_two_pow]
  by_cases h2 : v = u
  · simp [h2]
  · have h3 : ¬ u = v := fun e => h2 e.symm
    simp [h2, h3]
theorem US.full (h : US m l s) (hn : l.Nodup) (hlt : ∀ v ∈ l, v < m) : s = 2 ^ m - 1 ↔ l.length = m := by
  have h1 := nodup_len hn hlt
  constructor
  · intro e
    have h2 := (List.nodup_range (n := m)).length_le_of_subset (l₂ := l) fun v hv => by
      have h3 := h.bit v
      rw [e, Nat.testBit_two_pow_sub_one, decide_eq_true (List.mem_range.1 hv)] at h3
      exact of_decide_eq_true h3.symm
    rw [List.length_range] at h2
    omega
  · intro e
    refine Nat.eq_of_testBit_eq fun v => ?_
    rw [h.bit, Nat.testBit_two_pow_sub_one, decide_eq_decide]
    refine ⟨hlt v, fun hv => Classical.byContradiction fun hm => ?_⟩
    have := nodup_len (l := v :: l) (m := m) (List.nodup_cons.2 ⟨hm, hn⟩) fun u hu => by
      rcases List.mem_cons.1 hu with rfl | hu
      · exact hv
      · exact hlt u hu
    rw [List.length_cons] at this
    omega
/-- The number of ways, as the program counts them. -/
noncomputable def chI (sz : Int) (m : Nat) (x : Nat → Int) : Int := if okB sz m x = true then ((cwU (rw_ x) m (m - 1) [] m : Nat) : Int) else 0
theorem chI_no {sz : Int} {x : Nat → Int} (h : okB sz m x = false) : chI sz m x = 0 := by unfold chI; rw [h]; rfl
theorem chI_yes {sz : Int} {x : Nat → Int} (h : okB sz m x = true) : chI sz m x = ((cwU (rw_ x) m (m - 1) [] m : Nat) : Int) := by unfold chI; rw [if_pos h]
theorem cw_all (hm : 1 ≤ m) : cwU r m (m - 1) [] m = (wayL r m).length := by
  obtain ⟨k, rfl⟩ : ∃ k, m = k + 1 := ⟨m - 1, by omega⟩
  rfl
/-- The set of the cutting vertices, as a number. -/
noncomputable def cvI (sz : Int) (m : Nat) (x : Nat → Int) : Int := if okB sz m x = true then ((cvN (rw_ x) m : Nat) : Int) else 0
theorem cvI_no {sz : Int} {x : Nat → Int} (h : okB sz m x = false) : cvI sz m x = 0 := by unfold cvI; rw [h]; rfl
theorem cvI_yes {sz : Int} {x : Nat → Int} (h : okB sz m x = true) : cvI sz m x = ((cvN (rw_ x) m : Nat) : Int) := by unfold cvI; rw [if_pos h]
end
end Go.Proofs.Ytncjfgebolikoaa
