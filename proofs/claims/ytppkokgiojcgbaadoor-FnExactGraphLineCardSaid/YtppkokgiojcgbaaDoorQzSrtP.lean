/-
  Plain: a list of numbers in ascending order, by insertion and by merging.
-/
import Derived.Test.YtppkokgiojcgbaaDoorQzV
namespace Go.Proofs.YtppkokgiojcgbaaDoor

/-- The place of x, looked for from the k-th on downwards. -/
def insF (L : List Nat) (x : Nat) : Nat → Nat
  | 0 => 0
  | k + 1 => if x < L.getD k 0 then insF L x k else k + 1
def insL (L : List Nat) (x : Nat) : List Nat := L.take (insF L x L.length) ++ [x] ++ L.drop (insF L x L.length)
/-- The first k elements, in order. -/
def srtF (L : List Nat) : Nat → List Nat
  | 0 => []
  | k + 1 => insL (srtF L k) (L.getD k 0)
theorem insF_le (L : List Nat) (x : Nat) : ∀ k, insF L x k ≤ k
  | 0 => Nat.le_refl _
  | k + 1 => by
    show (if x < L.getD k 0 then insF L x k else k + 1) ≤ k + 1
    split
    · exact Nat.le_succ_of_le (insF_le L x k)
    · exact Nat.le_refl _
theorem insF_more {L : List Nat} {x k : Nat} (h : x < L.getD k 0) : insF L x (k + 1) = insF L x k := if_pos h
theorem insF_stop {L : List Nat} {x k : Nat} (h : ¬ x < L.getD k 0) : insF L x (k + 1) = k + 1 := if_neg h
theorem insF_at {L : List Nat} {x : Nat} : ∀ k, insF L x k = 0 ∨ L.getD (insF L x k - 1) 0 ≤ x
  | 0 => .inl rfl
  | k + 1 => by
    by_cases h : x < L.getD k 0
    · rw [insF_more h]; exact insF_at k
    · rw [insF_stop h]; right; simpa using h
theorem insF_above {L : List Nat} {x : Nat} : ∀ k j, insF L x k ≤ j → j < k → x < L.getD j 0
  | 0, _, _, h => absurd h (by omega)
  | k + 1, j, h1, h2 => by
    by_cases h : x < L.getD k 0
    · rw [insF_more h] at h1
      by_cases e : j = k
      · subst e; exact h
      · exact insF_above k j h1 (by omega)
    · rw [insF_stop h] at h1; omega
theorem insL_len (L : List Nat) (x : Nat) : (insL L x).length = L.length + 1 := by
  have := insF_le L x L.length
  unfold insL
  simp; omega
theorem insL_perm (L : List Nat) (x : Nat) : (insL L x).Perm (x :: L) := by
  unfold insL
  have h : L.take (insF L x L.length) ++ L.drop (insF L x L.length) = L := List.take_append_drop _ _
  conv => rhs; rw [← h]
  rw [List.append_assoc]
  exact List.perm_middle
theorem getD_mem2 {L : List Nat} {j : Nat} (h : j < L.length) : L.getD j 0 = L[j] := by simp [List.getD, h]
theorem insL_sorted {L : List Nat} {x : Nat} (h : L.Pairwise (· ≤ ·)) : (insL L x).Pairwise (· ≤ ·) := by
  have hle := insF_le L x L.length
  obtain ⟨k, hk⟩ : ∃ k, k = insF L x L.length := ⟨_, rfl⟩
  have h1 : ∀ a ∈ L.take k, a ≤ x := by
    intro a ha
    obtain ⟨i, hi, e⟩ := List.mem_iff_getElem.1 ha
    have hi2 : i < k ∧ i < L.length := by rw [List.length_take] at hi; omega
    rw [List.getElem_take] at e
    rcases insF_at (L := L) (x := x) L.length with h0 | h0
    · omega
    · rw [← hk] at h0
      have hkl : k - 1 < L.length := by omega
      rw [getD_mem2 hkl] at h0
      rw [← e]
      by_cases e2 : i = k - 1
      · subst e2; exact h0
      · exact Nat.le_trans (List.pairwise_iff_getElem.1 h i (k - 1) hi2.2 hkl (by omega)) h0
  have h2 : ∀ b ∈ L.drop k, x ≤ b := by
    intro b hb
    obtain ⟨i, hi, e⟩ := List.mem_iff_getElem.1 hb
    rw [List.length_drop] at hi
    rw [List.getElem_drop] at e
    have := insF_above (L := L) (x := x) L.length (k + i) (by omega) (by omega)
    rw [getD_mem2 (by omega)] at this
    rw [← e]; omega
  unfold insL
  rw [← hk, List.append_assoc, List.pairwise_append]
  refine ⟨h.sublist (List.take_sublist _ _), ?_, fun a ha b hb => ?_⟩
  · rw [List.singleton_append, List.pairwise_cons]
    exact ⟨h2, h.sublist (List.drop_sublist _ _)⟩
  · rcases List.mem_append.1 hb with hb | hb
    · rw [List.mem_singleton] at hb; rw [hb]; exact h1 a ha
    · exact Nat.le_trans (h1 a ha) (h2 b hb)
theorem srtF_sorted (L : List Nat) : ∀ k, (srtF L k).Pairwise (· ≤ ·)
  | 0 => List.Pairwise.nil
  | k + 1 => insL_sorted (srtF_sorted L k)
theorem srtF_len (L : List Nat) : ∀ k, (srtF L k).length = k
  | 0 => rfl
  | k + 1 => by
    show (insL (srtF L k) (L.getD k 0)).length = k + 1
    rw [insL_len, srtF_len L k]
theorem srtF_perm (L : List Nat) : ∀ k, k ≤ L.length → (srtF L k).Perm (L.take k)
  | 0, _ => by simp [srtF]
  | k + 1, h => by
    have h1 := srtF_perm L k (by omega)
    have h2 : L.take (k + 1) = L.take k ++ [L.getD k 0] := by
      rw [List.take_add_one, List.getElem?_eq_getElem (by omega), getD_mem2 (by omega)]; rfl
    rw [h2]
    exact (insL_perm _ _).trans ((h1.cons _).trans (List.perm_append_singleton _ _).symm)
theorem sorted_same : ∀ {a b : List Nat}, a.Pairwise (· ≤ ·) → b.Pairwise (· ≤ ·) → a.Perm b → a = b
  | [], b, _, _, h => by rw [List.nil_perm] at h; exact h.symm
  | x :: a, [], _, _, h => by rw [List.perm_nil] at h; cases h
  | x :: a, y :: b, ha, hb, h => by
    rw [List.pairwise_cons] at ha hb
    have hxy : x = y := by
      have m1 : y ∈ x :: a := h.symm.subset List.mem_cons_self
      have m2 : x ∈ y :: b := h.subset List.mem_cons_self
      rcases List.mem_cons.1 m1 with e | e
      · exact e.symm
      · rcases List.mem_cons.1 m2 with f | f
        · exact f
        · have := ha.1 y e
          have := hb.1 x f
          omega
    subst hxy
    rw [sorted_same ha.2 hb.2 (List.perm_cons x |>.1 h)]
/-- In order. -/
def srt (L : List Nat) : List Nat := srtF L L.length
theorem srt_len (L : List Nat) : (srt L).length = L.length := srtF_len L _
theorem srt_perm (L : List Nat) : (srt L).Perm L := by
  have := srtF_perm L L.length (Nat.le_refl _)
  rwa [List.take_length] at this
theorem srt_is {L M : List Nat} (h : M.Pairwise (· ≤ ·)) (hp : M.Perm L) : srt L = M := sorted_same (srtF_sorted L _) h ((srt_perm L).trans hp.symm)
theorem srt_merge (L : List Nat) : ((L.map fun n : Nat => (n : Int)).mergeSort fun x y => decide (x ≤ y)) = (srt L).map fun n : Nat => (n : Int) := by
  have hs : ((L.map fun n : Nat => (n : Int)).mergeSort fun x y => decide (x ≤ y)).Pairwise (fun a b => decide (a ≤ b) = true) := List.pairwise_mergeSort (fun a b c h1 h2 => by simp at *; omega) (fun a b => by simp; omega) _
  have hp : ((L.map fun n : Nat => (n : Int)).mergeSort fun x y => decide (x ≤ y)).Perm (L.map fun n : Nat => (n : Int)) := List.mergeSort_perm _ _
  obtain ⟨M, hM⟩ : ∃ M, M = ((L.map fun n : Nat => (n : Int)).mergeSort fun x y => decide (x ≤ y)) := ⟨_, rfl⟩
  rw [← hM] at hs hp ⊢
  have hn : ∀ z ∈ M, 0 ≤ z := fun z hz => by
    obtain ⟨n, _, rfl⟩ := List.mem_map.1 (hp.subset hz)
    omega
  have hb : (M.map Int.toNat).map (fun n : Nat => (n : Int)) = M := by
    rw [List.map_map]
    conv => rhs; rw [← List.map_id M]
    refine List.map_congr_left fun z hz => ?_
    have := hn z hz
    show ((z.toNat : Nat) : Int) = z
    omega
  have hL : srt L = M.map Int.toNat := by
    refine srt_is ?_ ?_
    · rw [List.pairwise_map]
      refine hs.imp ?_
      intro a b hab
      have : a ≤ b := by simpa using hab
      omega
    · have h1 := hp.map Int.toNat
      have h2 : (L.map fun n : Nat => (n : Int)).map Int.toNat = L := by
        rw [List.map_map]
        conv => rhs; rw [← List.map_id L]
        exact List.map_congr_left fun n _ => rfl
      rwa [h2] at h1
  rw [hL, hb]
end Go.Proofs.YtppkokgiojcgbaaDoor
