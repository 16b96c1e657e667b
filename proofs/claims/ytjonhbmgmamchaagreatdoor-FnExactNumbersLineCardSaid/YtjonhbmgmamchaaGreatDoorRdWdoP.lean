/-
  Plain: a graph into which the edges are flipped that fill it is the filled graph.
-/
import Derived.Test.YtjonhbmgmamchaaGreatDoorRdBndP
import Derived.Test.YtjonhbmgmamchaaGreatDoorRdBndQ
namespace Go.Proofs.YtjonhbmgmamchaaGreatDoor

/-- The pairs that are joined in the second graph, not in the first. -/
def wdE (r s : Nat → Nat) (m : Nat) : List (Nat × Nat) := ((pr m).filter fun p => (s p.1).testBit p.2).filter fun p => !(r p.1).testBit p.2
/-- A graph with the first k of them. -/
def wdR (r s : Nat → Nat) (m k : Nat) : Nat → Nat := foldP r ((wdE r s m).take k)
section
variable {m k v u : Nat} {r s : Nat → Nat} {l : List Int} {x : Nat → Int}
theorem prW_nodup (n : Nat) : (pr n).Nodup := by
  unfold pr List.Nodup
  rw [List.pairwise_flatMap]
  refine ⟨fun v _ => ?_, List.Pairwise.imp ?_ List.pairwise_lt_range⟩
  · unfold prRow
    rw [List.pairwise_map]
    refine List.Pairwise.imp ?_ List.pairwise_lt_range'
    rintro a b hab ⟨⟩
    omega
  · intro a b hab p hp q hq e
    unfold prRow at hp hq
    rw [List.mem_map] at hp hq
    obtain ⟨_, _, rfl⟩ := hp
    obtain ⟨_, _, rfl⟩ := hq
    injection e with e
    omega
theorem mem_wdE {p : Nat × Nat} : p ∈ wdE r s m ↔ p.1 < p.2 ∧ p.2 < m ∧ (s p.1).testBit p.2 = true ∧ (r p.1).testBit p.2 = false := by
  unfold wdE
  rw [List.mem_filter, List.mem_filter, mem_pr]
  constructor
  · rintro ⟨⟨h1, h2⟩, h3⟩
    exact ⟨h1.1, h1.2, h2, by simpa using h3⟩
  · rintro ⟨h1, h2, h3, h4⟩
    exact ⟨⟨⟨h1, h2⟩, h3⟩, by simpa using h4⟩
theorem wdE_nodup : (wdE r s m).Nodup := List.Pairwise.filter _ (List.Pairwise.filter _ (prW_nodup m))
theorem wdE_len (h : m ≤ 7) : (wdE r s m).length ≤ 21 := by
  unfold wdE
  exact Nat.le_trans (List.length_filter_le _ _) (Nat.le_trans (List.length_filter_le _ _) (length_pr_le h))
theorem orP_add (h1 : (r v).testBit u = false) (h2 : (r u).testBit v = false) : addN r v u = orP r v u := by
  funext i
  unfold addN orP
  split
  · rename_i e; rw [e, ← add_pow_bit h1, or_of_add h1]
  · split
    · rename_i e; rw [e, ← add_pow_bit h2, or_of_add h2]
    · rfl
theorem wdR_fit : ∀ p ∈ (wdE r s m).take k, p.1 < m ∧ p.2 < m ∧ p.1 ≠ p.2 := fun p hp => by
  have := mem_wdE.1 (List.mem_of_mem_take hp)
  omega
theorem wdR_vg (vr : VG m r) : VG m (wdR r s m k) := vr.foldP _ wdR_fit
theorem wdR_step (vr : VG m r) (hk : k < (wdE r s m).length) : wdR r s m (k + 1) = addN (wdR r s m k) ((wdE r s m)[k]).1 ((wdE r s m)[k]).2 := by
  obtain ⟨p, hp⟩ : ∃ p, p = (wdE r s m)[k] := ⟨_, rfl⟩
  have hin : p ∈ wdE r s m := by rw [hp]; exact List.getElem_mem _
  obtain ⟨h1, h2, h3, h4⟩ := mem_wdE.1 hin
  have e : (wdE r s m).take (k + 1) = (wdE r s m).take k ++ [p] := by rw [List.take_add_one, List.getElem?_eq_getElem hk, hp]; rfl
  have hnot : p ∉ (wdE r s m).take k := fun hm => by
    have hn := wdE_nodup (r := r) (s := s) (m := m)
    rw [← List.take_append_drop (k + 1) (wdE r s m), e, List.nodup_append, List.nodup_append] at hn
    exact hn.1.2.2 p hm p (by simp) rfl
  have hnot2 : (p.2, p.1) ∉ (wdE r s m).take k := fun hm => by
    have := mem_wdE.1 (List.mem_of_mem_take hm)
    simp only at this
    omega
  rw [← hp]
  unfold wdR
  have hf : ∀ q ∈ (wdE r s m).take k, q.1 ≠ q.2 := fun q hq => (wdR_fit q hq).2.2
  rw [e, foldP_one, orP_add]
  · rw [foldP_bit _ _ hf, h4, Bool.false_or]
    exact decide_eq_false (fun h => h.elim hnot hnot2)
  · rw [foldP_bit _ _ hf, ← vr.sym p.1 p.2 (by omega) h2, h4, Bool.false_or]
    exact decide_eq_false (fun h => h.elim hnot2 hnot)
theorem wdR_all (vr : VG m r) (vs : VG m s) (hsub : ∀ v u, (r v).testBit u = true → (s v).testBit u = true) (hv : v < m) : wdR r s m (wdE r s m).length v = s v := by
  have vg := wdR_vg (r := r) (s := s) (k := (wdE r s m).length) vr
  refine Nat.eq_of_testBit_eq fun u => ?_
  by_cases hu : u < m
  · unfold wdR
    rw [List.take_length, foldP_bit _ _ (fun p hp => by have := mem_wdE.1 hp; omega)]
    cases hr : (r v).testBit u
    · rw [Bool.false_or]
      cases hs : (s v).testBit u
      · apply decide_eq_false
        rintro (h | h)
        · rw [(mem_wdE.1 h).2.2.1] at hs; cases hs
        · have := (mem_wdE.1 h).2.2.1
          rw [vs.sym u v hu hv, hs] at this; cases this
      · apply decide_eq_true
        have hne : v ≠ u := by rintro rfl; rw [vs.irr v hv] at hs; cases hs
        by_cases hlt : v < u
        · exact .inl (mem_wdE.2 ⟨hlt, hu, hs, hr⟩)
        · exact .inr (mem_wdE.2 ⟨by show u < v; omega, hv, by rw [vs.sym u v hu hv]; exact hs, by rw [vr.sym u v hu hv]; exact hr⟩)
    · rw [Bool.true_or, hsub v u hr]
  · have h2 : 2 ^ m ≤ 2 ^ u := Nat.pow_le_pow_right (by omega) (by omega)
    rw [Nat.testBit_lt_two_pow (Nat.lt_of_lt_of_le (vg.lt v hv) h2), Nat.testBit_lt_two_pow (Nat.lt_of_lt_of_le (vs.lt v hv) h2)]
theorem fl_sub (h : (r v).testBit u = true) : ∀ k, (fl r l k v).testBit u = true
  | 0 => h
  | k + 1 => by
    show (fillN (fl r l k) _ v).testBit u = true
    unfold fillN
    split
    · rw [Nat.testBit_or, fl_sub h k]; rfl
    · exact fl_sub h k
/-- The filled graph, in full. -/
theorem wd_fl (vr : VG m r) (hV : VZ m l) (hl : l.length = m) (hv : v < m) : wdR r (fl r l m) m (wdE r (fl r l m) m).length v = fl r l m v :=
  wdR_all vr (vr.fl hV m (by omega)) (fun _ _ h => fl_sub h m) hv
theorem fof_wd (h : okB (m : Int) m x = true) (hV : VZ m l) (hl : l.length = m) : fofL (m : Int) m x l = arI (wdE (rw_ x) (fl (rw_ x) l m) m) := by
  unfold fofL
  rw [if_pos (orB_yes h hV hl), hl]
  unfold edAll wdE arI
  rw [List.filter_map]
  rfl
end
end Go.Proofs.YtjonhbmgmamchaaGreatDoor
