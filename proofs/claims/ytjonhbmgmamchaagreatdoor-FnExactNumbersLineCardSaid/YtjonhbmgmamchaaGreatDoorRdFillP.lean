/-
  Plain: the filling of a graph in an order.
-/
import Derived.Test.YtjonhbmgmamchaaGreatDoorRdLater
import Derived.Test.YtjonhbmgmamchaaGreatDoorRdGB
namespace Go.Proofs.YtjonhbmgmamchaaGreatDoor
open Go.RowKit

/-- An edge more. -/
def orP (r : Nat → Nat) (v u : Nat) : Nat → Nat := fun i => if i = v then r v ||| 2 ^ u else if i = u then r u ||| 2 ^ v else r i
def foldP (r : Nat → Nat) (ps : List (Nat × Nat)) : Nat → Nat := ps.foldl (fun r p => orP r p.1 p.2) r
theorem orP_bit {r : Nat → Nat} {v u i j : Nat} (h : v ≠ u) : (orP r v u i).testBit j = ((r i).testBit j || decide ((v = i ∧ u = j) ∨ (u = i ∧ v = j))) := by
  unfold orP
  by_cases h1 : i = v
  · subst h1
    rw [if_pos rfl, Nat.testBit_or, Nat.testBit_two_pow]
    congr 1
    rw [decide_eq_decide]
    constructor
    · intro e; exact .inl ⟨rfl, e⟩
    · rintro (⟨_, e⟩ | ⟨e, _⟩)
      · exact e
      · exact absurd e.symm h
  · rw [if_neg h1]
    by_cases h2 : i = u
    · subst h2
      rw [if_pos rfl, Nat.testBit_or, Nat.testBit_two_pow]
      congr 1
      rw [decide_eq_decide]
      constructor
      · intro e; exact .inr ⟨rfl, e⟩
      · rintro (⟨e, _⟩ | ⟨_, e⟩)
        · exact absurd e h
        · exact e
    · rw [if_neg h2, decide_eq_false, Bool.or_false]
      rintro (⟨e, _⟩ | ⟨e, _⟩)
      · exact h1 e.symm
      · exact h2 e.symm
theorem VG.orP {m : Nat} {r : Nat → Nat} (vg : VG m r) {v u : Nat} (hv : v < m) (hu : u < m) (hne : v ≠ u) : VG m (orP r v u) := by
  refine ⟨vg.n1, vg.n7, fun i hi => ?_, fun i hi => ?_, fun i j hi hj => ?_⟩
  · unfold Go.Proofs.YtjonhbmgmamchaaGreatDoor.orP
    split
    · exact Nat.or_lt_two_pow (vg.lt _ hv) (Nat.pow_lt_pow_right (by omega) hu)
    · split
      · exact Nat.or_lt_two_pow (vg.lt _ hu) (Nat.pow_lt_pow_right (by omega) hv)
      · exact vg.lt _ hi
  · rw [orP_bit hne, vg.irr i hi, Bool.false_or]
    apply decide_eq_false
    rintro (⟨rfl, e⟩ | ⟨rfl, e⟩)
    · exact hne e.symm
    · exact hne e
  · rw [orP_bit hne, orP_bit hne, vg.sym i j hi hj]
    congr 1
    rw [decide_eq_decide]
    constructor
    · rintro (⟨a, b⟩ | ⟨a, b⟩)
      · exact .inr ⟨b, a⟩
      · exact .inl ⟨b, a⟩
    · rintro (⟨a, b⟩ | ⟨a, b⟩)
      · exact .inr ⟨b, a⟩
      · exact .inl ⟨b, a⟩
theorem foldP_one (r : Nat → Nat) (ps : List (Nat × Nat)) (v u : Nat) : foldP r (ps ++ [(v, u)]) = orP (foldP r ps) v u := by unfold foldP; rw [List.foldl_append]; rfl
theorem foldP_bit {i j : Nat} : ∀ (ps : List (Nat × Nat)) (r : Nat → Nat), (∀ p ∈ ps, p.1 ≠ p.2) → (foldP r ps i).testBit j = ((r i).testBit j || decide ((i, j) ∈ ps ∨ (j, i) ∈ ps)) := by
  intro ps
  induction ps with
  | nil => intro r _; simp [foldP]
  | cons p ps ih =>
    intro r h
    obtain ⟨v, u⟩ := p
    have e := ih (Go.Proofs.YtjonhbmgmamchaaGreatDoor.orP r v u) (fun q hq => h q (List.mem_cons_of_mem _ hq))
    have e0 : foldP r ((v, u) :: ps) = foldP (Go.Proofs.YtjonhbmgmamchaaGreatDoor.orP r v u) ps := rfl
    rw [e0, e, orP_bit (h (v, u) (List.mem_cons_self)), Bool.or_assoc]
    congr 1
    rw [← Bool.decide_or, decide_eq_decide, List.mem_cons, List.mem_cons]
    simp only [Prod.mk.injEq]
    constructor
    · rintro ((⟨a, b⟩ | ⟨a, b⟩) | (a | a))
      · exact .inl (.inl ⟨a.symm, b.symm⟩)
      · exact .inr (.inl ⟨b.symm, a.symm⟩)
      · exact .inl (.inr a)
      · exact .inr (.inr a)
    · rintro ((⟨a, b⟩ | a) | (⟨a, b⟩ | a))
      · exact .inl (.inl ⟨a.symm, b.symm⟩)
      · exact .inr (.inl a)
      · exact .inl (.inr ⟨b.symm, a.symm⟩)
      · exact .inr (.inr a)
theorem VG.foldP {m : Nat} : ∀ (ps : List (Nat × Nat)) {r : Nat → Nat}, VG m r → (∀ p ∈ ps, p.1 < m ∧ p.2 < m ∧ p.1 ≠ p.2) → VG m (foldP r ps) := by
  intro ps
  induction ps with
  | nil => intro r vg _; exact vg
  | cons p ps ih =>
    intro r vg h
    have h0 := h p (List.mem_cons_self)
    exact ih (vg.orP h0.1 h0.2.1 h0.2.2) (fun q hq => h q (List.mem_cons_of_mem _ hq))
/-- The pairs of a list, in the order of two loops. -/
def psR (L : List Nat) (a b : Nat) : List (Nat × Nat) := (List.range b).map fun j => (L.getD a 0, L.getD j 0)
def psN (L : List Nat) (a b : Nat) : List (Nat × Nat) := ((List.range a).flatMap fun i => psR L i i) ++ psR L a b
theorem mem_psN {L : List Nat} {a b : Nat} {p : Nat × Nat} : p ∈ psN L a b ↔ ∃ i j, ((i < a ∧ j < i) ∨ (i = a ∧ j < b)) ∧ p = (L.getD i 0, L.getD j 0) := by
  unfold psN psR
  simp only [List.mem_append, List.mem_flatMap, List.mem_map, List.mem_range]
  constructor
  · rintro (⟨i, hi, j, hj, e⟩ | ⟨j, hj, e⟩)
    · exact ⟨i, j, .inl ⟨hi, hj⟩, e.symm⟩
    · exact ⟨a, j, .inr ⟨rfl, hj⟩, e.symm⟩
  · rintro ⟨i, j, (⟨hi, hj⟩ | ⟨rfl, hj⟩), e⟩
    · exact .inl ⟨i, hi, j, hj, e.symm⟩
    · exact .inr ⟨j, hj, e.symm⟩
theorem listN_nodup (s : Nat) : (listN s).Nodup := List.Pairwise.filter _ List.nodup_range
theorem listN_getD {s j : Nat} (h : j < (listN s).length) : (listN s).getD j 0 = (listN s)[j] := by simp [List.getD, h]
theorem getD_ne {s i j : Nat} (hi : i < (listN s).length) (hj : j < (listN s).length) (h : i ≠ j) : (listN s).getD i 0 ≠ (listN s).getD j 0 := by
  rw [listN_getD hi, listN_getD hj]
  intro e
  exact h ((List.getElem_inj (listN_nodup s)).1 e)
theorem listN_lt {s m j : Nat} (hs : s < 2 ^ m) (hj : j < (listN s).length) : (listN s).getD j 0 < m := by
  rw [listN_getD hj]
  exact bit_lt hs (listN_at hj).2
theorem psN_in {s m a b : Nat} (hs : s < 2 ^ m) (h : a < (listN s).length ∧ b ≤ a ∨ a ≤ (listN s).length ∧ b = 0) : ∀ p ∈ psN (listN s) a b, p.1 < m ∧ p.2 < m ∧ p.1 ≠ p.2 := by
  intro p hp
  obtain ⟨i, j, hij, rfl⟩ := mem_psN.1 hp
  exact ⟨listN_lt hs (by omega), listN_lt hs (by omega), getD_ne (by omega) (by omega) (by omega)⟩
/-- A set of vertices is made a clique. -/
def fillN (r : Nat → Nat) (s : Nat) : Nat → Nat := fun i => if i ∈ listN s then r i ||| (s ^^^ 2 ^ i) else r i
theorem fold_fill (r : Nat → Nat) {s m : Nat} (hs : s < 2 ^ m) (hm : m ≤ 7) : foldP r (psN (listN s) (listN s).length 0) = fillN r s := by
  funext i
  apply Nat.eq_of_testBit_eq
  intro j
  have hlt7 : ∀ {v : Nat}, s.testBit v = true → v ∈ listN s := fun {v} hb => mem_listN.2 ⟨by have := bit_lt hs hb; omega, hb⟩
  rw [foldP_bit _ _ (fun p hp => (psN_in hs (.inr ⟨Nat.le_refl _, rfl⟩) p hp).2.2)]
  have hmem : ((i, j) ∈ psN (listN s) (listN s).length 0 ∨ (j, i) ∈ psN (listN s) (listN s).length 0) ↔ (i ∈ listN s ∧ j ∈ listN s ∧ i ≠ j) := by
    constructor
    · rintro (h | h)
      · obtain ⟨a, b, hab, e⟩ := mem_psN.1 h
        simp only [Prod.mk.injEq] at e
        obtain ⟨rfl, rfl⟩ := e
        have ha : a < (listN s).length := by omega
        have hb : b < (listN s).length := by omega
        refine ⟨?_, ?_, getD_ne ha hb (by omega)⟩
        · rw [listN_getD ha]; exact List.getElem_mem _
        · rw [listN_getD hb]; exact List.getElem_mem _
      · obtain ⟨a, b, hab, e⟩ := mem_psN.1 h
        simp only [Prod.mk.injEq] at e
        obtain ⟨rfl, rfl⟩ := e
        have ha : a < (listN s).length := by omega
        have hb : b < (listN s).length := by omega
        refine ⟨?_, ?_, getD_ne hb ha (by omega)⟩
        · rw [listN_getD hb]; exact List.getElem_mem _
        · rw [listN_getD ha]; exact List.getElem_mem _
    · rintro ⟨hi, hj, hne⟩
      obtain ⟨a, ha, rfl⟩ := List.getElem_of_mem hi
      obtain ⟨b, hb, rfl⟩ := List.getElem_of_mem hj
      have hab : a ≠ b := by rintro rfl; exact hne rfl
      by_cases hlt : b < a
      · exact .inl (mem_psN.2 ⟨a, b, .inl ⟨ha, hlt⟩, by rw [listN_getD ha, listN_getD hb]⟩)
      · exact .inr (mem_psN.2 ⟨b, a, .inl ⟨hb, by omega⟩, by rw [listN_getD ha, listN_getD hb]⟩)
  rw [decide_eq_decide.2 hmem]
  unfold fillN
  by_cases hi : i ∈ listN s
  · rw [if_pos hi, Nat.testBit_or, Nat.testBit_xor, Nat.testBit_two_pow]
    congr 1
    have hib := (mem_listN.1 hi).2
    by_cases hij : i = j
    · subst hij
      rw [hib]; simp
    · rw [decide_eq_false hij, Bool.xor_false]
      cases hb : s.testBit j
      · apply decide_eq_false
        rintro ⟨_, h2, _⟩
        have := (mem_listN.1 h2).2
        rw [hb] at this; cases this
      · exact decide_eq_true ⟨hi, hlt7 hb, hij⟩
  · rw [if_neg hi, decide_eq_false (fun h => hi h.1), Bool.or_false]
theorem VG.fillN {m : Nat} {r : Nat → Nat} (vg : VG m r) {s : Nat} (hs : s < 2 ^ m) : VG m (fillN r s) := by
  rw [← fold_fill r hs vg.n7]
  exact vg.foldP _ (psN_in hs (.inr ⟨Nat.le_refl _, rfl⟩))
/-- The same, underway in the program's loop. -/
def filT (r : Nat → Nat) (s t : Nat) : Nat → Nat := fun i => if i ∈ (listN s).take t then r i ||| (s ^^^ 2 ^ i) else r i
theorem filT_zero (r : Nat → Nat) (s : Nat) : filT r s 0 = r := by funext i; simp [filT]
theorem filT_all (r : Nat → Nat) (s : Nat) : filT r s (listN s).length = fillN r s := by funext i; simp [filT, fillN]
theorem filT_at {r : Nat → Nat} {s t : Nat} (h : t < (listN s).length) : filT r s t ((listN s).getD t 0) = r ((listN s).getD t 0) := by
  unfold filT
  rw [if_neg]
  intro hm
  rw [List.mem_take_iff_getElem] at hm
  obtain ⟨i, hi, e⟩ := hm
  rw [listN_getD h] at e
  have := (List.getElem_inj (listN_nodup s)).1 e
  omega
theorem filT_step {r : Nat → Nat} {s t : Nat} (h : t < (listN s).length) (j : Nat) : filT r s (t + 1) j = if j = (listN s).getD t 0 then filT r s t ((listN s).getD t 0) ||| (s ^^^ 2 ^ ((listN s).getD t 0)) else filT r s t j := by
  rw [filT_at h]
  have e : (listN s).take (t + 1) = (listN s).take t ++ [(listN s).getD t 0] := by rw [listN_getD h]; exact List.take_succ_eq_append_getElem h
  unfold filT
  rw [e]
  by_cases hj : j = (listN s).getD t 0
  · rw [if_pos hj, hj, if_pos (by simp)]
  · rw [if_neg hj]
    simp only [List.mem_append, List.mem_singleton, hj, or_false]
theorem fil_step_val {s w : Nat} (h : s.testBit w = true) : s ^^^ (s &&& 2 ^ w) = s ^^^ 2 ^ w := by
  congr 1
  apply Nat.eq_of_testBit_eq
  intro i
  rw [Nat.testBit_and, Nat.testBit_two_pow]
  by_cases hi : w = i
  · subst hi; simp [h]
  · simp [hi]
/-- The graph that is filled up to a place of the order. -/
def fl (r : Nat → Nat) (l : List Int) : Nat → Nat → Nat
  | 0 => r
  | k + 1 => fillN (fl r l k) (ltN (fl r l k) l (l.getD k 0))
theorem ltN_lt {m : Nat} {r : Nat → Nat} {l : List Int} {v : Int} (vg : VG m r) (h0 : 0 ≤ v) (h1 : v < m) : ltN r l v < 2 ^ m := Nat.lt_of_le_of_lt Nat.and_le_left (vg.lt _ (by omega))
theorem VG.fl {m : Nat} {r : Nat → Nat} {l : List Int} (vg : VG m r) (hV : VZ m l) : ∀ k, k ≤ l.length → VG m (fl r l k)
  | 0, _ => vg
  | k + 1, hk => by
    have ih := VG.fl vg hV k (by omega)
    have := hV.2 _ (getD_mem (l := l) (k := k) (by omega))
    exact ih.fillN (ltN_lt ih this.1 this.2)
theorem orB_yes {m : Nat} {x : Nat → Int} {l : List Int} (h : okB (m : Int) m x = true) (hV : VZ m l) (hl : l.length = m) : orB (m : Int) m x l = true := by
  unfold orB vrB
  rw [h, vzB_iff.2 hV, decide_eq_true hl]; rfl
/-- The edges of the filled graph that are not in the graph. -/
noncomputable def fofL (sz : Int) (m : Nat) (x : Nat → Int) (l : List Int) : List (List Int) := if orB sz m x l = true then (edAll (fun v => ((fl (rw_ x) l l.length v : Nat) : Int)) m).filter (pOpt x) else []
theorem fofL_no {sz : Int} {m : Nat} {x : Nat → Int} {l : List Int} (h : orB sz m x l = false) : fofL sz m x l = [] := by unfold fofL; rw [h]; rfl
theorem fofL_yes {m : Nat} {x : Nat → Int} {l : List Int} (h : orB (m : Int) m x l = true) : (edgesL (m : Int) m (fun v => ((fl (rw_ x) l l.length v : Nat) : Int))).filter (pOpt x) = fofL (m : Int) m x l := by
  obtain ⟨ho, hV, _⟩ := orB_parts h
  have vg := (okB_vg ho).1.fl hV l.length (Nat.le_refl _)
  unfold fofL edgesL
  rw [if_pos h, if_pos (okB_yes ⟨_, rfl, vg, fun _ _ => rfl⟩)]
end Go.Proofs.YtjonhbmgmamchaaGreatDoor
