/-
-/
import Derived.Test.YtfabbohijhjpcaaGreatDoorRcGA
import Derived.Test.YtfabbohijhjpcaaGreatDoorRcGB
import Derived.Test.YtfabbohijhjpcaaGreatDoorRcFirst
namespace Go.Proofs.YtfabbohijhjpcaaGreatDoor
section
variable {r : Nat → Nat} {m a b v k : Nat}
def fv1 (r : Nat → Nat) (m a b v : Nat) : List (Nat × Nat) := if v = a then ((List.range m).filter fun c => (r a).testBit c && (!(r b).testBit c && !decide (c = b))).map fun c => (a, c) else if ((r b).testBit v && !(r a).testBit v) = true then [(v, b)] else []
def fnT (r : Nat → Nat) (m a b k : Nat) : List (Nat × Nat) := (List.range k).flatMap (fv1 r m a b)
def fnL (r : Nat → Nat) (m a b : Nat) : List (Nat × Nat) := fnT r m a b m
theorem fnT_succ : fnT r m a b (k + 1) = fnT r m a b k ++ fv1 r m a b k := by unfold fnT; rw [List.range_succ, List.flatMap_append]; simp
theorem fv1_at : fv1 r m a b a = ((List.range m).filter fun c => (r a).testBit c && (!(r b).testBit c && !decide (c = b))).map fun c => (a, c) := by unfold fv1; rw [if_pos rfl]
theorem fv1_yes (h : v ≠ a) (hb : ((r b).testBit v && !(r a).testBit v) = true) : fv1 r m a b v = [(v, b)] := by unfold fv1; rw [if_neg h, if_pos hb]
theorem fv1_no (h : v ≠ a) (hb : ((r b).testBit v && !(r a).testBit v) = false) : fv1 r m a b v = [] := by unfold fv1; rw [if_neg h, hb]; rfl
theorem listN_filter {s : Nat} (hs : s < 2 ^ m) (hm : m ≤ 7) : listN s = (List.range m).filter fun c => s.testBit c := by
 obtain ⟨d, hd⟩ : ∃ d, 7 = m + d := ⟨7 - m, by omega⟩
 unfold listN listK
 rw [hd, List.range_add, List.filter_append]
 have : ((List.range d).map (m + ·)).filter (fun c => s.testBit c) = [] := by
  rw [List.filter_eq_nil_iff]
  intro c hc
  obtain ⟨e, _, rfl⟩ := List.mem_map.1 hc
  intro hb
  have := bit_lt hs hb
  omega
 rw [this, List.append_nil]
def fq (r : Nat → Nat) (a b v w : Nat) : Bool := (r v).testBit w && (decide (v = a) && !decide (w = b) && !(r w).testBit b || decide (w = b) && !decide (v = a) && !(r v).testBit a)
def fqK (r : Nat → Nat) (a b v k : Nat) : List (Nat × Nat) := ((List.range k).filter (fq r a b v)).map fun c => (v, c)
theorem fqK_succ : fqK r a b v (k + 1) = fqK r a b v k ++ (if fq r a b v k = true then [(v, k)] else []) := by
 unfold fqK; rw [List.range_succ, List.filter_append, List.map_append]
 congr 1
 by_cases h : fq r a b v k = true
 ·simp [h]
 ·simp [h]
theorem filter_one {n b : Nat} (p : Bool) (hb : b < n) : (List.range n).filter (fun w => p && decide (w = b)) = if p = true then [b] else [] := by
 cases p
 ·simp
 ·simp only [Bool.true_and, if_pos]
  induction n with
  | zero => omega
  | succ n ih =>
    rw [List.range_succ, List.filter_append]
    by_cases h : b = n
    ·subst h
     have : (List.range b).filter (fun w => decide (w = b)) = [] := by
      rw [List.filter_eq_nil_iff]
      intro c hc h2
      have h3 := List.mem_range.1 hc
      have h4 := of_decide_eq_true h2
      omega
     rw [this]; simp
    ·rw [ih (by omega)]
     have : ¬ n = b := fun e => h e.symm
     simp [this]
theorem fqK_all (vg : VG m r) (ha : a < m) (hb : b < m) (hv : v < m) : fqK r a b v m = fv1 r m a b v := by
 by_cases h : v = a
 ·subst h
  rw [fv1_at]
  unfold fqK
  congr 1
  apply List.filter_congr
  intro w hw
  have hw := List.mem_range.1 hw
  unfold fq
  rw [vg.sym w b hw hb]
  simp only [decide_true, Bool.true_and, Bool.not_true, Bool.and_false, Bool.false_and, Bool.or_false]
  cases (r v).testBit w <;> cases (r b).testBit w <;> cases decide (w = b) <;> rfl
 ·have e : (List.range m).filter (fq r a b v) = (List.range m).filter (fun w => ((r b).testBit v && !(r a).testBit v) && decide (w = b)) := by
   apply List.filter_congr
   intro w hw
   unfold fq
   rw [decide_eq_false h]
   by_cases hwb : w = b
   ·subst hwb
    rw [vg.sym v w hv hb, vg.sym v a hv ha]
    simp
   ·rw [decide_eq_false hwb]; simp
  unfold fqK
  rw [e, filter_one _ hb]
  cases hq : ((r b).testBit v && !(r a).testBit v)
  ·rw [fv1_no h hq]; rfl
  ·rw [fv1_yes h hq]; rfl
theorem fnL_arcs (vg : VG m r) (ha : a < m) (hb : b < m) : ∀ p ∈ fnL r m a b, p.1 < m ∧ p.2 < m ∧ (r p.1).testBit p.2 = true := by
 intro p hp
 unfold fnL fnT at hp
 obtain ⟨v, hv, h⟩ := List.mem_flatMap.1 hp
 have hv := List.mem_range.1 hv
 by_cases h1 : v = a
 ·subst h1
  rw [fv1_at] at h
  obtain ⟨c, hc, rfl⟩ := List.mem_map.1 h
  obtain ⟨h2, h3⟩ := List.mem_filter.1 hc
  rw [Bool.and_eq_true] at h3
  exact ⟨hv, List.mem_range.1 h2, h3.1⟩
 ·cases hq : ((r b).testBit v && !(r a).testBit v)
  ·rw [fv1_no h1 hq] at h; cases h
  ·rw [fv1_yes h1 hq, List.mem_singleton] at h
   subst h
   rw [Bool.and_eq_true] at hq
   exact ⟨hv, hb, by rw [vg.sym v b hv hb]; exact hq.1⟩
theorem fnT_len (vg : VG m r) (ha : a < m) : ∀ k, (fnT r m a b k).length ≤ 7 * k
 | 0 => by unfold fnT; simp
 | k + 1 => by
   rw [fnT_succ, List.length_append]
   have := fnT_len vg ha k
   have h2 : (fv1 r m a b k).length ≤ 7 := by
    by_cases h1 : k = a
    ·subst h1
     rw [fv1_at, List.length_map]
     have := List.length_filter_le (fun c => (r k).testBit c && (!(r b).testBit c && !decide (c = b))) (List.range m)
     rw [List.length_range] at this
     have := vg.n7
     omega
    ·cases hq : ((r b).testBit k && !(r a).testBit k)
     ·rw [fv1_no h1 hq]; simp
     ·rw [fv1_yes h1 hq]; simp
   omega
end
def adL (o : List (Nat × Nat)) : List (Nat × Nat) → List (Nat × Nat)
 | [] => o
 | p :: l => adL (if o.contains p = true then o else o ++ [p]) l
section
variable {r : Nat → Nat} {m a b k : Nat} {o l : List (Nat × Nat)} {p : Nat × Nat}
theorem adL_snoc : ∀ (l : List (Nat × Nat)) (o : List (Nat × Nat)), adL o (l ++ [p]) = if (adL o l).contains p = true then adL o l else adL o l ++ [p]
 | [], _ => rfl
 | q :: l, o => by rw [List.cons_append]; exact adL_snoc l _
theorem adL_take (h : k < l.length) : adL o (l.take (k + 1)) = if (adL o (l.take k)).contains l[k] = true then adL o (l.take k) else adL o (l.take k) ++ [l[k]] := by
 rw [List.take_succ_eq_append_getElem h, adL_snoc]
theorem adL_nodup : ∀ (l o : List (Nat × Nat)), o.Nodup → (adL o l).Nodup
 | [], _, h => h
 | p :: l, o, h => by
   refine adL_nodup l _ ?_
   split
   ·exact h
   ·rename_i hc
    rw [List.nodup_append]
    refine ⟨h, by simp, fun x hx y hy e => ?_⟩
    rw [List.mem_singleton] at hy
    subst e; subst hy
    exact hc (by simpa using hx)
theorem adL_mem : ∀ (l o : List (Nat × Nat)), ∀ x ∈ adL o l, x ∈ o ∨ x ∈ l
 | [], _, x, h => .inl h
 | p :: l, o, x, h => by
   rcases adL_mem l _ x h with h | h
   ·split at h
    ·exact .inl h
    ·rw [List.mem_append, List.mem_singleton] at h
     exact h.imp id (fun e => by rw [e]; exact List.mem_cons_self)
   ·exact .inr (List.mem_cons_of_mem _ h)
theorem adL_pre : ∀ (l o : List (Nat × Nat)), ∃ t, adL o l = o ++ t
 | [], o => ⟨[], by rw [List.append_nil]; rfl⟩
 | p :: l, o => by
   obtain ⟨t, ht⟩ := adL_pre l (if o.contains p = true then o else o ++ [p])
   show ∃ t, adL (if o.contains p = true then o else o ++ [p]) l = o ++ t
   rw [ht]
   split
   ·exact ⟨t, rfl⟩
   ·exact ⟨[p] ++ t, by rw [List.append_assoc]⟩
theorem adL_len : ∀ (l o : List (Nat × Nat)), (adL o l).length ≤ o.length + l.length
 | [], _ => Nat.le_refl _
 | p :: l, o => by
   have := adL_len l (if o.contains p = true then o else o ++ [p])
   show (adL (if o.contains p = true then o else o ++ [p]) l).length ≤ _
   have h2 : (if o.contains p = true then o else o ++ [p]).length ≤ o.length + 1 := by split <;> simp
   rw [List.length_cons]
   omega
def fcI (r : Nat → Nat) (m a b : Nat) : Nat → List (Nat × Nat)
 | 0 => [(a, b)]
 | k + 1 => match (fcI r m a b k)[k]? with | some p => adL (fcI r m a b k) (fnL r m p.1 p.2) | none => fcI r m a b k
theorem fcI_go (h : (fcI r m a b k)[k]? = some p) : fcI r m a b (k + 1) = adL (fcI r m a b k) (fnL r m p.1 p.2) := by
 show (match (fcI r m a b k)[k]? with | some p => adL (fcI r m a b k) (fnL r m p.1 p.2) | none => fcI r m a b k) = _
 rw [h]
theorem fcI_stay (h : (fcI r m a b k)[k]? = none) : fcI r m a b (k + 1) = fcI r m a b k := by
 show (match (fcI r m a b k)[k]? with | some p => adL (fcI r m a b k) (fnL r m p.1 p.2) | none => fcI r m a b k) = _
 rw [h]
theorem fcI_stop (h : (fcI r m a b k).length ≤ k) : ∀ d, fcI r m a b (k + d) = fcI r m a b k
 | 0 => rfl
 | d + 1 => by
   have ih := fcI_stop h d
   have : (fcI r m a b (k + d))[k + d]? = none := by rw [ih]; exact List.getElem?_eq_none (by omega)
   rw [show k + (d + 1) = k + d + 1 by omega, fcI_stay this, ih]
theorem fcI_arcs (vg : VG m r) (ha : a < m) (hb : b < m) (hab : (r a).testBit b = true) : ∀ k, (fcI r m a b k).Nodup ∧ ∀ p ∈ fcI r m a b k, p.1 < m ∧ p.2 < m ∧ (r p.1).testBit p.2 = true
 | 0 => ⟨by show List.Nodup [(a, b)]; simp, fun p hp => by
   rw [show fcI r m a b 0 = [(a, b)] from rfl, List.mem_singleton] at hp
   subst hp
   exact ⟨ha, hb, hab⟩⟩
 | k + 1 => by
   obtain ⟨h1, h2⟩ := fcI_arcs vg ha hb hab k
   cases hk : (fcI r m a b k)[k]? with
   | none => rw [fcI_stay hk]; exact ⟨h1, h2⟩
   | some p =>
     rw [fcI_go hk]
     have hp := h2 p (List.mem_of_getElem? hk)
     refine ⟨adL_nodup _ _ h1, fun x hx => ?_⟩
     rcases adL_mem _ _ x hx with h | h
     ·exact h2 x h
     ·exact fnL_arcs vg hp.1 hp.2.1 x h
theorem arcs_len (vg : VG m r) {L : List (Nat × Nat)} (hn : L.Nodup) (h : ∀ p ∈ L, p.1 < m ∧ p.2 < m ∧ (r p.1).testBit p.2 = true) : L.length ≤ 64 := by
 have hm := vg.n7
 have h1 : (L.map fun p => p.1 * 8 + p.2).Nodup := by
  unfold List.Nodup at hn ⊢
  rw [List.pairwise_map]
  refine List.Pairwise.imp_of_mem ?_ hn
  intro p q hp hq hne e
  obtain ⟨a1, a2, _⟩ := h p hp
  obtain ⟨b1, b2, _⟩ := h q hq
  exact hne (Prod.ext (by omega) (by omega))
 have h2 := nodup_len h1 (m := 64) (fun x hx => by
  obtain ⟨p, hp, rfl⟩ := List.mem_map.1 hx
  obtain ⟨a1, a2, _⟩ := h p hp
  omega)
 rwa [List.length_map] at h2
def fcO (r : Nat → Nat) (m a b : Nat) : List (Nat × Nat) := fcI r m a b 64
theorem fcI_len (vg : VG m r) (ha : a < m) (hb : b < m) (hab : (r a).testBit b = true) (k : Nat) : (fcI r m a b k).length ≤ 64 := by
 obtain ⟨h1, h2⟩ := fcI_arcs vg ha hb hab k
 exact arcs_len vg h1 h2
theorem fcO_eq (hk : k ≤ 64) (h : (fcI r m a b k).length ≤ k) : fcO r m a b = fcI r m a b k := by
 have := fcI_stop h (64 - k)
 rw [show k + (64 - k) = 64 by omega] at this
 exact this
theorem fcI_pre : ∀ k, ∃ t, fcI r m a b k = (a, b) :: t
 | 0 => ⟨[], rfl⟩
 | k + 1 => by
   obtain ⟨t, ht⟩ := fcI_pre k
   cases hk : (fcI r m a b k)[k]? with
   | none => rw [fcI_stay hk]; exact ⟨t, ht⟩
   | some p =>
     rw [fcI_go hk]
     obtain ⟨t2, h2⟩ := adL_pre (fnL r m p.1 p.2) (fcI r m a b k)
     rw [h2, ht]
     exact ⟨t ++ t2, rfl⟩
end
def edN (r : Nat → Nat) (m : Nat) : List (Nat × Nat) := (pr m).filter fun p => (r p.1).testBit p.2
def rmP (r : Nat → Nat) (p : Nat × Nat) : Nat → Nat := if (r p.1).testBit p.2 = true then addN r p.1 p.2 else r
def rmL (r : Nat → Nat) (L : List (Nat × Nat)) : Nat → Nat := L.foldl rmP r
def oaP (t : Nat → Nat) (p : Nat × Nat) : Nat → Nat := fun j => if j = p.1 then t j ||| 2 ^ p.2 else t j
def orL (t : Nat → Nat) (L : List (Nat × Nat)) : Nat → Nat := L.foldl oaP t
section
variable {r s : Nat → Nat} {m : Nat} {L : List (Nat × Nat)} {p : Nat × Nat}
theorem rmL_snoc : rmL r (L ++ [p]) = rmP (rmL r L) p := by unfold rmL; rw [List.foldl_append]; rfl
theorem orL_snoc {t : Nat → Nat} : orL t (L ++ [p]) = oaP (orL t L) p := by unfold orL; rw [List.foldl_append]; rfl
theorem rmP_vg (vg : VG m r) (h1 : p.1 < m) (h2 : p.2 < m) (h3 : p.1 ≠ p.2) : VG m (rmP r p) := by
 unfold rmP; split
 ·exact vg.add h1 h2 h3
 ·exact vg
theorem rmP_bit (vg : VG m r) (h1 : p.1 < m) (h2 : p.2 < m) {i j : Nat} (h : (rmP r p i).testBit j = true) : (r i).testBit j = true ∧ (i, j) ≠ p := by
 unfold rmP at h
 split at h
 ·rename_i hb
  unfold addN at h
  split at h
  ·rename_i e; subst e
   rw [Nat.testBit_xor, Nat.testBit_two_pow] at h
   by_cases hj : p.2 = j
   ·subst hj; rw [hb] at h; simp at h
   ·rw [decide_eq_false hj, Bool.xor_false] at h
    exact ⟨h, fun e => hj (congrArg Prod.snd e).symm⟩
  ·rename_i hne
   split at h
   ·rename_i e; subst e
    rw [Nat.testBit_xor, Nat.testBit_two_pow] at h
    by_cases hj : p.1 = j
    ·subst hj; rw [vg.sym p.2 p.1 h2 h1, hb] at h; simp at h
    ·rw [decide_eq_false hj, Bool.xor_false] at h
     exact ⟨h, fun e => hne (congrArg Prod.fst e)⟩
   ·exact ⟨h, fun e => hne (congrArg Prod.fst e)⟩
 ·rename_i hb
  exact ⟨h, fun e => hb (by rw [← e]; exact h)⟩
theorem rmL_vg : ∀ (L : List (Nat × Nat)) (r : Nat → Nat), VG m r → (∀ p ∈ L, p.1 < m ∧ p.2 < m ∧ p.1 ≠ p.2) → VG m (rmL r L) ∧ ∀ i j, (rmL r L i).testBit j = true → (r i).testBit j = true ∧ (i, j) ∉ L
 | [], r, vg, _ => ⟨vg, fun i j h => ⟨h, by simp⟩⟩
 | p :: L, r, vg, h => by
   obtain ⟨h1, h2, h3⟩ := h p List.mem_cons_self
   obtain ⟨k1, k2⟩ := rmL_vg L (rmP r p) (rmP_vg vg h1 h2 h3) (fun q hq => h q (List.mem_cons_of_mem _ hq))
   refine ⟨k1, fun i j hb => ?_⟩
   obtain ⟨a1, a2⟩ := k2 i j hb
   obtain ⟨b1, b2⟩ := rmP_bit vg h1 h2 a1
   exact ⟨b1, by rw [List.mem_cons]; exact fun e => e.elim b2 a2⟩
theorem filter_less {α : Type} {P Q : α → Bool} : ∀ {l : List α}, (∀ x ∈ l, P x = true → Q x = true) → (∃ x ∈ l, Q x = true ∧ P x = false) → (l.filter P).length < (l.filter Q).length
 | [], _, ⟨x, hx, _⟩ => by cases hx
 | y :: l, h, ⟨x, hx, hq, hp⟩ => by
   have hle : (l.filter P).length ≤ (l.filter Q).length := by
    have hh : ∀ x ∈ l, P x = true → Q x = true := fun x hx => h x (List.mem_cons_of_mem _ hx)
    clear h hx
    induction l with
    | nil => exact Nat.le_refl _
    | cons z l ih =>
      have i1 := ih (fun x hx => hh x (List.mem_cons_of_mem _ hx))
      have i2 := hh z List.mem_cons_self
      rw [List.filter_cons, List.filter_cons]
      cases h1 : P z
      ·cases h2 : Q z <;> simp [i1] <;> omega
      ·rw [i2 h1]; simp [i1]
   rw [List.filter_cons, List.filter_cons]
   rcases List.mem_cons.1 hx with e | hx
   ·subst e; rw [hq, hp]; simp; omega
   ·have i1 := filter_less (l := l) (fun x hx => h x (List.mem_cons_of_mem _ hx)) ⟨x, hx, hq, hp⟩
    have i2 := h y List.mem_cons_self
    cases h1 : P y
    ·cases h2 : Q y <;> simp [i1] <;> omega
    ·rw [i2 h1]; simp [i1]
theorem mem_edN : p ∈ edN r m ↔ (p.1 < p.2 ∧ p.2 < m) ∧ (r p.1).testBit p.2 = true := by unfold edN; rw [List.mem_filter, mem_pr]
theorem edN_len (hm : m ≤ 7) : (edN r m).length ≤ 21 := Nat.le_trans (List.length_filter_le _ _) (length_pr_le hm)
theorem edN_less (hs : ∀ i j, (s i).testBit j = true → (r i).testBit j = true ∧ (i, j) ∉ L) (hp : p ∈ edN r m) (hL : p ∈ L) : (edN s m).length < (edN r m).length := by
 obtain ⟨h1, h2⟩ := mem_edN.1 hp
 refine filter_less (fun x _ h => (hs _ _ h).1) ⟨p, mem_pr.2 h1, h2, ?_⟩
 cases hb : (s p.1).testBit p.2
 ·rfl
 ·exact absurd hL (hs _ _ hb).2
def otF (m : Nat) : Nat → (Nat → Nat) → (Nat → Nat) → Option (Nat → Nat)
 | 0, _, t => some t
 | f + 1, r, t => match edN r m with
   | [] => some t
   | e :: _ => if (fcO r m e.1 e.2).contains (e.2, e.1) = true then none else otF m f (rmL r (fcO r m e.1 e.2)) (orL t (fcO r m e.1 e.2))
noncomputable def otO (r : Nat → Nat) (m : Nat) : Option (Nat → Nat) := otF m 22 r (fun _ => 0)
theorem otF_nil {f : Nat} {t : Nat → Nat} (h : edN r m = []) : otF m (f + 1) r t = some t := by unfold otF; rw [h]
theorem otF_bad {f : Nat} {t : Nat → Nat} {e : Nat × Nat} {l : List (Nat × Nat)} (h : edN r m = e :: l) (hc : (fcO r m e.1 e.2).contains (e.2, e.1) = true) : otF m (f + 1) r t = none := by
 unfold otF; rw [h]; exact if_pos hc
theorem otF_go {f : Nat} {t : Nat → Nat} {e : Nat × Nat} {l : List (Nat × Nat)} (h : edN r m = e :: l) (hc : (fcO r m e.1 e.2).contains (e.2, e.1) = false) : otF m (f + 1) r t = otF m f (rmL r (fcO r m e.1 e.2)) (orL t (fcO r m e.1 e.2)) := by
 rw [show otF m (f + 1) r t = (match edN r m with
  | [] => some t
  | e :: _ => if (fcO r m e.1 e.2).contains (e.2, e.1) = true then none else otF m f (rmL r (fcO r m e.1 e.2)) (orL t (fcO r m e.1 e.2))) from rfl, h]
 show (if _ then _ else _) = _
 rw [hc]; rfl
def tIn (m : Nat) (r t : Nat → Nat) : Prop := ∀ v, v < m → ∀ u, (t v).testBit u = true → u < m ∧ (r v).testBit u = true
theorem orP_in {t : Nat → Nat} (h : tIn m r t) (h2 : p.2 < m) (hb : (r p.1).testBit p.2 = true) : tIn m r (oaP t p) := by
 intro v hv u hu
 unfold oaP at hu
 split at hu
 ·rename_i e; subst e
  rw [Nat.testBit_or, Nat.testBit_two_pow, Bool.or_eq_true] at hu
  rcases hu with hu | hu
  ·exact h _ hv u hu
  ·have := of_decide_eq_true hu
   subst this
   exact ⟨h2, hb⟩
 ·exact h v hv u hu
theorem orL_in : ∀ (L : List (Nat × Nat)) (t : Nat → Nat), tIn m r t → (∀ p ∈ L, p.2 < m ∧ (r p.1).testBit p.2 = true) → tIn m r (orL t L)
 | [], _, h, _ => h
 | p :: L, t, h, hL => by
   obtain ⟨h2, hb⟩ := hL p List.mem_cons_self
   exact orL_in L (oaP t p) (orP_in h h2 hb) (fun q hq => hL q (List.mem_cons_of_mem _ hq))
theorem tIn.lt {t : Nat → Nat} (h : tIn m r t) {v : Nat} (hv : v < m) : t v < 2 ^ m := by
 refine Nat.lt_pow_two_of_testBit _ fun i hi => ?_
 cases hb : (t v).testBit i
 ·rfl
 ·have := (h v hv i hb).1
  omega
theorem arc_ne (vg : VG m r) {v u : Nat} (hv : v < m) (h : (r v).testBit u = true) : v ≠ u := by
 intro e; subst e; rw [vg.irr v hv] at h; cases h
theorem fcO_arcs (vg : VG m r) {e : Nat × Nat} (he : e ∈ edN r m) : (fcO r m e.1 e.2).Nodup ∧ e ∈ fcO r m e.1 e.2 ∧ ∀ p ∈ fcO r m e.1 e.2, p.1 < m ∧ p.2 < m ∧ (r p.1).testBit p.2 = true := by
 obtain ⟨⟨h1, h2⟩, h3⟩ := mem_edN.1 he
 obtain ⟨k1, k2⟩ := fcI_arcs vg (show e.1 < m by omega) h2 h3 64
 obtain ⟨t, ht⟩ := fcI_pre (r := r) (m := m) (a := e.1) (b := e.2) 64
 exact ⟨k1, by unfold fcO; rw [ht]; exact List.mem_cons_self, k2⟩
theorem otF_in {r0 : Nat → Nat} : ∀ (f : Nat) (r t : Nat → Nat), VG m r → (∀ i j, (r i).testBit j = true → (r0 i).testBit j = true) → tIn m r0 t → ∀ z, otF m f r t = some z → tIn m r0 z
 | 0, r, t, _, _, ht, z, h => by
   have : some t = some z := h
   injection this with e
   rw [← e]; exact ht
 | f + 1, r, t, vg, hr, ht, z, h => by
   cases he : edN r m with
   | nil => rw [otF_nil he] at h; injection h with e; rw [← e]; exact ht
   | cons e l =>
     have hm : e ∈ edN r m := by rw [he]; exact List.mem_cons_self
     obtain ⟨_, k2, k3⟩ := fcO_arcs vg hm
     cases hc : (fcO r m e.1 e.2).contains (e.2, e.1)
     ·rw [otF_go he hc] at h
      obtain ⟨g1, g2⟩ := rmL_vg (fcO r m e.1 e.2) r vg (fun p hp => ⟨(k3 p hp).1, (k3 p hp).2.1, arc_ne vg (k3 p hp).1 (k3 p hp).2.2⟩)
      exact otF_in f _ _ g1 (fun i j hb => hr i j (g2 i j hb).1) (orL_in _ _ ht (fun p hp => ⟨(k3 p hp).2.1, hr _ _ (k3 p hp).2.2⟩)) z h
     ·rw [otF_bad he hc] at h; cases h
theorem otO_in (vg : VG m r) {z : Nat → Nat} (h : otO r m = some z) : tIn m r z :=
 otF_in 22 r _ vg (fun _ _ h => h) (fun v _ u hu => by rw [Nat.zero_testBit] at hu; cases hu) z h
end
end Go.Proofs.YtfabbohijhjpcaaGreatDoor
