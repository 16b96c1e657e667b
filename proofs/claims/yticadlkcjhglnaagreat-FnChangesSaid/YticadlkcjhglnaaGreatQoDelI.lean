/-
  Several texts in one.
-/
import Derived.Test.YticadlkcjhglnaaGreatQoCompl
import Derived.Test.YticadlkcjhglnaaGreatQoMinFillI
import Derived.Test.YticadlkcjhglnaaGreatQoBoxG
import Derived.Test.YticadlkcjhglnaaGreatQoSet2S
/-
-/
namespace Go.Proofs.YticadlkcjhglnaaGreat
section
variable {sz : Int} {m : Nat} {x : Nat → Int}
theorem mrK_sub : ∀ (k : Nat) (L : List (List Int)), (mrK sz m x k L).Sublist L
 | 0, _ => List.Sublist.refl _
 | k + 1, L => by
   rw [mrK]
   refine (mrK_sub k _).trans ?_
   split
   ·exact List.eraseIdx_sublist ..
   ·exact List.Sublist.refl _
theorem mrK_fi : ∀ (k : Nat) (L : List (List Int)), fiB sz m x L = true → fiB sz m x (mrK sz m x k L) = true
 | 0, _, h => h
 | k + 1, L, h => by
   rw [mrK]
   refine mrK_fi k _ ?_
   split
   ·assumption
   ·exact h
theorem mrK_stay : ∀ (k : Nat) (L : List (List Int)), k ≤ L.length → (mrK sz m x k L).length = L.length → ∀ i, i < k → fiB sz m x (L.eraseIdx i) = false
 | 0, _, _, _ => fun i hi => absurd hi (by omega)
 | k + 1, L, hk, h => by
   intro i hi
   rw [mrK] at h
   split at h
   ·have h1 := mrK_len (sz := sz) (m := m) (x := x) k (L.eraseIdx k)
    rw [List.length_eraseIdx_of_lt (by omega)] at h1
    omega
   ·rename_i hf
    by_cases e : i = k
    ·subst e; simpa using hf
    ·exact mrK_stay k L (by omega) h i (by omega)
theorem mfL_all : ∀ (n : Nat) (L : List (List Int)), L.length ≤ n → fiB sz m x L = true → (mfL sz m x L).Sublist L ∧ fiB sz m x (mfL sz m x L) = true ∧ ∀ i, i < (mfL sz m x L).length → fiB sz m x ((mfL sz m x L).eraseIdx i) = false := by
 intro n;induction n with
 | zero =>
   intro L h hf;rw [mfL_done (by omega)];exact ⟨List.Sublist.refl _, hf, fun i hi => absurd hi (by omega)⟩
 | succ n ih =>
   intro L h hf;by_cases hl : (mrK sz m x L.length L).length < L.length
   ·rw [mfL_more hl];obtain ⟨h1, h2, h3⟩ := ih (mrK sz m x L.length L) (by omega) (mrK_fi _ _ hf);exact ⟨h1.trans (mrK_sub _ _), h2, h3⟩
   ·rw [mfL_done hl];have := mrK_len (sz := sz) (m := m) (x := x) L.length L;exact ⟨List.Sublist.refl _, hf, mrK_stay _ _ nr_ (by omega)⟩
theorem vz_ci {q : List Nat} (hn : q.Nodup) (hq : ∀ v ∈ q, v < m) : VZ m (ci q) := by
 refine ⟨?_, fun v hv => ?_⟩
 ·unfold ci;exact List.Pairwise.map _ (fun a b hab e => hab (by omega)) hn
 ·unfold ci at hv;obtain ⟨a, ha, rfl⟩ := List.mem_map.1 hv;have := hq a ha;exact ⟨by omega, by omega⟩
theorem ci_len {q : List Nat} : (ci q).length = q.length := by unfold ci; rw [List.length_map]
theorem fof_pairs {l : List Int} (h : okB (m : Int) m x = true) (hV : VZ m l) (hl : l.length = m) : fofL (m : Int) m x l = PrE (swE (rw_ x) (fl (rw_ x) l m) m) := by
 unfold fofL;rw [if_pos (orB_yes h hV hl), hl, swE_list];rfl
theorem fof_cho {l : List Int} (h : okB (m : Int) m x = true) (hV : VZ m l) (hl : l.length = m) : Cho (EM (foldP (rw_ x) (swE (rw_ x) (fl (rw_ x) l m) m)) m) (2 ^ m - 1) := by
 have vg := (okB_vg h).1;have vf := VG.fl vg hV m (by omega);refine (fl_cho vg hV hl).congr fun a b _ _ => ⟨fun h => ⟨h.1, h.2.1, ?_⟩, fun h => ⟨h.1, h.2.1, ?_⟩⟩
 ·rw [foldP_swE vg vf (fun v u _ hb => by have := fl_mono (r := rw_ x) (l := l) (k := 0) (i := v) (j := u) hb m; rwa [Nat.zero_add] at this) h.1 h.2.1]; exact h.2.2
 ·rw [← foldP_swE vg vf (fun v u _ hb => by have := fl_mono (r := rw_ x) (l := l) (k := 0) (i := v) (j := u) hb m; rwa [Nat.zero_add] at this) h.1 h.2.1]; exact h.2.2
theorem prE_erase (qs : List (Nat × Nat)) (i : Nat) : (PrE qs).eraseIdx i = PrE (qs.eraseIdx i) := by
 unfold PrE;rw [List.eraseIdx_eq_take_drop_succ, List.eraseIdx_eq_take_drop_succ, List.map_append, List.map_take, List.map_drop]
theorem prE_len (qs : List (Nat × Nat)) : (PrE qs).length = qs.length := by unfold PrE; rw [List.length_map]
theorem mi_pairs (h : okB (m : Int) m x = true) : ∃ qs, miL (m : Int) m x = PrE qs ∧ EdN (rw_ x) m qs ∧ Cho (EM (foldP (rw_ x) qs) m) (2 ^ m - 1) ∧ ∀ i, i < qs.length → ¬ Cho (EM (foldP (rw_ x) (qs.eraseIdx i)) m) (2 ^ m - 1) := by
 have vg := (okB_vg h).1;have hm := vg.n1;have hlx : lxB (m : Int) m x 0 = true := by unfold lxB; rw [h, decide_eq_true (by omega)]; rfl
 obtain ⟨q, hq⟩ : ∃ q, q = (lxL (m : Int) m x 0).reverse := ⟨_, rfl⟩;have hq2 : q.Nodup ∧ (∀ v ∈ q, v < m) ∧ q.length = m := by
  rw [hq, lxL_yes hlx];have := grN_fine (f := labN (rw_ x)) (m := m) (s := (0 : Int).toNat) (by show 0 < m; omega) (m - 1) (by omega);refine ⟨List.pairwise_reverse.2 (this.1.imp fun h e => h e.symm), fun v hv => this.2 v (List.mem_reverse.1 hv), ?_⟩;rw [List.length_reverse, lexN_len hm]
 have hV := vz_ci hq2.1 hq2.2.1;have hl : (ci q).length = m := by rw [ci_len]; exact hq2.2.2
 have e0 : miL (m : Int) m x = mfL (m : Int) m x (fofL (m : Int) m x (ci q)) := by rw [miL_yes hlx, hq]
 rw [fof_pairs h hV hl] at e0;have hE := swE_new (rw_ x) (fl (rw_ x) (ci q) m) m;obtain ⟨h1, h2, h3⟩ := mfL_all _ _ nr_ ((fiB_cho h hE).2 (fof_cho h hV hl));rw [← e0] at h1 h2 h3;unfold PrE at h1;obtain ⟨qs, hs, e⟩ := List.sublist_map_iff.1 h1;change _ = PrE qs at e;have he := hE.part hs;rw [e] at h2 h3;refine ⟨qs, e, he, (fiB_cho h he).1 h2, fun i hi hc => ?_⟩;have h4 := h3 i (by rw [prE_len]; exact hi);rw [prE_erase, (fiB_cho h (he.part (List.eraseIdx_sublist ..))).2 hc] at h4;cases h4
theorem mem_erase_nd {qs : List (Nat × Nat)} (hn : qs.Nodup) {i : Nat} (hi : i < qs.length) {p : Nat × Nat} : p ∈ qs.eraseIdx i ↔ p ∈ qs ∧ p ≠ qs[i] := by
 rw [List.mem_eraseIdx_iff_getElem];constructor
 ·rintro ⟨j, hj, hne, rfl⟩;exact ⟨List.getElem_mem _, fun e => hne ((List.getElem_inj hn).1 e)⟩
 ·rintro ⟨hp, hne⟩;obtain ⟨j, hj, rfl⟩ := List.getElem_of_mem hp;exact ⟨j, hj, fun e => hne (by subst e; rfl), rfl⟩
theorem mi_none {r : Nat → Nat} {qs : List (Nat × Nat)} (vg : VG m r) (he : EdN r m qs) (h1 : Cho (EM (foldP r qs) m) (2 ^ m - 1)) (h2 : ∀ i, i < qs.length → ¬ Cho (EM (foldP r (qs.eraseIdx i)) m) (2 ^ m - 1)) (hr : Cho (EM r m) (2 ^ m - 1)) : qs = [] := by
 refine Classical.byContradiction fun hq => ?_
 obtain ⟨p0, hp0⟩ := List.exists_mem_of_ne_nil _ hq;have vh := fold_vg vg he;have full : ∀ a, a < m → (2 ^ m - 1).testBit a = true := fun a ha => by rw [Nat.testBit_two_pow_sub_one]; exact decide_eq_true ha
 have bit := fun (i j : Nat) => foldP_bit (i := i) (j := j) qs r he.ne
 have hinc := he.inc p0 hp0;obtain ⟨u, v, hu, hv, hH, hG, hc⟩ := hr.between (EM.sym vg) (EM.sym vh) (EM.irr vh) h1 (fun a b _ _ h => ⟨h.1, h.2.1, by rw [bit, h.2.2]; rfl⟩) ⟨p0.1, p0.2, full _ (by omega), full _ hinc.2, ⟨by omega, hinc.2, by rw [bit, decide_eq_true (.inl hp0), Bool.or_true]⟩, fun h => by rw [EM] at h; rw [he.new _ hp0] at h; cases h.2.2⟩;have hruv : (r u).testBit v = false := by
  cases hb : (r u).testBit v
  ·rfl
  ·exact absurd ⟨hH.1, hH.2.1, hb⟩ hG
 have hrvu : (r v).testBit u = false := by rw [vg.sym v u hH.2.1 hH.1]; exact hruv
 have hin := hH.2.2;rw [bit, hruv, Bool.false_or, decide_eq_true_eq] at hin;obtain ⟨i, hi, hpi⟩ : ∃ i, ∃ hi : i < qs.length, qs[i] = (u, v) ∨ qs[i] = (v, u) := by
  rcases hin with h | h
  ·obtain ⟨i, hi, e⟩ := List.getElem_of_mem h;exact ⟨i, hi, .inl e⟩
  ·obtain ⟨i, hi, e⟩ := List.getElem_of_mem h;exact ⟨i, hi, .inr e⟩
 have hno : ¬ ((u, v) ∈ qs ∧ (v, u) ∈ qs) := fun h => by have h1 : u < v := (he.inc _ h.1).1; have h2 : v < u := (he.inc _ h.2).1; omega
 refine h2 i hi (hc.congr fun a b ha hb => ?_);have bit2 := foldP_bit (i := a) (j := b) (qs.eraseIdx i) r (he.part (List.eraseIdx_sublist ..)).ne;constructor
 ·rintro ⟨⟨ham, hbm, hab⟩, n1, n2⟩;refine ⟨ham, hbm, ?_⟩;rw [bit2];rw [bit] at hab;cases hr1 : (r a).testBit b
  ·rw [hr1, Bool.false_or, decide_eq_true_eq] at hab;rw [Bool.false_or];apply decide_eq_true;rcases hab with h | h
   ·refine .inl ((mem_erase_nd he.nd hi).2 ⟨h, fun e => ?_⟩);rcases hpi with e2 | e2
    ·rw [e2, Prod.mk.injEq] at e; exact n1 e
    ·rw [e2, Prod.mk.injEq] at e; exact n2 e
   ·refine .inr ((mem_erase_nd he.nd hi).2 ⟨h, fun e => ?_⟩);rcases hpi with e2 | e2
    ·rw [e2, Prod.mk.injEq] at e; exact n2 ⟨e.2, e.1⟩
    ·rw [e2, Prod.mk.injEq] at e; exact n1 ⟨e.2, e.1⟩
  ·rfl
 ·rintro ⟨ham, hbm, hab⟩;rw [bit2] at hab;cases hr1 : (r a).testBit b
  ·rw [hr1, Bool.false_or, decide_eq_true_eq] at hab;have hmem : ((a, b) ∈ qs ∨ (b, a) ∈ qs) ∧ ¬ (a = u ∧ b = v) ∧ ¬ (a = v ∧ b = u) := by
    rcases hab with h | h
    ·obtain ⟨h3, h4⟩ := (mem_erase_nd he.nd hi).1 h;refine ⟨.inl h3, ?_, ?_⟩
     ·rintro ⟨rfl, rfl⟩;rcases hpi with e2 | e2
      ·exact h4 e2.symm
      ·exact hno ⟨h3, by rw [← e2]; exact List.getElem_mem _⟩
     ·rintro ⟨rfl, rfl⟩;rcases hpi with e2 | e2
      ·exact hno ⟨by rw [← e2]; exact List.getElem_mem _, h3⟩
      ·exact h4 e2.symm
    ·obtain ⟨h3, h4⟩ := (mem_erase_nd he.nd hi).1 h;refine ⟨.inr h3, ?_, ?_⟩
     ·rintro ⟨rfl, rfl⟩;rcases hpi with e2 | e2
      ·exact hno ⟨by rw [← e2]; exact List.getElem_mem _, h3⟩
      ·exact h4 e2.symm
     ·rintro ⟨rfl, rfl⟩;rcases hpi with e2 | e2
      ·exact h4 e2.symm
      ·exact hno ⟨h3, by rw [← e2]; exact List.getElem_mem _⟩
   exact ⟨⟨ham, hbm, by rw [bit, decide_eq_true hmem.1, Bool.or_true]⟩, hmem.2⟩
  ·refine ⟨⟨ham, hbm, by rw [bit, hr1]; rfl⟩, ?_, ?_⟩
   ·rintro ⟨rfl, rfl⟩; rw [hruv] at hr1; cases hr1
   ·rintro ⟨rfl, rfl⟩; rw [hrvu] at hr1; cases hr1
theorem few_order {s : Nat → Nat} (h : okB (m : Int) m x = true) (hsub : ∀ v u, v < m → (rw_ x v).testBit u = true → (s v).testBit u = true) (hc : Cho (EM s m) (2 ^ m - 1)) : ∃ q ∈ ordN m m, ∀ p ∈ swE (rw_ x) (fl (rw_ x) (ci q) m) m, p ∈ swE (rw_ x) s m := by
 obtain ⟨q, h1, h2, h3⟩ := hc.order;have vg := (okB_vg h).1;have hq : ∀ v ∈ q, v < m := fun v hv => bit_lt (by have := Nat.two_pow_pos m; omega) ((h2 v).1 hv)
 have hlen : q.length = m := by
  have a := h1.length_le_of_subset (l₂ := List.range m) fun v hv => List.mem_range.2 (hq v hv)
  have b := (List.nodup_range (n := m)).length_le_of_subset (l₂ := q) fun v hv => (h2 v).2 (by rw [Nat.testBit_two_pow_sub_one]; exact decide_eq_true (List.mem_range.1 hv))
  rw [List.length_range] at a b;omega
 refine ⟨q, mem_ordN.2 ⟨hlen, h1, hq⟩, fun p hp => ?_⟩;obtain ⟨e1, e2, e3, e4⟩ := mem_swE.1 (show (p.1, p.2) ∈ _ from hp);exact mem_swE.2 ⟨e1, e2, fl_within vg hsub h1 hq h3 m (by omega) _ _ (by omega) e3, e4⟩
theorem few_min (h : okB (m : Int) m x = true) : isMin (pfN m (rw_ x)) (ordN m m) (ffN m (rw_ x)) := by
 have vg := (okB_vg h).1;have h1 := isMin;have hne : visG m (fun _ => true) m [] ≠ [] := by
  intro e;have : List.range m ∈ visG m (fun _ => true) m [] := visG_ordN.2 (mem_ordN.2 ⟨List.length_range, List.nodup_range, fun v hv => List.mem_range.1 hv⟩);rw [e] at this; cases this
 have hm := boF_min (p := pfN m (rw_ x)) (fun l => (pfN_le vg.n7).1) hne;obtain ⟨⟨l, hl, e⟩, h2⟩ := hm;exact ⟨⟨l, visG_ordN.1 hl, e⟩, fun l hl => h2 l (visG_ordN.2 hl)⟩
theorem pfN_eq {q : List Nat} (h : okB (m : Int) m x = true) (hq : q ∈ ordN m m) : pfN m (rw_ x) q = ((swE (rw_ x) (fl (rw_ x) (ci q) m) m).length : Int) := by
 obtain ⟨h1, h2, h3⟩ := mem_ordN.1 hq;have vg := (okB_vg h).1;have hok : okB (m : Int) m (fun v => (rw_ x v : Int)) = true := okB_yes ⟨_, rfl, vg, fun _ _ => rfl⟩;have := fof_pairs (x := fun v => (rw_ x v : Int)) hok (vz_ci h2 h3) (by rw [ci_len]; exact h1);unfold pfN;rw [show (q.map fun v : Nat => (v : Int)) = ci q from rfl, this, prE_len];rfl
theorem mi_law (h : okB (m : Int) m x = true) : aaB (m : Int) m x (miL (m : Int) m x) = true ∧ icB (m : Int) m x (aaZ (m : Int) m x (miL (m : Int) m x)) (aaN (m : Int) m x (miL (m : Int) m x)) (aaX (m : Int) m x (miL (m : Int) m x)) = true ∧ imfB (m : Int) m x (miL (m : Int) m x) = true ∧ decide ((miL (m : Int) m x).length = 0) = chB (m : Int) m x ∧ (0 ≤ ffI (m : Int) m x → ffI (m : Int) m x ≤ ((miL (m : Int) m x).length : Int) ∧ decide (ffI (m : Int) m x = 0) = chB (m : Int) m x) := by
 have vg := (okB_vg h).1;obtain ⟨qs, e, he, hc, hmin⟩ := mi_pairs h;obtain ⟨a1, a2, a3, a4⟩ := fiB_pairs h he;have vh := fold_vg vg he;have hfi := (fiB_cho h he).2 hc;obtain ⟨b1, b2, b3, b4⟩ := aa_some (by rw [aaR_yes h]; exact (aaF_pairs qs x h he).choose_spec.1 : aaR (m : Int) m x (PrE qs) = some _);rw [e, b2, b3];have hch : chB (m : Int) m (aaX (m : Int) m x (PrE qs)) = true := by
  unfold fiB at hfi;rw [b2, b3] at hfi;exact hfi
 have bit := fun (i j : Nat) => foldP_bit (i := i) (j := j) qs (rw_ x) he.ne
 have hsub : ∀ v u, v < m → (rw_ x v).testBit u = true → (foldP (rw_ x) qs v).testBit u = true := fun v u _ hb => by rw [bit, hb]; rfl
 have hempty : decide ((PrE qs).length = 0) = chB (m : Int) m x := by
  rw [prE_len];cases hb : chB (m : Int) m x
  ·apply decide_eq_false;intro h0;have : qs = [] := List.length_eq_zero_iff.1 h0;subst this;have := (chB_cho h).2 hc;rw [hb] at this; cases this
  ·apply decide_eq_true;rw [mi_none vg he hc hmin ((chB_cho h).1 hb)]; rfl
 refine ⟨a1, ?_, imB_yes hfi fun i hi => ?_, hempty, fun hf => ?_⟩
 ·rw [icB_eq (wiB_yes ⟨okB_OkG h, okB_OkG a4, rfl, fun v hv => ?_⟩) hch]; rfl;show rw_ x v &&& rw_ (aaX (m : Int) m x (PrE qs)) v = rw_ x v;rw [a3];refine Nat.eq_of_testBit_eq fun u => ?_
  rw [Nat.testBit_and];cases hb : (rw_ x v).testBit u
  ·rfl
  ·rw [hsub v u hv hb]; rfl
 ·rw [prE_len] at hi;rw [prE_erase];cases hb : fiB (m : Int) m x (PrE (qs.eraseIdx i))
  ·rfl
  ·exact absurd ((fiB_cho h (he.part (List.eraseIdx_sublist ..))).1 hb) (hmin i hi)
 ·have h5 : m ≤ 5 := by
   by_cases h5 : m ≤ 5
   ·exact h5
   ·unfold ffI at hf;rw [decide_eq_false h5, Bool.and_false] at hf;simp at hf
  rw [ffI_yes h h5];obtain ⟨⟨l, hl, el⟩, hle⟩ := few_min h;have hqs : ∀ p ∈ swE (rw_ x) (foldP (rw_ x) qs) m, p ∈ qs := fun p hp => by
   obtain ⟨e1, e2, e3, e4⟩ := mem_swE.1 (show (p.1, p.2) ∈ _ from hp);rw [bit, e4, Bool.false_or, decide_eq_true_eq] at e3;rcases e3 with h | h
   ·exact h
   ·have : p.2 < p.1 := (he.inc _ h).1;omega
  refine ⟨?_, ?_⟩
  ·obtain ⟨q, hq, hin⟩ := few_order h hsub hc;have h1 := hle q hq;rw [pfN_eq h hq] at h1;have h2 := (swE_new (rw_ x) (fl (rw_ x) (ci q) m) m).nd.length_le_of_subset fun p hp => hqs p (hin p hp)
   rw [prE_len];omega
  ·cases hb : chB (m : Int) m x
   ·apply decide_eq_false;intro h0;rw [pfN_eq h hl] at el;obtain ⟨h1, h2, h3⟩ := mem_ordN.1 hl;have hnil : swE (rw_ x) (fl (rw_ x) (ci l) m) m = [] := List.length_eq_zero_iff.1 (by omega);have := fof_cho h (vz_ci h2 h3) (by rw [ci_len]; exact h1);rw [hnil] at this;have := (chB_cho h).2 this;rw [hb] at this; cases this
   ·apply decide_eq_true;obtain ⟨q, hq, hin⟩ := few_order h (fun _ _ _ hb => hb) ((chB_cho h).1 hb);have h1 := hle q hq;rw [pfN_eq h hq] at h1;have hnil : swE (rw_ x) (fl (rw_ x) (ci q) m) m = [] := by
     refine List.eq_nil_iff_forall_not_mem.2 fun p hp => ?_
     obtain ⟨_, _, e3, e4⟩ := mem_swE.1 (show (p.1, p.2) ∈ _ from hin p hp);rw [e3] at e4; cases e4
    rw [hnil] at h1;have h0 := (pfN_le (r := rw_ x) (l := l) vg.n7).1;simp only [List.length_nil] at h1;omega
end
open Go.RowKit
set_option maxHeartbeats 3200000
noncomputable def dlT (r : Nat → Nat) (s : List UInt8) (t : Nat) : Bool := !(t == 0) && inV r s t
noncomputable def dlP (r : Nat → Nat) (m : Nat) (s : List UInt8) (k : Nat) : Bool := dlT r s ((2 ^ m - 1) ^^^ k)
noncomputable def dlO (r : Nat → Nat) (m : Nat) (s : List UInt8) : Option Nat := fwK (dlP r m s) (2 ^ m)
noncomputable def dlX (sz : Int) (m : Nat) (x : Nat → Int) (s : List UInt8) : Option Nat := if okB sz m x = true then dlO (rw_ x) m s else none
theorem dlX_no {sz : Int} {m : Nat} {x : Nat → Int} {s : List UInt8} (h : okB sz m x = false) : dlX sz m x s = none := by unfold dlX; rw [h]; rfl
theorem dlX_yes {sz : Int} {m : Nat} {x : Nat → Int} {s : List UInt8} (h : okB sz m x = true) : dlX sz m x s = dlO (rw_ x) m s := by unfold dlX; rw [h]; rfl
def laI (m : Nat) : Option Nat → Int
 | none => -1
 | some k => (m : Int) - (cn k : Int)
theorem dlO_lt {r : Nat → Nat} {m k : Nat} {s : List UInt8} (h : dlO r m s = some k) : k < 2 ^ m := (fwK_lt _ _ h).1
theorem dlP_full (r : Nat → Nat) (m : Nat) (s : List UInt8) : dlP r m s (2 ^ m - 1) = false := by unfold dlP; rw [Nat.xor_self]; rfl
section
variable {A : Option Addr} {m c : Nat} {r : Nat → Nat} {s : Nat} {w : World} {str : ByteArray}
theorem InducedOn_gv (h : GV w A m c r) (hs : s < 2 ^ m) :
 Calls Tryz.prog 89 #[.agg #[.int .i64 m, .slice A m c], .int .i64 s] w fun e w' => ∃ A' c', e = .returned (.tuple #[.agg #[.int .i64 (cn s : Nat), .slice A' (cn s) c'], .bool (!(s == 0))]) ∧ Own w' w.heap.size w'.heap.size 3 1 A' (cn s) c' (fun j => .int .i64 (inR r s j : Nat)) ∧ Below w.heap.size w w' := by
 by_cases h0 : s = 0
 ·subst h0;exact (InducedOn_v0 h).mono fun _ _ ⟨h1, h2⟩ => ⟨none, 0, h1, Own.nil _ _ _ _ _ _, h2⟩
 ·have e : (!(s == 0)) = true := by simpa using h0
  rw [e];exact InducedOn_v h hs h0
set_option maxRecDepth 100000 in
theorem delF (h : GV w A m c r) (hs : s < 2 ^ m) {nb : Nat} (hn : w.cell? ⟨nb, 0, none⟩ = some (.string str)) :
 Calls Tryz.prog 88 #[.agg #[.int .i64 m, .slice A m c], .int .i64 s, .pointer (some ⟨nb, 0, none⟩)] w fun e w' => e = .returned (.bool (dlP r m str.toList s)) ∧ Below w.heap.size w w' := by
 have hn7 := h.vg.n7;have h128 := two_pow_le hn7;have HV := hh_ h.vg;have hfx := full_and hs;have hcl : (2 ^ m - 1) ^^^ s < 2 ^ m := comp_lt hn7 hs;have Hdef : Hid (dlP r m str.toList s = dlT r str.toList ((2 ^ m - 1) ^^^ s)) := rfl;have E4 := i64_andNot_nat (2 ^ m - 1) s (by omega) (by omega);rw [hfx] at E4;obtain ⟨t, ht⟩ : ∃ t, t = (2 ^ m - 1) ^^^ s := ⟨_, rfl⟩;rw [← ht] at E4 hcl Hdef;have Hd2 : Hid (dlT r str.toList t = (!(t == 0) && isV (inR r t) (cn t) str.toList)) := rfl;have Hvg : Hid (t ≠ 0 → ∀ {z : World} {A' : Option Addr} {c' lo hi : Nat}, Own z lo hi 3 1 A' (cn t) c' (fun j => .int .i64 (inR r t j : Nat)) → hi ≤ z.heap.size → GV z A' (cn t) c' (inR r t)) := fun h0 => fun h1 h2 => ind_gv HV hcl h0 h1 h2
 obtain ⟨n, hn'⟩ : ∃ n, n = cn t := ⟨_, rfl⟩;obtain ⟨R, hR⟩ : ∃ R, R = inR r t := ⟨_, rfl⟩;obtain ⟨ok, hok⟩ : ∃ ok, ok = !(t == 0) := ⟨_, rfl⟩;have KN : Hid (∀ {z : World}, GV z A m c r → Calls Tryz.prog 89 #[.agg #[.int .i64 m, .slice A m c], .int .i64 t] z fun e w' => ∃ A' c', e = .returned (.tuple #[.agg #[.int .i64 (n : Nat), .slice A' n c'], .bool ok]) ∧ Own w' z.heap.size w'.heap.size 3 1 A' n c' (fun j => .int .i64 (R j : Nat)) ∧ Below z.heap.size z w') := by rw [hn', hR, hok]; exact fun h => InducedOn_gv h hcl
 rw [← hn', ← hR, ← hok] at Hd2;rw [← hn', ← hR] at Hvg;have Hok : Hid (ok = true → t ≠ 0) := fun h => by rw [hok] at h; simpa using h
 obtain ⟨F, hF⟩ : ∃ F, F = 2 ^ m - 1 := ⟨_, rfl⟩;have KA : Hid (∀ {z : World}, GV z A m c r → Calls Tryz.prog 90 #[.agg #[.int .i64 m, .slice A m c]] z fun e w' => e = .returned (.int .i64 (F : Nat)) ∧ Below z.heap.size z w') := by rw [hF]; exact fun h => all_v h
 rw [← hF] at E4;have HN : Hid (CL w nb 0 (.string str)) := ⟨hn⟩;obtain ⟨W, hW, HB, HG⟩ := gbW h;have HN2 := hh_ (HN.keep HB.below);have HW := hh_ hW;have HGq := HG;clear hW h hn hn' hR hok hF ht hfx hcl HN;go_enter Tryz.func88, Tryz.ntmps88;have d0 := HN2.c;obtain ⟨e0, e1⟩ := gx_ HG;go_wp2;rw [← HW.out];clear HW;have HSC : Hid (∀ z : World, Below W.heap.size W z → (Below W.heap.size W z ∧ z.cell? ⟨w.heap.size, 0, none⟩ = some (.int .i64 m) ∧ z.cell? ⟨w.heap.size, 1, none⟩ = some (.slice A m c))) := fun z hz => ⟨hz, up_ hz e0, up_ hz e1⟩
 have HZ1 : Hid (Below W.heap.size W W.drew) := br_.drew;have HZ2 : Hid (Below W.heap.size W ((W.alloc (Obj.cells #[.int .i64 0, .slice none 0 0] 26)).drew)) := (br_.alloc nr_ _).drew;have HN2 : Hid (GC ((W.alloc (Obj.cells #[.int .i64 0, .slice none 0 0] 26)).drew) W.heap.size 0 none 0 0) := (GC.new _ _ _ _ _).drew;have KR1 : Hid (∀ z : World, Below W.heap.size W z → _) := fun z hz => KA.out (HGq.gv.keep hz)
 have KR2 : Hid (∀ z : World, Below W.heap.size W z → _) := fun z hz => KN.out (HGq.gv.keep hz)
 have HS1 := hh_ (HSC.out _ HZ1.out);have HS2 := hh_ (HSC.out _ HZ2.out);go_wp2;go_region_held3 (fun z => Below W.heap.size W z ∧ z.cell? ⟨w.heap.size, 0, none⟩ = some (.int .i64 m) ∧ z.cell? ⟨w.heap.size, 1, none⟩ = some (.slice A m c))
  (first | exact HS1.out | exact HS2.out | exact HSC.out _ hz1y | exact HSC.out _ (bl_alloc hz1y) | exact HSC.out _ hz5 | exact HSC.out _ (bl_alloc hz5) | exact HSC.out _ (bl_set hz5 hq5) | exact HSC.out _ (bl_set (bl_set hz5 hq5) hq5) | fail)
  (first | (go_at_call 90; ((with_reducible refine (KR1.out _ HZ1.out).mono ?_); rintro e y1 ⟨rfl, hy1⟩; have hz1y := bl_trans HZ1.out hy1)) | (go_at_call 90; ((with_reducible refine (KR1.out _ HZ2.out).mono ?_); rintro e y1 ⟨rfl, hy1⟩; have hz1y := bl_trans HZ2.out hy1; have hn5 := HN2.out.keep hy1; have hq5 : W.heap.size ≤ W.heap.size := nr_; have hl5 : W.heap.size + 1 ≤ (W.alloc (Obj.cells #[.int .i64 0, .slice none 0 0] 26)).drew.heap.size := (by show _ ≤ (W.alloc _).heap.size; simp); replace hl5 := Nat.le_trans hl5 hy1.size)) | (go_at_call 89; ((with_reducible refine (KR2.out _ hz1y).mono ?_); rintro e w5 ⟨A5, c5, rfl, hO5, hb5⟩; have hz5 := bl_trans hz1y hb5; replace hn5 := hn5.keep hb5; have n0 := hn5.c0; have n1 := hn5.c1; have n2 := hn5.f0; have n3 := hn5.f1)) | (go_at_call 89; ((with_reducible refine (KR2.out _ hz1y).mono ?_); rintro e w5 ⟨A5, c5, rfl, hO5, hb5⟩; have hz5 := bl_trans hz1y hb5)) | (go_at_call 89; ((with_reducible refine (KR2.out _ (bl_alloc hz1y)).mono ?_); rintro e w5 ⟨A5, c5, rfl, hO5, hb5⟩; have hz5 := bl_trans (bl_alloc hz1y) hb5; have hn5 := (GC.new y1 0 none 0 0).keep hb5; have hq5 : W.heap.size ≤ y1.heap.size := hz1y.size; have hl5 : y1.heap.size + 1 ≤ (y1.alloc (Obj.cells #[.int .i64 0, .slice none 0 0] 26)).heap.size := (by simp); have n0 := hn5.c0; have n1 := hn5.c1; have n2 := hn5.f0; have n3 := hn5.f1)))
 all_goals
  first
   | (obtain ⟨W5, hW5⟩ : ∃ W5, W5 = ((w5.setCell ⟨W.heap.size, 0, none⟩ (.int .i64 n)).setCell ⟨W.heap.size, 1, none⟩ (.slice A5 n c5)) := ⟨_, rfl⟩
      rw [← hW5];have HQ5 : Hid (GC W5 W.heap.size n A5 n c5) := by rw [hW5]; exact hn5.set
      have HZ5 : Hid (Below W.heap.size W W5) := by rw [hW5]; exact bl_set (bl_set hz5 hq5) hq5
      have HO5 : Hid (Own W5 W.heap.size W5.heap.size 3 1 A5 n c5 (fun j => .int .i64 (R j : Nat))) := by
       rw [hW5];exact (hO5.keep (fr2 _ W.heap.size _ _) (.inr hl5)).mono (Nat.le_trans (Nat.le_succ_of_le hq5) hl5) (by simp [World.setCell])
      have HX5 : Hid (W.heap.size ≤ W.heap.size) := hq5;clear hW5 hn5 n0 n1 n2 n3 hO5 hq5 hl5)
   | (obtain ⟨W5, hW5⟩ : ∃ W5, W5 = ((w5.setCell ⟨y1.heap.size, 0, none⟩ (.int .i64 n)).setCell ⟨y1.heap.size, 1, none⟩ (.slice A5 n c5)) := ⟨_, rfl⟩
      rw [← hW5];have HQ5 : Hid (GC W5 y1.heap.size n A5 n c5) := by rw [hW5]; exact hn5.set
      have HZ5 : Hid (Below W.heap.size W W5) := by rw [hW5]; exact bl_set (bl_set hz5 hq5) hq5
      have HO5 : Hid (Own W5 W.heap.size W5.heap.size 3 1 A5 n c5 (fun j => .int .i64 (R j : Nat))) := by
       rw [hW5];exact (hO5.keep (fr2 _ y1.heap.size _ _) (.inr hl5)).mono (Nat.le_trans (Nat.le_succ_of_le hq5) hl5) (by simp [World.setCell])
      have HX5 : Hid (W.heap.size ≤ y1.heap.size) := hq5;clear hW5 hn5 n0 n1 n2 n3 hO5 hq5 hl5)
   | (obtain ⟨W5, hW5⟩ : ∃ W5, W5 = (w5.alloc (Obj.cells #[.int .i64 n, .slice A5 n c5] 26)) := ⟨_, rfl⟩
      rw [← hW5];have HQ5 : Hid (GC W5 w5.heap.size n A5 n c5) := by rw [hW5]; exact GC.new _ _ _ _ _
      have HZ5 : Hid (Below W.heap.size W W5) := by rw [hW5]; exact bl_alloc hz5
      have HO5 : Hid (Own W5 W.heap.size W5.heap.size 3 1 A5 n c5 (fun j => .int .i64 (R j : Nat))) := by rw [hW5]; exact (hO5.alloc _).mono (by first | exact nr_ | (have := hz1y.size; omega)) (by simp)
      have HX5 : Hid (W.heap.size ≤ w5.heap.size) := hz5.size;clear hW5 hO5)
   | fail
 all_goals clear hz5 hb5 HSC HZ1 HZ2 HN2 HS1 HS2 hy1 hz1y KR1 KR2
 all_goals
  have m0 := HQ5.c0;have m1 := HQ5.c1;clear HGq KN KA;clear d0 e0 e1;replace HB := hh_ (HB.keep HZ5.out);replace HN2 := hh_ (HN2.keep HZ5.out);replace HG := hh_ (HG.keep HZ5.out);have d0 := HN2.c;obtain ⟨e0, e1⟩ := gx_ HG;cases ok
  ·have Hn : Hid (dlP r m str.toList s = false) := by show _ = _; rw [Hdef.out, Hd2.out]; rfl
   go_wp2;go_ret;exact ⟨ret_bool Hn.symm, HB.below⟩
  ·have Hn : Hid (dlP r m str.toList s = isV R n str.toList) := by show _ = _; rw [Hdef.out, Hd2.out]; rfl
   have HG5 := hh_ (Hvg.out (Hok.out rfl) HO5.out nr_);clear HO5 Hvg Hok;go_wp2_with fail
   refine (IsIn_v HG5 str).mono ?_;rintro e w7 ⟨rfl, hb7⟩;clear m0 m1 HG5 HQ5 HZ5;clear d0 e0 e1;replace HB := hh_ (HB.keep hb7);replace HN2 := hh_ (HN2.keep hb7);replace HG := hh_ (HG.keep hb7);clear hb7;have d0 := HN2.c;obtain ⟨e0, e1⟩ := gx_ HG;go_wp2;go_ret;exact ⟨ret_bool Hn.symm, HB.below⟩
set_option maxRecDepth 100000 in
theorem FewestDeletions_v (h : GV w A m c r) :
 Calls Tryz.prog 32 #[.agg #[.int .i64 m, .slice A m c], .string str] w fun e w' => e = .returned (lsV (dlO r m str.toList)) ∧ Below w.heap.size w w' := by
 have Hdef : Hid (dlO r m str.toList = fwK (dlP r m str.toList) (2 ^ m)) := rfl;obtain ⟨W, hW⟩ : ∃ W, W = ((w.alloc (Obj.cells #[.int .i64 m, .slice A m c] 26)).alloc (Obj.cells #[.string str] 9)) := ⟨_, rfl⟩;have HB : Hid (From w W) := by rw [hW]; exact (From.alloc _ _).alloc_ _
 have HG : Hid (GBox W w.heap.size A m c r) := by rw [hW]; exact h.box.keep (br_.alloc nr_ _)
 have HN : Hid (CL W (w.heap.size + 1) 0 (.string str)) := by rw [hW]; constructor; simp [go_sem]
 have HW := hh_ hW;have KF := hh_ (fewest_g (p := dlP r m str.toList) (caps := #[.pointer (some ⟨w.heap.size + 1, 0, none⟩)]) (ent_of Tryz.func88 (by kernel_rfl) rfl) W HG.gv (fun s z hs hb => delF (HG.gv.keep hb) hs (HN.keep hb).c));obtain ⟨o, ho⟩ : ∃ o, o = dlO r m str.toList := ⟨_, rfl⟩;rw [← Hdef.out, ← ho] at KF;rw [← ho];clear hW h ho Hdef;go_enter Tryz.func32, Tryz.ntmps32;obtain ⟨e0, e1⟩ := gx_ HG;go_wp2_with fail
 rw [← HW.out];refine (KF.out).mono ?_;rintro e w1 ⟨rfl, hb1⟩;clear HW;clear e0 e1;obtain ⟨HB, HG, e0, e1⟩ := kG_ HB HG hb1;clear hb1;clear KF;cases o with
 | none =>
   rw [show fwI none = -1 from rfl];go_wp2;go_ret2;exact ⟨rfl, HB.below⟩
 | some k =>
   rw [show fwI (some k) = (k : Int) from rfl];go_wp2;go_ret2;exact ⟨rfl, HB.below⟩
set_option maxRecDepth 100000 in
theorem LargestInside_v (h : GV w A m c r) :
 Calls Tryz.prog 34 #[.agg #[.int .i64 m, .slice A m c], .string str] w fun e w' => e = .returned (.int .i64 (laI m (dlO r m str.toList))) ∧ Below w.heap.size w w' := by
 have hn7 := h.vg.n7;have h128 := two_pow_le hn7;have Hlt : Hid (∀ k, dlO r m str.toList = some k → k < 2 ^ m) := fun k hk => dlO_lt hk
 obtain ⟨W, hW, HB, HG⟩ := gbW h;have HW := hh_ hW;clear hW h;obtain ⟨e0, e1⟩ := gx_ HG;have KF := hh_ (FewestDeletions_v (str := str) HG.gv);obtain ⟨o, ho⟩ : ∃ o, o = dlO r m str.toList := ⟨_, rfl⟩;rw [← ho] at KF Hlt ⊢;clear ho;go_enter Tryz.func34, Tryz.ntmps34;go_wp2_with fail
 rw [← HW.out];refine (KF.out).mono ?_;rintro e w1 ⟨rfl, hb1⟩;clear HW;clear e0 e1;obtain ⟨HB, HG, e0, e1⟩ := kG_ HB HG hb1;clear hb1;clear KF;cases o with
 | none =>
   have Hn : Hid (laI m none = -1) := rfl;rw [lsV_none];go_wp2;go_ret;exact ⟨ret_int Hn.symm, HB.below⟩
 | some k =>
   have Hn : Hid (laI m (some k) = (m : Int) - (cn k : Int)) := rfl;have hk := Hlt.out k rfl;have hck := cn_le k;have KC : Hid (∀ z : World, Calls Tryz.prog 93 #[.int .i64 k] z fun e w' => e = .returned (.int .i64 (cn k : Int)) ∧ Below z.heap.size z w') := fun z => CountSet_v k (by omega) z
   obtain ⟨n, hn⟩ : ∃ n, n = cn k := ⟨_, rfl⟩;rw [← hn] at Hn KC hck;have s1 : IntKind.i64.wrap ((m : Int) - (n : Int)) = (m : Int) - (n : Int) := Go.IntWalk.i64_in _ (by omega);rw [lsV_some];clear hn;go_wp2;obtain ⟨HSC, HZ0, HS1⟩ := hsc2 e0 e1;have KR1 : Hid (∀ z : World, Below w1.heap.size w1 z → _) := fun z hz => KC.out z
   go_region_held3 (fun z => Below w1.heap.size w1 z ∧ z.cell? ⟨w.heap.size, 0, none⟩ = some (.int .i64 m) ∧ z.cell? ⟨w.heap.size, 1, none⟩ = some (.slice A m c))
    (first | exact HS1.out | assumption | exact HSC.out _ hz2 | fail)
    (first | (go_at_call 93; ((with_reducible refine (KR1.out _ HZ0.out).mono ?_); rintro e w2 ⟨rfl, hb2⟩; have hz2 := bl_trans HZ0.out hb2)))
   clear e0 e1;replace HB := hh_ (HB.keep hz2);replace HG := hh_ (HG.keep hz2);clear hb2 hz2 HSC HZ0 HS1 KR1;obtain ⟨e0, e1⟩ := gx_ HG;go_wp2;go_ret;exact ⟨ret_int Hn.symm, HB.below⟩
end
section
variable (sz : Int) (A : Option Addr) (m c : Nat) (x : Nat → Int) (str : ByteArray) (w : World)
theorem fewest_noG {sz : Int} {A : Option Addr} {m c : Nat} {x : Nat → Int} {w : World} {f : Value} (h : GA w A m c x) (hm : m ≤ 1048576) (hok : okB sz m x = false) :
 Calls Tryz.prog 87 #[.agg #[.int .i64 sz, .slice A m c], f] w fun e w' => e = .returned (.int .i64 (-1)) ∧ Below w.heap.size w w' := by
 obtain ⟨W, hW, HB, HK, HC⟩ := gaW sz h;have HW := hh_ hW;have KF : Hid (Calls Tryz.prog 79 #[.agg #[.int .i64 sz, .slice A m c]] W fun e w' => e = .returned (.bool false) ∧ Below W.heap.size W w') := by
  have := IsGraph_any sz A m c x W W.heap.size HK.rd nr_ hm;rwa [hok] at this
 clear hW h hok;go_enter Tryz.func87, Tryz.ntmps87;obtain ⟨e0, e1⟩ := gc_ HC;go_wp2_with fail
 rw [← HW.out];refine (KF.out).mono ?_;rintro e w1 ⟨rfl, hb1⟩;clear HW;clear e0 e1;obtain ⟨HB, HK, HC, e0, e1⟩ := kC_ HB HK HC hb1;clear hb1;clear KF;go_wp2;go_ret;exact ⟨rfl, HB.below⟩
set_option maxRecDepth 100000 in
theorem FewestDeletions_no (h : GA w A m c x) (hm : m ≤ 1048576) (hok : okB sz m x = false) :
 Calls Tryz.prog 32 #[.agg #[.int .i64 sz, .slice A m c], .string str] w fun e w' => e = .returned (lsV none) ∧ Below w.heap.size w w' := by
 obtain ⟨W, hW⟩ : ∃ W, W = ((w.alloc (Obj.cells #[.int .i64 sz, .slice A m c] 26)).alloc (Obj.cells #[.string str] 9)) := ⟨_, rfl⟩;have HB : Hid (From w W) := by rw [hW]; exact (From.alloc _ _).alloc_ _
 have HK := hh_ (h.keep HB.below);have HC : Hid (GC W w.heap.size sz A m c) := by rw [hW]; exact (GC.new _ _ _ _ _).keep (br_.alloc nr_ _)
 have HW := hh_ hW;have KF := hh_ (fewest_noG (f := .func (.func 88) #[] #[.pointer (some ⟨w.heap.size + 1, 0, none⟩)]) HK hm hok);clear hW h hok;go_enter Tryz.func32, Tryz.ntmps32;obtain ⟨e0, e1⟩ := gc_ HC;go_wp2_with fail
 rw [← HW.out];refine (KF.out).mono ?_;rintro e w1 ⟨rfl, hb1⟩;clear HW;clear e0 e1;obtain ⟨HB, HK, HC, e0, e1⟩ := kC_ HB HK HC hb1;clear hb1;clear KF;go_wp2;go_ret2;exact ⟨rfl, HB.below⟩
theorem FewestDeletions_i (h : GA w A m c x) (hm : m ≤ 1048576) :
 Calls Tryz.prog 32 #[.agg #[.int .i64 sz, .slice A m c], .string str] w fun e w' => e = .returned (lsV (dlX sz m x str.toList)) ∧ Below w.heap.size w w' := by
 cases ho : okB sz m x
 ·rw [dlX_no ho];exact FewestDeletions_no sz A m c x str w h hm ho
 ·obtain ⟨_, es, _, _⟩ := okB_ok' ho;subst es;rw [dlX_yes ho];exact FewestDeletions_v (h.gv ho)
set_option maxRecDepth 100000 in
theorem LargestInside_i (h : GA w A m c x) (hm : m ≤ 1048576) :
 Calls Tryz.prog 34 #[.agg #[.int .i64 sz, .slice A m c], .string str] w fun e w' => e = .returned (.int .i64 (laI m (dlX sz m x str.toList))) ∧ Below w.heap.size w w' := by
 cases ho : okB sz m x
 ·rw [dlX_no ho];have Hn : Hid (laI m none = -1) := rfl;obtain ⟨W, hW, HB, HK, HC⟩ := gaW sz h;have HW := hh_ hW;have KF := hh_ (FewestDeletions_no sz A m c x str W HK hm ho);rw [lsV_none] at KF;clear hW h ho;go_enter Tryz.func34, Tryz.ntmps34;obtain ⟨e0, e1⟩ := gc_ HC;go_wp2_with fail
  rw [← HW.out];refine (KF.out).mono ?_;rintro e w1 ⟨rfl, hb1⟩;clear HW;clear e0 e1;obtain ⟨HB, HK, HC, e0, e1⟩ := kC_ HB HK HC hb1;clear hb1;clear KF;go_wp2;go_ret;exact ⟨ret_int Hn.symm, HB.below⟩
 ·obtain ⟨_, es, _, _⟩ := okB_ok' ho;subst es;rw [dlX_yes ho];exact LargestInside_v (h.gv ho)
end
end Go.Proofs.YticadlkcjhglnaaGreat
