/-
  Several texts in one.
-/
import Derived.Test.YticadlkcjhglnaaGreatQoFewS
import Derived.Test.YticadlkcjhglnaaGreatQoChoP
import Derived.Test.YticadlkcjhglnaaGreatQoBoxG
import Derived.Test.YticadlkcjhglnaaGreatQoDrwA
import Derived.Test.YticadlkcjhglnaaGreatQoGC
/-
-/
namespace Go.Proofs.YticadlkcjhglnaaGreat
section
variable {m : Nat} {r : Nat → Nat} {l : List Int}
theorem ci_at {q : List Nat} {k : Nat} (h : k < q.length) : (ci q)[k]'(by unfold ci; rw [List.length_map]; exact h) = ((q[k] : Nat) : Int) := by
 simp [ci]
theorem getDI {k : Nat} (h : k < l.length) : l.getD k 0 = l[k] := by simp [List.getD, h]
theorem getD_one (hn : l.Nodup) {j k : Nat} (hj : j < l.length) (hk : k < l.length) (e : l.getD j 0 = l.getD k 0) : j = k := by
 rw [getDI hj, getDI hk] at e;exact (List.getElem_inj hn).1 e
theorem ixN_at (hn : l.Nodup) {k : Nat} (hk : k < l.length) : ixN l (l.getD k 0) = k := by
 obtain ⟨h1, _, h2, _⟩ := ixN_in (getD_mem hk);exact getD_one hn h1 hk h2
theorem fillN_bit {s i j : Nat} : (fillN r s i).testBit j = ((r i).testBit j || (decide (i ∈ listN s) && (s ^^^ 2 ^ i).testBit j)) := by
 unfold fillN;by_cases h : i ∈ listN s
 ·rw [if_pos h, Nat.testBit_or, decide_eq_true h, Bool.true_and]
 ·rw [if_neg h, decide_eq_false h, Bool.false_and, Bool.or_false]
theorem fl_mono {i j k : Nat} (h : (fl r l k i).testBit j = true) : ∀ n, (fl r l (k + n) i).testBit j = true
 | 0 => h
 | n + 1 => by
   show (fillN (fl r l (k + n)) _ i).testBit j = true
   rw [fillN_bit, fl_mono h n]; rfl
theorem late_iff (hV : VZ m l) {k u : Nat} : (stN (l.drop k)).testBit u = true ↔ ∃ j, k ≤ j ∧ j < l.length ∧ l.getD j 0 = (u : Int) := by
 rw [stN_bit (fun v hv => (hV.2 v (List.mem_of_mem_drop hv)).1)];constructor
 ·intro h;obtain ⟨i, hi, e⟩ := List.getElem_of_mem h;have hi2 := hi;rw [List.length_drop] at hi2;rw [List.getElem_drop] at e;exact ⟨k + i, by omega, by omega, by rw [getDI (by omega)]; exact e⟩
 ·rintro ⟨j, h1, h2, e⟩;rw [getDI h2] at e;rw [← e];have hl : j - k < (l.drop k).length := by rw [List.length_drop]; omega
  have : l[j] = (l.drop k)[j - k] := by
   rw [List.getElem_drop];congr 1;omega
  rw [this];exact List.getElem_mem _
theorem ltN_at (hn : l.Nodup) {k : Nat} (hk : k < l.length) : ltN r l (l.getD k 0) = r (l.getD k 0).toNat &&& stN (l.drop k) := by
 unfold ltN; rw [ixN_at hn hk]
theorem fl_row (vg : VG m r) (hV : VZ m l) {k : Nat} (hk : k < l.length) : ∀ n, k + n ≤ l.length → fl r l (k + n) (l.getD k 0).toNat = fl r l k (l.getD k 0).toNat
 | 0, _ => rfl
 | n + 1, hn => by
   refine Eq.trans ?_ (fl_row vg hV hk n (by omega))
   show fillN (fl r l (k + n)) (ltN (fl r l (k + n)) l (l.getD (k + n) 0)) (l.getD k 0).toNat = _
   unfold fillN
   rw [if_neg]
   intro h
   have hb := (mem_listN.1 h).2
   have h0 := hV.2 _ (getD_mem hk)
   rw [ltN_at hV.1 (by omega), Nat.testBit_and, Bool.and_eq_true] at hb
   obtain ⟨j, hj1, hj2, hj3⟩ := (late_iff hV).1 hb.2
   have e : j = k := getD_one hV.1 hj2 hk (by omega)
   obtain rfl : n = 0 := by omega
   have h3 := (VG.fl vg hV k (by omega)).irr (l.getD k 0).toNat (by omega)
   have h4 := hb.1
   simp only [Nat.add_zero] at h4
   rw [h3] at h4; cases h4
theorem fl_cho (vg : VG m r) (hV : VZ m l) (hl : l.length = m) : Cho (EM (fl r l m) m) (2 ^ m - 1) := by
 rw [← stN_all hV hl];have key : ∀ n, n ≤ m → Cho (EM (fl r l m) m) (stN (l.drop (m - n))) := by
  intro n;induction n with
  | zero =>
    intro _;rw [Nat.sub_zero, List.drop_of_length_le (by omega)];exact .zero
  | succ n ih =>
    intro hn;obtain ⟨k, hk⟩ : ∃ k, k = m - (n + 1) := ⟨_, rfl⟩;have hkl : k < l.length := by omega
    have ih := ih (by omega);rw [show m - n = k + 1 by omega] at ih;rw [← hk];obtain ⟨v, hv⟩ : ∃ v, v = (l.getD k 0).toNat := ⟨_, rfl⟩;have h0 := hV.2 _ (getD_mem hkl);have hvS : (stN (l.drop k)).testBit v = true := (late_iff hV).2 ⟨k, nr_, hkl, by omega⟩;have hrow : fl r l m v = fl r l k v := by
     have := fl_row vg hV hkl (m - k) (by omega);rw [show k + (m - k) = m by omega, ← hv] at this;exact this
    have h7 := vg.n7;refine .step v hvS (fun a b ha hb hab h1 h2 => ?_) ?_
    ·have ea := h1.2.2;rw [hrow] at ea;have eb := h2.2.2;rw [hrow] at eb;have ham := h1.2.1;refine ⟨h1.2.1, h2.2.1, ?_⟩;have hs : (fl r l (k + 1) a).testBit b = true := by
      show (fillN (fl r l k) (ltN (fl r l k) l (l.getD k 0)) a).testBit b = true;rw [fillN_bit, ltN_at hV.1 hkl, ← hv, Bool.or_eq_true];refine .inr ?_;rw [Bool.and_eq_true];exact ⟨decide_eq_true (mem_listN.2 ⟨by omega, by rw [Nat.testBit_and, ea, ha]; rfl⟩), by rw [Nat.testBit_xor, Nat.testBit_and, eb, hb, Nat.testBit_two_pow, decide_eq_false hab]; rfl⟩
     have := fl_mono hs (m - (k + 1));rw [show k + 1 + (m - (k + 1)) = m by omega] at this;exact this
    ·refine ih.sub fun a ha => ?_
     obtain ⟨ha1, ha2⟩ := (tb_xor hvS).1 ha;obtain ⟨j, hj1, hj2, hj3⟩ := (late_iff hV).1 ha1;refine (late_iff hV).2 ⟨j, ?_, hj2, hj3⟩;by_cases e : j = k
     ·subst e; exact absurd (by omega) ha2
     ·omega
 have := key m nr_;rw [Nat.sub_self] at this;exact this
theorem Cho.order {E : Nat → Nat → Prop} {S : Nat} (h : Cho E S) : ∃ q : List Nat, q.Nodup ∧ (∀ v, v ∈ q ↔ S.testBit v = true) ∧ ∀ k (hk : k < q.length), ∀ a b, a ∈ q.drop k → b ∈ q.drop k → a ≠ b → E q[k] a → E q[k] b → E a b := by
 induction h with
 | zero => exact ⟨[], List.nodup_nil, fun v => by simp, fun k hk => absurd hk (by simp)⟩
 | @step S v hv hs _ ih =>
   obtain ⟨q, h1, h2, h3⟩ := ih;refine ⟨v :: q, List.nodup_cons.2 ⟨fun hm => ((tb_xor hv).1 ((h2 v).1 hm)).2 rfl, h1⟩, fun u => ?_, fun k hk => ?_⟩
   ·rw [List.mem_cons, h2, tb_xor hv];constructor
    ·rintro (rfl | h)
     ·exact hv
     ·exact h.1
    ·intro h;by_cases e : u = v
     ·exact .inl e
     ·exact .inr ⟨h, e⟩
   ·have hin : ∀ a, a ∈ v :: q → S.testBit a = true := fun a ha => by
     rcases List.mem_cons.1 ha with rfl | ha
     ·exact hv
     ·exact ((tb_xor hv).1 ((h2 a).1 ha)).1
    cases k with
    | zero => exact fun a b ha hb hab e1 e2 => hs a b (hin a ha) (hin b hb) hab e1 e2
    | succ k => exact fun a b ha hb hab e1 e2 => h3 k (by simpa using hk) a b ha hb hab e1 e2
theorem fl_within {h : Nat → Nat} (vg : VG m r) (hsub : ∀ v u, v < m → (r v).testBit u = true → (h v).testBit u = true) {q : List Nat} (hn : q.Nodup) (hq : ∀ v ∈ q, v < m) (hs : ∀ k (hk : k < q.length), ∀ a b, a ∈ q.drop k → b ∈ q.drop k → a ≠ b → EM h m q[k] a → EM h m q[k] b → EM h m a b) :
 ∀ k, k ≤ q.length → ∀ v u, v < m → (fl r (ci q) k v).testBit u = true → (h v).testBit u = true := by
 have hV : VZ m (ci q) := by
  refine ⟨?_, fun v hv => ?_⟩
  ·unfold ci;exact List.Pairwise.map _ (fun a b hab e => hab (by omega)) hn
  ·unfold ci at hv;obtain ⟨a, ha, rfl⟩ := List.mem_map.1 hv;have := hq a ha;exact ⟨by omega, by omega⟩
 have hlen : (ci q).length = q.length := by unfold ci; rw [List.length_map]
 intro k;induction k with
 | zero => exact fun _ v u hv hb => hsub v u hv hb
 | succ k ih =>
   intro hk v u hv hb;have ih := ih (by omega);have hkl : k < (ci q).length := by omega
   change (fillN (fl r (ci q) k) (ltN (fl r (ci q) k) (ci q) ((ci q).getD k 0)) v).testBit u = true at hb;have hg : ((ci q).getD k 0) = ((q[k]'(by omega) : Nat) : Int) := by rw [getDI hkl]; exact ci_at (by omega)
   have hgm : q[k]'(by omega) < m := hq _ (List.getElem_mem _);rw [fillN_bit, ltN_at hV.1 hkl, hg, Int.toNat_natCast, Bool.or_eq_true, Bool.and_eq_true, decide_eq_true_eq] at hb;rcases hb with hb | ⟨h1, h2⟩
   ·exact ih v u hv hb
   ·have h1b := (mem_listN.1 h1).2;rw [Nat.testBit_and, Bool.and_eq_true] at h1b;have hvu : v ≠ u := by
     rintro rfl;rw [Nat.testBit_xor, Nat.testBit_and, h1b.1, h1b.2, Nat.testBit_two_pow] at h2;simp at h2
    rw [Nat.testBit_xor, Nat.testBit_two_pow, decide_eq_false hvu, Bool.xor_false, Nat.testBit_and, Bool.and_eq_true] at h2;have vk := VG.fl vg hV k (by omega);have hum : u < m := bit_lt (vk.lt _ hgm) h2.1;have later : ∀ a, (stN ((ci q).drop k)).testBit a = true → a ∈ q.drop k := fun a ha => by
     obtain ⟨j, hj1, hj2, hj3⟩ := (late_iff hV).1 ha;have hj : j < q.length := by omega
     have e : q[j] = a := by
      rw [getDI hj2, ci_at hj] at hj3;omega
     rw [← e];have hl : j - k < (q.drop k).length := by rw [List.length_drop]; omega
     have : q[j] = (q.drop k)[j - k] := by
      rw [List.getElem_drop];congr 1;omega
     rw [this];exact List.getElem_mem _
    exact (hs k (by omega) v u (later v h1b.2) (later u h2.2) hvu ⟨hgm, hv, ih _ _ hgm h1b.1⟩ ⟨hgm, hum, ih _ _ hgm h2.1⟩).2.2
end
section
variable {m : Nat} {x : Nat → Int} {r s : Nat → Nat} {ps qs : List (Nat × Nat)}
theorem EdN.part (h : EdN r m ps) (hs : qs.Sublist ps) : EdN r m qs := ⟨fun p hp => h.inc p (hs.subset hp), fun p hp => h.new p (hs.subset hp), h.nd.sublist hs⟩
theorem EdN.ne (h : EdN r m ps) : ∀ p ∈ ps, p.1 ≠ p.2 := fun p hp => by have := h.inc p hp; omega
theorem EdN.fit (h : EdN r m ps) : ∀ p ∈ ps, p.1 < m ∧ p.2 < m ∧ p.1 ≠ p.2 := fun p hp => by have := h.inc p hp; omega
theorem aaF_pairs : ∀ (ps : List (Nat × Nat)) (x : Nat → Int), okB (m : Int) m x = true → EdN (rw_ x) m ps → ∃ y, aaF (m : Int) m (PrE ps) x = some y ∧ okB (m : Int) m y = true ∧ rw_ y = foldP (rw_ x) ps
 | [], x, h, _ => ⟨x, rfl, h, rfl⟩
 | p :: ps, x, h, he => by
   have hp := he.inc p (by simp)
   have hn := he.new p (by simp)
   have hb : aeB (m : Int) m x (p.1 : Nat) (p.2 : Nat) = true := by
    unfold aeB;rw [h, decide_eq_true (by omega : (0 : Int) ≤ (p.1 : Nat) ∧ ((p.1 : Nat) : Int) < (m : Int) ∧ (0 : Int) ≤ (p.2 : Nat) ∧ ((p.2 : Nat) : Int) < (m : Int) ∧ ((p.1 : Nat) : Int) ≠ ((p.2 : Nat) : Int)), Int.toNat_natCast, Int.toNat_natCast];rw [show (x p.1).toNat.testBit p.2 = false from hn]; rfl
   have hy : rw_ (aeX (m : Int) m x (p.1 : Nat) (p.2 : Nat)) = orP (rw_ x) p.1 p.2 := by
    funext j
    refine Nat.eq_of_testBit_eq fun i => ?_
    rw [orP_bit (by omega)];unfold aeX;rw [if_pos hb];show (((addN (fun i => (x i).toNat) (p.1 : Int).toNat (p.2 : Int).toNat j : Nat) : Int).toNat).testBit i = _;rw [Int.toNat_natCast, Int.toNat_natCast, Int.toNat_natCast];have hsy := (okB_vg h).1.sym p.1 p.2 (by omega) (by omega);have hn2 : (rw_ x p.2).testBit p.1 = false := by rw [← hsy]; exact hn
    unfold addN;by_cases e1 : j = p.1
    ·rw [if_pos e1, Nat.testBit_xor, Nat.testBit_two_pow, e1];by_cases e2 : p.2 = i
     ·rw [← e2];rw [show (x p.1).toNat.testBit p.2 = false from hn, show (rw_ x p.1).testBit p.2 = false from hn]; simp
     ·have : ¬ ((p.1 = p.1 ∧ p.2 = i) ∨ (p.2 = p.1 ∧ p.1 = i)) := by omega
      rw [decide_eq_false this, decide_eq_false e2]; simp [rw_]
    ·rw [if_neg e1];by_cases e3 : j = p.2
     ·rw [if_pos e3, Nat.testBit_xor, Nat.testBit_two_pow, e3];by_cases e2 : p.1 = i
      ·rw [← e2];rw [show (x p.2).toNat.testBit p.1 = false from hn2, show (rw_ x p.2).testBit p.1 = false from hn2]; simp
      ·have : ¬ ((p.1 = p.2 ∧ p.2 = i) ∨ (p.2 = p.2 ∧ p.1 = i)) := by omega
       rw [decide_eq_false this, decide_eq_false e2]; simp [rw_]
     ·rw [if_neg e3];have : ¬ ((p.1 = j ∧ p.2 = i) ∨ (p.2 = j ∧ p.1 = i)) := by omega
      rw [decide_eq_false this]; simp [rw_]
   have hne := he.ne;obtain ⟨y, h1, h2, h3⟩ := aaF_pairs ps (aeX (m : Int) m x (p.1 : Nat) (p.2 : Nat)) (aeX_ok h) (by
    rw [hy];refine ⟨fun q hq => he.inc q (by simp [hq]), fun q hq => ?_, (List.nodup_cons.1 he.nd).2⟩;have hq1 := he.inc q (by simp [hq]);rw [orP_bit (by omega), he.new q (by simp [hq]), Bool.false_or];apply decide_eq_false;rintro (⟨e1, e2⟩ | ⟨e1, e2⟩)
    ·exact (List.nodup_cons.1 he.nd).1 (by rw [show p = q from Prod.ext e1 e2]; exact hq)
    ·omega)
   exact ⟨y, by show aaF _ _ ([_, _] :: PrE ps) x = _; rw [aaF_yes hb]; exact h1, h2, by rw [h3, hy]; rfl⟩
theorem fiB_pairs (h : okB (m : Int) m x = true) (he : EdN (rw_ x) m ps) : aaB (m : Int) m x (PrE ps) = true ∧ fiB (m : Int) m x (PrE ps) = elimB (foldP (rw_ x) ps) (2 ^ m - 1) ∧ rw_ (aaX (m : Int) m x (PrE ps)) = foldP (rw_ x) ps ∧ okB (m : Int) m (aaX (m : Int) m x (PrE ps)) = true := by
 obtain ⟨y, h1, h2, h3⟩ := aaF_pairs ps x h he;obtain ⟨a1, a2, a3, a4⟩ := aa_some (by rw [aaR_yes h]; exact h1 : aaR (m : Int) m x (PrE ps) = some y);refine ⟨a1, ?_, by rw [a4]; exact h3, by rw [a4]; exact h2⟩;unfold fiB;rw [a2, a3, a4];unfold chB;rw [h2, h3]; rfl
theorem fold_vg (vg : VG m r) (he : EdN r m ps) : VG m (foldP r ps) := vg.foldP _ he.fit
theorem fiB_cho (h : okB (m : Int) m x = true) (he : EdN (rw_ x) m ps) : fiB (m : Int) m x (PrE ps) = true ↔ Cho (EM (foldP (rw_ x) ps) m) (2 ^ m - 1) := by
 rw [(fiB_pairs h he).2.1];exact elimB_cho (fold_vg (okB_vg h).1 he) _ (by have := Nat.two_pow_pos m; omega)
theorem chB_cho (h : okB (m : Int) m x = true) : chB (m : Int) m x = true ↔ Cho (EM (rw_ x) m) (2 ^ m - 1) := by
 unfold chB;rw [h, Bool.true_and];exact elimB_cho (okB_vg h).1 _ (by have := Nat.two_pow_pos m; omega)
theorem swE_list {y : Nat → Int} : (edAll y m).filter (pOpt x) = PrE (swE (rw_ x) (rw_ y) m) := by
 unfold edAll swE PrE;rw [List.filter_map];rfl
theorem mem_swE {v u : Nat} : (v, u) ∈ swE r s m ↔ v < u ∧ u < m ∧ (s v).testBit u = true ∧ (r v).testBit u = false := by
 unfold swE;rw [List.mem_filter, List.mem_filter, mem_pr];constructor
 ·rintro ⟨⟨h1, h2⟩, h3⟩;exact ⟨h1.1, h1.2, h2, by simpa using h3⟩
 ·rintro ⟨h1, h2, h3, h4⟩;exact ⟨⟨⟨h1, h2⟩, h3⟩, by simpa using h4⟩
theorem foldP_swE (vr : VG m r) (vs : VG m s) (hsub : ∀ v u, v < m → (r v).testBit u = true → (s v).testBit u = true) {v u : Nat} (hv : v < m) (hu : u < m) : (foldP r (swE r s m) v).testBit u = (s v).testBit u := by
 rw [foldP_bit _ _ (swE_new r s m).ne];cases hr : (r v).testBit u
 ·rw [Bool.false_or];cases hs : (s v).testBit u
  ·apply decide_eq_false;rintro (h | h)
   ·rw [(mem_swE.1 h).2.2.1] at hs; cases hs
   ·have := (mem_swE.1 h).2.2.1;rw [vs.sym u v hu hv, hs] at this; cases this
  ·apply decide_eq_true;have hne : v ≠ u := by rintro rfl; rw [vs.irr v hv] at hs; cases hs
   by_cases hlt : v < u
   ·exact .inl (mem_swE.2 ⟨hlt, hu, hs, hr⟩)
   ·exact .inr (mem_swE.2 ⟨by omega, hv, by rw [vs.sym u v hu hv]; exact hs, by rw [vr.sym u v hu hv]; exact hr⟩)
 ·rw [Bool.true_or, hsub v u hv hr]
end
open Go.RowKit
set_option maxHeartbeats 1600000
noncomputable def icB (s1 : Int) (m1 : Nat) (x1 : Nat → Int) (s2 : Int) (m2 : Nat) (x2 : Nat → Int) : Bool := wiB s1 m1 x1 s2 m2 x2 && chB s2 m2 x2
theorem icB_eq {s1 s2 : Int} {m1 m2 : Nat} {x1 x2 : Nat → Int} {a b : Bool} (h : wiB s1 m1 x1 s2 m2 x2 = a) (h2 : chB s2 m2 x2 = b) : icB s1 m1 x1 s2 m2 x2 = (a && b) := by unfold icB; rw [h, h2]
theorem chB_ok {sz : Int} {m : Nat} {x : Nat → Int} (h : chB sz m x = true) : okB sz m x = true := by
 unfold chB at h;cases ho : okB sz m x
 ·rw [ho] at h; cases h
 ·rfl
theorem okB_OkG {sz : Int} {m : Nat} {x : Nat → Int} (h : okB sz m x = true) : OkG sz m x := by
 refine Classical.byContradiction fun h2 => ?_
 rw [okB_no h2] at h; cases h
theorem IsCompletion_i (s1 : Int) (A1 : Option Addr) (m1 c1 : Nat) (x1 : Nat → Int) (s2 : Int) (A2 : Option Addr) (m2 c2 : Nat) (x2 : Nat → Int) (w : World) (B : Nat) (h1 : Rd w B A1 m1 c1 x1) (h2 : Rd w B A2 m2 c2 x2) (hB : B ≤ w.heap.size) (hm1 : m1 ≤ 1048576) (hm2 : m2 ≤ 1048576) :
 Calls Tryz.prog 27 #[.agg #[.int .i64 s1, .slice A1 m1 c1], .agg #[.int .i64 s2, .slice A2 m2 c2]] w fun e w' => e = .returned (.bool (icB s1 m1 x1 s2 m2 x2)) ∧ Below w.heap.size w w' := by
 obtain ⟨W, hW⟩ : ∃ W, W = ((w.alloc (Obj.cells #[.int .i64 s1, .slice A1 m1 c1] 26)).alloc (Obj.cells #[.int .i64 s2, .slice A2 m2 c2] 26)) := ⟨_, rfl⟩;have HB : Hid (Below w.heap.size w W) := by rw [hW]; exact (br_.alloc nr_ _).alloc (by simp) _
 have hsz : w.heap.size + 1 < W.heap.size := by rw [hW]; simp
 have e2 : W.cell? ⟨w.heap.size + 1, 0, none⟩ = some (.int .i64 s2) := by rw [hW]; simp [go_sem]
 have e3 : W.cell? ⟨w.heap.size + 1, 1, none⟩ = some (.slice A2 m2 c2) := by rw [hW]; simp [go_sem]
 have k1 := hh_ (h1.keep (HB.mono hB) nr_);have k2 := hh_ (h2.keep (HB.mono hB) nr_);have HW := hh_ hW;clear hW h1 h2;go_enter Tryz.func27, Tryz.ntmps27;go_wp2_with fail
 rw [← HW.out];clear HW;refine (isWithin_any s1 s2 A1 A2 m1 m2 c1 c2 x1 x2 W B k1.out k2.out (by omega) hm1 hm2).mono ?_;rintro e w1 ⟨rfl, hb1⟩;have f2 := up hb1 e2 hsz;have f3 := up hb1 e3 hsz;have z1 := hb1.size;have k3 := hh_ (k2.keep (hb1.mono (by omega)) nr_);have HB1 : Hid (Below w.heap.size w w1) := HB.trans (hb1.mono (by omega));clear hb1 e2 e3 k1 k2 HB;cases hw : wiB s1 m1 x1 s2 m2 x2
 ·have hno : Hid (icB s1 m1 x1 s2 m2 x2 = false) := icB_eq hw rfl;clear hw;go_wp2;go_ret;exact ⟨ret_bool hno.symm, HB1⟩
 ·have hch : Hid (icB s1 m1 x1 s2 m2 x2 = chB s2 m2 x2) := (icB_eq hw rfl).trans (Bool.true_and _);clear hw;go_wp2_with fail
  refine (IsChordal_ix s2 A2 m2 c2 x2 w1 B k3.out (by omega) hm2).mono ?_;rintro e w2 ⟨rfl, hb2⟩;have HB2 : Hid (Below w.heap.size w w2) := HB1.trans (hb2.mono (by omega));clear hb2 k3;go_wp2;go_ret;exact ⟨ret_bool hch.symm, HB2⟩
set_option maxRecDepth 100000 in
theorem IsCompletion_s (s1 : Int) (A1 : Option Addr) (m1 c1 : Nat) (x1 : Nat → Int) (s2 : Int) (A2 : Option Addr) (m2 c2 : Nat) (x2 : Nat → Int) (w : World) (B : Nat) (h1 : Rd w B A1 m1 c1 x1) (h2 : Rd w B A2 m2 c2 x2) (hB : B ≤ w.heap.size) (hm1 : m1 ≤ 1048576) (hm2 : m2 ≤ 1048576) :
 Calls Tryz.prog 42 #[.agg #[.int .i64 s1, .slice A1 m1 c1], .agg #[.int .i64 s2, .slice A2 m2 c2]] w fun e w' => e = .returned (.bool (icB s1 m1 x1 s2 m2 x2)) ∧ Below w.heap.size w w' := by
 obtain ⟨W, hW⟩ : ∃ W, W = ((w.alloc (Obj.cells #[.int .i64 s1, .slice A1 m1 c1] 26)).alloc (Obj.cells #[.int .i64 s2, .slice A2 m2 c2] 26)) := ⟨_, rfl⟩;have HB : Hid (Below w.heap.size w W) := by rw [hW]; exact (br_.alloc nr_ _).alloc (by simp) _
 have hsz : w.heap.size + 1 < W.heap.size := by rw [hW]; simp
 have e0 : W.cell? ⟨w.heap.size, 0, none⟩ = some (.int .i64 s1) := by rw [hW]; simp [go_sem]
 have e1 : W.cell? ⟨w.heap.size, 1, none⟩ = some (.slice A1 m1 c1) := by rw [hW]; simp [go_sem]
 have e2 : W.cell? ⟨w.heap.size + 1, 0, none⟩ = some (.int .i64 s2) := by rw [hW]; simp [go_sem]
 have e3 : W.cell? ⟨w.heap.size + 1, 1, none⟩ = some (.slice A2 m2 c2) := by rw [hW]; simp [go_sem]
 have k1 := h1.keep (HB.mono hB) nr_;have k2 := h2.keep (HB.mono hB) nr_;have HW := hh_ hW;clear hW h1 h2;go_enter Tryz.func42, Tryz.ntmps42;go_wp2_with fail
 rw [← HW.out];refine (IsGraph_sany s1 A1 m1 c1 x1 W B k1 (by omega) hm1).mono ?_;rintro e w1 ⟨rfl, hb1⟩;have f0 := (hb1.cell (p := ⟨w.heap.size, 0, none⟩) (by show w.heap.size < _; omega)).trans e0;have f1 := (hb1.cell (p := ⟨w.heap.size, 1, none⟩) (by show w.heap.size < _; omega)).trans e1;have f2 := (hb1.cell (p := ⟨w.heap.size + 1, 0, none⟩) (by show w.heap.size + 1 < _; omega)).trans e2;have f3 := (hb1.cell (p := ⟨w.heap.size + 1, 1, none⟩) (by show w.heap.size + 1 < _; omega)).trans e3;have z1 := hb1.size;have k1' := k1.keep (hb1.mono (by omega)) nr_;have k2' := k2.keep (hb1.mono (by omega)) nr_;have HB1 := hh_ (HB.trans (hb1.mono (by omega)));clear HW HB e0 e1 e2 e3 k1 k2 hb1;cases ho1 : okB s1 m1 x1
 ·have hno : Hid (icB s1 m1 x1 s2 m2 x2 = false) := icB_eq (a := false) (wiB_no (fun h => by rw [okB_yes h.1] at ho1; cases ho1)) rfl;clear ho1;go_wp2;go_ret;exact ⟨ret_bool hno.symm, HB1⟩
 ·have Ho1 := hh_ ho1;clear ho1;go_wp2_with fail
  refine (IsChordal_sx s2 A2 m2 c2 x2 w1 B k2' (by omega) hm2).mono ?_;rintro e w2 ⟨rfl, hb2⟩;have g0 := (hb2.cell (p := ⟨w.heap.size, 0, none⟩) (by show w.heap.size < _; omega)).trans f0;have g1 := (hb2.cell (p := ⟨w.heap.size, 1, none⟩) (by show w.heap.size < _; omega)).trans f1;have g2 := (hb2.cell (p := ⟨w.heap.size + 1, 0, none⟩) (by show w.heap.size + 1 < _; omega)).trans f2;have g3 := (hb2.cell (p := ⟨w.heap.size + 1, 1, none⟩) (by show w.heap.size + 1 < _; omega)).trans f3;have z2 := hb2.size;have l1 := k1'.keep (hb2.mono (by omega)) nr_;have l2 := k2'.keep (hb2.mono (by omega)) nr_;have HB2 := hh_ (HB1.trans (hb2.mono (by omega)));clear HB1 f0 f1 f2 f3 k1' k2' hb2;cases hc2 : chB s2 m2 x2
  ·have hno : Hid (icB s1 m1 x1 s2 m2 x2 = false) := (icB_eq rfl hc2).trans (by cases wiB s1 m1 x1 s2 m2 x2 <;> rfl);clear hc2;go_wp2;go_ret;exact ⟨ret_bool hno.symm, HB2⟩
  ·have ho2 := chB_ok hc2;have Hc2 := hh_ hc2;clear hc2;by_cases hs : s1 = s2
   ·have hok1 : OkG s1 m1 x1 := by
     refine Classical.byContradiction fun h => ?_
     have := Ho1.out; rw [okB_no h] at this; cases this
    have hok2 : OkG s2 m2 x2 := by
     refine Classical.byContradiction fun h => ?_
     rw [okB_no h] at ho2; cases ho2
    have Hok1 := hh_ hok1;have Hok2 := hh_ hok2;obtain ⟨r1, rfl, v1, hx1⟩ := hok1;obtain ⟨r2, rfl, v2, hx2⟩ := hok2;obtain rfl : m1 = m2 := by omega
    have := v1.n1;have hm7 := v1.n7;have HX1 := hh_ hx1;have HX2 := hh_ hx2;clear ho2 Ho1 hs hx1 hx2;obtain ⟨b1, o1, rfl, l1', c1'⟩ := l1.pos (by omega);obtain ⟨b2, o2, rfl, l2', c2'⟩ := l2.pos (by omega);clear l1 l2;go_wp2;go_loopw [5] (fun i wr => ∃ k : Nat, k ≤ m1 ∧ i = .int .i64 k ∧ Hid (∀ v, v < k → (x1 v).toNat &&& (x2 v).toNat = (x1 v).toNat) ∧ Below w2.heap.size w2 wr) (fun i _ => m1 - (intOf i).toNat);case atStart => exact ⟨0, Nat.zero_le _, rfl, fun v hv => absurd hv (by omega), br_⟩
    case round =>
     obtain ⟨k, hk, rfl, hall, hbr⟩ := hrel;have q0 := (hbr.cell (p := ⟨w.heap.size, 0, none⟩) (by show w.heap.size < _; omega)).trans g0;by_cases hlt : k < m1
     ·have q1 := (hbr.cell (p := ⟨b1, o1 + k, none⟩) (by show b1 < _; omega)).trans (c1' k hlt);have q2 := (hbr.cell (p := ⟨b2, o2 + k, none⟩) (by show b2 < _; omega)).trans (c2' k hlt);have q8 := (hbr.cell (p := ⟨w.heap.size, 1, none⟩) (by show w.heap.size < _; omega)).trans g1;have q9 := (hbr.cell (p := ⟨w.heap.size + 1, 1, none⟩) (by show w.heap.size + 1 < _; omega)).trans g3;have i1 : (k : Int) < m1 := by omega
      have q3 := v1.lt128 hlt;have q4 := v2.lt128 hlt;have q5 := HX1.out k hlt;have q6 := HX2.out k hlt;have q7 := i64_and (x1 k) (x2 k) (by omega) (by omega) (by omega) (by omega);by_cases hz : (x1 k).toNat &&& (x2 k).toNat = (x1 k).toNat
      ·have hne : (bits BinOp.and .i64 (x1 k) (x2 k) != x1 k) = false := by rw [q7, hz, bne_eq_false_iff_eq]; omega
       clear c1' c2' q5 q6 q3 q4 q7 g0 g1 g2 g3;have Hz := hh_ hz;clear hz;go_wp2;go_quiet (fail)
       go_wp2;go_roundw;case rel =>
        refine ⟨k + 1, by omega, by go_num, fun v hv => ?_, below_drewN hbr _⟩;by_cases hvk : v < k
        ·exact hall.out v hvk
        ·obtain rfl : v = k := by omega
         exact Hz.out
       case measure => simp [intOf]; omega
      ·have hno : Hid (icB (m1 : Int) m1 x1 (m1 : Int) m1 x2 = false) := icB_eq (a := false) (wiB_no (fun h => hz (h.2.2.2 k hlt))) rfl;have hne : (bits BinOp.and .i64 (x1 k) (x2 k) != x1 k) = true := by
        rw [q7, bne_iff_ne];intro h;exact hz (by omega)
       clear c1' c2' q5 q6 q3 q4 q7 hz g0 g1 g2 g3;go_wp2;go_quiet (fail)
       go_wp2;go_ret;exact ⟨ret_bool hno.symm, HB2.trans (below_drewN (hbr.mono (by omega)) _)⟩
     ·have hge : (m1 : Int) ≤ k := by omega
      have hyes : Hid (icB (m1 : Int) m1 x1 (m1 : Int) m1 x2 = true) := icB_eq (a := true) (wiB_yes ⟨Hok1.out, Hok2.out, rfl, fun v hv => hall.out v (by omega)⟩) Hc2.out;clear c1' c2' g0 g1 g2 g3;go_wp2;go_ret;exact ⟨ret_bool hyes.symm, HB2.trans (hbr.mono (by omega))⟩
   ·have hno : Hid (icB s1 m1 x1 s2 m2 x2 = false) := icB_eq (a := false) (wiB_no (fun h => hs h.2.2.1)) rfl;have hne : (s1 != s2) = true := by simp [hs]
    clear ho2 hs;go_wp2;go_ret;exact ⟨ret_bool hno.symm, HB2⟩
end Go.Proofs.YticadlkcjhglnaaGreat
