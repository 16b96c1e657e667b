/-
  Plain: a vertex's later neighbours in the filled graph are those to which ways lead through what stands before it.
-/
import Derived.Test.YtjonhbmgmamchaaGreatDoorRdFillP
import Derived.Test.YtjonhbmgmamchaaGreatDoorRdGA
namespace Go.Proofs.YtjonhbmgmamchaaGreatDoor

/-- A way from one vertex to another whose inner vertices have a property. -/
inductive Thr (r : Nat → Nat) (P : Nat → Prop) : Nat → Nat → Prop
  | edge {u w : Nat} : (r u).testBit w = true → Thr r P u w
  | step {u x w : Nat} : (r u).testBit x = true → P x → Thr r P x w → Thr r P u w
/-- What a vertex sees outside of a set when it goes through the set. -/
def rchN (r : Nat → Nat) (m S v : Nat) : Nat := (part r S (2 ^ v) ||| nb r (part r S (2 ^ v))) &&& ((2 ^ m - 1) ^^^ S)
section
variable {r : Nat → Nat} {m u v w x k S : Nat} {P Q : Nat → Prop} {l : List Int}
theorem Thr.mono (h : ∀ z, P z → Q z) (t : Thr r P u w) : Thr r Q u w := by
  induction t with
  | edge e => exact .edge e
  | step e p _ ih => exact .step e (h _ p) ih
theorem Thr.trans (a : Thr r P u v) (p : P v) (b : Thr r P v w) : Thr r P u w := by
  induction a with
  | edge e => exact .step e p b
  | step e q _ ih => exact .step e q (ih p b)
theorem Thr.sym (vg : VG m r) (hP : ∀ z, P z → z < m) (hu : u < m) (hw : w < m) (t : Thr r P u w) : Thr r P w u := by
  induction t with
  | edge e => exact .edge (by rw [vg.sym _ _ hw hu]; exact e)
  | step e p _ ih => exact (ih (hP _ p) hw).trans p (.edge (by rw [vg.sym _ _ (hP _ p) hu]; exact e))
/-- One inner vertex more. -/
theorem thr_add : Thr r (fun z => P z ∨ z = v) u w ↔ Thr r P u w ∨ (Thr r P u v ∧ Thr r P v w) := by
  constructor
  · intro t
    induction t with
    | edge e => exact .inl (.edge e)
    | step e p _ ih =>
      rcases p with p | rfl
      · rcases ih with h | ⟨h1, h2⟩
        · exact .inl (.step e p h)
        · exact .inr ⟨.step e p h1, h2⟩
      · rcases ih with h | ⟨h1, h2⟩
        · exact .inr ⟨.edge e, h⟩
        · exact .inr ⟨.edge e, h2⟩
  · rintro (h | ⟨h1, h2⟩)
    · exact h.mono fun z => .inl
    · exact (h1.mono fun z => .inl).trans (.inr rfl) (h2.mono fun z => .inl)
theorem thr_self : Thr r (fun z => P z ∨ z = v) v w ↔ Thr r P v w := by
  rw [thr_add]
  exact ⟨fun h => h.elim id (·.2), .inl⟩
theorem gro_thr {s : Nat} (hs : s.testBit v = true) : ∀ k {u}, (gro r s (2 ^ v) k).testBit u = true → u = v ∨ Thr r (fun z => s.testBit z = true) v u := by
  intro k
  induction k with
  | zero =>
    intro u hu
    rw [gro, Nat.testBit_two_pow, decide_eq_true_eq] at hu
    exact .inl hu.symm
  | succ k ih =>
    intro u hu
    rw [gro, stp_bit, nb_bit] at hu
    rcases hu.1 with h | ⟨y, _, h1, h2⟩
    · exact ih h
    · rcases ih h1 with rfl | h
      · exact .inr (.edge h2)
      · refine .inr (h.trans ?_ (.edge h2))
        have hsub : Sub (2 ^ v) s := fun j hj => by
          rw [Nat.testBit_two_pow, decide_eq_true_eq] at hj
          subst hj; exact hs
        exact gro_sub hsub k y h1
/-- Outside of a set: seen from the part of a vertex, or by a way through the set. -/
theorem part_thr (hm : m ≤ 7) (hS : S < 2 ^ m) (hv : S.testBit v = true) (hw : S.testBit w = false) :
    (part r S (2 ^ v) ||| nb r (part r S (2 ^ v))).testBit w = true ↔ Thr r (fun z => S.testBit z = true) v w := by
  have hsub : Sub (2 ^ v) S := fun j hj => by
    rw [Nat.testBit_two_pow, decide_eq_true_eq] at hj
    subst hj; exact hv
  have h0 : (2 ^ v : Nat) ≠ 0 := Nat.ne_of_gt (Nat.two_pow_pos v)
  have hin : ∀ z, (part r S (2 ^ v)).testBit z = true → S.testBit z = true := fun z => gro_sub hsub 7 z
  rw [Nat.testBit_or, Bool.or_eq_true]
  constructor
  · rintro (h | h)
    · have := hin w h; rw [hw] at this; cases this
    · obtain ⟨y, _, h1, h2⟩ := nb_bit.1 h
      rcases gro_thr hv 7 h1 with rfl | h
      · exact .edge h2
      · exact h.trans (hin y h1) (.edge h2)
  · intro t
    have key : ∀ {a b : Nat}, Thr r (fun z => S.testBit z = true) a b → (part r S (2 ^ v)).testBit a = true → (nb r (part r S (2 ^ v))).testBit b = true := by
      intro a b t
      have h7 : ∀ {z}, (part r S (2 ^ v)).testBit z = true → z < 7 := fun {z} hz => by
        have h1 := hin z hz
        refine Classical.byContradiction fun hn => ?_
        rw [Nat.testBit_lt_two_pow (Nat.lt_of_lt_of_le hS (Nat.pow_le_pow_right (by omega) (by omega)))] at h1; cases h1
      induction t with
      | edge e => intro ha; exact nb_bit.2 ⟨_, h7 ha, ha, e⟩
      | step e p _ ih =>
        intro ha
        refine ih ?_
        have hf : gro r S (2 ^ v) 8 = gro r S (2 ^ v) 7 := gro_stop (n := 7) (by omega) (Nat.lt_of_lt_of_le hS (two_pow_le hm)) hsub h0
        show (gro r S (2 ^ v) 7).testBit _ = true
        rw [← hf, gro, stp_bit]
        exact ⟨.inr (nb_bit.2 ⟨_, h7 ha, ha, e⟩), p⟩
    exact .inr (key t (gro_from hsub 7 v (by rw [Nat.testBit_two_pow]; simp)))
theorem fillN_bit {s : Nat} (hu : u < 7) (hne : u ≠ w) : (fillN r s u).testBit w = true ↔ (r u).testBit w = true ∨ (s.testBit u = true ∧ s.testBit w = true) := by
  unfold fillN
  by_cases h : u ∈ listN s
  · rw [if_pos h, Nat.testBit_or, Nat.testBit_xor, Nat.testBit_two_pow, decide_eq_false hne, Bool.xor_false, Bool.or_eq_true]
    have := (mem_listN.1 h).2
    exact ⟨fun h => h.imp id fun h => ⟨this, h⟩, fun h => h.imp id (·.2)⟩
  · rw [if_neg h]
    exact ⟨.inl, fun h' => h'.elim id fun h' => absurd (mem_listN.2 ⟨hu, h'.1⟩) h⟩
theorem ixN_atT (hn : l.Nodup) (hk : k < l.length) : ixN l (l.getD k 0) = k := by
  obtain ⟨h1, _, h3, h4⟩ := ixN_in (getD_mem hk)
  rcases Nat.lt_trichotomy (ixN l (l.getD k 0)) k with h | h | h
  · have : l[ixN l (l.getD k 0)] = l[k] := by
      have e1 : l.getD (ixN l (l.getD k 0)) 0 = l[ixN l (l.getD k 0)] := by rw [List.getD_eq_getElem?_getD, List.getElem?_eq_getElem h1]; rfl
      have e2 : l.getD k 0 = l[k] := by rw [List.getD_eq_getElem?_getD, List.getElem?_eq_getElem hk]; rfl
      rw [← e1, ← e2, h3]
    exact absurd ((List.getElem_inj hn).1 this) (Nat.ne_of_lt h)
  · exact h
  · exact absurd rfl (h4 k h)
theorem in_drop (hu : (u : Int) ∈ l) (hn : l.Nodup) : (u : Int) ∈ l.drop k ↔ (u : Int) ∉ l.take k := by
  rw [← List.take_append_drop k l] at hu hn
  rw [List.mem_append] at hu
  rw [List.nodup_append] at hn
  exact ⟨fun h1 h2 => hn.2.2 _ h2 _ h1 rfl, fun h => hu.resolve_left h⟩
theorem ltN_bit (hV : VZ m l) (hall : ∀ u, u < m → (u : Int) ∈ l) (hk : k < l.length) {G : Nat → Nat} (hw : w < m) :
    (ltN G l (l.getD k 0)).testBit w = true ↔ (G (l.getD k 0).toNat).testBit w = true ∧ (w : Int) ∉ l.take k := by
  unfold ltN
  rw [ixN_atT hV.1 hk, Nat.testBit_and, Bool.and_eq_true, stN_bit (fun v hv => (hV.2 v (List.mem_of_mem_drop hv)).1), in_drop (hall w hw) hV.1]
theorem take_in1 (hk : k < l.length) {z : Int} : z ∈ l.take (k + 1) ↔ z ∈ l.take k ∨ z = l.getD k 0 := by
  rw [List.take_add_one, List.getElem?_eq_getElem hk, List.mem_append, List.getD_eq_getElem?_getD, List.getElem?_eq_getElem hk]
  simp
/-- Edges between what is left: ways through what was taken. -/
theorem fl_thr (vg : VG m r) (hV : VZ m l) (hall : ∀ u, u < m → (u : Int) ∈ l) : ∀ k, k ≤ l.length → ∀ u w, u < m → w < m → u ≠ w → (u : Int) ∉ l.take k → (w : Int) ∉ l.take k →
    ((fl r l k u).testBit w = true ↔ Thr r (fun z => (z : Int) ∈ l.take k) u w) := by
  intro k
  induction k with
  | zero =>
    intro _ u w hu hw hne _ _
    refine ⟨.edge, fun t => ?_⟩
    cases t with
    | edge e => exact e
    | step _ p _ => simp at p
  | succ k ih =>
    intro hk u w hu hw hne h1 h2
    rw [take_in1 (by omega)] at h1 h2
    have h1' := not_or.1 h1
    have h2' := not_or.1 h2
    have hm := hV.2 _ (getD_mem (l := l) (k := k) (by omega))
    obtain ⟨v, hv⟩ := Int.eq_ofNat_of_zero_le hm.1
    rw [hv] at h1' h2' hm
    have hvm : v < m := by omega
    have huv : v ≠ u := by rintro rfl; exact h1'.2 rfl
    have hwv : v ≠ w := by rintro rfl; exact h2'.2 rfl
    have hvt : (v : Int) ∉ l.take k := by
      rw [← hv]
      have hn := hV.1
      rw [← List.take_append_drop k l, List.nodup_append] at hn
      intro h
      refine hn.2.2 _ h _ ?_ rfl
      rw [List.getD_eq_getElem?_getD, List.getElem?_eq_getElem (by omega)]
      exact List.mem_drop_iff_getElem.2 ⟨0, by omega, by simp⟩
    have hP : ∀ z : Nat, (z : Int) ∈ l.take k → z < m := fun z hz => by have := (hV.2 _ (List.mem_of_mem_take hz)).2; omega
    have e1 : (Thr r (fun z => (z : Int) ∈ l.take (k + 1)) u w) ↔ Thr r (fun z => (z : Int) ∈ l.take k ∨ z = v) u w := by
      have : (fun z : Nat => (z : Int) ∈ l.take (k + 1)) = fun z : Nat => (z : Int) ∈ l.take k ∨ z = v := by
        funext z; rw [take_in1 (by omega), hv]; exact propext (or_congr Iff.rfl ⟨fun h => by omega, fun h => by omega⟩)
      rw [this]
    have b1 := ltN_bit hV hall (k := k) (by omega) (G := fl r l k) hu
    have b2 := ltN_bit hV hall (k := k) (by omega) (G := fl r l k) hw
    have hvn : (l.getD k 0).toNat = v := by rw [hv]; rfl
    rw [hvn] at b1 b2
    rw [e1, thr_add, fl, fillN_bit (Nat.lt_of_lt_of_le hu vg.n7) hne, ih (by omega) u w hu hw hne h1'.1 h2'.1, b1, b2,
      ih (by omega) v u hvm hu huv hvt h1'.1, ih (by omega) v w hvm hw hwv hvt h2'.1]
    refine or_congr Iff.rfl ⟨fun h => ⟨h.1.1.sym vg hP hvm hu, h.2.1⟩, fun h => ⟨⟨h.1.sym vg hP hu hvm, h1'.1⟩, h.2, h2'.1⟩⟩
/-- A row is not changed any more once its vertex was taken. -/
theorem fl_rest (vg : VG m r) (hV : VZ m l) (hk : k < l.length) : ∀ d, k + d ≤ l.length → fl r l (k + d) (l.getD k 0).toNat = fl r l k (l.getD k 0).toNat := by
  intro d
  induction d with
  | zero => intro _; rfl
  | succ d ih =>
    intro hd
    rw [← ih (by omega), ← Nat.add_assoc, fl]
    have hm := hV.2 _ (getD_mem (l := l) (k := k) hk)
    obtain ⟨v, hv⟩ := Int.eq_ofNat_of_zero_le hm.1
    have hvn : (l.getD k 0).toNat = v := by rw [hv]; rfl
    rw [hvn]
    unfold fillN
    rw [if_neg]
    intro h
    have h2 := (mem_listN.1 h).2
    unfold ltN at h2
    rw [ixN_atT hV.1 (by omega), Nat.testBit_and, Bool.and_eq_true, stN_bit (fun z hz => (hV.2 z (List.mem_of_mem_drop hz)).1)] at h2
    by_cases h0 : d = 0
    · subst h0
      rw [Nat.add_zero, hvn] at h2
      rw [(vg.fl hV k (by omega)).irr v (by omega)] at h2
      cases h2.1
    · have hn := hV.1
      rw [← List.take_append_drop (k + d) l, List.nodup_append] at hn
      refine hn.2.2 (v : Int) ?_ _ h2.2 rfl
      rw [← hv, List.getD_eq_getElem?_getD, List.getElem?_eq_getElem hk]
      exact List.mem_take_iff_getElem.2 ⟨k, by omega, rfl⟩
/-- The later neighbours in the filled graph. -/
theorem later_rch (vg : VG m r) (hV : VZ m l) (hall : ∀ u, u < m → (u : Int) ∈ l) (hk : k < l.length) :
    ltN (fl r l l.length) l (l.getD k 0) = rchN r m (stN (l.take (k + 1))) (l.getD k 0).toNat := by
  have hm := hV.2 _ (getD_mem (l := l) (k := k) hk)
  obtain ⟨v, hv⟩ := Int.eq_ofNat_of_zero_le hm.1
  have hvn : (l.getD k 0).toNat = v := by rw [hv]; rfl
  have hvm : v < m := by omega
  have hrow := fl_rest vg hV hk (l.length - k) (by omega)
  rw [show k + (l.length - k) = l.length by omega] at hrow
  have hS : stN (l.take (k + 1)) < 2 ^ m := stN_lt fun z hz => hV.2 z (List.mem_of_mem_take hz)
  have hSb : ∀ z : Nat, (stN (l.take (k + 1))).testBit z = true ↔ (z : Int) ∈ l.take (k + 1) := fun z => stN_bit fun y hy => (hV.2 y (List.mem_of_mem_take hy)).1
  have hvt : (v : Int) ∉ l.take k := by
    rw [← hv]
    have hn := hV.1
    rw [← List.take_append_drop k l, List.nodup_append] at hn
    intro h
    refine hn.2.2 _ h _ ?_ rfl
    rw [List.getD_eq_getElem?_getD, List.getElem?_eq_getElem hk]
    exact List.mem_drop_iff_getElem.2 ⟨0, by omega, by simp⟩
  apply Nat.eq_of_testBit_eq
  intro w
  rw [Bool.eq_iff_iff]
  by_cases hw : w < m
  · rw [ltN_bit hV hall hk hw, hrow, hvn]
    unfold rchN
    rw [Nat.testBit_and, Bool.and_eq_true, Nat.testBit_xor, Nat.testBit_two_pow_sub_one, decide_eq_true hw]
    have e1 : (fun z : Nat => (stN (l.take (k + 1))).testBit z = true) = fun z : Nat => (z : Int) ∈ l.take k ∨ z = v := by
      funext z; rw [hSb, take_in1 hk, hv]; exact propext (or_congr Iff.rfl ⟨fun h => by omega, fun h => by omega⟩)
    have hvS : (stN (l.take (k + 1))).testBit v = true := (hSb v).2 ((take_in1 hk).2 (.inr hv.symm))
    by_cases hwS : (stN (l.take (k + 1))).testBit w = true
    · rw [hwS]
      refine ⟨fun h => ?_, fun h => by simp at h⟩
      rw [hSb, take_in1 hk, hv] at hwS
      rcases hwS with h' | h'
      · exact absurd h' h.2
      · have : w = v := by omega
        subst this
        have h3 := (vg.fl hV k (by omega)).irr w hvm
        rw [h3] at h; cases h.1
    · have hwf : (stN (l.take (k + 1))).testBit w = false := by simpa using hwS
      rw [hwf, part_thr vg.n7 hS hvS hwf, e1, thr_self]
      have hne : v ≠ w := by rintro rfl; exact hwS hvS
      have hwt : (w : Int) ∉ l.take k := fun h => hwS ((hSb w).2 ((take_in1 hk).2 (.inl h)))
      rw [fl_thr vg hV hall k (by omega) v w hvm hw hne hvt hwt]
      exact ⟨fun h => ⟨h.1, rfl⟩, fun h => ⟨h.1, hwt⟩⟩
  · have hl : ∀ {z : Nat}, z < 2 ^ m → z.testBit w = false := fun {z} hz => Nat.testBit_lt_two_pow (Nat.lt_of_lt_of_le hz (Nat.pow_le_pow_right (by omega) (by omega)))
    rw [hl (ltN_lt (vg.fl hV l.length (Nat.le_refl _)) hm.1 hm.2)]
    unfold rchN
    rw [Nat.testBit_and, hl (show (2 ^ m - 1) ^^^ stN (l.take (k + 1)) < 2 ^ m from Nat.xor_lt_two_pow (by have := Nat.two_pow_pos m; omega) hS), Bool.and_false]
end
end Go.Proofs.YtjonhbmgmamchaaGreatDoor
