/-
  Several texts in one.
-/
import Derived.Test.YtfabbohijhjpcaaGreatDoorRcObfI
import Derived.Test.YtfabbohijhjpcaaGreatDoorRcObfS
import Derived.Test.YtfabbohijhjpcaaGreatDoorRcFillP
import Derived.Test.YtfabbohijhjpcaaGreatDoorRcGA
/-
-/
namespace Go.Proofs.YtfabbohijhjpcaaGreatDoor
open Go.RowKit
section
variable {r : Nat → Nat} {m n k : Nat} {l : List Nat} {may hol : List Nat → Bool}
theorem sea_len7 (h : seaG m may hol k [] = some l) : l.length = k := by
 have := (seaG_sound k [] l h).2.1
 simpa using this
theorem ltO_len {n0 s : Nat} {f : Nat → Option (List Nat)} (hf : ∀ n l, f n = some l → l.length = n) (h : ltO n0 s f m = some l) : l.length ≤ m := by
 unfold ltO at h
 obtain ⟨v, hv, hh⟩ := List.exists_of_findSome?_eq_some h
 unfold latO at hh
 split at hh
 ·rw [hf v l hh]
  have := List.mem_range.1 hv
  omega
 ·cases hh
theorem ho_len (h : holeO r m = some l) : l.length ≤ m := ltO_len (fun _ _ h => sea_len7 h) h
theorem oh_len (h : oddhO r m = some l) : l.length ≤ m := ltO_len (fun _ _ h => sea_len7 h) h
theorem oc_len (h : oddcO r m = some l) : l.length ≤ m := ltO_len (fun _ _ h => sea_len7 h) h
theorem tr_len (h : triO r m = some l) : l.length = 3 := by
 unfold triO at h
 obtain ⟨a, _, h⟩ := List.exists_of_findSome?_eq_some h
 unfold triA at h
 obtain ⟨b, _, h⟩ := List.exists_of_findSome?_eq_some h
 unfold triB at h
 obtain ⟨c, _, h⟩ := List.exists_of_findSome?_eq_some h
 unfold triC at h
 split at h
 ·obtain rfl := Option.some.inj h
  rfl
 ·cases h
theorem or_len {o p : Option (List Nat)} (h1 : ∀ l, o = some l → l.length ≤ 7) (h2 : ∀ l, p = some l → l.length ≤ 7) : ∀ l, o.or p = some l → l.length ≤ 7 := by
 intro l h
 cases o with
 | none => exact h2 l h
 | some a => exact h1 l h
theorem gO_len {sz : Int} {x : Nat → Int} {f : (Nat → Nat) → Nat → Option (List Nat)} (hf : ∀ r m, m ≤ 7 → ∀ l, f r m = some l → l.length ≤ 7) : ((gO sz m x f).getD []).length ≤ 7 := by
 cases ho : okB sz m x
 ·rw [gO_no ho]; simp
 ·rw [gO_yes ho]
  obtain ⟨_, _, vg, _⟩ := okB_ok ho
  cases hh : f (rw_ x) m with
  | none => simp
  | some l => exact hf _ _ vg.n7 l hh
theorem io_len (hm : m ≤ 7) : ∀ l, ioO r m = some l → l.length ≤ 7 := or_len (fun _ h => Nat.le_trans (ho_len h) hm) (fun _ h => by rw [tr_len h]; omega)
theorem obO_len (sz : Int) (m : Nat) (x : Nat → Int) (s : List UInt8) : ((obO sz m x s).getD []).length ≤ 7 := by
 have e4 : ∀ {mm : Nat} {l : List Nat} {mayy holl : List Nat → Bool}, seaG mm mayy holl 4 [] = some l → l.length ≤ 7 := fun h => by rw [sea_len7 h]; omega
 unfold obO
 split; · exact gO_len fun r m hm l h => Nat.le_trans (ho_len h) hm
 split; · exact gO_len fun r m hm l h => io_len hm l h
 split; · exact gO_len fun r m hm l h => or_len (fun _ h => e4 h) (io_len hm) l h
 split
 ·refine gO_len fun r m hm l h => ?_
  unfold p4O ptO at h
  split at h
  ·exact e4 h
  ·cases h
 split; · exact gO_len fun r m hm l h => or_len (fun _ h => e4 h) (fun _ h => Nat.le_trans (ho_len h) hm) l h
 split; · exact gO_len fun r m hm l h => e4 h
 split; · exact gO_len fun r m hm l h => Nat.le_trans (oc_len h) hm
 split; · exact gO_len fun r m hm l h => or_len (fun _ h => Nat.le_trans (ho_len h) hm) (fun _ h => by rw [sea_len7 h]; omega) l h
 split; · exact gO_len fun r m hm l h => or_len (fun _ h => Nat.le_trans (oh_len h) hm) (fun _ h => Nat.le_trans (oh_len h) hm) l h
 simp
end
section
variable (s1 : Int) (A1 : Option Addr) (m1 c1 : Nat) (x1 : Nat → Int) (t2 : ByteArray) (w : World) (B : Nat)
end
end Go.Proofs.YtfabbohijhjpcaaGreatDoor

/-
-/
namespace Go.Proofs.YtfabbohijhjpcaaGreatDoor
open Go.RowKit
section
variable {r : Nat → Nat} {m n k : Nat} {l : List Nat} {may hol : List Nat → Bool}
theorem seaG_lt : ∀ (k : Nat) (l o : List Nat), seaG m may hol k l = some o → (∀ v ∈ l, v < m) → ∀ v ∈ o, v < m := by
 intro k
 induction k with
 | zero =>
   intro l o h hl
   unfold seaG at h
   split at h
   ·obtain rfl := Option.some.inj h
    exact hl
   ·cases h
 | succ k ih =>
   intro l o h hl
   unfold seaG at h
   obtain ⟨v, hm, hv⟩ := List.exists_of_findSome?_eq_some h
   split at hv
   ·exact ih _ _ hv (fun u hu => by
     rcases List.mem_append.1 hu with h1 | h1
     ·exact hl u h1
     ·obtain rfl := List.mem_singleton.1 h1
      exact List.mem_range.1 hm)
   ·cases hv
theorem sea_lt7 (h : seaG m may hol k [] = some l) : ∀ v ∈ l, v < m := seaG_lt k [] l h (fun v hv => by cases hv)
theorem ltO_mem {n0 s : Nat} {f : Nat → Option (List Nat)} (hf : ∀ n l, f n = some l → ∀ v ∈ l, v < m) (h : ltO n0 s f m = some l) : ∀ v ∈ l, v < m := by
 unfold ltO at h
 obtain ⟨v, hv, hh⟩ := List.exists_of_findSome?_eq_some h
 unfold latO at hh
 split at hh
 ·exact hf v l hh
 ·cases hh
theorem ho_mem (h : holeO r m = some l) : ∀ v ∈ l, v < m := ltO_mem (fun _ _ h => sea_lt7 h) h
theorem oh_mem (h : oddhO r m = some l) : ∀ v ∈ l, v < m := ltO_mem (fun _ _ h => sea_lt7 h) h
theorem oc_mem (h : oddcO r m = some l) : ∀ v ∈ l, v < m := ltO_mem (fun _ _ h => sea_lt7 h) h
theorem tr_mem (h : triO r m = some l) : ∀ v ∈ l, v < m := by
 unfold triO at h
 obtain ⟨a, ha, h⟩ := List.exists_of_findSome?_eq_some h
 unfold triA at h
 obtain ⟨b, hb, h⟩ := List.exists_of_findSome?_eq_some h
 unfold triB at h
 obtain ⟨c, hc, h⟩ := List.exists_of_findSome?_eq_some h
 unfold triC at h
 split at h
 ·obtain rfl := Option.some.inj h
  intro v hv
  simp only [List.mem_cons, List.not_mem_nil, or_false] at hv
  rcases hv with rfl | rfl | rfl
  ·exact List.mem_range.1 ha
  ·exact List.mem_range.1 hb
  ·exact List.mem_range.1 hc
 ·cases h
theorem or_mem {o p : Option (List Nat)} (h1 : ∀ l, o = some l → ∀ v ∈ l, v < m) (h2 : ∀ l, p = some l → ∀ v ∈ l, v < m) : ∀ l, o.or p = some l → ∀ v ∈ l, v < m := by
 intro l h
 cases o with
 | none => exact h2 l h
 | some a => exact h1 l h
theorem gO_mem {sz : Int} {x : Nat → Int} {f : (Nat → Nat) → Nat → Option (List Nat)} (hf : ∀ r m, ∀ l, f r m = some l → ∀ v ∈ l, v < m) : ∀ l, gO sz m x f = some l → ∀ v ∈ l, v < m := by
 intro l h
 cases ho : okB sz m x
 ·rw [gO_no ho] at h; cases h
 ·rw [gO_yes ho] at h
  exact hf _ _ l h
theorem io_mem : ∀ l, ioO r m = some l → ∀ v ∈ l, v < m := or_mem (fun _ h => ho_mem h) (fun _ h => tr_mem h)
theorem obO_mem {sz : Int} {m : Nat} {x : Nat → Int} {s : List UInt8} : ∀ l, obO sz m x s = some l → ∀ v ∈ l, v < m := by
 unfold obO
 split; · exact gO_mem fun r m l h => ho_mem h
 split; · exact gO_mem fun r m l h => io_mem l h
 split; · exact gO_mem fun r m l h => or_mem (fun _ h => sea_lt7 h) io_mem l h
 split
 ·refine gO_mem fun r m l h => ?_
  unfold p4O ptO at h
  split at h
  ·exact sea_lt7 h
  ·cases h
 split; · exact gO_mem fun r m l h => or_mem (fun _ h => sea_lt7 h) (fun _ h => ho_mem h) l h
 split; · exact gO_mem fun r m l h => sea_lt7 h
 split; · exact gO_mem fun r m l h => oc_mem h
 split; · exact gO_mem fun r m l h => or_mem (fun _ h => ho_mem h) (fun _ h => sea_lt7 h) l h
 split; · exact gO_mem fun r m l h => or_mem (fun _ h => oh_mem h) (fun _ h => oh_mem h) l h
 intro l h; cases h
end
end Go.Proofs.YtfabbohijhjpcaaGreatDoor

/-
-/
namespace Go.Proofs.YtfabbohijhjpcaaGreatDoor
def ftB (r : Nat → Nat) (s v w : Nat) : Bool := s.testBit w && (!(r v).testBit w && (!decide (w = v) && decide (r w &&& s = r v &&& s)))
def ttB (r : Nat → Nat) (s v w : Nat) : Bool := s.testBit w && ((r v).testBit w && decide ((r w &&& s) ||| 2 ^ w = (r v &&& s) ||| 2 ^ v))
def pnO (r : Nat → Nat) (m s v : Nat) : Option (Nat × Int) :=
 if r v &&& s = 0 then some (0, -1)
 else if cn (r v &&& s) = 1 then some (1, (((listN (r v &&& s)).getD 0 0 : Nat) : Int))
 else match lsK (ftB r s v) m with
  | some w => some (2, (w : Int))
  | none => match lsK (ttB r s v) m with
    | some w => some (3, (w : Int))
    | none => none
section
variable {r : Nat → Nat} {m s v w : Nat}
theorem pnO_alone (h : r v &&& s = 0) : pnO r m s v = some (0, -1) := by unfold pnO; rw [if_pos h]
theorem pnO_pend (h : r v &&& s ≠ 0) (h1 : cn (r v &&& s) = 1) : pnO r m s v = some (1, (((listN (r v &&& s)).getD 0 0 : Nat) : Int)) := by unfold pnO; rw [if_neg h, if_pos h1]
theorem pnO_false (h : r v &&& s ≠ 0) (h1 : cn (r v &&& s) ≠ 1) (h2 : lsK (ftB r s v) m = some w) : pnO r m s v = some (2, (w : Int)) := by unfold pnO; rw [if_neg h, if_neg h1, h2]
theorem pnO_true (h : r v &&& s ≠ 0) (h1 : cn (r v &&& s) ≠ 1) (h2 : lsK (ftB r s v) m = none) (h3 : lsK (ttB r s v) m = some w) : pnO r m s v = some (3, (w : Int)) := by unfold pnO; rw [if_neg h, if_neg h1, h2]; show (match lsK (ttB r s v) m with | some w => some (3, (w : Int)) | none => none) = _; rw [h3]
theorem pnO_none (h : r v &&& s ≠ 0) (h1 : cn (r v &&& s) ≠ 1) (h2 : lsK (ftB r s v) m = none) (h3 : lsK (ttB r s v) m = none) : pnO r m s v = none := by unfold pnO; rw [if_neg h, if_neg h1, h2]; show (match lsK (ttB r s v) m with | some w => some (3, (w : Int)) | none => none) = _; rw [h3]
theorem ft_iff (vg : VG m r) (hv : v < m) (hw : w < m) (sv : s.testBit v = true) (sw : s.testBit w = true) (he : (r v).testBit w = false) :
 ((r v &&& s) &&& (s ^^^ (2 ^ v ||| 2 ^ w)) = r w &&& (s ^^^ (2 ^ v ||| 2 ^ w))) ↔ r w &&& s = r v &&& s := by
 constructor
 ·intro h
  apply Nat.eq_of_testBit_eq
  intro j
  have hj := congrArg (fun z => Nat.testBit z j) h
  simp only [Nat.testBit_and, Nat.testBit_xor, Nat.testBit_or, Nat.testBit_two_pow] at hj ⊢
  by_cases h1 : v = j
  ·subst h1; rw [vg.irr v hv, vg.sym w v hw hv, he]
  ·by_cases h2 : w = j
   ·subst h2; rw [vg.irr w hw, he]
   ·rw [decide_eq_false h1, decide_eq_false h2] at hj
    revert hj
    cases (r v).testBit j <;> cases (r w).testBit j <;> cases s.testBit j <;> simp
 ·intro h
  apply Nat.eq_of_testBit_eq
  intro j
  have hj := congrArg (fun z => Nat.testBit z j) h
  simp only [Nat.testBit_and, Nat.testBit_xor, Nat.testBit_or, Nat.testBit_two_pow] at hj ⊢
  by_cases h1 : v = j
  ·subst h1; rw [sv]; simp
  ·by_cases h2 : w = j
   ·subst h2; rw [sw]; simp
   ·rw [decide_eq_false h1, decide_eq_false h2]
    revert hj
    cases (r v).testBit j <;> cases (r w).testBit j <;> cases s.testBit j <;> simp
theorem tt_iff (vg : VG m r) (hv : v < m) (hw : w < m) (sv : s.testBit v = true) (sw : s.testBit w = true) (he : (r v).testBit w = true) :
 ((r v &&& s) &&& (s ^^^ (2 ^ v ||| 2 ^ w)) = r w &&& (s ^^^ (2 ^ v ||| 2 ^ w))) ↔ (r w &&& s) ||| 2 ^ w = (r v &&& s) ||| 2 ^ v := by
 constructor
 ·intro h
  apply Nat.eq_of_testBit_eq
  intro j
  have hj := congrArg (fun z => Nat.testBit z j) h
  simp only [Nat.testBit_and, Nat.testBit_xor, Nat.testBit_or, Nat.testBit_two_pow] at hj ⊢
  by_cases h1 : v = j
  ·subst h1; rw [vg.sym w v hw hv, he, sv]; simp
  ·by_cases h2 : w = j
   ·subst h2; rw [he, sw]; simp
   ·rw [decide_eq_false h1, decide_eq_false h2] at hj ⊢
    revert hj
    cases (r v).testBit j <;> cases (r w).testBit j <;> cases s.testBit j <;> simp
 ·intro h
  apply Nat.eq_of_testBit_eq
  intro j
  have hj := congrArg (fun z => Nat.testBit z j) h
  simp only [Nat.testBit_and, Nat.testBit_xor, Nat.testBit_or, Nat.testBit_two_pow] at hj ⊢
  by_cases h1 : v = j
  ·subst h1; rw [sv]; simp
  ·by_cases h2 : w = j
   ·subst h2; rw [sw]; simp
   ·rw [decide_eq_false h1, decide_eq_false h2] at hj ⊢
    revert hj
    cases (r v).testBit j <;> cases (r w).testBit j <;> cases s.testBit j <;> simp
theorem pair_sub (hs : s < 128) (sv : s.testBit v = true) (sw : s.testBit w = true) : s - (2 ^ v ||| 2 ^ w) = s ^^^ (2 ^ v ||| 2 ^ w) ∧ 2 ^ v ||| 2 ^ w ≤ s := by
 obtain ⟨a, ha⟩ : ∃ a, a = 2 ^ v ||| 2 ^ w := ⟨_, rfl⟩
 have hsa : s &&& a = a := by
  apply Nat.eq_of_testBit_eq
  intro j
  rw [ha, Nat.testBit_and, Nat.testBit_or, Nat.testBit_two_pow, Nat.testBit_two_pow]
  by_cases h1 : v = j
  ·subst h1; rw [sv]; simp
  ·by_cases h2 : w = j
   ·subst h2; rw [sw]; simp
   ·simp [h1, h2]
 have h128 : a < 128 := by rw [← hsa]; exact Nat.lt_of_le_of_lt Nat.and_le_left hs
 have := xor_sub_table s hs a h128
 rw [hsa] at this
 rw [← ha]
 omega
theorem listN_asc {i k : Nat} (h : i < k) (hk : k < (listN s).length) : (listN s)[i] < (listN s)[k] := by
 have hs : (listN s).Pairwise (· < ·) := List.Pairwise.filter _ List.pairwise_lt_range
 exact List.pairwise_iff_getElem.1 hs i k (by omega) hk h
theorem lsK_list {p : Nat → Bool} {k : Nat} (hs : s < 2 ^ m) (hp : ∀ j, p j = true → s.testBit j = true) (hk : k < (listN s).length) (h : p (listN s)[k] = true) (hmin : ∀ i (hi : i < k), p ((listN s)[i]'(by omega)) = false) : lsK p m = some (listN s)[k] := by
 have h1 := listN_at hk
 refine lsK_yes (bit_lt hs h1.2) h fun j hj => ?_
 cases hb : p j
 ·rfl
 ·have h2 := hp j hb
  obtain ⟨i, hi, e⟩ := List.mem_iff_getElem.1 (mem_listN.2 ⟨by have := h1.1; omega, h2⟩)
  by_cases hik : i < k
  ·have := hmin i hik
   rw [e, hb] at this
   cases this
  ·by_cases hik2 : i = k
   ·subst hik2; omega
   ·have := listN_asc (show k < i by omega) hi
    omega
theorem lsK_listn {p : Nat → Bool} (hm : m ≤ 7) (hp : ∀ j, p j = true → s.testBit j = true) (hall : ∀ i (hi : i < (listN s).length), p (listN s)[i] = false) : lsK p m = none := by
 refine lsK_no fun j hj => ?_
 cases hb : p j
 ·rfl
 ·obtain ⟨i, hi, e⟩ := List.mem_iff_getElem.1 (mem_listN.2 ⟨by omega, hp j hb⟩)
  have := hall i hi
  rw [e, hb] at this
  cases this
def pvB (r : Nat → Nat) (m s v : Nat) : Bool := s.testBit v && (pnO r m s v).isSome
def pvK (r : Nat → Nat) (m s : Nat) : Option Nat := lsK (pvB r m s) m
abbrev Pr := Nat × Nat × Int
def prV (r : Nat → Nat) (m s v : Nat) : Pr := (v, (pnO r m s v).getD (0, 0))
def plF (r : Nat → Nat) (m : Nat) : Nat → Nat → Option (List Pr)
 | 0, _ => some []
 | f + 1, s => if s = 0 then some [] else match pvK r m s with
   | none => none
   | some v => (plF r m f (s ^^^ 2 ^ v)).map fun l => prV r m s v :: l
def plO (r : Nat → Nat) (m : Nat) : Option (List Pr) := plF r m 128 (2 ^ m - 1)
theorem plF_end {f : Nat} : plF r m f 0 = some [] := by cases f <;> rfl
theorem plF_no {f : Nat} (h0 : s ≠ 0) (h : pvK r m s = none) : plF r m (f + 1) s = none := by
 show (if s = 0 then some [] else match pvK r m s with
  | none => none
  | some v => (plF r m f (s ^^^ 2 ^ v)).map fun l => prV r m s v :: l) = _
 rw [if_neg h0, h]
theorem plF_yes {f : Nat} (h0 : s ≠ 0) (h : pvK r m s = some v) : plF r m (f + 1) s = (plF r m f (s ^^^ 2 ^ v)).map fun l => prV r m s v :: l := by
 show (if s = 0 then some [] else match pvK r m s with
  | none => none
  | some v => (plF r m f (s ^^^ 2 ^ v)).map fun l => prV r m s v :: l) = _
 rw [if_neg h0, h]
theorem xor_less (h : s.testBit v = true) : s ^^^ 2 ^ v < s ∧ (s ^^^ 2 ^ v) + 2 ^ v = s := by
 have h1 : (s ^^^ 2 ^ v).testBit v = false := by rw [Nat.testBit_xor, h, Nat.testBit_two_pow_self]; rfl
 have h2 := add_pow_bit h1
 rw [Nat.xor_assoc, Nat.xor_self, Nat.xor_zero] at h2
 have := Nat.two_pow_pos v
 omega
end
end Go.Proofs.YtfabbohijhjpcaaGreatDoor

/-
-/
namespace Go.Proofs.YtfabbohijhjpcaaGreatDoor
open Go.RowKit
theorem info_prune : (Tryz.prog.info? 149).map (fun i => (i.zero, i.size, i.bytes)) = some (some (.agg #[.int .i64 0, .int .i64 0, .int .i64 0]), 3, 24) := by kernel_rfl
def plT (T : List Pr) (j : Nat) : Value := if j % 3 = 0 then .int .i64 (((T.getD (j / 3) (0, 0, 0)).1 : Nat) : Int) else if j % 3 = 1 then .int .i64 (((T.getD (j / 3) (0, 0, 0)).2.1 : Nat) : Int) else .int .i64 (T.getD (j / 3) (0, 0, 0)).2.2
theorem plT_left {T S : List Pr} {j : Nat} (h : j < T.length * 3) : plT (T ++ S) j = plT T j := by
 have h1 : j / 3 < T.length := by omega
 unfold plT
 simp [List.getD, List.getElem?_append_left h1]
theorem plT_news {T : List Pr} {v k : Nat} {a : Int} : ∀ i, i < 3 → (#[Value.int .i64 (v : Int), Value.int .i64 (k : Int), Value.int .i64 a] : Array Value)[i]? = some (plT (T ++ [(v, k, a)]) (T.length * 3 + i)) := by
 intro i hi
 have hc : i = 0 ∨ i = 1 ∨ i = 2 := by omega
 unfold plT
 rcases hc with rfl | rfl | rfl
 ·rw [show (T.length * 3 + 0) % 3 = 0 by omega, show (T.length * 3 + 0) / 3 = T.length by omega]; simp [List.getD]
 ·rw [show (T.length * 3 + 1) % 3 = 1 by omega, show (T.length * 3 + 1) / 3 = T.length by omega]; simp [List.getD]
 ·rw [show (T.length * 3 + 2) % 3 = 2 by omega, show (T.length * 3 + 2) / 3 = T.length by omega]; simp [List.getD]
structure PO (lo : Nat) (w : World) (A : Option Addr) (c : Nat) (T : List Pr) : Prop where
 own : Own w lo w.heap.size 149 3 A T.length c (plT T)
section
variable {lo lo' c : Nat} {A : Option Addr} {w w' : World} {T : List Pr}
theorem PO.keep (h : PO lo w A c T) (hb : Below w.heap.size w w') : PO lo w' A c T := ⟨(h.own.keepB hb (Nat.le_refl _)).mono (Nat.le_refl _) hb.size⟩
theorem PO.mono (h : PO lo w A c T) (hl : lo' ≤ lo) : PO lo' w A c T := ⟨h.own.mono hl (Nat.le_refl _)⟩
theorem PO.le (h : PO lo w A c T) : T.length ≤ c := h.own.le
theorem PO.nil (w : World) : PO w.heap.size (w.alloc (Obj.cells #[] 149)) (some ⟨w.heap.size, 0, none⟩) 0 [] :=
 ⟨.inr ⟨w.heap.size, #[], rfl, Nat.le_refl _, by simp, heap_alloc_new w _, Nat.le_refl _, by unfold maxLen; omega, rfl, fun j hj => absurd hj (by simp)⟩⟩
theorem PO.none (lo : Nat) (w : World) : PO lo w none 0 [] := ⟨Own.nil _ _ _ _ _ _⟩
end
def prQ (w : World) : Option (List Pr) → Ending → World → Prop
 | none, e, w' => ∃ A c, e = .returned (.tuple #[.slice A 0 c, .bool false]) ∧ PO w.heap.size w' A c [] ∧ Below w.heap.size w w'
 | some T, e, w' => ∃ A c, e = .returned (.tuple #[.slice A T.length c, .bool true]) ∧ PO w.heap.size w' A c T ∧ Below w.heap.size w w'
theorem wpList_pushPr (W : World) {ops : Array Oper} {rest : List Oper} {o : Oper} {a : Act} {Q : Exit → Act → World → Prop} (hgd : o.guard = none) (s y : Operand)
 (ho : o.op = .call { callee := .builtin .append, args := #[s, y], argTypes := #[120, 120] })
 (lo : Nat) (A : Option Addr) (c : Nat) (T : List Pr) (h : PO lo W A c T) (hlo : lo ≤ W.heap.size) (v k : Nat) (x : Int) (hs : a.eval s = .slice A T.length c) (cx H : Nat) (hH : W.heap.size = H) (hy : a.eval y = .slice (some ⟨H, 0, none⟩) 1 cx)
 (hn : T.length ≤ 1073741824)
 (hK : ∀ g' cap w', PO lo w' (some ⟨g', 0, none⟩) cap (T ++ [(v, k, x)]) → Below lo W w' → wpList Tryz.prog ops Q rest (a.put o.dst (.slice (some ⟨g', 0, none⟩) (T.length + 1) cap)) w') :
 wpList Tryz.prog ops Q (o :: rest) a (W.alloc (Obj.cells #[.int .i64 (v : Int), .int .i64 (k : Int), .int .i64 x] 149)) := by
 subst hH
 have ha := h.own.alloc (Obj.cells #[.int .i64 (v : Int), .int .i64 (k : Int), .int .i64 x] 149)
 refine wpList_push (W.alloc (Obj.cells #[.int .i64 (v : Int), .int .i64 (k : Int), .int .i64 x] 149)) hgd s y 120 ho 149 _ 3 24 Tryz.underlying120 info_prune rfl (by omega) lo W.heap.size A T.length c (plT (T ++ [(v, k, x)])) hs
  (ha.congr (fun j hj => (plT_left hj).symm)) (by simp; omega) W.heap.size #[.int .i64 (v : Int), .int .i64 (k : Int), .int .i64 x] 149 (0, 0) cx (heap_alloc_new W _) hy rfl plT_news (by simp [Value.oneCell']) hn (by omega) ?_
 intro g' cap w' hp
 exact hK g' cap w' ⟨by rw [List.length_append]; exact hp.own⟩ (((Below.refl _ _).alloc hlo _).trans hp.below)
theorem step_pushPr (W : World) {ops : Array Oper} {o : Oper} {a : Act} {K : Act → World → Prop} {Q : Exit → Act → World → Prop} {E : Prop} (hgd : o.guard = none) (s y : Operand)
 (ho : o.op = .call { callee := .builtin .append, args := #[s, y], argTypes := #[120, 120] })
 (lo : Nat) (A : Option Addr) (c : Nat) (T : List Pr) (h : PO lo W A c T) (hlo : lo ≤ W.heap.size) (v k : Nat) (x : Int) (hs : a.eval s = .slice A T.length c) (cx : Nat) (hy : a.eval y = .slice (some ⟨W.heap.size, 0, none⟩) 1 cx)
 (hn : T.length ≤ 1073741824)
 (hK : ∀ g' cap w', PO lo w' (some ⟨g', 0, none⟩) cap (T ++ [(v, k, x)]) → Below lo W w' → K (a.put o.dst (.slice (some ⟨g', 0, none⟩) (T.length + 1) cap)) w') :
 if Region.wanted o (yielded ops a.tmps) = true then Oper.wp Tryz.prog o a (W.alloc (Obj.cells #[.int .i64 (v : Int), .int .i64 (k : Int), .int .i64 x] 149)).drew K Q else E := by
 have ha := (h.own.alloc (Obj.cells #[.int .i64 (v : Int), .int .i64 (k : Int), .int .i64 x] 149)).drew
 refine step_push ((W.alloc (Obj.cells #[.int .i64 (v : Int), .int .i64 (k : Int), .int .i64 x] 149)).drew) hgd s y 120 ho 149 _ 3 24 Tryz.underlying120 info_prune rfl (by omega) lo W.heap.size A T.length c (plT (T ++ [(v, k, x)])) hs
  (ha.congr (fun j hj => (plT_left hj).symm)) (by show lo ≤ (W.alloc _).heap.size; simp; omega) W.heap.size #[.int .i64 (v : Int), .int .i64 (k : Int), .int .i64 x] 149 (0, 0) cx (heap_alloc_new W _) hy rfl plT_news (by simp [Value.oneCell']) hn (by omega) ?_
 intro g' cap w' hp
 exact hK g' cap w' ⟨by rw [List.length_append]; exact hp.own⟩ ((((Below.refl _ _).alloc hlo _).drew).trans hp.below)
theorem plF_step {r : Nat → Nat} {m s v k f : Nat} {a : Int} {T : List Pr} {o : Option (List Pr)} (hI : (plF r m (f + 1) s).map (fun l => T ++ l) = o) (h0 : s ≠ 0) (hv : pvK r m s = some v) (hp : pnO r m s v = some (k, a)) : (plF r m f (s ^^^ 2 ^ v)).map (fun l => (T ++ [(v, k, a)]) ++ l) = o := by
 rw [plF_yes h0 hv] at hI
 rw [← hI]
 unfold prV
 rw [hp]
 cases plF r m f (s ^^^ 2 ^ v) <;> simp
theorem plF_stop {r : Nat → Nat} {m s f : Nat} {T : List Pr} {o : Option (List Pr)} (hI : (plF r m (f + 1) s).map (fun l => T ++ l) = o) (h0 : s ≠ 0) (hv : pvK r m s = none) : o = none := by
 rw [plF_no h0 hv] at hI
 rw [← hI]; rfl
theorem plF_all {r : Nat → Nat} {m f : Nat} {T : List Pr} {o : Option (List Pr)} (hI : (plF r m f 0).map (fun l => T ++ l) = o) : o = some T := by
 rw [plF_end] at hI
 rw [← hI]; simp
end Go.Proofs.YtfabbohijhjpcaaGreatDoor
