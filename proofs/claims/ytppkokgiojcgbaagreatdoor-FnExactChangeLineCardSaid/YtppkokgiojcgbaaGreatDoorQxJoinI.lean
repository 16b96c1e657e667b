/-
  Several texts in one.
-/
import Derived.Test.YtppkokgiojcgbaaGreatDoorQxSet2I
import Derived.Deep.RegionHeld3
import Derived.Test.YtppkokgiojcgbaaGreatDoorQxListS
import Derived.Deep.QuietTactic
import Derived.BigQuiet
/-
-/
namespace Go.Proofs.YtppkokgiojcgbaaGreatDoor
open Go.RowKit
def redL (f : Nat → Option Nat) (left : Nat) : Option (List Nat) :=
 if left = 0 then some []
 else match f left with
  | none => none
  | some v => if h : left.testBit v = true then (redL f (left ^^^ 2 ^ v)).map (v :: ·) else none
termination_by left
decreasing_by exact xor_bit_lt h
theorem redL_zero (f : Nat → Option Nat) : redL f 0 = some [] := by unfold redL; rfl
theorem redL_none {f : Nat → Option Nat} {left : Nat} (h0 : left ≠ 0) (h : f left = none) : redL f left = none := by
 unfold redL; rw [if_neg h0, h]
theorem redL_some {f : Nat → Option Nat} {left v : Nat} (hb : left.testBit v = true) (h : f left = some v) : redL f left = (redL f (left ^^^ 2 ^ v)).map (v :: ·) := by
 have h0 : left ≠ 0 := by
  rintro rfl
  simp at hb
 rw [redL, if_neg h0, h]
 simp [hb]
theorem redL_step {f : Nat → Option Nat} {left v : Nat} {o : Option (List Nat)} {T : List Nat} (hb : left.testBit v = true) (h : f left = some v) (e : o = (redL f left).map (T ++ ·)) : o = (redL f (left ^^^ 2 ^ v)).map ((T ++ [v]) ++ ·) := by
 rw [e, redL_some hb h, Option.map_map]
 congr 1
 funext l
 simp
theorem redL_end {f : Nat → Option Nat} {o : Option (List Nat)} {T : List Nat} (e : o = (redL f 0).map (T ++ ·)) : o = some T := by
 rw [e, redL_zero]; simp
theorem redL_stuck {f : Nat → Option Nat} {left : Nat} {o : Option (List Nat)} {T : List Nat} (h0 : left ≠ 0) (h : f left = none) (e : o = (redL f left).map (T ++ ·)) : o = none := by
 rw [e, redL_none h0 h]; rfl
theorem redL_start {f : Nat → Option Nat} {left : Nat} : redL f left = (redL f left).map ([] ++ ·) := by
 cases redL f left <;> rfl
def fsF (p : Nat → Nat → Bool) (left : Nat) : Option Nat := (listN left).find? (p left)
section
variable {p : Nat → Nat → Bool} {left v k : Nat}
theorem fsF_bit (h : fsF p left = some v) : v < 7 ∧ left.testBit v = true := mem_listN.1 (List.mem_of_find?_eq_some h)
theorem fsF_place (h : fsF p left = some v) : ∃ k, ∃ hk : k < (listN left).length, (listN left)[k] = v ∧ p left v = true ∧ ∀ j (hj : j < k), p left ((listN left)[j]'(by omega)) = false := by
 unfold fsF at h
 rw [List.find?_eq_some_iff_getElem] at h
 obtain ⟨h1, k, hk, h2, h3⟩ := h
 exact ⟨k, hk, h2, h1, fun j hj => by have := h3 j hj; simpa using this⟩
theorem fsF_none' (h : fsF p left = none) : ∀ j (hj : j < (listN left).length), p left (listN left)[j] = false := by
 intro j hj
 unfold fsF at h
 rw [List.find?_eq_none] at h
 have := h _ (List.getElem_mem hj)
 simpa using this
theorem fsF_least (hv : v < 7) (hb : left.testBit v = true) (hy : p left v = true) (hmin : ∀ u, u < v → left.testBit u = true → p left u = false) : fsF p left = some v := by
 cases h : fsF p left with
 | none =>
   unfold fsF at h
   rw [List.find?_eq_none] at h
   exact absurd hy (h v (mem_listN.2 ⟨hv, hb⟩))
 | some u =>
   have hu := fsF_bit h
   have hyu : p left u = true := by unfold fsF at h; exact List.find?_some h
   rcases Nat.lt_trichotomy u v with h1 | h1 | h1
   ·rw [hmin u h1 hu.2] at hyu; cases hyu
   ·rw [h1]
   ·exfalso
    unfold fsF listN listK at h
    rw [List.find?_eq_some_iff_append] at h
    obtain ⟨_, us, bs, hab, hno⟩ := h
    have hsort : ((List.range 7).filter fun v => left.testBit v).Pairwise (· < ·) := List.Pairwise.filter _ List.pairwise_lt_range
    have hvm : v ∈ (List.range 7).filter fun v => left.testBit v := by simp [hv, hb]
    rw [hab] at hvm hsort
    rw [List.mem_append] at hvm
    rcases hvm with hvm | hvm
    ·have := hno v hvm; rw [hy] at this; cases this
    ·rw [List.mem_cons] at hvm
     rcases hvm with rfl | hvm
     ·omega
     ·have := (List.pairwise_cons.1 (List.pairwise_append.1 hsort).2.1).1 v hvm
      omega
theorem fsF_no (h : ∀ u, u < 7 → left.testBit u = true → p left u = false) : fsF p left = none := by
 unfold fsF
 rw [List.find?_eq_none]
 intro v hv
 have := mem_listN.1 hv
 simp [h v this.1 this.2]
end
def thB (r : Nat → Nat) (left v : Nat) : Bool := r v &&& left == 0 || (r v &&& left) ||| 2 ^ v == left
def thT (r : Nat → Nat) (left : Nat) : Nat → Option Nat
 | 0 => none
 | k + 1 => if (left.testBit k && thB r left k) = true then some k else thT r left k
def optI : Option Nat → Int
 | none => -1
 | some v => (v : Int)
theorem thT_bit {r : Nat → Nat} {left : Nat} : ∀ {k v}, thT r left k = some v → v < k ∧ left.testBit v = true := by
 intro k
 induction k with
 | zero => intro v h; cases h
 | succ k ih =>
   intro v h
   rw [thT] at h
   split at h
   ·rename_i h2
    injection h with h
    subst h
    rw [Bool.and_eq_true] at h2
    exact ⟨by omega, h2.1⟩
   ·have := ih h
    exact ⟨by omega, this.2⟩
theorem thT_no {r : Nat → Nat} {left k : Nat} (h : left.testBit k = false ∨ thB r left k = false) : thT r left (k + 1) = thT r left k := by
 rw [thT]
 rcases h with h | h <;> simp [h]
theorem thT_yes {r : Nat → Nat} {left k : Nat} (h : left.testBit k = true) (h2 : thB r left k = true) : thT r left (k + 1) = some k := by
 rw [thT, h, h2]; rfl
def thG (r : Nat → Nat) (left : Nat) (l : List Nat) : Option Nat := l.foldl (fun a v => if thB r left v = true then some v else a) none
theorem thG_snoc {r : Nat → Nat} {left : Nat} {l : List Nat} {v : Nat} : thG r left (l ++ [v]) = if thB r left v = true then some v else thG r left l := by
 unfold thG; rw [List.foldl_append]; rfl
theorem thG_K {r : Nat → Nat} {left : Nat} : ∀ k, thG r left (listK left k) = thT r left k := by
 intro k
 induction k with
 | zero => rfl
 | succ k ih =>
   cases h : left.testBit k
   ·rw [listK_no h, thT_no (.inl h), ih]
   ·rw [listK_yes h, thG_snoc, ih]
    cases h2 : thB r left k
    ·rw [thT_no (.inr h2)]; rfl
    ·rw [thT_yes h h2]; rfl
theorem thT_more {r : Nat → Nat} {left m : Nat} (hl : left < 2 ^ m) : ∀ k, m ≤ k → thT r left k = thT r left m := by
 intro k hk
 induction hk with
 | refl => rfl
 | step hk ih =>
   rename_i k
   rw [thT_no (.inl _), ih]
   cases h : left.testBit k
   ·rfl
   ·exact absurd (bit_lt hl h) (by simp at hk ⊢; omega)
theorem thB_sub {r : Nat → Nat} {left v : Nat} (hb : left.testBit v = true) (hi : (r v).testBit v = false) : ((r v &&& left) ||| 2 ^ v = left) ↔ (r v &&& left = left - 2 ^ v) := by
 have h1 := xor_bit_sub hb
 rw [← h1]
 constructor
 ·intro h
  apply Nat.eq_of_testBit_eq
  intro i
  have := congrArg (Nat.testBit · i) h
  simp only [Nat.testBit_or, Nat.testBit_and, Nat.testBit_two_pow] at this
  rw [Nat.testBit_xor, Nat.testBit_and, Nat.testBit_two_pow]
  by_cases e : v = i
  ·subst e; simp [hi, hb]
  ·simp [e] at this; simp [e]; exact this
 ·intro h
  apply Nat.eq_of_testBit_eq
  intro i
  have := congrArg (Nat.testBit · i) h
  simp only [Nat.testBit_xor, Nat.testBit_and, Nat.testBit_two_pow] at this
  rw [Nat.testBit_or, Nat.testBit_and, Nat.testBit_two_pow]
  by_cases e : v = i
  ·subst e; simp [hb]
  ·simp [e] at this; simp [e]; exact this
def thF (r : Nat → Nat) (left : Nat) : Option Nat := thT r left 7
def thO (r : Nat → Nat) (m : Nat) : Option (List Nat) := redL (thF r) (2 ^ m - 1)
end Go.Proofs.YtppkokgiojcgbaaGreatDoor

/-
-/
namespace Go.Proofs.YtppkokgiojcgbaaGreatDoor
section
variable {P : Program} {ops : Array Oper} {Q : Exit → Act → World → Prop} {md : Region.Mode} {S : World → Prop}
theorem take_yes {i d : Nat} {oi : Oper} {v : Value} {fuel : Nat} {listed : Array Bool} {a : Act} {w : World} (hi : ops[i]? = some oi) (hd : oi.dst = some d)
 (hs : Region.noSelect ops = true) (hf : Region.free md ops listed i = true) (hr : (Region.ready md ops listed).contains i = true)
 (hQ : ∀ c a w, Q (.panic c) (a.put oi.dst v) w → Q (.panic c) a w) (hw : Region.wanted oi (yielded ops a.tmps) = true) (hy : ∀ w, S w → (execOp a.eval oi).run P w = .ok (.value v) w) (hS : S w)
 (h : wpAnyH P md ops Q S fuel (listed.setIfInBounds i true) (a.put (some d) v) w) : wpAnyH P md ops Q S (fuel + 1) listed a w :=
 wpAnyH_take hi hs hf hr hQ (.inl ⟨hw, hy⟩) hS (hd ▸ h)
theorem take_no {i d : Nat} {oi : Oper} {fuel : Nat} {listed : Array Bool} {a : Act} {w : World} (hi : ops[i]? = some oi) (hd : oi.dst = some d)
 (hs : Region.noSelect ops = true) (hf : Region.free md ops listed i = true) (hr : (Region.ready md ops listed).contains i = true)
 (hQ : ∀ c a w, Q (.panic c) (a.put oi.dst undef) w → Q (.panic c) a w) (hw : Region.wanted oi (yielded ops a.tmps) = false) (hS : S w)
 (h : wpAnyH P md ops Q S fuel (listed.setIfInBounds i true) (a.put (some d) undef) w) : wpAnyH P md ops Q S (fuel + 1) listed a w :=
 wpAnyH_take hi hs hf hr hQ (.inr ⟨hw, rfl⟩) hS (hd ▸ h)
end
theorem sl0 {α : Type} (l : List α) (i : Nat) (a : α) : l.toArray.setIfInBounds i a = (l.set i a).toArray := List.setIfInBounds_toArray l i a
theorem sl1 {α : Type} (a b : α) (l : List α) : (a :: l).set 0 b = b :: l := rfl
theorem sl2 {α : Type} (a b : α) (l : List α) (n : Nat) : (a :: l).set (n + 1) b = a :: l.set n b := rfl
section
variable {P : Program} {ops : Array Oper} {Q : Exit → Act → World → Prop} {md : Region.Mode} {S : World → Prop}
theorem pcY (i : Nat) {d : Nat} {oi : Oper} {v : Value} {fuel : Nat} {l : Array Bool} {a : Act} {w : World} (hi : ops[i]? = some oi) (hd : oi.dst = some d)
 (hk : (Region.noSelect ops && Region.free md ops l i && (Region.ready md ops l).contains i) = true)
 (hw : Region.wanted oi (yielded ops a.tmps) = true) (hy : ∀ w, S w → (execOp a.eval oi).run P w = .ok (.value v) w) (hS : S w) (hQ : ∀ c a w, Q (.panic c) (a.put oi.dst v) w → Q (.panic c) a w)
 (h : wpAnyH P md ops Q S fuel (l.setIfInBounds i true) (a.put (some d) v) w) : wpAnyH P md ops Q S (fuel + 1) l a w := by
 simp only [Bool.and_eq_true] at hk
 exact take_yes hi hd hk.1.1 hk.1.2 hk.2 hQ hw hy hS h
theorem pcN (i : Nat) {d : Nat} {oi : Oper} {fuel : Nat} {l : Array Bool} {a : Act} {w : World} (hi : ops[i]? = some oi) (hd : oi.dst = some d)
 (hk : (Region.noSelect ops && Region.free md ops l i && (Region.ready md ops l).contains i) = true)
 (hw : Region.wanted oi (yielded ops a.tmps) = false) (hS : S w) (hQ : ∀ c a w, Q (.panic c) (a.put oi.dst undef) w → Q (.panic c) a w)
 (h : wpAnyH P md ops Q S fuel (l.setIfInBounds i true) (a.put (some d) undef) w) : wpAnyH P md ops Q S (fuel + 1) l a w := by
 simp only [Bool.and_eq_true] at hk
 exact take_no hi hd hk.1.1 hk.1.2 hk.2 hQ hw hS h
theorem ptY {j d : Nat} {oi : Oper} {v : Value} {fuel : Nat} {l : Array Bool} {a : Act} {w : World} (hi : ops[j + 1]? = some oi) (hd : oi.dst = some d)
 (hk : (Region.noSelect ops && Region.free md ops (l.setIfInBounds j true) (j + 1) && (Region.ready md ops (l.setIfInBounds j true)).contains (j + 1)) = true)
 (hw : Region.wanted oi (yielded ops a.tmps) = true) (hy : ∀ w, S w → (execOp a.eval oi).run P w = .ok (.value v) w) (hS : S w) (hQ : ∀ c a w, Q (.panic c) (a.put oi.dst v) w → Q (.panic c) a w)
 (h : wpAnyH P md ops Q S fuel ((l.setIfInBounds j true).setIfInBounds (j + 1) true) (a.put (some d) v) w) : wpAnyH P md ops Q S (fuel + 1) (l.setIfInBounds j true) a w := pcY (j + 1) hi hd hk hw hy hS hQ h
theorem ptN {j d : Nat} {oi : Oper} {fuel : Nat} {l : Array Bool} {a : Act} {w : World} (hi : ops[j + 1]? = some oi) (hd : oi.dst = some d)
 (hk : (Region.noSelect ops && Region.free md ops (l.setIfInBounds j true) (j + 1) && (Region.ready md ops (l.setIfInBounds j true)).contains (j + 1)) = true)
 (hw : Region.wanted oi (yielded ops a.tmps) = false) (hS : S w) (hQ : ∀ c a w, Q (.panic c) (a.put oi.dst undef) w → Q (.panic c) a w)
 (h : wpAnyH P md ops Q S fuel ((l.setIfInBounds j true).setIfInBounds (j + 1) true) (a.put (some d) undef) w) : wpAnyH P md ops Q S (fuel + 1) (l.setIfInBounds j true) a w := pcN (j + 1) hi hd hk hw hS hQ h
end
end Go.Proofs.YtppkokgiojcgbaaGreatDoor

/-
-/
namespace Go.Proofs.YtppkokgiojcgbaaGreatDoor
open Go.RowKit
def edZ (x : Nat → Int) (a b : Int) : Bool := (rw_ x a.toNat).testBit b.toNat
noncomputable def ajB (sz : Int) (m : Nat) (x : Nat → Int) (l : List Int) (J : Nat → Nat → Bool) : Bool :=
 vrB sz m x l && (List.range l.length).all fun k => (List.range k).all fun i => edZ x (l.getD i 0) (l.getD k 0) == J i k
section
variable {sz : Int} {m : Nat} {x : Nat → Int} {l : List Int} {J : Nat → Nat → Bool}
theorem ajB_bad (h : vrB sz m x l = false) : ajB sz m x l J = false := by unfold ajB; rw [h]; rfl
theorem ajB_no {i k : Nat} (hi : i < k) (hk : k < l.length) (h : edZ x (l.getD i 0) (l.getD k 0) ≠ J i k) : ajB sz m x l J = false := by
 unfold ajB
 have : ((List.range l.length).all fun k => (List.range k).all fun i => edZ x (l.getD i 0) (l.getD k 0) == J i k) = false := by
  rw [List.all_eq_false]
  refine ⟨k, List.mem_range.2 hk, ?_⟩
  rw [Bool.not_eq_true, List.all_eq_false]
  exact ⟨i, List.mem_range.2 hi, by simpa using h⟩
 rw [this, Bool.and_false]
theorem ajB_yes (h : vrB sz m x l = true) (hall : ∀ k, k < l.length → ∀ i, i < k → edZ x (l.getD i 0) (l.getD k 0) = J i k) : ajB sz m x l J = true := by
 unfold ajB
 rw [h, Bool.true_and, List.all_eq_true]
 intro k hk
 rw [List.all_eq_true]
 intro i hi
 simpa using hall k (List.mem_range.1 hk) i (List.mem_range.1 hi)
theorem vrB_parts (h : vrB sz m x l = true) : okB sz m x = true ∧ VZ m l := by
 unfold vrB at h
 rw [Bool.and_eq_true] at h
 exact ⟨h.1, vzB_iff.1 h.2⟩
end
def pathJ (i k : Nat) : Bool := k == i + 1
noncomputable def ipB (sz : Int) (m : Nat) (x : Nat → Int) (l : List Int) : Bool := decide (0 < l.length) && ajB sz m x l pathJ
set_option maxRecDepth 100000 in
set_option maxHeartbeats 3200000 in
theorem areJoined_g {fn : FuncId} {caps : Array Value} {J : Nat → Nat → Bool} (hef : Ent fn) (sz : Int) (A : Option Addr) (m c : Nat) (x : Nat → Int) (Al : Option Addr) (n cl : Nat) (l : List Int) (w : World) (h : GA w A m c x) (hl : LI w Al n cl l) (hm : m ≤ 1048576) (hn : n ≤ 1048576)
 (HF : ∀ (i k : Nat) (z : World), i < k → k < n → Below w.heap.size w z → Calls Tryz.prog fn (#[.int .i64 i, .int .i64 k] ++ caps) z (fun e z' => e = .returned (.bool (J i k)) ∧ Below z.heap.size z z')) :
 Calls Tryz.prog 289 #[.agg #[.int .i64 sz, .slice A m c], .slice Al n cl, .func (.func fn) #[] caps] w fun e w' => e = .returned (.bool (ajB sz m x l J)) ∧ Below w.heap.size w w' := by
 unfold Ent at hef
 obtain ⟨W, hW⟩ : ∃ W : World, W = (w.alloc (Obj.cells #[Value.int IntKind.i64 sz, Value.slice A m c] 29)) := ⟨_, rfl⟩
 have HB : Hid (From w W) := by rw [hW]; exact From.alloc _ _
 have HK := Lib.hid (h.keep HB.out.below)
 have HL := Lib.hid (hl.keep HB.out.below)
 have HC : Hid (GC W w.heap.size sz A m c) := by rw [hW]; exact GC.new _ _ _ _ _
 have HW := Lib.hid hW
 have HN := Lib.hid hl.len
 have HF := Lib.hid HF
 clear hW h hl
 go_enter Tryz.func289, Tryz.ntmps289
 have e0 := HC.out.c0
 have e1 := HC.out.c1
 go_wp2_with fail
 rw [← HW.out]
 refine (areVertices_z sz A m c x Al n cl l W HK.out HL.out hm hn).mono ?_
 rintro e w1 ⟨rfl, hb1⟩
 clear HW
 clear e0 e1
 replace HB := Lib.hid (HB.out.keep hb1)
 replace HK := Lib.hid (HK.out.keep hb1)
 replace HL := Lib.hid (HL.out.keep hb1)
 replace HC := Lib.hid (HC.out.keep hb1)
 clear hb1
 have e0 := HC.out.c0
 have e1 := HC.out.c1
 cases hv : vrB sz m x l
 ·have hno : Hid (ajB sz m x l J = false) := ajB_bad hv
  clear hv
  go_wp2
  go_ret
  exact ⟨ret_bool hno.out.symm, HB.out.below⟩
 ·obtain ⟨ho, hV⟩ := vrB_parts hv
  obtain ⟨_, es, vg0, _⟩ := okB_ok' ho
  subst es
  have hn7 := vg0.n7
  have HG : Hid (GV w1 A m c (rw_ x)) := HK.out.gv ho
  have HV := Lib.hid hV
  have Hv := Lib.hid hv
  have hn7' : n ≤ 7 := by rw [HN.out]; have := hV.len; omega
  obtain ⟨b, o, rfl⟩ := HG.out.addr
  clear hv ho hV vg0 e0
  go_wp2
  go_loopw [15] (fun k wr => ∃ K : Nat, K ≤ n ∧ k = .int .i64 K ∧ Hid (∀ k, k < K → ∀ i, i < k → edZ x (l.getD i 0) (l.getD k 0) = J i k) ∧ Hid (From w1 wr)) (fun k _ => n - (intOf k).toNat)
  case atStart => exact ⟨0, Nat.zero_le _, rfl, fun k hk => absurd hk (by omega), From.refl _⟩
  case round =>
   obtain ⟨K, hK, rfl, hall, HR⟩ := hrel
   by_cases hlt : K < n
   ·have i1 : (K : Int) < (n : Int) := by omega
    have HRo := HR
    have Hlt := Lib.hid hlt
    go_wp2
    go_loopw [19] (fun i wz => ∃ j : Nat, j ≤ K ∧ i = .int .i64 j ∧ Hid (∀ i, i < j → edZ x (l.getD i 0) (l.getD K 0) = J i K) ∧ Hid (From w1 wz)) (fun i _ => K - (intOf i).toNat)
    case atStart => exact ⟨0, Nat.zero_le _, rfl, fun i hi => absurd hi (by omega), HRo⟩
    case round =>
     clear HR HRo
     obtain ⟨j, hj, rfl, hin, HR⟩ := hrel
     by_cases hjK : j < K
     ·have i2 : (j : Int) < (K : Int) := by omega
      have HLr := Lib.hid (HL.out.keep HR.out.below)
      have HGr := Lib.hid (HG.out.keep HR.out.below)
      have HCr := Lib.hid (HC.out.keep HR.out.below)
      have HBr := Lib.hid (HB.out.keep HR.out.below)
      have e1 := HCr.out.c1
      obtain ⟨b2, o2, rfl⟩ := HLr.out.addr (by omega)
      have p0 := HLr.out.at (j := j) (by omega)
      have p1 := HLr.out.at (j := K) (by omega)
      have hmj := getD_mem (l := l) (k := j) (by rw [← HN.out]; omega)
      have hmk := getD_mem (l := l) (k := K) (by rw [← HN.out]; omega)
      obtain ⟨a0, a1⟩ := HV.out.2 _ hmj
      obtain ⟨d0, d1⟩ := HV.out.2 _ hmk
      obtain ⟨u, hu⟩ := Int.eq_ofNat_of_zero_le a0
      obtain ⟨v, hvv⟩ := Int.eq_ofNat_of_zero_le d0
      have Hed : Hid (edZ x (l.getD j 0) (l.getD K 0) = (rw_ x u).testBit v) := by show _ = _; unfold edZ; rw [hu, hvv, Int.toNat_natCast, Int.toNat_natCast]
      rw [hu] at p0 a1
      rw [hvv] at p1 d1
      have q0 := HGr.out.row (v := u) (by omega)
      have hr := HGr.out.vg.lt128 (v := u) (by omega)
      obtain ⟨y, hy⟩ : ∃ y, y = rw_ x u := ⟨_, rfl⟩
      rw [← hy] at q0 hr Hed
      have K1 : Hid (∀ z : World, Calls Tryz.prog 69 #[.int .i64 (y : Int), .int .i64 v] z fun e w' => e = .returned (.bool (y.testBit v)) ∧ Below z.heap.size z w') := fun z => (has_v z (by omega) (by omega)).mono fun _ _ ⟨h1, h2⟩ => ⟨h1, h2 ▸ Below.refl _ _⟩
      have K2 : Hid (∀ z : World, Below wr.heap.size wr z → Calls Tryz.prog fn (#[.int .i64 j, .int .i64 K] ++ caps) z fun e z' => e = .returned (.bool (J j K)) ∧ Below z.heap.size z z') := fun z hz => HF.out j K z hjK Hlt.out (HBr.out.keep hz).below
      obtain ⟨t, ht⟩ : ∃ t, t = y.testBit v := ⟨_, rfl⟩
      rw [← ht] at K1 Hed
      obtain ⟨t2, ht2⟩ : ∃ t2, t2 = J j K := ⟨_, rfl⟩
      rw [← ht2] at K2
      have Ht2 := Lib.hid ht2
      have i3 : (j : Int) < (n : Int) := by omega
      clear hmj hmk hu hvv hy ht ht2 a0 d0 e1
      have e1 := HCr.out.c1
      go_wp2
      have HSC : Hid (∀ z : World, Below wr.heap.size wr z → (Below wr.heap.size wr z ∧ z.cell? ⟨w.heap.size, 1, none⟩ = some (.slice (some ⟨b, o, none⟩) m c) ∧ z.cell? ⟨b2, o2 + j, none⟩ = some (.int .i64 u) ∧ z.cell? ⟨b2, o2 + K, none⟩ = some (.int .i64 v) ∧ z.cell? ⟨b, o + u, none⟩ = some (.int .i64 (y : Int)))) := fun z hz => ⟨hz, up_ hz e1, up_ hz p0, up_ hz p1, up_ hz q0⟩
      have HZ0 : Hid (Below wr.heap.size wr wr.drew) := (Below.refl _ _).drew
      have HS1 := Lib.hid (HSC.out _ HZ0.out)
      have KR1 : Hid (∀ z : World, Below wr.heap.size wr z → _) := fun z hz => K1.out z
      have KR2 : Hid (∀ z : World, Below wr.heap.size wr z → _) := fun z hz => K2.out z hz
      go_region_held3 (fun z => Below wr.heap.size wr z ∧ z.cell? ⟨w.heap.size, 1, none⟩ = some (.slice (some ⟨b, o, none⟩) m c) ∧ z.cell? ⟨b2, o2 + j, none⟩ = some (.int .i64 u) ∧ z.cell? ⟨b2, o2 + K, none⟩ = some (.int .i64 v) ∧ z.cell? ⟨b, o + u, none⟩ = some (.int .i64 (y : Int)))
       (first | exact HS1.out | assumption | exact HSC.out _ hz3 | exact HSC.out _ hz2 | fail)
       (first | (go_at_call 69; ((with_reducible refine (KR1.out _ HZ0.out).mono ?_); rintro e w2 ⟨rfl, hb2⟩; have hz2 := bl_trans HZ0.out hb2)) | (((with_reducible refine (KR2.out _ hz2).mono ?_); rintro e w3 ⟨rfl, hb3⟩; have hz3 := bl_trans hz2 hb3)))
      clear e1
      replace HCr := Lib.hid (HCr.out.keep hz3)
      replace HR := Lib.hid (HR.out.keep hz3)
      replace HBr := Lib.hid (HBr.out.keep hz3)
      clear hb2 hz2 hb3 hz3 HSC HZ0 HS1 KR1 KR2
      have e1 := HCr.out.c1
      cases t
      ·cases t2
       ·go_wp2
        go_roundw
        case rel =>
         refine ⟨j + 1, by omega, by go_num, fun i hi => ?_, HR⟩
         by_cases hij : i < j
         ·exact hin.out i hij
         ·obtain rfl : i = j := by omega
          rw [Hed.out, ← Ht2.out]
        case measure => (simp [intOf] <;> omega)
       ·have hno : Hid (ajB (m : Int) m x l J = false) := ajB_no (i := j) (k := K) hjK (by rw [← HN.out]; exact Hlt.out) (by rw [Hed.out, ← Ht2.out]; decide)
        go_wp2
        go_ret
        exact ⟨ret_bool hno.out.symm, HBr.out.below⟩
      ·cases t2
       ·have hno : Hid (ajB (m : Int) m x l J = false) := ajB_no (i := j) (k := K) hjK (by rw [← HN.out]; exact Hlt.out) (by rw [Hed.out, ← Ht2.out]; decide)
        go_wp2
        go_ret
        exact ⟨ret_bool hno.out.symm, HBr.out.below⟩
       ·go_wp2
        go_roundw
        case rel =>
         refine ⟨j + 1, by omega, by go_num, fun i hi => ?_, HR⟩
         by_cases hij : i < j
         ·exact hin.out i hij
         ·obtain rfl : i = j := by omega
          rw [Hed.out, ← Ht2.out]
        case measure => (simp [intOf] <;> omega)
     ·obtain rfl : j = K := by omega
      go_wp2
      go_roundw
      case rel =>
       refine ⟨j + 1, by omega, by go_num, fun k hk i hi => ?_, HR⟩
       by_cases hkj : k < j
       ·exact hall.out k hkj i hi
       ·obtain rfl : k = j := by omega
        exact hin.out i hi
      case measure => simp [intOf]; omega
   ·have hyes : Hid (ajB (m : Int) m x l J = true) := ajB_yes Hv.out fun k hk i hi => hall.out k (by rw [← HN.out] at hk; omega) i hi
    have i1 : (n : Int) ≤ (K : Int) := by omega
    have HBr := Lib.hid (HB.out.keep HR.out.below)
    go_wp2
    go_ret
    exact ⟨ret_bool hyes.out.symm, HBr.out.below⟩
theorem pathJ_c (i k : Nat) (z : World) (hi : i ≤ 1048576) : Calls Tryz.prog 290 (#[.int .i64 i, .int .i64 k] ++ #[]) z (fun e z' => e = .returned (.bool (pathJ i k)) ∧ Below z.heap.size z z') := by
 have hd : Hid (((k : Int) == (i : Int) + 1) = pathJ i k) := by
  show _ = _; unfold pathJ; rw [Bool.eq_iff_iff]; simp only [beq_iff_eq]; omega
 show Calls Tryz.prog 290 #[.int .i64 i, .int .i64 k] z _
 go_enter Tryz.func290, Tryz.ntmps290
 go_wp2
 go_ret
 exact ⟨ret_bool hd.out, Below.refl _ _⟩
section
variable (sz : Int) (A : Option Addr) (m c : Nat) (x : Nat → Int) (Al : Option Addr) (n cl : Nat) (l : List Int) (w : World)
set_option maxHeartbeats 1000000 in
theorem IsInducedPath_i (h : GA w A m c x) (hl : LI w Al n cl l) (hm : m ≤ 1048576) (hn : n ≤ 1048576) :
 Calls Tryz.prog 269 #[.agg #[.int .i64 sz, .slice A m c], .slice Al n cl] w fun e w' => e = .returned (.bool (ipB sz m x l)) ∧ Below w.heap.size w w' := by
 obtain ⟨W, hW⟩ : ∃ W : World, W = (w.alloc (Obj.cells #[Value.int IntKind.i64 sz, Value.slice A m c] 29)) := ⟨_, rfl⟩
 have HB : Hid (From w W) := by rw [hW]; exact From.alloc _ _
 have HC : Hid (GC W w.heap.size sz A m c) := by rw [hW]; exact GC.new _ _ _ _ _
 have K := Lib.hid (areJoined_g (J := pathJ) (fn := 290) (caps := #[]) (ent_of Tryz.func290 (by kernel_rfl) rfl) sz A m c x Al n cl l W (h.keep HB.out.below) (hl.keep HB.out.below) hm hn (fun i k z h1 h2 _ => pathJ_c i k z (by omega)))
 have HN := Lib.hid hl.len
 have HW := Lib.hid hW
 have e0 := HC.out.c0
 have e1 := HC.out.c1
 clear hW h hl
 by_cases h0 : 0 < n
 ·have hd : Hid (ipB sz m x l = ajB sz m x l pathJ) := by show _ = _; unfold ipB; rw [decide_eq_true (by rw [← HN.out]; exact h0)]; rfl
  have i1 : (0 : Int) < (n : Int) := by omega
  go_enter Tryz.func269, Tryz.ntmps269
  go_wp2_with fail
  rw [← HW.out]
  clear HW
  refine K.out.mono ?_
  rintro e w1 ⟨rfl, hb1⟩
  have HB1 := Lib.hid (HB.out.keep hb1)
  clear hb1
  go_wp2
  go_ret
  exact ⟨ret_bool hd.out.symm, HB1.out.below⟩
 ·obtain rfl : n = 0 := by omega
  have hd : Hid (ipB sz m x l = false) := by show _ = _; unfold ipB; rw [decide_eq_false (by rw [← HN.out]; omega)]; rfl
  go_enter Tryz.func269, Tryz.ntmps269
  go_wp2
  rw [← HW.out]
  go_ret
  exact ⟨ret_bool hd.out.symm, HB.out.below⟩
end
end Go.Proofs.YtppkokgiojcgbaaGreatDoor
