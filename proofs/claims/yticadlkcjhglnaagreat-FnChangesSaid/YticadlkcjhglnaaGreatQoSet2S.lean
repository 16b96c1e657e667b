/-
  Several texts in one.
-/
import Derived.Test.YticadlkcjhglnaaGreatQoV
import Derived.Test.YticadlkcjhglnaaGreatQoGA
/-
-/
namespace Go.Proofs.YticadlkcjhglnaaGreat
open Go.RowKit
set_option maxHeartbeats 1000000
theorem CountSet_v (s : Nat) (hs : s < 128) (w : World) :
 Calls Tryz.prog 93 #[.int .i64 s] w fun e w' => e = .returned (.int .i64 (cn s : Int)) ∧ Below w.heap.size w w' := CountSet_i s hs w
theorem CountSet_sv (s : Nat) (hs : s < 128) (w : World) :
 Calls Tryz.prog 92 #[.int .i64 s] w fun e w' => e = .returned (.int .i64 (cn s : Int)) ∧ Below w.heap.size w w' := CountSet_s s hs w
section
variable {A : Option Addr} {m c : Nat} {r : Nat → Nat} {fn : FuncId} {caps : Array Value} {p : Nat → Bool}
theorem largest_g (hef : Ent fn) (w : World) (h : GV w A m c r)
 (HF : ∀ (s : Nat) (z : World), s < 2 ^ m → Below w.heap.size w z → Calls Tryz.prog fn (#[.agg #[.int .i64 m, .slice A m c], .int .i64 s] ++ caps) z (fun e z' => e = .returned (.bool (p s)) ∧ Below z.heap.size z z')) :
 Calls Tryz.prog 222 #[.agg #[.int .i64 m, .slice A m c], .func (.func fn) #[] caps] w fun e w' => e = .returned (.int .i64 (lgK p (2 ^ m) : Nat)) ∧ Below w.heap.size w w' := by
 have hn7 := h.vg.n7;unfold Ent at hef;have h128 := two_pow_le hn7;have hpos := Nat.two_pow_pos m;obtain ⟨W, hW, HB, HG⟩ := gbW h;have HW := hh_ hW;clear hW h;obtain ⟨e0, e1⟩ := gx_ HG;have HF := hh_ HF;go_enter Tryz.func222, Tryz.ntmps222;go_wp2_with fail
 rw [← HW.out];refine (IsGraph_v HG.gv).mono ?_;rintro e w1 ⟨rfl, hb1⟩;clear HW;clear e0 e1;obtain ⟨HB, HG, e0, e1⟩ := kG_ HB HG hb1;clear hb1;go_wp2;go_loopw [5, 6] (fun b i wr => ∃ k : Nat, 1 ≤ k ∧ k ≤ 2 ^ m ∧ i = .int .i64 k ∧ b = .int .i64 (lgK p k : Nat) ∧ Hid (From w1 wr)) (fun _ i _ => 2 ^ m - (intOf i).toNat);case atStart => exact ⟨1, nr_, hpos, rfl, by rw [lgK_one]; rfl, From.refl _⟩
 case round =>
  obtain ⟨k, hk1, hk, rfl, rfl, HR⟩ := hrel;clear e0 e1;replace HB := hh_ (HB.keep HR.below);replace HG := hh_ (HG.keep HR.below);obtain ⟨e0, e1⟩ := gx_ HG;have hlk := lgK_lt (p := p) k (by omega);go_wp2_with fail
  refine (all_v HG.gv).mono ?_;rintro e w2 ⟨rfl, hb2⟩;clear e0 e1;replace HB := hh_ (HB.keep hb2);replace HG := hh_ (HG.keep hb2);replace HR := hh_ (HR.keep hb2);clear hb2;obtain ⟨e0, e1⟩ := gx_ HG;by_cases hlt : k < 2 ^ m
  ·have i1 : (k : Int) ≤ ((2 ^ m - 1 : Nat) : Int) := by omega
   go_wp2_with fail
   refine (CountSet_v k (by omega) _).mono ?_;rintro e w3 ⟨rfl, hb3⟩;clear e0 e1;replace HB := hh_ (HB.keep hb3);replace HG := hh_ (HG.keep hb3);replace HR := hh_ (HR.keep hb3);clear hb3;obtain ⟨e0, e1⟩ := gx_ HG;go_wp2_with fail
   refine (CountSet_v (lgK p k) (by omega) _).mono ?_;rintro e w4 ⟨rfl, hb4⟩;clear e0 e1;replace HB := hh_ (HB.keep hb4);replace HG := hh_ (HG.keep hb4);replace HR := hh_ (HR.keep hb4);clear hb4;obtain ⟨e0, e1⟩ := gx_ HG;by_cases hcn : cn (lgK p k) < cn k
   ·have KF := hh_ (HF.out k _ hlt HB.below);have i2 : ((cn (lgK p k) : Nat) : Int) < ((cn k : Nat) : Int) := by omega
    go_wp2_with fail
    refine (KF.out).mono ?_;rintro e w5 ⟨rfl, hb5⟩;clear e0 e1;replace HB := hh_ (HB.keep hb5);replace HG := hh_ (HG.keep hb5);replace HR := hh_ (HR.keep hb5);clear hb5;obtain ⟨e0, e1⟩ := gx_ HG;cases hp : p k
    ·have Hn : Hid (lgK p (k + 1) = lgK p k) := lgK_no (.inr hp);clear hp KF;go_wp2;go_roundw;case rel => exact ⟨k + 1, by omega, by omega, by go_num, by rw [Hn.out], HR⟩
     case measure => simp [intOf]; omega
    ·have Hn : Hid (lgK p (k + 1) = k) := lgK_yes hcn hp;clear hp KF;go_wp2;go_roundw;case rel => exact ⟨k + 1, by omega, by omega, by go_num, by rw [Hn.out], HR⟩
     case measure => simp [intOf]; omega
   ·have Hn : Hid (lgK p (k + 1) = lgK p k) := lgK_no (.inl hcn);have i2 : ((cn k : Nat) : Int) ≤ ((cn (lgK p k) : Nat) : Int) := by omega
    go_wp2;go_roundw;case rel => exact ⟨k + 1, by omega, by omega, by go_num, by rw [Hn.out], HR⟩
    case measure => simp [intOf]; omega
  ·have hkm : k = 2 ^ m := by omega
   have i1 : ((2 ^ m - 1 : Nat) : Int) < (k : Int) := by omega
   have Hk : Hid (lgK p k = lgK p (2 ^ m)) := by rw [hkm]; exact rfl
   clear hkm;go_wp2;go_ret;exact ⟨ret_int (by rw [Hk.out]), HB.below⟩
theorem fewest_g (hef : Ent fn) (w : World) (h : GV w A m c r)
 (HF : ∀ (s : Nat) (z : World), s < 2 ^ m → Below w.heap.size w z → Calls Tryz.prog fn (#[.agg #[.int .i64 m, .slice A m c], .int .i64 s] ++ caps) z (fun e z' => e = .returned (.bool (p s)) ∧ Below z.heap.size z z')) :
 Calls Tryz.prog 87 #[.agg #[.int .i64 m, .slice A m c], .func (.func fn) #[] caps] w fun e w' => e = .returned (.int .i64 (fwI (fwK p (2 ^ m)))) ∧ Below w.heap.size w w' := by
 have hn7 := h.vg.n7;unfold Ent at hef;have h128 := two_pow_le hn7;have hpos := Nat.two_pow_pos m;have s1 : wrap64 (((2 ^ m - 1 : Nat) : Int) + 1) = ((2 ^ m : Nat) : Int) := by
  rw [Go.IntWalk.wrap64_in _ (by omega)]; omega
 obtain ⟨W, hW, HB, HG⟩ := gbW h;have HW := hh_ hW;clear hW h;obtain ⟨e0, e1⟩ := gx_ HG;have HF := hh_ HF;have HS := hh_ s1;go_enter Tryz.func87, Tryz.ntmps87;go_wp2_with fail
 rw [← HW.out];refine (IsGraph_v HG.gv).mono ?_;rintro e w1 ⟨rfl, hb1⟩;clear HW;clear e0 e1;obtain ⟨HB, HG, e0, e1⟩ := kG_ HB HG hb1;clear hb1;go_wp2_with fail
 refine (all_v HG.gv).mono ?_;rintro e w2 ⟨rfl, hb2⟩;clear e0 e1;obtain ⟨HB, HG, e0, e1⟩ := kG_ HB HG hb2;clear hb2;go_wp2;go_loopw [5, 13] (fun b i wr => ∃ k : Nat, k ≤ 2 ^ m ∧ i = .int .i64 k ∧ b = .int .i64 (fwI (fwK p k)) ∧ Hid (From w2 wr)) (fun _ i _ => 2 ^ m - (intOf i).toNat);case atStart => exact ⟨0, Nat.zero_le _, rfl, rfl, From.refl _⟩
 case round =>
  obtain ⟨k, hk, rfl, rfl, HR⟩ := hrel;clear e0 e1;replace HB := hh_ (HB.keep HR.below);replace HG := hh_ (HG.keep HR.below);obtain ⟨e0, e1⟩ := gx_ HG;by_cases hlt : k < 2 ^ m
  ·have i1 : (k : Int) < ((2 ^ m : Nat) : Int) := by omega
   cases hb : fwK p k with
   | none =>
     have KF := hh_ (HF.out k _ hlt HB.below);have hq : fwI none = -1 := rfl;rw [hq];clear hq;go_wp2_with fail
     refine (KF.out).mono ?_;rintro e w3 ⟨rfl, hb3⟩;clear e0 e1;replace HB := hh_ (HB.keep hb3);replace HG := hh_ (HG.keep hb3);replace HR := hh_ (HR.keep hb3);clear hb3;obtain ⟨e0, e1⟩ := gx_ HG;cases hp : p k
     ·have Hn : Hid (fwK p (k + 1) = none) := (fwK_no (.inr hp)).trans hb;clear hp KF hb;go_wp2;go_roundw;case rel => exact ⟨k + 1, by omega, by go_num, by rw [Hn.out]; rfl, HR⟩
      case measure => simp [intOf]; omega
     ·have Hn : Hid (fwK p (k + 1) = some k) := fwK_yes (fun b h => by rw [hb] at h; cases h) hp;clear hp KF hb;go_wp2;go_roundw;case rel => exact ⟨k + 1, by omega, by go_num, by rw [Hn.out]; rfl, HR⟩
      case measure => simp [intOf]; omega
   | some b =>
     have hbl := (fwK_lt k b hb).1;have hq : fwI (some b) = (b : Int) := rfl;rw [hq];have i3 : (0 : Int) ≤ b := by omega
     clear hq;go_wp2_with fail
     refine (CountSet_v k (by omega) _).mono ?_;rintro e w4 ⟨rfl, hb4⟩;clear e0 e1;replace HB := hh_ (HB.keep hb4);replace HG := hh_ (HG.keep hb4);replace HR := hh_ (HR.keep hb4);clear hb4;obtain ⟨e0, e1⟩ := gx_ HG;go_wp2_with fail
     refine (CountSet_v b (by omega) _).mono ?_;rintro e w5 ⟨rfl, hb5⟩;clear e0 e1;replace HB := hh_ (HB.keep hb5);replace HG := hh_ (HG.keep hb5);replace HR := hh_ (HR.keep hb5);clear hb5;obtain ⟨e0, e1⟩ := gx_ HG;by_cases hcn : cn k < cn b
     ·have KF := hh_ (HF.out k _ hlt HB.below);have i2 : ((cn k : Nat) : Int) < ((cn b : Nat) : Int) := by omega
      go_wp2_with fail
      refine (KF.out).mono ?_;rintro e w6 ⟨rfl, hb6⟩;clear e0 e1;replace HB := hh_ (HB.keep hb6);replace HG := hh_ (HG.keep hb6);replace HR := hh_ (HR.keep hb6);clear hb6;obtain ⟨e0, e1⟩ := gx_ HG;cases hp : p k
      ·have Hn : Hid (fwK p (k + 1) = some b) := (fwK_no (.inr hp)).trans hb;clear hp KF hb;go_wp2;go_roundw;case rel => exact ⟨k + 1, by omega, by go_num, by rw [Hn.out]; rfl, HR⟩
       case measure => simp [intOf]; omega
      ·have Hn : Hid (fwK p (k + 1) = some k) := fwK_yes (fun b' h => by rw [hb] at h; injection h with h; subst h; exact hcn) hp;clear hp KF hb;go_wp2;go_roundw;case rel => exact ⟨k + 1, by omega, by go_num, by rw [Hn.out]; rfl, HR⟩
       case measure => simp [intOf]; omega
     ·have Hn : Hid (fwK p (k + 1) = some b) := (fwK_no (.inl ⟨b, hb, hcn⟩)).trans hb;have i2 : ((cn b : Nat) : Int) ≤ ((cn k : Nat) : Int) := by omega
      clear hb;go_wp2;go_roundw;case rel => exact ⟨k + 1, by omega, by go_num, by rw [Hn.out]; rfl, HR⟩
      case measure => simp [intOf]; omega
  ·have hkm : k = 2 ^ m := by omega
   have i1 : ((2 ^ m : Nat) : Int) ≤ (k : Int) := by omega
   have Hk : Hid (fwK p k = fwK p (2 ^ m)) := by rw [hkm]; exact rfl
   clear hkm;go_wp2;go_ret;exact ⟨ret_int (by rw [Hk.out]), HB.below⟩
end
noncomputable def setB (sz : Int) (m : Nat) (x : Nat → Int) (s : Int) : Bool := okB sz m x && decide (0 ≤ s ∧ s < 2 ^ m)
def indB (r : Nat → Nat) (s : Nat) : Bool := nb r s &&& s == 0
theorem pow_cast (m : Nat) : ((2 ^ m : Nat) : Int) = 2 ^ m := by simp
theorem setB_yes {sz : Int} {m : Nat} {x : Nat → Int} {s : Nat} (h : okB sz m x = true) (hs : s < 2 ^ m) : setB sz m x s = true := by
 unfold setB;have := pow_cast m;rw [h, decide_eq_true (⟨by omega, by omega⟩ : 0 ≤ (s : Int) ∧ (s : Int) < 2 ^ m)]; rfl
theorem setB_parts {sz : Int} {m : Nat} {x : Nat → Int} {s : Int} (h : setB sz m x s = true) : okB sz m x = true ∧ sz = m ∧ ∃ k : Nat, s = k ∧ k < 2 ^ m := by
 unfold setB at h;simp only [Bool.and_eq_true, decide_eq_true_eq] at h;obtain ⟨h1, h2, h3⟩ := h;obtain ⟨_, e, _⟩ := okB_ok' h1;have := pow_cast m;exact ⟨h1, e, s.toNat, by omega, by omega⟩
theorem setB_out {sz : Int} {m : Nat} {x : Nat → Int} {s : Int} (h : s < 0 ∨ 2 ^ m ≤ s) : setB sz m x s = false := by
 unfold setB;rw [decide_eq_false (by omega : ¬(0 ≤ s ∧ s < 2 ^ m)), Bool.and_false]
theorem indB_no {r : Nat → Nat} {s v : Nat} (hv : v < 7) (hb : s.testBit v = true) (h : r v &&& s ≠ 0) : indB r s = false := by
 unfold indB;obtain ⟨u, hu⟩ := ex_bit h;rw [Nat.testBit_and, Bool.and_eq_true] at hu;have : (nb r s &&& s).testBit u = true := by
  rw [Nat.testBit_and, Bool.and_eq_true];exact ⟨nb_bit.2 ⟨v, hv, hb, hu.1⟩, hu.2⟩
 cases hz : (nb r s &&& s == 0)
 ·rfl
 ·have e : nb r s &&& s = 0 := by simpa using hz
  rw [e] at this; simp at this
theorem indB_yes {r : Nat → Nat} {s : Nat} (h : ∀ v, v < 7 → s.testBit v = true → r v &&& s = 0) : indB r s = true := by
 unfold indB;rw [beq_iff_eq];apply Nat.eq_of_testBit_eq;intro u;rw [Nat.zero_testBit, Nat.testBit_and];cases hu : s.testBit u
 ·simp
 ·cases hn : (nb r s).testBit u
  ·rfl
  ·obtain ⟨v, hv, hb, hr⟩ := nb_bit.1 hn;have := h v hv hb;have h2 : (r v &&& s).testBit u = true := by rw [Nat.testBit_and, hr, hu]; rfl
   rw [this] at h2; simp at h2
def redL (f : Nat → Option Nat) (left : Nat) : Option (List Nat) :=
 if left = 0 then some []
 else match f left with
  | none => none
  | some v => if h : left.testBit v = true then (redL f (left ^^^ 2 ^ v)).map (v :: ·) else none
termination_by left
decreasing_by exact xor_bit_lt h
theorem redL_zero (f : Nat → Option Nat) : redL f 0 = some [] := by unfold redL; rfl
theorem redL_none {f : Nat → Option Nat} {left : Nat} (h0 : left ≠ 0) (h : f left = none) : redL f left = none := by
 unfold redL; rw [if_neg h0, h]
theorem redL_some {f : Nat → Option Nat} {left v : Nat} (hb : left.testBit v = true) (h : f left = some v) : redL f left = (redL f (left ^^^ 2 ^ v)).map (v :: ·) := by
 have h0 : left ≠ 0 := by
  rintro rfl;simp at hb
 rw [redL, if_neg h0, h];simp [hb]
theorem redL_step {f : Nat → Option Nat} {left v : Nat} {o : Option (List Nat)} {T : List Nat} (hb : left.testBit v = true) (h : f left = some v) (e : o = (redL f left).map (T ++ ·)) : o = (redL f (left ^^^ 2 ^ v)).map ((T ++ [v]) ++ ·) := by
 rw [e, redL_some hb h, Option.map_map];congr 1;funext l
 simp
theorem redL_end {f : Nat → Option Nat} {o : Option (List Nat)} {T : List Nat} (e : o = (redL f 0).map (T ++ ·)) : o = some T := by
 rw [e, redL_zero]; simp
theorem redL_stuck {f : Nat → Option Nat} {left : Nat} {o : Option (List Nat)} {T : List Nat} (h0 : left ≠ 0) (h : f left = none) (e : o = (redL f left).map (T ++ ·)) : o = none := by
 rw [e, redL_none h0 h]; rfl
theorem redL_start {f : Nat → Option Nat} {left : Nat} : redL f left = (redL f left).map ([] ++ ·) := by
 cases redL f left <;> rfl
def fsF (p : Nat → Nat → Bool) (left : Nat) : Option Nat := (listN left).find? (p left)
section
variable {p : Nat → Nat → Bool} {left v k : Nat}
theorem fsF_bit (h : fsF p left = some v) : v < 7 ∧ left.testBit v = true := mem_listN.1 (List.mem_of_find?_eq_some h)
theorem fsF_place (h : fsF p left = some v) : ∃ k, ∃ hk : k < (listN left).length, (listN left)[k] = v ∧ p left v = true ∧ ∀ j (hj : j < k), p left ((listN left)[j]'(by omega)) = false := by
 unfold fsF at h;rw [List.find?_eq_some_iff_getElem] at h;obtain ⟨h1, k, hk, h2, h3⟩ := h;exact ⟨k, hk, h2, h1, fun j hj => by have := h3 j hj; simpa using this⟩
theorem fsF_none' (h : fsF p left = none) : ∀ j (hj : j < (listN left).length), p left (listN left)[j] = false := by
 intro j hj;unfold fsF at h;rw [List.find?_eq_none] at h;have := h _ (List.getElem_mem hj);simpa using this
theorem fsF_least (hv : v < 7) (hb : left.testBit v = true) (hy : p left v = true) (hmin : ∀ u, u < v → left.testBit u = true → p left u = false) : fsF p left = some v := by
 cases h : fsF p left with
 | none =>
   unfold fsF at h;rw [List.find?_eq_none] at h;exact absurd hy (h v (mem_listN.2 ⟨hv, hb⟩))
 | some u =>
   have hu := fsF_bit h;have hyu : p left u = true := by unfold fsF at h; exact List.find?_some h
   rcases Nat.lt_trichotomy u v with h1 | h1 | h1
   ·rw [hmin u h1 hu.2] at hyu; cases hyu
   ·rw [h1]
   ·exfalso;unfold fsF listN listK at h;rw [List.find?_eq_some_iff_append] at h;obtain ⟨_, us, bs, hab, hno⟩ := h;have hsort : ((List.range 7).filter fun v => left.testBit v).Pairwise (· < ·) := List.Pairwise.filter _ List.pairwise_lt_range;have hvm : v ∈ (List.range 7).filter fun v => left.testBit v := by simp [hv, hb]
    rw [hab] at hvm hsort;rw [List.mem_append] at hvm;rcases hvm with hvm | hvm
    ·have := hno v hvm; rw [hy] at this; cases this
    ·rw [List.mem_cons] at hvm;rcases hvm with rfl | hvm
     ·omega
     ·have := (List.pairwise_cons.1 (List.pairwise_append.1 hsort).2.1).1 v hvm;omega
theorem fsF_no (h : ∀ u, u < 7 → left.testBit u = true → p left u = false) : fsF p left = none := by
 unfold fsF;rw [List.find?_eq_none];intro v hv;have := mem_listN.1 hv;simp [h v this.1 this.2]
end
def thB (r : Nat → Nat) (left v : Nat) : Bool := r v &&& left == 0 || (r v &&& left) ||| 2 ^ v == left
def thT (r : Nat → Nat) (left : Nat) : Nat → Option Nat
 | 0 => none
 | k + 1 => if (left.testBit k && thB r left k) = true then some k else thT r left k
def optI : Option Nat → Int
 | none => -1
 | some v => (v : Int)
theorem thT_bit {r : Nat → Nat} {left : Nat} : ∀ {k v}, thT r left k = some v → v < k ∧ left.testBit v = true := by
 intro k;induction k with
 | zero => intro v h; cases h
 | succ k ih =>
   intro v h;rw [thT] at h;split at h
   ·rename_i h2;injection h with h
    subst h;rw [Bool.and_eq_true] at h2;exact ⟨by omega, h2.1⟩
   ·have := ih h;exact ⟨by omega, this.2⟩
theorem thT_no {r : Nat → Nat} {left k : Nat} (h : left.testBit k = false ∨ thB r left k = false) : thT r left (k + 1) = thT r left k := by
 rw [thT];rcases h with h | h <;> simp [h]
theorem thT_yes {r : Nat → Nat} {left k : Nat} (h : left.testBit k = true) (h2 : thB r left k = true) : thT r left (k + 1) = some k := by
 rw [thT, h, h2]; rfl
def thG (r : Nat → Nat) (left : Nat) (l : List Nat) : Option Nat := l.foldl (fun a v => if thB r left v = true then some v else a) none
theorem thG_snoc {r : Nat → Nat} {left : Nat} {l : List Nat} {v : Nat} : thG r left (l ++ [v]) = if thB r left v = true then some v else thG r left l := by
 unfold thG; rw [List.foldl_append]; rfl
theorem thG_K {r : Nat → Nat} {left : Nat} : ∀ k, thG r left (listK left k) = thT r left k := by
 intro k;induction k with
 | zero => rfl
 | succ k ih =>
   cases h : left.testBit k
   ·rw [listK_no h, thT_no (.inl h), ih]
   ·rw [listK_yes h, thG_snoc, ih];cases h2 : thB r left k
    ·rw [thT_no (.inr h2)]; rfl
    ·rw [thT_yes h h2]; rfl
theorem thT_more {r : Nat → Nat} {left m : Nat} (hl : left < 2 ^ m) : ∀ k, m ≤ k → thT r left k = thT r left m := by
 intro k hk;induction hk with
 | refl => rfl
 | step hk ih =>
   rename_i k;rw [thT_no (.inl _), ih];cases h : left.testBit k
   ·rfl
   ·exact absurd (bit_lt hl h) (by simp at hk ⊢; omega)
theorem thB_sub {r : Nat → Nat} {left v : Nat} (hb : left.testBit v = true) (hi : (r v).testBit v = false) : ((r v &&& left) ||| 2 ^ v = left) ↔ (r v &&& left = left - 2 ^ v) := by
 have h1 := xor_bit_sub hb;rw [← h1];constructor
 ·intro h;apply Nat.eq_of_testBit_eq;intro i;have := congrArg (Nat.testBit · i) h;simp only [Nat.testBit_or, Nat.testBit_and, Nat.testBit_two_pow] at this;rw [Nat.testBit_xor, Nat.testBit_and, Nat.testBit_two_pow];by_cases e : v = i
  ·subst e; simp [hi, hb]
  ·simp [e] at this; simp [e]; exact this
 ·intro h;apply Nat.eq_of_testBit_eq;intro i;have := congrArg (Nat.testBit · i) h;simp only [Nat.testBit_xor, Nat.testBit_and, Nat.testBit_two_pow] at this;rw [Nat.testBit_or, Nat.testBit_and, Nat.testBit_two_pow];by_cases e : v = i
  ·subst e; simp [hb]
  ·simp [e] at this; simp [e]; exact this
def thF (r : Nat → Nat) (left : Nat) : Option Nat := thT r left 7
def thO (r : Nat → Nat) (m : Nat) : Option (List Nat) := redL (thF r) (2 ^ m - 1)
set_option maxHeartbeats 1000000
structure GA (w : World) (A : Option Addr) (m c : Nat) (x : Nat → Int) : Prop where
 rd : Rd w w.heap.size A m c x
theorem GA.keep {w w' : World} {A : Option Addr} {m c : Nat} {x : Nat → Int} (h : GA w A m c x) (hb : Below w.heap.size w w') : GA w' A m c x := ⟨h.rd.keep hb hb.size⟩
section
variable {w : World} {A : Option Addr} {m c : Nat}
theorem gaW (sz : Int) {x : Nat → Int} (h : GA w A m c x) : ∃ W : World, W = (w.alloc (Obj.cells #[Value.int IntKind.i64 sz, Value.slice A m c] 26)) ∧ Hid (From w W) ∧ Hid (GA W A m c x) ∧ Hid (GC W w.heap.size sz A m c) := ⟨_, rfl, From.alloc _ _, h.keep (From.alloc _ _).below, GC.new _ _ _ _ _⟩
end
theorem kC_ {w0 w w' : World} {q m c : Nat} {sz : Int} {x : Nat → Int} {A : Option Addr} (h : Hid (From w0 w)) (k : Hid (GA w A m c x)) (l : Hid (GC w q sz A m c)) (hb : Below w.heap.size w w') : Hid (From w0 w') ∧ Hid (GA w' A m c x) ∧ Hid (GC w' q sz A m c) ∧ w'.cell? ⟨q, 0, none⟩ = some (.int .i64 sz) ∧ w'.cell? ⟨q, 1, none⟩ = some (.slice A m c) := ⟨h.out.keep hb, k.out.keep hb, l.out.keep hb, (l.out.keep hb).c0, (l.out.keep hb).c1⟩
theorem GA.gv {w : World} {A : Option Addr} {m c : Nat} {x : Nat → Int} (h : GA w A m c x) (hok : okB m m x = true) : GV w A m c (rw_ x) := GV.of h.rd nr_ hok
theorem GV.ga {w : World} {A : Option Addr} {m c : Nat} {r : Nat → Nat} (h : GV w A m c r) : GA w A m c (fun v => (r v : Int)) := ⟨h.rd⟩
theorem IsSet_i (sz : Int) (A : Option Addr) (m c : Nat) (x : Nat → Int) (s : Int) (w : World) (h : GA w A m c x) (hm : m ≤ 1048576) :
 Calls Tryz.prog 135 #[.agg #[.int .i64 sz, .slice A m c], .int .i64 s] w fun e w' => e = .returned (.bool (setB sz m x s)) ∧ Below w.heap.size w w' := by
 obtain ⟨W, hW, HB, HK, HC⟩ := gaW sz h;have HW := hh_ hW;clear hW h;go_enter Tryz.func135, Tryz.ntmps135;obtain ⟨e0, e1⟩ := gc_ HC;go_wp2_with fail
 rw [← HW.out];refine (IsGraph_any sz A m c x W W.heap.size HK.rd nr_ hm).mono ?_;rintro e w1 ⟨rfl, hb1⟩;clear HW;clear e0 e1;obtain ⟨HB, HK, HC, e0, e1⟩ := kC_ HB HK HC hb1;clear hb1;cases ho : okB sz m x
 ·have hno : Hid (setB sz m x s = false) := by show _ = _; unfold setB; rw [ho]; rfl
  clear ho;go_wp2;go_ret;exact ⟨ret_bool hno.symm, HB.below⟩
 ·obtain ⟨_, es, vg0, _⟩ := okB_ok' ho;subst es;have hn7 := vg0.n7;have hp := two_pow_le hn7;have hpos := Nat.two_pow_pos m;have hpc := pow_cast m;have Ho := hh_ ho;clear ho vg0;go_wp2_with fail
  refine (all_any m A c _ hn7).mono ?_;rintro e w2 ⟨rfl, hb2⟩;clear e0 e1;obtain ⟨HB, HK, HC, e0, e1⟩ := kC_ HB HK HC hb2;clear hb2;by_cases hs : 0 ≤ s ∧ s < 2 ^ m
  ·have hyes : Hid (setB (m : Int) m x s = true) := by show _ = _; unfold setB; rw [Ho.out, decide_eq_true hs]; rfl
   obtain ⟨s1, s2⟩ := hs;go_wp2_with (first | (go_at_call 128; refine (within_yes _ _ _ _ s1 (by omega)).mono ?_; rintro e w' ⟨rfl, rfl⟩))
   go_ret;exact ⟨ret_bool hyes.symm, HB.below⟩
  ·have hno : Hid (setB (m : Int) m x s = false) := setB_out (by omega);have hr : Hid (s < 0 ∨ ((2 ^ m - 1 : Nat) : Int) < s) := by show _ ∨ _; omega
   clear hs;go_wp2_with (first | (go_at_call 128; refine (within_no _ _ _ _ hr.out).mono ?_; rintro e w' ⟨rfl, rfl⟩))
   go_ret;exact ⟨ret_bool hno.symm, HB.below⟩
section
variable {A : Option Addr} {m c : Nat} {r : Nat → Nat}
theorem IsSet_v {w : World} (h : GV w A m c r) {s : Nat} (hs : s < 2 ^ m) :
 Calls Tryz.prog 135 #[.agg #[.int .i64 m, .slice A m c], .int .i64 s] w fun e w' => e = .returned (.bool true) ∧ Below w.heap.size w w' := by
 have := IsSet_i m A m c _ s w h.ga (by have := h.vg.n7; omega);rwa [setB_yes h.ok hs] at this
theorem IsClique_v {w : World} (h : GV w A m c r) {s : Nat} (hs : s < 2 ^ m) :
 Calls Tryz.prog 213 #[.agg #[.int .i64 m, .slice A m c], .int .i64 s] w fun e w' => e = .returned (.bool (cliq r s)) ∧ Below w.heap.size w w' := by
 obtain ⟨W, hW, HB, HG⟩ := gbW h;have HW := hh_ hW;clear hW h;obtain ⟨e0, e1⟩ := gx_ HG;go_enter Tryz.func213, Tryz.ntmps213;go_wp2_with fail
 rw [← HW.out];refine (IsSet_v HG.gv hs).mono ?_;rintro e w1 ⟨rfl, hb1⟩;clear HW;clear e0 e1;obtain ⟨HB, HG, e0, e1⟩ := kG_ HB HG hb1;clear hb1;go_wp2_with fail
 refine (isClique_v HG.gv hs).mono ?_;rintro e w2 ⟨rfl, hb2⟩;clear e0 e1;obtain ⟨HB, HG, e0, e1⟩ := kG_ HB HG hb2;clear hb2;go_wp2;go_ret;exact ⟨rfl, HB.below⟩
theorem IsIndependent_v {w : World} (h : GV w A m c r) {s : Nat} (hs : s < 2 ^ m) :
 Calls Tryz.prog 199 #[.agg #[.int .i64 m, .slice A m c], .int .i64 s] w fun e w' => e = .returned (.bool (indB r s)) ∧ Below w.heap.size w w' := by
 have hp := two_pow_le h.vg.n7;have hnb : nb r s < 2 ^ m := nb_lt (r := r) h.vg.lt hs 7;have E := i64_and_nat (nb r s) s (by omega) (by omega);have hd : Hid ((((nb r s &&& s : Nat) : Int) == 0) = indB r s) := by
  show _ = _;unfold indB;rw [Bool.eq_iff_iff];simp
 obtain ⟨W, hW, HB, HG⟩ := gbW h;have HW := hh_ hW;clear hW h;obtain ⟨e0, e1⟩ := gx_ HG;go_enter Tryz.func199, Tryz.ntmps199;go_wp2_with fail
 rw [← HW.out];refine (IsSet_v HG.gv hs).mono ?_;rintro e w1 ⟨rfl, hb1⟩;clear HW;clear e0 e1;obtain ⟨HB, HG, e0, e1⟩ := kG_ HB HG hb1;clear hb1;go_wp2_with fail
 refine (neighbors_v HG.gv hs).mono ?_;rintro e w2 ⟨rfl, hb2⟩;clear e0 e1;obtain ⟨HB, HG, e0, e1⟩ := kG_ HB HG hb2;clear hb2;go_wp2;go_ret;exact ⟨ret_bool (by rw [← hd.out]), HB.below⟩
end
set_option maxHeartbeats 1000000
section
variable {A : Option Addr} {m c : Nat} {r : Nat → Nat}
theorem IsIndependent_sv {w : World} (h : GV w A m c r) {s : Nat} (hs : s < 2 ^ m) :
 Calls Tryz.prog 157 #[.agg #[.int .i64 m, .slice A m c], .int .i64 s] w fun e w' => e = .returned (.bool (indB r s)) ∧ Below w.heap.size w w' := by
 have hn7 := h.vg.n7;have hp := two_pow_le hn7;obtain ⟨b, o, rfl⟩ := h.addr;have HV := hh_ h.vg;obtain ⟨W, hW⟩ : ∃ W, W = (w.alloc (Obj.cells #[.int .i64 m, .slice (some ⟨b, o, none⟩) m c] 26)) := ⟨_, rfl⟩;have HB : Hid (From w W) := by rw [hW]; exact From.alloc _ _
 have HG : Hid (GBox W w.heap.size (some ⟨b, o, none⟩) m c r) := by rw [hW]; exact h.box
 have HW := hh_ hW;clear hW h;obtain ⟨e0, e1⟩ := gx_ HG;go_enter Tryz.func157, Tryz.ntmps157;go_wp2_with fail
 rw [← HW.out];refine (IsSet_sv HG.gv hs).mono ?_;rintro e w1 ⟨rfl, hb1⟩;clear HW;clear e0 e1;obtain ⟨HB, HG, e0, e1⟩ := kG_ HB HG hb1;clear hb1;go_wp2;go_loopw [5] (fun i wr => ∃ k : Nat, k ≤ m ∧ i = .int .i64 k ∧ Hid (∀ v, v < k → s.testBit v = true → r v &&& s = 0) ∧ Hid (From w1 wr)) (fun i _ => m - (intOf i).toNat);case atStart => exact ⟨0, Nat.zero_le _, rfl, (fun v hv => absurd hv (by omega)), From.refl _⟩
 case round =>
  obtain ⟨k, hk, rfl, hall, HR⟩ := hrel;clear e0 e1;replace HB := hh_ (HB.keep HR.below);replace HG := hh_ (HG.keep HR.below);obtain ⟨e0, e1⟩ := gx_ HG;by_cases hlt : k < m
  ·have q0 := HG.gv.row hlt;have hr := HV.lt128 hlt;have E1 := and_one_i64 (s : Int) k (by omega) (by omega);rw [Int.toNat_natCast] at E1;have E2 := i64_and_nat (r k) s (by omega) (by omega);have i1 : (k : Int) < m := by omega
   cases ht : s.testBit k
   ·rw [ht] at E1;have Ht := hh_ ht;clear ht E2;go_wp2;go_roundw;case rel =>
     refine ⟨k + 1, by omega, by go_num, fun v hv hb => ?_, HR⟩;by_cases hvk : v < k
     ·exact hall.out v hvk hb
     ·obtain rfl : v = k := by omega
      rw [Ht.out] at hb; cases hb
    case measure => simp [intOf]; omega
   ·rw [ht] at E1;by_cases hz : r k &&& s = 0
    ·have hne : (bits BinOp.and .i64 (r k : Int) (s : Int) != 0) = false := by rw [E2, hz]; rfl
     have Hz := hh_ hz;clear ht hz E2;go_wp2;go_roundw;case rel =>
      refine ⟨k + 1, by omega, by go_num, fun v hv hb => ?_, HR⟩;by_cases hvk : v < k
      ·exact hall.out v hvk hb
      ·obtain rfl : v = k := by omega
       exact Hz.out
     case measure => simp [intOf]; omega
    ·have hne : (bits BinOp.and .i64 (r k : Int) (s : Int) != 0) = true := by rw [E2, bne_iff_ne]; omega
     have hno : Hid (indB r s = false) := indB_no (by omega) ht hz;clear ht hz E2;go_wp2;go_ret;exact ⟨ret_bool hno.symm, HB.below⟩
  ·have hyes : Hid (indB r s = true) := indB_yes fun v hv hb => hall.out v (by have := bit_lt hs hb; omega) hb
   have i1 : (m : Int) ≤ k := by omega
   go_wp2;go_ret;exact ⟨ret_bool hyes.symm, HB.below⟩
end
end Go.Proofs.YticadlkcjhglnaaGreat
