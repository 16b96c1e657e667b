/-
  Several texts in one.
-/
import Derived.Test.YtdpkbfiggbcclaaGreatQkUmbI
import Derived.Test.YtdpkbfiggbcclaaGreatQkModI
import Derived.Test.YtdpkbfiggbcclaaGreatQkBest
/-
-/
namespace Go.Proofs.YtdpkbfiggbcclaaGreat
open Go.RowKit
def lfN (l : List Int) (k : Nat) : Nat := stN (l.drop k)
section
variable {m k : Nat} {l : List Int}
theorem lf_zero (h : VZ m l) (hl : l.length = m) : lfN l 0 = 2 ^ m - 1 := stN_all h hl
theorem lf_lt (h : VZ m l) : lfN l k < 2 ^ m := stN_lt (h.drop k).2
theorem lf_at (h : VZ m l) (hk : k < l.length) : ∃ d : Nat, l.getD k 0 = (d : Int) ∧ d < m ∧ (lfN l k).testBit d = true ∧ lfN l k = lfN l (k + 1) + 2 ^ d ∧ lfN l k ^^^ (lfN l k &&& 2 ^ d) = lfN l (k + 1) := by
 have hm := h.2 _ (getD_mem hk)
 obtain ⟨d, hd⟩ := Int.eq_ofNat_of_zero_le hm.1
 have hs := stN_drop h hk
 rw [hd, Int.toNat_natCast] at hs
 have hb : (lfN l k).testBit d = true := by
  unfold lfN
  rw [stN_bit (fun v hv => ((h.drop k).2 v hv).1), drop_consz hk, hd]
  exact List.mem_cons_self
 have hn : (lfN l (k + 1)).testBit d = false := by
  cases e : (lfN l (k + 1)).testBit d
  ·rfl
  ·unfold lfN at e
   rw [stN_bit (fun v hv => ((h.drop (k + 1)).2 v hv).1)] at e
   have hd2 := (h.drop k).1
   rw [drop_consz hk, hd] at hd2
   exact absurd e (List.nodup_cons.1 hd2).1
 refine ⟨d, hd, by omega, hb, hs, ?_⟩
 have ho : lfN l k = lfN l (k + 1) ||| 2 ^ d := by rw [← or_of_add hn]; exact hs
 apply Nat.eq_of_testBit_eq
 intro i
 rw [Nat.testBit_xor, Nat.testBit_and, ho, Nat.testBit_or, Nat.testBit_two_pow]
 by_cases e : d = i
 ·subst e; rw [hn]; simp
 ·simp [e]
end
noncomputable def obG (sz : Int) (m : Nat) (x : Nat → Int) (l : List Int) (p : Nat → Nat → Bool) : Bool := orB sz m x l && (List.range l.length).all fun j => p (l.getD j 0).toNat (lfN l j)
theorem obG_no {sz : Int} {m : Nat} {x : Nat → Int} {l : List Int} {p : Nat → Nat → Bool} (h : orB sz m x l = false) : obG sz m x l p = false := by unfold obG; rw [h]; rfl
theorem obG_bad {sz : Int} {m : Nat} {x : Nat → Int} {l : List Int} {p : Nat → Nat → Bool} {k d : Nat} (hk : k < l.length) (hd : l.getD k 0 = (d : Int)) (h : p d (lfN l k) = false) : obG sz m x l p = false := by
 unfold obG
 rw [all_snoc (p := fun j => p (l.getD j 0).toNat (lfN l j)) hk (by show p (l.getD k 0).toNat _ = _; rw [hd]; exact h), Bool.and_false]
theorem obG_yes {sz : Int} {m : Nat} {x : Nat → Int} {l : List Int} {p : Nat → Nat → Bool} (ho : orB sz m x l = true) (h : ∀ j, j < l.length → p (l.getD j 0).toNat (lfN l j) = true) : obG sz m x l p = true := by
 unfold obG; rw [ho, all_yes (p := fun j => p (l.getD j 0).toNat (lfN l j)) h]; rfl
end Go.Proofs.YtdpkbfiggbcclaaGreat

/-
-/
namespace Go.Proofs.YtdpkbfiggbcclaaGreat
open Go.RowKit
def Tp (r : Nat → Nat) (s v w : Nat) : Prop := w ≠ v ∧ s.testBit w = true ∧ ∀ u, s.testBit u = true → u ≠ v → u ≠ w → (r v).testBit u = (r w).testBit u
noncomputable def tpB (r : Nat → Nat) (s v w : Nat) : Bool := @decide (Tp r s v w) (Classical.propDecidable _)
noncomputable def tkB (r : Nat → Nat) (s v : Nat) : Nat → Bool
 | 0 => false
 | n + 1 => tkB r s v n || tpB r s v n
noncomputable def tnB (r : Nat → Nat) (m v s : Nat) : Bool := decide (s = 2 ^ v) || tkB r s v m
section
variable {r : Nat → Nat} {s v w n m : Nat}
theorem tp_yes (h : Tp r s v w) : tpB r s v w = true := @decide_eq_true _ (Classical.propDecidable _) h
theorem tp_no (h : ¬ Tp r s v w) : tpB r s v w = false := @decide_eq_false _ (Classical.propDecidable _) h
theorem tk_iff : ∀ n, tkB r s v n = true ↔ ∃ w, w < n ∧ tpB r s v w = true := by
 intro n
 induction n with
 | zero =>
   constructor
   ·intro h; cases h
   ·rintro ⟨w, h, _⟩; omega
 | succ n ih =>
   rw [tkB, Bool.or_eq_true, ih]
   constructor
   ·rintro (⟨w, h1, h2⟩ | h)
    ·exact ⟨w, by omega, h2⟩
    ·exact ⟨n, Nat.lt_succ_self _, h⟩
   ·rintro ⟨w, h1, h2⟩
    by_cases e : w < n
    ·exact .inl ⟨w, e, h2⟩
    ·obtain rfl : w = n := by omega
     exact .inr h2
theorem tp_bit (h : tpB r s v w = true) : s.testBit w = true := (@of_decide_eq_true _ (Classical.propDecidable _) h).2.1
theorem tk_any (hs : s < 2 ^ m) (hm : m ≤ 7) : ((listN s).map fun w : Nat => (w : Int)).any (fun w => tpB r s v w.toNat) = tkB r s v m := by
 rw [Bool.eq_iff_iff, List.any_eq_true, tk_iff]
 constructor
 ·rintro ⟨w, hw, h⟩
  rw [List.mem_map] at hw
  obtain ⟨u, hu, rfl⟩ := hw
  rw [Int.toNat_natCast] at h
  exact ⟨u, bit_lt hs (tp_bit h), h⟩
 ·rintro ⟨w, hw, h⟩
  exact ⟨(w : Int), List.mem_map.2 ⟨w, mem_listN.2 ⟨by omega, tp_bit h⟩, rfl⟩, by rw [Int.toNat_natCast]; exact h⟩
def prN (v w : Nat) : Nat := 2 ^ v ||| 2 ^ w
theorem pr_bit {u : Nat} : (prN v w).testBit u = (decide (v = u) || decide (w = u)) := by unfold prN; rw [Nat.testBit_or, Nat.testBit_two_pow, Nat.testBit_two_pow]
theorem tw_i (hw : w ≠ v) (hb : s.testBit w = true) : (((r v ^^^ r w) &&& s) ^^^ (((r v ^^^ r w) &&& s) &&& prN v w) = 0) ↔ Tp r s v w := by
 constructor
 ·intro h
  refine ⟨hw, hb, fun u h1 h2 h3 => ?_⟩
  have := congrArg (fun t => t.testBit u) h
  simp only [Nat.testBit_xor, Nat.testBit_and, Nat.zero_testBit, pr_bit, h1, Bool.and_true, decide_eq_false (fun e : v = u => h2 e.symm), decide_eq_false (fun e : w = u => h3 e.symm), Bool.or_self, Bool.and_false, Bool.xor_false] at this
  cases h4 : (r v).testBit u <;> cases h5 : (r w).testBit u <;> simp_all
 ·rintro ⟨_, _, h⟩
  apply Nat.eq_of_testBit_eq
  intro u
  simp only [Nat.testBit_xor, Nat.testBit_and, Nat.zero_testBit, pr_bit]
  by_cases h1 : v = u
  ·simp [h1]
  ·by_cases h2 : w = u
   ·simp [h2]
   ·cases h3 : s.testBit u
    ·simp
    ·have := h u h3 (fun e => h1 e.symm) (fun e => h2 e.symm)
     simp [h1, h2, this]
theorem pr_in (hv : s.testBit v = true) : (s &&& prN v w = prN v w) ↔ s.testBit w = true := by
 constructor
 ·intro h
  have := congrArg (fun t => t.testBit w) h
  simp only [Nat.testBit_and, pr_bit, decide_true, Bool.or_true, Bool.and_true] at this
  exact this
 ·intro h
  apply Nat.eq_of_testBit_eq
  intro u
  rw [Nat.testBit_and, pr_bit]
  by_cases h1 : v = u
  ·subst h1; simp [hv]
  ·by_cases h2 : w = u
   ·subst h2; simp [h]
   ·simp [h1, h2]
theorem pr_sub (hs : s < 128) (h : s &&& prN v w = prN v w) : s - prN v w = s ^^^ prN v w ∧ prN v w ≤ s := by
 have hle : prN v w ≤ s := by rw [← h]; exact Nat.and_le_left
 have := xor_sub hs (prN v w)
 rw [h] at this
 exact ⟨by omega, hle⟩
theorem tw_s (hw : w ≠ v) (hb : s.testBit w = true) (hv : s.testBit v = true) : (r v &&& (s ^^^ prN v w) = r w &&& (s ^^^ prN v w)) ↔ Tp r s v w := by
 constructor
 ·intro h
  refine ⟨hw, hb, fun u h1 h2 h3 => ?_⟩
  have := congrArg (fun t => t.testBit u) h
  simp only [Nat.testBit_xor, Nat.testBit_and, pr_bit, h1, decide_eq_false (fun e : v = u => h2 e.symm), decide_eq_false (fun e : w = u => h3 e.symm), Bool.or_self, Bool.xor_false, Bool.and_true] at this
  exact this
 ·rintro ⟨_, _, h⟩
  apply Nat.eq_of_testBit_eq
  intro u
  simp only [Nat.testBit_xor, Nat.testBit_and, pr_bit]
  by_cases h1 : v = u
  ·subst h1; simp [hv]
  ·by_cases h2 : w = u
   ·subst h2; simp [hb]
   ·cases h3 : s.testBit u
    ·simp [h1, h2]
    ·have := h u h3 (fun e => h1 e.symm) (fun e => h2 e.symm)
     simp [h1, h2, this]
end
end Go.Proofs.YtdpkbfiggbcclaaGreat

/-
-/
namespace Go.Proofs.YtdpkbfiggbcclaaGreat
open Go.RowKit
set_option maxRecDepth 100000 in
set_option maxHeartbeats 3200000 in
theorem isOrderBy_g {fn : FuncId} {caps : Array Value} {p : Nat → Nat → Bool} (hef : Ent fn) (sz : Int) (A : Option Addr) (m c : Nat) (x : Nat → Int) (Al : Option Addr) (n cl : Nat) (l : List Int) (w : World) (h : GA w A m c x) (hl : LI w Al n cl l) (hm : m ≤ 1048576) (hn : n ≤ 1048576)
 (HF : okB sz m x = true → ∀ (d s : Nat) (z : World), d < m → s < 2 ^ m → s.testBit d = true → Below w.heap.size w z → Calls Tryz.prog fn (#[.int .i64 d, .int .i64 s] ++ caps) z (fun e z' => e = .returned (.bool (p d s)) ∧ Below z.heap.size z z')) :
 Calls Tryz.prog 252 #[.agg #[.int .i64 sz, .slice A m c], .slice Al n cl, .func (.func fn) #[] caps] w fun e w' => e = .returned (.bool (obG sz m x l p)) ∧ Below w.heap.size w w' := by
 unfold Ent at hef
 have HF := Lib.hid HF
 obtain ⟨W, hW⟩ : ∃ W : World, W = (w.alloc (Obj.cells #[Value.int IntKind.i64 sz, Value.slice A m c] 28)) := ⟨_, rfl⟩
 have HB : Hid (From w W) := by rw [hW]; exact From.alloc _ _
 have HK := Lib.hid (h.keep HB.out.below)
 have HL := Lib.hid (hl.keep HB.out.below)
 have HC : Hid (GC W w.heap.size sz A m c) := by rw [hW]; exact GC.new _ _ _ _ _
 have HW := Lib.hid hW
 have HN := Lib.hid hl.len
 clear hW h hl
 go_enter Tryz.func252, Tryz.ntmps252
 have e0 := HC.out.c0
 have e1 := HC.out.c1
 go_wp2_with fail
 rw [← HW.out]
 refine (IsOrder_z sz A m c x Al n cl l W HK.out HL.out hm hn).mono ?_
 rintro e w1 ⟨rfl, hb1⟩
 clear HW
 clear e0 e1
 replace HB := Lib.hid (HB.out.keep hb1)
 replace HK := Lib.hid (HK.out.keep hb1)
 replace HL := Lib.hid (HL.out.keep hb1)
 replace HC := Lib.hid (HC.out.keep hb1)
 clear hb1
 have e0 := HC.out.c0
 have e1 := HC.out.c1
 cases ho : orB sz m x l
 ·have Hn : Hid (obG sz m x l p = false) := obG_no ho
  clear ho
  go_wp2
  go_ret
  exact ⟨ret_bool Hn.out.symm, HB.out.below⟩
 obtain ⟨hok, hV, hlen⟩ := orB_parts ho
 obtain ⟨_, es, vg0, _⟩ := okB_ok' hok
 subst es
 have hn7 := vg0.n7
 have h128 := two_pow_le hn7
 have HV := Lib.hid hV
 have Ho := Lib.hid ho
 have HLn := Lib.hid hlen
 have HF2 := Lib.hid (HF.out hok)
 obtain ⟨F, hF⟩ : ∃ F, F = 2 ^ m - 1 := ⟨_, rfl⟩
 have KA : Hid (∀ z : World, Calls Tryz.prog 185 #[.agg #[.int .i64 m, .slice A m c]] z fun e w' => e = .returned (.int .i64 (F : Nat)) ∧ Below z.heap.size z w') := by rw [hF]; exact fun z => all_any m A c z hn7
 have HF0 : Hid (F = lfN l 0) := hF.trans (lf_zero hV hlen).symm
 clear ho hok hV hlen vg0 hF HF
 go_wp2_with fail
 refine (KA.out _).mono ?_
 rintro e w2 ⟨rfl, hb2⟩
 clear e0 e1
 replace HB := Lib.hid (HB.out.keep hb2)
 replace HK := Lib.hid (HK.out.keep hb2)
 replace HL := Lib.hid (HL.out.keep hb2)
 replace HC := Lib.hid (HC.out.keep hb2)
 clear hb2
 have e0 := HC.out.c0
 have e1 := HC.out.c1
 have HR0 : Hid (From w2 w2) := From.refl w2
 clear e0 e1 KA
 go_wp2
 go_loopw [7, 18] (fun sv iv wr => ∃ k : Nat, k ≤ n ∧ sv = .int .i64 (lfN l k : Nat) ∧ iv = .int .i64 k ∧ Hid (∀ j, j < k → p (l.getD j 0).toNat (lfN l j) = true) ∧ Hid (From w2 wr)) (fun _ iv _ => n - (intOf iv).toNat)
 case atStart => exact ⟨0, Nat.zero_le _, by rw [HF0.out], rfl, (fun j hj => absurd hj (by omega)), HR0⟩
 case round =>
  clear HR0
  obtain ⟨k, hk, rfl, rfl, H1, HR⟩ := hrel
  have HBr := Lib.hid (HB.out.up HR.out)
  by_cases hkn : k < n
  ·have i1 : (k : Int) < (n : Int) := by omega
   have HLr := Lib.hid (HL.out.keep HR.out.below)
   obtain ⟨bl, ol, rfl⟩ := HLr.out.addr (by omega)
   have p0 := HLr.out.at hkn
   have hkl : k < l.length := by rw [← HN.out]; exact hkn
   obtain ⟨d, hd, hdm, hbit, hsub, hxor⟩ := lf_at HV.out hkl
   rw [hd] at p0
   have hs := lf_lt (k := k) HV.out
   have KF := Lib.hid (HF2.out d (lfN l k) wr hdm hs hbit HBr.out.below)
   have Hd := Lib.hid hd
   obtain ⟨s, hs'⟩ : ∃ s, s = lfN l k := ⟨_, rfl⟩
   rw [← hs'] at KF hs hxor ⊢
   have Hs := Lib.hid hs'
   have h2d := two_pow_le (n := d) (by omega)
   obtain ⟨z, hz⟩ : ∃ z, z = 2 ^ d := ⟨_, rfl⟩
   have p1 : IntKind.i64.wrap ((2 : Int) ^ d) = (z : Int) := by rw [pow_shl d (by omega), hz]; simp
   have E := i64_andNot_nat s z (by omega) (by omega)
   rw [hz, hxor, ← hz] at E
   obtain ⟨s2, hs2⟩ : ∃ s2, s2 = lfN l (k + 1) := ⟨_, rfl⟩
   rw [← hs2] at E
   have Hs2 := Lib.hid hs2
   clear hd hs' hz hxor hsub hs2 h2d hbit
   cases hp : p d s
   ·rw [hp] at KF
    have Hn : Hid (obG (m : Int) m x l p = false) := obG_bad hkl Hd.out (by rw [← Hs.out]; exact hp)
    clear hp
    go_wp2_with fail
    refine KF.out.mono ?_
    rintro e w5 ⟨rfl, hb5⟩
    replace HR := Lib.hid (HR.out.keep hb5)
    replace HBr := Lib.hid (HBr.out.keep hb5)
    clear hb5
    go_wp2
    go_ret
    exact ⟨ret_bool Hn.out.symm, HBr.out.below⟩
   ·rw [hp] at KF
    have Hp : Hid (p (l.getD k 0).toNat (lfN l k) = true) := by show _ = _; rw [Hd.out, Int.toNat_natCast, ← Hs.out]; exact hp
    clear hp
    go_wp2_with fail
    refine KF.out.mono ?_
    rintro e w5 ⟨rfl, hb5⟩
    replace HR := Lib.hid (HR.out.keep hb5)
    replace HBr := Lib.hid (HBr.out.keep hb5)
    clear hb5
    go_wp2
    go_roundw
    case rel =>
     refine ⟨k + 1, by omega, by rw [Hs2.out], by go_num, fun j hj => ?_, HR⟩
     by_cases e : j < k
     ·exact H1.out j e
     ·obtain rfl : j = k := by omega
      exact Hp.out
    case measure => (simp [intOf] <;> omega)
  ·obtain rfl : n = k := by omega
   have Hn : Hid (obG (m : Int) m x l p = true) := obG_yes Ho.out fun j hj => H1.out j (by rw [HN.out]; exact hj)
   go_wp2
   go_ret
   exact ⟨ret_bool Hn.out.symm, HBr.out.below⟩
end Go.Proofs.YtdpkbfiggbcclaaGreat

/-
-/
namespace Go.Proofs.YtdpkbfiggbcclaaGreat
open Go.RowKit
def nN (r : Nat → Nat) (s u : Nat) : Nat := (r u ||| 2 ^ u) &&& s
def Cm (a b : Nat) : Prop := a &&& b = a ∨ a &&& b = b
def Sm (r : Nat → Nat) (s : Nat) (T : List Nat) : Prop := ∀ i, i < T.length → ∀ k, k < i → Cm (nN r s (T.getD i 0)) (nN r s (T.getD k 0))
def Sm1 (r : Nat → Nat) (s : Nat) (T : List Nat) (n : Nat) : Prop := ∀ i, i < n → ∀ k, k < i → Cm (nN r s (T.getD i 0)) (nN r s (T.getD k 0))
noncomputable def simB (r : Nat → Nat) (v s : Nat) : Bool := s.testBit v && @decide (Sm r s (listN (nN r s v))) (Classical.propDecidable _)
section
variable {r : Nat → Nat} {s v n i k a b : Nat} {T : List Nat}
theorem sim_out (h : s.testBit v = false) : simB r v s = false := by unfold simB; rw [h]; rfl
theorem sim_yes (h : s.testBit v = true) (h2 : Sm r s (listN (nN r s v))) : simB r v s = true := by unfold simB; rw [h, @decide_eq_true _ (Classical.propDecidable _) h2]; rfl
theorem sim_no (hT : T = listN (nN r s v)) (hi : i < T.length) (hk : k < i) (h : ¬ Cm (nN r s (T.getD i 0)) (nN r s (T.getD k 0))) : simB r v s = false := by
 unfold simB
 rw [@decide_eq_false _ (Classical.propDecidable _) fun hb => h (by subst hT; exact hb i hi k hk), Bool.and_false]
theorem Sm1.zero : Sm1 r s T 0 := fun i h => absurd h (by omega)
theorem Sm1.step (h : Sm1 r s T n) (h2 : ∀ k, k < n → Cm (nN r s (T.getD n 0)) (nN r s (T.getD k 0))) : Sm1 r s T (n + 1) := fun i hi => by
 by_cases e : i < n
 ·exact h i e
 ·obtain rfl : i = n := by omega
  exact h2
theorem nN_lt (hs : s < 2 ^ n) : nN r s v < 2 ^ n := Nat.and_lt_two_pow _ hs
theorem xor_and (a b : Nat) : (a ^^^ (a &&& b) = 0) ↔ a &&& b = a := by
 constructor
 ·intro h
  apply Nat.eq_of_testBit_eq
  intro i
  have := congrArg (fun t => t.testBit i) h
  simp only [Nat.testBit_xor, Nat.testBit_and, Nat.zero_testBit] at this ⊢
  cases ha : a.testBit i <;> cases hb : b.testBit i <;> simp_all
 ·intro h; rw [h, Nat.xor_self]
theorem cm_of (h : (a ^^^ (a &&& b) = 0) ∨ (b ^^^ (b &&& a) = 0)) : Cm a b := by
 rw [xor_and, xor_and] at h
 rcases h with h | h
 ·exact .inl h
 ·exact .inr (by rw [Nat.and_comm]; exact h)
theorem cm_not (h1 : a ^^^ (a &&& b) ≠ 0) (h2 : b ^^^ (b &&& a) ≠ 0) : ¬ Cm a b := by
 rw [Ne, xor_and] at h1 h2
 rintro (h | h)
 ·exact h1 h
 ·exact h2 (by rw [Nat.and_comm]; exact h)
end
def nK (r : Nat → Nat) (s : Nat) (T : List Nat) (k : Nat) : List Nat := (List.range k).map fun j => nN r s (T.getD j 0)
theorem nK_len {r : Nat → Nat} {s : Nat} {T : List Nat} {k : Nat} : (nK r s T k).length = k := by unfold nK; simp
theorem nK_succ {r : Nat → Nat} {s : Nat} {T : List Nat} {k : Nat} : nK r s T (k + 1) = nK r s T k ++ [nN r s (T.getD k 0)] := by unfold nK; rw [List.range_succ, List.map_append]; rfl
theorem nK_at {r : Nat → Nat} {s : Nat} {T : List Nat} {k j : Nat} (h : j < k) : (nK r s T k).getD j 0 = nN r s (T.getD j 0) := by unfold nK; simp [List.getD, h]
end Go.Proofs.YtdpkbfiggbcclaaGreat
