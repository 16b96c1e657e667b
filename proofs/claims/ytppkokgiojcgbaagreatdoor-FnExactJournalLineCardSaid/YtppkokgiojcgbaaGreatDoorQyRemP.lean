/-
  Several texts in one.
-/
import Derived.Test.YtppkokgiojcgbaaGreatDoorQyUmoS
import Derived.Test.YtppkokgiojcgbaaGreatDoorQySmoS
import Derived.Test.YtppkokgiojcgbaaGreatDoorQyJoinS
import Derived.Test.YtppkokgiojcgbaaGreatDoorQyPthS
import Derived.Test.YtppkokgiojcgbaaGreatDoorQyThoS
import Derived.Test.YtppkokgiojcgbaaGreatDoorQyPrfS
import Derived.Test.YtppkokgiojcgbaaGreatDoorQyCluS
import Derived.Test.YtppkokgiojcgbaaGreatDoorQySidS
import Derived.Test.YtppkokgiojcgbaaGreatDoorQyGC
import Derived.Test.YtppkokgiojcgbaaGreatDoorQyGA
/-
  Contracts: is a graph in a class? The reference's answer.
-/
namespace Go.Proofs.YtppkokgiojcgbaaGreatDoor
open Go.RowKit

section
variable (sz : Int) (A : Option Addr) (m c : Nat) (x : Nat → Int) (str : ByteArray) (w : World)
theorem IsChordal_sg (h : GA w A m c x) (hm : m ≤ 1048576) :
    Calls Tryz.prog 73 #[.agg #[.int .i64 sz, .slice A m c]] w fun e w' => e = .returned (.bool (chB sz m x)) ∧ Below w.heap.size w w' := IsChordal_sx sz A m c x w w.heap.size h.rd (Nat.le_refl _) hm
theorem IsStronglyChordal_sg (h : GA w A m c x) (hm : m ≤ 1048576) :
    Calls Tryz.prog 80 #[.agg #[.int .i64 sz, .slice A m c]] w fun e w' => e = .returned (.bool (sgB sz m x)) ∧ Below w.heap.size w w' := IsStronglyChordal_s sz A m c x w w.heap.size h.rd (Nat.le_refl _) hm
set_option maxRecDepth 100000 in
set_option maxHeartbeats 6400000 in
theorem IsIn_s (h : GA w A m c x) (hm : m ≤ 1048576) :
    Calls Tryz.prog 28 #[.agg #[.int .i64 sz, .slice A m c], .string str] w fun e w' => e = .returned (.bool (isB sz m x str.toList)) ∧ Below w.heap.size w w' := by
  obtain ⟨W, hW⟩ : ∃ W : World, W = (w.alloc (Obj.cells #[Value.int IntKind.i64 sz, Value.slice A m c] 29)) := ⟨_, rfl⟩
  have HB : Hid (From w W) := by rw [hW]; exact From.alloc _ _
  have HK := Lib.hid (h.keep HB.out.below)
  have HC : Hid (GC W w.heap.size sz A m c) := by rw [hW]; exact GC.new _ _ _ _ _
  have HW := Lib.hid hW
  have HR : Hid (isB sz m x str.toList = isB sz m x str.toList) := rfl
  clear hW h
  by_cases e0 : str.toList = [99, 104, 111, 114, 100, 97, 108]
  · have r : Hid (isB sz m x str.toList = chB sz m x) := by show _ = _; unfold isB; rw [if_pos e0]
    have f0 : (str.toList == [99, 104, 111, 114, 100, 97, 108]) = true := by simpa using e0
    clear HR e0
    go_enter Tryz.func28, Tryz.ntmps28
    have e0 := HC.out.c0
    have e1 := HC.out.c1
    go_wp2_with fail
    rw [← HW.out]
    refine (IsChordal_sg sz A m c x W HK.out hm).mono ?_
    rintro e w1 ⟨rfl, hb1⟩
    clear HW
    clear e0 e1
    replace HB := Lib.hid (HB.out.keep hb1)
    replace HK := Lib.hid (HK.out.keep hb1)
    replace HC := Lib.hid (HC.out.keep hb1)
    clear hb1
    have e0 := HC.out.c0
    have e1 := HC.out.c1
    go_wp2
    go_ret
    exact ⟨ret_bool r.out.symm, HB.out.below⟩
  by_cases e1 : str.toList = [105, 110, 116, 101, 114, 118, 97, 108]
  · have r : Hid (isB sz m x str.toList = ivG sz m x) := by show _ = _; unfold isB; rw [if_neg e0, if_pos e1]
    have f0 : (str.toList == [99, 104, 111, 114, 100, 97, 108]) = false := by simpa using e0
    have f1 : (str.toList == [105, 110, 116, 101, 114, 118, 97, 108]) = true := by simpa using e1
    clear HR e0 e1
    go_enter Tryz.func28, Tryz.ntmps28
    have e0 := HC.out.c0
    have e1 := HC.out.c1
    go_wp2_with fail
    rw [← HW.out]
    refine (IsInterval_s sz A m c x W HK.out hm).mono ?_
    rintro e w2 ⟨rfl, hb2⟩
    clear HW
    clear e0 e1
    replace HB := Lib.hid (HB.out.keep hb2)
    replace HK := Lib.hid (HK.out.keep hb2)
    replace HC := Lib.hid (HC.out.keep hb2)
    clear hb2
    have e0 := HC.out.c0
    have e1 := HC.out.c1
    go_wp2
    go_ret
    exact ⟨ret_bool r.out.symm, HB.out.below⟩
  by_cases e2 : str.toList = [112, 114, 111, 112, 101, 114]
  · have r : Hid (isB sz m x str.toList = ppB sz m x) := by show _ = _; unfold isB; rw [if_neg e0, if_neg e1, if_pos e2]
    have f0 : (str.toList == [99, 104, 111, 114, 100, 97, 108]) = false := by simpa using e0
    have f1 : (str.toList == [105, 110, 116, 101, 114, 118, 97, 108]) = false := by simpa using e1
    have f2 : (str.toList == [112, 114, 111, 112, 101, 114]) = true := by simpa using e2
    clear HR e0 e1 e2
    go_enter Tryz.func28, Tryz.ntmps28
    have e0 := HC.out.c0
    have e1 := HC.out.c1
    go_wp2_with fail
    rw [← HW.out]
    refine (IsProper_s sz A m c x W HK.out hm).mono ?_
    rintro e w3 ⟨rfl, hb3⟩
    clear HW
    clear e0 e1
    replace HB := Lib.hid (HB.out.keep hb3)
    replace HK := Lib.hid (HK.out.keep hb3)
    replace HC := Lib.hid (HC.out.keep hb3)
    clear hb3
    have e0 := HC.out.c0
    have e1 := HC.out.c1
    go_wp2
    go_ret
    exact ⟨ret_bool r.out.symm, HB.out.below⟩
  by_cases e3 : str.toList = [99, 111, 103, 114, 97, 112, 104]
  · have r : Hid (isB sz m x str.toList = cgB sz m x) := by show _ = _; unfold isB; rw [if_neg e0, if_neg e1, if_neg e2, if_pos e3]
    have f0 : (str.toList == [99, 104, 111, 114, 100, 97, 108]) = false := by simpa using e0
    have f1 : (str.toList == [105, 110, 116, 101, 114, 118, 97, 108]) = false := by simpa using e1
    have f2 : (str.toList == [112, 114, 111, 112, 101, 114]) = false := by simpa using e2
    have f3 : (str.toList == [99, 111, 103, 114, 97, 112, 104]) = true := by simpa using e3
    clear HR e0 e1 e2 e3
    go_enter Tryz.func28, Tryz.ntmps28
    have e0 := HC.out.c0
    have e1 := HC.out.c1
    go_wp2_with fail
    rw [← HW.out]
    refine (IsCograph_s sz A m c x W HK.out hm).mono ?_
    rintro e w4 ⟨rfl, hb4⟩
    clear HW
    clear e0 e1
    replace HB := Lib.hid (HB.out.keep hb4)
    replace HK := Lib.hid (HK.out.keep hb4)
    replace HC := Lib.hid (HC.out.keep hb4)
    clear hb4
    have e0 := HC.out.c0
    have e1 := HC.out.c1
    go_wp2
    go_ret
    exact ⟨ret_bool r.out.symm, HB.out.below⟩
  by_cases e4 : str.toList = [115, 112, 108, 105, 116]
  · have r : Hid (isB sz m x str.toList = slB sz m x) := by show _ = _; unfold isB; rw [if_neg e0, if_neg e1, if_neg e2, if_neg e3, if_pos e4]
    have f0 : (str.toList == [99, 104, 111, 114, 100, 97, 108]) = false := by simpa using e0
    have f1 : (str.toList == [105, 110, 116, 101, 114, 118, 97, 108]) = false := by simpa using e1
    have f2 : (str.toList == [112, 114, 111, 112, 101, 114]) = false := by simpa using e2
    have f3 : (str.toList == [99, 111, 103, 114, 97, 112, 104]) = false := by simpa using e3
    have f4 : (str.toList == [115, 112, 108, 105, 116]) = true := by simpa using e4
    clear HR e0 e1 e2 e3 e4
    go_enter Tryz.func28, Tryz.ntmps28
    have e0 := HC.out.c0
    have e1 := HC.out.c1
    go_wp2_with fail
    rw [← HW.out]
    refine (IsSplit_s sz A m c x W HK.out hm).mono ?_
    rintro e w5 ⟨rfl, hb5⟩
    clear HW
    clear e0 e1
    replace HB := Lib.hid (HB.out.keep hb5)
    replace HK := Lib.hid (HK.out.keep hb5)
    replace HC := Lib.hid (HC.out.keep hb5)
    clear hb5
    have e0 := HC.out.c0
    have e1 := HC.out.c1
    go_wp2
    go_ret
    exact ⟨ret_bool r.out.symm, HB.out.below⟩
  by_cases e5 : str.toList = [116, 104, 114, 101, 115, 104, 111, 108, 100]
  · have r : Hid (isB sz m x str.toList = toB sz m x) := by show _ = _; unfold isB; rw [if_neg e0, if_neg e1, if_neg e2, if_neg e3, if_neg e4, if_pos e5]
    have f0 : (str.toList == [99, 104, 111, 114, 100, 97, 108]) = false := by simpa using e0
    have f1 : (str.toList == [105, 110, 116, 101, 114, 118, 97, 108]) = false := by simpa using e1
    have f2 : (str.toList == [112, 114, 111, 112, 101, 114]) = false := by simpa using e2
    have f3 : (str.toList == [99, 111, 103, 114, 97, 112, 104]) = false := by simpa using e3
    have f4 : (str.toList == [115, 112, 108, 105, 116]) = false := by simpa using e4
    have f5 : (str.toList == [116, 104, 114, 101, 115, 104, 111, 108, 100]) = true := by simpa using e5
    clear HR e0 e1 e2 e3 e4 e5
    go_enter Tryz.func28, Tryz.ntmps28
    have e0 := HC.out.c0
    have e1 := HC.out.c1
    go_wp2_with fail
    rw [← HW.out]
    refine (IsThreshold_s sz A m c x W HK.out hm).mono ?_
    rintro e w6 ⟨rfl, hb6⟩
    clear HW
    clear e0 e1
    replace HB := Lib.hid (HB.out.keep hb6)
    replace HK := Lib.hid (HK.out.keep hb6)
    replace HC := Lib.hid (HC.out.keep hb6)
    clear hb6
    have e0 := HC.out.c0
    have e1 := HC.out.c1
    go_wp2
    go_ret
    exact ⟨ret_bool r.out.symm, HB.out.below⟩
  by_cases e6 : str.toList = [98, 105, 112, 97, 114, 116, 105, 116, 101]
  · have r : Hid (isB sz m x str.toList = biB sz m x) := by show _ = _; unfold isB; rw [if_neg e0, if_neg e1, if_neg e2, if_neg e3, if_neg e4, if_neg e5, if_pos e6]
    have f0 : (str.toList == [99, 104, 111, 114, 100, 97, 108]) = false := by simpa using e0
    have f1 : (str.toList == [105, 110, 116, 101, 114, 118, 97, 108]) = false := by simpa using e1
    have f2 : (str.toList == [112, 114, 111, 112, 101, 114]) = false := by simpa using e2
    have f3 : (str.toList == [99, 111, 103, 114, 97, 112, 104]) = false := by simpa using e3
    have f4 : (str.toList == [115, 112, 108, 105, 116]) = false := by simpa using e4
    have f5 : (str.toList == [116, 104, 114, 101, 115, 104, 111, 108, 100]) = false := by simpa using e5
    have f6 : (str.toList == [98, 105, 112, 97, 114, 116, 105, 116, 101]) = true := by simpa using e6
    clear HR e0 e1 e2 e3 e4 e5 e6
    go_enter Tryz.func28, Tryz.ntmps28
    have e0 := HC.out.c0
    have e1 := HC.out.c1
    go_wp2_with fail
    rw [← HW.out]
    refine (IsBipartite_s sz A m c x W HK.out hm).mono ?_
    rintro e w7 ⟨rfl, hb7⟩
    clear HW
    clear e0 e1
    replace HB := Lib.hid (HB.out.keep hb7)
    replace HK := Lib.hid (HK.out.keep hb7)
    replace HC := Lib.hid (HC.out.keep hb7)
    clear hb7
    have e0 := HC.out.c0
    have e1 := HC.out.c1
    go_wp2
    go_ret
    exact ⟨ret_bool r.out.symm, HB.out.below⟩
  by_cases e7 : str.toList = [115, 116, 114, 111, 110, 103]
  · have r : Hid (isB sz m x str.toList = sgB sz m x) := by show _ = _; unfold isB; rw [if_neg e0, if_neg e1, if_neg e2, if_neg e3, if_neg e4, if_neg e5, if_neg e6, if_pos e7]
    have f0 : (str.toList == [99, 104, 111, 114, 100, 97, 108]) = false := by simpa using e0
    have f1 : (str.toList == [105, 110, 116, 101, 114, 118, 97, 108]) = false := by simpa using e1
    have f2 : (str.toList == [112, 114, 111, 112, 101, 114]) = false := by simpa using e2
    have f3 : (str.toList == [99, 111, 103, 114, 97, 112, 104]) = false := by simpa using e3
    have f4 : (str.toList == [115, 112, 108, 105, 116]) = false := by simpa using e4
    have f5 : (str.toList == [116, 104, 114, 101, 115, 104, 111, 108, 100]) = false := by simpa using e5
    have f6 : (str.toList == [98, 105, 112, 97, 114, 116, 105, 116, 101]) = false := by simpa using e6
    have f7 : (str.toList == [115, 116, 114, 111, 110, 103]) = true := by simpa using e7
    clear HR e0 e1 e2 e3 e4 e5 e6 e7
    go_enter Tryz.func28, Tryz.ntmps28
    have e0 := HC.out.c0
    have e1 := HC.out.c1
    go_wp2_with fail
    rw [← HW.out]
    refine (IsStronglyChordal_sg sz A m c x W HK.out hm).mono ?_
    rintro e w8 ⟨rfl, hb8⟩
    clear HW
    clear e0 e1
    replace HB := Lib.hid (HB.out.keep hb8)
    replace HK := Lib.hid (HK.out.keep hb8)
    replace HC := Lib.hid (HC.out.keep hb8)
    clear hb8
    have e0 := HC.out.c0
    have e1 := HC.out.c1
    go_wp2
    go_ret
    exact ⟨ret_bool r.out.symm, HB.out.below⟩
  by_cases e8 : str.toList = [112, 101, 114, 102, 101, 99, 116]
  · have r : Hid (isB sz m x str.toList = peB sz m x) := by show _ = _; unfold isB; rw [if_neg e0, if_neg e1, if_neg e2, if_neg e3, if_neg e4, if_neg e5, if_neg e6, if_neg e7, if_pos e8]
    have f0 : (str.toList == [99, 104, 111, 114, 100, 97, 108]) = false := by simpa using e0
    have f1 : (str.toList == [105, 110, 116, 101, 114, 118, 97, 108]) = false := by simpa using e1
    have f2 : (str.toList == [112, 114, 111, 112, 101, 114]) = false := by simpa using e2
    have f3 : (str.toList == [99, 111, 103, 114, 97, 112, 104]) = false := by simpa using e3
    have f4 : (str.toList == [115, 112, 108, 105, 116]) = false := by simpa using e4
    have f5 : (str.toList == [116, 104, 114, 101, 115, 104, 111, 108, 100]) = false := by simpa using e5
    have f6 : (str.toList == [98, 105, 112, 97, 114, 116, 105, 116, 101]) = false := by simpa using e6
    have f7 : (str.toList == [115, 116, 114, 111, 110, 103]) = false := by simpa using e7
    have f8 : (str.toList == [112, 101, 114, 102, 101, 99, 116]) = true := by simpa using e8
    clear HR e0 e1 e2 e3 e4 e5 e6 e7 e8
    go_enter Tryz.func28, Tryz.ntmps28
    have e0 := HC.out.c0
    have e1 := HC.out.c1
    go_wp2_with fail
    rw [← HW.out]
    refine (IsPerfect_s sz A m c x W HK.out hm).mono ?_
    rintro e w9 ⟨rfl, hb9⟩
    clear HW
    clear e0 e1
    replace HB := Lib.hid (HB.out.keep hb9)
    replace HK := Lib.hid (HK.out.keep hb9)
    replace HC := Lib.hid (HC.out.keep hb9)
    clear hb9
    have e0 := HC.out.c0
    have e1 := HC.out.c1
    go_wp2
    go_ret
    exact ⟨ret_bool r.out.symm, HB.out.below⟩
  have r : Hid (isB sz m x str.toList = false) := by show _ = _; unfold isB; rw [if_neg e0, if_neg e1, if_neg e2, if_neg e3, if_neg e4, if_neg e5, if_neg e6, if_neg e7, if_neg e8]
  have f0 : (str.toList == [99, 104, 111, 114, 100, 97, 108]) = false := by simpa using e0
  have f1 : (str.toList == [105, 110, 116, 101, 114, 118, 97, 108]) = false := by simpa using e1
  have f2 : (str.toList == [112, 114, 111, 112, 101, 114]) = false := by simpa using e2
  have f3 : (str.toList == [99, 111, 103, 114, 97, 112, 104]) = false := by simpa using e3
  have f4 : (str.toList == [115, 112, 108, 105, 116]) = false := by simpa using e4
  have f5 : (str.toList == [116, 104, 114, 101, 115, 104, 111, 108, 100]) = false := by simpa using e5
  have f6 : (str.toList == [98, 105, 112, 97, 114, 116, 105, 116, 101]) = false := by simpa using e6
  have f7 : (str.toList == [115, 116, 114, 111, 110, 103]) = false := by simpa using e7
  have f8 : (str.toList == [112, 101, 114, 102, 101, 99, 116]) = false := by simpa using e8
  clear e0 e1 e2 e3 e4 e5 e6 e7 e8
  go_enter Tryz.func28, Tryz.ntmps28
  go_wp2
  rw [← HW.out]
  go_ret
  exact ⟨ret_bool r.out.symm, HB.out.below⟩
end
end Go.Proofs.YtppkokgiojcgbaaGreatDoor

/-
  Plain: a graph and one edge less; a graph behind a list of edits.
-/
namespace Go.Proofs.YtppkokgiojcgbaaGreatDoor

theorem sub_pow_bit {a u : Nat} (h : a.testBit u = true) : a - 2 ^ u = a ^^^ 2 ^ u ∧ 2 ^ u ≤ a := by
  have h1 : (a ^^^ 2 ^ u).testBit u = false := by rw [Nat.testBit_xor, h, Nat.testBit_two_pow_self]; rfl
  have h2 := add_pow_bit h1
  have h3 : (a ^^^ 2 ^ u) ^^^ 2 ^ u = a := by rw [Nat.xor_assoc, Nat.xor_self, Nat.xor_zero]
  rw [h3] at h2
  generalize 2 ^ u = p at *
  omega

noncomputable def reB (sz : Int) (m : Nat) (x : Nat → Int) (v u : Int) : Bool := okB sz m x && decide (0 ≤ v ∧ v < sz ∧ 0 ≤ u ∧ u < sz ∧ v ≠ u) && ((x v.toNat).toNat.testBit u.toNat)
noncomputable def reX (sz : Int) (m : Nat) (x : Nat → Int) (v u : Int) : Nat → Int := if reB sz m x v u = true then fun j => ((addN (fun i => (x i).toNat) v.toNat u.toNat j : Nat) : Int) else x
theorem reX_no {sz : Int} {m : Nat} {x : Nat → Int} {v u : Int} (h : reB sz m x v u = false) : reX sz m x v u = x := by unfold reX; rw [h]; rfl
theorem reB_parts {sz : Int} {m : Nat} {x : Nat → Int} {v u : Int} (h : reB sz m x v u = true) : okB sz m x = true ∧ (0 ≤ v ∧ v < sz ∧ 0 ≤ u ∧ u < sz ∧ v ≠ u) ∧ (x v.toNat).toNat.testBit u.toNat = true := by
  unfold reB at h
  simp only [Bool.and_eq_true, decide_eq_true_eq] at h
  exact ⟨h.1.1, h.1.2, h.2⟩
theorem reX_ok {sz : Int} {m : Nat} {x : Nat → Int} {v u : Int} (h : okB sz m x = true) : okB sz m (reX sz m x v u) = true := by
  cases hb : reB sz m x v u
  · rw [reX_no hb]; exact h
  · obtain ⟨_, ⟨h1, h2, h3, h4, h5⟩, h6⟩ := reB_parts hb
    obtain ⟨r, rfl, vg, hx⟩ := okB_ok' h
    refine okB_yes ⟨addN (fun i => (x i).toNat) v.toNat u.toNat, rfl, ?_, fun i hi => ?_⟩
    · exact (vg.congr (s := fun i => (x i).toNat) (fun i hi => by show r i = (x i).toNat; rw [hx i hi]; simp)).add (by omega) (by omega) (by omega)
    · unfold reX; rw [hb]; rfl
/-- Between vertices of a valid graph. -/
theorem reB_val {m : Nat} {x : Nat → Int} {n k : Nat} (h : okB m m x = true) (hn : n < m) (hk : k < m) : reB m m x n k = (x n).toNat.testBit k := by
  obtain ⟨r, _, vg, hx⟩ := okB_ok' h
  unfold reB
  rw [h, Int.toNat_natCast, Int.toNat_natCast]
  by_cases hne : n = k
  · subst hne
    rw [hx n hn, Int.toNat_natCast, vg.irr n hn]; simp
  · rw [decide_eq_true (⟨by omega, by omega, by omega, by omega, by omega⟩ : 0 ≤ (n : Int) ∧ (n : Int) < m ∧ 0 ≤ (k : Int) ∧ (k : Int) < m ∧ (n : Int) ≠ k)]
    simp
theorem reB_out {m : Nat} {x : Nat → Int} {v u : Int} (h : ¬(0 ≤ v ∧ v < m ∧ 0 ≤ u ∧ u < m)) : reB m m x v u = false := by
  cases hb : reB m m x v u
  · rfl
  · obtain ⟨_, ⟨h1, h2, h3, h4, h5⟩, h6⟩ := reB_parts hb
    exact absurd ⟨h1, h2, h3, h4⟩ h

noncomputable def apB (a : Bool) (sz : Int) (m : Nat) (x : Nat → Int) (v u : Int) : Bool := if a then aeB sz m x v u else reB sz m x v u
noncomputable def apX (a : Bool) (sz : Int) (m : Nat) (x : Nat → Int) (v u : Int) : Nat → Int := if a then aeX sz m x v u else reX sz m x v u
theorem apX_ok {a : Bool} {sz : Int} {m : Nat} {x : Nat → Int} {v u : Int} (h : okB sz m x = true) : okB sz m (apX a sz m x v u) = true := by
  unfold apX; split
  · exact aeX_ok h
  · exact reX_ok h
/-- The rows behind r edits from the k-th on. -/
noncomputable def apF (sz : Int) (m : Nat) (a : Nat → Bool) (v u : Nat → Int) : Nat → Nat → (Nat → Int) → Option (Nat → Int)
  | _, 0, x => some x
  | k, r + 1, x => if apB (a k) sz m x (v k) (u k) = true then apF sz m a v u (k + 1) r (apX (a k) sz m x (v k) (u k)) else none
noncomputable def apR (sz : Int) (m : Nat) (x : Nat → Int) (n : Nat) (a : Nat → Bool) (v u : Nat → Int) : Option (Nat → Int) := if okB sz m x = true ∧ n ≤ 12 then apF sz m a v u 0 n x else none
noncomputable def apD (sz : Int) (m : Nat) (x : Nat → Int) (n : Nat) (a : Nat → Bool) (v u : Nat → Int) : Bool := (apR sz m x n a v u).isSome
noncomputable def apN (sz : Int) (m : Nat) (x : Nat → Int) (n : Nat) (a : Nat → Bool) (v u : Nat → Int) : Nat := if apD sz m x n a v u = true then m else 0
noncomputable def apZ (sz : Int) (m : Nat) (x : Nat → Int) (n : Nat) (a : Nat → Bool) (v u : Nat → Int) : Int := if apD sz m x n a v u = true then sz else 0
noncomputable def apY (sz : Int) (m : Nat) (x : Nat → Int) (n : Nat) (a : Nat → Bool) (v u : Nat → Int) : Nat → Int := (apR sz m x n a v u).getD x
section
variable {sz : Int} {m : Nat} {x y : Nat → Int} {n k r : Nat} {a : Nat → Bool} {v u : Nat → Int}
theorem ap_none (h : apR sz m x n a v u = none) : apD sz m x n a v u = false ∧ apN sz m x n a v u = 0 ∧ apZ sz m x n a v u = 0 := by
  have hb : apD sz m x n a v u = false := by unfold apD; rw [h]; rfl
  exact ⟨hb, by unfold apN; rw [hb]; rfl, by unfold apZ; rw [hb]; rfl⟩
theorem ap_some (h : apR sz m x n a v u = some y) : apD sz m x n a v u = true ∧ apN sz m x n a v u = m ∧ apZ sz m x n a v u = sz ∧ apY sz m x n a v u = y := by
  have hb : apD sz m x n a v u = true := by unfold apD; rw [h]; rfl
  exact ⟨hb, by unfold apN; rw [hb]; rfl, by unfold apZ; rw [hb]; rfl, by unfold apY; rw [h]; rfl⟩
theorem apR_no (h : okB sz m x = false) : apR sz m x n a v u = none := by unfold apR; rw [h]; rfl
theorem apR_long (h : 12 < n) : apR sz m x n a v u = none := by unfold apR; rw [if_neg]; omega
theorem apR_yes (h : okB sz m x = true) (hn : n ≤ 12) : apR sz m x n a v u = apF sz m a v u 0 n x := by unfold apR; rw [if_pos ⟨h, hn⟩]
theorem apF_no (h : apB (a k) sz m x (v k) (u k) = false) : apF sz m a v u k (r + 1) x = none := by
  unfold apF; rw [h]; rfl
theorem apF_yes (h : apB (a k) sz m x (v k) (u k) = true) : apF sz m a v u k (r + 1) x = apF sz m a v u (k + 1) r (apX (a k) sz m x (v k) (u k)) := by
  rw [apF, if_pos h]
end
end Go.Proofs.YtppkokgiojcgbaaGreatDoor
