/-
-/
import Derived.Test.YticadlkcjhglnaaGreatQnSimP
import Derived.Test.YticadlkcjhglnaaGreatQnSmoI
import Derived.Test.YticadlkcjhglnaaGreatQnPthI
import Derived.Test.YticadlkcjhglnaaGreatQnThoI
import Derived.Test.YticadlkcjhglnaaGreatQnPrfI
import Derived.Test.YticadlkcjhglnaaGreatQnCluI
import Derived.Test.YticadlkcjhglnaaGreatQnSidI
namespace Go.Proofs.YticadlkcjhglnaaGreat
open Go.RowKit
noncomputable def isB (sz : Int) (m : Nat) (x : Nat → Int) (s : List UInt8) : Bool :=
 if s = [99, 104, 111, 114, 100, 97, 108] then chB sz m x else if s = [105, 110, 116, 101, 114, 118, 97, 108] then ivG sz m x else if s = [112, 114, 111, 112, 101, 114] then ppB sz m x else if s = [99, 111, 103, 114, 97, 112, 104] then cgB sz m x else if s = [115, 112, 108, 105, 116] then slB sz m x else if s = [116, 104, 114, 101, 115, 104, 111, 108, 100] then toB sz m x else if s = [98, 105, 112, 97, 114, 116, 105, 116, 101] then biB sz m x else if s = [115, 116, 114, 111, 110, 103] then sgB sz m x else if s = [112, 101, 114, 102, 101, 99, 116] then peB sz m x else false
section
variable (sz : Int) (A : Option Addr) (m c : Nat) (x : Nat → Int) (str : ByteArray) (w : World)
theorem IsChordal_ig (h : GA w A m c x) (hm : m ≤ 1048576) :
 Calls Tryz.prog 82 #[.agg #[.int .i64 sz, .slice A m c]] w fun e w' => e = .returned (.bool (chB sz m x)) ∧ Below w.heap.size w w' := IsChordal_i sz A m c x w w.heap.size h.rd (Nat.le_refl _) hm
theorem IsStronglyChordal_ig (h : GA w A m c x) (hm : m ≤ 1048576) :
 Calls Tryz.prog 143 #[.agg #[.int .i64 sz, .slice A m c]] w fun e w' => e = .returned (.bool (sgB sz m x)) ∧ Below w.heap.size w w' := IsStronglyChordal_i sz A m c x w w.heap.size h.rd (Nat.le_refl _) hm
set_option maxRecDepth 100000 in
set_option maxHeartbeats 6400000 in
theorem IsIn_i (h : GA w A m c x) (hm : m ≤ 1048576) :
 Calls Tryz.prog 91 #[.agg #[.int .i64 sz, .slice A m c], .string str] w fun e w' => e = .returned (.bool (isB sz m x str.toList)) ∧ Below w.heap.size w w' := by
 obtain ⟨W, hW⟩ : ∃ W : World, W = (w.alloc (Obj.cells #[Value.int IntKind.i64 sz, Value.slice A m c] 26)) := ⟨_, rfl⟩
 have HB : Hid (From w W) := by rw [hW]; exact From.alloc _ _
 have HK := Lib.hid (h.keep HB.out.below)
 have HC : Hid (GC W w.heap.size sz A m c) := by rw [hW]; exact GC.new _ _ _ _ _
 have HW := Lib.hid hW
 have HR : Hid (isB sz m x str.toList = isB sz m x str.toList) := rfl
 clear hW h
 by_cases e0 : str.toList = [99, 104, 111, 114, 100, 97, 108]
 ·have r : Hid (isB sz m x str.toList = chB sz m x) := by show _ = _; unfold isB; rw [if_pos e0]
  have f0 : (str.toList == [99, 104, 111, 114, 100, 97, 108]) = true := by simpa using e0
  clear HR e0
  go_enter Tryz.func91, Tryz.ntmps91
  have e0 := HC.out.c0
  have e1 := HC.out.c1
  go_wp2_with fail
  rw [← HW.out]
  refine (IsChordal_ig sz A m c x W HK.out hm).mono ?_
  rintro e w1 ⟨rfl, hb1⟩
  clear HW
  clear e0 e1
  replace HB := Lib.hid (HB.out.keep hb1)
  replace HK := Lib.hid (HK.out.keep hb1)
  replace HC := Lib.hid (HC.out.keep hb1)
  clear hb1
  have e0 := HC.out.c0
  have e1 := HC.out.c1
  go_wp2
  go_ret
  exact ⟨ret_bool r.out.symm, HB.out.below⟩
 by_cases e1 : str.toList = [105, 110, 116, 101, 114, 118, 97, 108]
 ·have r : Hid (isB sz m x str.toList = ivG sz m x) := by show _ = _; unfold isB; rw [if_neg e0, if_pos e1]
  have f0 : (str.toList == [99, 104, 111, 114, 100, 97, 108]) = false := by simpa using e0
  have f1 : (str.toList == [105, 110, 116, 101, 114, 118, 97, 108]) = true := by simpa using e1
  clear HR e0 e1
  go_enter Tryz.func91, Tryz.ntmps91
  have e0 := HC.out.c0
  have e1 := HC.out.c1
  go_wp2_with fail
  rw [← HW.out]
  refine (IsInterval_i sz A m c x W HK.out hm).mono ?_
  rintro e w2 ⟨rfl, hb2⟩
  clear HW
  clear e0 e1
  replace HB := Lib.hid (HB.out.keep hb2)
  replace HK := Lib.hid (HK.out.keep hb2)
  replace HC := Lib.hid (HC.out.keep hb2)
  clear hb2
  have e0 := HC.out.c0
  have e1 := HC.out.c1
  go_wp2
  go_ret
  exact ⟨ret_bool r.out.symm, HB.out.below⟩
 by_cases e2 : str.toList = [112, 114, 111, 112, 101, 114]
 ·have r : Hid (isB sz m x str.toList = ppB sz m x) := by show _ = _; unfold isB; rw [if_neg e0, if_neg e1, if_pos e2]
  have f0 : (str.toList == [99, 104, 111, 114, 100, 97, 108]) = false := by simpa using e0
  have f1 : (str.toList == [105, 110, 116, 101, 114, 118, 97, 108]) = false := by simpa using e1
  have f2 : (str.toList == [112, 114, 111, 112, 101, 114]) = true := by simpa using e2
  clear HR e0 e1 e2
  go_enter Tryz.func91, Tryz.ntmps91
  have e0 := HC.out.c0
  have e1 := HC.out.c1
  go_wp2_with fail
  rw [← HW.out]
  refine (IsProper_i sz A m c x W HK.out hm).mono ?_
  rintro e w3 ⟨rfl, hb3⟩
  clear HW
  clear e0 e1
  replace HB := Lib.hid (HB.out.keep hb3)
  replace HK := Lib.hid (HK.out.keep hb3)
  replace HC := Lib.hid (HC.out.keep hb3)
  clear hb3
  have e0 := HC.out.c0
  have e1 := HC.out.c1
  go_wp2
  go_ret
  exact ⟨ret_bool r.out.symm, HB.out.below⟩
 by_cases e3 : str.toList = [99, 111, 103, 114, 97, 112, 104]
 ·have r : Hid (isB sz m x str.toList = cgB sz m x) := by show _ = _; unfold isB; rw [if_neg e0, if_neg e1, if_neg e2, if_pos e3]
  have f0 : (str.toList == [99, 104, 111, 114, 100, 97, 108]) = false := by simpa using e0
  have f1 : (str.toList == [105, 110, 116, 101, 114, 118, 97, 108]) = false := by simpa using e1
  have f2 : (str.toList == [112, 114, 111, 112, 101, 114]) = false := by simpa using e2
  have f3 : (str.toList == [99, 111, 103, 114, 97, 112, 104]) = true := by simpa using e3
  clear HR e0 e1 e2 e3
  go_enter Tryz.func91, Tryz.ntmps91
  have e0 := HC.out.c0
  have e1 := HC.out.c1
  go_wp2_with fail
  rw [← HW.out]
  refine (IsCograph_i sz A m c x W HK.out hm).mono ?_
  rintro e w4 ⟨rfl, hb4⟩
  clear HW
  clear e0 e1
  replace HB := Lib.hid (HB.out.keep hb4)
  replace HK := Lib.hid (HK.out.keep hb4)
  replace HC := Lib.hid (HC.out.keep hb4)
  clear hb4
  have e0 := HC.out.c0
  have e1 := HC.out.c1
  go_wp2
  go_ret
  exact ⟨ret_bool r.out.symm, HB.out.below⟩
 by_cases e4 : str.toList = [115, 112, 108, 105, 116]
 ·have r : Hid (isB sz m x str.toList = slB sz m x) := by show _ = _; unfold isB; rw [if_neg e0, if_neg e1, if_neg e2, if_neg e3, if_pos e4]
  have f0 : (str.toList == [99, 104, 111, 114, 100, 97, 108]) = false := by simpa using e0
  have f1 : (str.toList == [105, 110, 116, 101, 114, 118, 97, 108]) = false := by simpa using e1
  have f2 : (str.toList == [112, 114, 111, 112, 101, 114]) = false := by simpa using e2
  have f3 : (str.toList == [99, 111, 103, 114, 97, 112, 104]) = false := by simpa using e3
  have f4 : (str.toList == [115, 112, 108, 105, 116]) = true := by simpa using e4
  clear HR e0 e1 e2 e3 e4
  go_enter Tryz.func91, Tryz.ntmps91
  have e0 := HC.out.c0
  have e1 := HC.out.c1
  go_wp2_with fail
  rw [← HW.out]
  refine (IsSplit_i sz A m c x W HK.out hm).mono ?_
  rintro e w5 ⟨rfl, hb5⟩
  clear HW
  clear e0 e1
  replace HB := Lib.hid (HB.out.keep hb5)
  replace HK := Lib.hid (HK.out.keep hb5)
  replace HC := Lib.hid (HC.out.keep hb5)
  clear hb5
  have e0 := HC.out.c0
  have e1 := HC.out.c1
  go_wp2
  go_ret
  exact ⟨ret_bool r.out.symm, HB.out.below⟩
 by_cases e5 : str.toList = [116, 104, 114, 101, 115, 104, 111, 108, 100]
 ·have r : Hid (isB sz m x str.toList = toB sz m x) := by show _ = _; unfold isB; rw [if_neg e0, if_neg e1, if_neg e2, if_neg e3, if_neg e4, if_pos e5]
  have f0 : (str.toList == [99, 104, 111, 114, 100, 97, 108]) = false := by simpa using e0
  have f1 : (str.toList == [105, 110, 116, 101, 114, 118, 97, 108]) = false := by simpa using e1
  have f2 : (str.toList == [112, 114, 111, 112, 101, 114]) = false := by simpa using e2
  have f3 : (str.toList == [99, 111, 103, 114, 97, 112, 104]) = false := by simpa using e3
  have f4 : (str.toList == [115, 112, 108, 105, 116]) = false := by simpa using e4
  have f5 : (str.toList == [116, 104, 114, 101, 115, 104, 111, 108, 100]) = true := by simpa using e5
  clear HR e0 e1 e2 e3 e4 e5
  go_enter Tryz.func91, Tryz.ntmps91
  have e0 := HC.out.c0
  have e1 := HC.out.c1
  go_wp2_with fail
  rw [← HW.out]
  refine (IsThreshold_i sz A m c x W HK.out hm).mono ?_
  rintro e w6 ⟨rfl, hb6⟩
  clear HW
  clear e0 e1
  replace HB := Lib.hid (HB.out.keep hb6)
  replace HK := Lib.hid (HK.out.keep hb6)
  replace HC := Lib.hid (HC.out.keep hb6)
  clear hb6
  have e0 := HC.out.c0
  have e1 := HC.out.c1
  go_wp2
  go_ret
  exact ⟨ret_bool r.out.symm, HB.out.below⟩
 by_cases e6 : str.toList = [98, 105, 112, 97, 114, 116, 105, 116, 101]
 ·have r : Hid (isB sz m x str.toList = biB sz m x) := by show _ = _; unfold isB; rw [if_neg e0, if_neg e1, if_neg e2, if_neg e3, if_neg e4, if_neg e5, if_pos e6]
  have f0 : (str.toList == [99, 104, 111, 114, 100, 97, 108]) = false := by simpa using e0
  have f1 : (str.toList == [105, 110, 116, 101, 114, 118, 97, 108]) = false := by simpa using e1
  have f2 : (str.toList == [112, 114, 111, 112, 101, 114]) = false := by simpa using e2
  have f3 : (str.toList == [99, 111, 103, 114, 97, 112, 104]) = false := by simpa using e3
  have f4 : (str.toList == [115, 112, 108, 105, 116]) = false := by simpa using e4
  have f5 : (str.toList == [116, 104, 114, 101, 115, 104, 111, 108, 100]) = false := by simpa using e5
  have f6 : (str.toList == [98, 105, 112, 97, 114, 116, 105, 116, 101]) = true := by simpa using e6
  clear HR e0 e1 e2 e3 e4 e5 e6
  go_enter Tryz.func91, Tryz.ntmps91
  have e0 := HC.out.c0
  have e1 := HC.out.c1
  go_wp2_with fail
  rw [← HW.out]
  refine (IsBipartite_i sz A m c x W HK.out hm).mono ?_
  rintro e w7 ⟨rfl, hb7⟩
  clear HW
  clear e0 e1
  replace HB := Lib.hid (HB.out.keep hb7)
  replace HK := Lib.hid (HK.out.keep hb7)
  replace HC := Lib.hid (HC.out.keep hb7)
  clear hb7
  have e0 := HC.out.c0
  have e1 := HC.out.c1
  go_wp2
  go_ret
  exact ⟨ret_bool r.out.symm, HB.out.below⟩
 by_cases e7 : str.toList = [115, 116, 114, 111, 110, 103]
 ·have r : Hid (isB sz m x str.toList = sgB sz m x) := by show _ = _; unfold isB; rw [if_neg e0, if_neg e1, if_neg e2, if_neg e3, if_neg e4, if_neg e5, if_neg e6, if_pos e7]
  have f0 : (str.toList == [99, 104, 111, 114, 100, 97, 108]) = false := by simpa using e0
  have f1 : (str.toList == [105, 110, 116, 101, 114, 118, 97, 108]) = false := by simpa using e1
  have f2 : (str.toList == [112, 114, 111, 112, 101, 114]) = false := by simpa using e2
  have f3 : (str.toList == [99, 111, 103, 114, 97, 112, 104]) = false := by simpa using e3
  have f4 : (str.toList == [115, 112, 108, 105, 116]) = false := by simpa using e4
  have f5 : (str.toList == [116, 104, 114, 101, 115, 104, 111, 108, 100]) = false := by simpa using e5
  have f6 : (str.toList == [98, 105, 112, 97, 114, 116, 105, 116, 101]) = false := by simpa using e6
  have f7 : (str.toList == [115, 116, 114, 111, 110, 103]) = true := by simpa using e7
  clear HR e0 e1 e2 e3 e4 e5 e6 e7
  go_enter Tryz.func91, Tryz.ntmps91
  have e0 := HC.out.c0
  have e1 := HC.out.c1
  go_wp2_with fail
  rw [← HW.out]
  refine (IsStronglyChordal_ig sz A m c x W HK.out hm).mono ?_
  rintro e w8 ⟨rfl, hb8⟩
  clear HW
  clear e0 e1
  replace HB := Lib.hid (HB.out.keep hb8)
  replace HK := Lib.hid (HK.out.keep hb8)
  replace HC := Lib.hid (HC.out.keep hb8)
  clear hb8
  have e0 := HC.out.c0
  have e1 := HC.out.c1
  go_wp2
  go_ret
  exact ⟨ret_bool r.out.symm, HB.out.below⟩
 by_cases e8 : str.toList = [112, 101, 114, 102, 101, 99, 116]
 ·have r : Hid (isB sz m x str.toList = peB sz m x) := by show _ = _; unfold isB; rw [if_neg e0, if_neg e1, if_neg e2, if_neg e3, if_neg e4, if_neg e5, if_neg e6, if_neg e7, if_pos e8]
  have f0 : (str.toList == [99, 104, 111, 114, 100, 97, 108]) = false := by simpa using e0
  have f1 : (str.toList == [105, 110, 116, 101, 114, 118, 97, 108]) = false := by simpa using e1
  have f2 : (str.toList == [112, 114, 111, 112, 101, 114]) = false := by simpa using e2
  have f3 : (str.toList == [99, 111, 103, 114, 97, 112, 104]) = false := by simpa using e3
  have f4 : (str.toList == [115, 112, 108, 105, 116]) = false := by simpa using e4
  have f5 : (str.toList == [116, 104, 114, 101, 115, 104, 111, 108, 100]) = false := by simpa using e5
  have f6 : (str.toList == [98, 105, 112, 97, 114, 116, 105, 116, 101]) = false := by simpa using e6
  have f7 : (str.toList == [115, 116, 114, 111, 110, 103]) = false := by simpa using e7
  have f8 : (str.toList == [112, 101, 114, 102, 101, 99, 116]) = true := by simpa using e8
  clear HR e0 e1 e2 e3 e4 e5 e6 e7 e8
  go_enter Tryz.func91, Tryz.ntmps91
  have e0 := HC.out.c0
  have e1 := HC.out.c1
  go_wp2_with fail
  rw [← HW.out]
  refine (IsPerfect_i sz A m c x W HK.out hm).mono ?_
  rintro e w9 ⟨rfl, hb9⟩
  clear HW
  clear e0 e1
  replace HB := Lib.hid (HB.out.keep hb9)
  replace HK := Lib.hid (HK.out.keep hb9)
  replace HC := Lib.hid (HC.out.keep hb9)
  clear hb9
  have e0 := HC.out.c0
  have e1 := HC.out.c1
  go_wp2
  go_ret
  exact ⟨ret_bool r.out.symm, HB.out.below⟩
 have r : Hid (isB sz m x str.toList = false) := by show _ = _; unfold isB; rw [if_neg e0, if_neg e1, if_neg e2, if_neg e3, if_neg e4, if_neg e5, if_neg e6, if_neg e7, if_neg e8]
 have f0 : (str.toList == [99, 104, 111, 114, 100, 97, 108]) = false := by simpa using e0
 have f1 : (str.toList == [105, 110, 116, 101, 114, 118, 97, 108]) = false := by simpa using e1
 have f2 : (str.toList == [112, 114, 111, 112, 101, 114]) = false := by simpa using e2
 have f3 : (str.toList == [99, 111, 103, 114, 97, 112, 104]) = false := by simpa using e3
 have f4 : (str.toList == [115, 112, 108, 105, 116]) = false := by simpa using e4
 have f5 : (str.toList == [116, 104, 114, 101, 115, 104, 111, 108, 100]) = false := by simpa using e5
 have f6 : (str.toList == [98, 105, 112, 97, 114, 116, 105, 116, 101]) = false := by simpa using e6
 have f7 : (str.toList == [115, 116, 114, 111, 110, 103]) = false := by simpa using e7
 have f8 : (str.toList == [112, 101, 114, 102, 101, 99, 116]) = false := by simpa using e8
 clear e0 e1 e2 e3 e4 e5 e6 e7 e8
 go_enter Tryz.func91, Tryz.ntmps91
 go_wp2
 rw [← HW.out]
 go_ret
 exact ⟨ret_bool r.out.symm, HB.out.below⟩
end
end Go.Proofs.YticadlkcjhglnaaGreat
