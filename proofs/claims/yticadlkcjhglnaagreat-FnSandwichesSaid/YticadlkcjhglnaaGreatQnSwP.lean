/-
  Several texts in one.
-/
import Derived.Test.YticadlkcjhglnaaGreatQnIsinI
import Derived.Test.YticadlkcjhglnaaGreatQnSimS
import Derived.Test.YticadlkcjhglnaaGreatQnJoinS
import Derived.Test.YticadlkcjhglnaaGreatQnPthS
import Derived.Test.YticadlkcjhglnaaGreatQnThoS
import Derived.Test.YticadlkcjhglnaaGreatQnPrfS
import Derived.Test.YticadlkcjhglnaaGreatQnCluS
import Derived.Test.YticadlkcjhglnaaGreatQnSidS
import Derived.Test.YticadlkcjhglnaaGreatQnInP
import Derived.Test.YticadlkcjhglnaaGreatQnGA
import Derived.Test.YticadlkcjhglnaaGreatQnIndS
import Derived.Test.YticadlkcjhglnaaGreatQnWbP
import Derived.Test.YticadlkcjhglnaaGreatQnOptS
/-
-/
namespace Go.Proofs.YticadlkcjhglnaaGreat
open Go.RowKit
section
variable (sz : Int) (A : Option Addr) (m c : Nat) (x : Nat → Int) (str : ByteArray) (w : World)
theorem IsChordal_sg (h : GA w A m c x) (hm : m ≤ 1048576) :
 Calls Tryz.prog 29 #[.agg #[.int .i64 sz, .slice A m c]] w fun e w' => e = .returned (.bool (chB sz m x)) ∧ Below w.heap.size w w' := IsChordal_s sz A m c x w w.heap.size h.rd (Nat.le_refl _) hm
theorem IsStronglyChordal_sg (h : GA w A m c x) (hm : m ≤ 1048576) :
 Calls Tryz.prog 58 #[.agg #[.int .i64 sz, .slice A m c]] w fun e w' => e = .returned (.bool (sgB sz m x)) ∧ Below w.heap.size w w' := IsStronglyChordal_s sz A m c x w w.heap.size h.rd (Nat.le_refl _) hm
set_option maxRecDepth 100000 in
set_option maxHeartbeats 6400000 in
theorem IsIn_s (h : GA w A m c x) (hm : m ≤ 1048576) :
 Calls Tryz.prog 16 #[.agg #[.int .i64 sz, .slice A m c], .string str] w fun e w' => e = .returned (.bool (isB sz m x str.toList)) ∧ Below w.heap.size w w' := by
 obtain ⟨W, hW⟩ : ∃ W : World, W = (w.alloc (Obj.cells #[Value.int IntKind.i64 sz, Value.slice A m c] 26)) := ⟨_, rfl⟩
 have HB : Hid (From w W) := by rw [hW]; exact From.alloc _ _
 have HK := Lib.hid (h.keep HB.out.below)
 have HC : Hid (GC W w.heap.size sz A m c) := by rw [hW]; exact GC.new _ _ _ _ _
 have HW := Lib.hid hW
 have HR : Hid (isB sz m x str.toList = isB sz m x str.toList) := rfl
 clear hW h
 by_cases e0 : str.toList = [99, 104, 111, 114, 100, 97, 108]
 ·have r : Hid (isB sz m x str.toList = chB sz m x) := by show _ = _; unfold isB; rw [if_pos e0]
  have f0 : (str.toList == [99, 104, 111, 114, 100, 97, 108]) = true := by simpa using e0
  clear HR e0
  go_enter Tryz.func16, Tryz.ntmps16
  have e0 := HC.out.c0
  have e1 := HC.out.c1
  go_wp2_with fail
  rw [← HW.out]
  refine (IsChordal_sg sz A m c x W HK.out hm).mono ?_
  rintro e w1 ⟨rfl, hb1⟩
  clear HW
  clear e0 e1
  replace HB := Lib.hid (HB.out.keep hb1)
  replace HK := Lib.hid (HK.out.keep hb1)
  replace HC := Lib.hid (HC.out.keep hb1)
  clear hb1
  have e0 := HC.out.c0
  have e1 := HC.out.c1
  go_wp2
  go_ret
  exact ⟨ret_bool r.out.symm, HB.out.below⟩
 by_cases e1 : str.toList = [105, 110, 116, 101, 114, 118, 97, 108]
 ·have r : Hid (isB sz m x str.toList = ivG sz m x) := by show _ = _; unfold isB; rw [if_neg e0, if_pos e1]
  have f0 : (str.toList == [99, 104, 111, 114, 100, 97, 108]) = false := by simpa using e0
  have f1 : (str.toList == [105, 110, 116, 101, 114, 118, 97, 108]) = true := by simpa using e1
  clear HR e0 e1
  go_enter Tryz.func16, Tryz.ntmps16
  have e0 := HC.out.c0
  have e1 := HC.out.c1
  go_wp2_with fail
  rw [← HW.out]
  refine (IsInterval_s sz A m c x W HK.out hm).mono ?_
  rintro e w2 ⟨rfl, hb2⟩
  clear HW
  clear e0 e1
  replace HB := Lib.hid (HB.out.keep hb2)
  replace HK := Lib.hid (HK.out.keep hb2)
  replace HC := Lib.hid (HC.out.keep hb2)
  clear hb2
  have e0 := HC.out.c0
  have e1 := HC.out.c1
  go_wp2
  go_ret
  exact ⟨ret_bool r.out.symm, HB.out.below⟩
 by_cases e2 : str.toList = [112, 114, 111, 112, 101, 114]
 ·have r : Hid (isB sz m x str.toList = ppB sz m x) := by show _ = _; unfold isB; rw [if_neg e0, if_neg e1, if_pos e2]
  have f0 : (str.toList == [99, 104, 111, 114, 100, 97, 108]) = false := by simpa using e0
  have f1 : (str.toList == [105, 110, 116, 101, 114, 118, 97, 108]) = false := by simpa using e1
  have f2 : (str.toList == [112, 114, 111, 112, 101, 114]) = true := by simpa using e2
  clear HR e0 e1 e2
  go_enter Tryz.func16, Tryz.ntmps16
  have e0 := HC.out.c0
  have e1 := HC.out.c1
  go_wp2_with fail
  rw [← HW.out]
  refine (IsProper_s sz A m c x W HK.out hm).mono ?_
  rintro e w3 ⟨rfl, hb3⟩
  clear HW
  clear e0 e1
  replace HB := Lib.hid (HB.out.keep hb3)
  replace HK := Lib.hid (HK.out.keep hb3)
  replace HC := Lib.hid (HC.out.keep hb3)
  clear hb3
  have e0 := HC.out.c0
  have e1 := HC.out.c1
  go_wp2
  go_ret
  exact ⟨ret_bool r.out.symm, HB.out.below⟩
 by_cases e3 : str.toList = [99, 111, 103, 114, 97, 112, 104]
 ·have r : Hid (isB sz m x str.toList = cgB sz m x) := by show _ = _; unfold isB; rw [if_neg e0, if_neg e1, if_neg e2, if_pos e3]
  have f0 : (str.toList == [99, 104, 111, 114, 100, 97, 108]) = false := by simpa using e0
  have f1 : (str.toList == [105, 110, 116, 101, 114, 118, 97, 108]) = false := by simpa using e1
  have f2 : (str.toList == [112, 114, 111, 112, 101, 114]) = false := by simpa using e2
  have f3 : (str.toList == [99, 111, 103, 114, 97, 112, 104]) = true := by simpa using e3
  clear HR e0 e1 e2 e3
  go_enter Tryz.func16, Tryz.ntmps16
  have e0 := HC.out.c0
  have e1 := HC.out.c1
  go_wp2_with fail
  rw [← HW.out]
  refine (IsCograph_s sz A m c x W HK.out hm).mono ?_
  rintro e w4 ⟨rfl, hb4⟩
  clear HW
  clear e0 e1
  replace HB := Lib.hid (HB.out.keep hb4)
  replace HK := Lib.hid (HK.out.keep hb4)
  replace HC := Lib.hid (HC.out.keep hb4)
  clear hb4
  have e0 := HC.out.c0
  have e1 := HC.out.c1
  go_wp2
  go_ret
  exact ⟨ret_bool r.out.symm, HB.out.below⟩
 by_cases e4 : str.toList = [115, 112, 108, 105, 116]
 ·have r : Hid (isB sz m x str.toList = slB sz m x) := by show _ = _; unfold isB; rw [if_neg e0, if_neg e1, if_neg e2, if_neg e3, if_pos e4]
  have f0 : (str.toList == [99, 104, 111, 114, 100, 97, 108]) = false := by simpa using e0
  have f1 : (str.toList == [105, 110, 116, 101, 114, 118, 97, 108]) = false := by simpa using e1
  have f2 : (str.toList == [112, 114, 111, 112, 101, 114]) = false := by simpa using e2
  have f3 : (str.toList == [99, 111, 103, 114, 97, 112, 104]) = false := by simpa using e3
  have f4 : (str.toList == [115, 112, 108, 105, 116]) = true := by simpa using e4
  clear HR e0 e1 e2 e3 e4
  go_enter Tryz.func16, Tryz.ntmps16
  have e0 := HC.out.c0
  have e1 := HC.out.c1
  go_wp2_with fail
  rw [← HW.out]
  refine (IsSplit_s sz A m c x W HK.out hm).mono ?_
  rintro e w5 ⟨rfl, hb5⟩
  clear HW
  clear e0 e1
  replace HB := Lib.hid (HB.out.keep hb5)
  replace HK := Lib.hid (HK.out.keep hb5)
  replace HC := Lib.hid (HC.out.keep hb5)
  clear hb5
  have e0 := HC.out.c0
  have e1 := HC.out.c1
  go_wp2
  go_ret
  exact ⟨ret_bool r.out.symm, HB.out.below⟩
 by_cases e5 : str.toList = [116, 104, 114, 101, 115, 104, 111, 108, 100]
 ·have r : Hid (isB sz m x str.toList = toB sz m x) := by show _ = _; unfold isB; rw [if_neg e0, if_neg e1, if_neg e2, if_neg e3, if_neg e4, if_pos e5]
  have f0 : (str.toList == [99, 104, 111, 114, 100, 97, 108]) = false := by simpa using e0
  have f1 : (str.toList == [105, 110, 116, 101, 114, 118, 97, 108]) = false := by simpa using e1
  have f2 : (str.toList == [112, 114, 111, 112, 101, 114]) = false := by simpa using e2
  have f3 : (str.toList == [99, 111, 103, 114, 97, 112, 104]) = false := by simpa using e3
  have f4 : (str.toList == [115, 112, 108, 105, 116]) = false := by simpa using e4
  have f5 : (str.toList == [116, 104, 114, 101, 115, 104, 111, 108, 100]) = true := by simpa using e5
  clear HR e0 e1 e2 e3 e4 e5
  go_enter Tryz.func16, Tryz.ntmps16
  have e0 := HC.out.c0
  have e1 := HC.out.c1
  go_wp2_with fail
  rw [← HW.out]
  refine (IsThreshold_s sz A m c x W HK.out hm).mono ?_
  rintro e w6 ⟨rfl, hb6⟩
  clear HW
  clear e0 e1
  replace HB := Lib.hid (HB.out.keep hb6)
  replace HK := Lib.hid (HK.out.keep hb6)
  replace HC := Lib.hid (HC.out.keep hb6)
  clear hb6
  have e0 := HC.out.c0
  have e1 := HC.out.c1
  go_wp2
  go_ret
  exact ⟨ret_bool r.out.symm, HB.out.below⟩
 by_cases e6 : str.toList = [98, 105, 112, 97, 114, 116, 105, 116, 101]
 ·have r : Hid (isB sz m x str.toList = biB sz m x) := by show _ = _; unfold isB; rw [if_neg e0, if_neg e1, if_neg e2, if_neg e3, if_neg e4, if_neg e5, if_pos e6]
  have f0 : (str.toList == [99, 104, 111, 114, 100, 97, 108]) = false := by simpa using e0
  have f1 : (str.toList == [105, 110, 116, 101, 114, 118, 97, 108]) = false := by simpa using e1
  have f2 : (str.toList == [112, 114, 111, 112, 101, 114]) = false := by simpa using e2
  have f3 : (str.toList == [99, 111, 103, 114, 97, 112, 104]) = false := by simpa using e3
  have f4 : (str.toList == [115, 112, 108, 105, 116]) = false := by simpa using e4
  have f5 : (str.toList == [116, 104, 114, 101, 115, 104, 111, 108, 100]) = false := by simpa using e5
  have f6 : (str.toList == [98, 105, 112, 97, 114, 116, 105, 116, 101]) = true := by simpa using e6
  clear HR e0 e1 e2 e3 e4 e5 e6
  go_enter Tryz.func16, Tryz.ntmps16
  have e0 := HC.out.c0
  have e1 := HC.out.c1
  go_wp2_with fail
  rw [← HW.out]
  refine (IsBipartite_s sz A m c x W HK.out hm).mono ?_
  rintro e w7 ⟨rfl, hb7⟩
  clear HW
  clear e0 e1
  replace HB := Lib.hid (HB.out.keep hb7)
  replace HK := Lib.hid (HK.out.keep hb7)
  replace HC := Lib.hid (HC.out.keep hb7)
  clear hb7
  have e0 := HC.out.c0
  have e1 := HC.out.c1
  go_wp2
  go_ret
  exact ⟨ret_bool r.out.symm, HB.out.below⟩
 by_cases e7 : str.toList = [115, 116, 114, 111, 110, 103]
 ·have r : Hid (isB sz m x str.toList = sgB sz m x) := by show _ = _; unfold isB; rw [if_neg e0, if_neg e1, if_neg e2, if_neg e3, if_neg e4, if_neg e5, if_neg e6, if_pos e7]
  have f0 : (str.toList == [99, 104, 111, 114, 100, 97, 108]) = false := by simpa using e0
  have f1 : (str.toList == [105, 110, 116, 101, 114, 118, 97, 108]) = false := by simpa using e1
  have f2 : (str.toList == [112, 114, 111, 112, 101, 114]) = false := by simpa using e2
  have f3 : (str.toList == [99, 111, 103, 114, 97, 112, 104]) = false := by simpa using e3
  have f4 : (str.toList == [115, 112, 108, 105, 116]) = false := by simpa using e4
  have f5 : (str.toList == [116, 104, 114, 101, 115, 104, 111, 108, 100]) = false := by simpa using e5
  have f6 : (str.toList == [98, 105, 112, 97, 114, 116, 105, 116, 101]) = false := by simpa using e6
  have f7 : (str.toList == [115, 116, 114, 111, 110, 103]) = true := by simpa using e7
  clear HR e0 e1 e2 e3 e4 e5 e6 e7
  go_enter Tryz.func16, Tryz.ntmps16
  have e0 := HC.out.c0
  have e1 := HC.out.c1
  go_wp2_with fail
  rw [← HW.out]
  refine (IsStronglyChordal_sg sz A m c x W HK.out hm).mono ?_
  rintro e w8 ⟨rfl, hb8⟩
  clear HW
  clear e0 e1
  replace HB := Lib.hid (HB.out.keep hb8)
  replace HK := Lib.hid (HK.out.keep hb8)
  replace HC := Lib.hid (HC.out.keep hb8)
  clear hb8
  have e0 := HC.out.c0
  have e1 := HC.out.c1
  go_wp2
  go_ret
  exact ⟨ret_bool r.out.symm, HB.out.below⟩
 by_cases e8 : str.toList = [112, 101, 114, 102, 101, 99, 116]
 ·have r : Hid (isB sz m x str.toList = peB sz m x) := by show _ = _; unfold isB; rw [if_neg e0, if_neg e1, if_neg e2, if_neg e3, if_neg e4, if_neg e5, if_neg e6, if_neg e7, if_pos e8]
  have f0 : (str.toList == [99, 104, 111, 114, 100, 97, 108]) = false := by simpa using e0
  have f1 : (str.toList == [105, 110, 116, 101, 114, 118, 97, 108]) = false := by simpa using e1
  have f2 : (str.toList == [112, 114, 111, 112, 101, 114]) = false := by simpa using e2
  have f3 : (str.toList == [99, 111, 103, 114, 97, 112, 104]) = false := by simpa using e3
  have f4 : (str.toList == [115, 112, 108, 105, 116]) = false := by simpa using e4
  have f5 : (str.toList == [116, 104, 114, 101, 115, 104, 111, 108, 100]) = false := by simpa using e5
  have f6 : (str.toList == [98, 105, 112, 97, 114, 116, 105, 116, 101]) = false := by simpa using e6
  have f7 : (str.toList == [115, 116, 114, 111, 110, 103]) = false := by simpa using e7
  have f8 : (str.toList == [112, 101, 114, 102, 101, 99, 116]) = true := by simpa using e8
  clear HR e0 e1 e2 e3 e4 e5 e6 e7 e8
  go_enter Tryz.func16, Tryz.ntmps16
  have e0 := HC.out.c0
  have e1 := HC.out.c1
  go_wp2_with fail
  rw [← HW.out]
  refine (IsPerfect_s sz A m c x W HK.out hm).mono ?_
  rintro e w9 ⟨rfl, hb9⟩
  clear HW
  clear e0 e1
  replace HB := Lib.hid (HB.out.keep hb9)
  replace HK := Lib.hid (HK.out.keep hb9)
  replace HC := Lib.hid (HC.out.keep hb9)
  clear hb9
  have e0 := HC.out.c0
  have e1 := HC.out.c1
  go_wp2
  go_ret
  exact ⟨ret_bool r.out.symm, HB.out.below⟩
 have r : Hid (isB sz m x str.toList = false) := by show _ = _; unfold isB; rw [if_neg e0, if_neg e1, if_neg e2, if_neg e3, if_neg e4, if_neg e5, if_neg e6, if_neg e7, if_neg e8]
 have f0 : (str.toList == [99, 104, 111, 114, 100, 97, 108]) = false := by simpa using e0
 have f1 : (str.toList == [105, 110, 116, 101, 114, 118, 97, 108]) = false := by simpa using e1
 have f2 : (str.toList == [112, 114, 111, 112, 101, 114]) = false := by simpa using e2
 have f3 : (str.toList == [99, 111, 103, 114, 97, 112, 104]) = false := by simpa using e3
 have f4 : (str.toList == [115, 112, 108, 105, 116]) = false := by simpa using e4
 have f5 : (str.toList == [116, 104, 114, 101, 115, 104, 111, 108, 100]) = false := by simpa using e5
 have f6 : (str.toList == [98, 105, 112, 97, 114, 116, 105, 116, 101]) = false := by simpa using e6
 have f7 : (str.toList == [115, 116, 114, 111, 110, 103]) = false := by simpa using e7
 have f8 : (str.toList == [112, 101, 114, 102, 101, 99, 116]) = false := by simpa using e8
 clear e0 e1 e2 e3 e4 e5 e6 e7 e8
 go_enter Tryz.func16, Tryz.ntmps16
 go_wp2
 rw [← HW.out]
 go_ret
 exact ⟨ret_bool r.out.symm, HB.out.below⟩
end
end Go.Proofs.YticadlkcjhglnaaGreat

/-
-/
namespace Go.Proofs.YticadlkcjhglnaaGreat
open Go.RowKit
noncomputable def isV (r : Nat → Nat) (m : Nat) (s : List UInt8) : Bool := isB (m : Int) m (fun v => (r v : Int)) s
section
variable {A : Option Addr} {m c : Nat} {r : Nat → Nat} {w : World} {s : Nat}
theorem IsIn_v (h : GV w A m c r) (str : ByteArray) : Calls Tryz.prog 91 #[.agg #[.int .i64 m, .slice A m c], .string str] w fun e w' => e = .returned (.bool (isV r m str.toList)) ∧ Below w.heap.size w w' :=
 IsIn_i m A m c _ str w h.ga (by have := h.vg.n7; omega)
theorem IsIn_sv (h : GV w A m c r) (str : ByteArray) : Calls Tryz.prog 16 #[.agg #[.int .i64 m, .slice A m c], .string str] w fun e w' => e = .returned (.bool (isV r m str.toList)) ∧ Below w.heap.size w w' :=
 IsIn_s m A m c _ str w h.ga (by have := h.vg.n7; omega)
end
end Go.Proofs.YticadlkcjhglnaaGreat

/-
-/
namespace Go.Proofs.YticadlkcjhglnaaGreat
open Go.RowKit
theorem lists_lenE {D : List Dsc} {E : List (Nat × Nat)} (h : lists D = PrE E) : D.length = E.length := by
 have := congrArg List.length h
 unfold lists PrE at this
 simpa using this
theorem wiB_is {s1 s2 : Int} {m1 m2 : Nat} {x1 x2 : Nat → Int} (h : wiB s1 m1 x1 s2 m2 x2 = true) : Wi s1 m1 x1 s2 m2 x2 := @of_decide_eq_true _ (Classical.propDecidable _) h
theorem nodup_pr (n : Nat) : (pr n).Nodup := by
 unfold pr List.Nodup
 rw [List.pairwise_flatMap]
 refine ⟨fun v _ => ?_, List.Pairwise.imp ?_ List.pairwise_lt_range⟩
 ·unfold prRow
  rw [List.pairwise_map]
  refine List.Pairwise.imp ?_ List.pairwise_lt_range'
  rintro a b hab ⟨⟩
  omega
 ·intro a b hab p hp q hq e
  unfold prRow at hp hq
  rw [List.mem_map] at hp hq
  obtain ⟨_, _, rfl⟩ := hp
  obtain ⟨_, _, rfl⟩ := hq
  injection e with e
  omega
def swE (r s : Nat → Nat) (m : Nat) : List (Nat × Nat) := ((pr m).filter fun p => (s p.1).testBit p.2).filter fun p => !(r p.1).testBit p.2
theorem swE_new (r s : Nat → Nat) (m : Nat) : EdN r m (swE r s m) := by
 refine ⟨fun p hp => ?_, fun p hp => ?_, ?_⟩
 ·unfold swE at hp
  exact mem_pr.1 (List.mem_filter.1 (List.mem_filter.1 hp).1).1
 ·unfold swE at hp
  have := (List.mem_filter.1 hp).2
  simpa using this
 ·exact List.Pairwise.filter _ (List.Pairwise.filter _ (nodup_pr m))
theorem swE_len {r s : Nat → Nat} {m : Nat} (h : m ≤ 7) : (swE r s m).length ≤ 21 := by
 unfold swE
 exact Nat.le_trans (List.length_filter_le _ _) (Nat.le_trans (List.length_filter_le _ _) (length_pr_le h))
theorem sw_within {s1 s2 : Int} {m1 m2 : Nat} {x1 x2 : Nat → Int} (h : wiB s1 m1 x1 s2 m2 x2 = true) :
 okB s1 m1 x1 = true ∧ okB s2 m2 x2 = true ∧ m1 = m2 ∧ s1 = (m1 : Int) ∧ s2 = (m2 : Int) ∧ optL s1 m1 x1 s2 m2 x2 = PrE (swE (rw_ x1) (rw_ x2) m2) := by
 obtain ⟨h1, h2, h3, _⟩ := wiB_is h
 have o1 := okB_yes h1
 have o2 := okB_yes h2
 obtain ⟨_, e1, _, _⟩ := h1
 obtain ⟨_, e2, _, _⟩ := h2
 refine ⟨o1, o2, by omega, e1, e2, ?_⟩
 unfold optL edgesL edAll swE PrE
 rw [if_pos h, if_pos o2, List.filter_map]
 congr 1
section
variable (r : Nat → Nat) (m : Nat) (E : List (Nat × Nat)) (s : List UInt8)
noncomputable def sdwB (b : Nat) : Bool := isV (wbR r E b E.length) m s
noncomputable def sdwK (k : Nat) : List Nat := (List.range k).filter (sdwB r m E s)
noncomputable def sdwL : List Nat := sdwK r m E s (2 ^ E.length)
end
section
variable {r : Nat → Nat} {m : Nat} {E : List (Nat × Nat)} {s : List UInt8}
theorem sdwK_yes {k : Nat} (h : sdwB r m E s k = true) : sdwK r m E s (k + 1) = sdwK r m E s k ++ [k] := by
 unfold sdwK; rw [List.range_succ, List.filter_append]; simp [h]
theorem sdwK_no {k : Nat} (h : sdwB r m E s k = false) : sdwK r m E s (k + 1) = sdwK r m E s k := by
 unfold sdwK; rw [List.range_succ, List.filter_append]; simp [h]
theorem sdwK_len (k : Nat) : (sdwK r m E s k).length ≤ k := by
 unfold sdwK
 exact Nat.le_trans (List.length_filter_le _ _) (by simp)
theorem sdwK_lt {k b : Nat} (h : b ∈ sdwK r m E s k) : b < k := by
 unfold sdwK at h
 exact List.mem_range.1 (List.mem_filter.1 h).1
theorem sdwL_first {k : Nat} (hk : k < 2 ^ E.length) (h : sdwB r m E s k = true) (hn : sdwK r m E s k = []) : ∃ t, sdwL r m E s = k :: t := by
 have h1 : ∀ j, sdwK r m E s (k + 1 + j) = k :: ((List.range j).map (k + 1 + ·)).filter (sdwB r m E s) := by
  intro j
  induction j with
  | zero => show sdwK r m E s (k + 1) = _; rw [sdwK_yes h, hn]; rfl
  | succ j ih =>
    rw [List.range_succ, List.map_append, List.filter_append, ← List.cons_append, ← ih]
    show sdwK r m E s ((k + 1 + j) + 1) = _
    cases hb : sdwB r m E s (k + 1 + j)
    ·rw [sdwK_no hb]; simp [hb]
    ·rw [sdwK_yes hb]; simp [hb]
 have := h1 (2 ^ E.length - (k + 1))
 unfold sdwL
 rw [show k + 1 + (2 ^ E.length - (k + 1)) = 2 ^ E.length by omega] at this
 exact ⟨_, this⟩
end
end Go.Proofs.YticadlkcjhglnaaGreat
