/-
  Several texts in one.
-/
import Derived.Test.YtppkokgiojcgbaaGreatDoorQxSimP
import Derived.Test.YtppkokgiojcgbaaGreatDoorQxPthI
import Derived.Test.YtppkokgiojcgbaaGreatDoorQxSmoI
import Derived.Test.YtppkokgiojcgbaaGreatDoorQxThoI
import Derived.Test.YtppkokgiojcgbaaGreatDoorQxPrfI
import Derived.Test.YtppkokgiojcgbaaGreatDoorQxCluI
import Derived.Test.YtppkokgiojcgbaaGreatDoorQxSidI
import Derived.Test.YtppkokgiojcgbaaGreatDoorQxUmbS
import Derived.Test.YtppkokgiojcgbaaGreatDoorQxGC
/-
-/
namespace Go.Proofs.YtppkokgiojcgbaaGreatDoor
open Go.RowKit
noncomputable def isB (sz : Int) (m : Nat) (x : Nat → Int) (s : List UInt8) : Bool :=
 if s = [99, 104, 111, 114, 100, 97, 108] then chB sz m x else if s = [105, 110, 116, 101, 114, 118, 97, 108] then ivG sz m x else if s = [112, 114, 111, 112, 101, 114] then ppB sz m x else if s = [99, 111, 103, 114, 97, 112, 104] then cgB sz m x else if s = [115, 112, 108, 105, 116] then slB sz m x else if s = [116, 104, 114, 101, 115, 104, 111, 108, 100] then toB sz m x else if s = [98, 105, 112, 97, 114, 116, 105, 116, 101] then biB sz m x else if s = [115, 116, 114, 111, 110, 103] then sgB sz m x else if s = [112, 101, 114, 102, 101, 99, 116] then peB sz m x else false
section
variable (sz : Int) (A : Option Addr) (m c : Nat) (x : Nat → Int) (str : ByteArray) (w : World)
theorem IsChordal_ig (h : GA w A m c x) (hm : m ≤ 1048576) :
 Calls Tryz.prog 128 #[.agg #[.int .i64 sz, .slice A m c]] w fun e w' => e = .returned (.bool (chB sz m x)) ∧ Below w.heap.size w w' := IsChordal_ix sz A m c x w w.heap.size h.rd (Nat.le_refl _) hm
theorem IsStronglyChordal_ig (h : GA w A m c x) (hm : m ≤ 1048576) :
 Calls Tryz.prog 135 #[.agg #[.int .i64 sz, .slice A m c]] w fun e w' => e = .returned (.bool (sgB sz m x)) ∧ Below w.heap.size w w' := IsStronglyChordal_i sz A m c x w w.heap.size h.rd (Nat.le_refl _) hm
set_option maxRecDepth 100000 in
set_option maxHeartbeats 6400000 in
theorem IsIn_i (h : GA w A m c x) (hm : m ≤ 1048576) :
 Calls Tryz.prog 72 #[.agg #[.int .i64 sz, .slice A m c], .string str] w fun e w' => e = .returned (.bool (isB sz m x str.toList)) ∧ Below w.heap.size w w' := by
 obtain ⟨W, hW⟩ : ∃ W : World, W = (w.alloc (Obj.cells #[Value.int IntKind.i64 sz, Value.slice A m c] 29)) := ⟨_, rfl⟩
 have HB : Hid (From w W) := by rw [hW]; exact From.alloc _ _
 have HK := Lib.hid (h.keep HB.out.below)
 have HC : Hid (GC W w.heap.size sz A m c) := by rw [hW]; exact GC.new _ _ _ _ _
 have HW := Lib.hid hW
 have HR : Hid (isB sz m x str.toList = isB sz m x str.toList) := rfl
 clear hW h
 by_cases e0 : str.toList = [99, 104, 111, 114, 100, 97, 108]
 ·have r : Hid (isB sz m x str.toList = chB sz m x) := by show _ = _; unfold isB; rw [if_pos e0]
  have f0 : (str.toList == [99, 104, 111, 114, 100, 97, 108]) = true := by simpa using e0
  clear HR e0
  go_enter Tryz.func72, Tryz.ntmps72
  have e0 := HC.out.c0
  have e1 := HC.out.c1
  go_wp2_with fail
  rw [← HW.out]
  refine (IsChordal_ig sz A m c x W HK.out hm).mono ?_
  rintro e w1 ⟨rfl, hb1⟩
  clear HW
  clear e0 e1
  replace HB := Lib.hid (HB.out.keep hb1)
  replace HK := Lib.hid (HK.out.keep hb1)
  replace HC := Lib.hid (HC.out.keep hb1)
  clear hb1
  have e0 := HC.out.c0
  have e1 := HC.out.c1
  go_wp2
  go_ret
  exact ⟨ret_bool r.out.symm, HB.out.below⟩
 by_cases e1 : str.toList = [105, 110, 116, 101, 114, 118, 97, 108]
 ·have r : Hid (isB sz m x str.toList = ivG sz m x) := by show _ = _; unfold isB; rw [if_neg e0, if_pos e1]
  have f0 : (str.toList == [99, 104, 111, 114, 100, 97, 108]) = false := by simpa using e0
  have f1 : (str.toList == [105, 110, 116, 101, 114, 118, 97, 108]) = true := by simpa using e1
  clear HR e0 e1
  go_enter Tryz.func72, Tryz.ntmps72
  have e0 := HC.out.c0
  have e1 := HC.out.c1
  go_wp2_with fail
  rw [← HW.out]
  refine (IsInterval_i sz A m c x W HK.out hm).mono ?_
  rintro e w2 ⟨rfl, hb2⟩
  clear HW
  clear e0 e1
  replace HB := Lib.hid (HB.out.keep hb2)
  replace HK := Lib.hid (HK.out.keep hb2)
  replace HC := Lib.hid (HC.out.keep hb2)
  clear hb2
  have e0 := HC.out.c0
  have e1 := HC.out.c1
  go_wp2
  go_ret
  exact ⟨ret_bool r.out.symm, HB.out.below⟩
 by_cases e2 : str.toList = [112, 114, 111, 112, 101, 114]
 ·have r : Hid (isB sz m x str.toList = ppB sz m x) := by show _ = _; unfold isB; rw [if_neg e0, if_neg e1, if_pos e2]
  have f0 : (str.toList == [99, 104, 111, 114, 100, 97, 108]) = false := by simpa using e0
  have f1 : (str.toList == [105, 110, 116, 101, 114, 118, 97, 108]) = false := by simpa using e1
  have f2 : (str.toList == [112, 114, 111, 112, 101, 114]) = true := by simpa using e2
  clear HR e0 e1 e2
  go_enter Tryz.func72, Tryz.ntmps72
  have e0 := HC.out.c0
  have e1 := HC.out.c1
  go_wp2_with fail
  rw [← HW.out]
  refine (IsProper_i sz A m c x W HK.out hm).mono ?_
  rintro e w3 ⟨rfl, hb3⟩
  clear HW
  clear e0 e1
  replace HB := Lib.hid (HB.out.keep hb3)
  replace HK := Lib.hid (HK.out.keep hb3)
  replace HC := Lib.hid (HC.out.keep hb3)
  clear hb3
  have e0 := HC.out.c0
  have e1 := HC.out.c1
  go_wp2
  go_ret
  exact ⟨ret_bool r.out.symm, HB.out.below⟩
 by_cases e3 : str.toList = [99, 111, 103, 114, 97, 112, 104]
 ·have r : Hid (isB sz m x str.toList = cgB sz m x) := by show _ = _; unfold isB; rw [if_neg e0, if_neg e1, if_neg e2, if_pos e3]
  have f0 : (str.toList == [99, 104, 111, 114, 100, 97, 108]) = false := by simpa using e0
  have f1 : (str.toList == [105, 110, 116, 101, 114, 118, 97, 108]) = false := by simpa using e1
  have f2 : (str.toList == [112, 114, 111, 112, 101, 114]) = false := by simpa using e2
  have f3 : (str.toList == [99, 111, 103, 114, 97, 112, 104]) = true := by simpa using e3
  clear HR e0 e1 e2 e3
  go_enter Tryz.func72, Tryz.ntmps72
  have e0 := HC.out.c0
  have e1 := HC.out.c1
  go_wp2_with fail
  rw [← HW.out]
  refine (IsCograph_i sz A m c x W HK.out hm).mono ?_
  rintro e w4 ⟨rfl, hb4⟩
  clear HW
  clear e0 e1
  replace HB := Lib.hid (HB.out.keep hb4)
  replace HK := Lib.hid (HK.out.keep hb4)
  replace HC := Lib.hid (HC.out.keep hb4)
  clear hb4
  have e0 := HC.out.c0
  have e1 := HC.out.c1
  go_wp2
  go_ret
  exact ⟨ret_bool r.out.symm, HB.out.below⟩
 by_cases e4 : str.toList = [115, 112, 108, 105, 116]
 ·have r : Hid (isB sz m x str.toList = slB sz m x) := by show _ = _; unfold isB; rw [if_neg e0, if_neg e1, if_neg e2, if_neg e3, if_pos e4]
  have f0 : (str.toList == [99, 104, 111, 114, 100, 97, 108]) = false := by simpa using e0
  have f1 : (str.toList == [105, 110, 116, 101, 114, 118, 97, 108]) = false := by simpa using e1
  have f2 : (str.toList == [112, 114, 111, 112, 101, 114]) = false := by simpa using e2
  have f3 : (str.toList == [99, 111, 103, 114, 97, 112, 104]) = false := by simpa using e3
  have f4 : (str.toList == [115, 112, 108, 105, 116]) = true := by simpa using e4
  clear HR e0 e1 e2 e3 e4
  go_enter Tryz.func72, Tryz.ntmps72
  have e0 := HC.out.c0
  have e1 := HC.out.c1
  go_wp2_with fail
  rw [← HW.out]
  refine (IsSplit_i sz A m c x W HK.out hm).mono ?_
  rintro e w5 ⟨rfl, hb5⟩
  clear HW
  clear e0 e1
  replace HB := Lib.hid (HB.out.keep hb5)
  replace HK := Lib.hid (HK.out.keep hb5)
  replace HC := Lib.hid (HC.out.keep hb5)
  clear hb5
  have e0 := HC.out.c0
  have e1 := HC.out.c1
  go_wp2
  go_ret
  exact ⟨ret_bool r.out.symm, HB.out.below⟩
 by_cases e5 : str.toList = [116, 104, 114, 101, 115, 104, 111, 108, 100]
 ·have r : Hid (isB sz m x str.toList = toB sz m x) := by show _ = _; unfold isB; rw [if_neg e0, if_neg e1, if_neg e2, if_neg e3, if_neg e4, if_pos e5]
  have f0 : (str.toList == [99, 104, 111, 114, 100, 97, 108]) = false := by simpa using e0
  have f1 : (str.toList == [105, 110, 116, 101, 114, 118, 97, 108]) = false := by simpa using e1
  have f2 : (str.toList == [112, 114, 111, 112, 101, 114]) = false := by simpa using e2
  have f3 : (str.toList == [99, 111, 103, 114, 97, 112, 104]) = false := by simpa using e3
  have f4 : (str.toList == [115, 112, 108, 105, 116]) = false := by simpa using e4
  have f5 : (str.toList == [116, 104, 114, 101, 115, 104, 111, 108, 100]) = true := by simpa using e5
  clear HR e0 e1 e2 e3 e4 e5
  go_enter Tryz.func72, Tryz.ntmps72
  have e0 := HC.out.c0
  have e1 := HC.out.c1
  go_wp2_with fail
  rw [← HW.out]
  refine (IsThreshold_i sz A m c x W HK.out hm).mono ?_
  rintro e w6 ⟨rfl, hb6⟩
  clear HW
  clear e0 e1
  replace HB := Lib.hid (HB.out.keep hb6)
  replace HK := Lib.hid (HK.out.keep hb6)
  replace HC := Lib.hid (HC.out.keep hb6)
  clear hb6
  have e0 := HC.out.c0
  have e1 := HC.out.c1
  go_wp2
  go_ret
  exact ⟨ret_bool r.out.symm, HB.out.below⟩
 by_cases e6 : str.toList = [98, 105, 112, 97, 114, 116, 105, 116, 101]
 ·have r : Hid (isB sz m x str.toList = biB sz m x) := by show _ = _; unfold isB; rw [if_neg e0, if_neg e1, if_neg e2, if_neg e3, if_neg e4, if_neg e5, if_pos e6]
  have f0 : (str.toList == [99, 104, 111, 114, 100, 97, 108]) = false := by simpa using e0
  have f1 : (str.toList == [105, 110, 116, 101, 114, 118, 97, 108]) = false := by simpa using e1
  have f2 : (str.toList == [112, 114, 111, 112, 101, 114]) = false := by simpa using e2
  have f3 : (str.toList == [99, 111, 103, 114, 97, 112, 104]) = false := by simpa using e3
  have f4 : (str.toList == [115, 112, 108, 105, 116]) = false := by simpa using e4
  have f5 : (str.toList == [116, 104, 114, 101, 115, 104, 111, 108, 100]) = false := by simpa using e5
  have f6 : (str.toList == [98, 105, 112, 97, 114, 116, 105, 116, 101]) = true := by simpa using e6
  clear HR e0 e1 e2 e3 e4 e5 e6
  go_enter Tryz.func72, Tryz.ntmps72
  have e0 := HC.out.c0
  have e1 := HC.out.c1
  go_wp2_with fail
  rw [← HW.out]
  refine (IsBipartite_i sz A m c x W HK.out hm).mono ?_
  rintro e w7 ⟨rfl, hb7⟩
  clear HW
  clear e0 e1
  replace HB := Lib.hid (HB.out.keep hb7)
  replace HK := Lib.hid (HK.out.keep hb7)
  replace HC := Lib.hid (HC.out.keep hb7)
  clear hb7
  have e0 := HC.out.c0
  have e1 := HC.out.c1
  go_wp2
  go_ret
  exact ⟨ret_bool r.out.symm, HB.out.below⟩
 by_cases e7 : str.toList = [115, 116, 114, 111, 110, 103]
 ·have r : Hid (isB sz m x str.toList = sgB sz m x) := by show _ = _; unfold isB; rw [if_neg e0, if_neg e1, if_neg e2, if_neg e3, if_neg e4, if_neg e5, if_neg e6, if_pos e7]
  have f0 : (str.toList == [99, 104, 111, 114, 100, 97, 108]) = false := by simpa using e0
  have f1 : (str.toList == [105, 110, 116, 101, 114, 118, 97, 108]) = false := by simpa using e1
  have f2 : (str.toList == [112, 114, 111, 112, 101, 114]) = false := by simpa using e2
  have f3 : (str.toList == [99, 111, 103, 114, 97, 112, 104]) = false := by simpa using e3
  have f4 : (str.toList == [115, 112, 108, 105, 116]) = false := by simpa using e4
  have f5 : (str.toList == [116, 104, 114, 101, 115, 104, 111, 108, 100]) = false := by simpa using e5
  have f6 : (str.toList == [98, 105, 112, 97, 114, 116, 105, 116, 101]) = false := by simpa using e6
  have f7 : (str.toList == [115, 116, 114, 111, 110, 103]) = true := by simpa using e7
  clear HR e0 e1 e2 e3 e4 e5 e6 e7
  go_enter Tryz.func72, Tryz.ntmps72
  have e0 := HC.out.c0
  have e1 := HC.out.c1
  go_wp2_with fail
  rw [← HW.out]
  refine (IsStronglyChordal_ig sz A m c x W HK.out hm).mono ?_
  rintro e w8 ⟨rfl, hb8⟩
  clear HW
  clear e0 e1
  replace HB := Lib.hid (HB.out.keep hb8)
  replace HK := Lib.hid (HK.out.keep hb8)
  replace HC := Lib.hid (HC.out.keep hb8)
  clear hb8
  have e0 := HC.out.c0
  have e1 := HC.out.c1
  go_wp2
  go_ret
  exact ⟨ret_bool r.out.symm, HB.out.below⟩
 by_cases e8 : str.toList = [112, 101, 114, 102, 101, 99, 116]
 ·have r : Hid (isB sz m x str.toList = peB sz m x) := by show _ = _; unfold isB; rw [if_neg e0, if_neg e1, if_neg e2, if_neg e3, if_neg e4, if_neg e5, if_neg e6, if_neg e7, if_pos e8]
  have f0 : (str.toList == [99, 104, 111, 114, 100, 97, 108]) = false := by simpa using e0
  have f1 : (str.toList == [105, 110, 116, 101, 114, 118, 97, 108]) = false := by simpa using e1
  have f2 : (str.toList == [112, 114, 111, 112, 101, 114]) = false := by simpa using e2
  have f3 : (str.toList == [99, 111, 103, 114, 97, 112, 104]) = false := by simpa using e3
  have f4 : (str.toList == [115, 112, 108, 105, 116]) = false := by simpa using e4
  have f5 : (str.toList == [116, 104, 114, 101, 115, 104, 111, 108, 100]) = false := by simpa using e5
  have f6 : (str.toList == [98, 105, 112, 97, 114, 116, 105, 116, 101]) = false := by simpa using e6
  have f7 : (str.toList == [115, 116, 114, 111, 110, 103]) = false := by simpa using e7
  have f8 : (str.toList == [112, 101, 114, 102, 101, 99, 116]) = true := by simpa using e8
  clear HR e0 e1 e2 e3 e4 e5 e6 e7 e8
  go_enter Tryz.func72, Tryz.ntmps72
  have e0 := HC.out.c0
  have e1 := HC.out.c1
  go_wp2_with fail
  rw [← HW.out]
  refine (IsPerfect_i sz A m c x W HK.out hm).mono ?_
  rintro e w9 ⟨rfl, hb9⟩
  clear HW
  clear e0 e1
  replace HB := Lib.hid (HB.out.keep hb9)
  replace HK := Lib.hid (HK.out.keep hb9)
  replace HC := Lib.hid (HC.out.keep hb9)
  clear hb9
  have e0 := HC.out.c0
  have e1 := HC.out.c1
  go_wp2
  go_ret
  exact ⟨ret_bool r.out.symm, HB.out.below⟩
 have r : Hid (isB sz m x str.toList = false) := by show _ = _; unfold isB; rw [if_neg e0, if_neg e1, if_neg e2, if_neg e3, if_neg e4, if_neg e5, if_neg e6, if_neg e7, if_neg e8]
 have f0 : (str.toList == [99, 104, 111, 114, 100, 97, 108]) = false := by simpa using e0
 have f1 : (str.toList == [105, 110, 116, 101, 114, 118, 97, 108]) = false := by simpa using e1
 have f2 : (str.toList == [112, 114, 111, 112, 101, 114]) = false := by simpa using e2
 have f3 : (str.toList == [99, 111, 103, 114, 97, 112, 104]) = false := by simpa using e3
 have f4 : (str.toList == [115, 112, 108, 105, 116]) = false := by simpa using e4
 have f5 : (str.toList == [116, 104, 114, 101, 115, 104, 111, 108, 100]) = false := by simpa using e5
 have f6 : (str.toList == [98, 105, 112, 97, 114, 116, 105, 116, 101]) = false := by simpa using e6
 have f7 : (str.toList == [115, 116, 114, 111, 110, 103]) = false := by simpa using e7
 have f8 : (str.toList == [112, 101, 114, 102, 101, 99, 116]) = false := by simpa using e8
 clear e0 e1 e2 e3 e4 e5 e6 e7 e8
 go_enter Tryz.func72, Tryz.ntmps72
 go_wp2
 rw [← HW.out]
 go_ret
 exact ⟨ret_bool r.out.symm, HB.out.below⟩
end
end Go.Proofs.YtppkokgiojcgbaaGreatDoor

/-
-/
namespace Go.Proofs.YtppkokgiojcgbaaGreatDoor
open Go.RowKit
set_option maxRecDepth 100000 in
set_option maxHeartbeats 6400000 in
theorem l12_s {A : Option Addr} {m c : Nat} {r : Nat → Nat} : ∀ (j : Nat) (l : List Nat) (Al : Option Addr) (cl : Nat) (w : World) (lo : Nat), l.length + j = m → (∀ v ∈ l, v < m) → GV w A m c r → ON lo w Al cl l → lo ≤ w.heap.size →
 Calls Tryz.prog 194 #[.agg #[.int .i64 m, .slice A m c], .slice Al l.length cl] w fun e w' => ∃ A' c', e = .returned (.tuple #[.slice A' ((seaG m (umB r) (fun _ => true) j l).getD []).length c', .bool (seaG m (umB r) (fun _ => true) j l).isSome]) ∧ ON lo w' A' c' ((seaG m (umB r) (fun _ => true) j l).getD []) ∧ Below w.heap.size w w' := by
 intro j
 induction j with
 | zero =>
   intro l Al cl w lo hlm hlt h hO hlo
   have heq : ((l.length : Int) == (m : Int)) = true := by simp; omega
   have heq2 : (l.length = m) = True := by simp; omega
   have HO := Lib.hid hO
   have HS : Hid (seaG m (umB r) (fun _ => true) 0 l = some l) := rfl
   clear hO hlm hlt
   obtain ⟨W, hW⟩ : ∃ W : World, W = (w.alloc (Obj.cells #[Value.int IntKind.i64 m, Value.slice A m c] 29)) := ⟨_, rfl⟩
   have HB : Hid (From w W) := by rw [hW]; exact From.alloc _ _
   have HG : Hid (GBox W w.heap.size A m c r) := by rw [hW]; exact h.box
   have HW := Lib.hid hW
   clear hW h
   have e0 := HG.out.c0
   have e1 := HG.out.c1
   replace HO := Lib.hid (HO.out.keep HB.out.below)
   go_enter Tryz.func194, Tryz.ntmps194
   go_wp2_with fail
   rw [← HW.out]
   go_wp2
   go_ret2
   exact ⟨_, _, by rw [HS.out]; rfl, by rw [HS.out]; exact HO.out, HB.out.below⟩
 | succ j ih =>
   intro l Al cl w lo hlm hlt h hO hlo
   have IH := Lib.hid ih
   have hne : ((l.length : Int) == (m : Int)) = false := by simp; omega
   have hne2 : (l.length = m) = False := by simp; omega
   have hn7 := h.vg.n7
   have Hlm := Lib.hid hlm
   have Hlt := Lib.hid hlt
   have hl7 : l.length ≤ 6 := by omega
   have HO := Lib.hid hO
   clear ih hO hlm hlt
   obtain ⟨W, hW⟩ : ∃ W : World, W = (w.alloc (Obj.cells #[Value.int IntKind.i64 m, Value.slice A m c] 29)) := ⟨_, rfl⟩
   have HB : Hid (From w W) := by rw [hW]; exact From.alloc _ _
   have HG : Hid (GBox W w.heap.size A m c r) := by rw [hW]; exact h.box
   have HW := Lib.hid hW
   clear hW h
   have e0 := HG.out.c0
   have e1 := HG.out.c1
   replace HO := Lib.hid (HO.out.keep HB.out.below)
   have hz := HB.out.below.size
   have HR0 : Hid (From W W) := From.refl W
   go_enter Tryz.func194, Tryz.ntmps194
   go_wp2_with fail
   rw [← HW.out]
   go_wp2
   go_loopw [6] (fun i wr => ∃ v : Nat, v ≤ m ∧ i = .int .i64 v ∧ Hid (∀ u, u < v → atG m (umB r) (fun _ => true) j l u = none) ∧ Hid (From W wr)) (fun i _ => m - (intOf i).toNat)
   case atStart => exact ⟨0, Nat.zero_le _, rfl, (fun u hu => absurd hu (by omega)), HR0⟩
   case round =>
    clear HR0 e0 e1
    obtain ⟨v, hv, rfl, hall, HR⟩ := hrel
    by_cases hvm : v < m
    ·have i1 : (v : Int) < (m : Int) := by omega
     have HBr := Lib.hid (HB.out.up HR.out)
     have HGr := Lib.hid (HG.out.keep HR.out.below)
     have HOr := Lib.hid (HO.out.keep HR.out.below)
     have HLr : Hid (LN wr Al cl l) := HOr.out.ln
     have hzr := HBr.out.below.size
     have e0 := HGr.out.c0
     have e1 := HGr.out.c1
     go_wp2_with (first | (at_builtin; (refine wpList_copyN wr rfl _ _ rfl Al cl l HLr.out (by omega) wr.heap.size rfl rfl rfl ?_; intro A2 c2 w2 hO2 hb2)) | (at_builtin; (refine wpList_pushN w2 rfl _ _ rfl wr.heap.size w2.heap.size A2 c2 l hO2 hb2.size v rfl 1 w2.heap.size rfl rfl (by omega) ?_; intro g3 c3 w3 hO3 hb3; replace hb3 := hb2.trans hb3; clear hO2 hb2)))
     have HOx : Hid (ON wr.heap.size w3 (some ⟨g3, 0, none⟩) c3 (l ++ [v])) := ⟨by rw [List.length_append]; exact hO3⟩
     have HR3 := Lib.hid (HR.out.keep hb3)
     have HB3 := Lib.hid (HBr.out.keep hb3)
     have HG3 := Lib.hid (HGr.out.keep hb3)
     have HO3 := Lib.hid (HOr.out.keep hb3)
     have hla : (l ++ [v]).length = l.length + 1 := by rw [List.length_append]; rfl
     have Hla := Lib.hid hla
     clear hO3 hb3 HBr HGr HOr HLr HR e0 e1
     have e0 := HG3.out.c0
     have e1 := HG3.out.c1
     go_wp2_with fail
     refine (l8Has_s Al l.length cl l v w3 w3.heap.size ⟨rfl, HO3.out.ln.rd⟩ (by omega)).mono ?_
     rintro e w4 ⟨rfl, rfl⟩
     by_cases hvl : v ∈ l
     ·have Hno : Hid (atG m (umB r) (fun _ => true) j l v = none) := atG_no (okG_in hvl)
      rw [decide_eq_true hvl]
      clear hvl
      go_wp2
      go_roundw
      case rel =>
       refine ⟨v + 1, by omega, by go_num, fun u hu => ?_, HR3⟩
       by_cases huv : u < v
       ·exact hall.out u huv
       ·obtain rfl : u = v := by omega
        exact Hno.out
      case measure => (simp [intOf] <;> omega)
     ·have Hok : Hid (okG (umB r) l v = umB r (l ++ [v])) := okG_out hvl
      have Hlt2 : Hid (∀ u ∈ l ++ [v], u < m) := by
       intro u hu
       rw [List.mem_append, List.mem_singleton] at hu
       rcases hu with hu | rfl
       ·exact Hlt.out u hu
       ·exact hvm
      rw [decide_eq_false hvl]
      clear hvl
      have KU := Lib.hid (l12Umbrella_v HG3.out.gv HOx.out.ln Hlt2.out (by rw [Hla.out]; omega))
      rw [Hla.out] at KU
      go_wp2_with fail
      refine (KU.out).mono ?_
      rintro e w1 ⟨rfl, hb1⟩
      clear e0 e1
      replace HR3 := Lib.hid (HR3.out.keep hb1)
      replace HB3 := Lib.hid (HB3.out.keep hb1)
      replace HO3 := Lib.hid (HO3.out.keep hb1)
      replace HOx := Lib.hid (HOx.out.keep hb1)
      replace HG3 := Lib.hid (HG3.out.keep hb1)
      clear hb1
      have e0 := HG3.out.c0
      have e1 := HG3.out.c1
      cases hu : umB r (l ++ [v])
      ·have Hno : Hid (atG m (umB r) (fun _ => true) j l v = none) := atG_no (Hok.out.trans hu)
       clear hu
       go_wp2
       go_roundw
       case rel =>
        refine ⟨v + 1, by omega, by go_num, fun u hu => ?_, HR3⟩
        by_cases huv : u < v
        ·exact hall.out u huv
        ·obtain rfl : u = v := by omega
         exact Hno.out
       case measure => (simp [intOf] <;> omega)
      ·have Hyes : Hid (atG m (umB r) (fun _ => true) j l v = seaG m (umB r) (fun _ => true) j (l ++ [v])) := atG_yes (Hok.out.trans hu)
       have KI := Lib.hid (IH.out (l ++ [v]) (some ⟨g3, 0, none⟩) c3 w1 lo (by rw [Hla.out]; have := Hlm.out; omega) Hlt2.out HG3.out.gv (HOx.out.mono (by omega)) (by have := HB3.out.below.size; omega))
       rw [Hla.out] at KI
       obtain ⟨so, hso⟩ : ∃ so, so = seaG m (umB r) (fun _ => true) j (l ++ [v]) := ⟨_, rfl⟩
       have Hso := Lib.hid hso
       rw [← hso] at KI Hyes
       clear hu hso HO3
       go_wp2_with fail
       refine (KI.out).mono ?_
       rintro e w2 ⟨A5, c5, rfl, ho5, hb2⟩
       clear e0 e1
       replace HR3 := Lib.hid (HR3.out.keep hb2)
       replace HB3 := Lib.hid (HB3.out.keep hb2)
       replace HG3 := Lib.hid (HG3.out.keep hb2)
       clear hb2
       have e0 := HG3.out.c0
       have e1 := HG3.out.c1
       have HO5 := Lib.hid ho5
       clear ho5 KI
       cases so with
       | none =>
         go_wp2
         go_roundw
         case rel =>
          refine ⟨v + 1, by omega, by go_num, fun u hu => ?_, HR3⟩
          by_cases huv : u < v
          ·exact hall.out u huv
          ·obtain rfl : u = v := by omega
           exact Hyes.out
         case measure => (simp [intOf] <;> omega)
       | some x =>
         have Hs : Hid (seaG m (umB r) (fun _ => true) (j + 1) l = some x) := seaG_some hvm Hyes.out hall.out
         go_wp2
         go_ret2
         exact ⟨_, _, by rw [Hs.out]; rfl, by rw [Hs.out]; exact HO5.out, HB3.out.below⟩
    ·have Hn : Hid (seaG m (umB r) (fun _ => true) (j + 1) l = none) := seaG_none fun u hu => hall.out u (by omega)
     have i1 : (m : Int) ≤ (v : Int) := by omega
     have HBr := Lib.hid (HB.out.up HR.out)
     have HGr := Lib.hid (HG.out.keep HR.out.below)
     have e0 := HGr.out.c0
     have hzr := HBr.out.below.size
     have HON : Hid (ON wr.heap.size (wr.alloc (Obj.cells #[] 3)) (some ⟨wr.heap.size, 0, none⟩) 0 []) := ON.nil wr
     have HBz := Lib.hid (HBr.out.alloc_ (Obj.cells #[] 3))
     go_wp2
     go_ret2
     exact ⟨_, _, by rw [Hn.out]; rfl, by rw [Hn.out]; exact HON.out.mono (by omega), HBz.out.below⟩
section
variable {A : Option Addr} {m c : Nat} {r : Nat → Nat}
set_option maxRecDepth 100000 in
set_option maxHeartbeats 1600000 in
theorem UmbrellaOf_sv {w : World} (h : GV w A m c r) : Calls Tryz.prog 139 #[.agg #[.int .i64 m, .slice A m c]] w (lsQ w (umO r m)) := by
 obtain ⟨W, hW⟩ : ∃ W : World, W = (w.alloc (Obj.cells #[Value.int IntKind.i64 m, Value.slice A m c] 29)) := ⟨_, rfl⟩
 have HB : Hid (From w W) := by rw [hW]; exact From.alloc _ _
 have HG : Hid (GBox W w.heap.size A m c r) := by rw [hW]; exact h.box
 have HW := Lib.hid hW
 clear hW h
 have e0 := HG.out.c0
 have e1 := HG.out.c1
 have HZ : Hid (w.heap.size ≤ W.heap.size) := HB.out.below.size
 go_enter Tryz.func139, Tryz.ntmps139
 go_wp2_with fail
 rw [← HW.out]
 refine (IsGraph_sv HG.out.gv).mono ?_
 rintro e w1 ⟨rfl, hb1⟩
 clear HW
 clear e0 e1
 replace HB := Lib.hid (HB.out.keep hb1)
 replace HG := Lib.hid (HG.out.keep hb1)
 clear hb1
 have e0 := HG.out.c0
 have e1 := HG.out.c1
 have HZ1 : Hid (w.heap.size ≤ w1.heap.size) := HB.out.below.size
 have HON : Hid (ON w1.heap.size (w1.alloc (Obj.cells #[] 3)) (some ⟨w1.heap.size, 0, none⟩) 0 []) := ON.nil w1
 have HG2 : Hid (GBox (w1.alloc (Obj.cells #[] 3)) w.heap.size A m c r) := HG.out.keep ((Below.refl _ _).alloc (Nat.le_refl _) _)
 have HB2 : Hid (From w (w1.alloc (Obj.cells #[] 3))) := HB.out.alloc_ _
 have KI := Lib.hid (l12_s m [] (some ⟨w1.heap.size, 0, none⟩) 0 (w1.alloc (Obj.cells #[] 3)) w.heap.size (by simp) (fun v hv => by cases hv) HG2.out.gv (HON.out.mono HZ1.out) HB2.out.below.size)
 have HU : Hid (seaG m (umB r) (fun _ => true) m [] = umO r m) := rfl
 rw [HU.out] at KI
 clear HG2 HU
 go_wp2_with fail
 refine KI.out.mono ?_
 rintro e w2 ⟨A5, c5, rfl, ho5, hb5⟩
 have HO5 := Lib.hid ho5
 have HB5 : Hid (From w w2) := HB2.out.keep hb5
 clear ho5 hb5 KI HON HB2 e0 e1
 go_wp2
 go_ret2
 exact ⟨_, _, rfl, HO5.out, HB5.out.below⟩
end
section
variable (sz : Int) (A : Option Addr) (m c : Nat) (x : Nat → Int) (w : World)
set_option maxRecDepth 100000 in
set_option maxHeartbeats 1600000 in
theorem UmbrellaOf_sno (h : GA w A m c x) (hm : m ≤ 1048576) (hok : okB sz m x = false) :
 Calls Tryz.prog 139 #[.agg #[.int .i64 sz, .slice A m c]] w (lsQ w none) := by
 obtain ⟨W, hW⟩ : ∃ W : World, W = (w.alloc (Obj.cells #[Value.int IntKind.i64 sz, Value.slice A m c] 29)) := ⟨_, rfl⟩
 have HB : Hid (From w W) := by rw [hW]; exact From.alloc _ _
 have HK := Lib.hid (h.keep HB.out.below)
 have HC : Hid (GC W w.heap.size sz A m c) := by rw [hW]; exact GC.new _ _ _ _ _
 have HW := Lib.hid hW
 have Ho := Lib.hid hok
 clear hW h hok
 go_enter Tryz.func139, Tryz.ntmps139
 have e0 := HC.out.c0
 have e1 := HC.out.c1
 go_wp2_with fail
 rw [← HW.out]
 clear HW
 refine (IsGraph_sany sz A m c x W W.heap.size HK.out.rd (Nat.le_refl _) hm).mono ?_
 rintro e w1 ⟨rfl, hb1⟩
 rw [Ho.out]
 clear e0 e1
 replace HB := Lib.hid (HB.out.keep hb1)
 replace HK := Lib.hid (HK.out.keep hb1)
 replace HC := Lib.hid (HC.out.keep hb1)
 clear hb1
 have e0 := HC.out.c0
 have e1 := HC.out.c1
 have HZ1 : Hid (w.heap.size ≤ w1.heap.size) := HB.out.below.size
 have HON : Hid (ON w1.heap.size (w1.alloc (Obj.cells #[] 3)) (some ⟨w1.heap.size, 0, none⟩) 0 []) := ON.nil w1
 have HB2 : Hid (From w (w1.alloc (Obj.cells #[] 3))) := HB.out.alloc_ _
 go_wp2
 go_ret2
 exact ⟨_, _, rfl, HON.out.mono HZ1.out, HB2.out.below⟩
set_option maxRecDepth 100000 in
set_option maxHeartbeats 1600000 in
theorem IsProper_s (h : GA w A m c x) (hm : m ≤ 1048576) :
 Calls Tryz.prog 75 #[.agg #[.int .i64 sz, .slice A m c]] w fun e w' => e = .returned (.bool (ppB sz m x)) ∧ Below w.heap.size w w' := by
 obtain ⟨W, hW⟩ : ∃ W : World, W = (w.alloc (Obj.cells #[Value.int IntKind.i64 sz, Value.slice A m c] 29)) := ⟨_, rfl⟩
 have HB : Hid (From w W) := by rw [hW]; exact From.alloc _ _
 have HK := Lib.hid (h.keep HB.out.below)
 have HC : Hid (GC W w.heap.size sz A m c) := by rw [hW]; exact GC.new _ _ _ _ _
 have HW := Lib.hid hW
 clear hW h
 go_enter Tryz.func75, Tryz.ntmps75
 cases ho : okB sz m x
 ·have Hn : Hid (ppB sz m x = false) := ppB_no ho
  have KF := Lib.hid (UmbrellaOf_sno sz A m c x W HK.out hm ho)
  clear ho
  have e0 := HC.out.c0
  have e1 := HC.out.c1
  go_wp2_with fail
  rw [← HW.out]
  refine (KF.out).mono ?_
  rintro e w1 ⟨A', c', rfl, _, hb1⟩
  clear HW
  clear e0 e1
  replace HB := Lib.hid (HB.out.keep hb1)
  replace HK := Lib.hid (HK.out.keep hb1)
  replace HC := Lib.hid (HC.out.keep hb1)
  clear hb1
  have e0 := HC.out.c0
  have e1 := HC.out.c1
  clear KF
  go_wp2
  go_ret
  exact ⟨ret_bool Hn.out.symm, HB.out.below⟩
 obtain ⟨_, es, _, _⟩ := okB_ok' ho
 subst es
 have Hn : Hid (ppB (m : Int) m x = (umO (rw_ x) m).isSome) := ppB_yes ho
 have HG : Hid (GBox W w.heap.size A m c (rw_ x)) := ⟨HK.out.gv ho, HC.out.c0, HC.out.c1, HC.out.lt⟩
 have KF := Lib.hid (UmbrellaOf_sv HG.out.gv)
 obtain ⟨o, ho2⟩ : ∃ o, o = umO (rw_ x) m := ⟨_, rfl⟩
 rw [← ho2] at Hn KF
 clear ho ho2 HC HK
 cases o
 ·skip
  have e0 := HG.out.c0
  have e1 := HG.out.c1
  go_wp2_with fail
  rw [← HW.out]
  refine (KF.out).mono ?_
  rintro e w2 ⟨A', c', rfl, _, hb2⟩
  clear HW
  clear e0 e1
  replace HB := Lib.hid (HB.out.keep hb2)
  replace HG := Lib.hid (HG.out.keep hb2)
  clear hb2
  have e0 := HG.out.c0
  have e1 := HG.out.c1
  clear KF
  go_wp2
  go_ret
  exact ⟨ret_bool Hn.out.symm, HB.out.below⟩
 ·skip
  have e0 := HG.out.c0
  have e1 := HG.out.c1
  go_wp2_with fail
  rw [← HW.out]
  refine (KF.out).mono ?_
  rintro e w3 ⟨A', c', rfl, _, hb3⟩
  clear HW
  clear e0 e1
  replace HB := Lib.hid (HB.out.keep hb3)
  replace HG := Lib.hid (HG.out.keep hb3)
  clear hb3
  have e0 := HG.out.c0
  have e1 := HG.out.c1
  clear KF
  go_wp2
  go_ret
  exact ⟨ret_bool Hn.out.symm, HB.out.below⟩
end
end Go.Proofs.YtppkokgiojcgbaaGreatDoor
