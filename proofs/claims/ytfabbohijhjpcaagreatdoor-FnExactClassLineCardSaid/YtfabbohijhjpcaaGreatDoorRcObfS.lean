/-
-/
import Derived.Test.YtfabbohijhjpcaaGreatDoorRcObfI
import Derived.Test.YtfabbohijhjpcaaGreatDoorRcCmbS
import Derived.Test.YtfabbohijhjpcaaGreatDoorRcOdcS
namespace Go.Proofs.YtfabbohijhjpcaaGreatDoor
open Go.RowKit
theorem FindHole_sa (sz : Int) (A : Option Addr) (m c : Nat) (x : Nat → Int) (w : World) (h : GA w A m c x) (hm : m ≤ 1048576) :
 Calls Tryz.prog 124 #[.agg #[.int .i64 sz, .slice A m c]] w (lsQ w (gO sz m x holeO)) := by
 cases ho : okB sz m x
 ·rw [gO_no ho]; exact FindHole_sno sz A m c x w h hm ho
 ·obtain ⟨_, es, _, _⟩ := okB_ok' ho
  subst es
  rw [gO_yes ho]; exact FindHole_sv (h.gv ho)
theorem IntervalObstacle_sa (sz : Int) (A : Option Addr) (m c : Nat) (x : Nat → Int) (w : World) (h : GA w A m c x) (hm : m ≤ 1048576) :
 Calls Tryz.prog 125 #[.agg #[.int .i64 sz, .slice A m c]] w (lsQ w (gO sz m x ioO)) := by
 cases ho : okB sz m x
 ·rw [gO_no ho]; exact IntervalObstacle_sno sz A m c x w h hm ho
 ·obtain ⟨_, es, _, _⟩ := okB_ok' ho
  subst es
  rw [gO_yes ho]; exact IntervalObstacle_sv (h.gv ho)
theorem ProperObstacle_sa (sz : Int) (A : Option Addr) (m c : Nat) (x : Nat → Int) (w : World) (h : GA w A m c x) (hm : m ≤ 1048576) :
 Calls Tryz.prog 126 #[.agg #[.int .i64 sz, .slice A m c]] w (lsQ w (gO sz m x poO)) := by
 cases ho : okB sz m x
 ·rw [gO_no ho]; exact ProperObstacle_sno sz A m c x w h hm ho
 ·obtain ⟨_, es, _, _⟩ := okB_ok' ho
  subst es
  rw [gO_yes ho]; exact ProperObstacle_sv (h.gv ho)
theorem FindPathOfFour_sa (sz : Int) (A : Option Addr) (m c : Nat) (x : Nat → Int) (w : World) (h : GA w A m c x) (hm : m ≤ 1048576) :
 Calls Tryz.prog 110 #[.agg #[.int .i64 sz, .slice A m c]] w (lsQ w (gO sz m x p4O)) := by
 cases ho : okB sz m x
 ·rw [gO_no ho]; exact FindPathOfFour_sno sz A m c x w h hm ho
 ·obtain ⟨_, es, _, _⟩ := okB_ok' ho
  subst es
  rw [gO_yes ho]; exact FindPathOfFour_sv (h.gv ho)
theorem SplitObstacle_sa (sz : Int) (A : Option Addr) (m c : Nat) (x : Nat → Int) (w : World) (h : GA w A m c x) (hm : m ≤ 1048576) :
 Calls Tryz.prog 127 #[.agg #[.int .i64 sz, .slice A m c]] w (lsQ w (gO sz m x soO)) := by
 cases ho : okB sz m x
 ·rw [gO_no ho]; exact SplitObstacle_sno sz A m c x w h hm ho
 ·obtain ⟨_, es, _, _⟩ := okB_ok' ho
  subst es
  rw [gO_yes ho]; exact SplitObstacle_sv (h.gv ho)
theorem ThresholdObstacle_sa (sz : Int) (A : Option Addr) (m c : Nat) (x : Nat → Int) (w : World) (h : GA w A m c x) (hm : m ≤ 1048576) :
 Calls Tryz.prog 128 #[.agg #[.int .i64 sz, .slice A m c]] w (lsQ w (gO sz m x fhO)) := by
 cases ho : okB sz m x
 ·rw [gO_no ho]; exact ThresholdObstacle_sno sz A m c x w h hm ho
 ·obtain ⟨_, es, _, _⟩ := okB_ok' ho
  subst es
  rw [gO_yes ho]; exact ThresholdObstacle_sv (h.gv ho)
theorem FindOddCycle_sa (sz : Int) (A : Option Addr) (m c : Nat) (x : Nat → Int) (w : World) (h : GA w A m c x) (hm : m ≤ 1048576) :
 Calls Tryz.prog 129 #[.agg #[.int .i64 sz, .slice A m c]] w (lsQ w (gO sz m x oddcO)) := by
 cases ho : okB sz m x
 ·rw [gO_no ho]; exact FindOddCycle_sno sz A m c x w h hm ho
 ·obtain ⟨_, es, _, _⟩ := okB_ok' ho
  subst es
  rw [gO_yes ho]; exact FindOddCycle_sv (h.gv ho)
theorem StrongObstacle_sa (sz : Int) (A : Option Addr) (m c : Nat) (x : Nat → Int) (w : World) (h : GA w A m c x) (hm : m ≤ 1048576) :
 Calls Tryz.prog 130 #[.agg #[.int .i64 sz, .slice A m c]] w (lsQ w (gO sz m x sgO)) := by
 cases ho : okB sz m x
 ·rw [gO_no ho]; exact StrongObstacle_sno sz A m c x w h hm ho
 ·obtain ⟨_, es, _, _⟩ := okB_ok' ho
  subst es
  rw [gO_yes ho]; exact StrongObstacle_sv (h.gv ho)
theorem PerfectObstacle_sa (sz : Int) (A : Option Addr) (m c : Nat) (x : Nat → Int) (w : World) (h : GA w A m c x) (hm : m ≤ 1048576) :
 Calls Tryz.prog 131 #[.agg #[.int .i64 sz, .slice A m c]] w (lsQ w (gO sz m x pfcO)) := by
 cases ho : okB sz m x
 ·rw [gO_no ho]; exact PerfectObstacle_sno sz A m c x w h hm ho
 ·obtain ⟨_, es, _, _⟩ := okB_ok' ho
  subst es
  rw [gO_yes ho]; exact PerfectObstacle_sv (h.gv ho)
set_option maxRecDepth 100000 in
set_option maxHeartbeats 6400000 in
theorem ObstacleFor_s (sz : Int) (A : Option Addr) (m c : Nat) (x : Nat → Int) (str : ByteArray) (w : World) (h : GA w A m c x) (hm : m ≤ 1048576) :
 Calls Tryz.prog 72 #[.agg #[.int .i64 sz, .slice A m c], .string str] w (lsQ w (obO sz m x str.toList)) := by
 obtain ⟨W, hW⟩ : ∃ W : World, W = (w.alloc (Obj.cells #[Value.int IntKind.i64 sz, Value.slice A m c] 26)).alloc (Obj.cells #[] 3) := ⟨_, rfl⟩
 have HB : Hid (From w W) := by rw [hW]; exact (From.alloc _ _).alloc_ _
 have HK := Lib.hid (h.keep HB.out.below)
 have HC : Hid (GC W w.heap.size sz A m c) := by rw [hW]; exact (GC.new _ _ _ _ _).keep ((Below.refl _ _).alloc (Nat.le_refl _) _)
 have HZ : Hid (w.heap.size ≤ W.heap.size) := HB.out.below.size
 have HO : Hid (ON w.heap.size W (some ⟨w.heap.size + 1, 0, none⟩) 0 []) := by
  rw [hW]
  have := ON.nil (w.alloc (Obj.cells #[Value.int IntKind.i64 sz, Value.slice A m c] 26))
  have e : (w.alloc (Obj.cells #[Value.int IntKind.i64 sz, Value.slice A m c] 26)).heap.size = w.heap.size + 1 := by simp
  rw [e] at this
  exact this.mono (by omega)
 have HW := Lib.hid hW
 have HR : Hid (obO sz m x str.toList = obO sz m x str.toList) := rfl
 clear hW h
 by_cases e0 : str.toList = [99, 104, 111, 114, 100, 97, 108]
 ·have r : Hid (obO sz m x str.toList = gO sz m x holeO) := by show _ = _; unfold obO; rw [if_pos e0]
  have f0 : (str.toList == [99, 104, 111, 114, 100, 97, 108]) = true := by simpa using e0
  clear HR e0
  rw [r.out]
  go_enter Tryz.func72, Tryz.ntmps72
  have e0 := HC.out.c0
  have e1 := HC.out.c1
  go_wp2_with fail
  rw [← HW.out]
  refine (FindHole_sa sz A m c x W HK.out hm).mono ?_
  rintro e w1 ⟨A1, c1, rfl, ho1, hb1⟩
  clear HW
  clear e0 e1
  replace HB := Lib.hid (HB.out.keep hb1)
  replace HK := Lib.hid (HK.out.keep hb1)
  replace HC := Lib.hid (HC.out.keep hb1)
  clear hb1
  have e0 := HC.out.c0
  have e1 := HC.out.c1
  have HO1 := Lib.hid (ho1.mono HZ.out)
  clear ho1
  go_wp2
  go_ret2
  exact ⟨A1, c1, rfl, HO1.out, HB.out.below⟩
 by_cases e1 : str.toList = [105, 110, 116, 101, 114, 118, 97, 108]
 ·have r : Hid (obO sz m x str.toList = gO sz m x ioO) := by show _ = _; unfold obO; rw [if_neg e0, if_pos e1]
  have f0 : (str.toList == [99, 104, 111, 114, 100, 97, 108]) = false := by simpa using e0
  have f1 : (str.toList == [105, 110, 116, 101, 114, 118, 97, 108]) = true := by simpa using e1
  clear HR e0 e1
  rw [r.out]
  go_enter Tryz.func72, Tryz.ntmps72
  have e0 := HC.out.c0
  have e1 := HC.out.c1
  go_wp2_with fail
  rw [← HW.out]
  refine (IntervalObstacle_sa sz A m c x W HK.out hm).mono ?_
  rintro e w2 ⟨A1, c1, rfl, ho1, hb2⟩
  clear HW
  clear e0 e1
  replace HB := Lib.hid (HB.out.keep hb2)
  replace HK := Lib.hid (HK.out.keep hb2)
  replace HC := Lib.hid (HC.out.keep hb2)
  clear hb2
  have e0 := HC.out.c0
  have e1 := HC.out.c1
  have HO1 := Lib.hid (ho1.mono HZ.out)
  clear ho1
  go_wp2
  go_ret2
  exact ⟨A1, c1, rfl, HO1.out, HB.out.below⟩
 by_cases e2 : str.toList = [112, 114, 111, 112, 101, 114]
 ·have r : Hid (obO sz m x str.toList = gO sz m x poO) := by show _ = _; unfold obO; rw [if_neg e0, if_neg e1, if_pos e2]
  have f0 : (str.toList == [99, 104, 111, 114, 100, 97, 108]) = false := by simpa using e0
  have f1 : (str.toList == [105, 110, 116, 101, 114, 118, 97, 108]) = false := by simpa using e1
  have f2 : (str.toList == [112, 114, 111, 112, 101, 114]) = true := by simpa using e2
  clear HR e0 e1 e2
  rw [r.out]
  go_enter Tryz.func72, Tryz.ntmps72
  have e0 := HC.out.c0
  have e1 := HC.out.c1
  go_wp2_with fail
  rw [← HW.out]
  refine (ProperObstacle_sa sz A m c x W HK.out hm).mono ?_
  rintro e w3 ⟨A1, c1, rfl, ho1, hb3⟩
  clear HW
  clear e0 e1
  replace HB := Lib.hid (HB.out.keep hb3)
  replace HK := Lib.hid (HK.out.keep hb3)
  replace HC := Lib.hid (HC.out.keep hb3)
  clear hb3
  have e0 := HC.out.c0
  have e1 := HC.out.c1
  have HO1 := Lib.hid (ho1.mono HZ.out)
  clear ho1
  go_wp2
  go_ret2
  exact ⟨A1, c1, rfl, HO1.out, HB.out.below⟩
 by_cases e3 : str.toList = [99, 111, 103, 114, 97, 112, 104]
 ·have r : Hid (obO sz m x str.toList = gO sz m x p4O) := by show _ = _; unfold obO; rw [if_neg e0, if_neg e1, if_neg e2, if_pos e3]
  have f0 : (str.toList == [99, 104, 111, 114, 100, 97, 108]) = false := by simpa using e0
  have f1 : (str.toList == [105, 110, 116, 101, 114, 118, 97, 108]) = false := by simpa using e1
  have f2 : (str.toList == [112, 114, 111, 112, 101, 114]) = false := by simpa using e2
  have f3 : (str.toList == [99, 111, 103, 114, 97, 112, 104]) = true := by simpa using e3
  clear HR e0 e1 e2 e3
  rw [r.out]
  go_enter Tryz.func72, Tryz.ntmps72
  have e0 := HC.out.c0
  have e1 := HC.out.c1
  go_wp2_with fail
  rw [← HW.out]
  refine (FindPathOfFour_sa sz A m c x W HK.out hm).mono ?_
  rintro e w4 ⟨A1, c1, rfl, ho1, hb4⟩
  clear HW
  clear e0 e1
  replace HB := Lib.hid (HB.out.keep hb4)
  replace HK := Lib.hid (HK.out.keep hb4)
  replace HC := Lib.hid (HC.out.keep hb4)
  clear hb4
  have e0 := HC.out.c0
  have e1 := HC.out.c1
  have HO1 := Lib.hid (ho1.mono HZ.out)
  clear ho1
  go_wp2
  go_ret2
  exact ⟨A1, c1, rfl, HO1.out, HB.out.below⟩
 by_cases e4 : str.toList = [115, 112, 108, 105, 116]
 ·have r : Hid (obO sz m x str.toList = gO sz m x soO) := by show _ = _; unfold obO; rw [if_neg e0, if_neg e1, if_neg e2, if_neg e3, if_pos e4]
  have f0 : (str.toList == [99, 104, 111, 114, 100, 97, 108]) = false := by simpa using e0
  have f1 : (str.toList == [105, 110, 116, 101, 114, 118, 97, 108]) = false := by simpa using e1
  have f2 : (str.toList == [112, 114, 111, 112, 101, 114]) = false := by simpa using e2
  have f3 : (str.toList == [99, 111, 103, 114, 97, 112, 104]) = false := by simpa using e3
  have f4 : (str.toList == [115, 112, 108, 105, 116]) = true := by simpa using e4
  clear HR e0 e1 e2 e3 e4
  rw [r.out]
  go_enter Tryz.func72, Tryz.ntmps72
  have e0 := HC.out.c0
  have e1 := HC.out.c1
  go_wp2_with fail
  rw [← HW.out]
  refine (SplitObstacle_sa sz A m c x W HK.out hm).mono ?_
  rintro e w5 ⟨A1, c1, rfl, ho1, hb5⟩
  clear HW
  clear e0 e1
  replace HB := Lib.hid (HB.out.keep hb5)
  replace HK := Lib.hid (HK.out.keep hb5)
  replace HC := Lib.hid (HC.out.keep hb5)
  clear hb5
  have e0 := HC.out.c0
  have e1 := HC.out.c1
  have HO1 := Lib.hid (ho1.mono HZ.out)
  clear ho1
  go_wp2
  go_ret2
  exact ⟨A1, c1, rfl, HO1.out, HB.out.below⟩
 by_cases e5 : str.toList = [116, 104, 114, 101, 115, 104, 111, 108, 100]
 ·have r : Hid (obO sz m x str.toList = gO sz m x fhO) := by show _ = _; unfold obO; rw [if_neg e0, if_neg e1, if_neg e2, if_neg e3, if_neg e4, if_pos e5]
  have f0 : (str.toList == [99, 104, 111, 114, 100, 97, 108]) = false := by simpa using e0
  have f1 : (str.toList == [105, 110, 116, 101, 114, 118, 97, 108]) = false := by simpa using e1
  have f2 : (str.toList == [112, 114, 111, 112, 101, 114]) = false := by simpa using e2
  have f3 : (str.toList == [99, 111, 103, 114, 97, 112, 104]) = false := by simpa using e3
  have f4 : (str.toList == [115, 112, 108, 105, 116]) = false := by simpa using e4
  have f5 : (str.toList == [116, 104, 114, 101, 115, 104, 111, 108, 100]) = true := by simpa using e5
  clear HR e0 e1 e2 e3 e4 e5
  rw [r.out]
  go_enter Tryz.func72, Tryz.ntmps72
  have e0 := HC.out.c0
  have e1 := HC.out.c1
  go_wp2_with fail
  rw [← HW.out]
  refine (ThresholdObstacle_sa sz A m c x W HK.out hm).mono ?_
  rintro e w6 ⟨A1, c1, rfl, ho1, hb6⟩
  clear HW
  clear e0 e1
  replace HB := Lib.hid (HB.out.keep hb6)
  replace HK := Lib.hid (HK.out.keep hb6)
  replace HC := Lib.hid (HC.out.keep hb6)
  clear hb6
  have e0 := HC.out.c0
  have e1 := HC.out.c1
  have HO1 := Lib.hid (ho1.mono HZ.out)
  clear ho1
  go_wp2
  go_ret2
  exact ⟨A1, c1, rfl, HO1.out, HB.out.below⟩
 by_cases e6 : str.toList = [98, 105, 112, 97, 114, 116, 105, 116, 101]
 ·have r : Hid (obO sz m x str.toList = gO sz m x oddcO) := by show _ = _; unfold obO; rw [if_neg e0, if_neg e1, if_neg e2, if_neg e3, if_neg e4, if_neg e5, if_pos e6]
  have f0 : (str.toList == [99, 104, 111, 114, 100, 97, 108]) = false := by simpa using e0
  have f1 : (str.toList == [105, 110, 116, 101, 114, 118, 97, 108]) = false := by simpa using e1
  have f2 : (str.toList == [112, 114, 111, 112, 101, 114]) = false := by simpa using e2
  have f3 : (str.toList == [99, 111, 103, 114, 97, 112, 104]) = false := by simpa using e3
  have f4 : (str.toList == [115, 112, 108, 105, 116]) = false := by simpa using e4
  have f5 : (str.toList == [116, 104, 114, 101, 115, 104, 111, 108, 100]) = false := by simpa using e5
  have f6 : (str.toList == [98, 105, 112, 97, 114, 116, 105, 116, 101]) = true := by simpa using e6
  clear HR e0 e1 e2 e3 e4 e5 e6
  rw [r.out]
  go_enter Tryz.func72, Tryz.ntmps72
  have e0 := HC.out.c0
  have e1 := HC.out.c1
  go_wp2_with fail
  rw [← HW.out]
  refine (FindOddCycle_sa sz A m c x W HK.out hm).mono ?_
  rintro e w7 ⟨A1, c1, rfl, ho1, hb7⟩
  clear HW
  clear e0 e1
  replace HB := Lib.hid (HB.out.keep hb7)
  replace HK := Lib.hid (HK.out.keep hb7)
  replace HC := Lib.hid (HC.out.keep hb7)
  clear hb7
  have e0 := HC.out.c0
  have e1 := HC.out.c1
  have HO1 := Lib.hid (ho1.mono HZ.out)
  clear ho1
  go_wp2
  go_ret2
  exact ⟨A1, c1, rfl, HO1.out, HB.out.below⟩
 by_cases e7 : str.toList = [115, 116, 114, 111, 110, 103]
 ·have r : Hid (obO sz m x str.toList = gO sz m x sgO) := by show _ = _; unfold obO; rw [if_neg e0, if_neg e1, if_neg e2, if_neg e3, if_neg e4, if_neg e5, if_neg e6, if_pos e7]
  have f0 : (str.toList == [99, 104, 111, 114, 100, 97, 108]) = false := by simpa using e0
  have f1 : (str.toList == [105, 110, 116, 101, 114, 118, 97, 108]) = false := by simpa using e1
  have f2 : (str.toList == [112, 114, 111, 112, 101, 114]) = false := by simpa using e2
  have f3 : (str.toList == [99, 111, 103, 114, 97, 112, 104]) = false := by simpa using e3
  have f4 : (str.toList == [115, 112, 108, 105, 116]) = false := by simpa using e4
  have f5 : (str.toList == [116, 104, 114, 101, 115, 104, 111, 108, 100]) = false := by simpa using e5
  have f6 : (str.toList == [98, 105, 112, 97, 114, 116, 105, 116, 101]) = false := by simpa using e6
  have f7 : (str.toList == [115, 116, 114, 111, 110, 103]) = true := by simpa using e7
  clear HR e0 e1 e2 e3 e4 e5 e6 e7
  rw [r.out]
  go_enter Tryz.func72, Tryz.ntmps72
  have e0 := HC.out.c0
  have e1 := HC.out.c1
  go_wp2_with fail
  rw [← HW.out]
  refine (StrongObstacle_sa sz A m c x W HK.out hm).mono ?_
  rintro e w8 ⟨A1, c1, rfl, ho1, hb8⟩
  clear HW
  clear e0 e1
  replace HB := Lib.hid (HB.out.keep hb8)
  replace HK := Lib.hid (HK.out.keep hb8)
  replace HC := Lib.hid (HC.out.keep hb8)
  clear hb8
  have e0 := HC.out.c0
  have e1 := HC.out.c1
  have HO1 := Lib.hid (ho1.mono HZ.out)
  clear ho1
  go_wp2
  go_ret2
  exact ⟨A1, c1, rfl, HO1.out, HB.out.below⟩
 by_cases e8 : str.toList = [112, 101, 114, 102, 101, 99, 116]
 ·have r : Hid (obO sz m x str.toList = gO sz m x pfcO) := by show _ = _; unfold obO; rw [if_neg e0, if_neg e1, if_neg e2, if_neg e3, if_neg e4, if_neg e5, if_neg e6, if_neg e7, if_pos e8]
  have f0 : (str.toList == [99, 104, 111, 114, 100, 97, 108]) = false := by simpa using e0
  have f1 : (str.toList == [105, 110, 116, 101, 114, 118, 97, 108]) = false := by simpa using e1
  have f2 : (str.toList == [112, 114, 111, 112, 101, 114]) = false := by simpa using e2
  have f3 : (str.toList == [99, 111, 103, 114, 97, 112, 104]) = false := by simpa using e3
  have f4 : (str.toList == [115, 112, 108, 105, 116]) = false := by simpa using e4
  have f5 : (str.toList == [116, 104, 114, 101, 115, 104, 111, 108, 100]) = false := by simpa using e5
  have f6 : (str.toList == [98, 105, 112, 97, 114, 116, 105, 116, 101]) = false := by simpa using e6
  have f7 : (str.toList == [115, 116, 114, 111, 110, 103]) = false := by simpa using e7
  have f8 : (str.toList == [112, 101, 114, 102, 101, 99, 116]) = true := by simpa using e8
  clear HR e0 e1 e2 e3 e4 e5 e6 e7 e8
  rw [r.out]
  go_enter Tryz.func72, Tryz.ntmps72
  have e0 := HC.out.c0
  have e1 := HC.out.c1
  go_wp2_with fail
  rw [← HW.out]
  refine (PerfectObstacle_sa sz A m c x W HK.out hm).mono ?_
  rintro e w9 ⟨A1, c1, rfl, ho1, hb9⟩
  clear HW
  clear e0 e1
  replace HB := Lib.hid (HB.out.keep hb9)
  replace HK := Lib.hid (HK.out.keep hb9)
  replace HC := Lib.hid (HC.out.keep hb9)
  clear hb9
  have e0 := HC.out.c0
  have e1 := HC.out.c1
  have HO1 := Lib.hid (ho1.mono HZ.out)
  clear ho1
  go_wp2
  go_ret2
  exact ⟨A1, c1, rfl, HO1.out, HB.out.below⟩
 have r : Hid (obO sz m x str.toList = none) := by show _ = _; unfold obO; rw [if_neg e0, if_neg e1, if_neg e2, if_neg e3, if_neg e4, if_neg e5, if_neg e6, if_neg e7, if_neg e8]
 have f0 : (str.toList == [99, 104, 111, 114, 100, 97, 108]) = false := by simpa using e0
 have f1 : (str.toList == [105, 110, 116, 101, 114, 118, 97, 108]) = false := by simpa using e1
 have f2 : (str.toList == [112, 114, 111, 112, 101, 114]) = false := by simpa using e2
 have f3 : (str.toList == [99, 111, 103, 114, 97, 112, 104]) = false := by simpa using e3
 have f4 : (str.toList == [115, 112, 108, 105, 116]) = false := by simpa using e4
 have f5 : (str.toList == [116, 104, 114, 101, 115, 104, 111, 108, 100]) = false := by simpa using e5
 have f6 : (str.toList == [98, 105, 112, 97, 114, 116, 105, 116, 101]) = false := by simpa using e6
 have f7 : (str.toList == [115, 116, 114, 111, 110, 103]) = false := by simpa using e7
 have f8 : (str.toList == [112, 101, 114, 102, 101, 99, 116]) = false := by simpa using e8
 clear e0 e1 e2 e3 e4 e5 e6 e7 e8
 rw [r.out]
 go_enter Tryz.func72, Tryz.ntmps72
 go_wp2
 rw [← HW.out]
 go_ret2
 exact ⟨_, _, rfl, HO.out, HB.out.below⟩
end Go.Proofs.YtfabbohijhjpcaaGreatDoor
