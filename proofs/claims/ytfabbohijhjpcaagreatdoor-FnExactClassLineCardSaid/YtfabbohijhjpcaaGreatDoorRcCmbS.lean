/-
-/
import Derived.Test.YtfabbohijhjpcaaGreatDoorRcCmbI
import Derived.Test.YtfabbohijhjpcaaGreatDoorRcHolS
import Derived.Test.YtfabbohijhjpcaaGreatDoorRcFouS
import Derived.Test.YtfabbohijhjpcaaGreatDoorRcSunS
import Derived.Test.YtfabbohijhjpcaaGreatDoorRcAntS
namespace Go.Proofs.YtfabbohijhjpcaaGreatDoor
open Go.RowKit
set_option maxRecDepth 100000 in
set_option maxHeartbeats 1600000 in
theorem IntervalObstacle_sv {A : Option Addr} {m c : Nat} {r : Nat → Nat} {w : World} (h : GV w A m c r) : Calls Tryz.prog 125 #[.agg #[.int .i64 m, .slice A m c]] w (lsQ w (ioO r m)) := by
 obtain ⟨W, hW⟩ : ∃ W : World, W = (w.alloc (Obj.cells #[Value.int IntKind.i64 m, Value.slice A m c] 26)) := ⟨_, rfl⟩
 have HB : Hid (From w W) := by rw [hW]; exact From.alloc _ _
 have HG : Hid (GBox W w.heap.size A m c r) := by rw [hW]; exact h.box
 have HW := Lib.hid hW
 clear hW h
 have e0 := HG.out.c0
 have e1 := HG.out.c1
 have HZ : Hid (w.heap.size ≤ W.heap.size) := HB.out.below.size
 have K1 := Lib.hid (FindHole_sv HG.out.gv)
 have HD : Hid (ioO r m = (holeO r m).or (triO r m)) := rfl
 rw [HD.out]
 obtain ⟨o1, h1⟩ : ∃ o, o = holeO r m := ⟨_, rfl⟩
 rw [← h1] at K1 ⊢
 clear h1 HD
 go_enter Tryz.func125, Tryz.ntmps125
 go_wp2_with fail
 rw [← HW.out]
 refine (K1.out).mono ?_
 rintro e w1 ⟨A1, c1, rfl, ho1, hb1⟩
 clear HW
 clear e0 e1
 replace HB := Lib.hid (HB.out.keep hb1)
 replace HG := Lib.hid (HG.out.keep hb1)
 clear hb1
 have e0 := HG.out.c0
 have e1 := HG.out.c1
 have HO1 := Lib.hid (ho1.mono HZ.out)
 clear ho1 K1
 cases o1 with
 | none =>
   clear HO1
   have HZ1 : Hid (w.heap.size ≤ w1.heap.size) := HB.out.below.size
   have K2 := Lib.hid (FindTriple_sv HG.out.gv)
   go_wp2_with fail
   refine (K2.out).mono ?_
   rintro e w2 ⟨A2, c2, rfl, ho2, hb2⟩
   clear e0 e1
   replace HB := Lib.hid (HB.out.keep hb2)
   replace HG := Lib.hid (HG.out.keep hb2)
   clear hb2
   have e0 := HG.out.c0
   have e1 := HG.out.c1
   have HO2 := Lib.hid (ho2.mono HZ1.out)
   clear ho2 K2
   go_wp2
   go_ret2
   exact ⟨A2, c2, rfl, HO2.out, HB.out.below⟩
 | some l =>
   go_wp2
   go_ret2
   exact lsQ.yes HO1.out HB.out.below
set_option maxRecDepth 100000 in
set_option maxHeartbeats 1600000 in
theorem IntervalObstacle_sno (sz : Int) (A : Option Addr) (m c : Nat) (x : Nat → Int) (w : World) (h : GA w A m c x) (hm : m ≤ 1048576) (hok : okB sz m x = false) :
 Calls Tryz.prog 125 #[.agg #[.int .i64 sz, .slice A m c]] w (lsQ w none) := by
 obtain ⟨W, hW⟩ : ∃ W : World, W = (w.alloc (Obj.cells #[Value.int IntKind.i64 sz, Value.slice A m c] 26)) := ⟨_, rfl⟩
 have HB : Hid (From w W) := by rw [hW]; exact From.alloc _ _
 have HK := Lib.hid (h.keep HB.out.below)
 have HC : Hid (GC W w.heap.size sz A m c) := by rw [hW]; exact GC.new _ _ _ _ _
 have HW := Lib.hid hW
 have K1 := Lib.hid (FindHole_sno sz A m c x W HK.out hm hok)
 have Hok := Lib.hid hok
 clear hW h hok
 go_enter Tryz.func125, Tryz.ntmps125
 have e0 := HC.out.c0
 have e1 := HC.out.c1
 go_wp2_with fail
 rw [← HW.out]
 refine (K1.out).mono ?_
 rintro e w1 ⟨A1, c1, rfl, _, hb1⟩
 clear HW
 clear e0 e1
 replace HB := Lib.hid (HB.out.keep hb1)
 replace HK := Lib.hid (HK.out.keep hb1)
 replace HC := Lib.hid (HC.out.keep hb1)
 clear hb1
 have e0 := HC.out.c0
 have e1 := HC.out.c1
 clear K1
 have HZ1 : Hid (w.heap.size ≤ w1.heap.size) := HB.out.below.size
 have K2 := Lib.hid (FindTriple_sno sz A m c x w1 HK.out hm Hok.out)
 go_wp2_with fail
 refine (K2.out).mono ?_
 rintro e w2 ⟨A2, c2, rfl, ho2, hb2⟩
 clear e0 e1
 replace HB := Lib.hid (HB.out.keep hb2)
 replace HK := Lib.hid (HK.out.keep hb2)
 replace HC := Lib.hid (HC.out.keep hb2)
 clear hb2
 have e0 := HC.out.c0
 have e1 := HC.out.c1
 have HO2 := Lib.hid (ho2.mono HZ1.out)
 clear ho2 K2
 go_wp2
 go_ret2
 exact ⟨A2, c2, rfl, HO2.out, HB.out.below⟩
set_option maxRecDepth 100000 in
set_option maxHeartbeats 1600000 in
theorem ProperObstacle_sv {A : Option Addr} {m c : Nat} {r : Nat → Nat} {w : World} (h : GV w A m c r) : Calls Tryz.prog 126 #[.agg #[.int .i64 m, .slice A m c]] w (lsQ w (poO r m)) := by
 obtain ⟨W, hW⟩ : ∃ W : World, W = (w.alloc (Obj.cells #[Value.int IntKind.i64 m, Value.slice A m c] 26)) := ⟨_, rfl⟩
 have HB : Hid (From w W) := by rw [hW]; exact From.alloc _ _
 have HG : Hid (GBox W w.heap.size A m c r) := by rw [hW]; exact h.box
 have HW := Lib.hid hW
 clear hW h
 have e0 := HG.out.c0
 have e1 := HG.out.c1
 have HZ : Hid (w.heap.size ≤ W.heap.size) := HB.out.below.size
 have K1 := Lib.hid (FindClaw_sv HG.out.gv)
 have HD : Hid (poO r m = (cwO r m).or (ioO r m)) := rfl
 rw [HD.out]
 obtain ⟨o1, h1⟩ : ∃ o, o = cwO r m := ⟨_, rfl⟩
 rw [← h1] at K1 ⊢
 clear h1 HD
 go_enter Tryz.func126, Tryz.ntmps126
 go_wp2_with fail
 rw [← HW.out]
 refine (K1.out).mono ?_
 rintro e w1 ⟨A1, c1, rfl, ho1, hb1⟩
 clear HW
 clear e0 e1
 replace HB := Lib.hid (HB.out.keep hb1)
 replace HG := Lib.hid (HG.out.keep hb1)
 clear hb1
 have e0 := HG.out.c0
 have e1 := HG.out.c1
 have HO1 := Lib.hid (ho1.mono HZ.out)
 clear ho1 K1
 cases o1 with
 | none =>
   clear HO1
   have HZ1 : Hid (w.heap.size ≤ w1.heap.size) := HB.out.below.size
   have K2 := Lib.hid (IntervalObstacle_sv HG.out.gv)
   go_wp2_with fail
   refine (K2.out).mono ?_
   rintro e w2 ⟨A2, c2, rfl, ho2, hb2⟩
   clear e0 e1
   replace HB := Lib.hid (HB.out.keep hb2)
   replace HG := Lib.hid (HG.out.keep hb2)
   clear hb2
   have e0 := HG.out.c0
   have e1 := HG.out.c1
   have HO2 := Lib.hid (ho2.mono HZ1.out)
   clear ho2 K2
   go_wp2
   go_ret2
   exact ⟨A2, c2, rfl, HO2.out, HB.out.below⟩
 | some l =>
   go_wp2
   go_ret2
   exact lsQ.yes HO1.out HB.out.below
set_option maxRecDepth 100000 in
set_option maxHeartbeats 1600000 in
theorem ProperObstacle_sno (sz : Int) (A : Option Addr) (m c : Nat) (x : Nat → Int) (w : World) (h : GA w A m c x) (hm : m ≤ 1048576) (hok : okB sz m x = false) :
 Calls Tryz.prog 126 #[.agg #[.int .i64 sz, .slice A m c]] w (lsQ w none) := by
 obtain ⟨W, hW⟩ : ∃ W : World, W = (w.alloc (Obj.cells #[Value.int IntKind.i64 sz, Value.slice A m c] 26)) := ⟨_, rfl⟩
 have HB : Hid (From w W) := by rw [hW]; exact From.alloc _ _
 have HK := Lib.hid (h.keep HB.out.below)
 have HC : Hid (GC W w.heap.size sz A m c) := by rw [hW]; exact GC.new _ _ _ _ _
 have HW := Lib.hid hW
 have K1 := Lib.hid (FindClaw_sno sz A m c x W HK.out hm hok)
 have Hok := Lib.hid hok
 clear hW h hok
 go_enter Tryz.func126, Tryz.ntmps126
 have e0 := HC.out.c0
 have e1 := HC.out.c1
 go_wp2_with fail
 rw [← HW.out]
 refine (K1.out).mono ?_
 rintro e w1 ⟨A1, c1, rfl, _, hb1⟩
 clear HW
 clear e0 e1
 replace HB := Lib.hid (HB.out.keep hb1)
 replace HK := Lib.hid (HK.out.keep hb1)
 replace HC := Lib.hid (HC.out.keep hb1)
 clear hb1
 have e0 := HC.out.c0
 have e1 := HC.out.c1
 clear K1
 have HZ1 : Hid (w.heap.size ≤ w1.heap.size) := HB.out.below.size
 have K2 := Lib.hid (IntervalObstacle_sno sz A m c x w1 HK.out hm Hok.out)
 go_wp2_with fail
 refine (K2.out).mono ?_
 rintro e w2 ⟨A2, c2, rfl, ho2, hb2⟩
 clear e0 e1
 replace HB := Lib.hid (HB.out.keep hb2)
 replace HK := Lib.hid (HK.out.keep hb2)
 replace HC := Lib.hid (HC.out.keep hb2)
 clear hb2
 have e0 := HC.out.c0
 have e1 := HC.out.c1
 have HO2 := Lib.hid (ho2.mono HZ1.out)
 clear ho2 K2
 go_wp2
 go_ret2
 exact ⟨A2, c2, rfl, HO2.out, HB.out.below⟩
set_option maxRecDepth 100000 in
set_option maxHeartbeats 1600000 in
theorem SplitObstacle_sv {A : Option Addr} {m c : Nat} {r : Nat → Nat} {w : World} (h : GV w A m c r) : Calls Tryz.prog 127 #[.agg #[.int .i64 m, .slice A m c]] w (lsQ w (soO r m)) := by
 obtain ⟨W, hW⟩ : ∃ W : World, W = (w.alloc (Obj.cells #[Value.int IntKind.i64 m, Value.slice A m c] 26)) := ⟨_, rfl⟩
 have HB : Hid (From w W) := by rw [hW]; exact From.alloc _ _
 have HG : Hid (GBox W w.heap.size A m c r) := by rw [hW]; exact h.box
 have HW := Lib.hid hW
 clear hW h
 have e0 := HG.out.c0
 have e1 := HG.out.c1
 have HZ : Hid (w.heap.size ≤ W.heap.size) := HB.out.below.size
 have K1 := Lib.hid (FindTwoEdges_sv HG.out.gv)
 have HD : Hid (soO r m = (teO r m).or (holeO r m)) := rfl
 rw [HD.out]
 obtain ⟨o1, h1⟩ : ∃ o, o = teO r m := ⟨_, rfl⟩
 rw [← h1] at K1 ⊢
 clear h1 HD
 go_enter Tryz.func127, Tryz.ntmps127
 go_wp2_with fail
 rw [← HW.out]
 refine (K1.out).mono ?_
 rintro e w1 ⟨A1, c1, rfl, ho1, hb1⟩
 clear HW
 clear e0 e1
 replace HB := Lib.hid (HB.out.keep hb1)
 replace HG := Lib.hid (HG.out.keep hb1)
 clear hb1
 have e0 := HG.out.c0
 have e1 := HG.out.c1
 have HO1 := Lib.hid (ho1.mono HZ.out)
 clear ho1 K1
 cases o1 with
 | none =>
   clear HO1
   have HZ1 : Hid (w.heap.size ≤ w1.heap.size) := HB.out.below.size
   have K2 := Lib.hid (FindHole_sv HG.out.gv)
   go_wp2_with fail
   refine (K2.out).mono ?_
   rintro e w2 ⟨A2, c2, rfl, ho2, hb2⟩
   clear e0 e1
   replace HB := Lib.hid (HB.out.keep hb2)
   replace HG := Lib.hid (HG.out.keep hb2)
   clear hb2
   have e0 := HG.out.c0
   have e1 := HG.out.c1
   have HO2 := Lib.hid (ho2.mono HZ1.out)
   clear ho2 K2
   go_wp2
   go_ret2
   exact ⟨A2, c2, rfl, HO2.out, HB.out.below⟩
 | some l =>
   go_wp2
   go_ret2
   exact lsQ.yes HO1.out HB.out.below
set_option maxRecDepth 100000 in
set_option maxHeartbeats 1600000 in
theorem SplitObstacle_sno (sz : Int) (A : Option Addr) (m c : Nat) (x : Nat → Int) (w : World) (h : GA w A m c x) (hm : m ≤ 1048576) (hok : okB sz m x = false) :
 Calls Tryz.prog 127 #[.agg #[.int .i64 sz, .slice A m c]] w (lsQ w none) := by
 obtain ⟨W, hW⟩ : ∃ W : World, W = (w.alloc (Obj.cells #[Value.int IntKind.i64 sz, Value.slice A m c] 26)) := ⟨_, rfl⟩
 have HB : Hid (From w W) := by rw [hW]; exact From.alloc _ _
 have HK := Lib.hid (h.keep HB.out.below)
 have HC : Hid (GC W w.heap.size sz A m c) := by rw [hW]; exact GC.new _ _ _ _ _
 have HW := Lib.hid hW
 have K1 := Lib.hid (FindTwoEdges_sno sz A m c x W HK.out hm hok)
 have Hok := Lib.hid hok
 clear hW h hok
 go_enter Tryz.func127, Tryz.ntmps127
 have e0 := HC.out.c0
 have e1 := HC.out.c1
 go_wp2_with fail
 rw [← HW.out]
 refine (K1.out).mono ?_
 rintro e w1 ⟨A1, c1, rfl, _, hb1⟩
 clear HW
 clear e0 e1
 replace HB := Lib.hid (HB.out.keep hb1)
 replace HK := Lib.hid (HK.out.keep hb1)
 replace HC := Lib.hid (HC.out.keep hb1)
 clear hb1
 have e0 := HC.out.c0
 have e1 := HC.out.c1
 clear K1
 have HZ1 : Hid (w.heap.size ≤ w1.heap.size) := HB.out.below.size
 have K2 := Lib.hid (FindHole_sno sz A m c x w1 HK.out hm Hok.out)
 go_wp2_with fail
 refine (K2.out).mono ?_
 rintro e w2 ⟨A2, c2, rfl, ho2, hb2⟩
 clear e0 e1
 replace HB := Lib.hid (HB.out.keep hb2)
 replace HK := Lib.hid (HK.out.keep hb2)
 replace HC := Lib.hid (HC.out.keep hb2)
 clear hb2
 have e0 := HC.out.c0
 have e1 := HC.out.c1
 have HO2 := Lib.hid (ho2.mono HZ1.out)
 clear ho2 K2
 go_wp2
 go_ret2
 exact ⟨A2, c2, rfl, HO2.out, HB.out.below⟩
set_option maxRecDepth 100000 in
set_option maxHeartbeats 1600000 in
theorem StrongObstacle_sv {A : Option Addr} {m c : Nat} {r : Nat → Nat} {w : World} (h : GV w A m c r) : Calls Tryz.prog 130 #[.agg #[.int .i64 m, .slice A m c]] w (lsQ w (sgO r m)) := by
 obtain ⟨W, hW⟩ : ∃ W : World, W = (w.alloc (Obj.cells #[Value.int IntKind.i64 m, Value.slice A m c] 26)) := ⟨_, rfl⟩
 have HB : Hid (From w W) := by rw [hW]; exact From.alloc _ _
 have HG : Hid (GBox W w.heap.size A m c r) := by rw [hW]; exact h.box
 have HW := Lib.hid hW
 clear hW h
 have e0 := HG.out.c0
 have e1 := HG.out.c1
 have HZ : Hid (w.heap.size ≤ W.heap.size) := HB.out.below.size
 have K1 := Lib.hid (FindHole_sv HG.out.gv)
 have HD : Hid (sgO r m = (holeO r m).or (snO r m)) := rfl
 rw [HD.out]
 obtain ⟨o1, h1⟩ : ∃ o, o = holeO r m := ⟨_, rfl⟩
 rw [← h1] at K1 ⊢
 clear h1 HD
 go_enter Tryz.func130, Tryz.ntmps130
 go_wp2_with fail
 rw [← HW.out]
 refine (K1.out).mono ?_
 rintro e w1 ⟨A1, c1, rfl, ho1, hb1⟩
 clear HW
 clear e0 e1
 replace HB := Lib.hid (HB.out.keep hb1)
 replace HG := Lib.hid (HG.out.keep hb1)
 clear hb1
 have e0 := HG.out.c0
 have e1 := HG.out.c1
 have HO1 := Lib.hid (ho1.mono HZ.out)
 clear ho1 K1
 cases o1 with
 | none =>
   clear HO1
   have HZ1 : Hid (w.heap.size ≤ w1.heap.size) := HB.out.below.size
   have K2 := Lib.hid (FindSun_sv HG.out.gv)
   go_wp2_with fail
   refine (K2.out).mono ?_
   rintro e w2 ⟨A2, c2, rfl, ho2, hb2⟩
   clear e0 e1
   replace HB := Lib.hid (HB.out.keep hb2)
   replace HG := Lib.hid (HG.out.keep hb2)
   clear hb2
   have e0 := HG.out.c0
   have e1 := HG.out.c1
   have HO2 := Lib.hid (ho2.mono HZ1.out)
   clear ho2 K2
   go_wp2
   go_ret2
   exact ⟨A2, c2, rfl, HO2.out, HB.out.below⟩
 | some l =>
   go_wp2
   go_ret2
   exact lsQ.yes HO1.out HB.out.below
set_option maxRecDepth 100000 in
set_option maxHeartbeats 1600000 in
theorem StrongObstacle_sno (sz : Int) (A : Option Addr) (m c : Nat) (x : Nat → Int) (w : World) (h : GA w A m c x) (hm : m ≤ 1048576) (hok : okB sz m x = false) :
 Calls Tryz.prog 130 #[.agg #[.int .i64 sz, .slice A m c]] w (lsQ w none) := by
 obtain ⟨W, hW⟩ : ∃ W : World, W = (w.alloc (Obj.cells #[Value.int IntKind.i64 sz, Value.slice A m c] 26)) := ⟨_, rfl⟩
 have HB : Hid (From w W) := by rw [hW]; exact From.alloc _ _
 have HK := Lib.hid (h.keep HB.out.below)
 have HC : Hid (GC W w.heap.size sz A m c) := by rw [hW]; exact GC.new _ _ _ _ _
 have HW := Lib.hid hW
 have K1 := Lib.hid (FindHole_sno sz A m c x W HK.out hm hok)
 have Hok := Lib.hid hok
 clear hW h hok
 go_enter Tryz.func130, Tryz.ntmps130
 have e0 := HC.out.c0
 have e1 := HC.out.c1
 go_wp2_with fail
 rw [← HW.out]
 refine (K1.out).mono ?_
 rintro e w1 ⟨A1, c1, rfl, _, hb1⟩
 clear HW
 clear e0 e1
 replace HB := Lib.hid (HB.out.keep hb1)
 replace HK := Lib.hid (HK.out.keep hb1)
 replace HC := Lib.hid (HC.out.keep hb1)
 clear hb1
 have e0 := HC.out.c0
 have e1 := HC.out.c1
 clear K1
 have HZ1 : Hid (w.heap.size ≤ w1.heap.size) := HB.out.below.size
 have K2 := Lib.hid (FindSun_sno sz A m c x w1 HK.out hm Hok.out)
 go_wp2_with fail
 refine (K2.out).mono ?_
 rintro e w2 ⟨A2, c2, rfl, ho2, hb2⟩
 clear e0 e1
 replace HB := Lib.hid (HB.out.keep hb2)
 replace HK := Lib.hid (HK.out.keep hb2)
 replace HC := Lib.hid (HC.out.keep hb2)
 clear hb2
 have e0 := HC.out.c0
 have e1 := HC.out.c1
 have HO2 := Lib.hid (ho2.mono HZ1.out)
 clear ho2 K2
 go_wp2
 go_ret2
 exact ⟨A2, c2, rfl, HO2.out, HB.out.below⟩
set_option maxRecDepth 100000 in
set_option maxHeartbeats 1600000 in
theorem PerfectObstacle_sv {A : Option Addr} {m c : Nat} {r : Nat → Nat} {w : World} (h : GV w A m c r) : Calls Tryz.prog 131 #[.agg #[.int .i64 m, .slice A m c]] w (lsQ w (pfcO r m)) := by
 obtain ⟨W, hW⟩ : ∃ W : World, W = (w.alloc (Obj.cells #[Value.int IntKind.i64 m, Value.slice A m c] 26)) := ⟨_, rfl⟩
 have HB : Hid (From w W) := by rw [hW]; exact From.alloc _ _
 have HG : Hid (GBox W w.heap.size A m c r) := by rw [hW]; exact h.box
 have HW := Lib.hid hW
 clear hW h
 have e0 := HG.out.c0
 have e1 := HG.out.c1
 have HZ : Hid (w.heap.size ≤ W.heap.size) := HB.out.below.size
 have K1 := Lib.hid (FindOddHole_sv HG.out.gv)
 have HD : Hid (pfcO r m = (oddhO r m).or (ahO r m)) := rfl
 rw [HD.out]
 obtain ⟨o1, h1⟩ : ∃ o, o = oddhO r m := ⟨_, rfl⟩
 rw [← h1] at K1 ⊢
 clear h1 HD
 go_enter Tryz.func131, Tryz.ntmps131
 go_wp2_with fail
 rw [← HW.out]
 refine (K1.out).mono ?_
 rintro e w1 ⟨A1, c1, rfl, ho1, hb1⟩
 clear HW
 clear e0 e1
 replace HB := Lib.hid (HB.out.keep hb1)
 replace HG := Lib.hid (HG.out.keep hb1)
 clear hb1
 have e0 := HG.out.c0
 have e1 := HG.out.c1
 have HO1 := Lib.hid (ho1.mono HZ.out)
 clear ho1 K1
 cases o1 with
 | none =>
   clear HO1
   have HZ1 : Hid (w.heap.size ≤ w1.heap.size) := HB.out.below.size
   have K2 := Lib.hid (FindAntihole_sv HG.out.gv)
   go_wp2_with fail
   refine (K2.out).mono ?_
   rintro e w2 ⟨A2, c2, rfl, ho2, hb2⟩
   clear e0 e1
   replace HB := Lib.hid (HB.out.keep hb2)
   replace HG := Lib.hid (HG.out.keep hb2)
   clear hb2
   have e0 := HG.out.c0
   have e1 := HG.out.c1
   have HO2 := Lib.hid (ho2.mono HZ1.out)
   clear ho2 K2
   go_wp2
   go_ret2
   exact ⟨A2, c2, rfl, HO2.out, HB.out.below⟩
 | some l =>
   go_wp2
   go_ret2
   exact lsQ.yes HO1.out HB.out.below
set_option maxRecDepth 100000 in
set_option maxHeartbeats 1600000 in
theorem PerfectObstacle_sno (sz : Int) (A : Option Addr) (m c : Nat) (x : Nat → Int) (w : World) (h : GA w A m c x) (hm : m ≤ 1048576) (hok : okB sz m x = false) :
 Calls Tryz.prog 131 #[.agg #[.int .i64 sz, .slice A m c]] w (lsQ w none) := by
 obtain ⟨W, hW⟩ : ∃ W : World, W = (w.alloc (Obj.cells #[Value.int IntKind.i64 sz, Value.slice A m c] 26)) := ⟨_, rfl⟩
 have HB : Hid (From w W) := by rw [hW]; exact From.alloc _ _
 have HK := Lib.hid (h.keep HB.out.below)
 have HC : Hid (GC W w.heap.size sz A m c) := by rw [hW]; exact GC.new _ _ _ _ _
 have HW := Lib.hid hW
 have K1 := Lib.hid (FindOddHole_sno sz A m c x W HK.out hm hok)
 have Hok := Lib.hid hok
 clear hW h hok
 go_enter Tryz.func131, Tryz.ntmps131
 have e0 := HC.out.c0
 have e1 := HC.out.c1
 go_wp2_with fail
 rw [← HW.out]
 refine (K1.out).mono ?_
 rintro e w1 ⟨A1, c1, rfl, _, hb1⟩
 clear HW
 clear e0 e1
 replace HB := Lib.hid (HB.out.keep hb1)
 replace HK := Lib.hid (HK.out.keep hb1)
 replace HC := Lib.hid (HC.out.keep hb1)
 clear hb1
 have e0 := HC.out.c0
 have e1 := HC.out.c1
 clear K1
 have HZ1 : Hid (w.heap.size ≤ w1.heap.size) := HB.out.below.size
 have K2 := Lib.hid (FindAntihole_sno sz A m c x w1 HK.out hm Hok.out)
 go_wp2_with fail
 refine (K2.out).mono ?_
 rintro e w2 ⟨A2, c2, rfl, ho2, hb2⟩
 clear e0 e1
 replace HB := Lib.hid (HB.out.keep hb2)
 replace HK := Lib.hid (HK.out.keep hb2)
 replace HC := Lib.hid (HC.out.keep hb2)
 clear hb2
 have e0 := HC.out.c0
 have e1 := HC.out.c1
 have HO2 := Lib.hid (ho2.mono HZ1.out)
 clear ho2 K2
 go_wp2
 go_ret2
 exact ⟨A2, c2, rfl, HO2.out, HB.out.below⟩
end Go.Proofs.YtfabbohijhjpcaaGreatDoor
