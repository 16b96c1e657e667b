/-
-/
import Derived.Test.YtfabbohijhjpcaaGreatDoorRcObsI
import Derived.Test.YtfabbohijhjpcaaGreatDoorRcBarS
import Derived.Test.YtfabbohijhjpcaaGreatDoorRcJoinS
import Derived.Test.YtfabbohijhjpcaaGreatDoorRcJoinT
namespace Go.Proofs.YtfabbohijhjpcaaGreatDoor
open Go.RowKit
section
variable (sz : Int) (A : Option Addr) (m c : Nat) (x : Nat → Int) (Al : Option Addr) (n cl : Nat) (l : List Int) (w : World)
set_option maxRecDepth 100000 in
set_option maxHeartbeats 3200000 in
theorem IsThresholdObstacle_s (h : GA w A m c x) (hl : LI w Al n cl l) (hm : m ≤ 1048576) (hn : n ≤ 1048576) :
 Calls Tryz.prog 192 #[.agg #[.int .i64 sz, .slice A m c], .slice Al n cl] w fun e w' => e = .returned (.bool (tholB sz m x l)) ∧ Below w.heap.size w w' := by
 obtain ⟨W, hW⟩ : ∃ W : World, W = (w.alloc (Obj.cells #[Value.int IntKind.i64 sz, Value.slice A m c] 26)) := ⟨_, rfl⟩
 have HB : Hid (From w W) := by rw [hW]; exact From.alloc _ _
 have HK := Lib.hid (h.keep HB.out.below)
 have HL := Lib.hid (hl.keep HB.out.below)
 have HC : Hid (GC W w.heap.size sz A m c) := by rw [hW]; exact GC.new _ _ _ _ _
 have HW := Lib.hid hW
 have HN := Lib.hid hl.len
 clear hW h hl
 by_cases h4 : n = 4
 rotate_left
 ·have hno : Hid (tholB sz m x l = false) := by show _ = _; unfold tholB; rw [decide_eq_false (by rw [← HN.out]; exact h4)]; rfl
  have i4 : ((n : Int) == 4) = false := by simp; omega
  clear h4
  go_enter Tryz.func192, Tryz.ntmps192
  go_wp2
  rw [← HW.out]
  go_ret
  exact ⟨ret_bool hno.out.symm, HB.out.below⟩
 have i4 : ((n : Int) == 4) = true := by simp; omega
 have H4 := Lib.hid h4
 clear h4
 go_enter Tryz.func192, Tryz.ntmps192
 have e0 := HC.out.c0
 have e1 := HC.out.c1
 go_wp2_with fail
 rw [← HW.out]
 refine (IsTwoEdges_s sz A m c x Al n cl l W HK.out HL.out hm hn).mono ?_
 rintro e w1 ⟨rfl, hb1⟩
 clear HW
 clear e0 e1
 replace HB := Lib.hid (HB.out.keep hb1)
 replace HK := Lib.hid (HK.out.keep hb1)
 replace HL := Lib.hid (HL.out.keep hb1)
 replace HC := Lib.hid (HC.out.keep hb1)
 clear hb1
 have e0 := HC.out.c0
 have e1 := HC.out.c1
 have Hl : Hid (tholB sz m x l = ((teB sz m x l || hoB sz m x l) || ipB sz m x l)) := by show _ = _; unfold tholB; rw [decide_eq_true (by rw [← HN.out]; exact H4.out), Bool.true_and]
 cases ht : teB sz m x l
 rotate_left
 ·have hyes : Hid (tholB sz m x l = true) := by show _ = _; rw [Hl.out, ht]; rfl
  clear ht
  go_wp2
  go_ret
  exact ⟨ret_bool hyes.out.symm, HB.out.below⟩
 have Ht := Lib.hid ht
 clear ht
 go_wp2_with fail
 refine (IsHole_s sz A m c x Al n cl l w1 HK.out HL.out hm hn).mono ?_
 rintro e w2 ⟨rfl, hb2⟩
 clear e0 e1
 replace HB := Lib.hid (HB.out.keep hb2)
 replace HK := Lib.hid (HK.out.keep hb2)
 replace HL := Lib.hid (HL.out.keep hb2)
 replace HC := Lib.hid (HC.out.keep hb2)
 clear hb2
 have e0 := HC.out.c0
 have e1 := HC.out.c1
 cases hh : hoB sz m x l
 rotate_left
 ·have hyes : Hid (tholB sz m x l = true) := by show _ = _; rw [Hl.out, Ht.out, hh]; rfl
  clear hh
  go_wp2
  go_ret
  exact ⟨ret_bool hyes.out.symm, HB.out.below⟩
 have heq : Hid (tholB sz m x l = ipB sz m x l) := by show _ = _; rw [Hl.out, Ht.out, hh]; rfl
 clear hh
 go_wp2_with fail
 refine (IsInducedPath_s sz A m c x Al n cl l w2 HK.out HL.out hm hn).mono ?_
 rintro e w3 ⟨rfl, hb3⟩
 clear e0 e1
 replace HB := Lib.hid (HB.out.keep hb3)
 replace HK := Lib.hid (HK.out.keep hb3)
 replace HL := Lib.hid (HL.out.keep hb3)
 replace HC := Lib.hid (HC.out.keep hb3)
 clear hb3
 have e0 := HC.out.c0
 have e1 := HC.out.c1
 go_wp2
 go_ret
 exact ⟨ret_bool heq.out.symm, HB.out.below⟩
end
end Go.Proofs.YtfabbohijhjpcaaGreatDoor
