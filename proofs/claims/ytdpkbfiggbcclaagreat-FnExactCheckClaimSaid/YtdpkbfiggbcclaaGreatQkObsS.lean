/-
-/
import Derived.Test.YtdpkbfiggbcclaaGreatQkOdd
import Derived.Test.YtdpkbfiggbcclaaGreatQkBarS
import Derived.Test.YtdpkbfiggbcclaaGreatQkJoinS
import Derived.Test.YtdpkbfiggbcclaaGreatQkJoinT
namespace Go.Proofs.YtdpkbfiggbcclaaGreat
open Go.RowKit
section
variable (sz : Int) (A : Option Addr) (m c : Nat) (x : Nat → Int) (Al : Option Addr) (n cl : Nat) (l : List Int) (w : World)
set_option maxRecDepth 100000 in
set_option maxHeartbeats 3200000 in
theorem IsSplitObstacle_s (h : GA w A m c x) (hl : LI w Al n cl l) (hm : m ≤ 1048576) (hn : n ≤ 1048576) :
 Calls Tryz.prog 242 #[.agg #[.int .i64 sz, .slice A m c], .slice Al n cl] w fun e w' => e = .returned (.bool (soB sz m x l)) ∧ Below w.heap.size w w' := by
 obtain ⟨W, hW⟩ : ∃ W : World, W = (w.alloc (Obj.cells #[Value.int IntKind.i64 sz, Value.slice A m c] 28)) := ⟨_, rfl⟩
 have HB : Hid (From w W) := by rw [hW]; exact From.alloc _ _
 have HK := Lib.hid (h.keep HB.out.below)
 have HL := Lib.hid (hl.keep HB.out.below)
 have HC : Hid (GC W w.heap.size sz A m c) := by rw [hW]; exact GC.new _ _ _ _ _
 have HW := Lib.hid hW
 have HN := Lib.hid hl.len
 clear hW h hl
 go_enter Tryz.func242, Tryz.ntmps242
 have e0 := HC.out.c0
 have e1 := HC.out.c1
 go_wp2_with fail
 rw [← HW.out]
 refine (IsTwoEdges_s sz A m c x Al n cl l W HK.out HL.out hm hn).mono ?_
 rintro e w1 ⟨rfl, hb1⟩
 clear HW
 clear e0 e1
 replace HB := Lib.hid (HB.out.keep hb1)
 replace HK := Lib.hid (HK.out.keep hb1)
 replace HL := Lib.hid (HL.out.keep hb1)
 replace HC := Lib.hid (HC.out.keep hb1)
 clear hb1
 have e0 := HC.out.c0
 have e1 := HC.out.c1
 cases ht : teB sz m x l
 rotate_left
 ·have hyes : Hid (soB sz m x l = true) := by show _ = _; unfold soB; rw [ht, Bool.true_or]
  clear ht
  go_wp2
  go_ret
  exact ⟨ret_bool hyes.out.symm, HB.out.below⟩
 by_cases h5 : n ≤ 5
 rotate_left
 ·have hno : Hid (soB sz m x l = false) := by show _ = _; unfold soB; rw [ht, decide_eq_false (by rw [← HN.out]; exact h5)]; rfl
  have i5 : 5 < (n : Int) := by omega
  clear ht h5
  go_wp2
  go_ret
  exact ⟨ret_bool hno.out.symm, HB.out.below⟩
 have heq : Hid (soB sz m x l = hoB sz m x l) := by show _ = _; unfold soB; rw [ht, decide_eq_true (by rw [← HN.out]; exact h5)]; rfl
 have i5 : (n : Int) ≤ 5 := by omega
 clear ht
 go_wp2_with fail
 refine (IsHole_s sz A m c x Al n cl l w1 HK.out HL.out hm hn).mono ?_
 rintro e w2 ⟨rfl, hb2⟩
 clear e0 e1
 replace HB := Lib.hid (HB.out.keep hb2)
 replace HK := Lib.hid (HK.out.keep hb2)
 replace HL := Lib.hid (HL.out.keep hb2)
 replace HC := Lib.hid (HC.out.keep hb2)
 clear hb2
 have e0 := HC.out.c0
 have e1 := HC.out.c1
 go_wp2
 go_ret
 exact ⟨ret_bool heq.out.symm, HB.out.below⟩
set_option maxRecDepth 100000 in
set_option maxHeartbeats 3200000 in
theorem IsThresholdObstacle_s (h : GA w A m c x) (hl : LI w Al n cl l) (hm : m ≤ 1048576) (hn : n ≤ 1048576) :
 Calls Tryz.prog 208 #[.agg #[.int .i64 sz, .slice A m c], .slice Al n cl] w fun e w' => e = .returned (.bool (tholB sz m x l)) ∧ Below w.heap.size w w' := by
 obtain ⟨W, hW⟩ : ∃ W : World, W = (w.alloc (Obj.cells #[Value.int IntKind.i64 sz, Value.slice A m c] 28)) := ⟨_, rfl⟩
 have HB : Hid (From w W) := by rw [hW]; exact From.alloc _ _
 have HK := Lib.hid (h.keep HB.out.below)
 have HL := Lib.hid (hl.keep HB.out.below)
 have HC : Hid (GC W w.heap.size sz A m c) := by rw [hW]; exact GC.new _ _ _ _ _
 have HW := Lib.hid hW
 have HN := Lib.hid hl.len
 clear hW h hl
 by_cases h4 : n = 4
 rotate_left
 ·have hno : Hid (tholB sz m x l = false) := by show _ = _; unfold tholB; rw [decide_eq_false (by rw [← HN.out]; exact h4)]; rfl
  have i4 : ((n : Int) == 4) = false := by simp; omega
  clear h4
  go_enter Tryz.func208, Tryz.ntmps208
  go_wp2
  rw [← HW.out]
  go_ret
  exact ⟨ret_bool hno.out.symm, HB.out.below⟩
 have i4 : ((n : Int) == 4) = true := by simp; omega
 have H4 := Lib.hid h4
 clear h4
 go_enter Tryz.func208, Tryz.ntmps208
 have e0 := HC.out.c0
 have e1 := HC.out.c1
 go_wp2_with fail
 rw [← HW.out]
 refine (IsTwoEdges_s sz A m c x Al n cl l W HK.out HL.out hm hn).mono ?_
 rintro e w1 ⟨rfl, hb1⟩
 clear HW
 clear e0 e1
 replace HB := Lib.hid (HB.out.keep hb1)
 replace HK := Lib.hid (HK.out.keep hb1)
 replace HL := Lib.hid (HL.out.keep hb1)
 replace HC := Lib.hid (HC.out.keep hb1)
 clear hb1
 have e0 := HC.out.c0
 have e1 := HC.out.c1
 have Hl : Hid (tholB sz m x l = ((teB sz m x l || hoB sz m x l) || ipB sz m x l)) := by show _ = _; unfold tholB; rw [decide_eq_true (by rw [← HN.out]; exact H4.out), Bool.true_and]
 cases ht : teB sz m x l
 rotate_left
 ·have hyes : Hid (tholB sz m x l = true) := by show _ = _; rw [Hl.out, ht]; rfl
  clear ht
  go_wp2
  go_ret
  exact ⟨ret_bool hyes.out.symm, HB.out.below⟩
 have Ht := Lib.hid ht
 clear ht
 go_wp2_with fail
 refine (IsHole_s sz A m c x Al n cl l w1 HK.out HL.out hm hn).mono ?_
 rintro e w2 ⟨rfl, hb2⟩
 clear e0 e1
 replace HB := Lib.hid (HB.out.keep hb2)
 replace HK := Lib.hid (HK.out.keep hb2)
 replace HL := Lib.hid (HL.out.keep hb2)
 replace HC := Lib.hid (HC.out.keep hb2)
 clear hb2
 have e0 := HC.out.c0
 have e1 := HC.out.c1
 cases hh : hoB sz m x l
 rotate_left
 ·have hyes : Hid (tholB sz m x l = true) := by show _ = _; rw [Hl.out, Ht.out, hh]; rfl
  clear hh
  go_wp2
  go_ret
  exact ⟨ret_bool hyes.out.symm, HB.out.below⟩
 have heq : Hid (tholB sz m x l = ipB sz m x l) := by show _ = _; rw [Hl.out, Ht.out, hh]; rfl
 clear hh
 go_wp2_with fail
 refine (IsInducedPath_s sz A m c x Al n cl l w2 HK.out HL.out hm hn).mono ?_
 rintro e w3 ⟨rfl, hb3⟩
 clear e0 e1
 replace HB := Lib.hid (HB.out.keep hb3)
 replace HK := Lib.hid (HK.out.keep hb3)
 replace HL := Lib.hid (HL.out.keep hb3)
 replace HC := Lib.hid (HC.out.keep hb3)
 clear hb3
 have e0 := HC.out.c0
 have e1 := HC.out.c1
 go_wp2
 go_ret
 exact ⟨ret_bool heq.out.symm, HB.out.below⟩
set_option maxRecDepth 100000 in
set_option maxHeartbeats 3200000 in
theorem IsPerfectObstacle_s (h : GA w A m c x) (hl : LI w Al n cl l) (hm : m ≤ 1048576) (hn : n ≤ 1048576) :
 Calls Tryz.prog 245 #[.agg #[.int .i64 sz, .slice A m c], .slice Al n cl] w fun e w' => e = .returned (.bool (poB sz m x l)) ∧ Below w.heap.size w w' := by
 obtain ⟨W, hW⟩ : ∃ W : World, W = (w.alloc (Obj.cells #[Value.int IntKind.i64 sz, Value.slice A m c] 28)) := ⟨_, rfl⟩
 have HB : Hid (From w W) := by rw [hW]; exact From.alloc _ _
 have HK := Lib.hid (h.keep HB.out.below)
 have HL := Lib.hid (hl.keep HB.out.below)
 have HC : Hid (GC W w.heap.size sz A m c) := by rw [hW]; exact GC.new _ _ _ _ _
 have HW := Lib.hid hW
 have HN := Lib.hid hl.len
 clear hW h hl
 go_enter Tryz.func245, Tryz.ntmps245
 have e0 := HC.out.c0
 have e1 := HC.out.c1
 go_wp2_with fail
 rw [← HW.out]
 refine (ComplementOf_s sz A m c x W HK.out hm).mono ?_
 rintro e w1 ⟨sz2, A2, m2, c2, rfl, hR, hb1⟩
 clear HW
 clear e0 e1
 replace HB := Lib.hid (HB.out.keep hb1)
 replace HK := Lib.hid (HK.out.keep hb1)
 replace HL := Lib.hid (HL.out.keep hb1)
 replace HC := Lib.hid (HC.out.keep hb1)
 clear hb1
 have e0 := HC.out.c0
 have e1 := HC.out.c1
 obtain ⟨W2, hW2⟩ : ∃ W2 : World, W2 = (w1.alloc (Obj.cells #[Value.int IntKind.i64 sz2, Value.slice A2 m2 c2] 28)) := ⟨_, rfl⟩
 have hb2 : Below w1.heap.size w1 W2 := by rw [hW2]; exact (Below.refl _ _).alloc (Nat.le_refl _) _
 have HB2 : Hid (From w W2) := HB.out.keep hb2
 have HW2 := Lib.hid hW2
 cases ho : okB sz m x
 ·have hno : Hid (poB sz m x l = false) := by show _ = _; unfold poB; rw [ho]; rfl
  clear ho hR hb2 hW2
  go_wp2
  rw [← HW2.out]
  go_ret
  exact ⟨ret_bool hno.out.symm, HB2.out.below⟩
 obtain ⟨r1, r2, hG⟩ := hR ho
 subst r1
 subst r2
 have HG2 : Hid (GV W2 A2 m2 c2 (coR (rw_ x) m2)) := hG.keep hb2
 have HQ : Hid (GC W2 w1.heap.size m2 A2 m2 c2) := by rw [hW2]; exact GC.new _ _ _ _ _
 have HK2 := Lib.hid (HK.out.keep hb2)
 have HL2 := Lib.hid (HL.out.keep hb2)
 have hq := HC.out.lt
 have Ho := Lib.hid ho
 clear hR hb2 hW2 ho hG HB HK HL HC
 by_cases h1 : n % 2 = 1
 rotate_left
 ·have hno : Hid (poB sz m2 x l = false) := by show _ = _; unfold poB; rw [decide_eq_false (by rw [← HN.out]; exact h1), Bool.and_false]; rfl
  have i1 : ((n : Int) % 2 == 1) = false := by simp; omega
  clear h1
  go_wp2
  rw [← HW2.out]
  go_ret
  exact ⟨ret_bool hno.out.symm, HB2.out.below⟩
 have Hp : Hid (poB sz m2 x l = (hoB sz m2 x l || hoB m2 m2 (fun v => ((coR (rw_ x) m2 v : Nat) : Int)) l)) := by show _ = _; unfold poB; rw [Ho.out, decide_eq_true (by rw [← HN.out]; exact h1)]; rfl
 have i1 : ((n : Int) % 2 == 1) = true := by simp; omega
 clear h1
 go_wp2_with fail
 rw [← HW2.out]
 clear HW2
 refine (IsHole_s sz A m2 c x Al n cl l W2 HK2.out HL2.out hm hn).mono ?_
 rintro e w3 ⟨rfl, hb3⟩
 have HB3 := Lib.hid (HB2.out.keep hb3)
 have HL3 := Lib.hid (HL2.out.keep hb3)
 have HG3 := Lib.hid (HG2.out.keep hb3)
 have HQ3 := Lib.hid (HQ.out.keep hb3)
 have b0 := HQ3.out.c0
 have b1 := HQ3.out.c1
 clear e0 e1 hq hb3 HB2 HL2 HG2 HQ HK2
 cases hh : hoB sz m2 x l
 rotate_left
 ·have hyes : Hid (poB sz m2 x l = true) := by show _ = _; rw [Hp.out, hh]; rfl
  clear hh
  go_wp2
  go_ret
  exact ⟨ret_bool hyes.out.symm, HB3.out.below⟩
 have heq : Hid (poB sz m2 x l = hoB m2 m2 (fun v => ((coR (rw_ x) m2 v : Nat) : Int)) l) := by show _ = _; rw [Hp.out, hh]; rfl
 clear hh
 go_wp2_with fail
 refine (IsHole_s (m2 : Int) A2 m2 c2 (fun v => ((coR (rw_ x) m2 v : Nat) : Int)) Al n cl l w3 HG3.out.ga HL3.out hm hn).mono ?_
 rintro e w4 ⟨rfl, hb4⟩
 have HB4 := Lib.hid (HB3.out.keep hb4)
 clear hb4
 go_wp2
 go_ret
 exact ⟨ret_bool heq.out.symm, HB4.out.below⟩
end
end Go.Proofs.YtdpkbfiggbcclaaGreat
