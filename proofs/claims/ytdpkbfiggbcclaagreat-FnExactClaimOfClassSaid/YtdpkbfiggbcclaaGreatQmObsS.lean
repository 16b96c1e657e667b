/-
-/
import Derived.Test.YtdpkbfiggbcclaaGreatQmHolK
import Derived.Test.YtdpkbfiggbcclaaGreatQmBarS
import Derived.Test.YtdpkbfiggbcclaaGreatQmJoinS
import Derived.Test.YtdpkbfiggbcclaaGreatQmJoinT
namespace Go.Proofs.YtdpkbfiggbcclaaGreat
open Go.RowKit
set_option maxHeartbeats 3200000
section
variable (sz : Int) (A : Option Addr) (m c : Nat) (x : Nat → Int) (Al : Option Addr) (n cl : Nat) (l : List Int) (w : World)
set_option maxRecDepth 100000 in
theorem IsThresholdObstacle_s (h : GA w A m c x) (hl : LI w Al n cl l) (hm : m ≤ 1048576) (hn : n ≤ 1048576) :
 Calls Tryz.prog 208 #[.agg #[.int .i64 sz, .slice A m c], .slice Al n cl] w fun e w' => e = .returned (.bool (tholB sz m x l)) ∧ Below w.heap.size w w' := by
 obtain ⟨W, hW⟩ : ∃ W, W = (w.alloc (Obj.cells #[.int .i64 sz, .slice A m c] 28)) := ⟨_, rfl⟩;have HB : Hid (From w W) := by rw [hW]; exact From.alloc _ _
 have HK := hh_ (h.keep HB.below);have HL := hh_ (hl.keep HB.below);have HC : Hid (GC W w.heap.size sz A m c) := by rw [hW]; exact GC.new _ _ _ _ _
 have HW := hh_ hW;have HN := hh_ hl.len;clear hW h hl;by_cases h4 : n = 4
 rotate_left
 ·have hno : Hid (tholB sz m x l = false) := by show _ = _; unfold tholB; rw [decide_eq_false (by rw [← HN.out]; exact h4)]; rfl
  have i4 : ((n : Int) == 4) = false := by simp; omega
  clear h4;go_enter Tryz.func208, Tryz.ntmps208;go_wp2;rw [← HW.out];go_ret;exact ⟨ret_bool hno.symm, HB.below⟩
 have i4 : ((n : Int) == 4) = true := by simp; omega
 have H4 := hh_ h4;clear h4;go_enter Tryz.func208, Tryz.ntmps208;obtain ⟨e0, e1⟩ := gc_ HC;go_wp2_with fail
 rw [← HW.out];refine (IsTwoEdges_s sz A m c x Al n cl l W HK HL.out hm hn).mono ?_;rintro e w1 ⟨rfl, hb1⟩;clear HW;clear e0 e1;replace HB := hh_ (HB.keep hb1);replace HK := hh_ (HK.keep hb1);replace HL := hh_ (HL.keep hb1);replace HC := hh_ (HC.keep hb1);clear hb1;obtain ⟨e0, e1⟩ := gc_ HC;have Hl : Hid (tholB sz m x l = ((teB sz m x l || hoB sz m x l) || ipB sz m x l)) := by show _ = _; unfold tholB; rw [decide_eq_true (by rw [← HN.out]; exact H4.out), Bool.true_and]
 cases ht : teB sz m x l
 rotate_left
 ·have hyes : Hid (tholB sz m x l = true) := by show _ = _; rw [Hl.out, ht]; rfl
  clear ht;go_wp2;go_ret;exact ⟨ret_bool hyes.symm, HB.below⟩
 have Ht := hh_ ht;clear ht;go_wp2_with fail
 refine (IsHole_s sz A m c x Al n cl l w1 HK HL.out hm hn).mono ?_;rintro e w2 ⟨rfl, hb2⟩;clear e0 e1;replace HB := hh_ (HB.keep hb2);replace HK := hh_ (HK.keep hb2);replace HL := hh_ (HL.keep hb2);replace HC := hh_ (HC.keep hb2);clear hb2;obtain ⟨e0, e1⟩ := gc_ HC;cases hh : hoB sz m x l
 rotate_left
 ·have hyes : Hid (tholB sz m x l = true) := by show _ = _; rw [Hl.out, Ht.out, hh]; rfl
  clear hh;go_wp2;go_ret;exact ⟨ret_bool hyes.symm, HB.below⟩
 have heq : Hid (tholB sz m x l = ipB sz m x l) := by show _ = _; rw [Hl.out, Ht.out, hh]; rfl
 clear hh;go_wp2_with fail
 refine (IsInducedPath_s sz A m c x Al n cl l w2 HK HL.out hm hn).mono ?_;rintro e w3 ⟨rfl, hb3⟩;clear e0 e1;replace HB := hh_ (HB.keep hb3);replace HK := hh_ (HK.keep hb3);replace HL := hh_ (HL.keep hb3);replace HC := hh_ (HC.keep hb3);clear hb3;obtain ⟨e0, e1⟩ := gc_ HC;go_wp2;go_ret;exact ⟨ret_bool heq.symm, HB.below⟩
end
end Go.Proofs.YtdpkbfiggbcclaaGreat
