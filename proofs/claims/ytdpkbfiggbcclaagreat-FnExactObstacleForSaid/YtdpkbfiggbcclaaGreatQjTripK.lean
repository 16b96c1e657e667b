/-
  Contracts: an asteroidal triple; obstacles of interval and proper interval graphs: the program.
-/
import Derived.Test.YtdpkbfiggbcclaaGreatQjTripJ
namespace Go.Proofs.YtdpkbfiggbcclaaGreat
open Go.RowKit

section
variable (sz : Int) (A : Option Addr) (m cA : Nat) (x : Nat → Int) (a b c : Int) (w : World)
set_option maxRecDepth 100000 in
set_option maxHeartbeats 6400000 in
theorem IsTriple_i (h : GA w A m cA x) (hm : m ≤ 1048576) :
    Calls Tryz.prog 324 #[.agg #[.int .i64 sz, .slice A m cA], .int .i64 a, .int .i64 b, .int .i64 c] w fun e w' => e = .returned (.bool (trB sz m x a b c)) ∧ Below w.heap.size w w' := by
  obtain ⟨W, hW⟩ : ∃ W : World, W = (w.alloc (Obj.cells #[Value.int IntKind.i64 sz, Value.slice A m cA] 28)) := ⟨_, rfl⟩
  have HB : Hid (From w W) := by rw [hW]; exact From.alloc _ _
  have HK := Lib.hid (h.keep HB.out.below)
  have HC : Hid (GC W w.heap.size sz A m cA) := by rw [hW]; exact GC.new _ _ _ _ _
  have HW := Lib.hid hW
  clear hW h
  by_cases h0 : a = b
  · have hno : Hid (trB sz m x a b c = false) := by show _ = _; unfold trB; subst h0; simp
    have i0 : (a == b) = true := by simpa using h0
    clear h0
    go_enter Tryz.func324, Tryz.ntmps324
    go_wp2
    rw [← HW.out]
    go_ret
    exact ⟨ret_bool hno.out.symm, HB.out.below⟩
  by_cases h1 : b = c
  · have hno : Hid (trB sz m x a b c = false) := by show _ = _; unfold trB; subst h1; simp
    have i0 : (a == b) = false := by simpa using h0
    have i1 : (b == c) = true := by simpa using h1
    clear h0 h1
    go_enter Tryz.func324, Tryz.ntmps324
    go_wp2
    rw [← HW.out]
    go_ret
    exact ⟨ret_bool hno.out.symm, HB.out.below⟩
  by_cases h2 : c = a
  · have hno : Hid (trB sz m x a b c = false) := by show _ = _; unfold trB; subst h2; simp
    have i0 : (a == b) = false := by simpa using h0
    have i1 : (b == c) = false := by simpa using h1
    have i2 : (c == a) = true := by simpa using h2
    clear h0 h1 h2
    go_enter Tryz.func324, Tryz.ntmps324
    go_wp2
    rw [← HW.out]
    go_ret
    exact ⟨ret_bool hno.out.symm, HB.out.below⟩
  have Heq : Hid (trB sz m x a b c = (avB sz m x a b c && avB sz m x b c a && avB sz m x c a b)) := by show _ = _; unfold trB; rw [decide_eq_true h0, decide_eq_true h1, decide_eq_true (show a ≠ c from fun e => h2 e.symm)]; simp
  have i0 : (a == b) = false := by simpa using h0
  have i1 : (b == c) = false := by simpa using h1
  have i2 : (c == a) = false := by simpa using h2
  clear h0 h1 h2
  go_enter Tryz.func324, Tryz.ntmps324
  have e0 := HC.out.c0
  have e1 := HC.out.c1
  go_wp2_with fail
  rw [← HW.out]
  refine (AvoidingPath_i sz A m cA x a b c W HK.out hm).mono ?_
  rintro e w1 ⟨A5, n5, c5, rfl, hb1⟩
  clear HW
  clear e0 e1
  replace HB := Lib.hid (HB.out.keep hb1)
  replace HK := Lib.hid (HK.out.keep hb1)
  replace HC := Lib.hid (HC.out.keep hb1)
  clear hb1
  have e0 := HC.out.c0
  have e1 := HC.out.c1
  go_wp2_with fail
  refine (AvoidingPath_i sz A m cA x b c a w1 HK.out hm).mono ?_
  rintro e w2 ⟨A6, n6, c6, rfl, hb2⟩
  clear e0 e1
  replace HB := Lib.hid (HB.out.keep hb2)
  replace HK := Lib.hid (HK.out.keep hb2)
  replace HC := Lib.hid (HC.out.keep hb2)
  clear hb2
  have e0 := HC.out.c0
  have e1 := HC.out.c1
  go_wp2_with fail
  refine (AvoidingPath_i sz A m cA x c a b w2 HK.out hm).mono ?_
  rintro e w3 ⟨A7, n7, c7, rfl, hb3⟩
  clear e0 e1
  replace HB := Lib.hid (HB.out.keep hb3)
  replace HK := Lib.hid (HK.out.keep hb3)
  replace HC := Lib.hid (HC.out.keep hb3)
  clear hb3
  have e0 := HC.out.c0
  have e1 := HC.out.c1
  obtain ⟨t1, ht1⟩ : ∃ t, t = avB sz m x a b c := ⟨_, rfl⟩
  obtain ⟨t2, ht2⟩ : ∃ t, t = avB sz m x b c a := ⟨_, rfl⟩
  obtain ⟨t3, ht3⟩ : ∃ t, t = avB sz m x c a b := ⟨_, rfl⟩
  rw [← ht1, ← ht2, ← ht3] at Heq
  simp only [← ht1, ← ht2, ← ht3]
  clear ht1 ht2 ht3 HK HC e0 e1
  cases t1 <;> cases t2 <;> cases t3 <;> (go_wp2; go_ret; exact ⟨ret_bool (by rw [Heq.out]; rfl), HB.out.below⟩)
end
section
variable (sz : Int) (A : Option Addr) (m c : Nat) (x : Nat → Int) (Al : Option Addr) (n cl : Nat) (l : List Int) (w : World)
end
end Go.Proofs.YtdpkbfiggbcclaaGreat
