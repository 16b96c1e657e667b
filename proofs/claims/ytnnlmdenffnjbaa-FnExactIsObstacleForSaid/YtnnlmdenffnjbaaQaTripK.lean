/-
  Contracts: an asteroidal triple; obstacles of interval and proper interval graphs: the program.
-/
import Derived.Test.YtnnlmdenffnjbaaQaTripJ
namespace Go.Proofs.Ytnnlmdenffnjbaa
open Go.RowKit

noncomputable def inB (sz : Int) (m : Nat) (x : Nat → Int) (l : List Int) : Bool := hoB sz m x l || (decide (l.length = 3) && trB sz m x (l.getD 0 0) (l.getD 1 0) (l.getD 2 0))
noncomputable def prO (sz : Int) (m : Nat) (x : Nat → Int) (l : List Int) : Bool := clB sz m x l || inB sz m x l
section
variable (sz : Int) (A : Option Addr) (m cA : Nat) (x : Nat → Int) (a b c : Int) (w : World)
set_option maxRecDepth 100000 in
set_option maxHeartbeats 6400000 in
theorem IsTriple_i (h : GA w A m cA x) (hm : m ≤ 1048576) :
    Calls Try.prog 166 #[.agg #[.int .i64 sz, .slice A m cA], .int .i64 a, .int .i64 b, .int .i64 c] w fun e w' => e = .returned (.bool (trB sz m x a b c)) ∧ Below w.heap.size w w' := by
  obtain ⟨W, hW⟩ : ∃ W : World, W = (w.alloc (Obj.cells #[Value.int IntKind.i64 sz, Value.slice A m cA] 28)) := ⟨_, rfl⟩
  have HB : Hid (From w W) := by rw [hW]; exact From.alloc _ _
  have HK := Lib.hid (h.keep HB.out.below)
  have HC : Hid (GC W w.heap.size sz A m cA) := by rw [hW]; exact GC.new _ _ _ _ _
  have HW := Lib.hid hW
  clear hW h
  by_cases h0 : a = b
  · have hno : Hid (trB sz m x a b c = false) := by show _ = _; unfold trB; subst h0; simp
    have i0 : (a == b) = true := by simpa using h0
    clear h0
    go_enter Try.func166, Try.ntmps166
    go_wp2
    rw [← HW.out]
    go_ret
    exact ⟨ret_bool hno.out.symm, HB.out.below⟩
  by_cases h1 : b = c
  · have hno : Hid (trB sz m x a b c = false) := by show _ = _; unfold trB; subst h1; simp
    have i0 : (a == b) = false := by simpa using h0
    have i1 : (b == c) = true := by simpa using h1
    clear h0 h1
    go_enter Try.func166, Try.ntmps166
    go_wp2
    rw [← HW.out]
    go_ret
    exact ⟨ret_bool hno.out.symm, HB.out.below⟩
  by_cases h2 : c = a
  · have hno : Hid (trB sz m x a b c = false) := by show _ = _; unfold trB; subst h2; simp
    have i0 : (a == b) = false := by simpa using h0
    have i1 : (b == c) = false := by simpa using h1
    have i2 : (c == a) = true := by simpa using h2
    clear h0 h1 h2
    go_enter Try.func166, Try.ntmps166
    go_wp2
    rw [← HW.out]
    go_ret
    exact ⟨ret_bool hno.out.symm, HB.out.below⟩
  have Heq : Hid (trB sz m x a b c = (avB sz m x a b c && avB sz m x b c a && avB sz m x c a b)) := by show _ = _; unfold trB; rw [decide_eq_true h0, decide_eq_true h1, decide_eq_true (show a ≠ c from fun e => h2 e.symm)]; simp
  have i0 : (a == b) = false := by simpa using h0
  have i1 : (b == c) = false := by simpa using h1
  have i2 : (c == a) = false := by simpa using h2
  clear h0 h1 h2
  go_enter Try.func166, Try.ntmps166
  have e0 := HC.out.c0
  have e1 := HC.out.c1
  go_wp2_with fail
  rw [← HW.out]
  refine (AvoidingPath_i sz A m cA x a b c W HK.out hm).mono ?_
  rintro e w1 ⟨A5, n5, c5, rfl, hb1⟩
  clear HW
  clear e0 e1
  replace HB := Lib.hid (HB.out.keep hb1)
  replace HK := Lib.hid (HK.out.keep hb1)
  replace HC := Lib.hid (HC.out.keep hb1)
  clear hb1
  have e0 := HC.out.c0
  have e1 := HC.out.c1
  go_wp2_with fail
  refine (AvoidingPath_i sz A m cA x b c a w1 HK.out hm).mono ?_
  rintro e w2 ⟨A6, n6, c6, rfl, hb2⟩
  clear e0 e1
  replace HB := Lib.hid (HB.out.keep hb2)
  replace HK := Lib.hid (HK.out.keep hb2)
  replace HC := Lib.hid (HC.out.keep hb2)
  clear hb2
  have e0 := HC.out.c0
  have e1 := HC.out.c1
  go_wp2_with fail
  refine (AvoidingPath_i sz A m cA x c a b w2 HK.out hm).mono ?_
  rintro e w3 ⟨A7, n7, c7, rfl, hb3⟩
  clear e0 e1
  replace HB := Lib.hid (HB.out.keep hb3)
  replace HK := Lib.hid (HK.out.keep hb3)
  replace HC := Lib.hid (HC.out.keep hb3)
  clear hb3
  have e0 := HC.out.c0
  have e1 := HC.out.c1
  obtain ⟨t1, ht1⟩ : ∃ t, t = avB sz m x a b c := ⟨_, rfl⟩
  obtain ⟨t2, ht2⟩ : ∃ t, t = avB sz m x b c a := ⟨_, rfl⟩
  obtain ⟨t3, ht3⟩ : ∃ t, t = avB sz m x c a b := ⟨_, rfl⟩
  rw [← ht1, ← ht2, ← ht3] at Heq
  simp only [← ht1, ← ht2, ← ht3]
  clear ht1 ht2 ht3 HK HC e0 e1
  cases t1 <;> cases t2 <;> cases t3 <;> (go_wp2; go_ret; exact ⟨ret_bool (by rw [Heq.out]; rfl), HB.out.below⟩)
end
section
variable (sz : Int) (A : Option Addr) (m c : Nat) (x : Nat → Int) (Al : Option Addr) (n cl : Nat) (l : List Int) (w : World)
set_option maxRecDepth 100000 in
set_option maxHeartbeats 3200000 in
theorem IsIntervalObstacle_i (h : GA w A m c x) (hl : LI w Al n cl l) (hm : m ≤ 1048576) (hn : n ≤ 1048576) :
    Calls Try.prog 86 #[.agg #[.int .i64 sz, .slice A m c], .slice Al n cl] w fun e w' => e = .returned (.bool (inB sz m x l)) ∧ Below w.heap.size w w' := by
  obtain ⟨W, hW⟩ : ∃ W : World, W = (w.alloc (Obj.cells #[Value.int IntKind.i64 sz, Value.slice A m c] 28)) := ⟨_, rfl⟩
  have HB : Hid (From w W) := by rw [hW]; exact From.alloc _ _
  have HK := Lib.hid (h.keep HB.out.below)
  have HL := Lib.hid (hl.keep HB.out.below)
  have HC : Hid (GC W w.heap.size sz A m c) := by rw [hW]; exact GC.new _ _ _ _ _
  have HW := Lib.hid hW
  have HN := Lib.hid hl.len
  clear hW h hl
  have e0 := HC.out.c0
  have e1 := HC.out.c1
  cases hh : hoB sz m x l
  rotate_left
  · have hyes : Hid (inB sz m x l = true) := by show _ = _; unfold inB; rw [hh, Bool.true_or]
    have KH : Hid (∀ z : World, Below W.heap.size W z → Calls Try.prog 85 #[.agg #[.int .i64 sz, .slice A m c], .slice Al n cl] z fun e w' => e = .returned (.bool true) ∧ Below z.heap.size z w') := fun z hz => by
      have := IsHole_i sz A m c x Al n cl l z (HK.out.keep hz) (HL.out.keep hz) hm hn
      rwa [hh] at this
    clear hh
    go_enter Try.func86, Try.ntmps86
    go_wp2_with fail
    rw [← HW.out]
    have HSC : Hid (∀ z : World, Below W.heap.size W z → (Below W.heap.size W z ∧ z.cell? ⟨w.heap.size, 0, none⟩ = some (.int .i64 sz) ∧ z.cell? ⟨w.heap.size, 1, none⟩ = some (.slice A m c))) := fun z hz => ⟨hz, up_ hz e0, up_ hz e1⟩
    have HZ0 : Hid (Below W.heap.size W W.drew) := (Below.refl _ _).drew
    have HS1 := Lib.hid (HSC.out _ HZ0.out)
    have KR1 : Hid (∀ z : World, Below W.heap.size W z → _) := fun z hz => KH.out z hz
    refine wp_region_held_drew (S := fun z => Below W.heap.size W z ∧ z.cell? ⟨w.heap.size, 0, none⟩ = some (.int .i64 sz) ∧ z.cell? ⟨w.heap.size, 1, none⟩ = some (.slice A m c)) (by kernel_rfl) HS1.out (fun hHeld => ?_)
    refine take_yes (i := 0) (d := 5) (v := ?v1) rfl rfl (by kernel_rfl) (by kernel_rfl) (by kernel_rfl) (fun _ _ _ h => h) (by rfl) ?y1 (by assumption) ?r1
    case y1 => (intro w hSw; (try dsimp only at hSw); go_simp <;> with_reducible rfl)
    simp only [Act.put, List.setIfInBounds_toArray, List.set_cons_zero, List.set_cons_succ]
    refine take_yes (i := 1) (d := 6) (v := ?v2) rfl rfl (by kernel_rfl) (by kernel_rfl) (by kernel_rfl) (fun _ _ _ h => h) (by rfl) ?y2 (by assumption) ?r2
    case y2 => (intro w hSw; (try dsimp only at hSw); go_simp <;> with_reducible rfl)
    simp only [Act.put, List.setIfInBounds_toArray, List.set_cons_zero, List.set_cons_succ]
    refine wpAnyH_ready (rs := [2]) (by kernel_rfl) (by simp) ?_
    refine AllReadyH.cons rfl (fun K hK => ?_) AllReadyH.nil
    go_simp
    go_at_call 85; refine (KR1.out _ HZ0.out).mono ?_
    rintro e w1 ⟨rfl, hb1⟩
    have hz1 := bl_trans HZ0.out hb1
    refine hK.out _ _ (HSC.out _ hz1) (fun hHeld => ?_)
    clear hK K
    try simp only [Act.put, List.setIfInBounds_toArray, List.set_cons_zero, List.set_cons_succ]
    refine take_yes (i := 3) (d := 8) (v := ?v3) rfl rfl (by kernel_rfl) (by kernel_rfl) (by kernel_rfl) (fun _ _ _ h => h) (by rfl) ?y3 (by assumption) ?r3
    case y3 => (intro w hSw; (try dsimp only at hSw); go_simp <;> with_reducible rfl)
    simp only [Act.put, List.setIfInBounds_toArray, List.set_cons_zero, List.set_cons_succ]
    refine take_no (i := 4) (d := 9) rfl rfl (by kernel_rfl) (by kernel_rfl) (by kernel_rfl) (fun _ _ _ h => h) (by rfl) (by assumption) ?_
    simp only [Act.put, List.setIfInBounds_toArray, List.set_cons_zero, List.set_cons_succ]
    refine take_no (i := 5) (d := 10) rfl rfl (by kernel_rfl) (by kernel_rfl) (by kernel_rfl) (fun _ _ _ h => h) (by rfl) (by assumption) ?_
    simp only [Act.put, List.setIfInBounds_toArray, List.set_cons_zero, List.set_cons_succ]
    refine take_no (i := 6) (d := 11) rfl rfl (by kernel_rfl) (by kernel_rfl) (by kernel_rfl) (fun _ _ _ h => h) (by rfl) (by assumption) ?_
    simp only [Act.put, List.setIfInBounds_toArray, List.set_cons_zero, List.set_cons_succ]
    refine take_no (i := 7) (d := 12) rfl rfl (by kernel_rfl) (by kernel_rfl) (by kernel_rfl) (fun _ _ _ h => h) (by rfl) (by assumption) ?_
    simp only [Act.put, List.setIfInBounds_toArray, List.set_cons_zero, List.set_cons_succ]
    refine take_no (i := 8) (d := 13) rfl rfl (by kernel_rfl) (by kernel_rfl) (by kernel_rfl) (fun _ _ _ h => h) (by rfl) (by assumption) ?_
    simp only [Act.put, List.setIfInBounds_toArray, List.set_cons_zero, List.set_cons_succ]
    refine take_no (i := 9) (d := 14) rfl rfl (by kernel_rfl) (by kernel_rfl) (by kernel_rfl) (fun _ _ _ h => h) (by rfl) (by assumption) ?_
    simp only [Act.put, List.setIfInBounds_toArray, List.set_cons_zero, List.set_cons_succ]
    refine take_no (i := 10) (d := 15) rfl rfl (by kernel_rfl) (by kernel_rfl) (by kernel_rfl) (fun _ _ _ h => h) (by rfl) (by assumption) ?_
    simp only [Act.put, List.setIfInBounds_toArray, List.set_cons_zero, List.set_cons_succ]
    refine take_no (i := 11) (d := 16) rfl rfl (by kernel_rfl) (by kernel_rfl) (by kernel_rfl) (fun _ _ _ h => h) (by rfl) (by assumption) ?_
    simp only [Act.put, List.setIfInBounds_toArray, List.set_cons_zero, List.set_cons_succ]
    refine take_no (i := 12) (d := 17) rfl rfl (by kernel_rfl) (by kernel_rfl) (by kernel_rfl) (fun _ _ _ h => h) (by rfl) (by assumption) ?_
    simp only [Act.put, List.setIfInBounds_toArray, List.set_cons_zero, List.set_cons_succ]
    refine take_no (i := 13) (d := 18) rfl rfl (by kernel_rfl) (by kernel_rfl) (by kernel_rfl) (fun _ _ _ h => h) (by rfl) (by assumption) ?_
    simp only [Act.put, List.setIfInBounds_toArray, List.set_cons_zero, List.set_cons_succ]
    refine take_no (i := 14) (d := 19) rfl rfl (by kernel_rfl) (by kernel_rfl) (by kernel_rfl) (fun _ _ _ h => h) (by rfl) (by assumption) ?_
    simp only [Act.put, List.setIfInBounds_toArray, List.set_cons_zero, List.set_cons_succ]
    refine take_no (i := 15) (d := 20) rfl rfl (by kernel_rfl) (by kernel_rfl) (by kernel_rfl) (fun _ _ _ h => h) (by rfl) (by assumption) ?_
    simp only [Act.put, List.setIfInBounds_toArray, List.set_cons_zero, List.set_cons_succ]
    refine take_no (i := 16) (d := 21) rfl rfl (by kernel_rfl) (by kernel_rfl) (by kernel_rfl) (fun _ _ _ h => h) (by rfl) (by assumption) ?_
    simp only [Act.put, List.setIfInBounds_toArray, List.set_cons_zero, List.set_cons_succ]
    refine take_no (i := 17) (d := 22) rfl rfl (by kernel_rfl) (by kernel_rfl) (by kernel_rfl) (fun _ _ _ h => h) (by rfl) (by assumption) ?_
    simp only [Act.put, List.setIfInBounds_toArray, List.set_cons_zero, List.set_cons_succ]
    refine take_no (i := 18) (d := 23) rfl rfl (by kernel_rfl) (by kernel_rfl) (by kernel_rfl) (fun _ _ _ h => h) (by rfl) (by assumption) ?_
    simp only [Act.put, List.setIfInBounds_toArray, List.set_cons_zero, List.set_cons_succ]
    refine take_no (i := 19) (d := 24) rfl rfl (by kernel_rfl) (by kernel_rfl) (by kernel_rfl) (fun _ _ _ h => h) (by rfl) (by assumption) ?_
    simp only [Act.put, List.setIfInBounds_toArray, List.set_cons_zero, List.set_cons_succ]
    refine take_yes (i := 20) (d := 25) (v := ?v4) rfl rfl (by kernel_rfl) (by kernel_rfl) (by kernel_rfl) (fun _ _ _ h => h) (by rfl) ?y4 (by assumption) ?r4
    case y4 => (intro w hSw; (try dsimp only at hSw); go_simp <;> with_reducible rfl)
    simp only [Act.put, List.setIfInBounds_toArray, List.set_cons_zero, List.set_cons_succ]
    refine take_yes (i := 21) (d := 4) (v := ?v5) rfl rfl (by kernel_rfl) (by kernel_rfl) (by kernel_rfl) (fun _ _ _ h => h) (by rfl) ?y5 (by assumption) ?r5
    case y5 => (intro w hSw; (try dsimp only at hSw); go_simp <;> with_reducible rfl)
    simp only [Act.put, List.setIfInBounds_toArray, List.set_cons_zero, List.set_cons_succ]
    refine wpAnyH_done (by kernel_rfl) ?_ _
    replace HB := Lib.hid (HB.out.keep hz1)
    clear hb1 hz1 HSC HZ0 HS1 KR1
    go_wp2
    go_ret
    exact ⟨ret_bool hyes.out.symm, HB.out.below⟩
  by_cases h3 : n = 3
  rotate_left
  · have hno : Hid (inB sz m x l = false) := by show _ = _; unfold inB; rw [hh, decide_eq_false (by rw [← HN.out]; exact h3)]; rfl
    have KH : Hid (∀ z : World, Below W.heap.size W z → Calls Try.prog 85 #[.agg #[.int .i64 sz, .slice A m c], .slice Al n cl] z fun e w' => e = .returned (.bool false) ∧ Below z.heap.size z w') := fun z hz => by
      have := IsHole_i sz A m c x Al n cl l z (HK.out.keep hz) (HL.out.keep hz) hm hn
      rwa [hh] at this
    have i3 : ((n : Int) == 3) = false := by simp; omega
    clear hh h3
    go_enter Try.func86, Try.ntmps86
    go_wp2_with fail
    rw [← HW.out]
    have HSC : Hid (∀ z : World, Below W.heap.size W z → (Below W.heap.size W z ∧ z.cell? ⟨w.heap.size, 0, none⟩ = some (.int .i64 sz) ∧ z.cell? ⟨w.heap.size, 1, none⟩ = some (.slice A m c))) := fun z hz => ⟨hz, up_ hz e0, up_ hz e1⟩
    have HZ0 : Hid (Below W.heap.size W W.drew) := (Below.refl _ _).drew
    have HS1 := Lib.hid (HSC.out _ HZ0.out)
    have KR1 : Hid (∀ z : World, Below W.heap.size W z → _) := fun z hz => KH.out z hz
    refine wp_region_held_drew (S := fun z => Below W.heap.size W z ∧ z.cell? ⟨w.heap.size, 0, none⟩ = some (.int .i64 sz) ∧ z.cell? ⟨w.heap.size, 1, none⟩ = some (.slice A m c)) (by kernel_rfl) HS1.out (fun hHeld => ?_)
    refine take_yes (i := 0) (d := 5) (v := ?v6) rfl rfl (by kernel_rfl) (by kernel_rfl) (by kernel_rfl) (fun _ _ _ h => h) (by rfl) ?y6 (by assumption) ?r6
    case y6 => (intro w hSw; (try dsimp only at hSw); go_simp <;> with_reducible rfl)
    simp only [Act.put, List.setIfInBounds_toArray, List.set_cons_zero, List.set_cons_succ]
    refine take_yes (i := 1) (d := 6) (v := ?v7) rfl rfl (by kernel_rfl) (by kernel_rfl) (by kernel_rfl) (fun _ _ _ h => h) (by rfl) ?y7 (by assumption) ?r7
    case y7 => (intro w hSw; (try dsimp only at hSw); go_simp <;> with_reducible rfl)
    simp only [Act.put, List.setIfInBounds_toArray, List.set_cons_zero, List.set_cons_succ]
    refine wpAnyH_ready (rs := [2]) (by kernel_rfl) (by simp) ?_
    refine AllReadyH.cons rfl (fun K hK => ?_) AllReadyH.nil
    go_simp
    go_at_call 85; refine (KR1.out _ HZ0.out).mono ?_
    rintro e w2 ⟨rfl, hb2⟩
    have hz2 := bl_trans HZ0.out hb2
    refine hK.out _ _ (HSC.out _ hz2) (fun hHeld => ?_)
    clear hK K
    try simp only [Act.put, List.setIfInBounds_toArray, List.set_cons_zero, List.set_cons_succ]
    refine take_yes (i := 3) (d := 8) (v := ?v8) rfl rfl (by kernel_rfl) (by kernel_rfl) (by kernel_rfl) (fun _ _ _ h => h) (by rfl) ?y8 (by assumption) ?r8
    case y8 => (intro w hSw; (try dsimp only at hSw); go_simp <;> with_reducible rfl)
    simp only [Act.put, List.setIfInBounds_toArray, List.set_cons_zero, List.set_cons_succ]
    refine take_yes (i := 4) (d := 9) (v := ?v9) rfl rfl (by kernel_rfl) (by kernel_rfl) (by kernel_rfl) (fun _ _ _ h => h) (by rfl) ?y9 (by assumption) ?r9
    case y9 => (intro w hSw; (try dsimp only at hSw); go_simp <;> with_reducible rfl)
    simp only [Act.put, List.setIfInBounds_toArray, List.set_cons_zero, List.set_cons_succ]
    refine take_yes (i := 5) (d := 10) (v := ?v10) rfl rfl (by kernel_rfl) (by kernel_rfl) (by kernel_rfl) (fun _ _ _ h => h) (by rfl) ?y10 (by assumption) ?r10
    case y10 => (intro w hSw; (try dsimp only at hSw); go_simp <;> with_reducible rfl)
    simp only [Act.put, List.setIfInBounds_toArray, List.set_cons_zero, List.set_cons_succ]
    refine take_yes (i := 6) (d := 11) (v := ?v11) rfl rfl (by kernel_rfl) (by kernel_rfl) (by kernel_rfl) (fun _ _ _ h => h) (by rfl) ?y11 (by assumption) ?r11
    case y11 => (intro w hSw; (try dsimp only at hSw); go_simp <;> with_reducible rfl)
    simp only [Act.put, List.setIfInBounds_toArray, List.set_cons_zero, List.set_cons_succ]
    refine take_yes (i := 7) (d := 12) (v := ?v12) rfl rfl (by kernel_rfl) (by kernel_rfl) (by kernel_rfl) (fun _ _ _ h => h) (by rfl) ?y12 (by assumption) ?r12
    case y12 => (intro w hSw; (try dsimp only at hSw); go_simp <;> with_reducible rfl)
    simp only [Act.put, List.setIfInBounds_toArray, List.set_cons_zero, List.set_cons_succ]
    refine take_no (i := 8) (d := 13) rfl rfl (by kernel_rfl) (by kernel_rfl) (by kernel_rfl) (fun _ _ _ h => h) (by rfl) (by assumption) ?_
    simp only [Act.put, List.setIfInBounds_toArray, List.set_cons_zero, List.set_cons_succ]
    refine take_no (i := 9) (d := 14) rfl rfl (by kernel_rfl) (by kernel_rfl) (by kernel_rfl) (fun _ _ _ h => h) (by rfl) (by assumption) ?_
    simp only [Act.put, List.setIfInBounds_toArray, List.set_cons_zero, List.set_cons_succ]
    refine take_no (i := 10) (d := 15) rfl rfl (by kernel_rfl) (by kernel_rfl) (by kernel_rfl) (fun _ _ _ h => h) (by rfl) (by assumption) ?_
    simp only [Act.put, List.setIfInBounds_toArray, List.set_cons_zero, List.set_cons_succ]
    refine take_no (i := 11) (d := 16) rfl rfl (by kernel_rfl) (by kernel_rfl) (by kernel_rfl) (fun _ _ _ h => h) (by rfl) (by assumption) ?_
    simp only [Act.put, List.setIfInBounds_toArray, List.set_cons_zero, List.set_cons_succ]
    refine take_no (i := 12) (d := 17) rfl rfl (by kernel_rfl) (by kernel_rfl) (by kernel_rfl) (fun _ _ _ h => h) (by rfl) (by assumption) ?_
    simp only [Act.put, List.setIfInBounds_toArray, List.set_cons_zero, List.set_cons_succ]
    refine take_no (i := 13) (d := 18) rfl rfl (by kernel_rfl) (by kernel_rfl) (by kernel_rfl) (fun _ _ _ h => h) (by rfl) (by assumption) ?_
    simp only [Act.put, List.setIfInBounds_toArray, List.set_cons_zero, List.set_cons_succ]
    refine take_no (i := 14) (d := 19) rfl rfl (by kernel_rfl) (by kernel_rfl) (by kernel_rfl) (fun _ _ _ h => h) (by rfl) (by assumption) ?_
    simp only [Act.put, List.setIfInBounds_toArray, List.set_cons_zero, List.set_cons_succ]
    refine take_no (i := 15) (d := 20) rfl rfl (by kernel_rfl) (by kernel_rfl) (by kernel_rfl) (fun _ _ _ h => h) (by rfl) (by assumption) ?_
    simp only [Act.put, List.setIfInBounds_toArray, List.set_cons_zero, List.set_cons_succ]
    refine take_no (i := 16) (d := 21) rfl rfl (by kernel_rfl) (by kernel_rfl) (by kernel_rfl) (fun _ _ _ h => h) (by rfl) (by assumption) ?_
    simp only [Act.put, List.setIfInBounds_toArray, List.set_cons_zero, List.set_cons_succ]
    refine take_no (i := 17) (d := 22) rfl rfl (by kernel_rfl) (by kernel_rfl) (by kernel_rfl) (fun _ _ _ h => h) (by rfl) (by assumption) ?_
    simp only [Act.put, List.setIfInBounds_toArray, List.set_cons_zero, List.set_cons_succ]
    refine take_no (i := 18) (d := 23) rfl rfl (by kernel_rfl) (by kernel_rfl) (by kernel_rfl) (fun _ _ _ h => h) (by rfl) (by assumption) ?_
    simp only [Act.put, List.setIfInBounds_toArray, List.set_cons_zero, List.set_cons_succ]
    refine take_yes (i := 19) (d := 24) (v := ?v13) rfl rfl (by kernel_rfl) (by kernel_rfl) (by kernel_rfl) (fun _ _ _ h => h) (by rfl) ?y13 (by assumption) ?r13
    case y13 => (intro w hSw; (try dsimp only at hSw); go_simp <;> with_reducible rfl)
    simp only [Act.put, List.setIfInBounds_toArray, List.set_cons_zero, List.set_cons_succ]
    refine take_yes (i := 20) (d := 25) (v := ?v14) rfl rfl (by kernel_rfl) (by kernel_rfl) (by kernel_rfl) (fun _ _ _ h => h) (by rfl) ?y14 (by assumption) ?r14
    case y14 => (intro w hSw; (try dsimp only at hSw); go_simp <;> with_reducible rfl)
    simp only [Act.put, List.setIfInBounds_toArray, List.set_cons_zero, List.set_cons_succ]
    refine take_yes (i := 21) (d := 4) (v := ?v15) rfl rfl (by kernel_rfl) (by kernel_rfl) (by kernel_rfl) (fun _ _ _ h => h) (by rfl) ?y15 (by assumption) ?r15
    case y15 => (intro w hSw; (try dsimp only at hSw); go_simp <;> with_reducible rfl)
    simp only [Act.put, List.setIfInBounds_toArray, List.set_cons_zero, List.set_cons_succ]
    refine wpAnyH_done (by kernel_rfl) ?_ _
    replace HB := Lib.hid (HB.out.keep hz2)
    clear hb2 hz2 HSC HZ0 HS1 KR1
    go_wp2
    go_ret
    exact ⟨ret_bool hno.out.symm, HB.out.below⟩
  subst h3
  have heq : Hid (inB sz m x l = trB sz m x (l.getD 0 0) (l.getD 1 0) (l.getD 2 0)) := by show _ = _; unfold inB; rw [hh, decide_eq_true HN.out.symm]; rfl
  have KH : Hid (∀ z : World, Below W.heap.size W z → Calls Try.prog 85 #[.agg #[.int .i64 sz, .slice A m c], .slice Al 3 cl] z fun e w' => e = .returned (.bool false) ∧ Below z.heap.size z w') := fun z hz => by
    have := IsHole_i sz A m c x Al 3 cl l z (HK.out.keep hz) (HL.out.keep hz) hm hn
    rwa [hh] at this
  obtain ⟨b2, o2, hA⟩ := HL.out.addr (by omega)
  subst hA
  have p0 : W.cell? ⟨b2, o2, none⟩ = some (.int .i64 (l.getD 0 0)) := HL.out.at (j := 0) (by omega)
  have p1 := HL.out.at (j := 1) (by omega)
  have p2 := HL.out.at (j := 2) (by omega)
  obtain ⟨v0, hv0⟩ : ∃ v, v = l.getD 0 0 := ⟨_, rfl⟩
  obtain ⟨v1, hv1⟩ : ∃ v, v = l.getD 1 0 := ⟨_, rfl⟩
  obtain ⟨v2, hv2⟩ : ∃ v, v = l.getD 2 0 := ⟨_, rfl⟩
  rw [← hv0] at p0 heq
  rw [← hv1] at p1 heq
  rw [← hv2] at p2 heq
  have KT : Hid (∀ z : World, Below W.heap.size W z → Calls Try.prog 166 #[.agg #[.int .i64 sz, .slice A m c], .int .i64 v0, .int .i64 v1, .int .i64 v2] z fun e w' => e = .returned (.bool (trB sz m x v0 v1 v2)) ∧ Below z.heap.size z w') := fun z hz => IsTriple_i sz A m c x v0 v1 v2 z (HK.out.keep hz) hm
  clear hh hv0 hv1 hv2
  go_enter Try.func86, Try.ntmps86
  go_wp2_with fail
  rw [← HW.out]
  have HSC : Hid (∀ z : World, Below W.heap.size W z → (Below W.heap.size W z ∧ z.cell? ⟨w.heap.size, 0, none⟩ = some (.int .i64 sz) ∧ z.cell? ⟨w.heap.size, 1, none⟩ = some (.slice A m c) ∧ z.cell? ⟨b2, o2, none⟩ = some (.int .i64 v0) ∧ z.cell? ⟨b2, o2 + 1, none⟩ = some (.int .i64 v1) ∧ z.cell? ⟨b2, o2 + 2, none⟩ = some (.int .i64 v2))) := fun z hz => ⟨hz, up_ hz e0, up_ hz e1, up_ hz p0, up_ hz p1, up_ hz p2⟩
  have HZ0 : Hid (Below W.heap.size W W.drew) := (Below.refl _ _).drew
  have HS1 := Lib.hid (HSC.out _ HZ0.out)
  have KR1 : Hid (∀ z : World, Below W.heap.size W z → _) := fun z hz => KH.out z hz
  have KR2 : Hid (∀ z : World, Below W.heap.size W z → _) := fun z hz => KT.out z hz
  refine wp_region_held_drew (S := fun z => Below W.heap.size W z ∧ z.cell? ⟨w.heap.size, 0, none⟩ = some (.int .i64 sz) ∧ z.cell? ⟨w.heap.size, 1, none⟩ = some (.slice A m c) ∧ z.cell? ⟨b2, o2, none⟩ = some (.int .i64 v0) ∧ z.cell? ⟨b2, o2 + 1, none⟩ = some (.int .i64 v1) ∧ z.cell? ⟨b2, o2 + 2, none⟩ = some (.int .i64 v2)) (by kernel_rfl) HS1.out (fun hHeld => ?_)
  refine take_yes (i := 0) (d := 5) (v := ?v16) rfl rfl (by kernel_rfl) (by kernel_rfl) (by kernel_rfl) (fun _ _ _ h => h) (by rfl) ?y16 (by assumption) ?r16
  case y16 => (intro w hSw; (try dsimp only at hSw); go_simp <;> with_reducible rfl)
  simp only [Act.put, List.setIfInBounds_toArray, List.set_cons_zero, List.set_cons_succ]
  refine take_yes (i := 1) (d := 6) (v := ?v17) rfl rfl (by kernel_rfl) (by kernel_rfl) (by kernel_rfl) (fun _ _ _ h => h) (by rfl) ?y17 (by assumption) ?r17
  case y17 => (intro w hSw; (try dsimp only at hSw); go_simp <;> with_reducible rfl)
  simp only [Act.put, List.setIfInBounds_toArray, List.set_cons_zero, List.set_cons_succ]
  refine wpAnyH_ready (rs := [2]) (by kernel_rfl) (by simp) ?_
  refine AllReadyH.cons rfl (fun K hK => ?_) AllReadyH.nil
  go_simp
  go_at_call 85; refine (KR1.out _ HZ0.out).mono ?_
  rintro e w3 ⟨rfl, hb3⟩
  have hz3 := bl_trans HZ0.out hb3
  refine hK.out _ _ (HSC.out _ hz3) (fun hHeld => ?_)
  clear hK K
  try simp only [Act.put, List.setIfInBounds_toArray, List.set_cons_zero, List.set_cons_succ]
  refine take_yes (i := 3) (d := 8) (v := ?v18) rfl rfl (by kernel_rfl) (by kernel_rfl) (by kernel_rfl) (fun _ _ _ h => h) (by rfl) ?y18 (by assumption) ?r18
  case y18 => (intro w hSw; (try dsimp only at hSw); go_simp <;> with_reducible rfl)
  simp only [Act.put, List.setIfInBounds_toArray, List.set_cons_zero, List.set_cons_succ]
  refine take_yes (i := 4) (d := 9) (v := ?v19) rfl rfl (by kernel_rfl) (by kernel_rfl) (by kernel_rfl) (fun _ _ _ h => h) (by rfl) ?y19 (by assumption) ?r19
  case y19 => (intro w hSw; (try dsimp only at hSw); go_simp <;> with_reducible rfl)
  simp only [Act.put, List.setIfInBounds_toArray, List.set_cons_zero, List.set_cons_succ]
  refine take_yes (i := 5) (d := 10) (v := ?v20) rfl rfl (by kernel_rfl) (by kernel_rfl) (by kernel_rfl) (fun _ _ _ h => h) (by rfl) ?y20 (by assumption) ?r20
  case y20 => (intro w hSw; (try dsimp only at hSw); go_simp <;> with_reducible rfl)
  simp only [Act.put, List.setIfInBounds_toArray, List.set_cons_zero, List.set_cons_succ]
  refine take_yes (i := 6) (d := 11) (v := ?v21) rfl rfl (by kernel_rfl) (by kernel_rfl) (by kernel_rfl) (fun _ _ _ h => h) (by rfl) ?y21 (by assumption) ?r21
  case y21 => (intro w hSw; (try dsimp only at hSw); go_simp <;> with_reducible rfl)
  simp only [Act.put, List.setIfInBounds_toArray, List.set_cons_zero, List.set_cons_succ]
  refine take_yes (i := 7) (d := 12) (v := ?v22) rfl rfl (by kernel_rfl) (by kernel_rfl) (by kernel_rfl) (fun _ _ _ h => h) (by rfl) ?y22 (by assumption) ?r22
  case y22 => (intro w hSw; (try dsimp only at hSw); go_simp <;> with_reducible rfl)
  simp only [Act.put, List.setIfInBounds_toArray, List.set_cons_zero, List.set_cons_succ]
  refine take_yes (i := 8) (d := 13) (v := ?v23) rfl rfl (by kernel_rfl) (by kernel_rfl) (by kernel_rfl) (fun _ _ _ h => h) (by rfl) ?y23 (by assumption) ?r23
  case y23 => (intro w hSw; (try dsimp only at hSw); go_simp <;> with_reducible rfl)
  simp only [Act.put, List.setIfInBounds_toArray, List.set_cons_zero, List.set_cons_succ]
  refine take_yes (i := 9) (d := 14) (v := ?v24) rfl rfl (by kernel_rfl) (by kernel_rfl) (by kernel_rfl) (fun _ _ _ h => h) (by rfl) ?y24 (by assumption) ?r24
  case y24 => (intro w hSw; (try dsimp only at hSw); go_simp <;> with_reducible rfl)
  simp only [Act.put, List.setIfInBounds_toArray, List.set_cons_zero, List.set_cons_succ]
  refine take_yes (i := 10) (d := 15) (v := ?v25) rfl rfl (by kernel_rfl) (by kernel_rfl) (by kernel_rfl) (fun _ _ _ h => h) (by rfl) ?y25 (by assumption) ?r25
  case y25 => (intro w hSw; (try dsimp only at hSw); go_simp <;> with_reducible rfl)
  simp only [Act.put, List.setIfInBounds_toArray, List.set_cons_zero, List.set_cons_succ]
  refine take_yes (i := 11) (d := 16) (v := ?v26) rfl rfl (by kernel_rfl) (by kernel_rfl) (by kernel_rfl) (fun _ _ _ h => h) (by rfl) ?y26 (by assumption) ?r26
  case y26 => (intro w hSw; (try dsimp only at hSw); go_simp <;> with_reducible rfl)
  simp only [Act.put, List.setIfInBounds_toArray, List.set_cons_zero, List.set_cons_succ]
  refine take_yes (i := 12) (d := 17) (v := ?v27) rfl rfl (by kernel_rfl) (by kernel_rfl) (by kernel_rfl) (fun _ _ _ h => h) (by rfl) ?y27 (by assumption) ?r27
  case y27 => (intro w hSw; (try dsimp only at hSw); go_simp <;> with_reducible rfl)
  simp only [Act.put, List.setIfInBounds_toArray, List.set_cons_zero, List.set_cons_succ]
  refine take_yes (i := 13) (d := 18) (v := ?v28) rfl rfl (by kernel_rfl) (by kernel_rfl) (by kernel_rfl) (fun _ _ _ h => h) (by rfl) ?y28 (by assumption) ?r28
  case y28 => (intro w hSw; (try dsimp only at hSw); go_simp <;> with_reducible rfl)
  simp only [Act.put, List.setIfInBounds_toArray, List.set_cons_zero, List.set_cons_succ]
  refine take_yes (i := 14) (d := 19) (v := ?v29) rfl rfl (by kernel_rfl) (by kernel_rfl) (by kernel_rfl) (fun _ _ _ h => h) (by rfl) ?y29 (by assumption) ?r29
  case y29 => (intro w hSw; (try dsimp only at hSw); go_simp <;> with_reducible rfl)
  simp only [Act.put, List.setIfInBounds_toArray, List.set_cons_zero, List.set_cons_succ]
  refine take_yes (i := 15) (d := 20) (v := ?v30) rfl rfl (by kernel_rfl) (by kernel_rfl) (by kernel_rfl) (fun _ _ _ h => h) (by rfl) ?y30 (by assumption) ?r30
  case y30 => (intro w hSw; (try dsimp only at hSw); go_simp <;> with_reducible rfl)
  simp only [Act.put, List.setIfInBounds_toArray, List.set_cons_zero, List.set_cons_succ]
  refine take_yes (i := 16) (d := 21) (v := ?v31) rfl rfl (by kernel_rfl) (by kernel_rfl) (by kernel_rfl) (fun _ _ _ h => h) (by rfl) ?y31 (by assumption) ?r31
  case y31 => (intro w hSw; (try dsimp only at hSw); go_simp <;> with_reducible rfl)
  simp only [Act.put, List.setIfInBounds_toArray, List.set_cons_zero, List.set_cons_succ]
  refine take_yes (i := 17) (d := 22) (v := ?v32) rfl rfl (by kernel_rfl) (by kernel_rfl) (by kernel_rfl) (fun _ _ _ h => h) (by rfl) ?y32 (by assumption) ?r32
  case y32 => (intro w hSw; (try dsimp only at hSw); go_simp <;> with_reducible rfl)
  simp only [Act.put, List.setIfInBounds_toArray, List.set_cons_zero, List.set_cons_succ]
  refine wpAnyH_ready (rs := [18]) (by kernel_rfl) (by simp) ?_
  refine AllReadyH.cons rfl (fun K hK => ?_) AllReadyH.nil
  go_simp
  go_at_call 166; refine (KR2.out _ hz3).mono ?_
  rintro e w4 ⟨rfl, hb4⟩
  have hz4 := bl_trans hz3 hb4
  refine hK.out _ _ (HSC.out _ hz4) (fun hHeld => ?_)
  clear hK K
  try simp only [Act.put, List.setIfInBounds_toArray, List.set_cons_zero, List.set_cons_succ]
  refine take_yes (i := 19) (d := 24) (v := ?v33) rfl rfl (by kernel_rfl) (by kernel_rfl) (by kernel_rfl) (fun _ _ _ h => h) (by rfl) ?y33 (by assumption) ?r33
  case y33 => (intro w hSw; (try dsimp only at hSw); go_simp <;> with_reducible rfl)
  simp only [Act.put, List.setIfInBounds_toArray, List.set_cons_zero, List.set_cons_succ]
  refine take_yes (i := 20) (d := 25) (v := ?v34) rfl rfl (by kernel_rfl) (by kernel_rfl) (by kernel_rfl) (fun _ _ _ h => h) (by rfl) ?y34 (by assumption) ?r34
  case y34 => (intro w hSw; (try dsimp only at hSw); go_simp <;> with_reducible rfl)
  simp only [Act.put, List.setIfInBounds_toArray, List.set_cons_zero, List.set_cons_succ]
  refine take_yes (i := 21) (d := 4) (v := ?v35) rfl rfl (by kernel_rfl) (by kernel_rfl) (by kernel_rfl) (fun _ _ _ h => h) (by rfl) ?y35 (by assumption) ?r35
  case y35 => (intro w hSw; (try dsimp only at hSw); go_simp <;> with_reducible rfl)
  simp only [Act.put, List.setIfInBounds_toArray, List.set_cons_zero, List.set_cons_succ]
  refine wpAnyH_done (by kernel_rfl) ?_ _
  replace HB := Lib.hid (HB.out.keep hz4)
  clear hb3 hz3 hb4 hz4 HSC HZ0 HS1 KR1 KR2
  go_wp2
  go_ret
  exact ⟨ret_bool heq.out.symm, HB.out.below⟩
set_option maxRecDepth 100000 in
set_option maxHeartbeats 3200000 in
theorem IsProperObstacle_i (h : GA w A m c x) (hl : LI w Al n cl l) (hm : m ≤ 1048576) (hn : n ≤ 1048576) :
    Calls Try.prog 87 #[.agg #[.int .i64 sz, .slice A m c], .slice Al n cl] w fun e w' => e = .returned (.bool (prO sz m x l)) ∧ Below w.heap.size w w' := by
  obtain ⟨W, hW⟩ : ∃ W : World, W = (w.alloc (Obj.cells #[Value.int IntKind.i64 sz, Value.slice A m c] 28)) := ⟨_, rfl⟩
  have HB : Hid (From w W) := by rw [hW]; exact From.alloc _ _
  have HK := Lib.hid (h.keep HB.out.below)
  have HL := Lib.hid (hl.keep HB.out.below)
  have HC : Hid (GC W w.heap.size sz A m c) := by rw [hW]; exact GC.new _ _ _ _ _
  have HW := Lib.hid hW
  have HN := Lib.hid hl.len
  clear hW h hl
  go_enter Try.func87, Try.ntmps87
  have e0 := HC.out.c0
  have e1 := HC.out.c1
  go_wp2_with fail
  rw [← HW.out]
  refine (IsClaw_i sz A m c x Al n cl l W HK.out HL.out hm hn).mono ?_
  rintro e w1 ⟨rfl, hb1⟩
  clear HW
  clear e0 e1
  replace HB := Lib.hid (HB.out.keep hb1)
  replace HK := Lib.hid (HK.out.keep hb1)
  replace HL := Lib.hid (HL.out.keep hb1)
  replace HC := Lib.hid (HC.out.keep hb1)
  clear hb1
  have e0 := HC.out.c0
  have e1 := HC.out.c1
  cases hh : clB sz m x l
  rotate_left
  · have hyes : Hid (prO sz m x l = true) := by show _ = _; unfold prO; rw [hh, Bool.true_or]
    clear hh
    go_wp2
    go_ret
    exact ⟨ret_bool hyes.out.symm, HB.out.below⟩
  have heq : Hid (prO sz m x l = inB sz m x l) := by show _ = _; unfold prO; rw [hh, Bool.false_or]
  clear hh
  go_wp2_with fail
  refine (IsIntervalObstacle_i sz A m c x Al n cl l w1 HK.out HL.out hm hn).mono ?_
  rintro e w2 ⟨rfl, hb2⟩
  clear e0 e1
  replace HB := Lib.hid (HB.out.keep hb2)
  replace HK := Lib.hid (HK.out.keep hb2)
  replace HL := Lib.hid (HL.out.keep hb2)
  replace HC := Lib.hid (HC.out.keep hb2)
  clear hb2
  have e0 := HC.out.c0
  have e1 := HC.out.c1
  go_wp2
  go_ret
  exact ⟨ret_bool heq.out.symm, HB.out.below⟩
end
end Go.Proofs.Ytnnlmdenffnjbaa
