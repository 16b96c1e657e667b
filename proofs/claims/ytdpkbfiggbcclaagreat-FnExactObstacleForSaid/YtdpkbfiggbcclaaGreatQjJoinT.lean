/-
  Contracts: are just those pairs of a list neighbours that should be? an induced path, a hole, two edges, a claw, a sun: the reference's tests.
-/
import Derived.Test.YtdpkbfiggbcclaaGreatQjJoinI
import Derived.Test.YtdpkbfiggbcclaaGreatQjTake
namespace Go.Proofs.YtdpkbfiggbcclaaGreat
open Go.RowKit

section
variable (sz : Int) (A : Option Addr) (m c : Nat) (x : Nat → Int) (Al : Option Addr) (n cl : Nat) (l : List Int) (w : World)
set_option maxRecDepth 100000 in
set_option maxHeartbeats 12800000 in
theorem IsTwoEdges_s (h : GA w A m c x) (hl : LI w Al n cl l) (hm : m ≤ 1048576) (hn : n ≤ 1048576) :
    Calls Tryz.prog 317 #[.agg #[.int .i64 sz, .slice A m c], .slice Al n cl] w fun e w' => e = .returned (.bool (teB sz m x l)) ∧ Below w.heap.size w w' := by
  obtain ⟨W, hW⟩ : ∃ W : World, W = (w.alloc (Obj.cells #[Value.int IntKind.i64 sz, Value.slice A m c] 28)) := ⟨_, rfl⟩
  have HB : Hid (From w W) := by rw [hW]; exact From.alloc _ _
  have HK := Lib.hid (h.keep HB.out.below)
  have HL := Lib.hid (hl.keep HB.out.below)
  have HC : Hid (GC W w.heap.size sz A m c) := by rw [hW]; exact GC.new _ _ _ _ _
  have HW := Lib.hid hW
  have HN := Lib.hid hl.len
  have e0 := HC.out.c0
  have e1 := HC.out.c1
  clear hW h hl
  by_cases h0 : n = 4
  rotate_left
  · have hno : Hid (teB sz m x l = false) := by show _ = _; unfold teB; rw [decide_eq_false (by rw [← HN.out]; exact h0)]; rfl
    have i9 : ((n : Int) == 4) = false := by simp; omega
    clear h0
    go_enter Tryz.func317, Tryz.ntmps317
    go_wp2_with fail
    rw [← HW.out]
    have HSC : Hid (∀ z : World, Below W.heap.size W z → (Below W.heap.size W z)) := fun z hz => hz
    have HZ0 : Hid (Below W.heap.size W W.drew) := (Below.refl _ _).drew
    have HS1 := Lib.hid (HSC.out _ HZ0.out)
    refine wp_region_held_drew (S := fun z => Below W.heap.size W z) (by kernel_rfl) HS1.out (fun hHeld => ?_)
    refine take_yes (i := 0) (d := 5) (v := ?v1) rfl rfl (by kernel_rfl) (by kernel_rfl) (by kernel_rfl) (fun _ _ _ h => h) (by rfl) ?y1 (by assumption) ?r1
    case y1 => (intro w hSw; (try dsimp only at hSw); go_simp <;> with_reducible rfl)
    simp only [Act.put, sl0, sl1, sl2]
    refine take_yes (i := 1) (d := 6) (v := ?v2) rfl rfl (by kernel_rfl) (by kernel_rfl) (by kernel_rfl) (fun _ _ _ h => h) (by rfl) ?y2 (by assumption) ?r2
    case y2 => (intro w hSw; (try dsimp only at hSw); go_simp <;> with_reducible rfl)
    simp only [Act.put, sl0, sl1, sl2]
    refine take_yes (i := 2) (d := 7) (v := ?v3) rfl rfl (by kernel_rfl) (by kernel_rfl) (by kernel_rfl) (fun _ _ _ h => h) (by rfl) ?y3 (by assumption) ?r3
    case y3 => (intro w hSw; (try dsimp only at hSw); go_simp <;> with_reducible rfl)
    simp only [Act.put, sl0, sl1, sl2]
    refine take_yes (i := 3) (d := 8) (v := ?v4) rfl rfl (by kernel_rfl) (by kernel_rfl) (by kernel_rfl) (fun _ _ _ h => h) (by rfl) ?y4 (by assumption) ?r4
    case y4 => (intro w hSw; (try dsimp only at hSw); go_simp <;> with_reducible rfl)
    simp only [Act.put, sl0, sl1, sl2]
    refine take_no (i := 4) (d := 9) rfl rfl (by kernel_rfl) (by kernel_rfl) (by kernel_rfl) (fun _ _ _ h => h) (by rfl) (by assumption) ?_
    simp only [Act.put, sl0, sl1, sl2]
    refine take_no (i := 5) (d := 10) rfl rfl (by kernel_rfl) (by kernel_rfl) (by kernel_rfl) (fun _ _ _ h => h) (by rfl) (by assumption) ?_
    simp only [Act.put, sl0, sl1, sl2]
    refine take_no (i := 6) (d := 11) rfl rfl (by kernel_rfl) (by kernel_rfl) (by kernel_rfl) (fun _ _ _ h => h) (by rfl) (by assumption) ?_
    simp only [Act.put, sl0, sl1, sl2]
    refine take_yes (i := 7) (d := 12) (v := ?v5) rfl rfl (by kernel_rfl) (by kernel_rfl) (by kernel_rfl) (fun _ _ _ h => h) (by rfl) ?y5 (by assumption) ?r5
    case y5 => (intro w hSw; (try dsimp only at hSw); go_simp <;> with_reducible rfl)
    simp only [Act.put, sl0, sl1, sl2]
    refine take_yes (i := 8) (d := 13) (v := ?v6) rfl rfl (by kernel_rfl) (by kernel_rfl) (by kernel_rfl) (fun _ _ _ h => h) (by rfl) ?y6 (by assumption) ?r6
    case y6 => (intro w hSw; (try dsimp only at hSw); go_simp <;> with_reducible rfl)
    simp only [Act.put, sl0, sl1, sl2]
    refine take_no (i := 9) (d := 14) rfl rfl (by kernel_rfl) (by kernel_rfl) (by kernel_rfl) (fun _ _ _ h => h) (by rfl) (by assumption) ?_
    simp only [Act.put, sl0, sl1, sl2]
    refine take_no (i := 10) (d := 15) rfl rfl (by kernel_rfl) (by kernel_rfl) (by kernel_rfl) (fun _ _ _ h => h) (by rfl) (by assumption) ?_
    simp only [Act.put, sl0, sl1, sl2]
    refine take_no (i := 11) (d := 16) rfl rfl (by kernel_rfl) (by kernel_rfl) (by kernel_rfl) (fun _ _ _ h => h) (by rfl) (by assumption) ?_
    simp only [Act.put, sl0, sl1, sl2]
    refine take_no (i := 12) (d := 17) rfl rfl (by kernel_rfl) (by kernel_rfl) (by kernel_rfl) (fun _ _ _ h => h) (by rfl) (by assumption) ?_
    simp only [Act.put, sl0, sl1, sl2]
    refine take_no (i := 13) (d := 18) rfl rfl (by kernel_rfl) (by kernel_rfl) (by kernel_rfl) (fun _ _ _ h => h) (by rfl) (by assumption) ?_
    simp only [Act.put, sl0, sl1, sl2]
    refine take_no (i := 14) (d := 19) rfl rfl (by kernel_rfl) (by kernel_rfl) (by kernel_rfl) (fun _ _ _ h => h) (by rfl) (by assumption) ?_
    simp only [Act.put, sl0, sl1, sl2]
    refine take_no (i := 15) (d := 20) rfl rfl (by kernel_rfl) (by kernel_rfl) (by kernel_rfl) (fun _ _ _ h => h) (by rfl) (by assumption) ?_
    simp only [Act.put, sl0, sl1, sl2]
    refine take_no (i := 16) (d := 21) rfl rfl (by kernel_rfl) (by kernel_rfl) (by kernel_rfl) (fun _ _ _ h => h) (by rfl) (by assumption) ?_
    simp only [Act.put, sl0, sl1, sl2]
    refine take_yes (i := 17) (d := 22) (v := ?v7) rfl rfl (by kernel_rfl) (by kernel_rfl) (by kernel_rfl) (fun _ _ _ h => h) (by rfl) ?y7 (by assumption) ?r7
    case y7 => (intro w hSw; (try dsimp only at hSw); go_simp <;> with_reducible rfl)
    simp only [Act.put, sl0, sl1, sl2]
    refine take_yes (i := 18) (d := 23) (v := ?v8) rfl rfl (by kernel_rfl) (by kernel_rfl) (by kernel_rfl) (fun _ _ _ h => h) (by rfl) ?y8 (by assumption) ?r8
    case y8 => (intro w hSw; (try dsimp only at hSw); go_simp <;> with_reducible rfl)
    simp only [Act.put, sl0, sl1, sl2]
    refine take_no (i := 19) (d := 24) rfl rfl (by kernel_rfl) (by kernel_rfl) (by kernel_rfl) (fun _ _ _ h => h) (by rfl) (by assumption) ?_
    simp only [Act.put, sl0, sl1, sl2]
    refine take_no (i := 20) (d := 25) rfl rfl (by kernel_rfl) (by kernel_rfl) (by kernel_rfl) (fun _ _ _ h => h) (by rfl) (by assumption) ?_
    simp only [Act.put, sl0, sl1, sl2]
    refine take_no (i := 21) (d := 26) rfl rfl (by kernel_rfl) (by kernel_rfl) (by kernel_rfl) (fun _ _ _ h => h) (by rfl) (by assumption) ?_
    simp only [Act.put, sl0, sl1, sl2]
    refine take_no (i := 22) (d := 27) rfl rfl (by kernel_rfl) (by kernel_rfl) (by kernel_rfl) (fun _ _ _ h => h) (by rfl) (by assumption) ?_
    simp only [Act.put, sl0, sl1, sl2]
    refine take_no (i := 23) (d := 28) rfl rfl (by kernel_rfl) (by kernel_rfl) (by kernel_rfl) (fun _ _ _ h => h) (by rfl) (by assumption) ?_
    simp only [Act.put, sl0, sl1, sl2]
    refine take_no (i := 24) (d := 29) rfl rfl (by kernel_rfl) (by kernel_rfl) (by kernel_rfl) (fun _ _ _ h => h) (by rfl) (by assumption) ?_
    simp only [Act.put, sl0, sl1, sl2]
    refine take_no (i := 25) (d := 30) rfl rfl (by kernel_rfl) (by kernel_rfl) (by kernel_rfl) (fun _ _ _ h => h) (by rfl) (by assumption) ?_
    simp only [Act.put, sl0, sl1, sl2]
    refine take_no (i := 26) (d := 31) rfl rfl (by kernel_rfl) (by kernel_rfl) (by kernel_rfl) (fun _ _ _ h => h) (by rfl) (by assumption) ?_
    simp only [Act.put, sl0, sl1, sl2]
    refine take_yes (i := 27) (d := 32) (v := ?v9) rfl rfl (by kernel_rfl) (by kernel_rfl) (by kernel_rfl) (fun _ _ _ h => h) (by rfl) ?y9 (by assumption) ?r9
    case y9 => (intro w hSw; (try dsimp only at hSw); go_simp <;> with_reducible rfl)
    simp only [Act.put, sl0, sl1, sl2]
    refine take_yes (i := 28) (d := 33) (v := ?v10) rfl rfl (by kernel_rfl) (by kernel_rfl) (by kernel_rfl) (fun _ _ _ h => h) (by rfl) ?y10 (by assumption) ?r10
    case y10 => (intro w hSw; (try dsimp only at hSw); go_simp <;> with_reducible rfl)
    simp only [Act.put, sl0, sl1, sl2]
    refine take_no (i := 29) (d := 34) rfl rfl (by kernel_rfl) (by kernel_rfl) (by kernel_rfl) (fun _ _ _ h => h) (by rfl) (by assumption) ?_
    simp only [Act.put, sl0, sl1, sl2]
    refine take_no (i := 30) (d := 35) rfl rfl (by kernel_rfl) (by kernel_rfl) (by kernel_rfl) (fun _ _ _ h => h) (by rfl) (by assumption) ?_
    simp only [Act.put, sl0, sl1, sl2]
    refine take_no (i := 31) (d := 36) rfl rfl (by kernel_rfl) (by kernel_rfl) (by kernel_rfl) (fun _ _ _ h => h) (by rfl) (by assumption) ?_
    simp only [Act.put, sl0, sl1, sl2]
    refine take_no (i := 32) (d := 37) rfl rfl (by kernel_rfl) (by kernel_rfl) (by kernel_rfl) (fun _ _ _ h => h) (by rfl) (by assumption) ?_
    simp only [Act.put, sl0, sl1, sl2]
    refine take_no (i := 33) (d := 38) rfl rfl (by kernel_rfl) (by kernel_rfl) (by kernel_rfl) (fun _ _ _ h => h) (by rfl) (by assumption) ?_
    simp only [Act.put, sl0, sl1, sl2]
    refine take_no (i := 34) (d := 39) rfl rfl (by kernel_rfl) (by kernel_rfl) (by kernel_rfl) (fun _ _ _ h => h) (by rfl) (by assumption) ?_
    simp only [Act.put, sl0, sl1, sl2]
    refine take_no (i := 35) (d := 40) rfl rfl (by kernel_rfl) (by kernel_rfl) (by kernel_rfl) (fun _ _ _ h => h) (by rfl) (by assumption) ?_
    simp only [Act.put, sl0, sl1, sl2]
    refine take_no (i := 36) (d := 41) rfl rfl (by kernel_rfl) (by kernel_rfl) (by kernel_rfl) (fun _ _ _ h => h) (by rfl) (by assumption) ?_
    simp only [Act.put, sl0, sl1, sl2]
    refine take_no (i := 37) (d := 42) rfl rfl (by kernel_rfl) (by kernel_rfl) (by kernel_rfl) (fun _ _ _ h => h) (by rfl) (by assumption) ?_
    simp only [Act.put, sl0, sl1, sl2]
    refine take_yes (i := 38) (d := 43) (v := ?v11) rfl rfl (by kernel_rfl) (by kernel_rfl) (by kernel_rfl) (fun _ _ _ h => h) (by rfl) ?y11 (by assumption) ?r11
    case y11 => (intro w hSw; (try dsimp only at hSw); go_simp <;> with_reducible rfl)
    simp only [Act.put, sl0, sl1, sl2]
    refine take_yes (i := 39) (d := 44) (v := ?v12) rfl rfl (by kernel_rfl) (by kernel_rfl) (by kernel_rfl) (fun _ _ _ h => h) (by rfl) ?y12 (by assumption) ?r12
    case y12 => (intro w hSw; (try dsimp only at hSw); go_simp <;> with_reducible rfl)
    simp only [Act.put, sl0, sl1, sl2]
    refine take_no (i := 40) (d := 45) rfl rfl (by kernel_rfl) (by kernel_rfl) (by kernel_rfl) (fun _ _ _ h => h) (by rfl) (by assumption) ?_
    simp only [Act.put, sl0, sl1, sl2]
    refine take_no (i := 41) (d := 46) rfl rfl (by kernel_rfl) (by kernel_rfl) (by kernel_rfl) (fun _ _ _ h => h) (by rfl) (by assumption) ?_
    simp only [Act.put, sl0, sl1, sl2]
    refine take_no (i := 42) (d := 47) rfl rfl (by kernel_rfl) (by kernel_rfl) (by kernel_rfl) (fun _ _ _ h => h) (by rfl) (by assumption) ?_
    simp only [Act.put, sl0, sl1, sl2]
    refine take_no (i := 43) (d := 48) rfl rfl (by kernel_rfl) (by kernel_rfl) (by kernel_rfl) (fun _ _ _ h => h) (by rfl) (by assumption) ?_
    simp only [Act.put, sl0, sl1, sl2]
    refine take_no (i := 44) (d := 49) rfl rfl (by kernel_rfl) (by kernel_rfl) (by kernel_rfl) (fun _ _ _ h => h) (by rfl) (by assumption) ?_
    simp only [Act.put, sl0, sl1, sl2]
    refine take_no (i := 45) (d := 50) rfl rfl (by kernel_rfl) (by kernel_rfl) (by kernel_rfl) (fun _ _ _ h => h) (by rfl) (by assumption) ?_
    simp only [Act.put, sl0, sl1, sl2]
    refine take_no (i := 46) (d := 51) rfl rfl (by kernel_rfl) (by kernel_rfl) (by kernel_rfl) (fun _ _ _ h => h) (by rfl) (by assumption) ?_
    simp only [Act.put, sl0, sl1, sl2]
    refine take_no (i := 47) (d := 52) rfl rfl (by kernel_rfl) (by kernel_rfl) (by kernel_rfl) (fun _ _ _ h => h) (by rfl) (by assumption) ?_
    simp only [Act.put, sl0, sl1, sl2]
    refine take_no (i := 48) (d := 53) rfl rfl (by kernel_rfl) (by kernel_rfl) (by kernel_rfl) (fun _ _ _ h => h) (by rfl) (by assumption) ?_
    simp only [Act.put, sl0, sl1, sl2]
    refine take_yes (i := 49) (d := 54) (v := ?v13) rfl rfl (by kernel_rfl) (by kernel_rfl) (by kernel_rfl) (fun _ _ _ h => h) (by rfl) ?y13 (by assumption) ?r13
    case y13 => (intro w hSw; (try dsimp only at hSw); go_simp <;> with_reducible rfl)
    simp only [Act.put, sl0, sl1, sl2]
    refine take_yes (i := 50) (d := 55) (v := ?v14) rfl rfl (by kernel_rfl) (by kernel_rfl) (by kernel_rfl) (fun _ _ _ h => h) (by rfl) ?y14 (by assumption) ?r14
    case y14 => (intro w hSw; (try dsimp only at hSw); go_simp <;> with_reducible rfl)
    simp only [Act.put, sl0, sl1, sl2]
    refine take_no (i := 51) (d := 56) rfl rfl (by kernel_rfl) (by kernel_rfl) (by kernel_rfl) (fun _ _ _ h => h) (by rfl) (by assumption) ?_
    simp only [Act.put, sl0, sl1, sl2]
    refine take_no (i := 52) (d := 57) rfl rfl (by kernel_rfl) (by kernel_rfl) (by kernel_rfl) (fun _ _ _ h => h) (by rfl) (by assumption) ?_
    simp only [Act.put, sl0, sl1, sl2]
    refine take_no (i := 53) (d := 58) rfl rfl (by kernel_rfl) (by kernel_rfl) (by kernel_rfl) (fun _ _ _ h => h) (by rfl) (by assumption) ?_
    simp only [Act.put, sl0, sl1, sl2]
    refine take_no (i := 54) (d := 59) rfl rfl (by kernel_rfl) (by kernel_rfl) (by kernel_rfl) (fun _ _ _ h => h) (by rfl) (by assumption) ?_
    simp only [Act.put, sl0, sl1, sl2]
    refine take_no (i := 55) (d := 60) rfl rfl (by kernel_rfl) (by kernel_rfl) (by kernel_rfl) (fun _ _ _ h => h) (by rfl) (by assumption) ?_
    simp only [Act.put, sl0, sl1, sl2]
    refine take_no (i := 56) (d := 61) rfl rfl (by kernel_rfl) (by kernel_rfl) (by kernel_rfl) (fun _ _ _ h => h) (by rfl) (by assumption) ?_
    simp only [Act.put, sl0, sl1, sl2]
    refine take_no (i := 57) (d := 62) rfl rfl (by kernel_rfl) (by kernel_rfl) (by kernel_rfl) (fun _ _ _ h => h) (by rfl) (by assumption) ?_
    simp only [Act.put, sl0, sl1, sl2]
    refine take_no (i := 58) (d := 63) rfl rfl (by kernel_rfl) (by kernel_rfl) (by kernel_rfl) (fun _ _ _ h => h) (by rfl) (by assumption) ?_
    simp only [Act.put, sl0, sl1, sl2]
    refine take_no (i := 59) (d := 64) rfl rfl (by kernel_rfl) (by kernel_rfl) (by kernel_rfl) (fun _ _ _ h => h) (by rfl) (by assumption) ?_
    simp only [Act.put, sl0, sl1, sl2]
    refine take_yes (i := 60) (d := 65) (v := ?v15) rfl rfl (by kernel_rfl) (by kernel_rfl) (by kernel_rfl) (fun _ _ _ h => h) (by rfl) ?y15 (by assumption) ?r15
    case y15 => (intro w hSw; (try dsimp only at hSw); go_simp <;> with_reducible rfl)
    simp only [Act.put, sl0, sl1, sl2]
    refine take_yes (i := 61) (d := 66) (v := ?v16) rfl rfl (by kernel_rfl) (by kernel_rfl) (by kernel_rfl) (fun _ _ _ h => h) (by rfl) ?y16 (by assumption) ?r16
    case y16 => (intro w hSw; (try dsimp only at hSw); go_simp <;> with_reducible rfl)
    simp only [Act.put, sl0, sl1, sl2]
    refine take_no (i := 62) (d := 67) rfl rfl (by kernel_rfl) (by kernel_rfl) (by kernel_rfl) (fun _ _ _ h => h) (by rfl) (by assumption) ?_
    simp only [Act.put, sl0, sl1, sl2]
    refine take_no (i := 63) (d := 68) rfl rfl (by kernel_rfl) (by kernel_rfl) (by kernel_rfl) (fun _ _ _ h => h) (by rfl) (by assumption) ?_
    simp only [Act.put, sl0, sl1, sl2]
    refine take_no (i := 64) (d := 69) rfl rfl (by kernel_rfl) (by kernel_rfl) (by kernel_rfl) (fun _ _ _ h => h) (by rfl) (by assumption) ?_
    simp only [Act.put, sl0, sl1, sl2]
    refine take_no (i := 65) (d := 70) rfl rfl (by kernel_rfl) (by kernel_rfl) (by kernel_rfl) (fun _ _ _ h => h) (by rfl) (by assumption) ?_
    simp only [Act.put, sl0, sl1, sl2]
    refine take_no (i := 66) (d := 71) rfl rfl (by kernel_rfl) (by kernel_rfl) (by kernel_rfl) (fun _ _ _ h => h) (by rfl) (by assumption) ?_
    simp only [Act.put, sl0, sl1, sl2]
    refine take_no (i := 67) (d := 72) rfl rfl (by kernel_rfl) (by kernel_rfl) (by kernel_rfl) (fun _ _ _ h => h) (by rfl) (by assumption) ?_
    simp only [Act.put, sl0, sl1, sl2]
    refine take_no (i := 68) (d := 73) rfl rfl (by kernel_rfl) (by kernel_rfl) (by kernel_rfl) (fun _ _ _ h => h) (by rfl) (by assumption) ?_
    simp only [Act.put, sl0, sl1, sl2]
    refine take_no (i := 69) (d := 74) rfl rfl (by kernel_rfl) (by kernel_rfl) (by kernel_rfl) (fun _ _ _ h => h) (by rfl) (by assumption) ?_
    simp only [Act.put, sl0, sl1, sl2]
    refine take_no (i := 70) (d := 75) rfl rfl (by kernel_rfl) (by kernel_rfl) (by kernel_rfl) (fun _ _ _ h => h) (by rfl) (by assumption) ?_
    simp only [Act.put, sl0, sl1, sl2]
    refine take_yes (i := 71) (d := 76) (v := ?v17) rfl rfl (by kernel_rfl) (by kernel_rfl) (by kernel_rfl) (fun _ _ _ h => h) (by rfl) ?y17 (by assumption) ?r17
    case y17 => (intro w hSw; (try dsimp only at hSw); go_simp <;> with_reducible rfl)
    simp only [Act.put, sl0, sl1, sl2]
    refine take_yes (i := 72) (d := 4) (v := ?v18) rfl rfl (by kernel_rfl) (by kernel_rfl) (by kernel_rfl) (fun _ _ _ h => h) (by rfl) ?y18 (by assumption) ?r18
    case y18 => (intro w hSw; (try dsimp only at hSw); go_simp <;> with_reducible rfl)
    simp only [Act.put, sl0, sl1, sl2]
    refine wpAnyH_done (by kernel_rfl) ?_ _
    replace HB := Lib.hid (HB.out.keep HZ0.out)
    clear HSC HZ0 HS1
    go_wp2
    go_ret
    exact ⟨ret_bool hno.out.symm, HB.out.below⟩
  subst h0
  cases hv : vrB sz m x l
  · have hno : Hid (teB sz m x l = false) := by show _ = _; unfold teB; rw [ajB_bad hv, Bool.and_false]
    have KD : Hid (∀ z : World, Below W.heap.size W z → Calls Tryz.prog 339 #[.agg #[.int .i64 sz, .slice A m c], .slice Al 4 cl] z fun e w' => e = .returned (.bool false) ∧ Below z.heap.size z w') := fun z hz => by
      have := l4Distinct_z sz A m c x Al 4 cl l z (HK.out.keep hz) (HL.out.keep hz) hm hn
      rwa [hv] at this
    clear hv
    go_enter Tryz.func317, Tryz.ntmps317
    go_wp2_with fail
    rw [← HW.out]
    have HSC : Hid (∀ z : World, Below W.heap.size W z → (Below W.heap.size W z ∧ z.cell? ⟨w.heap.size, 0, none⟩ = some (.int .i64 sz) ∧ z.cell? ⟨w.heap.size, 1, none⟩ = some (.slice A m c))) := fun z hz => ⟨hz, up_ hz e0, up_ hz e1⟩
    have HZ0 : Hid (Below W.heap.size W W.drew) := (Below.refl _ _).drew
    have HS1 := Lib.hid (HSC.out _ HZ0.out)
    have KR1 : Hid (∀ z : World, Below W.heap.size W z → _) := fun z hz => KD.out z hz
    refine wp_region_held_drew (S := fun z => Below W.heap.size W z ∧ z.cell? ⟨w.heap.size, 0, none⟩ = some (.int .i64 sz) ∧ z.cell? ⟨w.heap.size, 1, none⟩ = some (.slice A m c)) (by kernel_rfl) HS1.out (fun hHeld => ?_)
    refine take_yes (i := 0) (d := 5) (v := ?v19) rfl rfl (by kernel_rfl) (by kernel_rfl) (by kernel_rfl) (fun _ _ _ h => h) (by rfl) ?y19 (by assumption) ?r19
    case y19 => (intro w hSw; (try dsimp only at hSw); go_simp <;> with_reducible rfl)
    simp only [Act.put, sl0, sl1, sl2]
    refine take_yes (i := 1) (d := 6) (v := ?v20) rfl rfl (by kernel_rfl) (by kernel_rfl) (by kernel_rfl) (fun _ _ _ h => h) (by rfl) ?y20 (by assumption) ?r20
    case y20 => (intro w hSw; (try dsimp only at hSw); go_simp <;> with_reducible rfl)
    simp only [Act.put, sl0, sl1, sl2]
    refine take_yes (i := 2) (d := 7) (v := ?v21) rfl rfl (by kernel_rfl) (by kernel_rfl) (by kernel_rfl) (fun _ _ _ h => h) (by rfl) ?y21 (by assumption) ?r21
    case y21 => (intro w hSw; (try dsimp only at hSw); go_simp <;> with_reducible rfl)
    simp only [Act.put, sl0, sl1, sl2]
    refine take_yes (i := 3) (d := 8) (v := ?v22) rfl rfl (by kernel_rfl) (by kernel_rfl) (by kernel_rfl) (fun _ _ _ h => h) (by rfl) ?y22 (by assumption) ?r22
    case y22 => (intro w hSw; (try dsimp only at hSw); go_simp <;> with_reducible rfl)
    simp only [Act.put, sl0, sl1, sl2]
    refine take_yes (i := 4) (d := 9) (v := ?v23) rfl rfl (by kernel_rfl) (by kernel_rfl) (by kernel_rfl) (fun _ _ _ h => h) (by rfl) ?y23 (by assumption) ?r23
    case y23 => (intro w hSw; (try dsimp only at hSw); go_simp <;> with_reducible rfl)
    simp only [Act.put, sl0, sl1, sl2]
    refine take_yes (i := 5) (d := 10) (v := ?v24) rfl rfl (by kernel_rfl) (by kernel_rfl) (by kernel_rfl) (fun _ _ _ h => h) (by rfl) ?y24 (by assumption) ?r24
    case y24 => (intro w hSw; (try dsimp only at hSw); go_simp <;> with_reducible rfl)
    simp only [Act.put, sl0, sl1, sl2]
    refine wpAnyH_ready (rs := [6]) (by kernel_rfl) (by simp) ?_
    refine AllReadyH.cons rfl (fun K hK => ?_) AllReadyH.nil
    go_simp
    go_at_call 339; refine (KR1.out _ HZ0.out).mono ?_
    rintro e w1 ⟨rfl, hb1⟩
    have hz1 := bl_trans HZ0.out hb1
    refine hK.out _ _ (HSC.out _ hz1) (fun hHeld => ?_)
    clear hK K
    try simp only [Act.put, sl0, sl1, sl2]
    refine take_yes (i := 7) (d := 12) (v := ?v25) rfl rfl (by kernel_rfl) (by kernel_rfl) (by kernel_rfl) (fun _ _ _ h => h) (by rfl) ?y25 (by assumption) ?r25
    case y25 => (intro w hSw; (try dsimp only at hSw); go_simp <;> with_reducible rfl)
    simp only [Act.put, sl0, sl1, sl2]
    refine take_yes (i := 8) (d := 13) (v := ?v26) rfl rfl (by kernel_rfl) (by kernel_rfl) (by kernel_rfl) (fun _ _ _ h => h) (by rfl) ?y26 (by assumption) ?r26
    case y26 => (intro w hSw; (try dsimp only at hSw); go_simp <;> with_reducible rfl)
    simp only [Act.put, sl0, sl1, sl2]
    refine take_no (i := 9) (d := 14) rfl rfl (by kernel_rfl) (by kernel_rfl) (by kernel_rfl) (fun _ _ _ h => h) (by rfl) (by assumption) ?_
    simp only [Act.put, sl0, sl1, sl2]
    refine take_no (i := 10) (d := 15) rfl rfl (by kernel_rfl) (by kernel_rfl) (by kernel_rfl) (fun _ _ _ h => h) (by rfl) (by assumption) ?_
    simp only [Act.put, sl0, sl1, sl2]
    refine take_no (i := 11) (d := 16) rfl rfl (by kernel_rfl) (by kernel_rfl) (by kernel_rfl) (fun _ _ _ h => h) (by rfl) (by assumption) ?_
    simp only [Act.put, sl0, sl1, sl2]
    refine take_no (i := 12) (d := 17) rfl rfl (by kernel_rfl) (by kernel_rfl) (by kernel_rfl) (fun _ _ _ h => h) (by rfl) (by assumption) ?_
    simp only [Act.put, sl0, sl1, sl2]
    refine take_no (i := 13) (d := 18) rfl rfl (by kernel_rfl) (by kernel_rfl) (by kernel_rfl) (fun _ _ _ h => h) (by rfl) (by assumption) ?_
    simp only [Act.put, sl0, sl1, sl2]
    refine take_no (i := 14) (d := 19) rfl rfl (by kernel_rfl) (by kernel_rfl) (by kernel_rfl) (fun _ _ _ h => h) (by rfl) (by assumption) ?_
    simp only [Act.put, sl0, sl1, sl2]
    refine take_no (i := 15) (d := 20) rfl rfl (by kernel_rfl) (by kernel_rfl) (by kernel_rfl) (fun _ _ _ h => h) (by rfl) (by assumption) ?_
    simp only [Act.put, sl0, sl1, sl2]
    refine take_no (i := 16) (d := 21) rfl rfl (by kernel_rfl) (by kernel_rfl) (by kernel_rfl) (fun _ _ _ h => h) (by rfl) (by assumption) ?_
    simp only [Act.put, sl0, sl1, sl2]
    refine take_yes (i := 17) (d := 22) (v := ?v27) rfl rfl (by kernel_rfl) (by kernel_rfl) (by kernel_rfl) (fun _ _ _ h => h) (by rfl) ?y27 (by assumption) ?r27
    case y27 => (intro w hSw; (try dsimp only at hSw); go_simp <;> with_reducible rfl)
    simp only [Act.put, sl0, sl1, sl2]
    refine take_yes (i := 18) (d := 23) (v := ?v28) rfl rfl (by kernel_rfl) (by kernel_rfl) (by kernel_rfl) (fun _ _ _ h => h) (by rfl) ?y28 (by assumption) ?r28
    case y28 => (intro w hSw; (try dsimp only at hSw); go_simp <;> with_reducible rfl)
    simp only [Act.put, sl0, sl1, sl2]
    refine take_no (i := 19) (d := 24) rfl rfl (by kernel_rfl) (by kernel_rfl) (by kernel_rfl) (fun _ _ _ h => h) (by rfl) (by assumption) ?_
    simp only [Act.put, sl0, sl1, sl2]
    refine take_no (i := 20) (d := 25) rfl rfl (by kernel_rfl) (by kernel_rfl) (by kernel_rfl) (fun _ _ _ h => h) (by rfl) (by assumption) ?_
    simp only [Act.put, sl0, sl1, sl2]
    refine take_no (i := 21) (d := 26) rfl rfl (by kernel_rfl) (by kernel_rfl) (by kernel_rfl) (fun _ _ _ h => h) (by rfl) (by assumption) ?_
    simp only [Act.put, sl0, sl1, sl2]
    refine take_no (i := 22) (d := 27) rfl rfl (by kernel_rfl) (by kernel_rfl) (by kernel_rfl) (fun _ _ _ h => h) (by rfl) (by assumption) ?_
    simp only [Act.put, sl0, sl1, sl2]
    refine take_no (i := 23) (d := 28) rfl rfl (by kernel_rfl) (by kernel_rfl) (by kernel_rfl) (fun _ _ _ h => h) (by rfl) (by assumption) ?_
    simp only [Act.put, sl0, sl1, sl2]
    refine take_no (i := 24) (d := 29) rfl rfl (by kernel_rfl) (by kernel_rfl) (by kernel_rfl) (fun _ _ _ h => h) (by rfl) (by assumption) ?_
    simp only [Act.put, sl0, sl1, sl2]
    refine take_no (i := 25) (d := 30) rfl rfl (by kernel_rfl) (by kernel_rfl) (by kernel_rfl) (fun _ _ _ h => h) (by rfl) (by assumption) ?_
    simp only [Act.put, sl0, sl1, sl2]
    refine take_no (i := 26) (d := 31) rfl rfl (by kernel_rfl) (by kernel_rfl) (by kernel_rfl) (fun _ _ _ h => h) (by rfl) (by assumption) ?_
    simp only [Act.put, sl0, sl1, sl2]
    refine take_yes (i := 27) (d := 32) (v := ?v29) rfl rfl (by kernel_rfl) (by kernel_rfl) (by kernel_rfl) (fun _ _ _ h => h) (by rfl) ?y29 (by assumption) ?r29
    case y29 => (intro w hSw; (try dsimp only at hSw); go_simp <;> with_reducible rfl)
    simp only [Act.put, sl0, sl1, sl2]
    refine take_yes (i := 28) (d := 33) (v := ?v30) rfl rfl (by kernel_rfl) (by kernel_rfl) (by kernel_rfl) (fun _ _ _ h => h) (by rfl) ?y30 (by assumption) ?r30
    case y30 => (intro w hSw; (try dsimp only at hSw); go_simp <;> with_reducible rfl)
    simp only [Act.put, sl0, sl1, sl2]
    refine take_no (i := 29) (d := 34) rfl rfl (by kernel_rfl) (by kernel_rfl) (by kernel_rfl) (fun _ _ _ h => h) (by rfl) (by assumption) ?_
    simp only [Act.put, sl0, sl1, sl2]
    refine take_no (i := 30) (d := 35) rfl rfl (by kernel_rfl) (by kernel_rfl) (by kernel_rfl) (fun _ _ _ h => h) (by rfl) (by assumption) ?_
    simp only [Act.put, sl0, sl1, sl2]
    refine take_no (i := 31) (d := 36) rfl rfl (by kernel_rfl) (by kernel_rfl) (by kernel_rfl) (fun _ _ _ h => h) (by rfl) (by assumption) ?_
    simp only [Act.put, sl0, sl1, sl2]
    refine take_no (i := 32) (d := 37) rfl rfl (by kernel_rfl) (by kernel_rfl) (by kernel_rfl) (fun _ _ _ h => h) (by rfl) (by assumption) ?_
    simp only [Act.put, sl0, sl1, sl2]
    refine take_no (i := 33) (d := 38) rfl rfl (by kernel_rfl) (by kernel_rfl) (by kernel_rfl) (fun _ _ _ h => h) (by rfl) (by assumption) ?_
    simp only [Act.put, sl0, sl1, sl2]
    refine take_no (i := 34) (d := 39) rfl rfl (by kernel_rfl) (by kernel_rfl) (by kernel_rfl) (fun _ _ _ h => h) (by rfl) (by assumption) ?_
    simp only [Act.put, sl0, sl1, sl2]
    refine take_no (i := 35) (d := 40) rfl rfl (by kernel_rfl) (by kernel_rfl) (by kernel_rfl) (fun _ _ _ h => h) (by rfl) (by assumption) ?_
    simp only [Act.put, sl0, sl1, sl2]
    refine take_no (i := 36) (d := 41) rfl rfl (by kernel_rfl) (by kernel_rfl) (by kernel_rfl) (fun _ _ _ h => h) (by rfl) (by assumption) ?_
    simp only [Act.put, sl0, sl1, sl2]
    refine take_no (i := 37) (d := 42) rfl rfl (by kernel_rfl) (by kernel_rfl) (by kernel_rfl) (fun _ _ _ h => h) (by rfl) (by assumption) ?_
    simp only [Act.put, sl0, sl1, sl2]
    refine take_yes (i := 38) (d := 43) (v := ?v31) rfl rfl (by kernel_rfl) (by kernel_rfl) (by kernel_rfl) (fun _ _ _ h => h) (by rfl) ?y31 (by assumption) ?r31
    case y31 => (intro w hSw; (try dsimp only at hSw); go_simp <;> with_reducible rfl)
    simp only [Act.put, sl0, sl1, sl2]
    refine take_yes (i := 39) (d := 44) (v := ?v32) rfl rfl (by kernel_rfl) (by kernel_rfl) (by kernel_rfl) (fun _ _ _ h => h) (by rfl) ?y32 (by assumption) ?r32
    case y32 => (intro w hSw; (try dsimp only at hSw); go_simp <;> with_reducible rfl)
    simp only [Act.put, sl0, sl1, sl2]
    refine take_no (i := 40) (d := 45) rfl rfl (by kernel_rfl) (by kernel_rfl) (by kernel_rfl) (fun _ _ _ h => h) (by rfl) (by assumption) ?_
    simp only [Act.put, sl0, sl1, sl2]
    refine take_no (i := 41) (d := 46) rfl rfl (by kernel_rfl) (by kernel_rfl) (by kernel_rfl) (fun _ _ _ h => h) (by rfl) (by assumption) ?_
    simp only [Act.put, sl0, sl1, sl2]
    refine take_no (i := 42) (d := 47) rfl rfl (by kernel_rfl) (by kernel_rfl) (by kernel_rfl) (fun _ _ _ h => h) (by rfl) (by assumption) ?_
    simp only [Act.put, sl0, sl1, sl2]
    refine take_no (i := 43) (d := 48) rfl rfl (by kernel_rfl) (by kernel_rfl) (by kernel_rfl) (fun _ _ _ h => h) (by rfl) (by assumption) ?_
    simp only [Act.put, sl0, sl1, sl2]
    refine take_no (i := 44) (d := 49) rfl rfl (by kernel_rfl) (by kernel_rfl) (by kernel_rfl) (fun _ _ _ h => h) (by rfl) (by assumption) ?_
    simp only [Act.put, sl0, sl1, sl2]
    refine take_no (i := 45) (d := 50) rfl rfl (by kernel_rfl) (by kernel_rfl) (by kernel_rfl) (fun _ _ _ h => h) (by rfl) (by assumption) ?_
    simp only [Act.put, sl0, sl1, sl2]
    refine take_no (i := 46) (d := 51) rfl rfl (by kernel_rfl) (by kernel_rfl) (by kernel_rfl) (fun _ _ _ h => h) (by rfl) (by assumption) ?_
    simp only [Act.put, sl0, sl1, sl2]
    refine take_no (i := 47) (d := 52) rfl rfl (by kernel_rfl) (by kernel_rfl) (by kernel_rfl) (fun _ _ _ h => h) (by rfl) (by assumption) ?_
    simp only [Act.put, sl0, sl1, sl2]
    refine take_no (i := 48) (d := 53) rfl rfl (by kernel_rfl) (by kernel_rfl) (by kernel_rfl) (fun _ _ _ h => h) (by rfl) (by assumption) ?_
    simp only [Act.put, sl0, sl1, sl2]
    refine take_yes (i := 49) (d := 54) (v := ?v33) rfl rfl (by kernel_rfl) (by kernel_rfl) (by kernel_rfl) (fun _ _ _ h => h) (by rfl) ?y33 (by assumption) ?r33
    case y33 => (intro w hSw; (try dsimp only at hSw); go_simp <;> with_reducible rfl)
    simp only [Act.put, sl0, sl1, sl2]
    refine take_yes (i := 50) (d := 55) (v := ?v34) rfl rfl (by kernel_rfl) (by kernel_rfl) (by kernel_rfl) (fun _ _ _ h => h) (by rfl) ?y34 (by assumption) ?r34
    case y34 => (intro w hSw; (try dsimp only at hSw); go_simp <;> with_reducible rfl)
    simp only [Act.put, sl0, sl1, sl2]
    refine take_no (i := 51) (d := 56) rfl rfl (by kernel_rfl) (by kernel_rfl) (by kernel_rfl) (fun _ _ _ h => h) (by rfl) (by assumption) ?_
    simp only [Act.put, sl0, sl1, sl2]
    refine take_no (i := 52) (d := 57) rfl rfl (by kernel_rfl) (by kernel_rfl) (by kernel_rfl) (fun _ _ _ h => h) (by rfl) (by assumption) ?_
    simp only [Act.put, sl0, sl1, sl2]
    refine take_no (i := 53) (d := 58) rfl rfl (by kernel_rfl) (by kernel_rfl) (by kernel_rfl) (fun _ _ _ h => h) (by rfl) (by assumption) ?_
    simp only [Act.put, sl0, sl1, sl2]
    refine take_no (i := 54) (d := 59) rfl rfl (by kernel_rfl) (by kernel_rfl) (by kernel_rfl) (fun _ _ _ h => h) (by rfl) (by assumption) ?_
    simp only [Act.put, sl0, sl1, sl2]
    refine take_no (i := 55) (d := 60) rfl rfl (by kernel_rfl) (by kernel_rfl) (by kernel_rfl) (fun _ _ _ h => h) (by rfl) (by assumption) ?_
    simp only [Act.put, sl0, sl1, sl2]
    refine take_no (i := 56) (d := 61) rfl rfl (by kernel_rfl) (by kernel_rfl) (by kernel_rfl) (fun _ _ _ h => h) (by rfl) (by assumption) ?_
    simp only [Act.put, sl0, sl1, sl2]
    refine take_no (i := 57) (d := 62) rfl rfl (by kernel_rfl) (by kernel_rfl) (by kernel_rfl) (fun _ _ _ h => h) (by rfl) (by assumption) ?_
    simp only [Act.put, sl0, sl1, sl2]
    refine take_no (i := 58) (d := 63) rfl rfl (by kernel_rfl) (by kernel_rfl) (by kernel_rfl) (fun _ _ _ h => h) (by rfl) (by assumption) ?_
    simp only [Act.put, sl0, sl1, sl2]
    refine take_no (i := 59) (d := 64) rfl rfl (by kernel_rfl) (by kernel_rfl) (by kernel_rfl) (fun _ _ _ h => h) (by rfl) (by assumption) ?_
    simp only [Act.put, sl0, sl1, sl2]
    refine take_yes (i := 60) (d := 65) (v := ?v35) rfl rfl (by kernel_rfl) (by kernel_rfl) (by kernel_rfl) (fun _ _ _ h => h) (by rfl) ?y35 (by assumption) ?r35
    case y35 => (intro w hSw; (try dsimp only at hSw); go_simp <;> with_reducible rfl)
    simp only [Act.put, sl0, sl1, sl2]
    refine take_yes (i := 61) (d := 66) (v := ?v36) rfl rfl (by kernel_rfl) (by kernel_rfl) (by kernel_rfl) (fun _ _ _ h => h) (by rfl) ?y36 (by assumption) ?r36
    case y36 => (intro w hSw; (try dsimp only at hSw); go_simp <;> with_reducible rfl)
    simp only [Act.put, sl0, sl1, sl2]
    refine take_no (i := 62) (d := 67) rfl rfl (by kernel_rfl) (by kernel_rfl) (by kernel_rfl) (fun _ _ _ h => h) (by rfl) (by assumption) ?_
    simp only [Act.put, sl0, sl1, sl2]
    refine take_no (i := 63) (d := 68) rfl rfl (by kernel_rfl) (by kernel_rfl) (by kernel_rfl) (fun _ _ _ h => h) (by rfl) (by assumption) ?_
    simp only [Act.put, sl0, sl1, sl2]
    refine take_no (i := 64) (d := 69) rfl rfl (by kernel_rfl) (by kernel_rfl) (by kernel_rfl) (fun _ _ _ h => h) (by rfl) (by assumption) ?_
    simp only [Act.put, sl0, sl1, sl2]
    refine take_no (i := 65) (d := 70) rfl rfl (by kernel_rfl) (by kernel_rfl) (by kernel_rfl) (fun _ _ _ h => h) (by rfl) (by assumption) ?_
    simp only [Act.put, sl0, sl1, sl2]
    refine take_no (i := 66) (d := 71) rfl rfl (by kernel_rfl) (by kernel_rfl) (by kernel_rfl) (fun _ _ _ h => h) (by rfl) (by assumption) ?_
    simp only [Act.put, sl0, sl1, sl2]
    refine take_no (i := 67) (d := 72) rfl rfl (by kernel_rfl) (by kernel_rfl) (by kernel_rfl) (fun _ _ _ h => h) (by rfl) (by assumption) ?_
    simp only [Act.put, sl0, sl1, sl2]
    refine take_no (i := 68) (d := 73) rfl rfl (by kernel_rfl) (by kernel_rfl) (by kernel_rfl) (fun _ _ _ h => h) (by rfl) (by assumption) ?_
    simp only [Act.put, sl0, sl1, sl2]
    refine take_no (i := 69) (d := 74) rfl rfl (by kernel_rfl) (by kernel_rfl) (by kernel_rfl) (fun _ _ _ h => h) (by rfl) (by assumption) ?_
    simp only [Act.put, sl0, sl1, sl2]
    refine take_no (i := 70) (d := 75) rfl rfl (by kernel_rfl) (by kernel_rfl) (by kernel_rfl) (fun _ _ _ h => h) (by rfl) (by assumption) ?_
    simp only [Act.put, sl0, sl1, sl2]
    refine take_yes (i := 71) (d := 76) (v := ?v37) rfl rfl (by kernel_rfl) (by kernel_rfl) (by kernel_rfl) (fun _ _ _ h => h) (by rfl) ?y37 (by assumption) ?r37
    case y37 => (intro w hSw; (try dsimp only at hSw); go_simp <;> with_reducible rfl)
    simp only [Act.put, sl0, sl1, sl2]
    refine take_yes (i := 72) (d := 4) (v := ?v38) rfl rfl (by kernel_rfl) (by kernel_rfl) (by kernel_rfl) (fun _ _ _ h => h) (by rfl) ?y38 (by assumption) ?r38
    case y38 => (intro w hSw; (try dsimp only at hSw); go_simp <;> with_reducible rfl)
    simp only [Act.put, sl0, sl1, sl2]
    refine wpAnyH_done (by kernel_rfl) ?_ _
    replace HB := Lib.hid (HB.out.keep hz1)
    clear hb1 hz1 HSC HZ0 HS1 KR1
    go_wp2
    go_ret
    exact ⟨ret_bool hno.out.symm, HB.out.below⟩
  obtain ⟨ho, hV⟩ := vrB_parts hv
  obtain ⟨_, es, vg0, _⟩ := okB_ok' ho
  subst es
  have hn7 := vg0.n7
  have HG : Hid (GV W A m c (rw_ x)) := HK.out.gv ho
  have Hv := Lib.hid hv
  have HP : Hid (∀ j, j < 4 → ∃ u : Nat, l.getD j 0 = (u : Int) ∧ u < m) := fun j hj => by
    obtain ⟨a0, a1⟩ := hV.2 _ (getD_mem (l := l) (k := j) (by rw [← HN.out]; exact hj))
    obtain ⟨u, hu⟩ := Int.eq_ofNat_of_zero_le a0
    exact ⟨u, hu, by omega⟩
  have KD : Hid (∀ z : World, Below W.heap.size W z → Calls Tryz.prog 339 #[.agg #[.int .i64 m, .slice A m c], .slice Al 4 cl] z fun e w' => e = .returned (.bool true) ∧ Below z.heap.size z w') := fun z hz => by
    have := l4Distinct_z m A m c x Al 4 cl l z (HK.out.keep hz) (HL.out.keep hz) hm hn
    rwa [hv] at this
  obtain ⟨v0, hv0, m0⟩ := HP.out 0 (by omega)
  obtain ⟨v1, hv1, m1⟩ := HP.out 1 (by omega)
  obtain ⟨v2, hv2, m2⟩ := HP.out 2 (by omega)
  obtain ⟨v3, hv3, m3⟩ := HP.out 3 (by omega)
  have Hed : Hid (edZ x (l.getD 0 0) (l.getD 1 0) = (rw_ x v0).testBit v1 ∧ edZ x (l.getD 0 0) (l.getD 2 0) = (rw_ x v0).testBit v2 ∧ edZ x (l.getD 0 0) (l.getD 3 0) = (rw_ x v0).testBit v3 ∧ edZ x (l.getD 1 0) (l.getD 2 0) = (rw_ x v1).testBit v2 ∧ edZ x (l.getD 1 0) (l.getD 3 0) = (rw_ x v1).testBit v3 ∧ edZ x (l.getD 2 0) (l.getD 3 0) = (rw_ x v2).testBit v3) := by
    show _ ∧ _ ∧ _ ∧ _ ∧ _ ∧ _
    unfold edZ
    rw [hv0, hv1, hv2, hv3]
    simp only [Int.toNat_natCast, and_self]
  obtain ⟨b2, o2, hA⟩ := HL.out.addr (by omega)
  subst hA
  have p0 : W.cell? ⟨b2, o2, none⟩ = some (.int .i64 v0) := by have := HL.out.at (j := 0) (by omega); rw [hv0] at this; exact this
  have p1 : W.cell? ⟨b2, o2 + 1, none⟩ = some (.int .i64 v1) := by have := HL.out.at (j := 1) (by omega); rw [hv1] at this; exact this
  have p2 : W.cell? ⟨b2, o2 + 2, none⟩ = some (.int .i64 v2) := by have := HL.out.at (j := 2) (by omega); rw [hv2] at this; exact this
  have p3 : W.cell? ⟨b2, o2 + 3, none⟩ = some (.int .i64 v3) := by have := HL.out.at (j := 3) (by omega); rw [hv3] at this; exact this
  clear hv ho hV vg0 hv0 hv1 hv2 hv3 HP HL HK
  cases t0 : (rw_ x v0).testBit v1
  · have hno : Hid (teB (m : Int) m x l = false) := by
      show _ = _; unfold teB
      rw [ajB_no (i := 0) (k := 1) (by omega) (by rw [← HN.out]; omega) (by rw [Hed.out.1, t0]; decide), Bool.and_false]
    have E0 : Hid (∀ z : World, Below W.heap.size W z → Calls Tryz.prog 85 #[.agg #[.int .i64 m, .slice A m c], .int .i64 v0, .int .i64 v1] z fun e w' => e = .returned (.bool false) ∧ Below z.heap.size z w') := fun z hz => by
      have := l2Edge_v (HG.out.keep hz) m0 m1
      rwa [t0] at this
    clear t0
    go_enter Tryz.func317, Tryz.ntmps317
    go_wp2_with fail
    rw [← HW.out]
    have HSC : Hid (∀ z : World, Below W.heap.size W z → (Below W.heap.size W z ∧ z.cell? ⟨w.heap.size, 0, none⟩ = some (.int .i64 m) ∧ z.cell? ⟨w.heap.size, 1, none⟩ = some (.slice A m c) ∧ z.cell? ⟨b2, o2, none⟩ = some (.int .i64 v0) ∧ z.cell? ⟨b2, o2 + 1, none⟩ = some (.int .i64 v1) ∧ z.cell? ⟨b2, o2 + 2, none⟩ = some (.int .i64 v2) ∧ z.cell? ⟨b2, o2 + 3, none⟩ = some (.int .i64 v3))) := fun z hz => ⟨hz, up_ hz e0, up_ hz e1, up_ hz p0, up_ hz p1, up_ hz p2, up_ hz p3⟩
    have HZ0 : Hid (Below W.heap.size W W.drew) := (Below.refl _ _).drew
    have HS1 := Lib.hid (HSC.out _ HZ0.out)
    have KR1 : Hid (∀ z : World, Below W.heap.size W z → _) := fun z hz => KD.out z hz
    have KR2 : Hid (∀ z : World, Below W.heap.size W z → _) := fun z hz => E0.out z hz
    refine wp_region_held_drew (S := fun z => Below W.heap.size W z ∧ z.cell? ⟨w.heap.size, 0, none⟩ = some (.int .i64 m) ∧ z.cell? ⟨w.heap.size, 1, none⟩ = some (.slice A m c) ∧ z.cell? ⟨b2, o2, none⟩ = some (.int .i64 v0) ∧ z.cell? ⟨b2, o2 + 1, none⟩ = some (.int .i64 v1) ∧ z.cell? ⟨b2, o2 + 2, none⟩ = some (.int .i64 v2) ∧ z.cell? ⟨b2, o2 + 3, none⟩ = some (.int .i64 v3)) (by kernel_rfl) HS1.out (fun hHeld => ?_)
    refine take_yes (i := 0) (d := 5) (v := ?v39) rfl rfl (by kernel_rfl) (by kernel_rfl) (by kernel_rfl) (fun _ _ _ h => h) (by rfl) ?y39 (by assumption) ?r39
    case y39 => (intro w hSw; (try dsimp only at hSw); go_simp <;> with_reducible rfl)
    simp only [Act.put, sl0, sl1, sl2]
    refine take_yes (i := 1) (d := 6) (v := ?v40) rfl rfl (by kernel_rfl) (by kernel_rfl) (by kernel_rfl) (fun _ _ _ h => h) (by rfl) ?y40 (by assumption) ?r40
    case y40 => (intro w hSw; (try dsimp only at hSw); go_simp <;> with_reducible rfl)
    simp only [Act.put, sl0, sl1, sl2]
    refine take_yes (i := 2) (d := 7) (v := ?v41) rfl rfl (by kernel_rfl) (by kernel_rfl) (by kernel_rfl) (fun _ _ _ h => h) (by rfl) ?y41 (by assumption) ?r41
    case y41 => (intro w hSw; (try dsimp only at hSw); go_simp <;> with_reducible rfl)
    simp only [Act.put, sl0, sl1, sl2]
    refine take_yes (i := 3) (d := 8) (v := ?v42) rfl rfl (by kernel_rfl) (by kernel_rfl) (by kernel_rfl) (fun _ _ _ h => h) (by rfl) ?y42 (by assumption) ?r42
    case y42 => (intro w hSw; (try dsimp only at hSw); go_simp <;> with_reducible rfl)
    simp only [Act.put, sl0, sl1, sl2]
    refine take_yes (i := 4) (d := 9) (v := ?v43) rfl rfl (by kernel_rfl) (by kernel_rfl) (by kernel_rfl) (fun _ _ _ h => h) (by rfl) ?y43 (by assumption) ?r43
    case y43 => (intro w hSw; (try dsimp only at hSw); go_simp <;> with_reducible rfl)
    simp only [Act.put, sl0, sl1, sl2]
    refine take_yes (i := 5) (d := 10) (v := ?v44) rfl rfl (by kernel_rfl) (by kernel_rfl) (by kernel_rfl) (fun _ _ _ h => h) (by rfl) ?y44 (by assumption) ?r44
    case y44 => (intro w hSw; (try dsimp only at hSw); go_simp <;> with_reducible rfl)
    simp only [Act.put, sl0, sl1, sl2]
    refine wpAnyH_ready (rs := [6]) (by kernel_rfl) (by simp) ?_
    refine AllReadyH.cons rfl (fun K hK => ?_) AllReadyH.nil
    go_simp
    go_at_call 339; refine (KR1.out _ HZ0.out).mono ?_
    rintro e w2 ⟨rfl, hb2⟩
    have hz2 := bl_trans HZ0.out hb2
    refine hK.out _ _ (HSC.out _ hz2) (fun hHeld => ?_)
    clear hK K
    try simp only [Act.put, sl0, sl1, sl2]
    refine take_yes (i := 7) (d := 12) (v := ?v45) rfl rfl (by kernel_rfl) (by kernel_rfl) (by kernel_rfl) (fun _ _ _ h => h) (by rfl) ?y45 (by assumption) ?r45
    case y45 => (intro w hSw; (try dsimp only at hSw); go_simp <;> with_reducible rfl)
    simp only [Act.put, sl0, sl1, sl2]
    refine take_yes (i := 8) (d := 13) (v := ?v46) rfl rfl (by kernel_rfl) (by kernel_rfl) (by kernel_rfl) (fun _ _ _ h => h) (by rfl) ?y46 (by assumption) ?r46
    case y46 => (intro w hSw; (try dsimp only at hSw); go_simp <;> with_reducible rfl)
    simp only [Act.put, sl0, sl1, sl2]
    refine take_yes (i := 9) (d := 14) (v := ?v47) rfl rfl (by kernel_rfl) (by kernel_rfl) (by kernel_rfl) (fun _ _ _ h => h) (by rfl) ?y47 (by assumption) ?r47
    case y47 => (intro w hSw; (try dsimp only at hSw); go_simp <;> with_reducible rfl)
    simp only [Act.put, sl0, sl1, sl2]
    refine take_yes (i := 10) (d := 15) (v := ?v48) rfl rfl (by kernel_rfl) (by kernel_rfl) (by kernel_rfl) (fun _ _ _ h => h) (by rfl) ?y48 (by assumption) ?r48
    case y48 => (intro w hSw; (try dsimp only at hSw); go_simp <;> with_reducible rfl)
    simp only [Act.put, sl0, sl1, sl2]
    refine take_yes (i := 11) (d := 16) (v := ?v49) rfl rfl (by kernel_rfl) (by kernel_rfl) (by kernel_rfl) (fun _ _ _ h => h) (by rfl) ?y49 (by assumption) ?r49
    case y49 => (intro w hSw; (try dsimp only at hSw); go_simp <;> with_reducible rfl)
    simp only [Act.put, sl0, sl1, sl2]
    refine take_yes (i := 12) (d := 17) (v := ?v50) rfl rfl (by kernel_rfl) (by kernel_rfl) (by kernel_rfl) (fun _ _ _ h => h) (by rfl) ?y50 (by assumption) ?r50
    case y50 => (intro w hSw; (try dsimp only at hSw); go_simp <;> with_reducible rfl)
    simp only [Act.put, sl0, sl1, sl2]
    refine take_yes (i := 13) (d := 18) (v := ?v51) rfl rfl (by kernel_rfl) (by kernel_rfl) (by kernel_rfl) (fun _ _ _ h => h) (by rfl) ?y51 (by assumption) ?r51
    case y51 => (intro w hSw; (try dsimp only at hSw); go_simp <;> with_reducible rfl)
    simp only [Act.put, sl0, sl1, sl2]
    refine take_yes (i := 14) (d := 19) (v := ?v52) rfl rfl (by kernel_rfl) (by kernel_rfl) (by kernel_rfl) (fun _ _ _ h => h) (by rfl) ?y52 (by assumption) ?r52
    case y52 => (intro w hSw; (try dsimp only at hSw); go_simp <;> with_reducible rfl)
    simp only [Act.put, sl0, sl1, sl2]
    refine take_yes (i := 15) (d := 20) (v := ?v53) rfl rfl (by kernel_rfl) (by kernel_rfl) (by kernel_rfl) (fun _ _ _ h => h) (by rfl) ?y53 (by assumption) ?r53
    case y53 => (intro w hSw; (try dsimp only at hSw); go_simp <;> with_reducible rfl)
    simp only [Act.put, sl0, sl1, sl2]
    refine wpAnyH_ready (rs := [16]) (by kernel_rfl) (by simp) ?_
    refine AllReadyH.cons rfl (fun K hK => ?_) AllReadyH.nil
    go_simp
    go_at_call 85; refine (KR2.out _ hz2).mono ?_
    rintro e w3 ⟨rfl, hb3⟩
    have hz3 := bl_trans hz2 hb3
    refine hK.out _ _ (HSC.out _ hz3) (fun hHeld => ?_)
    clear hK K
    try simp only [Act.put, sl0, sl1, sl2]
    refine take_yes (i := 17) (d := 22) (v := ?v54) rfl rfl (by kernel_rfl) (by kernel_rfl) (by kernel_rfl) (fun _ _ _ h => h) (by rfl) ?y54 (by assumption) ?r54
    case y54 => (intro w hSw; (try dsimp only at hSw); go_simp <;> with_reducible rfl)
    simp only [Act.put, sl0, sl1, sl2]
    refine take_yes (i := 18) (d := 23) (v := ?v55) rfl rfl (by kernel_rfl) (by kernel_rfl) (by kernel_rfl) (fun _ _ _ h => h) (by rfl) ?y55 (by assumption) ?r55
    case y55 => (intro w hSw; (try dsimp only at hSw); go_simp <;> with_reducible rfl)
    simp only [Act.put, sl0, sl1, sl2]
    refine take_no (i := 19) (d := 24) rfl rfl (by kernel_rfl) (by kernel_rfl) (by kernel_rfl) (fun _ _ _ h => h) (by rfl) (by assumption) ?_
    simp only [Act.put, sl0, sl1, sl2]
    refine take_no (i := 20) (d := 25) rfl rfl (by kernel_rfl) (by kernel_rfl) (by kernel_rfl) (fun _ _ _ h => h) (by rfl) (by assumption) ?_
    simp only [Act.put, sl0, sl1, sl2]
    refine take_no (i := 21) (d := 26) rfl rfl (by kernel_rfl) (by kernel_rfl) (by kernel_rfl) (fun _ _ _ h => h) (by rfl) (by assumption) ?_
    simp only [Act.put, sl0, sl1, sl2]
    refine take_no (i := 22) (d := 27) rfl rfl (by kernel_rfl) (by kernel_rfl) (by kernel_rfl) (fun _ _ _ h => h) (by rfl) (by assumption) ?_
    simp only [Act.put, sl0, sl1, sl2]
    refine take_no (i := 23) (d := 28) rfl rfl (by kernel_rfl) (by kernel_rfl) (by kernel_rfl) (fun _ _ _ h => h) (by rfl) (by assumption) ?_
    simp only [Act.put, sl0, sl1, sl2]
    refine take_no (i := 24) (d := 29) rfl rfl (by kernel_rfl) (by kernel_rfl) (by kernel_rfl) (fun _ _ _ h => h) (by rfl) (by assumption) ?_
    simp only [Act.put, sl0, sl1, sl2]
    refine take_no (i := 25) (d := 30) rfl rfl (by kernel_rfl) (by kernel_rfl) (by kernel_rfl) (fun _ _ _ h => h) (by rfl) (by assumption) ?_
    simp only [Act.put, sl0, sl1, sl2]
    refine take_no (i := 26) (d := 31) rfl rfl (by kernel_rfl) (by kernel_rfl) (by kernel_rfl) (fun _ _ _ h => h) (by rfl) (by assumption) ?_
    simp only [Act.put, sl0, sl1, sl2]
    refine take_yes (i := 27) (d := 32) (v := ?v56) rfl rfl (by kernel_rfl) (by kernel_rfl) (by kernel_rfl) (fun _ _ _ h => h) (by rfl) ?y56 (by assumption) ?r56
    case y56 => (intro w hSw; (try dsimp only at hSw); go_simp <;> with_reducible rfl)
    simp only [Act.put, sl0, sl1, sl2]
    refine take_yes (i := 28) (d := 33) (v := ?v57) rfl rfl (by kernel_rfl) (by kernel_rfl) (by kernel_rfl) (fun _ _ _ h => h) (by rfl) ?y57 (by assumption) ?r57
    case y57 => (intro w hSw; (try dsimp only at hSw); go_simp <;> with_reducible rfl)
    simp only [Act.put, sl0, sl1, sl2]
    refine take_no (i := 29) (d := 34) rfl rfl (by kernel_rfl) (by kernel_rfl) (by kernel_rfl) (fun _ _ _ h => h) (by rfl) (by assumption) ?_
    simp only [Act.put, sl0, sl1, sl2]
    refine take_no (i := 30) (d := 35) rfl rfl (by kernel_rfl) (by kernel_rfl) (by kernel_rfl) (fun _ _ _ h => h) (by rfl) (by assumption) ?_
    simp only [Act.put, sl0, sl1, sl2]
    refine take_no (i := 31) (d := 36) rfl rfl (by kernel_rfl) (by kernel_rfl) (by kernel_rfl) (fun _ _ _ h => h) (by rfl) (by assumption) ?_
    simp only [Act.put, sl0, sl1, sl2]
    refine take_no (i := 32) (d := 37) rfl rfl (by kernel_rfl) (by kernel_rfl) (by kernel_rfl) (fun _ _ _ h => h) (by rfl) (by assumption) ?_
    simp only [Act.put, sl0, sl1, sl2]
    refine take_no (i := 33) (d := 38) rfl rfl (by kernel_rfl) (by kernel_rfl) (by kernel_rfl) (fun _ _ _ h => h) (by rfl) (by assumption) ?_
    simp only [Act.put, sl0, sl1, sl2]
    refine take_no (i := 34) (d := 39) rfl rfl (by kernel_rfl) (by kernel_rfl) (by kernel_rfl) (fun _ _ _ h => h) (by rfl) (by assumption) ?_
    simp only [Act.put, sl0, sl1, sl2]
    refine take_no (i := 35) (d := 40) rfl rfl (by kernel_rfl) (by kernel_rfl) (by kernel_rfl) (fun _ _ _ h => h) (by rfl) (by assumption) ?_
    simp only [Act.put, sl0, sl1, sl2]
    refine take_no (i := 36) (d := 41) rfl rfl (by kernel_rfl) (by kernel_rfl) (by kernel_rfl) (fun _ _ _ h => h) (by rfl) (by assumption) ?_
    simp only [Act.put, sl0, sl1, sl2]
    refine take_no (i := 37) (d := 42) rfl rfl (by kernel_rfl) (by kernel_rfl) (by kernel_rfl) (fun _ _ _ h => h) (by rfl) (by assumption) ?_
    simp only [Act.put, sl0, sl1, sl2]
    refine take_yes (i := 38) (d := 43) (v := ?v58) rfl rfl (by kernel_rfl) (by kernel_rfl) (by kernel_rfl) (fun _ _ _ h => h) (by rfl) ?y58 (by assumption) ?r58
    case y58 => (intro w hSw; (try dsimp only at hSw); go_simp <;> with_reducible rfl)
    simp only [Act.put, sl0, sl1, sl2]
    refine take_yes (i := 39) (d := 44) (v := ?v59) rfl rfl (by kernel_rfl) (by kernel_rfl) (by kernel_rfl) (fun _ _ _ h => h) (by rfl) ?y59 (by assumption) ?r59
    case y59 => (intro w hSw; (try dsimp only at hSw); go_simp <;> with_reducible rfl)
    simp only [Act.put, sl0, sl1, sl2]
    refine take_no (i := 40) (d := 45) rfl rfl (by kernel_rfl) (by kernel_rfl) (by kernel_rfl) (fun _ _ _ h => h) (by rfl) (by assumption) ?_
    simp only [Act.put, sl0, sl1, sl2]
    refine take_no (i := 41) (d := 46) rfl rfl (by kernel_rfl) (by kernel_rfl) (by kernel_rfl) (fun _ _ _ h => h) (by rfl) (by assumption) ?_
    simp only [Act.put, sl0, sl1, sl2]
    refine take_no (i := 42) (d := 47) rfl rfl (by kernel_rfl) (by kernel_rfl) (by kernel_rfl) (fun _ _ _ h => h) (by rfl) (by assumption) ?_
    simp only [Act.put, sl0, sl1, sl2]
    refine take_no (i := 43) (d := 48) rfl rfl (by kernel_rfl) (by kernel_rfl) (by kernel_rfl) (fun _ _ _ h => h) (by rfl) (by assumption) ?_
    simp only [Act.put, sl0, sl1, sl2]
    refine take_no (i := 44) (d := 49) rfl rfl (by kernel_rfl) (by kernel_rfl) (by kernel_rfl) (fun _ _ _ h => h) (by rfl) (by assumption) ?_
    simp only [Act.put, sl0, sl1, sl2]
    refine take_no (i := 45) (d := 50) rfl rfl (by kernel_rfl) (by kernel_rfl) (by kernel_rfl) (fun _ _ _ h => h) (by rfl) (by assumption) ?_
    simp only [Act.put, sl0, sl1, sl2]
    refine take_no (i := 46) (d := 51) rfl rfl (by kernel_rfl) (by kernel_rfl) (by kernel_rfl) (fun _ _ _ h => h) (by rfl) (by assumption) ?_
    simp only [Act.put, sl0, sl1, sl2]
    refine take_no (i := 47) (d := 52) rfl rfl (by kernel_rfl) (by kernel_rfl) (by kernel_rfl) (fun _ _ _ h => h) (by rfl) (by assumption) ?_
    simp only [Act.put, sl0, sl1, sl2]
    refine take_no (i := 48) (d := 53) rfl rfl (by kernel_rfl) (by kernel_rfl) (by kernel_rfl) (fun _ _ _ h => h) (by rfl) (by assumption) ?_
    simp only [Act.put, sl0, sl1, sl2]
    refine take_yes (i := 49) (d := 54) (v := ?v60) rfl rfl (by kernel_rfl) (by kernel_rfl) (by kernel_rfl) (fun _ _ _ h => h) (by rfl) ?y60 (by assumption) ?r60
    case y60 => (intro w hSw; (try dsimp only at hSw); go_simp <;> with_reducible rfl)
    simp only [Act.put, sl0, sl1, sl2]
    refine take_yes (i := 50) (d := 55) (v := ?v61) rfl rfl (by kernel_rfl) (by kernel_rfl) (by kernel_rfl) (fun _ _ _ h => h) (by rfl) ?y61 (by assumption) ?r61
    case y61 => (intro w hSw; (try dsimp only at hSw); go_simp <;> with_reducible rfl)
    simp only [Act.put, sl0, sl1, sl2]
    refine take_no (i := 51) (d := 56) rfl rfl (by kernel_rfl) (by kernel_rfl) (by kernel_rfl) (fun _ _ _ h => h) (by rfl) (by assumption) ?_
    simp only [Act.put, sl0, sl1, sl2]
    refine take_no (i := 52) (d := 57) rfl rfl (by kernel_rfl) (by kernel_rfl) (by kernel_rfl) (fun _ _ _ h => h) (by rfl) (by assumption) ?_
    simp only [Act.put, sl0, sl1, sl2]
    refine take_no (i := 53) (d := 58) rfl rfl (by kernel_rfl) (by kernel_rfl) (by kernel_rfl) (fun _ _ _ h => h) (by rfl) (by assumption) ?_
    simp only [Act.put, sl0, sl1, sl2]
    refine take_no (i := 54) (d := 59) rfl rfl (by kernel_rfl) (by kernel_rfl) (by kernel_rfl) (fun _ _ _ h => h) (by rfl) (by assumption) ?_
    simp only [Act.put, sl0, sl1, sl2]
    refine take_no (i := 55) (d := 60) rfl rfl (by kernel_rfl) (by kernel_rfl) (by kernel_rfl) (fun _ _ _ h => h) (by rfl) (by assumption) ?_
    simp only [Act.put, sl0, sl1, sl2]
    refine take_no (i := 56) (d := 61) rfl rfl (by kernel_rfl) (by kernel_rfl) (by kernel_rfl) (fun _ _ _ h => h) (by rfl) (by assumption) ?_
    simp only [Act.put, sl0, sl1, sl2]
    refine take_no (i := 57) (d := 62) rfl rfl (by kernel_rfl) (by kernel_rfl) (by kernel_rfl) (fun _ _ _ h => h) (by rfl) (by assumption) ?_
    simp only [Act.put, sl0, sl1, sl2]
    refine take_no (i := 58) (d := 63) rfl rfl (by kernel_rfl) (by kernel_rfl) (by kernel_rfl) (fun _ _ _ h => h) (by rfl) (by assumption) ?_
    simp only [Act.put, sl0, sl1, sl2]
    refine take_no (i := 59) (d := 64) rfl rfl (by kernel_rfl) (by kernel_rfl) (by kernel_rfl) (fun _ _ _ h => h) (by rfl) (by assumption) ?_
    simp only [Act.put, sl0, sl1, sl2]
    refine take_yes (i := 60) (d := 65) (v := ?v62) rfl rfl (by kernel_rfl) (by kernel_rfl) (by kernel_rfl) (fun _ _ _ h => h) (by rfl) ?y62 (by assumption) ?r62
    case y62 => (intro w hSw; (try dsimp only at hSw); go_simp <;> with_reducible rfl)
    simp only [Act.put, sl0, sl1, sl2]
    refine take_yes (i := 61) (d := 66) (v := ?v63) rfl rfl (by kernel_rfl) (by kernel_rfl) (by kernel_rfl) (fun _ _ _ h => h) (by rfl) ?y63 (by assumption) ?r63
    case y63 => (intro w hSw; (try dsimp only at hSw); go_simp <;> with_reducible rfl)
    simp only [Act.put, sl0, sl1, sl2]
    refine take_no (i := 62) (d := 67) rfl rfl (by kernel_rfl) (by kernel_rfl) (by kernel_rfl) (fun _ _ _ h => h) (by rfl) (by assumption) ?_
    simp only [Act.put, sl0, sl1, sl2]
    refine take_no (i := 63) (d := 68) rfl rfl (by kernel_rfl) (by kernel_rfl) (by kernel_rfl) (fun _ _ _ h => h) (by rfl) (by assumption) ?_
    simp only [Act.put, sl0, sl1, sl2]
    refine take_no (i := 64) (d := 69) rfl rfl (by kernel_rfl) (by kernel_rfl) (by kernel_rfl) (fun _ _ _ h => h) (by rfl) (by assumption) ?_
    simp only [Act.put, sl0, sl1, sl2]
    refine take_no (i := 65) (d := 70) rfl rfl (by kernel_rfl) (by kernel_rfl) (by kernel_rfl) (fun _ _ _ h => h) (by rfl) (by assumption) ?_
    simp only [Act.put, sl0, sl1, sl2]
    refine take_no (i := 66) (d := 71) rfl rfl (by kernel_rfl) (by kernel_rfl) (by kernel_rfl) (fun _ _ _ h => h) (by rfl) (by assumption) ?_
    simp only [Act.put, sl0, sl1, sl2]
    refine take_no (i := 67) (d := 72) rfl rfl (by kernel_rfl) (by kernel_rfl) (by kernel_rfl) (fun _ _ _ h => h) (by rfl) (by assumption) ?_
    simp only [Act.put, sl0, sl1, sl2]
    refine take_no (i := 68) (d := 73) rfl rfl (by kernel_rfl) (by kernel_rfl) (by kernel_rfl) (fun _ _ _ h => h) (by rfl) (by assumption) ?_
    simp only [Act.put, sl0, sl1, sl2]
    refine take_no (i := 69) (d := 74) rfl rfl (by kernel_rfl) (by kernel_rfl) (by kernel_rfl) (fun _ _ _ h => h) (by rfl) (by assumption) ?_
    simp only [Act.put, sl0, sl1, sl2]
    refine take_no (i := 70) (d := 75) rfl rfl (by kernel_rfl) (by kernel_rfl) (by kernel_rfl) (fun _ _ _ h => h) (by rfl) (by assumption) ?_
    simp only [Act.put, sl0, sl1, sl2]
    refine take_yes (i := 71) (d := 76) (v := ?v64) rfl rfl (by kernel_rfl) (by kernel_rfl) (by kernel_rfl) (fun _ _ _ h => h) (by rfl) ?y64 (by assumption) ?r64
    case y64 => (intro w hSw; (try dsimp only at hSw); go_simp <;> with_reducible rfl)
    simp only [Act.put, sl0, sl1, sl2]
    refine take_yes (i := 72) (d := 4) (v := ?v65) rfl rfl (by kernel_rfl) (by kernel_rfl) (by kernel_rfl) (fun _ _ _ h => h) (by rfl) ?y65 (by assumption) ?r65
    case y65 => (intro w hSw; (try dsimp only at hSw); go_simp <;> with_reducible rfl)
    simp only [Act.put, sl0, sl1, sl2]
    refine wpAnyH_done (by kernel_rfl) ?_ _
    replace HB := Lib.hid (HB.out.keep hz3)
    clear hb2 hz2 hb3 hz3 HSC HZ0 HS1 KR1 KR2
    go_wp2
    go_ret
    exact ⟨ret_bool hno.out.symm, HB.out.below⟩
  have E0 : Hid (∀ z : World, Below W.heap.size W z → Calls Tryz.prog 85 #[.agg #[.int .i64 m, .slice A m c], .int .i64 v0, .int .i64 v1] z fun e w' => e = .returned (.bool true) ∧ Below z.heap.size z w') := fun z hz => by
    have := l2Edge_v (HG.out.keep hz) m0 m1
    rwa [t0] at this
  have T0 := Lib.hid t0
  clear t0
  cases t1 : (rw_ x v2).testBit v3
  · have hno : Hid (teB (m : Int) m x l = false) := by
      show _ = _; unfold teB
      rw [ajB_no (i := 2) (k := 3) (by omega) (by rw [← HN.out]; omega) (by rw [Hed.out.2.2.2.2.2, t1]; decide), Bool.and_false]
    have E1 : Hid (∀ z : World, Below W.heap.size W z → Calls Tryz.prog 85 #[.agg #[.int .i64 m, .slice A m c], .int .i64 v2, .int .i64 v3] z fun e w' => e = .returned (.bool false) ∧ Below z.heap.size z w') := fun z hz => by
      have := l2Edge_v (HG.out.keep hz) m2 m3
      rwa [t1] at this
    clear t1
    go_enter Tryz.func317, Tryz.ntmps317
    go_wp2_with fail
    rw [← HW.out]
    have HSC : Hid (∀ z : World, Below W.heap.size W z → (Below W.heap.size W z ∧ z.cell? ⟨w.heap.size, 0, none⟩ = some (.int .i64 m) ∧ z.cell? ⟨w.heap.size, 1, none⟩ = some (.slice A m c) ∧ z.cell? ⟨b2, o2, none⟩ = some (.int .i64 v0) ∧ z.cell? ⟨b2, o2 + 1, none⟩ = some (.int .i64 v1) ∧ z.cell? ⟨b2, o2 + 2, none⟩ = some (.int .i64 v2) ∧ z.cell? ⟨b2, o2 + 3, none⟩ = some (.int .i64 v3))) := fun z hz => ⟨hz, up_ hz e0, up_ hz e1, up_ hz p0, up_ hz p1, up_ hz p2, up_ hz p3⟩
    have HZ0 : Hid (Below W.heap.size W W.drew) := (Below.refl _ _).drew
    have HS1 := Lib.hid (HSC.out _ HZ0.out)
    have KR1 : Hid (∀ z : World, Below W.heap.size W z → _) := fun z hz => KD.out z hz
    have KR2 : Hid (∀ z : World, Below W.heap.size W z → _) := fun z hz => E0.out z hz
    have KR3 : Hid (∀ z : World, Below W.heap.size W z → _) := fun z hz => E1.out z hz
    refine wp_region_held_drew (S := fun z => Below W.heap.size W z ∧ z.cell? ⟨w.heap.size, 0, none⟩ = some (.int .i64 m) ∧ z.cell? ⟨w.heap.size, 1, none⟩ = some (.slice A m c) ∧ z.cell? ⟨b2, o2, none⟩ = some (.int .i64 v0) ∧ z.cell? ⟨b2, o2 + 1, none⟩ = some (.int .i64 v1) ∧ z.cell? ⟨b2, o2 + 2, none⟩ = some (.int .i64 v2) ∧ z.cell? ⟨b2, o2 + 3, none⟩ = some (.int .i64 v3)) (by kernel_rfl) HS1.out (fun hHeld => ?_)
    refine take_yes (i := 0) (d := 5) (v := ?v66) rfl rfl (by kernel_rfl) (by kernel_rfl) (by kernel_rfl) (fun _ _ _ h => h) (by rfl) ?y66 (by assumption) ?r66
    case y66 => (intro w hSw; (try dsimp only at hSw); go_simp <;> with_reducible rfl)
    simp only [Act.put, sl0, sl1, sl2]
    refine take_yes (i := 1) (d := 6) (v := ?v67) rfl rfl (by kernel_rfl) (by kernel_rfl) (by kernel_rfl) (fun _ _ _ h => h) (by rfl) ?y67 (by assumption) ?r67
    case y67 => (intro w hSw; (try dsimp only at hSw); go_simp <;> with_reducible rfl)
    simp only [Act.put, sl0, sl1, sl2]
    refine take_yes (i := 2) (d := 7) (v := ?v68) rfl rfl (by kernel_rfl) (by kernel_rfl) (by kernel_rfl) (fun _ _ _ h => h) (by rfl) ?y68 (by assumption) ?r68
    case y68 => (intro w hSw; (try dsimp only at hSw); go_simp <;> with_reducible rfl)
    simp only [Act.put, sl0, sl1, sl2]
    refine take_yes (i := 3) (d := 8) (v := ?v69) rfl rfl (by kernel_rfl) (by kernel_rfl) (by kernel_rfl) (fun _ _ _ h => h) (by rfl) ?y69 (by assumption) ?r69
    case y69 => (intro w hSw; (try dsimp only at hSw); go_simp <;> with_reducible rfl)
    simp only [Act.put, sl0, sl1, sl2]
    refine take_yes (i := 4) (d := 9) (v := ?v70) rfl rfl (by kernel_rfl) (by kernel_rfl) (by kernel_rfl) (fun _ _ _ h => h) (by rfl) ?y70 (by assumption) ?r70
    case y70 => (intro w hSw; (try dsimp only at hSw); go_simp <;> with_reducible rfl)
    simp only [Act.put, sl0, sl1, sl2]
    refine take_yes (i := 5) (d := 10) (v := ?v71) rfl rfl (by kernel_rfl) (by kernel_rfl) (by kernel_rfl) (fun _ _ _ h => h) (by rfl) ?y71 (by assumption) ?r71
    case y71 => (intro w hSw; (try dsimp only at hSw); go_simp <;> with_reducible rfl)
    simp only [Act.put, sl0, sl1, sl2]
    refine wpAnyH_ready (rs := [6]) (by kernel_rfl) (by simp) ?_
    refine AllReadyH.cons rfl (fun K hK => ?_) AllReadyH.nil
    go_simp
    go_at_call 339; refine (KR1.out _ HZ0.out).mono ?_
    rintro e w4 ⟨rfl, hb4⟩
    have hz4 := bl_trans HZ0.out hb4
    refine hK.out _ _ (HSC.out _ hz4) (fun hHeld => ?_)
    clear hK K
    try simp only [Act.put, sl0, sl1, sl2]
    refine take_yes (i := 7) (d := 12) (v := ?v72) rfl rfl (by kernel_rfl) (by kernel_rfl) (by kernel_rfl) (fun _ _ _ h => h) (by rfl) ?y72 (by assumption) ?r72
    case y72 => (intro w hSw; (try dsimp only at hSw); go_simp <;> with_reducible rfl)
    simp only [Act.put, sl0, sl1, sl2]
    refine take_yes (i := 8) (d := 13) (v := ?v73) rfl rfl (by kernel_rfl) (by kernel_rfl) (by kernel_rfl) (fun _ _ _ h => h) (by rfl) ?y73 (by assumption) ?r73
    case y73 => (intro w hSw; (try dsimp only at hSw); go_simp <;> with_reducible rfl)
    simp only [Act.put, sl0, sl1, sl2]
    refine take_yes (i := 9) (d := 14) (v := ?v74) rfl rfl (by kernel_rfl) (by kernel_rfl) (by kernel_rfl) (fun _ _ _ h => h) (by rfl) ?y74 (by assumption) ?r74
    case y74 => (intro w hSw; (try dsimp only at hSw); go_simp <;> with_reducible rfl)
    simp only [Act.put, sl0, sl1, sl2]
    refine take_yes (i := 10) (d := 15) (v := ?v75) rfl rfl (by kernel_rfl) (by kernel_rfl) (by kernel_rfl) (fun _ _ _ h => h) (by rfl) ?y75 (by assumption) ?r75
    case y75 => (intro w hSw; (try dsimp only at hSw); go_simp <;> with_reducible rfl)
    simp only [Act.put, sl0, sl1, sl2]
    refine take_yes (i := 11) (d := 16) (v := ?v76) rfl rfl (by kernel_rfl) (by kernel_rfl) (by kernel_rfl) (fun _ _ _ h => h) (by rfl) ?y76 (by assumption) ?r76
    case y76 => (intro w hSw; (try dsimp only at hSw); go_simp <;> with_reducible rfl)
    simp only [Act.put, sl0, sl1, sl2]
    refine take_yes (i := 12) (d := 17) (v := ?v77) rfl rfl (by kernel_rfl) (by kernel_rfl) (by kernel_rfl) (fun _ _ _ h => h) (by rfl) ?y77 (by assumption) ?r77
    case y77 => (intro w hSw; (try dsimp only at hSw); go_simp <;> with_reducible rfl)
    simp only [Act.put, sl0, sl1, sl2]
    refine take_yes (i := 13) (d := 18) (v := ?v78) rfl rfl (by kernel_rfl) (by kernel_rfl) (by kernel_rfl) (fun _ _ _ h => h) (by rfl) ?y78 (by assumption) ?r78
    case y78 => (intro w hSw; (try dsimp only at hSw); go_simp <;> with_reducible rfl)
    simp only [Act.put, sl0, sl1, sl2]
    refine take_yes (i := 14) (d := 19) (v := ?v79) rfl rfl (by kernel_rfl) (by kernel_rfl) (by kernel_rfl) (fun _ _ _ h => h) (by rfl) ?y79 (by assumption) ?r79
    case y79 => (intro w hSw; (try dsimp only at hSw); go_simp <;> with_reducible rfl)
    simp only [Act.put, sl0, sl1, sl2]
    refine take_yes (i := 15) (d := 20) (v := ?v80) rfl rfl (by kernel_rfl) (by kernel_rfl) (by kernel_rfl) (fun _ _ _ h => h) (by rfl) ?y80 (by assumption) ?r80
    case y80 => (intro w hSw; (try dsimp only at hSw); go_simp <;> with_reducible rfl)
    simp only [Act.put, sl0, sl1, sl2]
    refine wpAnyH_ready (rs := [16]) (by kernel_rfl) (by simp) ?_
    refine AllReadyH.cons rfl (fun K hK => ?_) AllReadyH.nil
    go_simp
    go_at_call 85; refine (KR2.out _ hz4).mono ?_
    rintro e w5 ⟨rfl, hb5⟩
    have hz5 := bl_trans hz4 hb5
    refine hK.out _ _ (HSC.out _ hz5) (fun hHeld => ?_)
    clear hK K
    try simp only [Act.put, sl0, sl1, sl2]
    refine take_yes (i := 17) (d := 22) (v := ?v81) rfl rfl (by kernel_rfl) (by kernel_rfl) (by kernel_rfl) (fun _ _ _ h => h) (by rfl) ?y81 (by assumption) ?r81
    case y81 => (intro w hSw; (try dsimp only at hSw); go_simp <;> with_reducible rfl)
    simp only [Act.put, sl0, sl1, sl2]
    refine take_yes (i := 18) (d := 23) (v := ?v82) rfl rfl (by kernel_rfl) (by kernel_rfl) (by kernel_rfl) (fun _ _ _ h => h) (by rfl) ?y82 (by assumption) ?r82
    case y82 => (intro w hSw; (try dsimp only at hSw); go_simp <;> with_reducible rfl)
    simp only [Act.put, sl0, sl1, sl2]
    refine take_yes (i := 19) (d := 24) (v := ?v83) rfl rfl (by kernel_rfl) (by kernel_rfl) (by kernel_rfl) (fun _ _ _ h => h) (by rfl) ?y83 (by assumption) ?r83
    case y83 => (intro w hSw; (try dsimp only at hSw); go_simp <;> with_reducible rfl)
    simp only [Act.put, sl0, sl1, sl2]
    refine take_yes (i := 20) (d := 25) (v := ?v84) rfl rfl (by kernel_rfl) (by kernel_rfl) (by kernel_rfl) (fun _ _ _ h => h) (by rfl) ?y84 (by assumption) ?r84
    case y84 => (intro w hSw; (try dsimp only at hSw); go_simp <;> with_reducible rfl)
    simp only [Act.put, sl0, sl1, sl2]
    refine take_yes (i := 21) (d := 26) (v := ?v85) rfl rfl (by kernel_rfl) (by kernel_rfl) (by kernel_rfl) (fun _ _ _ h => h) (by rfl) ?y85 (by assumption) ?r85
    case y85 => (intro w hSw; (try dsimp only at hSw); go_simp <;> with_reducible rfl)
    simp only [Act.put, sl0, sl1, sl2]
    refine take_yes (i := 22) (d := 27) (v := ?v86) rfl rfl (by kernel_rfl) (by kernel_rfl) (by kernel_rfl) (fun _ _ _ h => h) (by rfl) ?y86 (by assumption) ?r86
    case y86 => (intro w hSw; (try dsimp only at hSw); go_simp <;> with_reducible rfl)
    simp only [Act.put, sl0, sl1, sl2]
    refine take_yes (i := 23) (d := 28) (v := ?v87) rfl rfl (by kernel_rfl) (by kernel_rfl) (by kernel_rfl) (fun _ _ _ h => h) (by rfl) ?y87 (by assumption) ?r87
    case y87 => (intro w hSw; (try dsimp only at hSw); go_simp <;> with_reducible rfl)
    simp only [Act.put, sl0, sl1, sl2]
    refine take_yes (i := 24) (d := 29) (v := ?v88) rfl rfl (by kernel_rfl) (by kernel_rfl) (by kernel_rfl) (fun _ _ _ h => h) (by rfl) ?y88 (by assumption) ?r88
    case y88 => (intro w hSw; (try dsimp only at hSw); go_simp <;> with_reducible rfl)
    simp only [Act.put, sl0, sl1, sl2]
    refine take_yes (i := 25) (d := 30) (v := ?v89) rfl rfl (by kernel_rfl) (by kernel_rfl) (by kernel_rfl) (fun _ _ _ h => h) (by rfl) ?y89 (by assumption) ?r89
    case y89 => (intro w hSw; (try dsimp only at hSw); go_simp <;> with_reducible rfl)
    simp only [Act.put, sl0, sl1, sl2]
    refine wpAnyH_ready (rs := [26]) (by kernel_rfl) (by simp) ?_
    refine AllReadyH.cons rfl (fun K hK => ?_) AllReadyH.nil
    go_simp
    go_at_call 85; refine (KR3.out _ hz5).mono ?_
    rintro e w6 ⟨rfl, hb6⟩
    have hz6 := bl_trans hz5 hb6
    refine hK.out _ _ (HSC.out _ hz6) (fun hHeld => ?_)
    clear hK K
    try simp only [Act.put, sl0, sl1, sl2]
    refine take_yes (i := 27) (d := 32) (v := ?v90) rfl rfl (by kernel_rfl) (by kernel_rfl) (by kernel_rfl) (fun _ _ _ h => h) (by rfl) ?y90 (by assumption) ?r90
    case y90 => (intro w hSw; (try dsimp only at hSw); go_simp <;> with_reducible rfl)
    simp only [Act.put, sl0, sl1, sl2]
    refine take_yes (i := 28) (d := 33) (v := ?v91) rfl rfl (by kernel_rfl) (by kernel_rfl) (by kernel_rfl) (fun _ _ _ h => h) (by rfl) ?y91 (by assumption) ?r91
    case y91 => (intro w hSw; (try dsimp only at hSw); go_simp <;> with_reducible rfl)
    simp only [Act.put, sl0, sl1, sl2]
    refine take_no (i := 29) (d := 34) rfl rfl (by kernel_rfl) (by kernel_rfl) (by kernel_rfl) (fun _ _ _ h => h) (by rfl) (by assumption) ?_
    simp only [Act.put, sl0, sl1, sl2]
    refine take_no (i := 30) (d := 35) rfl rfl (by kernel_rfl) (by kernel_rfl) (by kernel_rfl) (fun _ _ _ h => h) (by rfl) (by assumption) ?_
    simp only [Act.put, sl0, sl1, sl2]
    refine take_no (i := 31) (d := 36) rfl rfl (by kernel_rfl) (by kernel_rfl) (by kernel_rfl) (fun _ _ _ h => h) (by rfl) (by assumption) ?_
    simp only [Act.put, sl0, sl1, sl2]
    refine take_no (i := 32) (d := 37) rfl rfl (by kernel_rfl) (by kernel_rfl) (by kernel_rfl) (fun _ _ _ h => h) (by rfl) (by assumption) ?_
    simp only [Act.put, sl0, sl1, sl2]
    refine take_no (i := 33) (d := 38) rfl rfl (by kernel_rfl) (by kernel_rfl) (by kernel_rfl) (fun _ _ _ h => h) (by rfl) (by assumption) ?_
    simp only [Act.put, sl0, sl1, sl2]
    refine take_no (i := 34) (d := 39) rfl rfl (by kernel_rfl) (by kernel_rfl) (by kernel_rfl) (fun _ _ _ h => h) (by rfl) (by assumption) ?_
    simp only [Act.put, sl0, sl1, sl2]
    refine take_no (i := 35) (d := 40) rfl rfl (by kernel_rfl) (by kernel_rfl) (by kernel_rfl) (fun _ _ _ h => h) (by rfl) (by assumption) ?_
    simp only [Act.put, sl0, sl1, sl2]
    refine take_no (i := 36) (d := 41) rfl rfl (by kernel_rfl) (by kernel_rfl) (by kernel_rfl) (fun _ _ _ h => h) (by rfl) (by assumption) ?_
    simp only [Act.put, sl0, sl1, sl2]
    refine take_no (i := 37) (d := 42) rfl rfl (by kernel_rfl) (by kernel_rfl) (by kernel_rfl) (fun _ _ _ h => h) (by rfl) (by assumption) ?_
    simp only [Act.put, sl0, sl1, sl2]
    refine take_yes (i := 38) (d := 43) (v := ?v92) rfl rfl (by kernel_rfl) (by kernel_rfl) (by kernel_rfl) (fun _ _ _ h => h) (by rfl) ?y92 (by assumption) ?r92
    case y92 => (intro w hSw; (try dsimp only at hSw); go_simp <;> with_reducible rfl)
    simp only [Act.put, sl0, sl1, sl2]
    refine take_yes (i := 39) (d := 44) (v := ?v93) rfl rfl (by kernel_rfl) (by kernel_rfl) (by kernel_rfl) (fun _ _ _ h => h) (by rfl) ?y93 (by assumption) ?r93
    case y93 => (intro w hSw; (try dsimp only at hSw); go_simp <;> with_reducible rfl)
    simp only [Act.put, sl0, sl1, sl2]
    refine take_no (i := 40) (d := 45) rfl rfl (by kernel_rfl) (by kernel_rfl) (by kernel_rfl) (fun _ _ _ h => h) (by rfl) (by assumption) ?_
    simp only [Act.put, sl0, sl1, sl2]
    refine take_no (i := 41) (d := 46) rfl rfl (by kernel_rfl) (by kernel_rfl) (by kernel_rfl) (fun _ _ _ h => h) (by rfl) (by assumption) ?_
    simp only [Act.put, sl0, sl1, sl2]
    refine take_no (i := 42) (d := 47) rfl rfl (by kernel_rfl) (by kernel_rfl) (by kernel_rfl) (fun _ _ _ h => h) (by rfl) (by assumption) ?_
    simp only [Act.put, sl0, sl1, sl2]
    refine take_no (i := 43) (d := 48) rfl rfl (by kernel_rfl) (by kernel_rfl) (by kernel_rfl) (fun _ _ _ h => h) (by rfl) (by assumption) ?_
    simp only [Act.put, sl0, sl1, sl2]
    refine take_no (i := 44) (d := 49) rfl rfl (by kernel_rfl) (by kernel_rfl) (by kernel_rfl) (fun _ _ _ h => h) (by rfl) (by assumption) ?_
    simp only [Act.put, sl0, sl1, sl2]
    refine take_no (i := 45) (d := 50) rfl rfl (by kernel_rfl) (by kernel_rfl) (by kernel_rfl) (fun _ _ _ h => h) (by rfl) (by assumption) ?_
    simp only [Act.put, sl0, sl1, sl2]
    refine take_no (i := 46) (d := 51) rfl rfl (by kernel_rfl) (by kernel_rfl) (by kernel_rfl) (fun _ _ _ h => h) (by rfl) (by assumption) ?_
    simp only [Act.put, sl0, sl1, sl2]
    refine take_no (i := 47) (d := 52) rfl rfl (by kernel_rfl) (by kernel_rfl) (by kernel_rfl) (fun _ _ _ h => h) (by rfl) (by assumption) ?_
    simp only [Act.put, sl0, sl1, sl2]
    refine take_no (i := 48) (d := 53) rfl rfl (by kernel_rfl) (by kernel_rfl) (by kernel_rfl) (fun _ _ _ h => h) (by rfl) (by assumption) ?_
    simp only [Act.put, sl0, sl1, sl2]
    refine take_yes (i := 49) (d := 54) (v := ?v94) rfl rfl (by kernel_rfl) (by kernel_rfl) (by kernel_rfl) (fun _ _ _ h => h) (by rfl) ?y94 (by assumption) ?r94
    case y94 => (intro w hSw; (try dsimp only at hSw); go_simp <;> with_reducible rfl)
    simp only [Act.put, sl0, sl1, sl2]
    refine take_yes (i := 50) (d := 55) (v := ?v95) rfl rfl (by kernel_rfl) (by kernel_rfl) (by kernel_rfl) (fun _ _ _ h => h) (by rfl) ?y95 (by assumption) ?r95
    case y95 => (intro w hSw; (try dsimp only at hSw); go_simp <;> with_reducible rfl)
    simp only [Act.put, sl0, sl1, sl2]
    refine take_no (i := 51) (d := 56) rfl rfl (by kernel_rfl) (by kernel_rfl) (by kernel_rfl) (fun _ _ _ h => h) (by rfl) (by assumption) ?_
    simp only [Act.put, sl0, sl1, sl2]
    refine take_no (i := 52) (d := 57) rfl rfl (by kernel_rfl) (by kernel_rfl) (by kernel_rfl) (fun _ _ _ h => h) (by rfl) (by assumption) ?_
    simp only [Act.put, sl0, sl1, sl2]
    refine take_no (i := 53) (d := 58) rfl rfl (by kernel_rfl) (by kernel_rfl) (by kernel_rfl) (fun _ _ _ h => h) (by rfl) (by assumption) ?_
    simp only [Act.put, sl0, sl1, sl2]
    refine take_no (i := 54) (d := 59) rfl rfl (by kernel_rfl) (by kernel_rfl) (by kernel_rfl) (fun _ _ _ h => h) (by rfl) (by assumption) ?_
    simp only [Act.put, sl0, sl1, sl2]
    refine take_no (i := 55) (d := 60) rfl rfl (by kernel_rfl) (by kernel_rfl) (by kernel_rfl) (fun _ _ _ h => h) (by rfl) (by assumption) ?_
    simp only [Act.put, sl0, sl1, sl2]
    refine take_no (i := 56) (d := 61) rfl rfl (by kernel_rfl) (by kernel_rfl) (by kernel_rfl) (fun _ _ _ h => h) (by rfl) (by assumption) ?_
    simp only [Act.put, sl0, sl1, sl2]
    refine take_no (i := 57) (d := 62) rfl rfl (by kernel_rfl) (by kernel_rfl) (by kernel_rfl) (fun _ _ _ h => h) (by rfl) (by assumption) ?_
    simp only [Act.put, sl0, sl1, sl2]
    refine take_no (i := 58) (d := 63) rfl rfl (by kernel_rfl) (by kernel_rfl) (by kernel_rfl) (fun _ _ _ h => h) (by rfl) (by assumption) ?_
    simp only [Act.put, sl0, sl1, sl2]
    refine take_no (i := 59) (d := 64) rfl rfl (by kernel_rfl) (by kernel_rfl) (by kernel_rfl) (fun _ _ _ h => h) (by rfl) (by assumption) ?_
    simp only [Act.put, sl0, sl1, sl2]
    refine take_yes (i := 60) (d := 65) (v := ?v96) rfl rfl (by kernel_rfl) (by kernel_rfl) (by kernel_rfl) (fun _ _ _ h => h) (by rfl) ?y96 (by assumption) ?r96
    case y96 => (intro w hSw; (try dsimp only at hSw); go_simp <;> with_reducible rfl)
    simp only [Act.put, sl0, sl1, sl2]
    refine take_yes (i := 61) (d := 66) (v := ?v97) rfl rfl (by kernel_rfl) (by kernel_rfl) (by kernel_rfl) (fun _ _ _ h => h) (by rfl) ?y97 (by assumption) ?r97
    case y97 => (intro w hSw; (try dsimp only at hSw); go_simp <;> with_reducible rfl)
    simp only [Act.put, sl0, sl1, sl2]
    refine take_no (i := 62) (d := 67) rfl rfl (by kernel_rfl) (by kernel_rfl) (by kernel_rfl) (fun _ _ _ h => h) (by rfl) (by assumption) ?_
    simp only [Act.put, sl0, sl1, sl2]
    refine take_no (i := 63) (d := 68) rfl rfl (by kernel_rfl) (by kernel_rfl) (by kernel_rfl) (fun _ _ _ h => h) (by rfl) (by assumption) ?_
    simp only [Act.put, sl0, sl1, sl2]
    refine take_no (i := 64) (d := 69) rfl rfl (by kernel_rfl) (by kernel_rfl) (by kernel_rfl) (fun _ _ _ h => h) (by rfl) (by assumption) ?_
    simp only [Act.put, sl0, sl1, sl2]
    refine take_no (i := 65) (d := 70) rfl rfl (by kernel_rfl) (by kernel_rfl) (by kernel_rfl) (fun _ _ _ h => h) (by rfl) (by assumption) ?_
    simp only [Act.put, sl0, sl1, sl2]
    refine take_no (i := 66) (d := 71) rfl rfl (by kernel_rfl) (by kernel_rfl) (by kernel_rfl) (fun _ _ _ h => h) (by rfl) (by assumption) ?_
    simp only [Act.put, sl0, sl1, sl2]
    refine take_no (i := 67) (d := 72) rfl rfl (by kernel_rfl) (by kernel_rfl) (by kernel_rfl) (fun _ _ _ h => h) (by rfl) (by assumption) ?_
    simp only [Act.put, sl0, sl1, sl2]
    refine take_no (i := 68) (d := 73) rfl rfl (by kernel_rfl) (by kernel_rfl) (by kernel_rfl) (fun _ _ _ h => h) (by rfl) (by assumption) ?_
    simp only [Act.put, sl0, sl1, sl2]
    refine take_no (i := 69) (d := 74) rfl rfl (by kernel_rfl) (by kernel_rfl) (by kernel_rfl) (fun _ _ _ h => h) (by rfl) (by assumption) ?_
    simp only [Act.put, sl0, sl1, sl2]
    refine take_no (i := 70) (d := 75) rfl rfl (by kernel_rfl) (by kernel_rfl) (by kernel_rfl) (fun _ _ _ h => h) (by rfl) (by assumption) ?_
    simp only [Act.put, sl0, sl1, sl2]
    refine take_yes (i := 71) (d := 76) (v := ?v98) rfl rfl (by kernel_rfl) (by kernel_rfl) (by kernel_rfl) (fun _ _ _ h => h) (by rfl) ?y98 (by assumption) ?r98
    case y98 => (intro w hSw; (try dsimp only at hSw); go_simp <;> with_reducible rfl)
    simp only [Act.put, sl0, sl1, sl2]
    refine take_yes (i := 72) (d := 4) (v := ?v99) rfl rfl (by kernel_rfl) (by kernel_rfl) (by kernel_rfl) (fun _ _ _ h => h) (by rfl) ?y99 (by assumption) ?r99
    case y99 => (intro w hSw; (try dsimp only at hSw); go_simp <;> with_reducible rfl)
    simp only [Act.put, sl0, sl1, sl2]
    refine wpAnyH_done (by kernel_rfl) ?_ _
    replace HB := Lib.hid (HB.out.keep hz6)
    clear hb4 hz4 hb5 hz5 hb6 hz6 HSC HZ0 HS1 KR1 KR2 KR3
    go_wp2
    go_ret
    exact ⟨ret_bool hno.out.symm, HB.out.below⟩
  have E1 : Hid (∀ z : World, Below W.heap.size W z → Calls Tryz.prog 85 #[.agg #[.int .i64 m, .slice A m c], .int .i64 v2, .int .i64 v3] z fun e w' => e = .returned (.bool true) ∧ Below z.heap.size z w') := fun z hz => by
    have := l2Edge_v (HG.out.keep hz) m2 m3
    rwa [t1] at this
  have T1 := Lib.hid t1
  clear t1
  cases t2 : (rw_ x v0).testBit v2
  rotate_left
  · have hno : Hid (teB (m : Int) m x l = false) := by
      show _ = _; unfold teB
      rw [ajB_no (i := 0) (k := 2) (by omega) (by rw [← HN.out]; omega) (by rw [Hed.out.2.1, t2]; decide), Bool.and_false]
    have E2 : Hid (∀ z : World, Below W.heap.size W z → Calls Tryz.prog 85 #[.agg #[.int .i64 m, .slice A m c], .int .i64 v0, .int .i64 v2] z fun e w' => e = .returned (.bool true) ∧ Below z.heap.size z w') := fun z hz => by
      have := l2Edge_v (HG.out.keep hz) m0 m2
      rwa [t2] at this
    clear t2
    go_enter Tryz.func317, Tryz.ntmps317
    go_wp2_with fail
    rw [← HW.out]
    have HSC : Hid (∀ z : World, Below W.heap.size W z → (Below W.heap.size W z ∧ z.cell? ⟨w.heap.size, 0, none⟩ = some (.int .i64 m) ∧ z.cell? ⟨w.heap.size, 1, none⟩ = some (.slice A m c) ∧ z.cell? ⟨b2, o2, none⟩ = some (.int .i64 v0) ∧ z.cell? ⟨b2, o2 + 1, none⟩ = some (.int .i64 v1) ∧ z.cell? ⟨b2, o2 + 2, none⟩ = some (.int .i64 v2) ∧ z.cell? ⟨b2, o2 + 3, none⟩ = some (.int .i64 v3))) := fun z hz => ⟨hz, up_ hz e0, up_ hz e1, up_ hz p0, up_ hz p1, up_ hz p2, up_ hz p3⟩
    have HZ0 : Hid (Below W.heap.size W W.drew) := (Below.refl _ _).drew
    have HS1 := Lib.hid (HSC.out _ HZ0.out)
    have KR1 : Hid (∀ z : World, Below W.heap.size W z → _) := fun z hz => KD.out z hz
    have KR2 : Hid (∀ z : World, Below W.heap.size W z → _) := fun z hz => E0.out z hz
    have KR3 : Hid (∀ z : World, Below W.heap.size W z → _) := fun z hz => E1.out z hz
    have KR4 : Hid (∀ z : World, Below W.heap.size W z → _) := fun z hz => E2.out z hz
    refine wp_region_held_drew (S := fun z => Below W.heap.size W z ∧ z.cell? ⟨w.heap.size, 0, none⟩ = some (.int .i64 m) ∧ z.cell? ⟨w.heap.size, 1, none⟩ = some (.slice A m c) ∧ z.cell? ⟨b2, o2, none⟩ = some (.int .i64 v0) ∧ z.cell? ⟨b2, o2 + 1, none⟩ = some (.int .i64 v1) ∧ z.cell? ⟨b2, o2 + 2, none⟩ = some (.int .i64 v2) ∧ z.cell? ⟨b2, o2 + 3, none⟩ = some (.int .i64 v3)) (by kernel_rfl) HS1.out (fun hHeld => ?_)
    refine take_yes (i := 0) (d := 5) (v := ?v100) rfl rfl (by kernel_rfl) (by kernel_rfl) (by kernel_rfl) (fun _ _ _ h => h) (by rfl) ?y100 (by assumption) ?r100
    case y100 => (intro w hSw; (try dsimp only at hSw); go_simp <;> with_reducible rfl)
    simp only [Act.put, sl0, sl1, sl2]
    refine take_yes (i := 1) (d := 6) (v := ?v101) rfl rfl (by kernel_rfl) (by kernel_rfl) (by kernel_rfl) (fun _ _ _ h => h) (by rfl) ?y101 (by assumption) ?r101
    case y101 => (intro w hSw; (try dsimp only at hSw); go_simp <;> with_reducible rfl)
    simp only [Act.put, sl0, sl1, sl2]
    refine take_yes (i := 2) (d := 7) (v := ?v102) rfl rfl (by kernel_rfl) (by kernel_rfl) (by kernel_rfl) (fun _ _ _ h => h) (by rfl) ?y102 (by assumption) ?r102
    case y102 => (intro w hSw; (try dsimp only at hSw); go_simp <;> with_reducible rfl)
    simp only [Act.put, sl0, sl1, sl2]
    refine take_yes (i := 3) (d := 8) (v := ?v103) rfl rfl (by kernel_rfl) (by kernel_rfl) (by kernel_rfl) (fun _ _ _ h => h) (by rfl) ?y103 (by assumption) ?r103
    case y103 => (intro w hSw; (try dsimp only at hSw); go_simp <;> with_reducible rfl)
    simp only [Act.put, sl0, sl1, sl2]
    refine take_yes (i := 4) (d := 9) (v := ?v104) rfl rfl (by kernel_rfl) (by kernel_rfl) (by kernel_rfl) (fun _ _ _ h => h) (by rfl) ?y104 (by assumption) ?r104
    case y104 => (intro w hSw; (try dsimp only at hSw); go_simp <;> with_reducible rfl)
    simp only [Act.put, sl0, sl1, sl2]
    refine take_yes (i := 5) (d := 10) (v := ?v105) rfl rfl (by kernel_rfl) (by kernel_rfl) (by kernel_rfl) (fun _ _ _ h => h) (by rfl) ?y105 (by assumption) ?r105
    case y105 => (intro w hSw; (try dsimp only at hSw); go_simp <;> with_reducible rfl)
    simp only [Act.put, sl0, sl1, sl2]
    refine wpAnyH_ready (rs := [6]) (by kernel_rfl) (by simp) ?_
    refine AllReadyH.cons rfl (fun K hK => ?_) AllReadyH.nil
    go_simp
    go_at_call 339; refine (KR1.out _ HZ0.out).mono ?_
    rintro e w7 ⟨rfl, hb7⟩
    have hz7 := bl_trans HZ0.out hb7
    refine hK.out _ _ (HSC.out _ hz7) (fun hHeld => ?_)
    clear hK K
    try simp only [Act.put, sl0, sl1, sl2]
    refine take_yes (i := 7) (d := 12) (v := ?v106) rfl rfl (by kernel_rfl) (by kernel_rfl) (by kernel_rfl) (fun _ _ _ h => h) (by rfl) ?y106 (by assumption) ?r106
    case y106 => (intro w hSw; (try dsimp only at hSw); go_simp <;> with_reducible rfl)
    simp only [Act.put, sl0, sl1, sl2]
    refine take_yes (i := 8) (d := 13) (v := ?v107) rfl rfl (by kernel_rfl) (by kernel_rfl) (by kernel_rfl) (fun _ _ _ h => h) (by rfl) ?y107 (by assumption) ?r107
    case y107 => (intro w hSw; (try dsimp only at hSw); go_simp <;> with_reducible rfl)
    simp only [Act.put, sl0, sl1, sl2]
    refine take_yes (i := 9) (d := 14) (v := ?v108) rfl rfl (by kernel_rfl) (by kernel_rfl) (by kernel_rfl) (fun _ _ _ h => h) (by rfl) ?y108 (by assumption) ?r108
    case y108 => (intro w hSw; (try dsimp only at hSw); go_simp <;> with_reducible rfl)
    simp only [Act.put, sl0, sl1, sl2]
    refine take_yes (i := 10) (d := 15) (v := ?v109) rfl rfl (by kernel_rfl) (by kernel_rfl) (by kernel_rfl) (fun _ _ _ h => h) (by rfl) ?y109 (by assumption) ?r109
    case y109 => (intro w hSw; (try dsimp only at hSw); go_simp <;> with_reducible rfl)
    simp only [Act.put, sl0, sl1, sl2]
    refine take_yes (i := 11) (d := 16) (v := ?v110) rfl rfl (by kernel_rfl) (by kernel_rfl) (by kernel_rfl) (fun _ _ _ h => h) (by rfl) ?y110 (by assumption) ?r110
    case y110 => (intro w hSw; (try dsimp only at hSw); go_simp <;> with_reducible rfl)
    simp only [Act.put, sl0, sl1, sl2]
    refine take_yes (i := 12) (d := 17) (v := ?v111) rfl rfl (by kernel_rfl) (by kernel_rfl) (by kernel_rfl) (fun _ _ _ h => h) (by rfl) ?y111 (by assumption) ?r111
    case y111 => (intro w hSw; (try dsimp only at hSw); go_simp <;> with_reducible rfl)
    simp only [Act.put, sl0, sl1, sl2]
    refine take_yes (i := 13) (d := 18) (v := ?v112) rfl rfl (by kernel_rfl) (by kernel_rfl) (by kernel_rfl) (fun _ _ _ h => h) (by rfl) ?y112 (by assumption) ?r112
    case y112 => (intro w hSw; (try dsimp only at hSw); go_simp <;> with_reducible rfl)
    simp only [Act.put, sl0, sl1, sl2]
    refine take_yes (i := 14) (d := 19) (v := ?v113) rfl rfl (by kernel_rfl) (by kernel_rfl) (by kernel_rfl) (fun _ _ _ h => h) (by rfl) ?y113 (by assumption) ?r113
    case y113 => (intro w hSw; (try dsimp only at hSw); go_simp <;> with_reducible rfl)
    simp only [Act.put, sl0, sl1, sl2]
    refine take_yes (i := 15) (d := 20) (v := ?v114) rfl rfl (by kernel_rfl) (by kernel_rfl) (by kernel_rfl) (fun _ _ _ h => h) (by rfl) ?y114 (by assumption) ?r114
    case y114 => (intro w hSw; (try dsimp only at hSw); go_simp <;> with_reducible rfl)
    simp only [Act.put, sl0, sl1, sl2]
    refine wpAnyH_ready (rs := [16]) (by kernel_rfl) (by simp) ?_
    refine AllReadyH.cons rfl (fun K hK => ?_) AllReadyH.nil
    go_simp
    go_at_call 85; refine (KR2.out _ hz7).mono ?_
    rintro e w8 ⟨rfl, hb8⟩
    have hz8 := bl_trans hz7 hb8
    refine hK.out _ _ (HSC.out _ hz8) (fun hHeld => ?_)
    clear hK K
    try simp only [Act.put, sl0, sl1, sl2]
    refine take_yes (i := 17) (d := 22) (v := ?v115) rfl rfl (by kernel_rfl) (by kernel_rfl) (by kernel_rfl) (fun _ _ _ h => h) (by rfl) ?y115 (by assumption) ?r115
    case y115 => (intro w hSw; (try dsimp only at hSw); go_simp <;> with_reducible rfl)
    simp only [Act.put, sl0, sl1, sl2]
    refine take_yes (i := 18) (d := 23) (v := ?v116) rfl rfl (by kernel_rfl) (by kernel_rfl) (by kernel_rfl) (fun _ _ _ h => h) (by rfl) ?y116 (by assumption) ?r116
    case y116 => (intro w hSw; (try dsimp only at hSw); go_simp <;> with_reducible rfl)
    simp only [Act.put, sl0, sl1, sl2]
    refine take_yes (i := 19) (d := 24) (v := ?v117) rfl rfl (by kernel_rfl) (by kernel_rfl) (by kernel_rfl) (fun _ _ _ h => h) (by rfl) ?y117 (by assumption) ?r117
    case y117 => (intro w hSw; (try dsimp only at hSw); go_simp <;> with_reducible rfl)
    simp only [Act.put, sl0, sl1, sl2]
    refine take_yes (i := 20) (d := 25) (v := ?v118) rfl rfl (by kernel_rfl) (by kernel_rfl) (by kernel_rfl) (fun _ _ _ h => h) (by rfl) ?y118 (by assumption) ?r118
    case y118 => (intro w hSw; (try dsimp only at hSw); go_simp <;> with_reducible rfl)
    simp only [Act.put, sl0, sl1, sl2]
    refine take_yes (i := 21) (d := 26) (v := ?v119) rfl rfl (by kernel_rfl) (by kernel_rfl) (by kernel_rfl) (fun _ _ _ h => h) (by rfl) ?y119 (by assumption) ?r119
    case y119 => (intro w hSw; (try dsimp only at hSw); go_simp <;> with_reducible rfl)
    simp only [Act.put, sl0, sl1, sl2]
    refine take_yes (i := 22) (d := 27) (v := ?v120) rfl rfl (by kernel_rfl) (by kernel_rfl) (by kernel_rfl) (fun _ _ _ h => h) (by rfl) ?y120 (by assumption) ?r120
    case y120 => (intro w hSw; (try dsimp only at hSw); go_simp <;> with_reducible rfl)
    simp only [Act.put, sl0, sl1, sl2]
    refine take_yes (i := 23) (d := 28) (v := ?v121) rfl rfl (by kernel_rfl) (by kernel_rfl) (by kernel_rfl) (fun _ _ _ h => h) (by rfl) ?y121 (by assumption) ?r121
    case y121 => (intro w hSw; (try dsimp only at hSw); go_simp <;> with_reducible rfl)
    simp only [Act.put, sl0, sl1, sl2]
    refine take_yes (i := 24) (d := 29) (v := ?v122) rfl rfl (by kernel_rfl) (by kernel_rfl) (by kernel_rfl) (fun _ _ _ h => h) (by rfl) ?y122 (by assumption) ?r122
    case y122 => (intro w hSw; (try dsimp only at hSw); go_simp <;> with_reducible rfl)
    simp only [Act.put, sl0, sl1, sl2]
    refine take_yes (i := 25) (d := 30) (v := ?v123) rfl rfl (by kernel_rfl) (by kernel_rfl) (by kernel_rfl) (fun _ _ _ h => h) (by rfl) ?y123 (by assumption) ?r123
    case y123 => (intro w hSw; (try dsimp only at hSw); go_simp <;> with_reducible rfl)
    simp only [Act.put, sl0, sl1, sl2]
    refine wpAnyH_ready (rs := [26]) (by kernel_rfl) (by simp) ?_
    refine AllReadyH.cons rfl (fun K hK => ?_) AllReadyH.nil
    go_simp
    go_at_call 85; refine (KR3.out _ hz8).mono ?_
    rintro e w9 ⟨rfl, hb9⟩
    have hz9 := bl_trans hz8 hb9
    refine hK.out _ _ (HSC.out _ hz9) (fun hHeld => ?_)
    clear hK K
    try simp only [Act.put, sl0, sl1, sl2]
    refine take_yes (i := 27) (d := 32) (v := ?v124) rfl rfl (by kernel_rfl) (by kernel_rfl) (by kernel_rfl) (fun _ _ _ h => h) (by rfl) ?y124 (by assumption) ?r124
    case y124 => (intro w hSw; (try dsimp only at hSw); go_simp <;> with_reducible rfl)
    simp only [Act.put, sl0, sl1, sl2]
    refine take_yes (i := 28) (d := 33) (v := ?v125) rfl rfl (by kernel_rfl) (by kernel_rfl) (by kernel_rfl) (fun _ _ _ h => h) (by rfl) ?y125 (by assumption) ?r125
    case y125 => (intro w hSw; (try dsimp only at hSw); go_simp <;> with_reducible rfl)
    simp only [Act.put, sl0, sl1, sl2]
    refine take_yes (i := 29) (d := 34) (v := ?v126) rfl rfl (by kernel_rfl) (by kernel_rfl) (by kernel_rfl) (fun _ _ _ h => h) (by rfl) ?y126 (by assumption) ?r126
    case y126 => (intro w hSw; (try dsimp only at hSw); go_simp <;> with_reducible rfl)
    simp only [Act.put, sl0, sl1, sl2]
    refine take_yes (i := 30) (d := 35) (v := ?v127) rfl rfl (by kernel_rfl) (by kernel_rfl) (by kernel_rfl) (fun _ _ _ h => h) (by rfl) ?y127 (by assumption) ?r127
    case y127 => (intro w hSw; (try dsimp only at hSw); go_simp <;> with_reducible rfl)
    simp only [Act.put, sl0, sl1, sl2]
    refine take_yes (i := 31) (d := 36) (v := ?v128) rfl rfl (by kernel_rfl) (by kernel_rfl) (by kernel_rfl) (fun _ _ _ h => h) (by rfl) ?y128 (by assumption) ?r128
    case y128 => (intro w hSw; (try dsimp only at hSw); go_simp <;> with_reducible rfl)
    simp only [Act.put, sl0, sl1, sl2]
    refine take_yes (i := 32) (d := 37) (v := ?v129) rfl rfl (by kernel_rfl) (by kernel_rfl) (by kernel_rfl) (fun _ _ _ h => h) (by rfl) ?y129 (by assumption) ?r129
    case y129 => (intro w hSw; (try dsimp only at hSw); go_simp <;> with_reducible rfl)
    simp only [Act.put, sl0, sl1, sl2]
    refine take_yes (i := 33) (d := 38) (v := ?v130) rfl rfl (by kernel_rfl) (by kernel_rfl) (by kernel_rfl) (fun _ _ _ h => h) (by rfl) ?y130 (by assumption) ?r130
    case y130 => (intro w hSw; (try dsimp only at hSw); go_simp <;> with_reducible rfl)
    simp only [Act.put, sl0, sl1, sl2]
    refine take_yes (i := 34) (d := 39) (v := ?v131) rfl rfl (by kernel_rfl) (by kernel_rfl) (by kernel_rfl) (fun _ _ _ h => h) (by rfl) ?y131 (by assumption) ?r131
    case y131 => (intro w hSw; (try dsimp only at hSw); go_simp <;> with_reducible rfl)
    simp only [Act.put, sl0, sl1, sl2]
    refine take_yes (i := 35) (d := 40) (v := ?v132) rfl rfl (by kernel_rfl) (by kernel_rfl) (by kernel_rfl) (fun _ _ _ h => h) (by rfl) ?y132 (by assumption) ?r132
    case y132 => (intro w hSw; (try dsimp only at hSw); go_simp <;> with_reducible rfl)
    simp only [Act.put, sl0, sl1, sl2]
    refine wpAnyH_ready (rs := [36]) (by kernel_rfl) (by simp) ?_
    refine AllReadyH.cons rfl (fun K hK => ?_) AllReadyH.nil
    go_simp
    go_at_call 85; refine (KR4.out _ hz9).mono ?_
    rintro e w10 ⟨rfl, hb10⟩
    have hz10 := bl_trans hz9 hb10
    refine hK.out _ _ (HSC.out _ hz10) (fun hHeld => ?_)
    clear hK K
    try simp only [Act.put, sl0, sl1, sl2]
    refine take_yes (i := 37) (d := 42) (v := ?v133) rfl rfl (by kernel_rfl) (by kernel_rfl) (by kernel_rfl) (fun _ _ _ h => h) (by rfl) ?y133 (by assumption) ?r133
    case y133 => (intro w hSw; (try dsimp only at hSw); go_simp <;> with_reducible rfl)
    simp only [Act.put, sl0, sl1, sl2]
    refine take_yes (i := 38) (d := 43) (v := ?v134) rfl rfl (by kernel_rfl) (by kernel_rfl) (by kernel_rfl) (fun _ _ _ h => h) (by rfl) ?y134 (by assumption) ?r134
    case y134 => (intro w hSw; (try dsimp only at hSw); go_simp <;> with_reducible rfl)
    simp only [Act.put, sl0, sl1, sl2]
    refine take_yes (i := 39) (d := 44) (v := ?v135) rfl rfl (by kernel_rfl) (by kernel_rfl) (by kernel_rfl) (fun _ _ _ h => h) (by rfl) ?y135 (by assumption) ?r135
    case y135 => (intro w hSw; (try dsimp only at hSw); go_simp <;> with_reducible rfl)
    simp only [Act.put, sl0, sl1, sl2]
    refine take_no (i := 40) (d := 45) rfl rfl (by kernel_rfl) (by kernel_rfl) (by kernel_rfl) (fun _ _ _ h => h) (by rfl) (by assumption) ?_
    simp only [Act.put, sl0, sl1, sl2]
    refine take_no (i := 41) (d := 46) rfl rfl (by kernel_rfl) (by kernel_rfl) (by kernel_rfl) (fun _ _ _ h => h) (by rfl) (by assumption) ?_
    simp only [Act.put, sl0, sl1, sl2]
    refine take_no (i := 42) (d := 47) rfl rfl (by kernel_rfl) (by kernel_rfl) (by kernel_rfl) (fun _ _ _ h => h) (by rfl) (by assumption) ?_
    simp only [Act.put, sl0, sl1, sl2]
    refine take_no (i := 43) (d := 48) rfl rfl (by kernel_rfl) (by kernel_rfl) (by kernel_rfl) (fun _ _ _ h => h) (by rfl) (by assumption) ?_
    simp only [Act.put, sl0, sl1, sl2]
    refine take_no (i := 44) (d := 49) rfl rfl (by kernel_rfl) (by kernel_rfl) (by kernel_rfl) (fun _ _ _ h => h) (by rfl) (by assumption) ?_
    simp only [Act.put, sl0, sl1, sl2]
    refine take_no (i := 45) (d := 50) rfl rfl (by kernel_rfl) (by kernel_rfl) (by kernel_rfl) (fun _ _ _ h => h) (by rfl) (by assumption) ?_
    simp only [Act.put, sl0, sl1, sl2]
    refine take_no (i := 46) (d := 51) rfl rfl (by kernel_rfl) (by kernel_rfl) (by kernel_rfl) (fun _ _ _ h => h) (by rfl) (by assumption) ?_
    simp only [Act.put, sl0, sl1, sl2]
    refine take_no (i := 47) (d := 52) rfl rfl (by kernel_rfl) (by kernel_rfl) (by kernel_rfl) (fun _ _ _ h => h) (by rfl) (by assumption) ?_
    simp only [Act.put, sl0, sl1, sl2]
    refine take_no (i := 48) (d := 53) rfl rfl (by kernel_rfl) (by kernel_rfl) (by kernel_rfl) (fun _ _ _ h => h) (by rfl) (by assumption) ?_
    simp only [Act.put, sl0, sl1, sl2]
    refine take_yes (i := 49) (d := 54) (v := ?v136) rfl rfl (by kernel_rfl) (by kernel_rfl) (by kernel_rfl) (fun _ _ _ h => h) (by rfl) ?y136 (by assumption) ?r136
    case y136 => (intro w hSw; (try dsimp only at hSw); go_simp <;> with_reducible rfl)
    simp only [Act.put, sl0, sl1, sl2]
    refine take_yes (i := 50) (d := 55) (v := ?v137) rfl rfl (by kernel_rfl) (by kernel_rfl) (by kernel_rfl) (fun _ _ _ h => h) (by rfl) ?y137 (by assumption) ?r137
    case y137 => (intro w hSw; (try dsimp only at hSw); go_simp <;> with_reducible rfl)
    simp only [Act.put, sl0, sl1, sl2]
    refine take_no (i := 51) (d := 56) rfl rfl (by kernel_rfl) (by kernel_rfl) (by kernel_rfl) (fun _ _ _ h => h) (by rfl) (by assumption) ?_
    simp only [Act.put, sl0, sl1, sl2]
    refine take_no (i := 52) (d := 57) rfl rfl (by kernel_rfl) (by kernel_rfl) (by kernel_rfl) (fun _ _ _ h => h) (by rfl) (by assumption) ?_
    simp only [Act.put, sl0, sl1, sl2]
    refine take_no (i := 53) (d := 58) rfl rfl (by kernel_rfl) (by kernel_rfl) (by kernel_rfl) (fun _ _ _ h => h) (by rfl) (by assumption) ?_
    simp only [Act.put, sl0, sl1, sl2]
    refine take_no (i := 54) (d := 59) rfl rfl (by kernel_rfl) (by kernel_rfl) (by kernel_rfl) (fun _ _ _ h => h) (by rfl) (by assumption) ?_
    simp only [Act.put, sl0, sl1, sl2]
    refine take_no (i := 55) (d := 60) rfl rfl (by kernel_rfl) (by kernel_rfl) (by kernel_rfl) (fun _ _ _ h => h) (by rfl) (by assumption) ?_
    simp only [Act.put, sl0, sl1, sl2]
    refine take_no (i := 56) (d := 61) rfl rfl (by kernel_rfl) (by kernel_rfl) (by kernel_rfl) (fun _ _ _ h => h) (by rfl) (by assumption) ?_
    simp only [Act.put, sl0, sl1, sl2]
    refine take_no (i := 57) (d := 62) rfl rfl (by kernel_rfl) (by kernel_rfl) (by kernel_rfl) (fun _ _ _ h => h) (by rfl) (by assumption) ?_
    simp only [Act.put, sl0, sl1, sl2]
    refine take_no (i := 58) (d := 63) rfl rfl (by kernel_rfl) (by kernel_rfl) (by kernel_rfl) (fun _ _ _ h => h) (by rfl) (by assumption) ?_
    simp only [Act.put, sl0, sl1, sl2]
    refine take_no (i := 59) (d := 64) rfl rfl (by kernel_rfl) (by kernel_rfl) (by kernel_rfl) (fun _ _ _ h => h) (by rfl) (by assumption) ?_
    simp only [Act.put, sl0, sl1, sl2]
    refine take_yes (i := 60) (d := 65) (v := ?v138) rfl rfl (by kernel_rfl) (by kernel_rfl) (by kernel_rfl) (fun _ _ _ h => h) (by rfl) ?y138 (by assumption) ?r138
    case y138 => (intro w hSw; (try dsimp only at hSw); go_simp <;> with_reducible rfl)
    simp only [Act.put, sl0, sl1, sl2]
    refine take_yes (i := 61) (d := 66) (v := ?v139) rfl rfl (by kernel_rfl) (by kernel_rfl) (by kernel_rfl) (fun _ _ _ h => h) (by rfl) ?y139 (by assumption) ?r139
    case y139 => (intro w hSw; (try dsimp only at hSw); go_simp <;> with_reducible rfl)
    simp only [Act.put, sl0, sl1, sl2]
    refine take_no (i := 62) (d := 67) rfl rfl (by kernel_rfl) (by kernel_rfl) (by kernel_rfl) (fun _ _ _ h => h) (by rfl) (by assumption) ?_
    simp only [Act.put, sl0, sl1, sl2]
    refine take_no (i := 63) (d := 68) rfl rfl (by kernel_rfl) (by kernel_rfl) (by kernel_rfl) (fun _ _ _ h => h) (by rfl) (by assumption) ?_
    simp only [Act.put, sl0, sl1, sl2]
    refine take_no (i := 64) (d := 69) rfl rfl (by kernel_rfl) (by kernel_rfl) (by kernel_rfl) (fun _ _ _ h => h) (by rfl) (by assumption) ?_
    simp only [Act.put, sl0, sl1, sl2]
    refine take_no (i := 65) (d := 70) rfl rfl (by kernel_rfl) (by kernel_rfl) (by kernel_rfl) (fun _ _ _ h => h) (by rfl) (by assumption) ?_
    simp only [Act.put, sl0, sl1, sl2]
    refine take_no (i := 66) (d := 71) rfl rfl (by kernel_rfl) (by kernel_rfl) (by kernel_rfl) (fun _ _ _ h => h) (by rfl) (by assumption) ?_
    simp only [Act.put, sl0, sl1, sl2]
    refine take_no (i := 67) (d := 72) rfl rfl (by kernel_rfl) (by kernel_rfl) (by kernel_rfl) (fun _ _ _ h => h) (by rfl) (by assumption) ?_
    simp only [Act.put, sl0, sl1, sl2]
    refine take_no (i := 68) (d := 73) rfl rfl (by kernel_rfl) (by kernel_rfl) (by kernel_rfl) (fun _ _ _ h => h) (by rfl) (by assumption) ?_
    simp only [Act.put, sl0, sl1, sl2]
    refine take_no (i := 69) (d := 74) rfl rfl (by kernel_rfl) (by kernel_rfl) (by kernel_rfl) (fun _ _ _ h => h) (by rfl) (by assumption) ?_
    simp only [Act.put, sl0, sl1, sl2]
    refine take_no (i := 70) (d := 75) rfl rfl (by kernel_rfl) (by kernel_rfl) (by kernel_rfl) (fun _ _ _ h => h) (by rfl) (by assumption) ?_
    simp only [Act.put, sl0, sl1, sl2]
    refine take_yes (i := 71) (d := 76) (v := ?v140) rfl rfl (by kernel_rfl) (by kernel_rfl) (by kernel_rfl) (fun _ _ _ h => h) (by rfl) ?y140 (by assumption) ?r140
    case y140 => (intro w hSw; (try dsimp only at hSw); go_simp <;> with_reducible rfl)
    simp only [Act.put, sl0, sl1, sl2]
    refine take_yes (i := 72) (d := 4) (v := ?v141) rfl rfl (by kernel_rfl) (by kernel_rfl) (by kernel_rfl) (fun _ _ _ h => h) (by rfl) ?y141 (by assumption) ?r141
    case y141 => (intro w hSw; (try dsimp only at hSw); go_simp <;> with_reducible rfl)
    simp only [Act.put, sl0, sl1, sl2]
    refine wpAnyH_done (by kernel_rfl) ?_ _
    replace HB := Lib.hid (HB.out.keep hz10)
    clear hb7 hz7 hb8 hz8 hb9 hz9 hb10 hz10 HSC HZ0 HS1 KR1 KR2 KR3 KR4
    go_wp2
    go_ret
    exact ⟨ret_bool hno.out.symm, HB.out.below⟩
  have E2 : Hid (∀ z : World, Below W.heap.size W z → Calls Tryz.prog 85 #[.agg #[.int .i64 m, .slice A m c], .int .i64 v0, .int .i64 v2] z fun e w' => e = .returned (.bool false) ∧ Below z.heap.size z w') := fun z hz => by
    have := l2Edge_v (HG.out.keep hz) m0 m2
    rwa [t2] at this
  have T2 := Lib.hid t2
  clear t2
  cases t3 : (rw_ x v0).testBit v3
  rotate_left
  · have hno : Hid (teB (m : Int) m x l = false) := by
      show _ = _; unfold teB
      rw [ajB_no (i := 0) (k := 3) (by omega) (by rw [← HN.out]; omega) (by rw [Hed.out.2.2.1, t3]; decide), Bool.and_false]
    have E3 : Hid (∀ z : World, Below W.heap.size W z → Calls Tryz.prog 85 #[.agg #[.int .i64 m, .slice A m c], .int .i64 v0, .int .i64 v3] z fun e w' => e = .returned (.bool true) ∧ Below z.heap.size z w') := fun z hz => by
      have := l2Edge_v (HG.out.keep hz) m0 m3
      rwa [t3] at this
    clear t3
    go_enter Tryz.func317, Tryz.ntmps317
    go_wp2_with fail
    rw [← HW.out]
    have HSC : Hid (∀ z : World, Below W.heap.size W z → (Below W.heap.size W z ∧ z.cell? ⟨w.heap.size, 0, none⟩ = some (.int .i64 m) ∧ z.cell? ⟨w.heap.size, 1, none⟩ = some (.slice A m c) ∧ z.cell? ⟨b2, o2, none⟩ = some (.int .i64 v0) ∧ z.cell? ⟨b2, o2 + 1, none⟩ = some (.int .i64 v1) ∧ z.cell? ⟨b2, o2 + 2, none⟩ = some (.int .i64 v2) ∧ z.cell? ⟨b2, o2 + 3, none⟩ = some (.int .i64 v3))) := fun z hz => ⟨hz, up_ hz e0, up_ hz e1, up_ hz p0, up_ hz p1, up_ hz p2, up_ hz p3⟩
    have HZ0 : Hid (Below W.heap.size W W.drew) := (Below.refl _ _).drew
    have HS1 := Lib.hid (HSC.out _ HZ0.out)
    have KR1 : Hid (∀ z : World, Below W.heap.size W z → _) := fun z hz => KD.out z hz
    have KR2 : Hid (∀ z : World, Below W.heap.size W z → _) := fun z hz => E0.out z hz
    have KR3 : Hid (∀ z : World, Below W.heap.size W z → _) := fun z hz => E1.out z hz
    have KR4 : Hid (∀ z : World, Below W.heap.size W z → _) := fun z hz => E2.out z hz
    have KR5 : Hid (∀ z : World, Below W.heap.size W z → _) := fun z hz => E3.out z hz
    refine wp_region_held_drew (S := fun z => Below W.heap.size W z ∧ z.cell? ⟨w.heap.size, 0, none⟩ = some (.int .i64 m) ∧ z.cell? ⟨w.heap.size, 1, none⟩ = some (.slice A m c) ∧ z.cell? ⟨b2, o2, none⟩ = some (.int .i64 v0) ∧ z.cell? ⟨b2, o2 + 1, none⟩ = some (.int .i64 v1) ∧ z.cell? ⟨b2, o2 + 2, none⟩ = some (.int .i64 v2) ∧ z.cell? ⟨b2, o2 + 3, none⟩ = some (.int .i64 v3)) (by kernel_rfl) HS1.out (fun hHeld => ?_)
    refine take_yes (i := 0) (d := 5) (v := ?v142) rfl rfl (by kernel_rfl) (by kernel_rfl) (by kernel_rfl) (fun _ _ _ h => h) (by rfl) ?y142 (by assumption) ?r142
    case y142 => (intro w hSw; (try dsimp only at hSw); go_simp <;> with_reducible rfl)
    simp only [Act.put, sl0, sl1, sl2]
    refine take_yes (i := 1) (d := 6) (v := ?v143) rfl rfl (by kernel_rfl) (by kernel_rfl) (by kernel_rfl) (fun _ _ _ h => h) (by rfl) ?y143 (by assumption) ?r143
    case y143 => (intro w hSw; (try dsimp only at hSw); go_simp <;> with_reducible rfl)
    simp only [Act.put, sl0, sl1, sl2]
    refine take_yes (i := 2) (d := 7) (v := ?v144) rfl rfl (by kernel_rfl) (by kernel_rfl) (by kernel_rfl) (fun _ _ _ h => h) (by rfl) ?y144 (by assumption) ?r144
    case y144 => (intro w hSw; (try dsimp only at hSw); go_simp <;> with_reducible rfl)
    simp only [Act.put, sl0, sl1, sl2]
    refine take_yes (i := 3) (d := 8) (v := ?v145) rfl rfl (by kernel_rfl) (by kernel_rfl) (by kernel_rfl) (fun _ _ _ h => h) (by rfl) ?y145 (by assumption) ?r145
    case y145 => (intro w hSw; (try dsimp only at hSw); go_simp <;> with_reducible rfl)
    simp only [Act.put, sl0, sl1, sl2]
    refine take_yes (i := 4) (d := 9) (v := ?v146) rfl rfl (by kernel_rfl) (by kernel_rfl) (by kernel_rfl) (fun _ _ _ h => h) (by rfl) ?y146 (by assumption) ?r146
    case y146 => (intro w hSw; (try dsimp only at hSw); go_simp <;> with_reducible rfl)
    simp only [Act.put, sl0, sl1, sl2]
    refine take_yes (i := 5) (d := 10) (v := ?v147) rfl rfl (by kernel_rfl) (by kernel_rfl) (by kernel_rfl) (fun _ _ _ h => h) (by rfl) ?y147 (by assumption) ?r147
    case y147 => (intro w hSw; (try dsimp only at hSw); go_simp <;> with_reducible rfl)
    simp only [Act.put, sl0, sl1, sl2]
    refine wpAnyH_ready (rs := [6]) (by kernel_rfl) (by simp) ?_
    refine AllReadyH.cons rfl (fun K hK => ?_) AllReadyH.nil
    go_simp
    go_at_call 339; refine (KR1.out _ HZ0.out).mono ?_
    rintro e w11 ⟨rfl, hb11⟩
    have hz11 := bl_trans HZ0.out hb11
    refine hK.out _ _ (HSC.out _ hz11) (fun hHeld => ?_)
    clear hK K
    try simp only [Act.put, sl0, sl1, sl2]
    refine take_yes (i := 7) (d := 12) (v := ?v148) rfl rfl (by kernel_rfl) (by kernel_rfl) (by kernel_rfl) (fun _ _ _ h => h) (by rfl) ?y148 (by assumption) ?r148
    case y148 => (intro w hSw; (try dsimp only at hSw); go_simp <;> with_reducible rfl)
    simp only [Act.put, sl0, sl1, sl2]
    refine take_yes (i := 8) (d := 13) (v := ?v149) rfl rfl (by kernel_rfl) (by kernel_rfl) (by kernel_rfl) (fun _ _ _ h => h) (by rfl) ?y149 (by assumption) ?r149
    case y149 => (intro w hSw; (try dsimp only at hSw); go_simp <;> with_reducible rfl)
    simp only [Act.put, sl0, sl1, sl2]
    refine take_yes (i := 9) (d := 14) (v := ?v150) rfl rfl (by kernel_rfl) (by kernel_rfl) (by kernel_rfl) (fun _ _ _ h => h) (by rfl) ?y150 (by assumption) ?r150
    case y150 => (intro w hSw; (try dsimp only at hSw); go_simp <;> with_reducible rfl)
    simp only [Act.put, sl0, sl1, sl2]
    refine take_yes (i := 10) (d := 15) (v := ?v151) rfl rfl (by kernel_rfl) (by kernel_rfl) (by kernel_rfl) (fun _ _ _ h => h) (by rfl) ?y151 (by assumption) ?r151
    case y151 => (intro w hSw; (try dsimp only at hSw); go_simp <;> with_reducible rfl)
    simp only [Act.put, sl0, sl1, sl2]
    refine take_yes (i := 11) (d := 16) (v := ?v152) rfl rfl (by kernel_rfl) (by kernel_rfl) (by kernel_rfl) (fun _ _ _ h => h) (by rfl) ?y152 (by assumption) ?r152
    case y152 => (intro w hSw; (try dsimp only at hSw); go_simp <;> with_reducible rfl)
    simp only [Act.put, sl0, sl1, sl2]
    refine take_yes (i := 12) (d := 17) (v := ?v153) rfl rfl (by kernel_rfl) (by kernel_rfl) (by kernel_rfl) (fun _ _ _ h => h) (by rfl) ?y153 (by assumption) ?r153
    case y153 => (intro w hSw; (try dsimp only at hSw); go_simp <;> with_reducible rfl)
    simp only [Act.put, sl0, sl1, sl2]
    refine take_yes (i := 13) (d := 18) (v := ?v154) rfl rfl (by kernel_rfl) (by kernel_rfl) (by kernel_rfl) (fun _ _ _ h => h) (by rfl) ?y154 (by assumption) ?r154
    case y154 => (intro w hSw; (try dsimp only at hSw); go_simp <;> with_reducible rfl)
    simp only [Act.put, sl0, sl1, sl2]
    refine take_yes (i := 14) (d := 19) (v := ?v155) rfl rfl (by kernel_rfl) (by kernel_rfl) (by kernel_rfl) (fun _ _ _ h => h) (by rfl) ?y155 (by assumption) ?r155
    case y155 => (intro w hSw; (try dsimp only at hSw); go_simp <;> with_reducible rfl)
    simp only [Act.put, sl0, sl1, sl2]
    refine take_yes (i := 15) (d := 20) (v := ?v156) rfl rfl (by kernel_rfl) (by kernel_rfl) (by kernel_rfl) (fun _ _ _ h => h) (by rfl) ?y156 (by assumption) ?r156
    case y156 => (intro w hSw; (try dsimp only at hSw); go_simp <;> with_reducible rfl)
    simp only [Act.put, sl0, sl1, sl2]
    refine wpAnyH_ready (rs := [16]) (by kernel_rfl) (by simp) ?_
    refine AllReadyH.cons rfl (fun K hK => ?_) AllReadyH.nil
    go_simp
    go_at_call 85; refine (KR2.out _ hz11).mono ?_
    rintro e w12 ⟨rfl, hb12⟩
    have hz12 := bl_trans hz11 hb12
    refine hK.out _ _ (HSC.out _ hz12) (fun hHeld => ?_)
    clear hK K
    try simp only [Act.put, sl0, sl1, sl2]
    refine take_yes (i := 17) (d := 22) (v := ?v157) rfl rfl (by kernel_rfl) (by kernel_rfl) (by kernel_rfl) (fun _ _ _ h => h) (by rfl) ?y157 (by assumption) ?r157
    case y157 => (intro w hSw; (try dsimp only at hSw); go_simp <;> with_reducible rfl)
    simp only [Act.put, sl0, sl1, sl2]
    refine take_yes (i := 18) (d := 23) (v := ?v158) rfl rfl (by kernel_rfl) (by kernel_rfl) (by kernel_rfl) (fun _ _ _ h => h) (by rfl) ?y158 (by assumption) ?r158
    case y158 => (intro w hSw; (try dsimp only at hSw); go_simp <;> with_reducible rfl)
    simp only [Act.put, sl0, sl1, sl2]
    refine take_yes (i := 19) (d := 24) (v := ?v159) rfl rfl (by kernel_rfl) (by kernel_rfl) (by kernel_rfl) (fun _ _ _ h => h) (by rfl) ?y159 (by assumption) ?r159
    case y159 => (intro w hSw; (try dsimp only at hSw); go_simp <;> with_reducible rfl)
    simp only [Act.put, sl0, sl1, sl2]
    refine take_yes (i := 20) (d := 25) (v := ?v160) rfl rfl (by kernel_rfl) (by kernel_rfl) (by kernel_rfl) (fun _ _ _ h => h) (by rfl) ?y160 (by assumption) ?r160
    case y160 => (intro w hSw; (try dsimp only at hSw); go_simp <;> with_reducible rfl)
    simp only [Act.put, sl0, sl1, sl2]
    refine take_yes (i := 21) (d := 26) (v := ?v161) rfl rfl (by kernel_rfl) (by kernel_rfl) (by kernel_rfl) (fun _ _ _ h => h) (by rfl) ?y161 (by assumption) ?r161
    case y161 => (intro w hSw; (try dsimp only at hSw); go_simp <;> with_reducible rfl)
    simp only [Act.put, sl0, sl1, sl2]
    refine take_yes (i := 22) (d := 27) (v := ?v162) rfl rfl (by kernel_rfl) (by kernel_rfl) (by kernel_rfl) (fun _ _ _ h => h) (by rfl) ?y162 (by assumption) ?r162
    case y162 => (intro w hSw; (try dsimp only at hSw); go_simp <;> with_reducible rfl)
    simp only [Act.put, sl0, sl1, sl2]
    refine take_yes (i := 23) (d := 28) (v := ?v163) rfl rfl (by kernel_rfl) (by kernel_rfl) (by kernel_rfl) (fun _ _ _ h => h) (by rfl) ?y163 (by assumption) ?r163
    case y163 => (intro w hSw; (try dsimp only at hSw); go_simp <;> with_reducible rfl)
    simp only [Act.put, sl0, sl1, sl2]
    refine take_yes (i := 24) (d := 29) (v := ?v164) rfl rfl (by kernel_rfl) (by kernel_rfl) (by kernel_rfl) (fun _ _ _ h => h) (by rfl) ?y164 (by assumption) ?r164
    case y164 => (intro w hSw; (try dsimp only at hSw); go_simp <;> with_reducible rfl)
    simp only [Act.put, sl0, sl1, sl2]
    refine take_yes (i := 25) (d := 30) (v := ?v165) rfl rfl (by kernel_rfl) (by kernel_rfl) (by kernel_rfl) (fun _ _ _ h => h) (by rfl) ?y165 (by assumption) ?r165
    case y165 => (intro w hSw; (try dsimp only at hSw); go_simp <;> with_reducible rfl)
    simp only [Act.put, sl0, sl1, sl2]
    refine wpAnyH_ready (rs := [26]) (by kernel_rfl) (by simp) ?_
    refine AllReadyH.cons rfl (fun K hK => ?_) AllReadyH.nil
    go_simp
    go_at_call 85; refine (KR3.out _ hz12).mono ?_
    rintro e w13 ⟨rfl, hb13⟩
    have hz13 := bl_trans hz12 hb13
    refine hK.out _ _ (HSC.out _ hz13) (fun hHeld => ?_)
    clear hK K
    try simp only [Act.put, sl0, sl1, sl2]
    refine take_yes (i := 27) (d := 32) (v := ?v166) rfl rfl (by kernel_rfl) (by kernel_rfl) (by kernel_rfl) (fun _ _ _ h => h) (by rfl) ?y166 (by assumption) ?r166
    case y166 => (intro w hSw; (try dsimp only at hSw); go_simp <;> with_reducible rfl)
    simp only [Act.put, sl0, sl1, sl2]
    refine take_yes (i := 28) (d := 33) (v := ?v167) rfl rfl (by kernel_rfl) (by kernel_rfl) (by kernel_rfl) (fun _ _ _ h => h) (by rfl) ?y167 (by assumption) ?r167
    case y167 => (intro w hSw; (try dsimp only at hSw); go_simp <;> with_reducible rfl)
    simp only [Act.put, sl0, sl1, sl2]
    refine take_yes (i := 29) (d := 34) (v := ?v168) rfl rfl (by kernel_rfl) (by kernel_rfl) (by kernel_rfl) (fun _ _ _ h => h) (by rfl) ?y168 (by assumption) ?r168
    case y168 => (intro w hSw; (try dsimp only at hSw); go_simp <;> with_reducible rfl)
    simp only [Act.put, sl0, sl1, sl2]
    refine take_yes (i := 30) (d := 35) (v := ?v169) rfl rfl (by kernel_rfl) (by kernel_rfl) (by kernel_rfl) (fun _ _ _ h => h) (by rfl) ?y169 (by assumption) ?r169
    case y169 => (intro w hSw; (try dsimp only at hSw); go_simp <;> with_reducible rfl)
    simp only [Act.put, sl0, sl1, sl2]
    refine take_yes (i := 31) (d := 36) (v := ?v170) rfl rfl (by kernel_rfl) (by kernel_rfl) (by kernel_rfl) (fun _ _ _ h => h) (by rfl) ?y170 (by assumption) ?r170
    case y170 => (intro w hSw; (try dsimp only at hSw); go_simp <;> with_reducible rfl)
    simp only [Act.put, sl0, sl1, sl2]
    refine take_yes (i := 32) (d := 37) (v := ?v171) rfl rfl (by kernel_rfl) (by kernel_rfl) (by kernel_rfl) (fun _ _ _ h => h) (by rfl) ?y171 (by assumption) ?r171
    case y171 => (intro w hSw; (try dsimp only at hSw); go_simp <;> with_reducible rfl)
    simp only [Act.put, sl0, sl1, sl2]
    refine take_yes (i := 33) (d := 38) (v := ?v172) rfl rfl (by kernel_rfl) (by kernel_rfl) (by kernel_rfl) (fun _ _ _ h => h) (by rfl) ?y172 (by assumption) ?r172
    case y172 => (intro w hSw; (try dsimp only at hSw); go_simp <;> with_reducible rfl)
    simp only [Act.put, sl0, sl1, sl2]
    refine take_yes (i := 34) (d := 39) (v := ?v173) rfl rfl (by kernel_rfl) (by kernel_rfl) (by kernel_rfl) (fun _ _ _ h => h) (by rfl) ?y173 (by assumption) ?r173
    case y173 => (intro w hSw; (try dsimp only at hSw); go_simp <;> with_reducible rfl)
    simp only [Act.put, sl0, sl1, sl2]
    refine take_yes (i := 35) (d := 40) (v := ?v174) rfl rfl (by kernel_rfl) (by kernel_rfl) (by kernel_rfl) (fun _ _ _ h => h) (by rfl) ?y174 (by assumption) ?r174
    case y174 => (intro w hSw; (try dsimp only at hSw); go_simp <;> with_reducible rfl)
    simp only [Act.put, sl0, sl1, sl2]
    refine wpAnyH_ready (rs := [36]) (by kernel_rfl) (by simp) ?_
    refine AllReadyH.cons rfl (fun K hK => ?_) AllReadyH.nil
    go_simp
    go_at_call 85; refine (KR4.out _ hz13).mono ?_
    rintro e w14 ⟨rfl, hb14⟩
    have hz14 := bl_trans hz13 hb14
    refine hK.out _ _ (HSC.out _ hz14) (fun hHeld => ?_)
    clear hK K
    try simp only [Act.put, sl0, sl1, sl2]
    refine take_yes (i := 37) (d := 42) (v := ?v175) rfl rfl (by kernel_rfl) (by kernel_rfl) (by kernel_rfl) (fun _ _ _ h => h) (by rfl) ?y175 (by assumption) ?r175
    case y175 => (intro w hSw; (try dsimp only at hSw); go_simp <;> with_reducible rfl)
    simp only [Act.put, sl0, sl1, sl2]
    refine take_yes (i := 38) (d := 43) (v := ?v176) rfl rfl (by kernel_rfl) (by kernel_rfl) (by kernel_rfl) (fun _ _ _ h => h) (by rfl) ?y176 (by assumption) ?r176
    case y176 => (intro w hSw; (try dsimp only at hSw); go_simp <;> with_reducible rfl)
    simp only [Act.put, sl0, sl1, sl2]
    refine take_yes (i := 39) (d := 44) (v := ?v177) rfl rfl (by kernel_rfl) (by kernel_rfl) (by kernel_rfl) (fun _ _ _ h => h) (by rfl) ?y177 (by assumption) ?r177
    case y177 => (intro w hSw; (try dsimp only at hSw); go_simp <;> with_reducible rfl)
    simp only [Act.put, sl0, sl1, sl2]
    refine take_yes (i := 40) (d := 45) (v := ?v178) rfl rfl (by kernel_rfl) (by kernel_rfl) (by kernel_rfl) (fun _ _ _ h => h) (by rfl) ?y178 (by assumption) ?r178
    case y178 => (intro w hSw; (try dsimp only at hSw); go_simp <;> with_reducible rfl)
    simp only [Act.put, sl0, sl1, sl2]
    refine take_yes (i := 41) (d := 46) (v := ?v179) rfl rfl (by kernel_rfl) (by kernel_rfl) (by kernel_rfl) (fun _ _ _ h => h) (by rfl) ?y179 (by assumption) ?r179
    case y179 => (intro w hSw; (try dsimp only at hSw); go_simp <;> with_reducible rfl)
    simp only [Act.put, sl0, sl1, sl2]
    refine take_yes (i := 42) (d := 47) (v := ?v180) rfl rfl (by kernel_rfl) (by kernel_rfl) (by kernel_rfl) (fun _ _ _ h => h) (by rfl) ?y180 (by assumption) ?r180
    case y180 => (intro w hSw; (try dsimp only at hSw); go_simp <;> with_reducible rfl)
    simp only [Act.put, sl0, sl1, sl2]
    refine take_yes (i := 43) (d := 48) (v := ?v181) rfl rfl (by kernel_rfl) (by kernel_rfl) (by kernel_rfl) (fun _ _ _ h => h) (by rfl) ?y181 (by assumption) ?r181
    case y181 => (intro w hSw; (try dsimp only at hSw); go_simp <;> with_reducible rfl)
    simp only [Act.put, sl0, sl1, sl2]
    refine take_yes (i := 44) (d := 49) (v := ?v182) rfl rfl (by kernel_rfl) (by kernel_rfl) (by kernel_rfl) (fun _ _ _ h => h) (by rfl) ?y182 (by assumption) ?r182
    case y182 => (intro w hSw; (try dsimp only at hSw); go_simp <;> with_reducible rfl)
    simp only [Act.put, sl0, sl1, sl2]
    refine take_yes (i := 45) (d := 50) (v := ?v183) rfl rfl (by kernel_rfl) (by kernel_rfl) (by kernel_rfl) (fun _ _ _ h => h) (by rfl) ?y183 (by assumption) ?r183
    case y183 => (intro w hSw; (try dsimp only at hSw); go_simp <;> with_reducible rfl)
    simp only [Act.put, sl0, sl1, sl2]
    refine take_yes (i := 46) (d := 51) (v := ?v184) rfl rfl (by kernel_rfl) (by kernel_rfl) (by kernel_rfl) (fun _ _ _ h => h) (by rfl) ?y184 (by assumption) ?r184
    case y184 => (intro w hSw; (try dsimp only at hSw); go_simp <;> with_reducible rfl)
    simp only [Act.put, sl0, sl1, sl2]
    refine wpAnyH_ready (rs := [47]) (by kernel_rfl) (by simp) ?_
    refine AllReadyH.cons rfl (fun K hK => ?_) AllReadyH.nil
    go_simp
    go_at_call 85; refine (KR5.out _ hz14).mono ?_
    rintro e w15 ⟨rfl, hb15⟩
    have hz15 := bl_trans hz14 hb15
    refine hK.out _ _ (HSC.out _ hz15) (fun hHeld => ?_)
    clear hK K
    try simp only [Act.put, sl0, sl1, sl2]
    refine take_yes (i := 48) (d := 53) (v := ?v185) rfl rfl (by kernel_rfl) (by kernel_rfl) (by kernel_rfl) (fun _ _ _ h => h) (by rfl) ?y185 (by assumption) ?r185
    case y185 => (intro w hSw; (try dsimp only at hSw); go_simp <;> with_reducible rfl)
    simp only [Act.put, sl0, sl1, sl2]
    refine take_yes (i := 49) (d := 54) (v := ?v186) rfl rfl (by kernel_rfl) (by kernel_rfl) (by kernel_rfl) (fun _ _ _ h => h) (by rfl) ?y186 (by assumption) ?r186
    case y186 => (intro w hSw; (try dsimp only at hSw); go_simp <;> with_reducible rfl)
    simp only [Act.put, sl0, sl1, sl2]
    refine take_yes (i := 50) (d := 55) (v := ?v187) rfl rfl (by kernel_rfl) (by kernel_rfl) (by kernel_rfl) (fun _ _ _ h => h) (by rfl) ?y187 (by assumption) ?r187
    case y187 => (intro w hSw; (try dsimp only at hSw); go_simp <;> with_reducible rfl)
    simp only [Act.put, sl0, sl1, sl2]
    refine take_no (i := 51) (d := 56) rfl rfl (by kernel_rfl) (by kernel_rfl) (by kernel_rfl) (fun _ _ _ h => h) (by rfl) (by assumption) ?_
    simp only [Act.put, sl0, sl1, sl2]
    refine take_no (i := 52) (d := 57) rfl rfl (by kernel_rfl) (by kernel_rfl) (by kernel_rfl) (fun _ _ _ h => h) (by rfl) (by assumption) ?_
    simp only [Act.put, sl0, sl1, sl2]
    refine take_no (i := 53) (d := 58) rfl rfl (by kernel_rfl) (by kernel_rfl) (by kernel_rfl) (fun _ _ _ h => h) (by rfl) (by assumption) ?_
    simp only [Act.put, sl0, sl1, sl2]
    refine take_no (i := 54) (d := 59) rfl rfl (by kernel_rfl) (by kernel_rfl) (by kernel_rfl) (fun _ _ _ h => h) (by rfl) (by assumption) ?_
    simp only [Act.put, sl0, sl1, sl2]
    refine take_no (i := 55) (d := 60) rfl rfl (by kernel_rfl) (by kernel_rfl) (by kernel_rfl) (fun _ _ _ h => h) (by rfl) (by assumption) ?_
    simp only [Act.put, sl0, sl1, sl2]
    refine take_no (i := 56) (d := 61) rfl rfl (by kernel_rfl) (by kernel_rfl) (by kernel_rfl) (fun _ _ _ h => h) (by rfl) (by assumption) ?_
    simp only [Act.put, sl0, sl1, sl2]
    refine take_no (i := 57) (d := 62) rfl rfl (by kernel_rfl) (by kernel_rfl) (by kernel_rfl) (fun _ _ _ h => h) (by rfl) (by assumption) ?_
    simp only [Act.put, sl0, sl1, sl2]
    refine take_no (i := 58) (d := 63) rfl rfl (by kernel_rfl) (by kernel_rfl) (by kernel_rfl) (fun _ _ _ h => h) (by rfl) (by assumption) ?_
    simp only [Act.put, sl0, sl1, sl2]
    refine take_no (i := 59) (d := 64) rfl rfl (by kernel_rfl) (by kernel_rfl) (by kernel_rfl) (fun _ _ _ h => h) (by rfl) (by assumption) ?_
    simp only [Act.put, sl0, sl1, sl2]
    refine take_yes (i := 60) (d := 65) (v := ?v188) rfl rfl (by kernel_rfl) (by kernel_rfl) (by kernel_rfl) (fun _ _ _ h => h) (by rfl) ?y188 (by assumption) ?r188
    case y188 => (intro w hSw; (try dsimp only at hSw); go_simp <;> with_reducible rfl)
    simp only [Act.put, sl0, sl1, sl2]
    refine take_yes (i := 61) (d := 66) (v := ?v189) rfl rfl (by kernel_rfl) (by kernel_rfl) (by kernel_rfl) (fun _ _ _ h => h) (by rfl) ?y189 (by assumption) ?r189
    case y189 => (intro w hSw; (try dsimp only at hSw); go_simp <;> with_reducible rfl)
    simp only [Act.put, sl0, sl1, sl2]
    refine take_no (i := 62) (d := 67) rfl rfl (by kernel_rfl) (by kernel_rfl) (by kernel_rfl) (fun _ _ _ h => h) (by rfl) (by assumption) ?_
    simp only [Act.put, sl0, sl1, sl2]
    refine take_no (i := 63) (d := 68) rfl rfl (by kernel_rfl) (by kernel_rfl) (by kernel_rfl) (fun _ _ _ h => h) (by rfl) (by assumption) ?_
    simp only [Act.put, sl0, sl1, sl2]
    refine take_no (i := 64) (d := 69) rfl rfl (by kernel_rfl) (by kernel_rfl) (by kernel_rfl) (fun _ _ _ h => h) (by rfl) (by assumption) ?_
    simp only [Act.put, sl0, sl1, sl2]
    refine take_no (i := 65) (d := 70) rfl rfl (by kernel_rfl) (by kernel_rfl) (by kernel_rfl) (fun _ _ _ h => h) (by rfl) (by assumption) ?_
    simp only [Act.put, sl0, sl1, sl2]
    refine take_no (i := 66) (d := 71) rfl rfl (by kernel_rfl) (by kernel_rfl) (by kernel_rfl) (fun _ _ _ h => h) (by rfl) (by assumption) ?_
    simp only [Act.put, sl0, sl1, sl2]
    refine take_no (i := 67) (d := 72) rfl rfl (by kernel_rfl) (by kernel_rfl) (by kernel_rfl) (fun _ _ _ h => h) (by rfl) (by assumption) ?_
    simp only [Act.put, sl0, sl1, sl2]
    refine take_no (i := 68) (d := 73) rfl rfl (by kernel_rfl) (by kernel_rfl) (by kernel_rfl) (fun _ _ _ h => h) (by rfl) (by assumption) ?_
    simp only [Act.put, sl0, sl1, sl2]
    refine take_no (i := 69) (d := 74) rfl rfl (by kernel_rfl) (by kernel_rfl) (by kernel_rfl) (fun _ _ _ h => h) (by rfl) (by assumption) ?_
    simp only [Act.put, sl0, sl1, sl2]
    refine take_no (i := 70) (d := 75) rfl rfl (by kernel_rfl) (by kernel_rfl) (by kernel_rfl) (fun _ _ _ h => h) (by rfl) (by assumption) ?_
    simp only [Act.put, sl0, sl1, sl2]
    refine take_yes (i := 71) (d := 76) (v := ?v190) rfl rfl (by kernel_rfl) (by kernel_rfl) (by kernel_rfl) (fun _ _ _ h => h) (by rfl) ?y190 (by assumption) ?r190
    case y190 => (intro w hSw; (try dsimp only at hSw); go_simp <;> with_reducible rfl)
    simp only [Act.put, sl0, sl1, sl2]
    refine take_yes (i := 72) (d := 4) (v := ?v191) rfl rfl (by kernel_rfl) (by kernel_rfl) (by kernel_rfl) (fun _ _ _ h => h) (by rfl) ?y191 (by assumption) ?r191
    case y191 => (intro w hSw; (try dsimp only at hSw); go_simp <;> with_reducible rfl)
    simp only [Act.put, sl0, sl1, sl2]
    refine wpAnyH_done (by kernel_rfl) ?_ _
    replace HB := Lib.hid (HB.out.keep hz15)
    clear hb11 hz11 hb12 hz12 hb13 hz13 hb14 hz14 hb15 hz15 HSC HZ0 HS1 KR1 KR2 KR3 KR4 KR5
    go_wp2
    go_ret
    exact ⟨ret_bool hno.out.symm, HB.out.below⟩
  have E3 : Hid (∀ z : World, Below W.heap.size W z → Calls Tryz.prog 85 #[.agg #[.int .i64 m, .slice A m c], .int .i64 v0, .int .i64 v3] z fun e w' => e = .returned (.bool false) ∧ Below z.heap.size z w') := fun z hz => by
    have := l2Edge_v (HG.out.keep hz) m0 m3
    rwa [t3] at this
  have T3 := Lib.hid t3
  clear t3
  cases t4 : (rw_ x v1).testBit v2
  rotate_left
  · have hno : Hid (teB (m : Int) m x l = false) := by
      show _ = _; unfold teB
      rw [ajB_no (i := 1) (k := 2) (by omega) (by rw [← HN.out]; omega) (by rw [Hed.out.2.2.2.1, t4]; decide), Bool.and_false]
    have E4 : Hid (∀ z : World, Below W.heap.size W z → Calls Tryz.prog 85 #[.agg #[.int .i64 m, .slice A m c], .int .i64 v1, .int .i64 v2] z fun e w' => e = .returned (.bool true) ∧ Below z.heap.size z w') := fun z hz => by
      have := l2Edge_v (HG.out.keep hz) m1 m2
      rwa [t4] at this
    clear t4
    go_enter Tryz.func317, Tryz.ntmps317
    go_wp2_with fail
    rw [← HW.out]
    have HSC : Hid (∀ z : World, Below W.heap.size W z → (Below W.heap.size W z ∧ z.cell? ⟨w.heap.size, 0, none⟩ = some (.int .i64 m) ∧ z.cell? ⟨w.heap.size, 1, none⟩ = some (.slice A m c) ∧ z.cell? ⟨b2, o2, none⟩ = some (.int .i64 v0) ∧ z.cell? ⟨b2, o2 + 1, none⟩ = some (.int .i64 v1) ∧ z.cell? ⟨b2, o2 + 2, none⟩ = some (.int .i64 v2) ∧ z.cell? ⟨b2, o2 + 3, none⟩ = some (.int .i64 v3))) := fun z hz => ⟨hz, up_ hz e0, up_ hz e1, up_ hz p0, up_ hz p1, up_ hz p2, up_ hz p3⟩
    have HZ0 : Hid (Below W.heap.size W W.drew) := (Below.refl _ _).drew
    have HS1 := Lib.hid (HSC.out _ HZ0.out)
    have KR1 : Hid (∀ z : World, Below W.heap.size W z → _) := fun z hz => KD.out z hz
    have KR2 : Hid (∀ z : World, Below W.heap.size W z → _) := fun z hz => E0.out z hz
    have KR3 : Hid (∀ z : World, Below W.heap.size W z → _) := fun z hz => E1.out z hz
    have KR4 : Hid (∀ z : World, Below W.heap.size W z → _) := fun z hz => E2.out z hz
    have KR5 : Hid (∀ z : World, Below W.heap.size W z → _) := fun z hz => E3.out z hz
    have KR6 : Hid (∀ z : World, Below W.heap.size W z → _) := fun z hz => E4.out z hz
    refine wp_region_held_drew (S := fun z => Below W.heap.size W z ∧ z.cell? ⟨w.heap.size, 0, none⟩ = some (.int .i64 m) ∧ z.cell? ⟨w.heap.size, 1, none⟩ = some (.slice A m c) ∧ z.cell? ⟨b2, o2, none⟩ = some (.int .i64 v0) ∧ z.cell? ⟨b2, o2 + 1, none⟩ = some (.int .i64 v1) ∧ z.cell? ⟨b2, o2 + 2, none⟩ = some (.int .i64 v2) ∧ z.cell? ⟨b2, o2 + 3, none⟩ = some (.int .i64 v3)) (by kernel_rfl) HS1.out (fun hHeld => ?_)
    refine take_yes (i := 0) (d := 5) (v := ?v192) rfl rfl (by kernel_rfl) (by kernel_rfl) (by kernel_rfl) (fun _ _ _ h => h) (by rfl) ?y192 (by assumption) ?r192
    case y192 => (intro w hSw; (try dsimp only at hSw); go_simp <;> with_reducible rfl)
    simp only [Act.put, sl0, sl1, sl2]
    refine take_yes (i := 1) (d := 6) (v := ?v193) rfl rfl (by kernel_rfl) (by kernel_rfl) (by kernel_rfl) (fun _ _ _ h => h) (by rfl) ?y193 (by assumption) ?r193
    case y193 => (intro w hSw; (try dsimp only at hSw); go_simp <;> with_reducible rfl)
    simp only [Act.put, sl0, sl1, sl2]
    refine take_yes (i := 2) (d := 7) (v := ?v194) rfl rfl (by kernel_rfl) (by kernel_rfl) (by kernel_rfl) (fun _ _ _ h => h) (by rfl) ?y194 (by assumption) ?r194
    case y194 => (intro w hSw; (try dsimp only at hSw); go_simp <;> with_reducible rfl)
    simp only [Act.put, sl0, sl1, sl2]
    refine take_yes (i := 3) (d := 8) (v := ?v195) rfl rfl (by kernel_rfl) (by kernel_rfl) (by kernel_rfl) (fun _ _ _ h => h) (by rfl) ?y195 (by assumption) ?r195
    case y195 => (intro w hSw; (try dsimp only at hSw); go_simp <;> with_reducible rfl)
    simp only [Act.put, sl0, sl1, sl2]
    refine take_yes (i := 4) (d := 9) (v := ?v196) rfl rfl (by kernel_rfl) (by kernel_rfl) (by kernel_rfl) (fun _ _ _ h => h) (by rfl) ?y196 (by assumption) ?r196
    case y196 => (intro w hSw; (try dsimp only at hSw); go_simp <;> with_reducible rfl)
    simp only [Act.put, sl0, sl1, sl2]
    refine take_yes (i := 5) (d := 10) (v := ?v197) rfl rfl (by kernel_rfl) (by kernel_rfl) (by kernel_rfl) (fun _ _ _ h => h) (by rfl) ?y197 (by assumption) ?r197
    case y197 => (intro w hSw; (try dsimp only at hSw); go_simp <;> with_reducible rfl)
    simp only [Act.put, sl0, sl1, sl2]
    refine wpAnyH_ready (rs := [6]) (by kernel_rfl) (by simp) ?_
    refine AllReadyH.cons rfl (fun K hK => ?_) AllReadyH.nil
    go_simp
    go_at_call 339; refine (KR1.out _ HZ0.out).mono ?_
    rintro e w16 ⟨rfl, hb16⟩
    have hz16 := bl_trans HZ0.out hb16
    refine hK.out _ _ (HSC.out _ hz16) (fun hHeld => ?_)
    clear hK K
    try simp only [Act.put, sl0, sl1, sl2]
    refine take_yes (i := 7) (d := 12) (v := ?v198) rfl rfl (by kernel_rfl) (by kernel_rfl) (by kernel_rfl) (fun _ _ _ h => h) (by rfl) ?y198 (by assumption) ?r198
    case y198 => (intro w hSw; (try dsimp only at hSw); go_simp <;> with_reducible rfl)
    simp only [Act.put, sl0, sl1, sl2]
    refine take_yes (i := 8) (d := 13) (v := ?v199) rfl rfl (by kernel_rfl) (by kernel_rfl) (by kernel_rfl) (fun _ _ _ h => h) (by rfl) ?y199 (by assumption) ?r199
    case y199 => (intro w hSw; (try dsimp only at hSw); go_simp <;> with_reducible rfl)
    simp only [Act.put, sl0, sl1, sl2]
    refine take_yes (i := 9) (d := 14) (v := ?v200) rfl rfl (by kernel_rfl) (by kernel_rfl) (by kernel_rfl) (fun _ _ _ h => h) (by rfl) ?y200 (by assumption) ?r200
    case y200 => (intro w hSw; (try dsimp only at hSw); go_simp <;> with_reducible rfl)
    simp only [Act.put, sl0, sl1, sl2]
    refine take_yes (i := 10) (d := 15) (v := ?v201) rfl rfl (by kernel_rfl) (by kernel_rfl) (by kernel_rfl) (fun _ _ _ h => h) (by rfl) ?y201 (by assumption) ?r201
    case y201 => (intro w hSw; (try dsimp only at hSw); go_simp <;> with_reducible rfl)
    simp only [Act.put, sl0, sl1, sl2]
    refine take_yes (i := 11) (d := 16) (v := ?v202) rfl rfl (by kernel_rfl) (by kernel_rfl) (by kernel_rfl) (fun _ _ _ h => h) (by rfl) ?y202 (by assumption) ?r202
    case y202 => (intro w hSw; (try dsimp only at hSw); go_simp <;> with_reducible rfl)
    simp only [Act.put, sl0, sl1, sl2]
    refine take_yes (i := 12) (d := 17) (v := ?v203) rfl rfl (by kernel_rfl) (by kernel_rfl) (by kernel_rfl) (fun _ _ _ h => h) (by rfl) ?y203 (by assumption) ?r203
    case y203 => (intro w hSw; (try dsimp only at hSw); go_simp <;> with_reducible rfl)
    simp only [Act.put, sl0, sl1, sl2]
    refine take_yes (i := 13) (d := 18) (v := ?v204) rfl rfl (by kernel_rfl) (by kernel_rfl) (by kernel_rfl) (fun _ _ _ h => h) (by rfl) ?y204 (by assumption) ?r204
    case y204 => (intro w hSw; (try dsimp only at hSw); go_simp <;> with_reducible rfl)
    simp only [Act.put, sl0, sl1, sl2]
    refine take_yes (i := 14) (d := 19) (v := ?v205) rfl rfl (by kernel_rfl) (by kernel_rfl) (by kernel_rfl) (fun _ _ _ h => h) (by rfl) ?y205 (by assumption) ?r205
    case y205 => (intro w hSw; (try dsimp only at hSw); go_simp <;> with_reducible rfl)
    simp only [Act.put, sl0, sl1, sl2]
    refine take_yes (i := 15) (d := 20) (v := ?v206) rfl rfl (by kernel_rfl) (by kernel_rfl) (by kernel_rfl) (fun _ _ _ h => h) (by rfl) ?y206 (by assumption) ?r206
    case y206 => (intro w hSw; (try dsimp only at hSw); go_simp <;> with_reducible rfl)
    simp only [Act.put, sl0, sl1, sl2]
    refine wpAnyH_ready (rs := [16]) (by kernel_rfl) (by simp) ?_
    refine AllReadyH.cons rfl (fun K hK => ?_) AllReadyH.nil
    go_simp
    go_at_call 85; refine (KR2.out _ hz16).mono ?_
    rintro e w17 ⟨rfl, hb17⟩
    have hz17 := bl_trans hz16 hb17
    refine hK.out _ _ (HSC.out _ hz17) (fun hHeld => ?_)
    clear hK K
    try simp only [Act.put, sl0, sl1, sl2]
    refine take_yes (i := 17) (d := 22) (v := ?v207) rfl rfl (by kernel_rfl) (by kernel_rfl) (by kernel_rfl) (fun _ _ _ h => h) (by rfl) ?y207 (by assumption) ?r207
    case y207 => (intro w hSw; (try dsimp only at hSw); go_simp <;> with_reducible rfl)
    simp only [Act.put, sl0, sl1, sl2]
    refine take_yes (i := 18) (d := 23) (v := ?v208) rfl rfl (by kernel_rfl) (by kernel_rfl) (by kernel_rfl) (fun _ _ _ h => h) (by rfl) ?y208 (by assumption) ?r208
    case y208 => (intro w hSw; (try dsimp only at hSw); go_simp <;> with_reducible rfl)
    simp only [Act.put, sl0, sl1, sl2]
    refine take_yes (i := 19) (d := 24) (v := ?v209) rfl rfl (by kernel_rfl) (by kernel_rfl) (by kernel_rfl) (fun _ _ _ h => h) (by rfl) ?y209 (by assumption) ?r209
    case y209 => (intro w hSw; (try dsimp only at hSw); go_simp <;> with_reducible rfl)
    simp only [Act.put, sl0, sl1, sl2]
    refine take_yes (i := 20) (d := 25) (v := ?v210) rfl rfl (by kernel_rfl) (by kernel_rfl) (by kernel_rfl) (fun _ _ _ h => h) (by rfl) ?y210 (by assumption) ?r210
    case y210 => (intro w hSw; (try dsimp only at hSw); go_simp <;> with_reducible rfl)
    simp only [Act.put, sl0, sl1, sl2]
    refine take_yes (i := 21) (d := 26) (v := ?v211) rfl rfl (by kernel_rfl) (by kernel_rfl) (by kernel_rfl) (fun _ _ _ h => h) (by rfl) ?y211 (by assumption) ?r211
    case y211 => (intro w hSw; (try dsimp only at hSw); go_simp <;> with_reducible rfl)
    simp only [Act.put, sl0, sl1, sl2]
    refine take_yes (i := 22) (d := 27) (v := ?v212) rfl rfl (by kernel_rfl) (by kernel_rfl) (by kernel_rfl) (fun _ _ _ h => h) (by rfl) ?y212 (by assumption) ?r212
    case y212 => (intro w hSw; (try dsimp only at hSw); go_simp <;> with_reducible rfl)
    simp only [Act.put, sl0, sl1, sl2]
    refine take_yes (i := 23) (d := 28) (v := ?v213) rfl rfl (by kernel_rfl) (by kernel_rfl) (by kernel_rfl) (fun _ _ _ h => h) (by rfl) ?y213 (by assumption) ?r213
    case y213 => (intro w hSw; (try dsimp only at hSw); go_simp <;> with_reducible rfl)
    simp only [Act.put, sl0, sl1, sl2]
    refine take_yes (i := 24) (d := 29) (v := ?v214) rfl rfl (by kernel_rfl) (by kernel_rfl) (by kernel_rfl) (fun _ _ _ h => h) (by rfl) ?y214 (by assumption) ?r214
    case y214 => (intro w hSw; (try dsimp only at hSw); go_simp <;> with_reducible rfl)
    simp only [Act.put, sl0, sl1, sl2]
    refine take_yes (i := 25) (d := 30) (v := ?v215) rfl rfl (by kernel_rfl) (by kernel_rfl) (by kernel_rfl) (fun _ _ _ h => h) (by rfl) ?y215 (by assumption) ?r215
    case y215 => (intro w hSw; (try dsimp only at hSw); go_simp <;> with_reducible rfl)
    simp only [Act.put, sl0, sl1, sl2]
    refine wpAnyH_ready (rs := [26]) (by kernel_rfl) (by simp) ?_
    refine AllReadyH.cons rfl (fun K hK => ?_) AllReadyH.nil
    go_simp
    go_at_call 85; refine (KR3.out _ hz17).mono ?_
    rintro e w18 ⟨rfl, hb18⟩
    have hz18 := bl_trans hz17 hb18
    refine hK.out _ _ (HSC.out _ hz18) (fun hHeld => ?_)
    clear hK K
    try simp only [Act.put, sl0, sl1, sl2]
    refine take_yes (i := 27) (d := 32) (v := ?v216) rfl rfl (by kernel_rfl) (by kernel_rfl) (by kernel_rfl) (fun _ _ _ h => h) (by rfl) ?y216 (by assumption) ?r216
    case y216 => (intro w hSw; (try dsimp only at hSw); go_simp <;> with_reducible rfl)
    simp only [Act.put, sl0, sl1, sl2]
    refine take_yes (i := 28) (d := 33) (v := ?v217) rfl rfl (by kernel_rfl) (by kernel_rfl) (by kernel_rfl) (fun _ _ _ h => h) (by rfl) ?y217 (by assumption) ?r217
    case y217 => (intro w hSw; (try dsimp only at hSw); go_simp <;> with_reducible rfl)
    simp only [Act.put, sl0, sl1, sl2]
    refine take_yes (i := 29) (d := 34) (v := ?v218) rfl rfl (by kernel_rfl) (by kernel_rfl) (by kernel_rfl) (fun _ _ _ h => h) (by rfl) ?y218 (by assumption) ?r218
    case y218 => (intro w hSw; (try dsimp only at hSw); go_simp <;> with_reducible rfl)
    simp only [Act.put, sl0, sl1, sl2]
    refine take_yes (i := 30) (d := 35) (v := ?v219) rfl rfl (by kernel_rfl) (by kernel_rfl) (by kernel_rfl) (fun _ _ _ h => h) (by rfl) ?y219 (by assumption) ?r219
    case y219 => (intro w hSw; (try dsimp only at hSw); go_simp <;> with_reducible rfl)
    simp only [Act.put, sl0, sl1, sl2]
    refine take_yes (i := 31) (d := 36) (v := ?v220) rfl rfl (by kernel_rfl) (by kernel_rfl) (by kernel_rfl) (fun _ _ _ h => h) (by rfl) ?y220 (by assumption) ?r220
    case y220 => (intro w hSw; (try dsimp only at hSw); go_simp <;> with_reducible rfl)
    simp only [Act.put, sl0, sl1, sl2]
    refine take_yes (i := 32) (d := 37) (v := ?v221) rfl rfl (by kernel_rfl) (by kernel_rfl) (by kernel_rfl) (fun _ _ _ h => h) (by rfl) ?y221 (by assumption) ?r221
    case y221 => (intro w hSw; (try dsimp only at hSw); go_simp <;> with_reducible rfl)
    simp only [Act.put, sl0, sl1, sl2]
    refine take_yes (i := 33) (d := 38) (v := ?v222) rfl rfl (by kernel_rfl) (by kernel_rfl) (by kernel_rfl) (fun _ _ _ h => h) (by rfl) ?y222 (by assumption) ?r222
    case y222 => (intro w hSw; (try dsimp only at hSw); go_simp <;> with_reducible rfl)
    simp only [Act.put, sl0, sl1, sl2]
    refine take_yes (i := 34) (d := 39) (v := ?v223) rfl rfl (by kernel_rfl) (by kernel_rfl) (by kernel_rfl) (fun _ _ _ h => h) (by rfl) ?y223 (by assumption) ?r223
    case y223 => (intro w hSw; (try dsimp only at hSw); go_simp <;> with_reducible rfl)
    simp only [Act.put, sl0, sl1, sl2]
    refine take_yes (i := 35) (d := 40) (v := ?v224) rfl rfl (by kernel_rfl) (by kernel_rfl) (by kernel_rfl) (fun _ _ _ h => h) (by rfl) ?y224 (by assumption) ?r224
    case y224 => (intro w hSw; (try dsimp only at hSw); go_simp <;> with_reducible rfl)
    simp only [Act.put, sl0, sl1, sl2]
    refine wpAnyH_ready (rs := [36]) (by kernel_rfl) (by simp) ?_
    refine AllReadyH.cons rfl (fun K hK => ?_) AllReadyH.nil
    go_simp
    go_at_call 85; refine (KR4.out _ hz18).mono ?_
    rintro e w19 ⟨rfl, hb19⟩
    have hz19 := bl_trans hz18 hb19
    refine hK.out _ _ (HSC.out _ hz19) (fun hHeld => ?_)
    clear hK K
    try simp only [Act.put, sl0, sl1, sl2]
    refine take_yes (i := 37) (d := 42) (v := ?v225) rfl rfl (by kernel_rfl) (by kernel_rfl) (by kernel_rfl) (fun _ _ _ h => h) (by rfl) ?y225 (by assumption) ?r225
    case y225 => (intro w hSw; (try dsimp only at hSw); go_simp <;> with_reducible rfl)
    simp only [Act.put, sl0, sl1, sl2]
    refine take_yes (i := 38) (d := 43) (v := ?v226) rfl rfl (by kernel_rfl) (by kernel_rfl) (by kernel_rfl) (fun _ _ _ h => h) (by rfl) ?y226 (by assumption) ?r226
    case y226 => (intro w hSw; (try dsimp only at hSw); go_simp <;> with_reducible rfl)
    simp only [Act.put, sl0, sl1, sl2]
    refine take_yes (i := 39) (d := 44) (v := ?v227) rfl rfl (by kernel_rfl) (by kernel_rfl) (by kernel_rfl) (fun _ _ _ h => h) (by rfl) ?y227 (by assumption) ?r227
    case y227 => (intro w hSw; (try dsimp only at hSw); go_simp <;> with_reducible rfl)
    simp only [Act.put, sl0, sl1, sl2]
    refine take_yes (i := 40) (d := 45) (v := ?v228) rfl rfl (by kernel_rfl) (by kernel_rfl) (by kernel_rfl) (fun _ _ _ h => h) (by rfl) ?y228 (by assumption) ?r228
    case y228 => (intro w hSw; (try dsimp only at hSw); go_simp <;> with_reducible rfl)
    simp only [Act.put, sl0, sl1, sl2]
    refine take_yes (i := 41) (d := 46) (v := ?v229) rfl rfl (by kernel_rfl) (by kernel_rfl) (by kernel_rfl) (fun _ _ _ h => h) (by rfl) ?y229 (by assumption) ?r229
    case y229 => (intro w hSw; (try dsimp only at hSw); go_simp <;> with_reducible rfl)
    simp only [Act.put, sl0, sl1, sl2]
    refine take_yes (i := 42) (d := 47) (v := ?v230) rfl rfl (by kernel_rfl) (by kernel_rfl) (by kernel_rfl) (fun _ _ _ h => h) (by rfl) ?y230 (by assumption) ?r230
    case y230 => (intro w hSw; (try dsimp only at hSw); go_simp <;> with_reducible rfl)
    simp only [Act.put, sl0, sl1, sl2]
    refine take_yes (i := 43) (d := 48) (v := ?v231) rfl rfl (by kernel_rfl) (by kernel_rfl) (by kernel_rfl) (fun _ _ _ h => h) (by rfl) ?y231 (by assumption) ?r231
    case y231 => (intro w hSw; (try dsimp only at hSw); go_simp <;> with_reducible rfl)
    simp only [Act.put, sl0, sl1, sl2]
    refine take_yes (i := 44) (d := 49) (v := ?v232) rfl rfl (by kernel_rfl) (by kernel_rfl) (by kernel_rfl) (fun _ _ _ h => h) (by rfl) ?y232 (by assumption) ?r232
    case y232 => (intro w hSw; (try dsimp only at hSw); go_simp <;> with_reducible rfl)
    simp only [Act.put, sl0, sl1, sl2]
    refine take_yes (i := 45) (d := 50) (v := ?v233) rfl rfl (by kernel_rfl) (by kernel_rfl) (by kernel_rfl) (fun _ _ _ h => h) (by rfl) ?y233 (by assumption) ?r233
    case y233 => (intro w hSw; (try dsimp only at hSw); go_simp <;> with_reducible rfl)
    simp only [Act.put, sl0, sl1, sl2]
    refine take_yes (i := 46) (d := 51) (v := ?v234) rfl rfl (by kernel_rfl) (by kernel_rfl) (by kernel_rfl) (fun _ _ _ h => h) (by rfl) ?y234 (by assumption) ?r234
    case y234 => (intro w hSw; (try dsimp only at hSw); go_simp <;> with_reducible rfl)
    simp only [Act.put, sl0, sl1, sl2]
    refine wpAnyH_ready (rs := [47]) (by kernel_rfl) (by simp) ?_
    refine AllReadyH.cons rfl (fun K hK => ?_) AllReadyH.nil
    go_simp
    go_at_call 85; refine (KR5.out _ hz19).mono ?_
    rintro e w20 ⟨rfl, hb20⟩
    have hz20 := bl_trans hz19 hb20
    refine hK.out _ _ (HSC.out _ hz20) (fun hHeld => ?_)
    clear hK K
    try simp only [Act.put, sl0, sl1, sl2]
    refine take_yes (i := 48) (d := 53) (v := ?v235) rfl rfl (by kernel_rfl) (by kernel_rfl) (by kernel_rfl) (fun _ _ _ h => h) (by rfl) ?y235 (by assumption) ?r235
    case y235 => (intro w hSw; (try dsimp only at hSw); go_simp <;> with_reducible rfl)
    simp only [Act.put, sl0, sl1, sl2]
    refine take_yes (i := 49) (d := 54) (v := ?v236) rfl rfl (by kernel_rfl) (by kernel_rfl) (by kernel_rfl) (fun _ _ _ h => h) (by rfl) ?y236 (by assumption) ?r236
    case y236 => (intro w hSw; (try dsimp only at hSw); go_simp <;> with_reducible rfl)
    simp only [Act.put, sl0, sl1, sl2]
    refine take_yes (i := 50) (d := 55) (v := ?v237) rfl rfl (by kernel_rfl) (by kernel_rfl) (by kernel_rfl) (fun _ _ _ h => h) (by rfl) ?y237 (by assumption) ?r237
    case y237 => (intro w hSw; (try dsimp only at hSw); go_simp <;> with_reducible rfl)
    simp only [Act.put, sl0, sl1, sl2]
    refine take_yes (i := 51) (d := 56) (v := ?v238) rfl rfl (by kernel_rfl) (by kernel_rfl) (by kernel_rfl) (fun _ _ _ h => h) (by rfl) ?y238 (by assumption) ?r238
    case y238 => (intro w hSw; (try dsimp only at hSw); go_simp <;> with_reducible rfl)
    simp only [Act.put, sl0, sl1, sl2]
    refine take_yes (i := 52) (d := 57) (v := ?v239) rfl rfl (by kernel_rfl) (by kernel_rfl) (by kernel_rfl) (fun _ _ _ h => h) (by rfl) ?y239 (by assumption) ?r239
    case y239 => (intro w hSw; (try dsimp only at hSw); go_simp <;> with_reducible rfl)
    simp only [Act.put, sl0, sl1, sl2]
    refine take_yes (i := 53) (d := 58) (v := ?v240) rfl rfl (by kernel_rfl) (by kernel_rfl) (by kernel_rfl) (fun _ _ _ h => h) (by rfl) ?y240 (by assumption) ?r240
    case y240 => (intro w hSw; (try dsimp only at hSw); go_simp <;> with_reducible rfl)
    simp only [Act.put, sl0, sl1, sl2]
    refine take_yes (i := 54) (d := 59) (v := ?v241) rfl rfl (by kernel_rfl) (by kernel_rfl) (by kernel_rfl) (fun _ _ _ h => h) (by rfl) ?y241 (by assumption) ?r241
    case y241 => (intro w hSw; (try dsimp only at hSw); go_simp <;> with_reducible rfl)
    simp only [Act.put, sl0, sl1, sl2]
    refine take_yes (i := 55) (d := 60) (v := ?v242) rfl rfl (by kernel_rfl) (by kernel_rfl) (by kernel_rfl) (fun _ _ _ h => h) (by rfl) ?y242 (by assumption) ?r242
    case y242 => (intro w hSw; (try dsimp only at hSw); go_simp <;> with_reducible rfl)
    simp only [Act.put, sl0, sl1, sl2]
    refine take_yes (i := 56) (d := 61) (v := ?v243) rfl rfl (by kernel_rfl) (by kernel_rfl) (by kernel_rfl) (fun _ _ _ h => h) (by rfl) ?y243 (by assumption) ?r243
    case y243 => (intro w hSw; (try dsimp only at hSw); go_simp <;> with_reducible rfl)
    simp only [Act.put, sl0, sl1, sl2]
    refine take_yes (i := 57) (d := 62) (v := ?v244) rfl rfl (by kernel_rfl) (by kernel_rfl) (by kernel_rfl) (fun _ _ _ h => h) (by rfl) ?y244 (by assumption) ?r244
    case y244 => (intro w hSw; (try dsimp only at hSw); go_simp <;> with_reducible rfl)
    simp only [Act.put, sl0, sl1, sl2]
    refine wpAnyH_ready (rs := [58]) (by kernel_rfl) (by simp) ?_
    refine AllReadyH.cons rfl (fun K hK => ?_) AllReadyH.nil
    go_simp
    go_at_call 85; refine (KR6.out _ hz20).mono ?_
    rintro e w21 ⟨rfl, hb21⟩
    have hz21 := bl_trans hz20 hb21
    refine hK.out _ _ (HSC.out _ hz21) (fun hHeld => ?_)
    clear hK K
    try simp only [Act.put, sl0, sl1, sl2]
    refine take_yes (i := 59) (d := 64) (v := ?v245) rfl rfl (by kernel_rfl) (by kernel_rfl) (by kernel_rfl) (fun _ _ _ h => h) (by rfl) ?y245 (by assumption) ?r245
    case y245 => (intro w hSw; (try dsimp only at hSw); go_simp <;> with_reducible rfl)
    simp only [Act.put, sl0, sl1, sl2]
    refine take_yes (i := 60) (d := 65) (v := ?v246) rfl rfl (by kernel_rfl) (by kernel_rfl) (by kernel_rfl) (fun _ _ _ h => h) (by rfl) ?y246 (by assumption) ?r246
    case y246 => (intro w hSw; (try dsimp only at hSw); go_simp <;> with_reducible rfl)
    simp only [Act.put, sl0, sl1, sl2]
    refine take_yes (i := 61) (d := 66) (v := ?v247) rfl rfl (by kernel_rfl) (by kernel_rfl) (by kernel_rfl) (fun _ _ _ h => h) (by rfl) ?y247 (by assumption) ?r247
    case y247 => (intro w hSw; (try dsimp only at hSw); go_simp <;> with_reducible rfl)
    simp only [Act.put, sl0, sl1, sl2]
    refine take_no (i := 62) (d := 67) rfl rfl (by kernel_rfl) (by kernel_rfl) (by kernel_rfl) (fun _ _ _ h => h) (by rfl) (by assumption) ?_
    simp only [Act.put, sl0, sl1, sl2]
    refine take_no (i := 63) (d := 68) rfl rfl (by kernel_rfl) (by kernel_rfl) (by kernel_rfl) (fun _ _ _ h => h) (by rfl) (by assumption) ?_
    simp only [Act.put, sl0, sl1, sl2]
    refine take_no (i := 64) (d := 69) rfl rfl (by kernel_rfl) (by kernel_rfl) (by kernel_rfl) (fun _ _ _ h => h) (by rfl) (by assumption) ?_
    simp only [Act.put, sl0, sl1, sl2]
    refine take_no (i := 65) (d := 70) rfl rfl (by kernel_rfl) (by kernel_rfl) (by kernel_rfl) (fun _ _ _ h => h) (by rfl) (by assumption) ?_
    simp only [Act.put, sl0, sl1, sl2]
    refine take_no (i := 66) (d := 71) rfl rfl (by kernel_rfl) (by kernel_rfl) (by kernel_rfl) (fun _ _ _ h => h) (by rfl) (by assumption) ?_
    simp only [Act.put, sl0, sl1, sl2]
    refine take_no (i := 67) (d := 72) rfl rfl (by kernel_rfl) (by kernel_rfl) (by kernel_rfl) (fun _ _ _ h => h) (by rfl) (by assumption) ?_
    simp only [Act.put, sl0, sl1, sl2]
    refine take_no (i := 68) (d := 73) rfl rfl (by kernel_rfl) (by kernel_rfl) (by kernel_rfl) (fun _ _ _ h => h) (by rfl) (by assumption) ?_
    simp only [Act.put, sl0, sl1, sl2]
    refine take_no (i := 69) (d := 74) rfl rfl (by kernel_rfl) (by kernel_rfl) (by kernel_rfl) (fun _ _ _ h => h) (by rfl) (by assumption) ?_
    simp only [Act.put, sl0, sl1, sl2]
    refine take_no (i := 70) (d := 75) rfl rfl (by kernel_rfl) (by kernel_rfl) (by kernel_rfl) (fun _ _ _ h => h) (by rfl) (by assumption) ?_
    simp only [Act.put, sl0, sl1, sl2]
    refine take_yes (i := 71) (d := 76) (v := ?v248) rfl rfl (by kernel_rfl) (by kernel_rfl) (by kernel_rfl) (fun _ _ _ h => h) (by rfl) ?y248 (by assumption) ?r248
    case y248 => (intro w hSw; (try dsimp only at hSw); go_simp <;> with_reducible rfl)
    simp only [Act.put, sl0, sl1, sl2]
    refine take_yes (i := 72) (d := 4) (v := ?v249) rfl rfl (by kernel_rfl) (by kernel_rfl) (by kernel_rfl) (fun _ _ _ h => h) (by rfl) ?y249 (by assumption) ?r249
    case y249 => (intro w hSw; (try dsimp only at hSw); go_simp <;> with_reducible rfl)
    simp only [Act.put, sl0, sl1, sl2]
    refine wpAnyH_done (by kernel_rfl) ?_ _
    replace HB := Lib.hid (HB.out.keep hz21)
    clear hb16 hz16 hb17 hz17 hb18 hz18 hb19 hz19 hb20 hz20 hb21 hz21 HSC HZ0 HS1 KR1 KR2 KR3 KR4 KR5 KR6
    go_wp2
    go_ret
    exact ⟨ret_bool hno.out.symm, HB.out.below⟩
  have E4 : Hid (∀ z : World, Below W.heap.size W z → Calls Tryz.prog 85 #[.agg #[.int .i64 m, .slice A m c], .int .i64 v1, .int .i64 v2] z fun e w' => e = .returned (.bool false) ∧ Below z.heap.size z w') := fun z hz => by
    have := l2Edge_v (HG.out.keep hz) m1 m2
    rwa [t4] at this
  have T4 := Lib.hid t4
  clear t4
  cases t5 : (rw_ x v1).testBit v3
  rotate_left
  · have hno : Hid (teB (m : Int) m x l = false) := by
      show _ = _; unfold teB
      rw [ajB_no (i := 1) (k := 3) (by omega) (by rw [← HN.out]; omega) (by rw [Hed.out.2.2.2.2.1, t5]; decide), Bool.and_false]
    have E5 : Hid (∀ z : World, Below W.heap.size W z → Calls Tryz.prog 85 #[.agg #[.int .i64 m, .slice A m c], .int .i64 v1, .int .i64 v3] z fun e w' => e = .returned (.bool true) ∧ Below z.heap.size z w') := fun z hz => by
      have := l2Edge_v (HG.out.keep hz) m1 m3
      rwa [t5] at this
    clear t5
    go_enter Tryz.func317, Tryz.ntmps317
    go_wp2_with fail
    rw [← HW.out]
    have HSC : Hid (∀ z : World, Below W.heap.size W z → (Below W.heap.size W z ∧ z.cell? ⟨w.heap.size, 0, none⟩ = some (.int .i64 m) ∧ z.cell? ⟨w.heap.size, 1, none⟩ = some (.slice A m c) ∧ z.cell? ⟨b2, o2, none⟩ = some (.int .i64 v0) ∧ z.cell? ⟨b2, o2 + 1, none⟩ = some (.int .i64 v1) ∧ z.cell? ⟨b2, o2 + 2, none⟩ = some (.int .i64 v2) ∧ z.cell? ⟨b2, o2 + 3, none⟩ = some (.int .i64 v3))) := fun z hz => ⟨hz, up_ hz e0, up_ hz e1, up_ hz p0, up_ hz p1, up_ hz p2, up_ hz p3⟩
    have HZ0 : Hid (Below W.heap.size W W.drew) := (Below.refl _ _).drew
    have HS1 := Lib.hid (HSC.out _ HZ0.out)
    have KR1 : Hid (∀ z : World, Below W.heap.size W z → _) := fun z hz => KD.out z hz
    have KR2 : Hid (∀ z : World, Below W.heap.size W z → _) := fun z hz => E0.out z hz
    have KR3 : Hid (∀ z : World, Below W.heap.size W z → _) := fun z hz => E1.out z hz
    have KR4 : Hid (∀ z : World, Below W.heap.size W z → _) := fun z hz => E2.out z hz
    have KR5 : Hid (∀ z : World, Below W.heap.size W z → _) := fun z hz => E3.out z hz
    have KR6 : Hid (∀ z : World, Below W.heap.size W z → _) := fun z hz => E4.out z hz
    have KR7 : Hid (∀ z : World, Below W.heap.size W z → _) := fun z hz => E5.out z hz
    refine wp_region_held_drew (S := fun z => Below W.heap.size W z ∧ z.cell? ⟨w.heap.size, 0, none⟩ = some (.int .i64 m) ∧ z.cell? ⟨w.heap.size, 1, none⟩ = some (.slice A m c) ∧ z.cell? ⟨b2, o2, none⟩ = some (.int .i64 v0) ∧ z.cell? ⟨b2, o2 + 1, none⟩ = some (.int .i64 v1) ∧ z.cell? ⟨b2, o2 + 2, none⟩ = some (.int .i64 v2) ∧ z.cell? ⟨b2, o2 + 3, none⟩ = some (.int .i64 v3)) (by kernel_rfl) HS1.out (fun hHeld => ?_)
    refine take_yes (i := 0) (d := 5) (v := ?v250) rfl rfl (by kernel_rfl) (by kernel_rfl) (by kernel_rfl) (fun _ _ _ h => h) (by rfl) ?y250 (by assumption) ?r250
    case y250 => (intro w hSw; (try dsimp only at hSw); go_simp <;> with_reducible rfl)
    simp only [Act.put, sl0, sl1, sl2]
    refine take_yes (i := 1) (d := 6) (v := ?v251) rfl rfl (by kernel_rfl) (by kernel_rfl) (by kernel_rfl) (fun _ _ _ h => h) (by rfl) ?y251 (by assumption) ?r251
    case y251 => (intro w hSw; (try dsimp only at hSw); go_simp <;> with_reducible rfl)
    simp only [Act.put, sl0, sl1, sl2]
    refine take_yes (i := 2) (d := 7) (v := ?v252) rfl rfl (by kernel_rfl) (by kernel_rfl) (by kernel_rfl) (fun _ _ _ h => h) (by rfl) ?y252 (by assumption) ?r252
    case y252 => (intro w hSw; (try dsimp only at hSw); go_simp <;> with_reducible rfl)
    simp only [Act.put, sl0, sl1, sl2]
    refine take_yes (i := 3) (d := 8) (v := ?v253) rfl rfl (by kernel_rfl) (by kernel_rfl) (by kernel_rfl) (fun _ _ _ h => h) (by rfl) ?y253 (by assumption) ?r253
    case y253 => (intro w hSw; (try dsimp only at hSw); go_simp <;> with_reducible rfl)
    simp only [Act.put, sl0, sl1, sl2]
    refine take_yes (i := 4) (d := 9) (v := ?v254) rfl rfl (by kernel_rfl) (by kernel_rfl) (by kernel_rfl) (fun _ _ _ h => h) (by rfl) ?y254 (by assumption) ?r254
    case y254 => (intro w hSw; (try dsimp only at hSw); go_simp <;> with_reducible rfl)
    simp only [Act.put, sl0, sl1, sl2]
    refine take_yes (i := 5) (d := 10) (v := ?v255) rfl rfl (by kernel_rfl) (by kernel_rfl) (by kernel_rfl) (fun _ _ _ h => h) (by rfl) ?y255 (by assumption) ?r255
    case y255 => (intro w hSw; (try dsimp only at hSw); go_simp <;> with_reducible rfl)
    simp only [Act.put, sl0, sl1, sl2]
    refine wpAnyH_ready (rs := [6]) (by kernel_rfl) (by simp) ?_
    refine AllReadyH.cons rfl (fun K hK => ?_) AllReadyH.nil
    go_simp
    go_at_call 339; refine (KR1.out _ HZ0.out).mono ?_
    rintro e w22 ⟨rfl, hb22⟩
    have hz22 := bl_trans HZ0.out hb22
    refine hK.out _ _ (HSC.out _ hz22) (fun hHeld => ?_)
    clear hK K
    try simp only [Act.put, sl0, sl1, sl2]
    refine take_yes (i := 7) (d := 12) (v := ?v256) rfl rfl (by kernel_rfl) (by kernel_rfl) (by kernel_rfl) (fun _ _ _ h => h) (by rfl) ?y256 (by assumption) ?r256
    case y256 => (intro w hSw; (try dsimp only at hSw); go_simp <;> with_reducible rfl)
    simp only [Act.put, sl0, sl1, sl2]
    refine take_yes (i := 8) (d := 13) (v := ?v257) rfl rfl (by kernel_rfl) (by kernel_rfl) (by kernel_rfl) (fun _ _ _ h => h) (by rfl) ?y257 (by assumption) ?r257
    case y257 => (intro w hSw; (try dsimp only at hSw); go_simp <;> with_reducible rfl)
    simp only [Act.put, sl0, sl1, sl2]
    refine take_yes (i := 9) (d := 14) (v := ?v258) rfl rfl (by kernel_rfl) (by kernel_rfl) (by kernel_rfl) (fun _ _ _ h => h) (by rfl) ?y258 (by assumption) ?r258
    case y258 => (intro w hSw; (try dsimp only at hSw); go_simp <;> with_reducible rfl)
    simp only [Act.put, sl0, sl1, sl2]
    refine take_yes (i := 10) (d := 15) (v := ?v259) rfl rfl (by kernel_rfl) (by kernel_rfl) (by kernel_rfl) (fun _ _ _ h => h) (by rfl) ?y259 (by assumption) ?r259
    case y259 => (intro w hSw; (try dsimp only at hSw); go_simp <;> with_reducible rfl)
    simp only [Act.put, sl0, sl1, sl2]
    refine take_yes (i := 11) (d := 16) (v := ?v260) rfl rfl (by kernel_rfl) (by kernel_rfl) (by kernel_rfl) (fun _ _ _ h => h) (by rfl) ?y260 (by assumption) ?r260
    case y260 => (intro w hSw; (try dsimp only at hSw); go_simp <;> with_reducible rfl)
    simp only [Act.put, sl0, sl1, sl2]
    refine take_yes (i := 12) (d := 17) (v := ?v261) rfl rfl (by kernel_rfl) (by kernel_rfl) (by kernel_rfl) (fun _ _ _ h => h) (by rfl) ?y261 (by assumption) ?r261
    case y261 => (intro w hSw; (try dsimp only at hSw); go_simp <;> with_reducible rfl)
    simp only [Act.put, sl0, sl1, sl2]
    refine take_yes (i := 13) (d := 18) (v := ?v262) rfl rfl (by kernel_rfl) (by kernel_rfl) (by kernel_rfl) (fun _ _ _ h => h) (by rfl) ?y262 (by assumption) ?r262
    case y262 => (intro w hSw; (try dsimp only at hSw); go_simp <;> with_reducible rfl)
    simp only [Act.put, sl0, sl1, sl2]
    refine take_yes (i := 14) (d := 19) (v := ?v263) rfl rfl (by kernel_rfl) (by kernel_rfl) (by kernel_rfl) (fun _ _ _ h => h) (by rfl) ?y263 (by assumption) ?r263
    case y263 => (intro w hSw; (try dsimp only at hSw); go_simp <;> with_reducible rfl)
    simp only [Act.put, sl0, sl1, sl2]
    refine take_yes (i := 15) (d := 20) (v := ?v264) rfl rfl (by kernel_rfl) (by kernel_rfl) (by kernel_rfl) (fun _ _ _ h => h) (by rfl) ?y264 (by assumption) ?r264
    case y264 => (intro w hSw; (try dsimp only at hSw); go_simp <;> with_reducible rfl)
    simp only [Act.put, sl0, sl1, sl2]
    refine wpAnyH_ready (rs := [16]) (by kernel_rfl) (by simp) ?_
    refine AllReadyH.cons rfl (fun K hK => ?_) AllReadyH.nil
    go_simp
    go_at_call 85; refine (KR2.out _ hz22).mono ?_
    rintro e w23 ⟨rfl, hb23⟩
    have hz23 := bl_trans hz22 hb23
    refine hK.out _ _ (HSC.out _ hz23) (fun hHeld => ?_)
    clear hK K
    try simp only [Act.put, sl0, sl1, sl2]
    refine take_yes (i := 17) (d := 22) (v := ?v265) rfl rfl (by kernel_rfl) (by kernel_rfl) (by kernel_rfl) (fun _ _ _ h => h) (by rfl) ?y265 (by assumption) ?r265
    case y265 => (intro w hSw; (try dsimp only at hSw); go_simp <;> with_reducible rfl)
    simp only [Act.put, sl0, sl1, sl2]
    refine take_yes (i := 18) (d := 23) (v := ?v266) rfl rfl (by kernel_rfl) (by kernel_rfl) (by kernel_rfl) (fun _ _ _ h => h) (by rfl) ?y266 (by assumption) ?r266
    case y266 => (intro w hSw; (try dsimp only at hSw); go_simp <;> with_reducible rfl)
    simp only [Act.put, sl0, sl1, sl2]
    refine take_yes (i := 19) (d := 24) (v := ?v267) rfl rfl (by kernel_rfl) (by kernel_rfl) (by kernel_rfl) (fun _ _ _ h => h) (by rfl) ?y267 (by assumption) ?r267
    case y267 => (intro w hSw; (try dsimp only at hSw); go_simp <;> with_reducible rfl)
    simp only [Act.put, sl0, sl1, sl2]
    refine take_yes (i := 20) (d := 25) (v := ?v268) rfl rfl (by kernel_rfl) (by kernel_rfl) (by kernel_rfl) (fun _ _ _ h => h) (by rfl) ?y268 (by assumption) ?r268
    case y268 => (intro w hSw; (try dsimp only at hSw); go_simp <;> with_reducible rfl)
    simp only [Act.put, sl0, sl1, sl2]
    refine take_yes (i := 21) (d := 26) (v := ?v269) rfl rfl (by kernel_rfl) (by kernel_rfl) (by kernel_rfl) (fun _ _ _ h => h) (by rfl) ?y269 (by assumption) ?r269
    case y269 => (intro w hSw; (try dsimp only at hSw); go_simp <;> with_reducible rfl)
    simp only [Act.put, sl0, sl1, sl2]
    refine take_yes (i := 22) (d := 27) (v := ?v270) rfl rfl (by kernel_rfl) (by kernel_rfl) (by kernel_rfl) (fun _ _ _ h => h) (by rfl) ?y270 (by assumption) ?r270
    case y270 => (intro w hSw; (try dsimp only at hSw); go_simp <;> with_reducible rfl)
    simp only [Act.put, sl0, sl1, sl2]
    refine take_yes (i := 23) (d := 28) (v := ?v271) rfl rfl (by kernel_rfl) (by kernel_rfl) (by kernel_rfl) (fun _ _ _ h => h) (by rfl) ?y271 (by assumption) ?r271
    case y271 => (intro w hSw; (try dsimp only at hSw); go_simp <;> with_reducible rfl)
    simp only [Act.put, sl0, sl1, sl2]
    refine take_yes (i := 24) (d := 29) (v := ?v272) rfl rfl (by kernel_rfl) (by kernel_rfl) (by kernel_rfl) (fun _ _ _ h => h) (by rfl) ?y272 (by assumption) ?r272
    case y272 => (intro w hSw; (try dsimp only at hSw); go_simp <;> with_reducible rfl)
    simp only [Act.put, sl0, sl1, sl2]
    refine take_yes (i := 25) (d := 30) (v := ?v273) rfl rfl (by kernel_rfl) (by kernel_rfl) (by kernel_rfl) (fun _ _ _ h => h) (by rfl) ?y273 (by assumption) ?r273
    case y273 => (intro w hSw; (try dsimp only at hSw); go_simp <;> with_reducible rfl)
    simp only [Act.put, sl0, sl1, sl2]
    refine wpAnyH_ready (rs := [26]) (by kernel_rfl) (by simp) ?_
    refine AllReadyH.cons rfl (fun K hK => ?_) AllReadyH.nil
    go_simp
    go_at_call 85; refine (KR3.out _ hz23).mono ?_
    rintro e w24 ⟨rfl, hb24⟩
    have hz24 := bl_trans hz23 hb24
    refine hK.out _ _ (HSC.out _ hz24) (fun hHeld => ?_)
    clear hK K
    try simp only [Act.put, sl0, sl1, sl2]
    refine take_yes (i := 27) (d := 32) (v := ?v274) rfl rfl (by kernel_rfl) (by kernel_rfl) (by kernel_rfl) (fun _ _ _ h => h) (by rfl) ?y274 (by assumption) ?r274
    case y274 => (intro w hSw; (try dsimp only at hSw); go_simp <;> with_reducible rfl)
    simp only [Act.put, sl0, sl1, sl2]
    refine take_yes (i := 28) (d := 33) (v := ?v275) rfl rfl (by kernel_rfl) (by kernel_rfl) (by kernel_rfl) (fun _ _ _ h => h) (by rfl) ?y275 (by assumption) ?r275
    case y275 => (intro w hSw; (try dsimp only at hSw); go_simp <;> with_reducible rfl)
    simp only [Act.put, sl0, sl1, sl2]
    refine take_yes (i := 29) (d := 34) (v := ?v276) rfl rfl (by kernel_rfl) (by kernel_rfl) (by kernel_rfl) (fun _ _ _ h => h) (by rfl) ?y276 (by assumption) ?r276
    case y276 => (intro w hSw; (try dsimp only at hSw); go_simp <;> with_reducible rfl)
    simp only [Act.put, sl0, sl1, sl2]
    refine take_yes (i := 30) (d := 35) (v := ?v277) rfl rfl (by kernel_rfl) (by kernel_rfl) (by kernel_rfl) (fun _ _ _ h => h) (by rfl) ?y277 (by assumption) ?r277
    case y277 => (intro w hSw; (try dsimp only at hSw); go_simp <;> with_reducible rfl)
    simp only [Act.put, sl0, sl1, sl2]
    refine take_yes (i := 31) (d := 36) (v := ?v278) rfl rfl (by kernel_rfl) (by kernel_rfl) (by kernel_rfl) (fun _ _ _ h => h) (by rfl) ?y278 (by assumption) ?r278
    case y278 => (intro w hSw; (try dsimp only at hSw); go_simp <;> with_reducible rfl)
    simp only [Act.put, sl0, sl1, sl2]
    refine take_yes (i := 32) (d := 37) (v := ?v279) rfl rfl (by kernel_rfl) (by kernel_rfl) (by kernel_rfl) (fun _ _ _ h => h) (by rfl) ?y279 (by assumption) ?r279
    case y279 => (intro w hSw; (try dsimp only at hSw); go_simp <;> with_reducible rfl)
    simp only [Act.put, sl0, sl1, sl2]
    refine take_yes (i := 33) (d := 38) (v := ?v280) rfl rfl (by kernel_rfl) (by kernel_rfl) (by kernel_rfl) (fun _ _ _ h => h) (by rfl) ?y280 (by assumption) ?r280
    case y280 => (intro w hSw; (try dsimp only at hSw); go_simp <;> with_reducible rfl)
    simp only [Act.put, sl0, sl1, sl2]
    refine take_yes (i := 34) (d := 39) (v := ?v281) rfl rfl (by kernel_rfl) (by kernel_rfl) (by kernel_rfl) (fun _ _ _ h => h) (by rfl) ?y281 (by assumption) ?r281
    case y281 => (intro w hSw; (try dsimp only at hSw); go_simp <;> with_reducible rfl)
    simp only [Act.put, sl0, sl1, sl2]
    refine take_yes (i := 35) (d := 40) (v := ?v282) rfl rfl (by kernel_rfl) (by kernel_rfl) (by kernel_rfl) (fun _ _ _ h => h) (by rfl) ?y282 (by assumption) ?r282
    case y282 => (intro w hSw; (try dsimp only at hSw); go_simp <;> with_reducible rfl)
    simp only [Act.put, sl0, sl1, sl2]
    refine wpAnyH_ready (rs := [36]) (by kernel_rfl) (by simp) ?_
    refine AllReadyH.cons rfl (fun K hK => ?_) AllReadyH.nil
    go_simp
    go_at_call 85; refine (KR4.out _ hz24).mono ?_
    rintro e w25 ⟨rfl, hb25⟩
    have hz25 := bl_trans hz24 hb25
    refine hK.out _ _ (HSC.out _ hz25) (fun hHeld => ?_)
    clear hK K
    try simp only [Act.put, sl0, sl1, sl2]
    refine take_yes (i := 37) (d := 42) (v := ?v283) rfl rfl (by kernel_rfl) (by kernel_rfl) (by kernel_rfl) (fun _ _ _ h => h) (by rfl) ?y283 (by assumption) ?r283
    case y283 => (intro w hSw; (try dsimp only at hSw); go_simp <;> with_reducible rfl)
    simp only [Act.put, sl0, sl1, sl2]
    refine take_yes (i := 38) (d := 43) (v := ?v284) rfl rfl (by kernel_rfl) (by kernel_rfl) (by kernel_rfl) (fun _ _ _ h => h) (by rfl) ?y284 (by assumption) ?r284
    case y284 => (intro w hSw; (try dsimp only at hSw); go_simp <;> with_reducible rfl)
    simp only [Act.put, sl0, sl1, sl2]
    refine take_yes (i := 39) (d := 44) (v := ?v285) rfl rfl (by kernel_rfl) (by kernel_rfl) (by kernel_rfl) (fun _ _ _ h => h) (by rfl) ?y285 (by assumption) ?r285
    case y285 => (intro w hSw; (try dsimp only at hSw); go_simp <;> with_reducible rfl)
    simp only [Act.put, sl0, sl1, sl2]
    refine take_yes (i := 40) (d := 45) (v := ?v286) rfl rfl (by kernel_rfl) (by kernel_rfl) (by kernel_rfl) (fun _ _ _ h => h) (by rfl) ?y286 (by assumption) ?r286
    case y286 => (intro w hSw; (try dsimp only at hSw); go_simp <;> with_reducible rfl)
    simp only [Act.put, sl0, sl1, sl2]
    refine take_yes (i := 41) (d := 46) (v := ?v287) rfl rfl (by kernel_rfl) (by kernel_rfl) (by kernel_rfl) (fun _ _ _ h => h) (by rfl) ?y287 (by assumption) ?r287
    case y287 => (intro w hSw; (try dsimp only at hSw); go_simp <;> with_reducible rfl)
    simp only [Act.put, sl0, sl1, sl2]
    refine take_yes (i := 42) (d := 47) (v := ?v288) rfl rfl (by kernel_rfl) (by kernel_rfl) (by kernel_rfl) (fun _ _ _ h => h) (by rfl) ?y288 (by assumption) ?r288
    case y288 => (intro w hSw; (try dsimp only at hSw); go_simp <;> with_reducible rfl)
    simp only [Act.put, sl0, sl1, sl2]
    refine take_yes (i := 43) (d := 48) (v := ?v289) rfl rfl (by kernel_rfl) (by kernel_rfl) (by kernel_rfl) (fun _ _ _ h => h) (by rfl) ?y289 (by assumption) ?r289
    case y289 => (intro w hSw; (try dsimp only at hSw); go_simp <;> with_reducible rfl)
    simp only [Act.put, sl0, sl1, sl2]
    refine take_yes (i := 44) (d := 49) (v := ?v290) rfl rfl (by kernel_rfl) (by kernel_rfl) (by kernel_rfl) (fun _ _ _ h => h) (by rfl) ?y290 (by assumption) ?r290
    case y290 => (intro w hSw; (try dsimp only at hSw); go_simp <;> with_reducible rfl)
    simp only [Act.put, sl0, sl1, sl2]
    refine take_yes (i := 45) (d := 50) (v := ?v291) rfl rfl (by kernel_rfl) (by kernel_rfl) (by kernel_rfl) (fun _ _ _ h => h) (by rfl) ?y291 (by assumption) ?r291
    case y291 => (intro w hSw; (try dsimp only at hSw); go_simp <;> with_reducible rfl)
    simp only [Act.put, sl0, sl1, sl2]
    refine take_yes (i := 46) (d := 51) (v := ?v292) rfl rfl (by kernel_rfl) (by kernel_rfl) (by kernel_rfl) (fun _ _ _ h => h) (by rfl) ?y292 (by assumption) ?r292
    case y292 => (intro w hSw; (try dsimp only at hSw); go_simp <;> with_reducible rfl)
    simp only [Act.put, sl0, sl1, sl2]
    refine wpAnyH_ready (rs := [47]) (by kernel_rfl) (by simp) ?_
    refine AllReadyH.cons rfl (fun K hK => ?_) AllReadyH.nil
    go_simp
    go_at_call 85; refine (KR5.out _ hz25).mono ?_
    rintro e w26 ⟨rfl, hb26⟩
    have hz26 := bl_trans hz25 hb26
    refine hK.out _ _ (HSC.out _ hz26) (fun hHeld => ?_)
    clear hK K
    try simp only [Act.put, sl0, sl1, sl2]
    refine take_yes (i := 48) (d := 53) (v := ?v293) rfl rfl (by kernel_rfl) (by kernel_rfl) (by kernel_rfl) (fun _ _ _ h => h) (by rfl) ?y293 (by assumption) ?r293
    case y293 => (intro w hSw; (try dsimp only at hSw); go_simp <;> with_reducible rfl)
    simp only [Act.put, sl0, sl1, sl2]
    refine take_yes (i := 49) (d := 54) (v := ?v294) rfl rfl (by kernel_rfl) (by kernel_rfl) (by kernel_rfl) (fun _ _ _ h => h) (by rfl) ?y294 (by assumption) ?r294
    case y294 => (intro w hSw; (try dsimp only at hSw); go_simp <;> with_reducible rfl)
    simp only [Act.put, sl0, sl1, sl2]
    refine take_yes (i := 50) (d := 55) (v := ?v295) rfl rfl (by kernel_rfl) (by kernel_rfl) (by kernel_rfl) (fun _ _ _ h => h) (by rfl) ?y295 (by assumption) ?r295
    case y295 => (intro w hSw; (try dsimp only at hSw); go_simp <;> with_reducible rfl)
    simp only [Act.put, sl0, sl1, sl2]
    refine take_yes (i := 51) (d := 56) (v := ?v296) rfl rfl (by kernel_rfl) (by kernel_rfl) (by kernel_rfl) (fun _ _ _ h => h) (by rfl) ?y296 (by assumption) ?r296
    case y296 => (intro w hSw; (try dsimp only at hSw); go_simp <;> with_reducible rfl)
    simp only [Act.put, sl0, sl1, sl2]
    refine take_yes (i := 52) (d := 57) (v := ?v297) rfl rfl (by kernel_rfl) (by kernel_rfl) (by kernel_rfl) (fun _ _ _ h => h) (by rfl) ?y297 (by assumption) ?r297
    case y297 => (intro w hSw; (try dsimp only at hSw); go_simp <;> with_reducible rfl)
    simp only [Act.put, sl0, sl1, sl2]
    refine take_yes (i := 53) (d := 58) (v := ?v298) rfl rfl (by kernel_rfl) (by kernel_rfl) (by kernel_rfl) (fun _ _ _ h => h) (by rfl) ?y298 (by assumption) ?r298
    case y298 => (intro w hSw; (try dsimp only at hSw); go_simp <;> with_reducible rfl)
    simp only [Act.put, sl0, sl1, sl2]
    refine take_yes (i := 54) (d := 59) (v := ?v299) rfl rfl (by kernel_rfl) (by kernel_rfl) (by kernel_rfl) (fun _ _ _ h => h) (by rfl) ?y299 (by assumption) ?r299
    case y299 => (intro w hSw; (try dsimp only at hSw); go_simp <;> with_reducible rfl)
    simp only [Act.put, sl0, sl1, sl2]
    refine take_yes (i := 55) (d := 60) (v := ?v300) rfl rfl (by kernel_rfl) (by kernel_rfl) (by kernel_rfl) (fun _ _ _ h => h) (by rfl) ?y300 (by assumption) ?r300
    case y300 => (intro w hSw; (try dsimp only at hSw); go_simp <;> with_reducible rfl)
    simp only [Act.put, sl0, sl1, sl2]
    refine take_yes (i := 56) (d := 61) (v := ?v301) rfl rfl (by kernel_rfl) (by kernel_rfl) (by kernel_rfl) (fun _ _ _ h => h) (by rfl) ?y301 (by assumption) ?r301
    case y301 => (intro w hSw; (try dsimp only at hSw); go_simp <;> with_reducible rfl)
    simp only [Act.put, sl0, sl1, sl2]
    refine take_yes (i := 57) (d := 62) (v := ?v302) rfl rfl (by kernel_rfl) (by kernel_rfl) (by kernel_rfl) (fun _ _ _ h => h) (by rfl) ?y302 (by assumption) ?r302
    case y302 => (intro w hSw; (try dsimp only at hSw); go_simp <;> with_reducible rfl)
    simp only [Act.put, sl0, sl1, sl2]
    refine wpAnyH_ready (rs := [58]) (by kernel_rfl) (by simp) ?_
    refine AllReadyH.cons rfl (fun K hK => ?_) AllReadyH.nil
    go_simp
    go_at_call 85; refine (KR6.out _ hz26).mono ?_
    rintro e w27 ⟨rfl, hb27⟩
    have hz27 := bl_trans hz26 hb27
    refine hK.out _ _ (HSC.out _ hz27) (fun hHeld => ?_)
    clear hK K
    try simp only [Act.put, sl0, sl1, sl2]
    refine take_yes (i := 59) (d := 64) (v := ?v303) rfl rfl (by kernel_rfl) (by kernel_rfl) (by kernel_rfl) (fun _ _ _ h => h) (by rfl) ?y303 (by assumption) ?r303
    case y303 => (intro w hSw; (try dsimp only at hSw); go_simp <;> with_reducible rfl)
    simp only [Act.put, sl0, sl1, sl2]
    refine take_yes (i := 60) (d := 65) (v := ?v304) rfl rfl (by kernel_rfl) (by kernel_rfl) (by kernel_rfl) (fun _ _ _ h => h) (by rfl) ?y304 (by assumption) ?r304
    case y304 => (intro w hSw; (try dsimp only at hSw); go_simp <;> with_reducible rfl)
    simp only [Act.put, sl0, sl1, sl2]
    refine take_yes (i := 61) (d := 66) (v := ?v305) rfl rfl (by kernel_rfl) (by kernel_rfl) (by kernel_rfl) (fun _ _ _ h => h) (by rfl) ?y305 (by assumption) ?r305
    case y305 => (intro w hSw; (try dsimp only at hSw); go_simp <;> with_reducible rfl)
    simp only [Act.put, sl0, sl1, sl2]
    refine take_yes (i := 62) (d := 67) (v := ?v306) rfl rfl (by kernel_rfl) (by kernel_rfl) (by kernel_rfl) (fun _ _ _ h => h) (by rfl) ?y306 (by assumption) ?r306
    case y306 => (intro w hSw; (try dsimp only at hSw); go_simp <;> with_reducible rfl)
    simp only [Act.put, sl0, sl1, sl2]
    refine take_yes (i := 63) (d := 68) (v := ?v307) rfl rfl (by kernel_rfl) (by kernel_rfl) (by kernel_rfl) (fun _ _ _ h => h) (by rfl) ?y307 (by assumption) ?r307
    case y307 => (intro w hSw; (try dsimp only at hSw); go_simp <;> with_reducible rfl)
    simp only [Act.put, sl0, sl1, sl2]
    refine take_yes (i := 64) (d := 69) (v := ?v308) rfl rfl (by kernel_rfl) (by kernel_rfl) (by kernel_rfl) (fun _ _ _ h => h) (by rfl) ?y308 (by assumption) ?r308
    case y308 => (intro w hSw; (try dsimp only at hSw); go_simp <;> with_reducible rfl)
    simp only [Act.put, sl0, sl1, sl2]
    refine take_yes (i := 65) (d := 70) (v := ?v309) rfl rfl (by kernel_rfl) (by kernel_rfl) (by kernel_rfl) (fun _ _ _ h => h) (by rfl) ?y309 (by assumption) ?r309
    case y309 => (intro w hSw; (try dsimp only at hSw); go_simp <;> with_reducible rfl)
    simp only [Act.put, sl0, sl1, sl2]
    refine take_yes (i := 66) (d := 71) (v := ?v310) rfl rfl (by kernel_rfl) (by kernel_rfl) (by kernel_rfl) (fun _ _ _ h => h) (by rfl) ?y310 (by assumption) ?r310
    case y310 => (intro w hSw; (try dsimp only at hSw); go_simp <;> with_reducible rfl)
    simp only [Act.put, sl0, sl1, sl2]
    refine take_yes (i := 67) (d := 72) (v := ?v311) rfl rfl (by kernel_rfl) (by kernel_rfl) (by kernel_rfl) (fun _ _ _ h => h) (by rfl) ?y311 (by assumption) ?r311
    case y311 => (intro w hSw; (try dsimp only at hSw); go_simp <;> with_reducible rfl)
    simp only [Act.put, sl0, sl1, sl2]
    refine take_yes (i := 68) (d := 73) (v := ?v312) rfl rfl (by kernel_rfl) (by kernel_rfl) (by kernel_rfl) (fun _ _ _ h => h) (by rfl) ?y312 (by assumption) ?r312
    case y312 => (intro w hSw; (try dsimp only at hSw); go_simp <;> with_reducible rfl)
    simp only [Act.put, sl0, sl1, sl2]
    refine wpAnyH_ready (rs := [69]) (by kernel_rfl) (by simp) ?_
    refine AllReadyH.cons rfl (fun K hK => ?_) AllReadyH.nil
    go_simp
    go_at_call 85; refine (KR7.out _ hz27).mono ?_
    rintro e w28 ⟨rfl, hb28⟩
    have hz28 := bl_trans hz27 hb28
    refine hK.out _ _ (HSC.out _ hz28) (fun hHeld => ?_)
    clear hK K
    try simp only [Act.put, sl0, sl1, sl2]
    refine take_yes (i := 70) (d := 75) (v := ?v313) rfl rfl (by kernel_rfl) (by kernel_rfl) (by kernel_rfl) (fun _ _ _ h => h) (by rfl) ?y313 (by assumption) ?r313
    case y313 => (intro w hSw; (try dsimp only at hSw); go_simp <;> with_reducible rfl)
    simp only [Act.put, sl0, sl1, sl2]
    refine take_yes (i := 71) (d := 76) (v := ?v314) rfl rfl (by kernel_rfl) (by kernel_rfl) (by kernel_rfl) (fun _ _ _ h => h) (by rfl) ?y314 (by assumption) ?r314
    case y314 => (intro w hSw; (try dsimp only at hSw); go_simp <;> with_reducible rfl)
    simp only [Act.put, sl0, sl1, sl2]
    refine take_yes (i := 72) (d := 4) (v := ?v315) rfl rfl (by kernel_rfl) (by kernel_rfl) (by kernel_rfl) (fun _ _ _ h => h) (by rfl) ?y315 (by assumption) ?r315
    case y315 => (intro w hSw; (try dsimp only at hSw); go_simp <;> with_reducible rfl)
    simp only [Act.put, sl0, sl1, sl2]
    refine wpAnyH_done (by kernel_rfl) ?_ _
    replace HB := Lib.hid (HB.out.keep hz28)
    clear hb22 hz22 hb23 hz23 hb24 hz24 hb25 hz25 hb26 hz26 hb27 hz27 hb28 hz28 HSC HZ0 HS1 KR1 KR2 KR3 KR4 KR5 KR6 KR7
    go_wp2
    go_ret
    exact ⟨ret_bool hno.out.symm, HB.out.below⟩
  have E5 : Hid (∀ z : World, Below W.heap.size W z → Calls Tryz.prog 85 #[.agg #[.int .i64 m, .slice A m c], .int .i64 v1, .int .i64 v3] z fun e w' => e = .returned (.bool false) ∧ Below z.heap.size z w') := fun z hz => by
    have := l2Edge_v (HG.out.keep hz) m1 m3
    rwa [t5] at this
  have T5 := Lib.hid t5
  clear t5
  have hyes : Hid (teB (m : Int) m x l = true) := by
    show _ = _; unfold teB
    rw [decide_eq_true HN.out.symm, Bool.true_and]
    refine ajB_yes Hv.out fun k hk i hi => ?_
    rw [← HN.out] at hk
    have h : (i = 0 ∧ k = 1) ∨ (i = 0 ∧ k = 2) ∨ (i = 0 ∧ k = 3) ∨ (i = 1 ∧ k = 2) ∨ (i = 1 ∧ k = 3) ∨ (i = 2 ∧ k = 3) := by omega
    rcases h with ⟨rfl, rfl⟩ | ⟨rfl, rfl⟩ | ⟨rfl, rfl⟩ | ⟨rfl, rfl⟩ | ⟨rfl, rfl⟩ | ⟨rfl, rfl⟩
    · rw [Hed.out.1, T0.out]; rfl
    · rw [Hed.out.2.1, T2.out]; rfl
    · rw [Hed.out.2.2.1, T3.out]; rfl
    · rw [Hed.out.2.2.2.1, T4.out]; rfl
    · rw [Hed.out.2.2.2.2.1, T5.out]; rfl
    · rw [Hed.out.2.2.2.2.2, T1.out]; rfl
  go_enter Tryz.func317, Tryz.ntmps317
  go_wp2_with fail
  rw [← HW.out]
  have HSC : Hid (∀ z : World, Below W.heap.size W z → (Below W.heap.size W z ∧ z.cell? ⟨w.heap.size, 0, none⟩ = some (.int .i64 m) ∧ z.cell? ⟨w.heap.size, 1, none⟩ = some (.slice A m c) ∧ z.cell? ⟨b2, o2, none⟩ = some (.int .i64 v0) ∧ z.cell? ⟨b2, o2 + 1, none⟩ = some (.int .i64 v1) ∧ z.cell? ⟨b2, o2 + 2, none⟩ = some (.int .i64 v2) ∧ z.cell? ⟨b2, o2 + 3, none⟩ = some (.int .i64 v3))) := fun z hz => ⟨hz, up_ hz e0, up_ hz e1, up_ hz p0, up_ hz p1, up_ hz p2, up_ hz p3⟩
  have HZ0 : Hid (Below W.heap.size W W.drew) := (Below.refl _ _).drew
  have HS1 := Lib.hid (HSC.out _ HZ0.out)
  have KR1 : Hid (∀ z : World, Below W.heap.size W z → _) := fun z hz => KD.out z hz
  have KR2 : Hid (∀ z : World, Below W.heap.size W z → _) := fun z hz => E0.out z hz
  have KR3 : Hid (∀ z : World, Below W.heap.size W z → _) := fun z hz => E1.out z hz
  have KR4 : Hid (∀ z : World, Below W.heap.size W z → _) := fun z hz => E2.out z hz
  have KR5 : Hid (∀ z : World, Below W.heap.size W z → _) := fun z hz => E3.out z hz
  have KR6 : Hid (∀ z : World, Below W.heap.size W z → _) := fun z hz => E4.out z hz
  have KR7 : Hid (∀ z : World, Below W.heap.size W z → _) := fun z hz => E5.out z hz
  refine wp_region_held_drew (S := fun z => Below W.heap.size W z ∧ z.cell? ⟨w.heap.size, 0, none⟩ = some (.int .i64 m) ∧ z.cell? ⟨w.heap.size, 1, none⟩ = some (.slice A m c) ∧ z.cell? ⟨b2, o2, none⟩ = some (.int .i64 v0) ∧ z.cell? ⟨b2, o2 + 1, none⟩ = some (.int .i64 v1) ∧ z.cell? ⟨b2, o2 + 2, none⟩ = some (.int .i64 v2) ∧ z.cell? ⟨b2, o2 + 3, none⟩ = some (.int .i64 v3)) (by kernel_rfl) HS1.out (fun hHeld => ?_)
  refine take_yes (i := 0) (d := 5) (v := ?v316) rfl rfl (by kernel_rfl) (by kernel_rfl) (by kernel_rfl) (fun _ _ _ h => h) (by rfl) ?y316 (by assumption) ?r316
  case y316 => (intro w hSw; (try dsimp only at hSw); go_simp <;> with_reducible rfl)
  simp only [Act.put, sl0, sl1, sl2]
  refine take_yes (i := 1) (d := 6) (v := ?v317) rfl rfl (by kernel_rfl) (by kernel_rfl) (by kernel_rfl) (fun _ _ _ h => h) (by rfl) ?y317 (by assumption) ?r317
  case y317 => (intro w hSw; (try dsimp only at hSw); go_simp <;> with_reducible rfl)
  simp only [Act.put, sl0, sl1, sl2]
  refine take_yes (i := 2) (d := 7) (v := ?v318) rfl rfl (by kernel_rfl) (by kernel_rfl) (by kernel_rfl) (fun _ _ _ h => h) (by rfl) ?y318 (by assumption) ?r318
  case y318 => (intro w hSw; (try dsimp only at hSw); go_simp <;> with_reducible rfl)
  simp only [Act.put, sl0, sl1, sl2]
  refine take_yes (i := 3) (d := 8) (v := ?v319) rfl rfl (by kernel_rfl) (by kernel_rfl) (by kernel_rfl) (fun _ _ _ h => h) (by rfl) ?y319 (by assumption) ?r319
  case y319 => (intro w hSw; (try dsimp only at hSw); go_simp <;> with_reducible rfl)
  simp only [Act.put, sl0, sl1, sl2]
  refine take_yes (i := 4) (d := 9) (v := ?v320) rfl rfl (by kernel_rfl) (by kernel_rfl) (by kernel_rfl) (fun _ _ _ h => h) (by rfl) ?y320 (by assumption) ?r320
  case y320 => (intro w hSw; (try dsimp only at hSw); go_simp <;> with_reducible rfl)
  simp only [Act.put, sl0, sl1, sl2]
  refine take_yes (i := 5) (d := 10) (v := ?v321) rfl rfl (by kernel_rfl) (by kernel_rfl) (by kernel_rfl) (fun _ _ _ h => h) (by rfl) ?y321 (by assumption) ?r321
  case y321 => (intro w hSw; (try dsimp only at hSw); go_simp <;> with_reducible rfl)
  simp only [Act.put, sl0, sl1, sl2]
  refine wpAnyH_ready (rs := [6]) (by kernel_rfl) (by simp) ?_
  refine AllReadyH.cons rfl (fun K hK => ?_) AllReadyH.nil
  go_simp
  go_at_call 339; refine (KR1.out _ HZ0.out).mono ?_
  rintro e w29 ⟨rfl, hb29⟩
  have hz29 := bl_trans HZ0.out hb29
  refine hK.out _ _ (HSC.out _ hz29) (fun hHeld => ?_)
  clear hK K
  try simp only [Act.put, sl0, sl1, sl2]
  refine take_yes (i := 7) (d := 12) (v := ?v322) rfl rfl (by kernel_rfl) (by kernel_rfl) (by kernel_rfl) (fun _ _ _ h => h) (by rfl) ?y322 (by assumption) ?r322
  case y322 => (intro w hSw; (try dsimp only at hSw); go_simp <;> with_reducible rfl)
  simp only [Act.put, sl0, sl1, sl2]
  refine take_yes (i := 8) (d := 13) (v := ?v323) rfl rfl (by kernel_rfl) (by kernel_rfl) (by kernel_rfl) (fun _ _ _ h => h) (by rfl) ?y323 (by assumption) ?r323
  case y323 => (intro w hSw; (try dsimp only at hSw); go_simp <;> with_reducible rfl)
  simp only [Act.put, sl0, sl1, sl2]
  refine take_yes (i := 9) (d := 14) (v := ?v324) rfl rfl (by kernel_rfl) (by kernel_rfl) (by kernel_rfl) (fun _ _ _ h => h) (by rfl) ?y324 (by assumption) ?r324
  case y324 => (intro w hSw; (try dsimp only at hSw); go_simp <;> with_reducible rfl)
  simp only [Act.put, sl0, sl1, sl2]
  refine take_yes (i := 10) (d := 15) (v := ?v325) rfl rfl (by kernel_rfl) (by kernel_rfl) (by kernel_rfl) (fun _ _ _ h => h) (by rfl) ?y325 (by assumption) ?r325
  case y325 => (intro w hSw; (try dsimp only at hSw); go_simp <;> with_reducible rfl)
  simp only [Act.put, sl0, sl1, sl2]
  refine take_yes (i := 11) (d := 16) (v := ?v326) rfl rfl (by kernel_rfl) (by kernel_rfl) (by kernel_rfl) (fun _ _ _ h => h) (by rfl) ?y326 (by assumption) ?r326
  case y326 => (intro w hSw; (try dsimp only at hSw); go_simp <;> with_reducible rfl)
  simp only [Act.put, sl0, sl1, sl2]
  refine take_yes (i := 12) (d := 17) (v := ?v327) rfl rfl (by kernel_rfl) (by kernel_rfl) (by kernel_rfl) (fun _ _ _ h => h) (by rfl) ?y327 (by assumption) ?r327
  case y327 => (intro w hSw; (try dsimp only at hSw); go_simp <;> with_reducible rfl)
  simp only [Act.put, sl0, sl1, sl2]
  refine take_yes (i := 13) (d := 18) (v := ?v328) rfl rfl (by kernel_rfl) (by kernel_rfl) (by kernel_rfl) (fun _ _ _ h => h) (by rfl) ?y328 (by assumption) ?r328
  case y328 => (intro w hSw; (try dsimp only at hSw); go_simp <;> with_reducible rfl)
  simp only [Act.put, sl0, sl1, sl2]
  refine take_yes (i := 14) (d := 19) (v := ?v329) rfl rfl (by kernel_rfl) (by kernel_rfl) (by kernel_rfl) (fun _ _ _ h => h) (by rfl) ?y329 (by assumption) ?r329
  case y329 => (intro w hSw; (try dsimp only at hSw); go_simp <;> with_reducible rfl)
  simp only [Act.put, sl0, sl1, sl2]
  refine take_yes (i := 15) (d := 20) (v := ?v330) rfl rfl (by kernel_rfl) (by kernel_rfl) (by kernel_rfl) (fun _ _ _ h => h) (by rfl) ?y330 (by assumption) ?r330
  case y330 => (intro w hSw; (try dsimp only at hSw); go_simp <;> with_reducible rfl)
  simp only [Act.put, sl0, sl1, sl2]
  refine wpAnyH_ready (rs := [16]) (by kernel_rfl) (by simp) ?_
  refine AllReadyH.cons rfl (fun K hK => ?_) AllReadyH.nil
  go_simp
  go_at_call 85; refine (KR2.out _ hz29).mono ?_
  rintro e w30 ⟨rfl, hb30⟩
  have hz30 := bl_trans hz29 hb30
  refine hK.out _ _ (HSC.out _ hz30) (fun hHeld => ?_)
  clear hK K
  try simp only [Act.put, sl0, sl1, sl2]
  refine take_yes (i := 17) (d := 22) (v := ?v331) rfl rfl (by kernel_rfl) (by kernel_rfl) (by kernel_rfl) (fun _ _ _ h => h) (by rfl) ?y331 (by assumption) ?r331
  case y331 => (intro w hSw; (try dsimp only at hSw); go_simp <;> with_reducible rfl)
  simp only [Act.put, sl0, sl1, sl2]
  refine take_yes (i := 18) (d := 23) (v := ?v332) rfl rfl (by kernel_rfl) (by kernel_rfl) (by kernel_rfl) (fun _ _ _ h => h) (by rfl) ?y332 (by assumption) ?r332
  case y332 => (intro w hSw; (try dsimp only at hSw); go_simp <;> with_reducible rfl)
  simp only [Act.put, sl0, sl1, sl2]
  refine take_yes (i := 19) (d := 24) (v := ?v333) rfl rfl (by kernel_rfl) (by kernel_rfl) (by kernel_rfl) (fun _ _ _ h => h) (by rfl) ?y333 (by assumption) ?r333
  case y333 => (intro w hSw; (try dsimp only at hSw); go_simp <;> with_reducible rfl)
  simp only [Act.put, sl0, sl1, sl2]
  refine take_yes (i := 20) (d := 25) (v := ?v334) rfl rfl (by kernel_rfl) (by kernel_rfl) (by kernel_rfl) (fun _ _ _ h => h) (by rfl) ?y334 (by assumption) ?r334
  case y334 => (intro w hSw; (try dsimp only at hSw); go_simp <;> with_reducible rfl)
  simp only [Act.put, sl0, sl1, sl2]
  refine take_yes (i := 21) (d := 26) (v := ?v335) rfl rfl (by kernel_rfl) (by kernel_rfl) (by kernel_rfl) (fun _ _ _ h => h) (by rfl) ?y335 (by assumption) ?r335
  case y335 => (intro w hSw; (try dsimp only at hSw); go_simp <;> with_reducible rfl)
  simp only [Act.put, sl0, sl1, sl2]
  refine take_yes (i := 22) (d := 27) (v := ?v336) rfl rfl (by kernel_rfl) (by kernel_rfl) (by kernel_rfl) (fun _ _ _ h => h) (by rfl) ?y336 (by assumption) ?r336
  case y336 => (intro w hSw; (try dsimp only at hSw); go_simp <;> with_reducible rfl)
  simp only [Act.put, sl0, sl1, sl2]
  refine take_yes (i := 23) (d := 28) (v := ?v337) rfl rfl (by kernel_rfl) (by kernel_rfl) (by kernel_rfl) (fun _ _ _ h => h) (by rfl) ?y337 (by assumption) ?r337
  case y337 => (intro w hSw; (try dsimp only at hSw); go_simp <;> with_reducible rfl)
  simp only [Act.put, sl0, sl1, sl2]
  refine take_yes (i := 24) (d := 29) (v := ?v338) rfl rfl (by kernel_rfl) (by kernel_rfl) (by kernel_rfl) (fun _ _ _ h => h) (by rfl) ?y338 (by assumption) ?r338
  case y338 => (intro w hSw; (try dsimp only at hSw); go_simp <;> with_reducible rfl)
  simp only [Act.put, sl0, sl1, sl2]
  refine take_yes (i := 25) (d := 30) (v := ?v339) rfl rfl (by kernel_rfl) (by kernel_rfl) (by kernel_rfl) (fun _ _ _ h => h) (by rfl) ?y339 (by assumption) ?r339
  case y339 => (intro w hSw; (try dsimp only at hSw); go_simp <;> with_reducible rfl)
  simp only [Act.put, sl0, sl1, sl2]
  refine wpAnyH_ready (rs := [26]) (by kernel_rfl) (by simp) ?_
  refine AllReadyH.cons rfl (fun K hK => ?_) AllReadyH.nil
  go_simp
  go_at_call 85; refine (KR3.out _ hz30).mono ?_
  rintro e w31 ⟨rfl, hb31⟩
  have hz31 := bl_trans hz30 hb31
  refine hK.out _ _ (HSC.out _ hz31) (fun hHeld => ?_)
  clear hK K
  try simp only [Act.put, sl0, sl1, sl2]
  refine take_yes (i := 27) (d := 32) (v := ?v340) rfl rfl (by kernel_rfl) (by kernel_rfl) (by kernel_rfl) (fun _ _ _ h => h) (by rfl) ?y340 (by assumption) ?r340
  case y340 => (intro w hSw; (try dsimp only at hSw); go_simp <;> with_reducible rfl)
  simp only [Act.put, sl0, sl1, sl2]
  refine take_yes (i := 28) (d := 33) (v := ?v341) rfl rfl (by kernel_rfl) (by kernel_rfl) (by kernel_rfl) (fun _ _ _ h => h) (by rfl) ?y341 (by assumption) ?r341
  case y341 => (intro w hSw; (try dsimp only at hSw); go_simp <;> with_reducible rfl)
  simp only [Act.put, sl0, sl1, sl2]
  refine take_yes (i := 29) (d := 34) (v := ?v342) rfl rfl (by kernel_rfl) (by kernel_rfl) (by kernel_rfl) (fun _ _ _ h => h) (by rfl) ?y342 (by assumption) ?r342
  case y342 => (intro w hSw; (try dsimp only at hSw); go_simp <;> with_reducible rfl)
  simp only [Act.put, sl0, sl1, sl2]
  refine take_yes (i := 30) (d := 35) (v := ?v343) rfl rfl (by kernel_rfl) (by kernel_rfl) (by kernel_rfl) (fun _ _ _ h => h) (by rfl) ?y343 (by assumption) ?r343
  case y343 => (intro w hSw; (try dsimp only at hSw); go_simp <;> with_reducible rfl)
  simp only [Act.put, sl0, sl1, sl2]
  refine take_yes (i := 31) (d := 36) (v := ?v344) rfl rfl (by kernel_rfl) (by kernel_rfl) (by kernel_rfl) (fun _ _ _ h => h) (by rfl) ?y344 (by assumption) ?r344
  case y344 => (intro w hSw; (try dsimp only at hSw); go_simp <;> with_reducible rfl)
  simp only [Act.put, sl0, sl1, sl2]
  refine take_yes (i := 32) (d := 37) (v := ?v345) rfl rfl (by kernel_rfl) (by kernel_rfl) (by kernel_rfl) (fun _ _ _ h => h) (by rfl) ?y345 (by assumption) ?r345
  case y345 => (intro w hSw; (try dsimp only at hSw); go_simp <;> with_reducible rfl)
  simp only [Act.put, sl0, sl1, sl2]
  refine take_yes (i := 33) (d := 38) (v := ?v346) rfl rfl (by kernel_rfl) (by kernel_rfl) (by kernel_rfl) (fun _ _ _ h => h) (by rfl) ?y346 (by assumption) ?r346
  case y346 => (intro w hSw; (try dsimp only at hSw); go_simp <;> with_reducible rfl)
  simp only [Act.put, sl0, sl1, sl2]
  refine take_yes (i := 34) (d := 39) (v := ?v347) rfl rfl (by kernel_rfl) (by kernel_rfl) (by kernel_rfl) (fun _ _ _ h => h) (by rfl) ?y347 (by assumption) ?r347
  case y347 => (intro w hSw; (try dsimp only at hSw); go_simp <;> with_reducible rfl)
  simp only [Act.put, sl0, sl1, sl2]
  refine take_yes (i := 35) (d := 40) (v := ?v348) rfl rfl (by kernel_rfl) (by kernel_rfl) (by kernel_rfl) (fun _ _ _ h => h) (by rfl) ?y348 (by assumption) ?r348
  case y348 => (intro w hSw; (try dsimp only at hSw); go_simp <;> with_reducible rfl)
  simp only [Act.put, sl0, sl1, sl2]
  refine wpAnyH_ready (rs := [36]) (by kernel_rfl) (by simp) ?_
  refine AllReadyH.cons rfl (fun K hK => ?_) AllReadyH.nil
  go_simp
  go_at_call 85; refine (KR4.out _ hz31).mono ?_
  rintro e w32 ⟨rfl, hb32⟩
  have hz32 := bl_trans hz31 hb32
  refine hK.out _ _ (HSC.out _ hz32) (fun hHeld => ?_)
  clear hK K
  try simp only [Act.put, sl0, sl1, sl2]
  refine take_yes (i := 37) (d := 42) (v := ?v349) rfl rfl (by kernel_rfl) (by kernel_rfl) (by kernel_rfl) (fun _ _ _ h => h) (by rfl) ?y349 (by assumption) ?r349
  case y349 => (intro w hSw; (try dsimp only at hSw); go_simp <;> with_reducible rfl)
  simp only [Act.put, sl0, sl1, sl2]
  refine take_yes (i := 38) (d := 43) (v := ?v350) rfl rfl (by kernel_rfl) (by kernel_rfl) (by kernel_rfl) (fun _ _ _ h => h) (by rfl) ?y350 (by assumption) ?r350
  case y350 => (intro w hSw; (try dsimp only at hSw); go_simp <;> with_reducible rfl)
  simp only [Act.put, sl0, sl1, sl2]
  refine take_yes (i := 39) (d := 44) (v := ?v351) rfl rfl (by kernel_rfl) (by kernel_rfl) (by kernel_rfl) (fun _ _ _ h => h) (by rfl) ?y351 (by assumption) ?r351
  case y351 => (intro w hSw; (try dsimp only at hSw); go_simp <;> with_reducible rfl)
  simp only [Act.put, sl0, sl1, sl2]
  refine take_yes (i := 40) (d := 45) (v := ?v352) rfl rfl (by kernel_rfl) (by kernel_rfl) (by kernel_rfl) (fun _ _ _ h => h) (by rfl) ?y352 (by assumption) ?r352
  case y352 => (intro w hSw; (try dsimp only at hSw); go_simp <;> with_reducible rfl)
  simp only [Act.put, sl0, sl1, sl2]
  refine take_yes (i := 41) (d := 46) (v := ?v353) rfl rfl (by kernel_rfl) (by kernel_rfl) (by kernel_rfl) (fun _ _ _ h => h) (by rfl) ?y353 (by assumption) ?r353
  case y353 => (intro w hSw; (try dsimp only at hSw); go_simp <;> with_reducible rfl)
  simp only [Act.put, sl0, sl1, sl2]
  refine take_yes (i := 42) (d := 47) (v := ?v354) rfl rfl (by kernel_rfl) (by kernel_rfl) (by kernel_rfl) (fun _ _ _ h => h) (by rfl) ?y354 (by assumption) ?r354
  case y354 => (intro w hSw; (try dsimp only at hSw); go_simp <;> with_reducible rfl)
  simp only [Act.put, sl0, sl1, sl2]
  refine take_yes (i := 43) (d := 48) (v := ?v355) rfl rfl (by kernel_rfl) (by kernel_rfl) (by kernel_rfl) (fun _ _ _ h => h) (by rfl) ?y355 (by assumption) ?r355
  case y355 => (intro w hSw; (try dsimp only at hSw); go_simp <;> with_reducible rfl)
  simp only [Act.put, sl0, sl1, sl2]
  refine take_yes (i := 44) (d := 49) (v := ?v356) rfl rfl (by kernel_rfl) (by kernel_rfl) (by kernel_rfl) (fun _ _ _ h => h) (by rfl) ?y356 (by assumption) ?r356
  case y356 => (intro w hSw; (try dsimp only at hSw); go_simp <;> with_reducible rfl)
  simp only [Act.put, sl0, sl1, sl2]
  refine take_yes (i := 45) (d := 50) (v := ?v357) rfl rfl (by kernel_rfl) (by kernel_rfl) (by kernel_rfl) (fun _ _ _ h => h) (by rfl) ?y357 (by assumption) ?r357
  case y357 => (intro w hSw; (try dsimp only at hSw); go_simp <;> with_reducible rfl)
  simp only [Act.put, sl0, sl1, sl2]
  refine take_yes (i := 46) (d := 51) (v := ?v358) rfl rfl (by kernel_rfl) (by kernel_rfl) (by kernel_rfl) (fun _ _ _ h => h) (by rfl) ?y358 (by assumption) ?r358
  case y358 => (intro w hSw; (try dsimp only at hSw); go_simp <;> with_reducible rfl)
  simp only [Act.put, sl0, sl1, sl2]
  refine wpAnyH_ready (rs := [47]) (by kernel_rfl) (by simp) ?_
  refine AllReadyH.cons rfl (fun K hK => ?_) AllReadyH.nil
  go_simp
  go_at_call 85; refine (KR5.out _ hz32).mono ?_
  rintro e w33 ⟨rfl, hb33⟩
  have hz33 := bl_trans hz32 hb33
  refine hK.out _ _ (HSC.out _ hz33) (fun hHeld => ?_)
  clear hK K
  try simp only [Act.put, sl0, sl1, sl2]
  refine take_yes (i := 48) (d := 53) (v := ?v359) rfl rfl (by kernel_rfl) (by kernel_rfl) (by kernel_rfl) (fun _ _ _ h => h) (by rfl) ?y359 (by assumption) ?r359
  case y359 => (intro w hSw; (try dsimp only at hSw); go_simp <;> with_reducible rfl)
  simp only [Act.put, sl0, sl1, sl2]
  refine take_yes (i := 49) (d := 54) (v := ?v360) rfl rfl (by kernel_rfl) (by kernel_rfl) (by kernel_rfl) (fun _ _ _ h => h) (by rfl) ?y360 (by assumption) ?r360
  case y360 => (intro w hSw; (try dsimp only at hSw); go_simp <;> with_reducible rfl)
  simp only [Act.put, sl0, sl1, sl2]
  refine take_yes (i := 50) (d := 55) (v := ?v361) rfl rfl (by kernel_rfl) (by kernel_rfl) (by kernel_rfl) (fun _ _ _ h => h) (by rfl) ?y361 (by assumption) ?r361
  case y361 => (intro w hSw; (try dsimp only at hSw); go_simp <;> with_reducible rfl)
  simp only [Act.put, sl0, sl1, sl2]
  refine take_yes (i := 51) (d := 56) (v := ?v362) rfl rfl (by kernel_rfl) (by kernel_rfl) (by kernel_rfl) (fun _ _ _ h => h) (by rfl) ?y362 (by assumption) ?r362
  case y362 => (intro w hSw; (try dsimp only at hSw); go_simp <;> with_reducible rfl)
  simp only [Act.put, sl0, sl1, sl2]
  refine take_yes (i := 52) (d := 57) (v := ?v363) rfl rfl (by kernel_rfl) (by kernel_rfl) (by kernel_rfl) (fun _ _ _ h => h) (by rfl) ?y363 (by assumption) ?r363
  case y363 => (intro w hSw; (try dsimp only at hSw); go_simp <;> with_reducible rfl)
  simp only [Act.put, sl0, sl1, sl2]
  refine take_yes (i := 53) (d := 58) (v := ?v364) rfl rfl (by kernel_rfl) (by kernel_rfl) (by kernel_rfl) (fun _ _ _ h => h) (by rfl) ?y364 (by assumption) ?r364
  case y364 => (intro w hSw; (try dsimp only at hSw); go_simp <;> with_reducible rfl)
  simp only [Act.put, sl0, sl1, sl2]
  refine take_yes (i := 54) (d := 59) (v := ?v365) rfl rfl (by kernel_rfl) (by kernel_rfl) (by kernel_rfl) (fun _ _ _ h => h) (by rfl) ?y365 (by assumption) ?r365
  case y365 => (intro w hSw; (try dsimp only at hSw); go_simp <;> with_reducible rfl)
  simp only [Act.put, sl0, sl1, sl2]
  refine take_yes (i := 55) (d := 60) (v := ?v366) rfl rfl (by kernel_rfl) (by kernel_rfl) (by kernel_rfl) (fun _ _ _ h => h) (by rfl) ?y366 (by assumption) ?r366
  case y366 => (intro w hSw; (try dsimp only at hSw); go_simp <;> with_reducible rfl)
  simp only [Act.put, sl0, sl1, sl2]
  refine take_yes (i := 56) (d := 61) (v := ?v367) rfl rfl (by kernel_rfl) (by kernel_rfl) (by kernel_rfl) (fun _ _ _ h => h) (by rfl) ?y367 (by assumption) ?r367
  case y367 => (intro w hSw; (try dsimp only at hSw); go_simp <;> with_reducible rfl)
  simp only [Act.put, sl0, sl1, sl2]
  refine take_yes (i := 57) (d := 62) (v := ?v368) rfl rfl (by kernel_rfl) (by kernel_rfl) (by kernel_rfl) (fun _ _ _ h => h) (by rfl) ?y368 (by assumption) ?r368
  case y368 => (intro w hSw; (try dsimp only at hSw); go_simp <;> with_reducible rfl)
  simp only [Act.put, sl0, sl1, sl2]
  refine wpAnyH_ready (rs := [58]) (by kernel_rfl) (by simp) ?_
  refine AllReadyH.cons rfl (fun K hK => ?_) AllReadyH.nil
  go_simp
  go_at_call 85; refine (KR6.out _ hz33).mono ?_
  rintro e w34 ⟨rfl, hb34⟩
  have hz34 := bl_trans hz33 hb34
  refine hK.out _ _ (HSC.out _ hz34) (fun hHeld => ?_)
  clear hK K
  try simp only [Act.put, sl0, sl1, sl2]
  refine take_yes (i := 59) (d := 64) (v := ?v369) rfl rfl (by kernel_rfl) (by kernel_rfl) (by kernel_rfl) (fun _ _ _ h => h) (by rfl) ?y369 (by assumption) ?r369
  case y369 => (intro w hSw; (try dsimp only at hSw); go_simp <;> with_reducible rfl)
  simp only [Act.put, sl0, sl1, sl2]
  refine take_yes (i := 60) (d := 65) (v := ?v370) rfl rfl (by kernel_rfl) (by kernel_rfl) (by kernel_rfl) (fun _ _ _ h => h) (by rfl) ?y370 (by assumption) ?r370
  case y370 => (intro w hSw; (try dsimp only at hSw); go_simp <;> with_reducible rfl)
  simp only [Act.put, sl0, sl1, sl2]
  refine take_yes (i := 61) (d := 66) (v := ?v371) rfl rfl (by kernel_rfl) (by kernel_rfl) (by kernel_rfl) (fun _ _ _ h => h) (by rfl) ?y371 (by assumption) ?r371
  case y371 => (intro w hSw; (try dsimp only at hSw); go_simp <;> with_reducible rfl)
  simp only [Act.put, sl0, sl1, sl2]
  refine take_yes (i := 62) (d := 67) (v := ?v372) rfl rfl (by kernel_rfl) (by kernel_rfl) (by kernel_rfl) (fun _ _ _ h => h) (by rfl) ?y372 (by assumption) ?r372
  case y372 => (intro w hSw; (try dsimp only at hSw); go_simp <;> with_reducible rfl)
  simp only [Act.put, sl0, sl1, sl2]
  refine take_yes (i := 63) (d := 68) (v := ?v373) rfl rfl (by kernel_rfl) (by kernel_rfl) (by kernel_rfl) (fun _ _ _ h => h) (by rfl) ?y373 (by assumption) ?r373
  case y373 => (intro w hSw; (try dsimp only at hSw); go_simp <;> with_reducible rfl)
  simp only [Act.put, sl0, sl1, sl2]
  refine take_yes (i := 64) (d := 69) (v := ?v374) rfl rfl (by kernel_rfl) (by kernel_rfl) (by kernel_rfl) (fun _ _ _ h => h) (by rfl) ?y374 (by assumption) ?r374
  case y374 => (intro w hSw; (try dsimp only at hSw); go_simp <;> with_reducible rfl)
  simp only [Act.put, sl0, sl1, sl2]
  refine take_yes (i := 65) (d := 70) (v := ?v375) rfl rfl (by kernel_rfl) (by kernel_rfl) (by kernel_rfl) (fun _ _ _ h => h) (by rfl) ?y375 (by assumption) ?r375
  case y375 => (intro w hSw; (try dsimp only at hSw); go_simp <;> with_reducible rfl)
  simp only [Act.put, sl0, sl1, sl2]
  refine take_yes (i := 66) (d := 71) (v := ?v376) rfl rfl (by kernel_rfl) (by kernel_rfl) (by kernel_rfl) (fun _ _ _ h => h) (by rfl) ?y376 (by assumption) ?r376
  case y376 => (intro w hSw; (try dsimp only at hSw); go_simp <;> with_reducible rfl)
  simp only [Act.put, sl0, sl1, sl2]
  refine take_yes (i := 67) (d := 72) (v := ?v377) rfl rfl (by kernel_rfl) (by kernel_rfl) (by kernel_rfl) (fun _ _ _ h => h) (by rfl) ?y377 (by assumption) ?r377
  case y377 => (intro w hSw; (try dsimp only at hSw); go_simp <;> with_reducible rfl)
  simp only [Act.put, sl0, sl1, sl2]
  refine take_yes (i := 68) (d := 73) (v := ?v378) rfl rfl (by kernel_rfl) (by kernel_rfl) (by kernel_rfl) (fun _ _ _ h => h) (by rfl) ?y378 (by assumption) ?r378
  case y378 => (intro w hSw; (try dsimp only at hSw); go_simp <;> with_reducible rfl)
  simp only [Act.put, sl0, sl1, sl2]
  refine wpAnyH_ready (rs := [69]) (by kernel_rfl) (by simp) ?_
  refine AllReadyH.cons rfl (fun K hK => ?_) AllReadyH.nil
  go_simp
  go_at_call 85; refine (KR7.out _ hz34).mono ?_
  rintro e w35 ⟨rfl, hb35⟩
  have hz35 := bl_trans hz34 hb35
  refine hK.out _ _ (HSC.out _ hz35) (fun hHeld => ?_)
  clear hK K
  try simp only [Act.put, sl0, sl1, sl2]
  refine take_yes (i := 70) (d := 75) (v := ?v379) rfl rfl (by kernel_rfl) (by kernel_rfl) (by kernel_rfl) (fun _ _ _ h => h) (by rfl) ?y379 (by assumption) ?r379
  case y379 => (intro w hSw; (try dsimp only at hSw); go_simp <;> with_reducible rfl)
  simp only [Act.put, sl0, sl1, sl2]
  refine take_yes (i := 71) (d := 76) (v := ?v380) rfl rfl (by kernel_rfl) (by kernel_rfl) (by kernel_rfl) (fun _ _ _ h => h) (by rfl) ?y380 (by assumption) ?r380
  case y380 => (intro w hSw; (try dsimp only at hSw); go_simp <;> with_reducible rfl)
  simp only [Act.put, sl0, sl1, sl2]
  refine take_yes (i := 72) (d := 4) (v := ?v381) rfl rfl (by kernel_rfl) (by kernel_rfl) (by kernel_rfl) (fun _ _ _ h => h) (by rfl) ?y381 (by assumption) ?r381
  case y381 => (intro w hSw; (try dsimp only at hSw); go_simp <;> with_reducible rfl)
  simp only [Act.put, sl0, sl1, sl2]
  refine wpAnyH_done (by kernel_rfl) ?_ _
  replace HB := Lib.hid (HB.out.keep hz35)
  clear hb29 hz29 hb30 hz30 hb31 hz31 hb32 hz32 hb33 hz33 hb34 hz34 hb35 hz35 HSC HZ0 HS1 KR1 KR2 KR3 KR4 KR5 KR6 KR7
  go_wp2
  go_ret
  exact ⟨ret_bool hyes.out.symm, HB.out.below⟩
end
end Go.Proofs.YtdpkbfiggbcclaaGreat
