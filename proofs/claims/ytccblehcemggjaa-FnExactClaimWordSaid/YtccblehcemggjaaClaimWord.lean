/-
  The program's ClaimWord returns what the reference's returns, for every kind: the law FnExactClaimWord answers true at every integer.
  No condition.
-/
import Derived.Test.YtccblehcemggjaaBase
import Derived.ProofKit
import Derived.OpenShut
namespace Go.Proofs.Ytccblehcemggjaa.fnExactClaimWord
open Go.ChangeShapes Go.WideShapes Go.ChangeAt Go.RowKit

theorem own : ownKnob Try.prog.godebug = none := by kernel_rfl

theorem ix1 (w : World) : (Instr.index 75 (.agg #[.string { data := #[] }, .string { data := #[109, 101, 109, 98, 101, 114] }, .string { data := #[111, 117, 116, 115, 105, 100, 101] }, .string { data := #[99, 111, 108, 111, 114, 115] }, .string { data := #[99, 111, 118, 101, 114, 115] }, .string { data := #[102, 105, 108, 108] }, .string { data := #[112, 97, 99, 107, 105, 110, 103] }]) (.int .i64 1)).run Try.prog w = .ok (.string { data := #[109, 101, 109, 98, 101, 114] }) w := by kernel_rfl
theorem ix2 (w : World) : (Instr.index 75 (.agg #[.string { data := #[] }, .string { data := #[109, 101, 109, 98, 101, 114] }, .string { data := #[111, 117, 116, 115, 105, 100, 101] }, .string { data := #[99, 111, 108, 111, 114, 115] }, .string { data := #[99, 111, 118, 101, 114, 115] }, .string { data := #[102, 105, 108, 108] }, .string { data := #[112, 97, 99, 107, 105, 110, 103] }]) (.int .i64 2)).run Try.prog w = .ok (.string { data := #[111, 117, 116, 115, 105, 100, 101] }) w := by kernel_rfl
theorem ix3 (w : World) : (Instr.index 75 (.agg #[.string { data := #[] }, .string { data := #[109, 101, 109, 98, 101, 114] }, .string { data := #[111, 117, 116, 115, 105, 100, 101] }, .string { data := #[99, 111, 108, 111, 114, 115] }, .string { data := #[99, 111, 118, 101, 114, 115] }, .string { data := #[102, 105, 108, 108] }, .string { data := #[112, 97, 99, 107, 105, 110, 103] }]) (.int .i64 3)).run Try.prog w = .ok (.string { data := #[99, 111, 108, 111, 114, 115] }) w := by kernel_rfl
theorem ix4 (w : World) : (Instr.index 75 (.agg #[.string { data := #[] }, .string { data := #[109, 101, 109, 98, 101, 114] }, .string { data := #[111, 117, 116, 115, 105, 100, 101] }, .string { data := #[99, 111, 108, 111, 114, 115] }, .string { data := #[99, 111, 118, 101, 114, 115] }, .string { data := #[102, 105, 108, 108] }, .string { data := #[112, 97, 99, 107, 105, 110, 103] }]) (.int .i64 4)).run Try.prog w = .ok (.string { data := #[99, 111, 118, 101, 114, 115] }) w := by kernel_rfl
theorem ix5 (w : World) : (Instr.index 75 (.agg #[.string { data := #[] }, .string { data := #[109, 101, 109, 98, 101, 114] }, .string { data := #[111, 117, 116, 115, 105, 100, 101] }, .string { data := #[99, 111, 108, 111, 114, 115] }, .string { data := #[99, 111, 118, 101, 114, 115] }, .string { data := #[102, 105, 108, 108] }, .string { data := #[112, 97, 99, 107, 105, 110, 103] }]) (.int .i64 5)).run Try.prog w = .ok (.string { data := #[102, 105, 108, 108] }) w := by kernel_rfl
theorem ix6 (w : World) : (Instr.index 75 (.agg #[.string { data := #[] }, .string { data := #[109, 101, 109, 98, 101, 114] }, .string { data := #[111, 117, 116, 115, 105, 100, 101] }, .string { data := #[99, 111, 108, 111, 114, 115] }, .string { data := #[99, 111, 118, 101, 114, 115] }, .string { data := #[102, 105, 108, 108] }, .string { data := #[112, 97, 99, 107, 105, 110, 103] }]) (.int .i64 6)).run Try.prog w = .ok (.string { data := #[112, 97, 99, 107, 105, 110, 103] }) w := by kernel_rfl
set_option maxHeartbeats 1000000 in
set_option maxRecDepth 100000 in
theorem walk1 (w : World) :
    Calls Try.prog 3 #[.int .i64 1] w fun e w' => e = .returned (.bool true) ∧ Grown w w' := by
  have ix := ix1
  go_enter Try.func3, Try.ntmps3
  go_wp2_with (first | (go_at_call 63; refine (l1In_yes _ _ _ _ (by decide) (by decide)).mono ?_; rintro e w' ⟨rfl, rfl⟩) | (go_at_call 64; refine (within_yes _ _ _ _ (by decide) (by decide)).mono ?_; rintro e w' ⟨rfl, rfl⟩) | go_in)
  go_ret
  exact ⟨rfl, by repeat (first | exact Grown.refl _ | apply Grown.drew | apply Grown.alloc)⟩
set_option maxHeartbeats 1000000 in
set_option maxRecDepth 100000 in
theorem walk2 (w : World) :
    Calls Try.prog 3 #[.int .i64 2] w fun e w' => e = .returned (.bool true) ∧ Grown w w' := by
  have ix := ix2
  go_enter Try.func3, Try.ntmps3
  go_wp2_with (first | (go_at_call 63; refine (l1In_yes _ _ _ _ (by decide) (by decide)).mono ?_; rintro e w' ⟨rfl, rfl⟩) | (go_at_call 64; refine (within_yes _ _ _ _ (by decide) (by decide)).mono ?_; rintro e w' ⟨rfl, rfl⟩) | go_in)
  go_ret
  exact ⟨rfl, by repeat (first | exact Grown.refl _ | apply Grown.drew | apply Grown.alloc)⟩
set_option maxHeartbeats 1000000 in
set_option maxRecDepth 100000 in
theorem walk3 (w : World) :
    Calls Try.prog 3 #[.int .i64 3] w fun e w' => e = .returned (.bool true) ∧ Grown w w' := by
  have ix := ix3
  go_enter Try.func3, Try.ntmps3
  go_wp2_with (first | (go_at_call 63; refine (l1In_yes _ _ _ _ (by decide) (by decide)).mono ?_; rintro e w' ⟨rfl, rfl⟩) | (go_at_call 64; refine (within_yes _ _ _ _ (by decide) (by decide)).mono ?_; rintro e w' ⟨rfl, rfl⟩) | go_in)
  go_ret
  exact ⟨rfl, by repeat (first | exact Grown.refl _ | apply Grown.drew | apply Grown.alloc)⟩
set_option maxHeartbeats 1000000 in
set_option maxRecDepth 100000 in
theorem walk4 (w : World) :
    Calls Try.prog 3 #[.int .i64 4] w fun e w' => e = .returned (.bool true) ∧ Grown w w' := by
  have ix := ix4
  go_enter Try.func3, Try.ntmps3
  go_wp2_with (first | (go_at_call 63; refine (l1In_yes _ _ _ _ (by decide) (by decide)).mono ?_; rintro e w' ⟨rfl, rfl⟩) | (go_at_call 64; refine (within_yes _ _ _ _ (by decide) (by decide)).mono ?_; rintro e w' ⟨rfl, rfl⟩) | go_in)
  go_ret
  exact ⟨rfl, by repeat (first | exact Grown.refl _ | apply Grown.drew | apply Grown.alloc)⟩
set_option maxHeartbeats 1000000 in
set_option maxRecDepth 100000 in
theorem walk5 (w : World) :
    Calls Try.prog 3 #[.int .i64 5] w fun e w' => e = .returned (.bool true) ∧ Grown w w' := by
  have ix := ix5
  go_enter Try.func3, Try.ntmps3
  go_wp2_with (first | (go_at_call 63; refine (l1In_yes _ _ _ _ (by decide) (by decide)).mono ?_; rintro e w' ⟨rfl, rfl⟩) | (go_at_call 64; refine (within_yes _ _ _ _ (by decide) (by decide)).mono ?_; rintro e w' ⟨rfl, rfl⟩) | go_in)
  go_ret
  exact ⟨rfl, by repeat (first | exact Grown.refl _ | apply Grown.drew | apply Grown.alloc)⟩
set_option maxHeartbeats 1000000 in
set_option maxRecDepth 100000 in
theorem walk6 (w : World) :
    Calls Try.prog 3 #[.int .i64 6] w fun e w' => e = .returned (.bool true) ∧ Grown w w' := by
  have ix := ix6
  go_enter Try.func3, Try.ntmps3
  go_wp2_with (first | (go_at_call 63; refine (l1In_yes _ _ _ _ (by decide) (by decide)).mono ?_; rintro e w' ⟨rfl, rfl⟩) | (go_at_call 64; refine (within_yes _ _ _ _ (by decide) (by decide)).mono ?_; rintro e w' ⟨rfl, rfl⟩) | go_in)
  go_ret
  exact ⟨rfl, by repeat (first | exact Grown.refl _ | apply Grown.drew | apply Grown.alloc)⟩

set_option maxHeartbeats 1000000 in
theorem walk (a0 : Int) (w : World) :
    Calls Try.prog 3 #[.int .i64 a0] w fun e w' => e = .returned (.bool true) ∧ Grown w w' := by
  by_cases h : 1 ≤ a0 ∧ a0 ≤ 6
  · have hc : a0 = 1 ∨ a0 = 2 ∨ a0 = 3 ∨ a0 = 4 ∨ a0 = 5 ∨ a0 = 6 := by omega
    rcases hc with rfl | rfl | rfl | rfl | rfl | rfl
    · exact walk1 w
    · exact walk2 w
    · exact walk3 w
    · exact walk4 w
    · exact walk5 w
    · exact walk6 w
  · have hn : a0 < 1 ∨ 6 < a0 := by omega
    go_enter Try.func3, Try.ntmps3
    go_wp2_with (first | (go_at_call 63; refine (l1In_no _ _ _ _ hn).mono ?_; rintro e w' ⟨rfl, rfl⟩) | (go_at_call 64; refine (within_no _ _ _ _ hn).mono ?_; rintro e w' ⟨rfl, rfl⟩) | go_in)
    go_ret
    exact ⟨rfl, Grown.refl _⟩

/-! ### THE ROW's STEP: WRITTEN OUT: LEAVE IT -/
set_option maxRecDepth 100000 in
theorem lifted (os : Os) (started : os.Started) (H : Type) (enc : TypeId × Value → H) :
    ReturnsInHanded {} Try.checked os 3 .any (Rows.fnExactClaimWordSpec.pre6 enc Try.prog Try.f3 Rows.fnExactClaimWordRow.domain false) (Rows.fnExactClaimWordSpec.post enc Try.prog Try.f3 false true false false) := by
  refine returnsInHanded_of_change (C := Try.checked) own started (by kernel_rfl) Try.func3
    (ChangeSpec.witness6 (enc := enc) (C := Try.checked) false ⟨#[], #[.int .i64 0], []⟩ 8 (by kernel_rfl) (by kernel_rfl) (by kernel_rfl) (by kernel_rfl)) ?_
  intro W base args ds gs before hval0 hW hcnd _
  have hval : ∀ (j : Nat) t v, Try.f3.params[j]? = some t → args[j]? = some v → Value.okWide Try.prog W .any base t v := hval0
  have hW' := hW
  obtain ⟨p, q, hA0, hV, rfl, hfz, hnd⟩ := hW
  have hA : DataW.TrodAll enc Try.prog W 0 (fun _ => true) true Try.f3.params.toList args.toList ds p := hA0
  rw [Try.params3] at hA hval
  obtain ⟨v0, vs0, d0, ds0, p0, q0, hargs, rfl, rfl, h0, r0⟩ := trodAll_cons hA
  obtain ⟨rfl, rfl, rfl⟩ := trodAll_nil r0
  obtain rfl : args = #[v0] := by cases args; simp_all
  obtain ⟨rfl, rfl⟩ := trodVars_none hV
  obtain ⟨a0, rfl, rfl, rfl, w0⟩ := open_int Try.underlying3 (hval 0 3 v0 rfl rfl) h0
  clear hA0 hval0
  simp only [List.append_nil] at hW'
  refine (walk a0 W).mono fun e W' ⟨he, hg⟩ => ?_
  subst he
  exact ⟨_, rfl, post_of_same (pa := []) (pv := []) hW' (fun _ _ _ => (trodAll_cons_mk (shut_bool Try.underlying4 _) trodAll_mk0)) (fun sp _ => (trodAll_cons_mk (shut_int Try.underlying3 w0) trodAll_mk0)) (fun _ _ => rfl) rfl
    (hg.frame _) hg.2.1 (ok_one (by kernel_rfl) rfl (okWide_bool_mk Try.underlying4 _))⟩

theorem over : Rows.fnExactClaimWordRow.holds Try.pinned (OpenSpec.ofChange Rows.fnExactClaimWordSpec) :=
  OpenClaim.holds_of_wide 3 Try.f3 rfl rfl rfl rfl rfl rfl rfl ⟨rfl, rfl, rfl, rfl, rfl⟩ rfl rfl rfl rfl rfl (by kernel_rfl) Try.func3 (by kernel_rfl)
    (of_decide_eq_true (by kernel_rfl)) (by unfold Func.isWrapper; first | (rw [if_pos (by decide +kernel)]; kernel_rfl) | (rw [if_neg (by decide +kernel)]; exact ⟨rfl, rfl⟩))
    (fun os started H enc _ => lifted os started H enc)

/-- ████ THE STATEMENT ████ -/
theorem proved : Rows.FnExactClaimWordSaid :=
  over
#print axioms proved
end Go.Proofs.Ytccblehcemggjaa.fnExactClaimWord
