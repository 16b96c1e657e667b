/-
  Contracts: ClaimWord of both programs.
-/
import Derived.Test.YtncjfgebolikoaaDoorQwShlI
namespace Go.Proofs.YtncjfgebolikoaaDoor
open Go.RowKit

def cwL : List ByteArray := [⟨#[]⟩, ⟨#[109, 101, 109, 98, 101, 114]⟩, ⟨#[111, 117, 116, 115, 105, 100, 101]⟩, ⟨#[99, 111, 108, 111, 114, 115]⟩, ⟨#[99, 111, 118, 101, 114, 115]⟩, ⟨#[102, 105, 108, 108]⟩, ⟨#[112, 97, 99, 107, 105, 110, 103]⟩]
def cwB (K : Int) : ByteArray := if 1 ≤ K ∧ K ≤ 6 then cwL.getD K.toNat ⟨#[]⟩ else ⟨#[]⟩
theorem cwB_no {K : Int} (h : ¬ (1 ≤ K ∧ K ≤ 6)) : cwB K = ⟨#[]⟩ := if_neg h
theorem cwB_size {K : Int} (h : 1 ≤ K ∧ K ≤ 6) : 4 ≤ (cwB K).size ∧ (cwB K).size ≤ 7 := by
  have hc : K = 1 ∨ K = 2 ∨ K = 3 ∨ K = 4 ∨ K = 5 ∨ K = 6 := by omega
  rcases hc with rfl | rfl | rfl | rfl | rfl | rfl <;> decide
theorem cwx1 (w : World) : (Instr.index 86 (.agg #[.string { data := #[] }, .string { data := #[109, 101, 109, 98, 101, 114] }, .string { data := #[111, 117, 116, 115, 105, 100, 101] }, .string { data := #[99, 111, 108, 111, 114, 115] }, .string { data := #[99, 111, 118, 101, 114, 115] }, .string { data := #[102, 105, 108, 108] }, .string { data := #[112, 97, 99, 107, 105, 110, 103] }]) (.int .i64 1)).run Tryd.prog w = .ok (.string { data := #[109, 101, 109, 98, 101, 114] }) w := by kernel_rfl
set_option maxRecDepth 100000 in
set_option maxHeartbeats 1000000 in
theorem ClaimWord_i1 (w : World) : Calls Tryd.prog 40 #[.int .i64 1] w fun e w' => e = .returned (.string (cwB 1)) ∧ Below w.heap.size w w' := by
  have ix := cwx1
  go_enter Tryd.func40, Tryd.ntmps40
  go_wp2_with (first | (go_at_call 25; refine (within_yes _ _ _ _ (by decide) (by decide)).mono ?_; rintro e w' ⟨rfl, rfl⟩) | go_in)
  go_ret
  exact ⟨rfl, by repeat (first | exact Below.refl _ _ | apply Below.drew)⟩
set_option maxRecDepth 100000 in
set_option maxHeartbeats 1000000 in
theorem ClaimWord_s1 (w : World) : Calls Tryd.prog 33 #[.int .i64 1] w fun e w' => e = .returned (.string (cwB 1)) ∧ Below w.heap.size w w' := by
  go_enter Tryd.func33, Tryd.ntmps33
  go_wp2_with (first | (go_at_call 20; refine (l1In_yes _ _ _ _ (by decide) (by decide)).mono ?_; rintro e w' ⟨rfl, rfl⟩) | go_in)
  go_ret
  exact ⟨rfl, by first | exact (Below.refl _ _).alloc (Nat.le_refl _) _ | exact ((Below.refl _ _).alloc (Nat.le_refl _) _).drew | exact ((Below.refl _ _).drew.alloc (Nat.le_refl _) _)⟩
theorem cwx2 (w : World) : (Instr.index 86 (.agg #[.string { data := #[] }, .string { data := #[109, 101, 109, 98, 101, 114] }, .string { data := #[111, 117, 116, 115, 105, 100, 101] }, .string { data := #[99, 111, 108, 111, 114, 115] }, .string { data := #[99, 111, 118, 101, 114, 115] }, .string { data := #[102, 105, 108, 108] }, .string { data := #[112, 97, 99, 107, 105, 110, 103] }]) (.int .i64 2)).run Tryd.prog w = .ok (.string { data := #[111, 117, 116, 115, 105, 100, 101] }) w := by kernel_rfl
set_option maxRecDepth 100000 in
set_option maxHeartbeats 1000000 in
theorem ClaimWord_i2 (w : World) : Calls Tryd.prog 40 #[.int .i64 2] w fun e w' => e = .returned (.string (cwB 2)) ∧ Below w.heap.size w w' := by
  have ix := cwx2
  go_enter Tryd.func40, Tryd.ntmps40
  go_wp2_with (first | (go_at_call 25; refine (within_yes _ _ _ _ (by decide) (by decide)).mono ?_; rintro e w' ⟨rfl, rfl⟩) | go_in)
  go_ret
  exact ⟨rfl, by repeat (first | exact Below.refl _ _ | apply Below.drew)⟩
set_option maxRecDepth 100000 in
set_option maxHeartbeats 1000000 in
theorem ClaimWord_s2 (w : World) : Calls Tryd.prog 33 #[.int .i64 2] w fun e w' => e = .returned (.string (cwB 2)) ∧ Below w.heap.size w w' := by
  go_enter Tryd.func33, Tryd.ntmps33
  go_wp2_with (first | (go_at_call 20; refine (l1In_yes _ _ _ _ (by decide) (by decide)).mono ?_; rintro e w' ⟨rfl, rfl⟩) | go_in)
  go_ret
  exact ⟨rfl, by first | exact (Below.refl _ _).alloc (Nat.le_refl _) _ | exact ((Below.refl _ _).alloc (Nat.le_refl _) _).drew | exact ((Below.refl _ _).drew.alloc (Nat.le_refl _) _)⟩
theorem cwx3 (w : World) : (Instr.index 86 (.agg #[.string { data := #[] }, .string { data := #[109, 101, 109, 98, 101, 114] }, .string { data := #[111, 117, 116, 115, 105, 100, 101] }, .string { data := #[99, 111, 108, 111, 114, 115] }, .string { data := #[99, 111, 118, 101, 114, 115] }, .string { data := #[102, 105, 108, 108] }, .string { data := #[112, 97, 99, 107, 105, 110, 103] }]) (.int .i64 3)).run Tryd.prog w = .ok (.string { data := #[99, 111, 108, 111, 114, 115] }) w := by kernel_rfl
set_option maxRecDepth 100000 in
set_option maxHeartbeats 1000000 in
theorem ClaimWord_i3 (w : World) : Calls Tryd.prog 40 #[.int .i64 3] w fun e w' => e = .returned (.string (cwB 3)) ∧ Below w.heap.size w w' := by
  have ix := cwx3
  go_enter Tryd.func40, Tryd.ntmps40
  go_wp2_with (first | (go_at_call 25; refine (within_yes _ _ _ _ (by decide) (by decide)).mono ?_; rintro e w' ⟨rfl, rfl⟩) | go_in)
  go_ret
  exact ⟨rfl, by repeat (first | exact Below.refl _ _ | apply Below.drew)⟩
set_option maxRecDepth 100000 in
set_option maxHeartbeats 1000000 in
theorem ClaimWord_s3 (w : World) : Calls Tryd.prog 33 #[.int .i64 3] w fun e w' => e = .returned (.string (cwB 3)) ∧ Below w.heap.size w w' := by
  go_enter Tryd.func33, Tryd.ntmps33
  go_wp2_with (first | (go_at_call 20; refine (l1In_yes _ _ _ _ (by decide) (by decide)).mono ?_; rintro e w' ⟨rfl, rfl⟩) | go_in)
  go_ret
  exact ⟨rfl, by first | exact (Below.refl _ _).alloc (Nat.le_refl _) _ | exact ((Below.refl _ _).alloc (Nat.le_refl _) _).drew | exact ((Below.refl _ _).drew.alloc (Nat.le_refl _) _)⟩
theorem cwx4 (w : World) : (Instr.index 86 (.agg #[.string { data := #[] }, .string { data := #[109, 101, 109, 98, 101, 114] }, .string { data := #[111, 117, 116, 115, 105, 100, 101] }, .string { data := #[99, 111, 108, 111, 114, 115] }, .string { data := #[99, 111, 118, 101, 114, 115] }, .string { data := #[102, 105, 108, 108] }, .string { data := #[112, 97, 99, 107, 105, 110, 103] }]) (.int .i64 4)).run Tryd.prog w = .ok (.string { data := #[99, 111, 118, 101, 114, 115] }) w := by kernel_rfl
set_option maxRecDepth 100000 in
set_option maxHeartbeats 1000000 in
theorem ClaimWord_i4 (w : World) : Calls Tryd.prog 40 #[.int .i64 4] w fun e w' => e = .returned (.string (cwB 4)) ∧ Below w.heap.size w w' := by
  have ix := cwx4
  go_enter Tryd.func40, Tryd.ntmps40
  go_wp2_with (first | (go_at_call 25; refine (within_yes _ _ _ _ (by decide) (by decide)).mono ?_; rintro e w' ⟨rfl, rfl⟩) | go_in)
  go_ret
  exact ⟨rfl, by repeat (first | exact Below.refl _ _ | apply Below.drew)⟩
set_option maxRecDepth 100000 in
set_option maxHeartbeats 1000000 in
theorem ClaimWord_s4 (w : World) : Calls Tryd.prog 33 #[.int .i64 4] w fun e w' => e = .returned (.string (cwB 4)) ∧ Below w.heap.size w w' := by
  go_enter Tryd.func33, Tryd.ntmps33
  go_wp2_with (first | (go_at_call 20; refine (l1In_yes _ _ _ _ (by decide) (by decide)).mono ?_; rintro e w' ⟨rfl, rfl⟩) | go_in)
  go_ret
  exact ⟨rfl, by first | exact (Below.refl _ _).alloc (Nat.le_refl _) _ | exact ((Below.refl _ _).alloc (Nat.le_refl _) _).drew | exact ((Below.refl _ _).drew.alloc (Nat.le_refl _) _)⟩
theorem cwx5 (w : World) : (Instr.index 86 (.agg #[.string { data := #[] }, .string { data := #[109, 101, 109, 98, 101, 114] }, .string { data := #[111, 117, 116, 115, 105, 100, 101] }, .string { data := #[99, 111, 108, 111, 114, 115] }, .string { data := #[99, 111, 118, 101, 114, 115] }, .string { data := #[102, 105, 108, 108] }, .string { data := #[112, 97, 99, 107, 105, 110, 103] }]) (.int .i64 5)).run Tryd.prog w = .ok (.string { data := #[102, 105, 108, 108] }) w := by kernel_rfl
set_option maxRecDepth 100000 in
set_option maxHeartbeats 1000000 in
theorem ClaimWord_i5 (w : World) : Calls Tryd.prog 40 #[.int .i64 5] w fun e w' => e = .returned (.string (cwB 5)) ∧ Below w.heap.size w w' := by
  have ix := cwx5
  go_enter Tryd.func40, Tryd.ntmps40
  go_wp2_with (first | (go_at_call 25; refine (within_yes _ _ _ _ (by decide) (by decide)).mono ?_; rintro e w' ⟨rfl, rfl⟩) | go_in)
  go_ret
  exact ⟨rfl, by repeat (first | exact Below.refl _ _ | apply Below.drew)⟩
set_option maxRecDepth 100000 in
set_option maxHeartbeats 1000000 in
theorem ClaimWord_s5 (w : World) : Calls Tryd.prog 33 #[.int .i64 5] w fun e w' => e = .returned (.string (cwB 5)) ∧ Below w.heap.size w w' := by
  go_enter Tryd.func33, Tryd.ntmps33
  go_wp2_with (first | (go_at_call 20; refine (l1In_yes _ _ _ _ (by decide) (by decide)).mono ?_; rintro e w' ⟨rfl, rfl⟩) | go_in)
  go_ret
  exact ⟨rfl, by first | exact (Below.refl _ _).alloc (Nat.le_refl _) _ | exact ((Below.refl _ _).alloc (Nat.le_refl _) _).drew | exact ((Below.refl _ _).drew.alloc (Nat.le_refl _) _)⟩
theorem cwx6 (w : World) : (Instr.index 86 (.agg #[.string { data := #[] }, .string { data := #[109, 101, 109, 98, 101, 114] }, .string { data := #[111, 117, 116, 115, 105, 100, 101] }, .string { data := #[99, 111, 108, 111, 114, 115] }, .string { data := #[99, 111, 118, 101, 114, 115] }, .string { data := #[102, 105, 108, 108] }, .string { data := #[112, 97, 99, 107, 105, 110, 103] }]) (.int .i64 6)).run Tryd.prog w = .ok (.string { data := #[112, 97, 99, 107, 105, 110, 103] }) w := by kernel_rfl
set_option maxRecDepth 100000 in
set_option maxHeartbeats 1000000 in
theorem ClaimWord_i6 (w : World) : Calls Tryd.prog 40 #[.int .i64 6] w fun e w' => e = .returned (.string (cwB 6)) ∧ Below w.heap.size w w' := by
  have ix := cwx6
  go_enter Tryd.func40, Tryd.ntmps40
  go_wp2_with (first | (go_at_call 25; refine (within_yes _ _ _ _ (by decide) (by decide)).mono ?_; rintro e w' ⟨rfl, rfl⟩) | go_in)
  go_ret
  exact ⟨rfl, by repeat (first | exact Below.refl _ _ | apply Below.drew)⟩
set_option maxRecDepth 100000 in
set_option maxHeartbeats 1000000 in
theorem ClaimWord_s6 (w : World) : Calls Tryd.prog 33 #[.int .i64 6] w fun e w' => e = .returned (.string (cwB 6)) ∧ Below w.heap.size w w' := by
  go_enter Tryd.func33, Tryd.ntmps33
  go_wp2_with (first | (go_at_call 20; refine (l1In_yes _ _ _ _ (by decide) (by decide)).mono ?_; rintro e w' ⟨rfl, rfl⟩) | go_in)
  go_ret
  exact ⟨rfl, by first | exact (Below.refl _ _).alloc (Nat.le_refl _) _ | exact ((Below.refl _ _).alloc (Nat.le_refl _) _).drew | exact ((Below.refl _ _).drew.alloc (Nat.le_refl _) _)⟩
theorem ClaimWord_iy (K : Int) (h : 1 ≤ K ∧ K ≤ 6) (w : World) : Calls Tryd.prog 40 #[.int .i64 K] w fun e w' => e = .returned (.string (cwB K)) ∧ Below w.heap.size w w' := by
  have hc : K = 1 ∨ K = 2 ∨ K = 3 ∨ K = 4 ∨ K = 5 ∨ K = 6 := by omega
  rcases hc with rfl | rfl | rfl | rfl | rfl | rfl
  · exact ClaimWord_i1 w
  · exact ClaimWord_i2 w
  · exact ClaimWord_i3 w
  · exact ClaimWord_i4 w
  · exact ClaimWord_i5 w
  · exact ClaimWord_i6 w
theorem ClaimWord_sy (K : Int) (h : 1 ≤ K ∧ K ≤ 6) (w : World) : Calls Tryd.prog 33 #[.int .i64 K] w fun e w' => e = .returned (.string (cwB K)) ∧ Below w.heap.size w w' := by
  have hc : K = 1 ∨ K = 2 ∨ K = 3 ∨ K = 4 ∨ K = 5 ∨ K = 6 := by omega
  rcases hc with rfl | rfl | rfl | rfl | rfl | rfl
  · exact ClaimWord_s1 w
  · exact ClaimWord_s2 w
  · exact ClaimWord_s3 w
  · exact ClaimWord_s4 w
  · exact ClaimWord_s5 w
  · exact ClaimWord_s6 w
theorem ClaimWord_sv (K : Int) (w : World) : Calls Tryd.prog 33 #[.int .i64 K] w fun e w' => e = .returned (.string (cwB K)) ∧ Below w.heap.size w w' := by
  by_cases h : 1 ≤ K ∧ K ≤ 6
  · exact ClaimWord_sy K h w
  · have HO := Lib.hid (cwB_no h)
    have HN := Lib.hid h
    clear h
    go_enter Tryd.func33, Tryd.ntmps33
    go_wp2_with (first | (go_at_call 20; refine (l1In_no _ _ _ _ (by have := HN.out; omega)).mono ?_; rintro e w' ⟨rfl, rfl⟩))
    go_ret
    exact ⟨by rw [HO.out]; rfl, Below.refl _ _⟩
end Go.Proofs.YtncjfgebolikoaaDoor
