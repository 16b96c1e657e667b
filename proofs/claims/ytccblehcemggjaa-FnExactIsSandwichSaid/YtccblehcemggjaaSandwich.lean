/-
  Contracts: is a graph between two others? Both programs.
-/
import Derived.Test.YtccblehcemggjaaWithin
namespace Go.Proofs.Ytccblehcemggjaa
open Go.RowKit

set_option maxHeartbeats 1000000 in
theorem IsSandwich_any (s1 s2 s3 : Int) (A1 A2 A3 : Option Addr) (m1 m2 m3 c1 c2 c3 : Nat) (x1 x2 x3 : Nat → Int) (w : World) (B : Nat) (h1 : Rd w B A1 m1 c1 x1) (h2 : Rd w B A2 m2 c2 x2) (h3 : Rd w B A3 m3 c3 x3) (hB : B ≤ w.heap.size) (hm1 : m1 ≤ 1048576) (hm2 : m2 ≤ 1048576) (hm3 : m3 ≤ 1048576) :
    Calls Try.prog 32 #[.agg #[.int .i64 s1, .slice A1 m1 c1], .agg #[.int .i64 s2, .slice A2 m2 c2], .agg #[.int .i64 s3, .slice A3 m3 c3]] w fun e w' => e = .returned (.bool (wiB s1 m1 x1 s3 m3 x3 && wiB s3 m3 x3 s2 m2 x2)) ∧ Below w.heap.size w w' := by
  obtain ⟨W, hW⟩ : ∃ W : World, W = (((w.alloc (Obj.cells #[Value.int IntKind.i64 s1, Value.slice A1 m1 c1] 42)).alloc (Obj.cells #[Value.int IntKind.i64 s2, Value.slice A2 m2 c2] 42)).alloc (Obj.cells #[Value.int IntKind.i64 s3, Value.slice A3 m3 c3] 42)) := ⟨_, rfl⟩
  have HB : Hid (Below w.heap.size w W) := by rw [hW]; exact (((Below.refl _ _).alloc (Nat.le_refl _) _).alloc (by simp) _).alloc (by simp; omega) _
  have hsz : w.heap.size + 1 + 1 < W.heap.size := by rw [hW]; simp
  have e2 : W.cell? ⟨w.heap.size + 1, 0, none⟩ = some (.int .i64 s2) := by rw [hW]; simp [go_sem]
  have e3 : W.cell? ⟨w.heap.size + 1, 1, none⟩ = some (.slice A2 m2 c2) := by rw [hW]; simp [go_sem]
  have e4 : W.cell? ⟨w.heap.size + 1 + 1, 0, none⟩ = some (.int .i64 s3) := by rw [hW]; simp [go_sem]
  have e5 : W.cell? ⟨w.heap.size + 1 + 1, 1, none⟩ = some (.slice A3 m3 c3) := by rw [hW]; simp [go_sem]
  have k1 := h1.keep (HB.out.mono hB) (Nat.le_refl _)
  have k2 := h2.keep (HB.out.mono hB) (Nat.le_refl _)
  have k3 := h3.keep (HB.out.mono hB) (Nat.le_refl _)
  have HW := Lib.hid hW
  clear hW h1 h2 h3
  go_enter Try.func32, Try.ntmps32
  go_wp2_with fail
  rw [← HW.out]
  refine (isWithin_any s1 s3 A1 A3 m1 m3 c1 c3 x1 x3 W B k1 k3 (by omega) hm1 hm3).mono ?_
  rintro e w1 ⟨rfl, hb1⟩
  have f2 := up hb1 e2 (by omega)
  have f3 := up hb1 e3 (by omega)
  have f4 := up hb1 e4 (by omega)
  have f5 := up hb1 e5 (by omega)
  have z1 := hb1.size
  have k2' := k2.keep (hb1.mono (by omega)) (Nat.le_refl _)
  have k3' := k3.keep (hb1.mono (by omega)) (Nat.le_refl _)
  have HB1 := Lib.hid (HB.out.trans (hb1.mono (by omega)))
  clear HW HB e2 e3 e4 e5 k1 k2 k3 hb1
  cases ho1 : wiB s1 m1 x1 s3 m3 x3
  · have Ho1 := Lib.hid ho1
    clear ho1
    go_wp2
    go_ret
    exact ⟨ret_bool (by rw [Ho1.out]; rfl), HB1.out⟩
  · have Ho1 := Lib.hid ho1
    clear ho1
    go_wp2_with fail
    refine (isWithin_any s3 s2 A3 A2 m3 m2 c3 c2 x3 x2 w1 B k3' k2' (by omega) hm3 hm2).mono ?_
    rintro e w2 ⟨rfl, hb2⟩
    have HB2 := Lib.hid (HB1.out.trans (hb2.mono (by omega)))
    clear HB1 f2 f3 f4 f5 k2' k3' hb2
    go_wp2
    go_ret
    exact ⟨ret_bool (by rw [Ho1.out, Bool.true_and]), HB2.out⟩

set_option maxHeartbeats 1000000 in
theorem IsSandwich_sany (s1 s2 s3 : Int) (A1 A2 A3 : Option Addr) (m1 m2 m3 c1 c2 c3 : Nat) (x1 x2 x3 : Nat → Int) (w : World) (B : Nat) (h1 : Rd w B A1 m1 c1 x1) (h2 : Rd w B A2 m2 c2 x2) (h3 : Rd w B A3 m3 c3 x3) (hB : B ≤ w.heap.size) (hm1 : m1 ≤ 1048576) (hm2 : m2 ≤ 1048576) (hm3 : m3 ≤ 1048576) :
    Calls Try.prog 30 #[.agg #[.int .i64 s1, .slice A1 m1 c1], .agg #[.int .i64 s2, .slice A2 m2 c2], .agg #[.int .i64 s3, .slice A3 m3 c3]] w fun e w' => e = .returned (.bool (wiB s1 m1 x1 s3 m3 x3 && wiB s3 m3 x3 s2 m2 x2)) ∧ Below w.heap.size w w' := by
  obtain ⟨W, hW⟩ : ∃ W : World, W = (((w.alloc (Obj.cells #[Value.int IntKind.i64 s1, Value.slice A1 m1 c1] 42)).alloc (Obj.cells #[Value.int IntKind.i64 s2, Value.slice A2 m2 c2] 42)).alloc (Obj.cells #[Value.int IntKind.i64 s3, Value.slice A3 m3 c3] 42)) := ⟨_, rfl⟩
  have HB : Hid (Below w.heap.size w W) := by rw [hW]; exact (((Below.refl _ _).alloc (Nat.le_refl _) _).alloc (by simp) _).alloc (by simp; omega) _
  have hsz : w.heap.size + 1 + 1 < W.heap.size := by rw [hW]; simp
  have e2 : W.cell? ⟨w.heap.size + 1, 0, none⟩ = some (.int .i64 s2) := by rw [hW]; simp [go_sem]
  have e3 : W.cell? ⟨w.heap.size + 1, 1, none⟩ = some (.slice A2 m2 c2) := by rw [hW]; simp [go_sem]
  have e4 : W.cell? ⟨w.heap.size + 1 + 1, 0, none⟩ = some (.int .i64 s3) := by rw [hW]; simp [go_sem]
  have e5 : W.cell? ⟨w.heap.size + 1 + 1, 1, none⟩ = some (.slice A3 m3 c3) := by rw [hW]; simp [go_sem]
  have k1 := h1.keep (HB.out.mono hB) (Nat.le_refl _)
  have k2 := h2.keep (HB.out.mono hB) (Nat.le_refl _)
  have k3 := h3.keep (HB.out.mono hB) (Nat.le_refl _)
  have HW := Lib.hid hW
  clear hW h1 h2 h3
  go_enter Try.func30, Try.ntmps30
  go_wp2_with fail
  rw [← HW.out]
  refine (l31Within_any s1 s3 A1 A3 m1 m3 c1 c3 x1 x3 W B k1 k3 (by omega) hm1 hm3).mono ?_
  rintro e w1 ⟨rfl, hb1⟩
  have f2 := up hb1 e2 (by omega)
  have f3 := up hb1 e3 (by omega)
  have f4 := up hb1 e4 (by omega)
  have f5 := up hb1 e5 (by omega)
  have z1 := hb1.size
  have k2' := k2.keep (hb1.mono (by omega)) (Nat.le_refl _)
  have k3' := k3.keep (hb1.mono (by omega)) (Nat.le_refl _)
  have HB1 := Lib.hid (HB.out.trans (hb1.mono (by omega)))
  clear HW HB e2 e3 e4 e5 k1 k2 k3 hb1
  cases ho1 : wiB s1 m1 x1 s3 m3 x3
  · have Ho1 := Lib.hid ho1
    clear ho1
    go_wp2
    go_ret
    exact ⟨ret_bool (by rw [Ho1.out]; rfl), HB1.out⟩
  · have Ho1 := Lib.hid ho1
    clear ho1
    go_wp2_with fail
    refine (l31Within_any s3 s2 A3 A2 m3 m2 c3 c2 x3 x2 w1 B k3' k2' (by omega) hm3 hm2).mono ?_
    rintro e w2 ⟨rfl, hb2⟩
    have HB2 := Lib.hid (HB1.out.trans (hb2.mono (by omega)))
    clear HB1 f2 f3 f4 f5 k2' k3' hb2
    go_wp2
    go_ret
    exact ⟨ret_bool (by rw [Ho1.out, Bool.true_and]), HB2.out⟩
end Go.Proofs.Ytccblehcemggjaa
