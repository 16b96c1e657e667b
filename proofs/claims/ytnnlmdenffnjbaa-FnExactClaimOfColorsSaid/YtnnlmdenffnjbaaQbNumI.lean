/-
  Contracts: the largest clique, the largest independent set, the fewest colors: the program's.
-/
import Derived.Test.YtnnlmdenffnjbaaQbColI
import Derived.Test.YtnnlmdenffnjbaaQbSet2I
namespace Go.Proofs.Ytnnlmdenffnjbaa
open Go.RowKit

section
variable {A : Option Addr} {m c : Nat} {r : Nat → Nat}
set_option maxHeartbeats 1000000 in
theorem LargestClique_v {w : World} (h : GV w A m c r) :
    Calls Try.prog 102 #[.agg #[.int .i64 m, .slice A m c]] w fun e w' => e = .returned (.int .i64 (lqN r m : Nat)) ∧ Below w.heap.size w w' := by
  obtain ⟨W, hW⟩ : ∃ W : World, W = (w.alloc (Obj.cells #[Value.int IntKind.i64 m, Value.slice A m c] 28)) := ⟨_, rfl⟩
  have HB : Hid (From w W) := by rw [hW]; exact From.alloc _ _
  have HG : Hid (GBox W w.heap.size A m c r) := by rw [hW]; exact h.box
  have HW := Lib.hid hW
  clear hW h
  have e0 := HG.out.c0
  have e1 := HG.out.c1
  go_enter Try.func102, Try.ntmps102
  go_wp2_with fail
  rw [← HW.out]
  refine (largest_g (p := cliq r) (caps := #[]) (ent_of Try.func176 (by kernel_rfl) rfl) W HG.out.gv (fun s z hs hb => IsClique_v (HG.out.gv.keep hb) hs)).mono ?_
  rintro e w1 ⟨rfl, hb1⟩
  clear HW
  clear e0 e1
  replace HB := Lib.hid (HB.out.keep hb1)
  replace HG := Lib.hid (HG.out.keep hb1)
  clear hb1
  have e0 := HG.out.c0
  have e1 := HG.out.c1
  go_wp2
  go_ret
  exact ⟨rfl, HB.out.below⟩
set_option maxHeartbeats 1000000 in
theorem LargestIndependent_v {w : World} (h : GV w A m c r) :
    Calls Try.prog 104 #[.agg #[.int .i64 m, .slice A m c]] w fun e w' => e = .returned (.int .i64 (liN r m : Nat)) ∧ Below w.heap.size w w' := by
  obtain ⟨W, hW⟩ : ∃ W : World, W = (w.alloc (Obj.cells #[Value.int IntKind.i64 m, Value.slice A m c] 28)) := ⟨_, rfl⟩
  have HB : Hid (From w W) := by rw [hW]; exact From.alloc _ _
  have HG : Hid (GBox W w.heap.size A m c r) := by rw [hW]; exact h.box
  have HW := Lib.hid hW
  clear hW h
  have e0 := HG.out.c0
  have e1 := HG.out.c1
  go_enter Try.func104, Try.ntmps104
  go_wp2_with fail
  rw [← HW.out]
  refine (largest_g (p := indB r) (caps := #[]) (ent_of Try.func124 (by kernel_rfl) rfl) W HG.out.gv (fun s z hs hb => IsIndependent_v (HG.out.gv.keep hb) hs)).mono ?_
  rintro e w1 ⟨rfl, hb1⟩
  clear HW
  clear e0 e1
  replace HB := Lib.hid (HB.out.keep hb1)
  replace HG := Lib.hid (HG.out.keep hb1)
  clear hb1
  have e0 := HG.out.c0
  have e1 := HG.out.c1
  go_wp2
  go_ret
  exact ⟨rfl, HB.out.below⟩
set_option maxRecDepth 100000 in
set_option maxHeartbeats 1600000 in
theorem ChromaticNumber_v {w : World} (h : GV w A m c r) :
    Calls Try.prog 101 #[.agg #[.int .i64 m, .slice A m c]] w fun e w' => e = .returned (.int .i64 (chN r m : Nat)) ∧ Below w.heap.size w w' := by
  have hn7 := h.vg.n7
  have hn1 := h.vg.n1
  obtain ⟨hcm, hsome, hmin⟩ := chN_spec (r := r) hn1
  have hpos := chN_pos (r := r) (m := m)
  have HS := Lib.hid hsome
  have HM := Lib.hid hmin
  obtain ⟨K, hK⟩ : ∃ K, K = chN r m := ⟨_, rfl⟩
  rw [← hK] at hcm HS HM hpos ⊢
  clear hsome hmin hK
  obtain ⟨W, hW⟩ : ∃ W : World, W = (w.alloc (Obj.cells #[Value.int IntKind.i64 m, Value.slice A m c] 28)) := ⟨_, rfl⟩
  have HB : Hid (From w W) := by rw [hW]; exact From.alloc _ _
  have HG : Hid (GBox W w.heap.size A m c r) := by rw [hW]; exact h.box
  have HW := Lib.hid hW
  clear hW h
  have e0 := HG.out.c0
  have e1 := HG.out.c1
  have HR0 : Hid (From W W) := From.refl W
  go_enter Try.func101, Try.ntmps101
  go_wp2_with fail
  rw [← HW.out]
  go_wp2
  go_loopw [3] (fun i wr => ∃ k : Nat, 1 ≤ k ∧ k ≤ K ∧ i = .int .i64 k ∧ Hid (From W wr)) (fun i _ => K - (intOf i).toNat)
  case atStart => exact ⟨1, Nat.le_refl _, hpos, rfl, HR0⟩
  case round =>
    clear HR0
    obtain ⟨k, hk1, hk, rfl, HR⟩ := hrel
    clear e0 e1
    replace HB := Lib.hid (HB.out.keep HR.out.below)
    replace HG := Lib.hid (HG.out.keep HR.out.below)
    have e0 := HG.out.c0
    have e1 := HG.out.c1
    have i1 : (k : Int) ≤ 7 := by omega
    cases hs : (cOf r m k).isSome
    · have hlt : k < K := by
        by_cases e : k = K
        · subst e; rw [HS.out] at hs; cases hs
        · omega
      have Hs := Lib.hid hs
      clear hs
      go_wp2_with fail
      refine (ColoringWith_v HG.out.gv hk1 (by omega)).mono ?_
      rintro e w5 ⟨A5, n5, c5, rfl, _, hb5⟩
      rw [Hs.out]
      clear e0 e1
      replace HB := Lib.hid (HB.out.keep hb5)
      replace HG := Lib.hid (HG.out.keep hb5)
      replace HR := Lib.hid (HR.out.keep hb5)
      clear hb5
      have e0 := HG.out.c0
      have e1 := HG.out.c1
      go_wp2
      go_roundw
      case rel => exact ⟨k + 1, by omega, by omega, by go_num, HR⟩
      case measure => (simp [intOf] <;> omega)
    · have hKe : k = K := by
        by_cases e : k < K
        · rw [HM.out k hk1 e] at hs; cases hs
        · omega
      have Hs := Lib.hid hs
      have HKe := Lib.hid hKe
      clear hs hKe
      go_wp2_with fail
      refine (ColoringWith_v HG.out.gv hk1 (by omega)).mono ?_
      rintro e w5 ⟨A5, n5, c5, rfl, _, hb5⟩
      rw [Hs.out]
      clear e0 e1
      replace HB := Lib.hid (HB.out.keep hb5)
      replace HG := Lib.hid (HG.out.keep hb5)
      replace HR := Lib.hid (HR.out.keep hb5)
      clear hb5
      have e0 := HG.out.c0
      have e1 := HG.out.c1
      go_wp2
      go_ret
      exact ⟨ret_int (by rw [HKe.out]), HB.out.below⟩
end
end Go.Proofs.Ytnnlmdenffnjbaa
