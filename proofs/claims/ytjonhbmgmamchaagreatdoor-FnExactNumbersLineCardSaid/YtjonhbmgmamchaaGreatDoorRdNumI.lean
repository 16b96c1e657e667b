/-
  Contracts: the largest clique, the largest independent set, the fewest colors: the program's.
-/
import Derived.Test.YtjonhbmgmamchaaGreatDoorRdColI
import Derived.Test.YtjonhbmgmamchaaGreatDoorRdSet2I
namespace Go.Proofs.YtjonhbmgmamchaaGreatDoor
open Go.RowKit

section
variable {A : Option Addr} {m c : Nat} {r : Nat → Nat}
set_option maxHeartbeats 1000000 in
theorem LargestClique_v {w : World} (h : GV w A m c r) :
    Calls Tryz.prog 59 #[.agg #[.int .i64 m, .slice A m c]] w fun e w' => e = .returned (.int .i64 (lqN r m : Nat)) ∧ Below w.heap.size w w' := by
  obtain ⟨W, hW⟩ : ∃ W : World, W = (w.alloc (Obj.cells #[Value.int IntKind.i64 m, Value.slice A m c] 27)) := ⟨_, rfl⟩
  have HB : Hid (From w W) := by rw [hW]; exact From.alloc _ _
  have HG : Hid (GBox W w.heap.size A m c r) := by rw [hW]; exact h.box
  have HW := Lib.hid hW
  clear hW h
  have e0 := HG.out.c0
  have e1 := HG.out.c1
  go_enter Tryz.func59, Tryz.ntmps59
  go_wp2_with fail
  rw [← HW.out]
  refine (largest_g (p := cliq r) (caps := #[]) (ent_of Tryz.func91 (by kernel_rfl) rfl) W HG.out.gv (fun s z hs hb => IsClique_v (HG.out.gv.keep hb) hs)).mono ?_
  rintro e w1 ⟨rfl, hb1⟩
  clear HW
  clear e0 e1
  replace HB := Lib.hid (HB.out.keep hb1)
  replace HG := Lib.hid (HG.out.keep hb1)
  clear hb1
  have e0 := HG.out.c0
  have e1 := HG.out.c1
  go_wp2
  go_ret
  exact ⟨rfl, HB.out.below⟩
set_option maxHeartbeats 1000000 in
theorem LargestIndependent_v {w : World} (h : GV w A m c r) :
    Calls Tryz.prog 30 #[.agg #[.int .i64 m, .slice A m c]] w fun e w' => e = .returned (.int .i64 (liN r m : Nat)) ∧ Below w.heap.size w w' := by
  obtain ⟨W, hW⟩ : ∃ W : World, W = (w.alloc (Obj.cells #[Value.int IntKind.i64 m, Value.slice A m c] 27)) := ⟨_, rfl⟩
  have HB : Hid (From w W) := by rw [hW]; exact From.alloc _ _
  have HG : Hid (GBox W w.heap.size A m c r) := by rw [hW]; exact h.box
  have HW := Lib.hid hW
  clear hW h
  have e0 := HG.out.c0
  have e1 := HG.out.c1
  go_enter Tryz.func30, Tryz.ntmps30
  go_wp2_with fail
  rw [← HW.out]
  refine (largest_g (p := indB r) (caps := #[]) (ent_of Tryz.func63 (by kernel_rfl) rfl) W HG.out.gv (fun s z hs hb => IsIndependent_v (HG.out.gv.keep hb) hs)).mono ?_
  rintro e w1 ⟨rfl, hb1⟩
  clear HW
  clear e0 e1
  replace HB := Lib.hid (HB.out.keep hb1)
  replace HG := Lib.hid (HG.out.keep hb1)
  clear hb1
  have e0 := HG.out.c0
  have e1 := HG.out.c1
  go_wp2
  go_ret
  exact ⟨rfl, HB.out.below⟩
set_option maxHeartbeats 1000000 in
theorem CliqueNumber_v {w : World} (h : GV w A m c r) :
    Calls Tryz.prog 27 #[.agg #[.int .i64 m, .slice A m c]] w fun e w' => e = .returned (.int .i64 (cn (lqN r m) : Nat)) ∧ Below w.heap.size w w' := by
  have hl : lqN r m < 128 := Nat.lt_of_lt_of_le (lq_lt r m) (two_pow_le h.vg.n7)
  obtain ⟨W, hW⟩ : ∃ W : World, W = (w.alloc (Obj.cells #[Value.int IntKind.i64 m, Value.slice A m c] 27)) := ⟨_, rfl⟩
  have HB : Hid (From w W) := by rw [hW]; exact From.alloc _ _
  have HG : Hid (GBox W w.heap.size A m c r) := by rw [hW]; exact h.box
  have HW := Lib.hid hW
  clear hW h
  have e0 := HG.out.c0
  have e1 := HG.out.c1
  go_enter Tryz.func27, Tryz.ntmps27
  go_wp2_with fail
  rw [← HW.out]
  refine (IsGraph_v HG.out.gv).mono ?_
  rintro e w1 ⟨rfl, hb1⟩
  clear HW
  clear e0 e1
  replace HB := Lib.hid (HB.out.keep hb1)
  replace HG := Lib.hid (HG.out.keep hb1)
  clear hb1
  have e0 := HG.out.c0
  have e1 := HG.out.c1
  go_wp2_with fail
  refine (LargestClique_v HG.out.gv).mono ?_
  rintro e w2 ⟨rfl, hb2⟩
  clear e0 e1
  replace HB := Lib.hid (HB.out.keep hb2)
  replace HG := Lib.hid (HG.out.keep hb2)
  clear hb2
  have e0 := HG.out.c0
  have e1 := HG.out.c1
  go_wp2_with fail
  refine (CountSet_v (lqN r m) hl _).mono ?_
  rintro e w3 ⟨rfl, hb3⟩
  clear e0 e1
  replace HB := Lib.hid (HB.out.keep hb3)
  replace HG := Lib.hid (HG.out.keep hb3)
  clear hb3
  have e0 := HG.out.c0
  have e1 := HG.out.c1
  go_wp2
  go_ret
  exact ⟨rfl, HB.out.below⟩
set_option maxRecDepth 100000 in
set_option maxHeartbeats 1600000 in
theorem ChromaticNumber_v {w : World} (h : GV w A m c r) :
    Calls Tryz.prog 28 #[.agg #[.int .i64 m, .slice A m c]] w fun e w' => e = .returned (.int .i64 (chN r m : Nat)) ∧ Below w.heap.size w w' := by
  have hn7 := h.vg.n7
  have hn1 := h.vg.n1
  obtain ⟨hcm, hsome, hmin⟩ := chN_spec (r := r) hn1
  have hpos := chN_pos (r := r) (m := m)
  have HS := Lib.hid hsome
  have HM := Lib.hid hmin
  obtain ⟨K, hK⟩ : ∃ K, K = chN r m := ⟨_, rfl⟩
  rw [← hK] at hcm HS HM hpos ⊢
  clear hsome hmin hK
  obtain ⟨W, hW⟩ : ∃ W : World, W = (w.alloc (Obj.cells #[Value.int IntKind.i64 m, Value.slice A m c] 27)) := ⟨_, rfl⟩
  have HB : Hid (From w W) := by rw [hW]; exact From.alloc _ _
  have HG : Hid (GBox W w.heap.size A m c r) := by rw [hW]; exact h.box
  have HW := Lib.hid hW
  clear hW h
  have e0 := HG.out.c0
  have e1 := HG.out.c1
  have HR0 : Hid (From W W) := From.refl W
  go_enter Tryz.func28, Tryz.ntmps28
  go_wp2_with fail
  rw [← HW.out]
  go_wp2
  go_loopw [3] (fun i wr => ∃ k : Nat, 1 ≤ k ∧ k ≤ K ∧ i = .int .i64 k ∧ Hid (From W wr)) (fun i _ => K - (intOf i).toNat)
  case atStart => exact ⟨1, Nat.le_refl _, hpos, rfl, HR0⟩
  case round =>
    clear HR0
    obtain ⟨k, hk1, hk, rfl, HR⟩ := hrel
    clear e0 e1
    replace HB := Lib.hid (HB.out.keep HR.out.below)
    replace HG := Lib.hid (HG.out.keep HR.out.below)
    have e0 := HG.out.c0
    have e1 := HG.out.c1
    have i1 : (k : Int) ≤ 7 := by omega
    cases hs : (cOf r m k).isSome
    · have hlt : k < K := by
        by_cases e : k = K
        · subst e; rw [HS.out] at hs; cases hs
        · omega
      have Hs := Lib.hid hs
      clear hs
      go_wp2_with fail
      refine (ColoringWith_v HG.out.gv hk1 (by omega)).mono ?_
      rintro e w5 ⟨A5, n5, c5, rfl, _, hb5⟩
      rw [Hs.out]
      clear e0 e1
      replace HB := Lib.hid (HB.out.keep hb5)
      replace HG := Lib.hid (HG.out.keep hb5)
      replace HR := Lib.hid (HR.out.keep hb5)
      clear hb5
      have e0 := HG.out.c0
      have e1 := HG.out.c1
      go_wp2
      go_roundw
      case rel => exact ⟨k + 1, by omega, by omega, by go_num, HR⟩
      case measure => (simp [intOf] <;> omega)
    · have hKe : k = K := by
        by_cases e : k < K
        · rw [HM.out k hk1 e] at hs; cases hs
        · omega
      have Hs := Lib.hid hs
      have HKe := Lib.hid hKe
      clear hs hKe
      go_wp2_with fail
      refine (ColoringWith_v HG.out.gv hk1 (by omega)).mono ?_
      rintro e w5 ⟨A5, n5, c5, rfl, _, hb5⟩
      rw [Hs.out]
      clear e0 e1
      replace HB := Lib.hid (HB.out.keep hb5)
      replace HG := Lib.hid (HG.out.keep hb5)
      replace HR := Lib.hid (HR.out.keep hb5)
      clear hb5
      have e0 := HG.out.c0
      have e1 := HG.out.c1
      go_wp2
      go_ret
      exact ⟨ret_int (by rw [HKe.out]), HB.out.below⟩
end
end Go.Proofs.YtjonhbmgmamchaaGreatDoor
