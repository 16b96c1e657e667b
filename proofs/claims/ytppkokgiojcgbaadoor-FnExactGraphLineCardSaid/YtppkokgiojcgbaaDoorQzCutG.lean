/-
  Contracts: the vertices that cut; is a graph connected? (both sides)
-/
import Derived.Test.YtppkokgiojcgbaaDoorQzHmlP
import Derived.Test.YtppkokgiojcgbaaDoorQzGA
import Derived.Test.YtppkokgiojcgbaaDoorQzBest
import Derived.Test.YtppkokgiojcgbaaDoorQzSet2P
import Derived.Test.YtppkokgiojcgbaaDoorQzSet2I
import Derived.Test.YtppkokgiojcgbaaDoorQzGC
import Derived.Test.YtppkokgiojcgbaaDoorQzTake
import Derived.Deep.QuietTactic
import Derived.BigQuiet
import Derived.Test.YtppkokgiojcgbaaDoorQzColP
import Derived.Test.YtppkokgiojcgbaaDoorQzFirst
import Derived.Test.YtppkokgiojcgbaaDoorQzV
import Derived.Test.YtppkokgiojcgbaaDoorQzUmbI
import Derived.Test.YtppkokgiojcgbaaDoorQzGB
import Derived.Test.YtppkokgiojcgbaaDoorQzGL
import Derived.Test.YtppkokgiojcgbaaDoorQzToughT
namespace Go.Proofs.YtppkokgiojcgbaaDoor
open Go.RowKit

section
variable {A : Option Addr} {m c : Nat} {r : Nat → Nat} {z : World}
theorem parts_v (h : GV z A m c r) {s : Nat} (hs : s < 2 ^ m) :
    Calls Tryd.prog 25 #[.agg #[.int .i64 m, .slice A m c], .int .i64 s] z fun e w' => ∃ A' c', e = .returned (.slice A' (np r s) c') ∧ Below z.heap.size z w' := by
  refine (parts_i m A c _ s z z.heap.size h.rd (Nat.le_refl _) h.ok hs).mono ?_
  rintro e w' ⟨A', c', n', rfl, hn, hb⟩
  rw [rw_cast] at hn
  subst hn
  exact ⟨A', c', rfl, hb⟩
theorem PartsOf_sv (h : GV z A m c r) {s : Nat} (hs : s < 2 ^ m) :
    Calls Tryd.prog 15 #[.agg #[.int .i64 m, .slice A m c], .int .i64 s] z fun e w' => ∃ A' c', e = .returned (.slice A' (np r s) c') ∧ Below z.heap.size z w' := by
  refine (PartsOf_s m A c _ s z z.heap.size h.rd (Nat.le_refl _) h.ok hs).mono ?_
  rintro e w' ⟨A', c', n', rfl, hn, hb⟩
  rw [rw_cast] at hn
  subst hn
  exact ⟨A', c', rfl, hb⟩
end
section
variable (sz : Int) (A : Option Addr) (m c : Nat) (x : Nat → Int) (w : World)
/-- Is a graph connected? -/
noncomputable def cnB (sz : Int) (m : Nat) (x : Nat → Int) : Bool := okB sz m x && decide (np (rw_ x) (2 ^ m - 1) = 1)
set_option maxRecDepth 100000 in
set_option maxHeartbeats 3200000 in
theorem IsConnected_s (h : GA w A m c x) (hm : m ≤ 1048576) :
    Calls Tryd.prog 18 #[.agg #[.int .i64 sz, .slice A m c]] w fun e w' => e = .returned (.bool (cnB sz m x)) ∧ Below w.heap.size w w' := by
  obtain ⟨W, hW⟩ : ∃ W : World, W = (w.alloc (Obj.cells #[Value.int IntKind.i64 sz, Value.slice A m c] 27)) := ⟨_, rfl⟩
  have HB : Hid (From w W) := by rw [hW]; exact From.alloc _ _
  have HK := Lib.hid (h.keep HB.out.below)
  have HC : Hid (GC W w.heap.size sz A m c) := by rw [hW]; exact GC.new _ _ _ _ _
  have HW := Lib.hid hW
  have e0 := HC.out.c0
  have e1 := HC.out.c1
  have HR0 : Hid (From W W) := From.refl _
  have KG : Hid (∀ z : World, Below W.heap.size W z → Calls Tryd.prog 10 #[.agg #[.int .i64 sz, .slice A m c]] z fun e w' => e = .returned (.bool (okB sz m x)) ∧ Below z.heap.size z w') := fun z hz => IsGraph_sany sz A m c x z z.heap.size (HK.out.keep hz).rd (Nat.le_refl _) hm
  clear hW h
  cases ho : okB sz m x
  · have Hno : Hid (cnB sz m x = false) := by show _ = _; unfold cnB; rw [ho]; rfl
    rw [ho] at KG
    clear ho
    go_enter Tryd.func18, Tryd.ntmps18
    go_wp2_with fail
    rw [← HW.out]
    clear HW
    have HSC : Hid (∀ z : World, Below W.heap.size W z → (Below W.heap.size W z ∧ z.cell? ⟨w.heap.size, 0, none⟩ = some (.int .i64 sz) ∧ z.cell? ⟨w.heap.size, 1, none⟩ = some (.slice A m c))) := fun z hz => ⟨hz, up_ hz e0, up_ hz e1⟩
    have HZ0 : Hid (Below W.heap.size W W.drew) := (Below.refl _ _).drew
    have HS1 := Lib.hid (HSC.out _ HZ0.out)
    have KR1 : Hid (∀ z : World, Below W.heap.size W z → _) := fun z hz => KG.out z hz
    refine wp_region_held_drew (S := fun z => Below W.heap.size W z ∧ z.cell? ⟨w.heap.size, 0, none⟩ = some (.int .i64 sz) ∧ z.cell? ⟨w.heap.size, 1, none⟩ = some (.slice A m c)) (by kernel_rfl) HS1.out (fun hHeld => ?_)
    refine take_yes (i := 0) (d := 3) (v := ?v1) rfl rfl (by kernel_rfl) (by kernel_rfl) (by kernel_rfl) (fun _ _ _ h => h) (by rfl) ?y1 (by assumption) ?r1
    case y1 => (intro w hSw; (try dsimp only at hSw); go_simp <;> with_reducible rfl)
    simp only [Act.put, List.setIfInBounds_toArray, List.set_cons_zero, List.set_cons_succ]
    refine wpAnyH_ready (rs := [1]) (by kernel_rfl) (by simp) ?_
    refine AllReadyH.cons rfl (fun K hK => ?_) AllReadyH.nil
    go_simp
    go_at_call 10; refine (KR1.out _ HZ0.out).mono ?_
    rintro e w1 ⟨rfl, hb1⟩
    have hz1 := bl_trans HZ0.out hb1
    refine hK.out _ _ (HSC.out _ hz1) (fun hHeld => ?_)
    clear hK K
    try simp only [Act.put, List.setIfInBounds_toArray, List.set_cons_zero, List.set_cons_succ]
    refine take_yes (i := 2) (d := 5) (v := ?v2) rfl rfl (by kernel_rfl) (by kernel_rfl) (by kernel_rfl) (fun _ _ _ h => h) (by rfl) ?y2 (by assumption) ?r2
    case y2 => (intro w hSw; (try dsimp only at hSw); go_simp <;> with_reducible rfl)
    simp only [Act.put, List.setIfInBounds_toArray, List.set_cons_zero, List.set_cons_succ]
    refine take_no (i := 3) (d := 6) rfl rfl (by kernel_rfl) (by kernel_rfl) (by kernel_rfl) (fun _ _ _ h => h) (by rfl) (by assumption) ?_
    simp only [Act.put, List.setIfInBounds_toArray, List.set_cons_zero, List.set_cons_succ]
    refine take_no (i := 4) (d := 7) rfl rfl (by kernel_rfl) (by kernel_rfl) (by kernel_rfl) (fun _ _ _ h => h) (by rfl) (by assumption) ?_
    simp only [Act.put, List.setIfInBounds_toArray, List.set_cons_zero, List.set_cons_succ]
    refine take_no (i := 5) (d := 8) rfl rfl (by kernel_rfl) (by kernel_rfl) (by kernel_rfl) (fun _ _ _ h => h) (by rfl) (by assumption) ?_
    simp only [Act.put, List.setIfInBounds_toArray, List.set_cons_zero, List.set_cons_succ]
    refine take_no (i := 6) (d := 9) rfl rfl (by kernel_rfl) (by kernel_rfl) (by kernel_rfl) (fun _ _ _ h => h) (by rfl) (by assumption) ?_
    simp only [Act.put, List.setIfInBounds_toArray, List.set_cons_zero, List.set_cons_succ]
    refine take_no (i := 7) (d := 10) rfl rfl (by kernel_rfl) (by kernel_rfl) (by kernel_rfl) (fun _ _ _ h => h) (by rfl) (by assumption) ?_
    simp only [Act.put, List.setIfInBounds_toArray, List.set_cons_zero, List.set_cons_succ]
    refine take_no (i := 8) (d := 11) rfl rfl (by kernel_rfl) (by kernel_rfl) (by kernel_rfl) (fun _ _ _ h => h) (by rfl) (by assumption) ?_
    simp only [Act.put, List.setIfInBounds_toArray, List.set_cons_zero, List.set_cons_succ]
    refine take_no (i := 9) (d := 12) rfl rfl (by kernel_rfl) (by kernel_rfl) (by kernel_rfl) (fun _ _ _ h => h) (by rfl) (by assumption) ?_
    simp only [Act.put, List.setIfInBounds_toArray, List.set_cons_zero, List.set_cons_succ]
    refine take_no (i := 10) (d := 13) rfl rfl (by kernel_rfl) (by kernel_rfl) (by kernel_rfl) (fun _ _ _ h => h) (by rfl) (by assumption) ?_
    simp only [Act.put, List.setIfInBounds_toArray, List.set_cons_zero, List.set_cons_succ]
    refine take_yes (i := 11) (d := 14) (v := ?v3) rfl rfl (by kernel_rfl) (by kernel_rfl) (by kernel_rfl) (fun _ _ _ h => h) (by rfl) ?y3 (by assumption) ?r3
    case y3 => (intro w hSw; (try dsimp only at hSw); go_simp <;> with_reducible rfl)
    simp only [Act.put, List.setIfInBounds_toArray, List.set_cons_zero, List.set_cons_succ]
    refine take_yes (i := 12) (d := 2) (v := ?v4) rfl rfl (by kernel_rfl) (by kernel_rfl) (by kernel_rfl) (fun _ _ _ h => h) (by rfl) ?y4 (by assumption) ?r4
    case y4 => (intro w hSw; (try dsimp only at hSw); go_simp <;> with_reducible rfl)
    simp only [Act.put, List.setIfInBounds_toArray, List.set_cons_zero, List.set_cons_succ]
    refine wpAnyH_done (by kernel_rfl) ?_ _
    replace HR0 := Lib.hid (HR0.out.keep hz1)
    clear hb1 hz1 HSC HZ0 HS1 KR1
    go_wp2
    go_ret
    exact ⟨ret_bool Hno.out.symm, (HB.out.up HR0.out).below⟩
  · have HY : Hid (cnB sz m x = decide (np (rw_ x) (2 ^ m - 1) = 1)) := by show _ = _; unfold cnB; rw [ho]; rfl
    obtain ⟨_, es, vg0, _⟩ := okB_ok' ho
    subst es
    have hn7 := vg0.n7
    have h128 := two_pow_le hn7
    have hpos := Nat.two_pow_pos m
    rw [ho] at KG
    obtain ⟨F, hF⟩ : ∃ F, F = 2 ^ m - 1 := ⟨_, rfl⟩
    obtain ⟨k1, hk1⟩ : ∃ k, k = np (rw_ x) F := ⟨_, rfl⟩
    rw [← hF, ← hk1] at HY
    have p2 := pow_shl m hn7
    have pc : (2 : Int) ^ m = ((2 ^ m : Nat) : Int) := by simp
    have s1 : IntKind.i64.wrap ((2 : Int) ^ m - 1) = (F : Int) := by
      have : (2 : Int) ^ m - 1 = (F : Int) := by rw [pc, hF]; omega
      rw [this]; exact Go.IntWalk.i64_in (F : Int) (by rw [hF]; omega)
    have KP : Hid (∀ z : World, Below W.heap.size W z → Calls Tryd.prog 15 #[.agg #[.int .i64 m, .slice A m c], .int .i64 F] z fun e w' => ∃ A' c', e = .returned (.slice A' k1 c') ∧ Below z.heap.size z w') := fun z hz => by rw [hk1]; exact PartsOf_sv (GV.of (HK.out.keep hz).rd (Nat.le_refl _) ho) (by rw [hF]; omega)
    clear ho vg0 hk1 hF pc
    go_enter Tryd.func18, Tryd.ntmps18
    go_wp2_with fail
    rw [← HW.out]
    clear HW
    have HSC : Hid (∀ z : World, Below W.heap.size W z → (Below W.heap.size W z ∧ z.cell? ⟨w.heap.size, 0, none⟩ = some (.int .i64 (m : Nat)) ∧ z.cell? ⟨w.heap.size, 1, none⟩ = some (.slice A m c))) := fun z hz => ⟨hz, up_ hz e0, up_ hz e1⟩
    have HZ0 : Hid (Below W.heap.size W W.drew) := (Below.refl _ _).drew
    have HS1 := Lib.hid (HSC.out _ HZ0.out)
    have KR1 : Hid (∀ z : World, Below W.heap.size W z → _) := fun z hz => KG.out z hz
    have KR2 : Hid (∀ z : World, Below W.heap.size W z → _) := fun z hz => KP.out z hz
    refine wp_region_held_drew (S := fun z => Below W.heap.size W z ∧ z.cell? ⟨w.heap.size, 0, none⟩ = some (.int .i64 (m : Nat)) ∧ z.cell? ⟨w.heap.size, 1, none⟩ = some (.slice A m c)) (by kernel_rfl) HS1.out (fun hHeld => ?_)
    refine take_yes (i := 0) (d := 3) (v := ?v5) rfl rfl (by kernel_rfl) (by kernel_rfl) (by kernel_rfl) (fun _ _ _ h => h) (by rfl) ?y5 (by assumption) ?r5
    case y5 => (intro w hSw; (try dsimp only at hSw); go_simp <;> with_reducible rfl)
    simp only [Act.put, List.setIfInBounds_toArray, List.set_cons_zero, List.set_cons_succ]
    refine wpAnyH_ready (rs := [1]) (by kernel_rfl) (by simp) ?_
    refine AllReadyH.cons rfl (fun K hK => ?_) AllReadyH.nil
    go_simp
    go_at_call 10; refine (KR1.out _ HZ0.out).mono ?_
    rintro e w2 ⟨rfl, hb2⟩
    have hz2 := bl_trans HZ0.out hb2
    refine hK.out _ _ (HSC.out _ hz2) (fun hHeld => ?_)
    clear hK K
    try simp only [Act.put, List.setIfInBounds_toArray, List.set_cons_zero, List.set_cons_succ]
    refine take_yes (i := 2) (d := 5) (v := ?v6) rfl rfl (by kernel_rfl) (by kernel_rfl) (by kernel_rfl) (fun _ _ _ h => h) (by rfl) ?y6 (by assumption) ?r6
    case y6 => (intro w hSw; (try dsimp only at hSw); go_simp <;> with_reducible rfl)
    simp only [Act.put, List.setIfInBounds_toArray, List.set_cons_zero, List.set_cons_succ]
    refine take_yes (i := 3) (d := 6) (v := ?v7) rfl rfl (by kernel_rfl) (by kernel_rfl) (by kernel_rfl) (fun _ _ _ h => h) (by rfl) ?y7 (by assumption) ?r7
    case y7 => (intro w hSw; (try dsimp only at hSw); go_simp <;> with_reducible rfl)
    simp only [Act.put, List.setIfInBounds_toArray, List.set_cons_zero, List.set_cons_succ]
    refine take_yes (i := 4) (d := 7) (v := ?v8) rfl rfl (by kernel_rfl) (by kernel_rfl) (by kernel_rfl) (fun _ _ _ h => h) (by rfl) ?y8 (by assumption) ?r8
    case y8 => (intro w hSw; (try dsimp only at hSw); go_simp <;> with_reducible rfl)
    simp only [Act.put, List.setIfInBounds_toArray, List.set_cons_zero, List.set_cons_succ]
    refine take_yes (i := 5) (d := 8) (v := ?v9) rfl rfl (by kernel_rfl) (by kernel_rfl) (by kernel_rfl) (fun _ _ _ h => h) (by rfl) ?y9 (by assumption) ?r9
    case y9 => (intro w hSw; (try dsimp only at hSw); go_simp <;> with_reducible rfl)
    simp only [Act.put, List.setIfInBounds_toArray, List.set_cons_zero, List.set_cons_succ]
    refine take_yes (i := 6) (d := 9) (v := ?v10) rfl rfl (by kernel_rfl) (by kernel_rfl) (by kernel_rfl) (fun _ _ _ h => h) (by rfl) ?y10 (by assumption) ?r10
    case y10 => (intro w hSw; (try dsimp only at hSw); go_simp <;> with_reducible rfl)
    simp only [Act.put, List.setIfInBounds_toArray, List.set_cons_zero, List.set_cons_succ]
    refine take_yes (i := 7) (d := 10) (v := ?v11) rfl rfl (by kernel_rfl) (by kernel_rfl) (by kernel_rfl) (fun _ _ _ h => h) (by rfl) ?y11 (by assumption) ?r11
    case y11 => (intro w hSw; (try dsimp only at hSw); go_simp <;> with_reducible rfl)
    simp only [Act.put, List.setIfInBounds_toArray, List.set_cons_zero, List.set_cons_succ]
    refine wpAnyH_ready (rs := [8]) (by kernel_rfl) (by simp) ?_
    refine AllReadyH.cons rfl (fun K hK => ?_) AllReadyH.nil
    go_simp
    go_at_call 15; refine (KR2.out _ hz2).mono ?_
    rintro e w3 ⟨A1, d1, rfl, hb3⟩
    have hz3 := bl_trans hz2 hb3
    refine hK.out _ _ (HSC.out _ hz3) (fun hHeld => ?_)
    clear hK K
    try simp only [Act.put, List.setIfInBounds_toArray, List.set_cons_zero, List.set_cons_succ]
    refine take_yes (i := 9) (d := 12) (v := ?v12) rfl rfl (by kernel_rfl) (by kernel_rfl) (by kernel_rfl) (fun _ _ _ h => h) (by rfl) ?y12 (by assumption) ?r12
    case y12 => (intro w hSw; (try dsimp only at hSw); go_simp <;> with_reducible rfl)
    simp only [Act.put, List.setIfInBounds_toArray, List.set_cons_zero, List.set_cons_succ]
    refine take_yes (i := 10) (d := 13) (v := ?v13) rfl rfl (by kernel_rfl) (by kernel_rfl) (by kernel_rfl) (fun _ _ _ h => h) (by rfl) ?y13 (by assumption) ?r13
    case y13 => (intro w hSw; (try dsimp only at hSw); go_simp <;> with_reducible rfl)
    simp only [Act.put, List.setIfInBounds_toArray, List.set_cons_zero, List.set_cons_succ]
    refine take_yes (i := 11) (d := 14) (v := ?v14) rfl rfl (by kernel_rfl) (by kernel_rfl) (by kernel_rfl) (fun _ _ _ h => h) (by rfl) ?y14 (by assumption) ?r14
    case y14 => (intro w hSw; (try dsimp only at hSw); go_simp <;> with_reducible rfl)
    simp only [Act.put, List.setIfInBounds_toArray, List.set_cons_zero, List.set_cons_succ]
    refine take_yes (i := 12) (d := 2) (v := ?v15) rfl rfl (by kernel_rfl) (by kernel_rfl) (by kernel_rfl) (fun _ _ _ h => h) (by rfl) ?y15 (by assumption) ?r15
    case y15 => (intro w hSw; (try dsimp only at hSw); go_simp <;> with_reducible rfl)
    simp only [Act.put, List.setIfInBounds_toArray, List.set_cons_zero, List.set_cons_succ]
    refine wpAnyH_done (by kernel_rfl) ?_ _
    replace HR0 := Lib.hid (HR0.out.keep hz3)
    clear hb2 hz2 hb3 hz3 HSC HZ0 HS1 KR1 KR2
    go_wp2
    go_ret
    refine ⟨ret_bool ?_, (HB.out.up HR0.out).below⟩
    rw [HY.out]
    by_cases hk : k1 = 1
    · subst hk; simp
    · rw [decide_eq_false hk]; simp; omega
end
end Go.Proofs.YtppkokgiojcgbaaDoor
