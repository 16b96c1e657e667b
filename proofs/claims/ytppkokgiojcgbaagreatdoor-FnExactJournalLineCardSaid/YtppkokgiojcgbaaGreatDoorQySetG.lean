/-
  Contracts: is a number a set, a clique, independent, a split partition, at any graph: of both sides.
-/
import Derived.Test.YtppkokgiojcgbaaGreatDoorQySet2I
import Derived.Test.YtppkokgiojcgbaaGreatDoorQyListS
import Derived.Test.YtppkokgiojcgbaaGreatDoorQyJoinI
namespace Go.Proofs.YtppkokgiojcgbaaGreatDoor
open Go.RowKit

def splB (r : Nat → Nat) (m s : Nat) : Bool := cliq r s && indB r ((2 ^ m - 1) ^^^ s)
section
variable (sz : Int) (A : Option Addr) (m c : Nat) (x : Nat → Int) (s : Int) (w : World)
end
section
variable {A : Option Addr} {m c : Nat} {r : Nat → Nat} {w : World} {s : Nat}
theorem comp_lt (hm : m ≤ 7) (hs : s < 2 ^ m) : (2 ^ m - 1) ^^^ s < 2 ^ m := full_lt hm hs
set_option maxHeartbeats 1000000 in
theorem IsSplitPartition_v (h : GV w A m c r) (hs : s < 2 ^ m) :
    Calls Tryz.prog 232 #[.agg #[.int .i64 m, .slice A m c], .int .i64 s] w fun e w' => e = .returned (.bool (splB r m s)) ∧ Below w.heap.size w w' := by
  have hn7 := h.vg.n7
  have h128 := two_pow_le hn7
  have hcl := comp_lt hn7 hs
  have E := i64_andNot_nat (2 ^ m - 1) s (by omega) (by omega)
  rw [full_and hs] at E
  obtain ⟨t, ht⟩ : ∃ t, t = (2 ^ m - 1) ^^^ s := ⟨_, rfl⟩
  obtain ⟨F, hF⟩ : ∃ F, F = 2 ^ m - 1 := ⟨_, rfl⟩
  have KA : Hid (∀ z : World, Calls Tryz.prog 106 #[.agg #[.int .i64 m, .slice A m c]] z fun e w' => e = .returned (.int .i64 (F : Nat)) ∧ Below z.heap.size z w') := by rw [hF]; exact fun z => all_any m A c z hn7
  rw [← ht] at hcl
  rw [← ht, ← hF] at E
  have Ht := Lib.hid ht
  clear ht hF
  obtain ⟨W, hW⟩ : ∃ W : World, W = (w.alloc (Obj.cells #[Value.int IntKind.i64 m, Value.slice A m c] 29)) := ⟨_, rfl⟩
  have HB : Hid (From w W) := by rw [hW]; exact From.alloc _ _
  have HG : Hid (GBox W w.heap.size A m c r) := by rw [hW]; exact h.box
  have HW := Lib.hid hW
  clear hW h
  have e0 := HG.out.c0
  have e1 := HG.out.c1
  have HG0 := HG
  have KI : Hid (∀ z : World, Below W.heap.size W z → Calls Tryz.prog 236 #[.agg #[.int .i64 m, .slice A m c], .int .i64 (t : Int)] z fun e w' => e = .returned (.bool (indB r t)) ∧ Below z.heap.size z w') := fun z hz => IsIndependent_v (HG0.out.gv.keep hz) hcl
  have KC : Hid (∀ z : World, Below W.heap.size W z → Calls Tryz.prog 270 #[.agg #[.int .i64 m, .slice A m c], .int .i64 (s : Int)] z fun e w' => e = .returned (.bool (cliq r s)) ∧ Below z.heap.size z w') := fun z hz => IsClique_v (HG0.out.gv.keep hz) hs
  go_enter Tryz.func232, Tryz.ntmps232
  cases hc : cliq r s
  · have Hn : Hid (splB r m s = false) := by show _ = _; unfold splB; rw [hc]; rfl
    rw [hc] at KC
    clear hc
    go_wp2
    rw [← HW.out]
    clear HW
    have HSC : Hid (∀ z : World, Below W.heap.size W z → (Below W.heap.size W z ∧ z.cell? ⟨w.heap.size, 0, none⟩ = some (.int .i64 m) ∧ z.cell? ⟨w.heap.size, 1, none⟩ = some (.slice A m c))) := fun z hz => ⟨hz, up_ hz e0, up_ hz e1⟩
    have HZ0 : Hid (Below W.heap.size W W.drew) := (Below.refl _ _).drew
    have HS1 := Lib.hid (HSC.out _ HZ0.out)
    have KR1 : Hid (∀ z : World, Below W.heap.size W z → _) := fun z hz => KC.out _ hz
    refine wp_region_held_drew (S := fun z => Below W.heap.size W z ∧ z.cell? ⟨w.heap.size, 0, none⟩ = some (.int .i64 m) ∧ z.cell? ⟨w.heap.size, 1, none⟩ = some (.slice A m c)) (by kernel_rfl) HS1.out (fun hHeld => ?_)
    refine take_yes (i := 0) (d := 5) (v := ?v1) rfl rfl (by kernel_rfl) (by kernel_rfl) (by kernel_rfl) (fun _ _ _ h => h) (by rfl) ?y1 (by assumption) ?r1
    case y1 => (intro w hSw; (try dsimp only at hSw); go_simp <;> with_reducible rfl)
    simp only [Act.put, sl0, sl1, sl2]
    refine take_yes (i := 1) (d := 6) (v := ?v2) rfl rfl (by kernel_rfl) (by kernel_rfl) (by kernel_rfl) (fun _ _ _ h => h) (by rfl) ?y2 (by assumption) ?r2
    case y2 => (intro w hSw; (try dsimp only at hSw); go_simp <;> with_reducible rfl)
    simp only [Act.put, sl0, sl1, sl2]
    refine wpAnyH_ready (rs := [2]) (by kernel_rfl) (by simp) ?_
    refine AllReadyH.cons rfl (fun K hK => ?_) AllReadyH.nil
    go_simp
    go_at_call 270; refine (KR1.out _ HZ0.out).mono ?_
    rintro e w1 ⟨rfl, hb1⟩
    have hz1 := bl_trans HZ0.out hb1
    refine hK.out _ _ (HSC.out _ hz1) (fun hHeld => ?_)
    clear hK K
    try simp only [Act.put, sl0, sl1, sl2]
    refine take_yes (i := 3) (d := 8) (v := ?v3) rfl rfl (by kernel_rfl) (by kernel_rfl) (by kernel_rfl) (fun _ _ _ h => h) (by rfl) ?y3 (by assumption) ?r3
    case y3 => (intro w hSw; (try dsimp only at hSw); go_simp <;> with_reducible rfl)
    simp only [Act.put, sl0, sl1, sl2]
    refine take_no (i := 4) (d := 9) rfl rfl (by kernel_rfl) (by kernel_rfl) (by kernel_rfl) (fun _ _ _ h => h) (by rfl) (by assumption) ?_
    simp only [Act.put, sl0, sl1, sl2]
    refine take_no (i := 5) (d := 10) rfl rfl (by kernel_rfl) (by kernel_rfl) (by kernel_rfl) (fun _ _ _ h => h) (by rfl) (by assumption) ?_
    simp only [Act.put, sl0, sl1, sl2]
    refine take_no (i := 6) (d := 11) rfl rfl (by kernel_rfl) (by kernel_rfl) (by kernel_rfl) (fun _ _ _ h => h) (by rfl) (by assumption) ?_
    simp only [Act.put, sl0, sl1, sl2]
    refine take_no (i := 7) (d := 12) rfl rfl (by kernel_rfl) (by kernel_rfl) (by kernel_rfl) (fun _ _ _ h => h) (by rfl) (by assumption) ?_
    simp only [Act.put, sl0, sl1, sl2]
    refine take_no (i := 8) (d := 13) rfl rfl (by kernel_rfl) (by kernel_rfl) (by kernel_rfl) (fun _ _ _ h => h) (by rfl) (by assumption) ?_
    simp only [Act.put, sl0, sl1, sl2]
    refine take_no (i := 9) (d := 14) rfl rfl (by kernel_rfl) (by kernel_rfl) (by kernel_rfl) (fun _ _ _ h => h) (by rfl) (by assumption) ?_
    simp only [Act.put, sl0, sl1, sl2]
    refine take_yes (i := 10) (d := 15) (v := ?v4) rfl rfl (by kernel_rfl) (by kernel_rfl) (by kernel_rfl) (fun _ _ _ h => h) (by rfl) ?y4 (by assumption) ?r4
    case y4 => (intro w hSw; (try dsimp only at hSw); go_simp <;> with_reducible rfl)
    simp only [Act.put, sl0, sl1, sl2]
    refine take_yes (i := 11) (d := 4) (v := ?v5) rfl rfl (by kernel_rfl) (by kernel_rfl) (by kernel_rfl) (fun _ _ _ h => h) (by rfl) ?y5 (by assumption) ?r5
    case y5 => (intro w hSw; (try dsimp only at hSw); go_simp <;> with_reducible rfl)
    simp only [Act.put, sl0, sl1, sl2]
    refine wpAnyH_done (by kernel_rfl) ?_ _
    clear e0 e1
    replace HB := Lib.hid (HB.out.keep hz1)
    replace HG := Lib.hid (HG.out.keep hz1)
    clear hb1 hz1 HSC HZ0 HS1 KR1
    have e0 := HG.out.c0
    have e1 := HG.out.c1
    go_wp2
    go_ret
    exact ⟨ret_bool Hn.out.symm, HB.out.below⟩
  · have Hn : Hid (splB r m s = indB r t) := by show _ = _; unfold splB; rw [hc, Ht.out]; rfl
    rw [hc] at KC
    clear hc
    go_wp2
    rw [← HW.out]
    clear HW
    have HSC : Hid (∀ z : World, Below W.heap.size W z → (Below W.heap.size W z ∧ z.cell? ⟨w.heap.size, 0, none⟩ = some (.int .i64 m) ∧ z.cell? ⟨w.heap.size, 1, none⟩ = some (.slice A m c))) := fun z hz => ⟨hz, up_ hz e0, up_ hz e1⟩
    have HZ0 : Hid (Below W.heap.size W W.drew) := (Below.refl _ _).drew
    have HS1 := Lib.hid (HSC.out _ HZ0.out)
    have KR1 : Hid (∀ z : World, Below W.heap.size W z → _) := fun z hz => KC.out _ hz
    have KR2 : Hid (∀ z : World, Below W.heap.size W z → _) := fun z hz => KA.out z
    have KR3 : Hid (∀ z : World, Below W.heap.size W z → _) := fun z hz => KI.out _ hz
    refine wp_region_held_drew (S := fun z => Below W.heap.size W z ∧ z.cell? ⟨w.heap.size, 0, none⟩ = some (.int .i64 m) ∧ z.cell? ⟨w.heap.size, 1, none⟩ = some (.slice A m c)) (by kernel_rfl) HS1.out (fun hHeld => ?_)
    refine take_yes (i := 0) (d := 5) (v := ?v6) rfl rfl (by kernel_rfl) (by kernel_rfl) (by kernel_rfl) (fun _ _ _ h => h) (by rfl) ?y6 (by assumption) ?r6
    case y6 => (intro w hSw; (try dsimp only at hSw); go_simp <;> with_reducible rfl)
    simp only [Act.put, sl0, sl1, sl2]
    refine take_yes (i := 1) (d := 6) (v := ?v7) rfl rfl (by kernel_rfl) (by kernel_rfl) (by kernel_rfl) (fun _ _ _ h => h) (by rfl) ?y7 (by assumption) ?r7
    case y7 => (intro w hSw; (try dsimp only at hSw); go_simp <;> with_reducible rfl)
    simp only [Act.put, sl0, sl1, sl2]
    refine wpAnyH_ready (rs := [2]) (by kernel_rfl) (by simp) ?_
    refine AllReadyH.cons rfl (fun K hK => ?_) AllReadyH.nil
    go_simp
    go_at_call 270; refine (KR1.out _ HZ0.out).mono ?_
    rintro e w2 ⟨rfl, hb2⟩
    have hz2 := bl_trans HZ0.out hb2
    refine hK.out _ _ (HSC.out _ hz2) (fun hHeld => ?_)
    clear hK K
    try simp only [Act.put, sl0, sl1, sl2]
    refine take_yes (i := 3) (d := 8) (v := ?v8) rfl rfl (by kernel_rfl) (by kernel_rfl) (by kernel_rfl) (fun _ _ _ h => h) (by rfl) ?y8 (by assumption) ?r8
    case y8 => (intro w hSw; (try dsimp only at hSw); go_simp <;> with_reducible rfl)
    simp only [Act.put, sl0, sl1, sl2]
    refine take_yes (i := 4) (d := 9) (v := ?v9) rfl rfl (by kernel_rfl) (by kernel_rfl) (by kernel_rfl) (fun _ _ _ h => h) (by rfl) ?y9 (by assumption) ?r9
    case y9 => (intro w hSw; (try dsimp only at hSw); go_simp <;> with_reducible rfl)
    simp only [Act.put, sl0, sl1, sl2]
    refine take_yes (i := 5) (d := 10) (v := ?v10) rfl rfl (by kernel_rfl) (by kernel_rfl) (by kernel_rfl) (fun _ _ _ h => h) (by rfl) ?y10 (by assumption) ?r10
    case y10 => (intro w hSw; (try dsimp only at hSw); go_simp <;> with_reducible rfl)
    simp only [Act.put, sl0, sl1, sl2]
    refine take_yes (i := 7) (d := 12) (v := ?v11) rfl rfl (by kernel_rfl) (by kernel_rfl) (by kernel_rfl) (fun _ _ _ h => h) (by rfl) ?y11 (by assumption) ?r11
    case y11 => (intro w hSw; (try dsimp only at hSw); go_simp <;> with_reducible rfl)
    simp only [Act.put, sl0, sl1, sl2]
    refine wpAnyH_ready (rs := [6]) (by kernel_rfl) (by simp) ?_
    refine AllReadyH.cons rfl (fun K hK => ?_) AllReadyH.nil
    go_simp
    go_at_call 106; refine (KR2.out _ hz2).mono ?_
    rintro e w3 ⟨rfl, hb3⟩
    have hz3 := bl_trans hz2 hb3
    refine hK.out _ _ (HSC.out _ hz3) (fun hHeld => ?_)
    clear hK K
    try simp only [Act.put, sl0, sl1, sl2]
    refine take_yes (i := 8) (d := 13) (v := ?v12) rfl rfl (by kernel_rfl) (by kernel_rfl) (by kernel_rfl) (fun _ _ _ h => h) (by rfl) ?y12 (by assumption) ?r12
    case y12 => (intro w hSw; (try dsimp only at hSw); go_simp <;> with_reducible rfl)
    simp only [Act.put, sl0, sl1, sl2]
    refine wpAnyH_ready (rs := [9]) (by kernel_rfl) (by simp) ?_
    refine AllReadyH.cons rfl (fun K hK => ?_) AllReadyH.nil
    go_simp
    go_at_call 236; refine (KR3.out _ hz3).mono ?_
    rintro e w4 ⟨rfl, hb4⟩
    have hz4 := bl_trans hz3 hb4
    refine hK.out _ _ (HSC.out _ hz4) (fun hHeld => ?_)
    clear hK K
    try simp only [Act.put, sl0, sl1, sl2]
    refine take_yes (i := 10) (d := 15) (v := ?v13) rfl rfl (by kernel_rfl) (by kernel_rfl) (by kernel_rfl) (fun _ _ _ h => h) (by rfl) ?y13 (by assumption) ?r13
    case y13 => (intro w hSw; (try dsimp only at hSw); go_simp <;> with_reducible rfl)
    simp only [Act.put, sl0, sl1, sl2]
    refine take_yes (i := 11) (d := 4) (v := ?v14) rfl rfl (by kernel_rfl) (by kernel_rfl) (by kernel_rfl) (fun _ _ _ h => h) (by rfl) ?y14 (by assumption) ?r14
    case y14 => (intro w hSw; (try dsimp only at hSw); go_simp <;> with_reducible rfl)
    simp only [Act.put, sl0, sl1, sl2]
    refine wpAnyH_done (by kernel_rfl) ?_ _
    clear e0 e1
    replace HB := Lib.hid (HB.out.keep hz4)
    replace HG := Lib.hid (HG.out.keep hz4)
    clear hb2 hz2 hb3 hz3 hb4 hz4 HSC HZ0 HS1 KR1 KR2 KR3
    have e0 := HG.out.c0
    have e1 := HG.out.c1
    go_wp2
    go_ret
    exact ⟨ret_bool Hn.out.symm, HB.out.below⟩
set_option maxHeartbeats 1000000 in
theorem IsSplitPartition_sv (h : GV w A m c r) (hs : s < 2 ^ m) :
    Calls Tryz.prog 196 #[.agg #[.int .i64 m, .slice A m c], .int .i64 s] w fun e w' => e = .returned (.bool (splB r m s)) ∧ Below w.heap.size w w' := by
  have hn7 := h.vg.n7
  have h128 := two_pow_le hn7
  have hcl := comp_lt hn7 hs
  have hfs := full_sub hn7 hs
  obtain ⟨t, ht⟩ : ∃ t, t = (2 ^ m - 1) ^^^ s := ⟨_, rfl⟩
  obtain ⟨F, hF⟩ : ∃ F, F = 2 ^ m := ⟨_, rfl⟩
  have p1 : IntKind.i64.wrap ((2 : Int) ^ m) = (F : Int) := by rw [pow_shl m hn7, hF]; simp
  rw [← ht] at hcl
  rw [← ht, ← hF] at hfs
  have hpos := Nat.two_pow_pos m
  rw [← hF] at hpos h128 hs
  have s2 : IntKind.i64.wrap ((F : Int) - 1) = (F : Int) - 1 := Go.IntWalk.i64_in _ (by omega)
  have s3 : IntKind.i64.wrap ((F : Int) - 1 - (s : Int)) = (t : Int) := by rw [Go.IntWalk.i64_in _ (by omega)]; omega
  have Ht := Lib.hid ht
  have HF := Lib.hid hF
  clear ht hF hfs
  obtain ⟨W, hW⟩ : ∃ W : World, W = (w.alloc (Obj.cells #[Value.int IntKind.i64 m, Value.slice A m c] 29)) := ⟨_, rfl⟩
  have HB : Hid (From w W) := by rw [hW]; exact From.alloc _ _
  have HG : Hid (GBox W w.heap.size A m c r) := by rw [hW]; exact h.box
  have HW := Lib.hid hW
  clear hW h
  have e0 := HG.out.c0
  have e1 := HG.out.c1
  have HG0 := HG
  have KI : Hid (∀ z : World, Below W.heap.size W z → Calls Tryz.prog 199 #[.agg #[.int .i64 m, .slice A m c], .int .i64 (t : Int)] z fun e w' => e = .returned (.bool (indB r t)) ∧ Below z.heap.size z w') := fun z hz => IsIndependent_sv (HG0.out.gv.keep hz) hcl
  have KC : Hid (∀ z : World, Below W.heap.size W z → Calls Tryz.prog 242 #[.agg #[.int .i64 m, .slice A m c], .int .i64 (s : Int)] z fun e w' => e = .returned (.bool (cliq r s)) ∧ Below z.heap.size z w') := fun z hz => IsClique_sv (HG0.out.gv.keep hz) (by rw [← HF.out]; exact hs)
  go_enter Tryz.func196, Tryz.ntmps196
  cases hc : cliq r s
  · have Hn : Hid (splB r m s = false) := by show _ = _; unfold splB; rw [hc]; rfl
    rw [hc] at KC
    clear hc
    go_wp2
    rw [← HW.out]
    clear HW
    have HSC : Hid (∀ z : World, Below W.heap.size W z → (Below W.heap.size W z ∧ z.cell? ⟨w.heap.size, 0, none⟩ = some (.int .i64 m) ∧ z.cell? ⟨w.heap.size, 1, none⟩ = some (.slice A m c))) := fun z hz => ⟨hz, up_ hz e0, up_ hz e1⟩
    have HZ0 : Hid (Below W.heap.size W W.drew) := (Below.refl _ _).drew
    have HS1 := Lib.hid (HSC.out _ HZ0.out)
    have KR1 : Hid (∀ z : World, Below W.heap.size W z → _) := fun z hz => KC.out _ hz
    refine wp_region_held_drew (S := fun z => Below W.heap.size W z ∧ z.cell? ⟨w.heap.size, 0, none⟩ = some (.int .i64 m) ∧ z.cell? ⟨w.heap.size, 1, none⟩ = some (.slice A m c)) (by kernel_rfl) HS1.out (fun hHeld => ?_)
    refine take_yes (i := 0) (d := 5) (v := ?v15) rfl rfl (by kernel_rfl) (by kernel_rfl) (by kernel_rfl) (fun _ _ _ h => h) (by rfl) ?y15 (by assumption) ?r15
    case y15 => (intro w hSw; (try dsimp only at hSw); go_simp <;> with_reducible rfl)
    simp only [Act.put, sl0, sl1, sl2]
    refine take_yes (i := 1) (d := 6) (v := ?v16) rfl rfl (by kernel_rfl) (by kernel_rfl) (by kernel_rfl) (fun _ _ _ h => h) (by rfl) ?y16 (by assumption) ?r16
    case y16 => (intro w hSw; (try dsimp only at hSw); go_simp <;> with_reducible rfl)
    simp only [Act.put, sl0, sl1, sl2]
    refine wpAnyH_ready (rs := [2]) (by kernel_rfl) (by simp) ?_
    refine AllReadyH.cons rfl (fun K hK => ?_) AllReadyH.nil
    go_simp
    go_at_call 242; refine (KR1.out _ HZ0.out).mono ?_
    rintro e w1 ⟨rfl, hb1⟩
    have hz1 := bl_trans HZ0.out hb1
    refine hK.out _ _ (HSC.out _ hz1) (fun hHeld => ?_)
    clear hK K
    try simp only [Act.put, sl0, sl1, sl2]
    refine take_yes (i := 3) (d := 8) (v := ?v17) rfl rfl (by kernel_rfl) (by kernel_rfl) (by kernel_rfl) (fun _ _ _ h => h) (by rfl) ?y17 (by assumption) ?r17
    case y17 => (intro w hSw; (try dsimp only at hSw); go_simp <;> with_reducible rfl)
    simp only [Act.put, sl0, sl1, sl2]
    refine take_no (i := 4) (d := 9) rfl rfl (by kernel_rfl) (by kernel_rfl) (by kernel_rfl) (fun _ _ _ h => h) (by rfl) (by assumption) ?_
    simp only [Act.put, sl0, sl1, sl2]
    refine take_no (i := 5) (d := 10) rfl rfl (by kernel_rfl) (by kernel_rfl) (by kernel_rfl) (fun _ _ _ h => h) (by rfl) (by assumption) ?_
    simp only [Act.put, sl0, sl1, sl2]
    refine take_no (i := 6) (d := 11) rfl rfl (by kernel_rfl) (by kernel_rfl) (by kernel_rfl) (fun _ _ _ h => h) (by rfl) (by assumption) ?_
    simp only [Act.put, sl0, sl1, sl2]
    refine take_no (i := 7) (d := 12) rfl rfl (by kernel_rfl) (by kernel_rfl) (by kernel_rfl) (fun _ _ _ h => h) (by rfl) (by assumption) ?_
    simp only [Act.put, sl0, sl1, sl2]
    refine take_no (i := 8) (d := 13) rfl rfl (by kernel_rfl) (by kernel_rfl) (by kernel_rfl) (fun _ _ _ h => h) (by rfl) (by assumption) ?_
    simp only [Act.put, sl0, sl1, sl2]
    refine take_no (i := 9) (d := 14) rfl rfl (by kernel_rfl) (by kernel_rfl) (by kernel_rfl) (fun _ _ _ h => h) (by rfl) (by assumption) ?_
    simp only [Act.put, sl0, sl1, sl2]
    refine take_no (i := 10) (d := 15) rfl rfl (by kernel_rfl) (by kernel_rfl) (by kernel_rfl) (fun _ _ _ h => h) (by rfl) (by assumption) ?_
    simp only [Act.put, sl0, sl1, sl2]
    refine take_no (i := 11) (d := 16) rfl rfl (by kernel_rfl) (by kernel_rfl) (by kernel_rfl) (fun _ _ _ h => h) (by rfl) (by assumption) ?_
    simp only [Act.put, sl0, sl1, sl2]
    refine take_yes (i := 12) (d := 17) (v := ?v18) rfl rfl (by kernel_rfl) (by kernel_rfl) (by kernel_rfl) (fun _ _ _ h => h) (by rfl) ?y18 (by assumption) ?r18
    case y18 => (intro w hSw; (try dsimp only at hSw); go_simp <;> with_reducible rfl)
    simp only [Act.put, sl0, sl1, sl2]
    refine take_yes (i := 13) (d := 4) (v := ?v19) rfl rfl (by kernel_rfl) (by kernel_rfl) (by kernel_rfl) (fun _ _ _ h => h) (by rfl) ?y19 (by assumption) ?r19
    case y19 => (intro w hSw; (try dsimp only at hSw); go_simp <;> with_reducible rfl)
    simp only [Act.put, sl0, sl1, sl2]
    refine wpAnyH_done (by kernel_rfl) ?_ _
    clear e0 e1
    replace HB := Lib.hid (HB.out.keep hz1)
    replace HG := Lib.hid (HG.out.keep hz1)
    clear hb1 hz1 HSC HZ0 HS1 KR1
    have e0 := HG.out.c0
    have e1 := HG.out.c1
    go_wp2
    go_ret
    exact ⟨ret_bool Hn.out.symm, HB.out.below⟩
  · have Hn : Hid (splB r m s = indB r t) := by show _ = _; unfold splB; rw [hc, Ht.out]; rfl
    rw [hc] at KC
    clear hc
    go_wp2
    rw [← HW.out]
    clear HW
    have HSC : Hid (∀ z : World, Below W.heap.size W z → (Below W.heap.size W z ∧ z.cell? ⟨w.heap.size, 0, none⟩ = some (.int .i64 m) ∧ z.cell? ⟨w.heap.size, 1, none⟩ = some (.slice A m c))) := fun z hz => ⟨hz, up_ hz e0, up_ hz e1⟩
    have HZ0 : Hid (Below W.heap.size W W.drew) := (Below.refl _ _).drew
    have HS1 := Lib.hid (HSC.out _ HZ0.out)
    have KR1 : Hid (∀ z : World, Below W.heap.size W z → _) := fun z hz => KC.out _ hz
    have KR2 : Hid (∀ z : World, Below W.heap.size W z → _) := fun z hz => KI.out _ hz
    refine wp_region_held_drew (S := fun z => Below W.heap.size W z ∧ z.cell? ⟨w.heap.size, 0, none⟩ = some (.int .i64 m) ∧ z.cell? ⟨w.heap.size, 1, none⟩ = some (.slice A m c)) (by kernel_rfl) HS1.out (fun hHeld => ?_)
    refine take_yes (i := 0) (d := 5) (v := ?v20) rfl rfl (by kernel_rfl) (by kernel_rfl) (by kernel_rfl) (fun _ _ _ h => h) (by rfl) ?y20 (by assumption) ?r20
    case y20 => (intro w hSw; (try dsimp only at hSw); go_simp <;> with_reducible rfl)
    simp only [Act.put, sl0, sl1, sl2]
    refine take_yes (i := 1) (d := 6) (v := ?v21) rfl rfl (by kernel_rfl) (by kernel_rfl) (by kernel_rfl) (fun _ _ _ h => h) (by rfl) ?y21 (by assumption) ?r21
    case y21 => (intro w hSw; (try dsimp only at hSw); go_simp <;> with_reducible rfl)
    simp only [Act.put, sl0, sl1, sl2]
    refine wpAnyH_ready (rs := [2]) (by kernel_rfl) (by simp) ?_
    refine AllReadyH.cons rfl (fun K hK => ?_) AllReadyH.nil
    go_simp
    go_at_call 242; refine (KR1.out _ HZ0.out).mono ?_
    rintro e w2 ⟨rfl, hb2⟩
    have hz2 := bl_trans HZ0.out hb2
    refine hK.out _ _ (HSC.out _ hz2) (fun hHeld => ?_)
    clear hK K
    try simp only [Act.put, sl0, sl1, sl2]
    refine take_yes (i := 3) (d := 8) (v := ?v22) rfl rfl (by kernel_rfl) (by kernel_rfl) (by kernel_rfl) (fun _ _ _ h => h) (by rfl) ?y22 (by assumption) ?r22
    case y22 => (intro w hSw; (try dsimp only at hSw); go_simp <;> with_reducible rfl)
    simp only [Act.put, sl0, sl1, sl2]
    refine take_yes (i := 4) (d := 9) (v := ?v23) rfl rfl (by kernel_rfl) (by kernel_rfl) (by kernel_rfl) (fun _ _ _ h => h) (by rfl) ?y23 (by assumption) ?r23
    case y23 => (intro w hSw; (try dsimp only at hSw); go_simp <;> with_reducible rfl)
    simp only [Act.put, sl0, sl1, sl2]
    refine take_yes (i := 5) (d := 10) (v := ?v24) rfl rfl (by kernel_rfl) (by kernel_rfl) (by kernel_rfl) (fun _ _ _ h => h) (by rfl) ?y24 (by assumption) ?r24
    case y24 => (intro w hSw; (try dsimp only at hSw); go_simp <;> with_reducible rfl)
    simp only [Act.put, sl0, sl1, sl2]
    refine take_yes (i := 6) (d := 11) (v := ?v25) rfl rfl (by kernel_rfl) (by kernel_rfl) (by kernel_rfl) (fun _ _ _ h => h) (by rfl) ?y25 (by assumption) ?r25
    case y25 => (intro w hSw; (try dsimp only at hSw); go_simp <;> with_reducible rfl)
    simp only [Act.put, sl0, sl1, sl2]
    refine take_yes (i := 7) (d := 12) (v := ?v26) rfl rfl (by kernel_rfl) (by kernel_rfl) (by kernel_rfl) (fun _ _ _ h => h) (by rfl) ?y26 (by assumption) ?r26
    case y26 => (intro w hSw; (try dsimp only at hSw); go_simp <;> with_reducible rfl)
    simp only [Act.put, sl0, sl1, sl2]
    refine take_yes (i := 8) (d := 13) (v := ?v27) rfl rfl (by kernel_rfl) (by kernel_rfl) (by kernel_rfl) (fun _ _ _ h => h) (by rfl) ?y27 (by assumption) ?r27
    case y27 => (intro w hSw; (try dsimp only at hSw); go_simp <;> with_reducible rfl)
    simp only [Act.put, sl0, sl1, sl2]
    refine take_yes (i := 9) (d := 14) (v := ?v28) rfl rfl (by kernel_rfl) (by kernel_rfl) (by kernel_rfl) (fun _ _ _ h => h) (by rfl) ?y28 (by assumption) ?r28
    case y28 => (intro w hSw; (try dsimp only at hSw); go_simp <;> with_reducible rfl)
    simp only [Act.put, sl0, sl1, sl2]
    refine take_yes (i := 10) (d := 15) (v := ?v29) rfl rfl (by kernel_rfl) (by kernel_rfl) (by kernel_rfl) (fun _ _ _ h => h) (by rfl) ?y29 (by assumption) ?r29
    case y29 => (intro w hSw; (try dsimp only at hSw); go_simp <;> with_reducible rfl)
    simp only [Act.put, sl0, sl1, sl2]
    refine wpAnyH_ready (rs := [11]) (by kernel_rfl) (by simp) ?_
    refine AllReadyH.cons rfl (fun K hK => ?_) AllReadyH.nil
    go_simp
    go_at_call 199; refine (KR2.out _ hz2).mono ?_
    rintro e w3 ⟨rfl, hb3⟩
    have hz3 := bl_trans hz2 hb3
    refine hK.out _ _ (HSC.out _ hz3) (fun hHeld => ?_)
    clear hK K
    try simp only [Act.put, sl0, sl1, sl2]
    refine take_yes (i := 12) (d := 17) (v := ?v30) rfl rfl (by kernel_rfl) (by kernel_rfl) (by kernel_rfl) (fun _ _ _ h => h) (by rfl) ?y30 (by assumption) ?r30
    case y30 => (intro w hSw; (try dsimp only at hSw); go_simp <;> with_reducible rfl)
    simp only [Act.put, sl0, sl1, sl2]
    refine take_yes (i := 13) (d := 4) (v := ?v31) rfl rfl (by kernel_rfl) (by kernel_rfl) (by kernel_rfl) (fun _ _ _ h => h) (by rfl) ?y31 (by assumption) ?r31
    case y31 => (intro w hSw; (try dsimp only at hSw); go_simp <;> with_reducible rfl)
    simp only [Act.put, sl0, sl1, sl2]
    refine wpAnyH_done (by kernel_rfl) ?_ _
    clear e0 e1
    replace HB := Lib.hid (HB.out.keep hz3)
    replace HG := Lib.hid (HG.out.keep hz3)
    clear hb2 hz2 hb3 hz3 HSC HZ0 HS1 KR1 KR2
    have e0 := HG.out.c0
    have e1 := HG.out.c1
    go_wp2
    go_ret
    exact ⟨ret_bool Hn.out.symm, HB.out.below⟩
end
section
variable (sz : Int) (A : Option Addr) (m c : Nat) (x : Nat → Int) (s : Int) (w : World)
end
end Go.Proofs.YtppkokgiojcgbaaGreatDoor
