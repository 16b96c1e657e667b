/-
-/
import Derived.Test.YtppkokgiojcgbaaGreatDoorQxSet2I
import Derived.Test.YtppkokgiojcgbaaGreatDoorQxSet2S
import Derived.Test.YtppkokgiojcgbaaGreatDoorQxListS
import Derived.Test.YtppkokgiojcgbaaGreatDoorQxJoinI
namespace Go.Proofs.YtppkokgiojcgbaaGreatDoor
open Go.RowKit
def splB (r : Nat → Nat) (m s : Nat) : Bool := cliq r s && indB r ((2 ^ m - 1) ^^^ s)
section
variable (sz : Int) (A : Option Addr) (m c : Nat) (x : Nat → Int) (s : Int) (w : World)
end
section
variable {A : Option Addr} {m c : Nat} {r : Nat → Nat} {w : World} {s : Nat}
theorem comp_lt (hm : m ≤ 7) (hs : s < 2 ^ m) : (2 ^ m - 1) ^^^ s < 2 ^ m := full_lt hm hs
set_option maxHeartbeats 1000000 in
theorem IsSplitPartition_v (h : GV w A m c r) (hs : s < 2 ^ m) :
 Calls Tryz.prog 232 #[.agg #[.int .i64 m, .slice A m c], .int .i64 s] w fun e w' => e = .returned (.bool (splB r m s)) ∧ Below w.heap.size w w' := by
 have hn7 := h.vg.n7
 have h128 := two_pow_le hn7
 have hcl := comp_lt hn7 hs
 have E := i64_andNot_nat (2 ^ m - 1) s (by omega) (by omega)
 rw [full_and hs] at E
 obtain ⟨t, ht⟩ : ∃ t, t = (2 ^ m - 1) ^^^ s := ⟨_, rfl⟩
 obtain ⟨F, hF⟩ : ∃ F, F = 2 ^ m - 1 := ⟨_, rfl⟩
 have KA : Hid (∀ z : World, Calls Tryz.prog 106 #[.agg #[.int .i64 m, .slice A m c]] z fun e w' => e = .returned (.int .i64 (F : Nat)) ∧ Below z.heap.size z w') := by rw [hF]; exact fun z => all_any m A c z hn7
 rw [← ht] at hcl
 rw [← ht, ← hF] at E
 have Ht := Lib.hid ht
 clear ht hF
 obtain ⟨W, hW⟩ : ∃ W : World, W = (w.alloc (Obj.cells #[Value.int IntKind.i64 m, Value.slice A m c] 29)) := ⟨_, rfl⟩
 have HB : Hid (From w W) := by rw [hW]; exact From.alloc _ _
 have HG : Hid (GBox W w.heap.size A m c r) := by rw [hW]; exact h.box
 have HW := Lib.hid hW
 clear hW h
 have e0 := HG.out.c0
 have e1 := HG.out.c1
 have HG0 := HG
 have KI : Hid (∀ z : World, Below W.heap.size W z → Calls Tryz.prog 236 #[.agg #[.int .i64 m, .slice A m c], .int .i64 (t : Int)] z fun e w' => e = .returned (.bool (indB r t)) ∧ Below z.heap.size z w') := fun z hz => IsIndependent_v (HG0.out.gv.keep hz) hcl
 have KC : Hid (∀ z : World, Below W.heap.size W z → Calls Tryz.prog 270 #[.agg #[.int .i64 m, .slice A m c], .int .i64 (s : Int)] z fun e w' => e = .returned (.bool (cliq r s)) ∧ Below z.heap.size z w') := fun z hz => IsClique_v (HG0.out.gv.keep hz) hs
 go_enter Tryz.func232, Tryz.ntmps232
 cases hc : cliq r s
 ·have Hn : Hid (splB r m s = false) := by show _ = _; unfold splB; rw [hc]; rfl
  rw [hc] at KC
  clear hc
  go_wp2
  rw [← HW.out]
  clear HW
  have HSC : Hid (∀ z : World, Below W.heap.size W z → (Below W.heap.size W z ∧ z.cell? ⟨w.heap.size, 0, none⟩ = some (.int .i64 m) ∧ z.cell? ⟨w.heap.size, 1, none⟩ = some (.slice A m c))) := fun z hz => ⟨hz, up_ hz e0, up_ hz e1⟩
  have HZ0 : Hid (Below W.heap.size W W.drew) := (Below.refl _ _).drew
  have HS1 := Lib.hid (HSC.out _ HZ0.out)
  have KR1 : Hid (∀ z : World, Below W.heap.size W z → _) := fun z hz => KC.out _ hz
  refine wp_region_held_drew (S := fun z => Below W.heap.size W z ∧ z.cell? ⟨w.heap.size, 0, none⟩ = some (.int .i64 m) ∧ z.cell? ⟨w.heap.size, 1, none⟩ = some (.slice A m c)) (by kernel_rfl) HS1.out (fun hHeld => ?_)
  refine pcY 0 rfl rfl (by kernel_rfl) (by rfl) (by intro w u; (try dsimp only at u); go_simp <;> with_reducible rfl) ‹_› (fun _ _ _ h => h) ?_; simp only [Act.put, sl0, sl1, sl2]
  refine ptY rfl rfl (by kernel_rfl) (by rfl) (by intro w u; (try dsimp only at u); go_simp <;> with_reducible rfl) ‹_› (fun _ _ _ h => h) ?_; simp only [Act.put, sl0, sl1, sl2]
  refine wpAnyH_ready (rs := [2]) (by kernel_rfl) (by simp) ?_
  refine AllReadyH.cons rfl (fun K hK => ?_) AllReadyH.nil
  go_simp
  go_at_call 270; refine (KR1.out _ HZ0.out).mono ?_
  rintro e w1 ⟨rfl, hb1⟩
  have hz1 := bl_trans HZ0.out hb1
  refine hK.out _ _ (HSC.out _ hz1) (fun hHeld => ?_)
  clear hK K
  try simp only [Act.put, sl0, sl1, sl2]
  refine ptY rfl rfl (by kernel_rfl) (by rfl) (by intro w u; (try dsimp only at u); go_simp <;> with_reducible rfl) ‹_› (fun _ _ _ h => h) ?_; simp only [Act.put, sl0, sl1, sl2]
  iterate 6 (refine ptN rfl rfl (by kernel_rfl) (by rfl) ‹_› (fun _ _ _ h => h) ?_; simp only [Act.put, sl0, sl1, sl2])
  iterate 2 (refine ptY rfl rfl (by kernel_rfl) (by rfl) (by intro w u; (try dsimp only at u); go_simp <;> with_reducible rfl) ‹_› (fun _ _ _ h => h) ?_; simp only [Act.put, sl0, sl1, sl2])
  refine wpAnyH_done (by kernel_rfl) ?_ _
  clear e0 e1
  replace HB := Lib.hid (HB.out.keep hz1)
  replace HG := Lib.hid (HG.out.keep hz1)
  clear hb1 hz1 HSC HZ0 HS1 KR1
  have e0 := HG.out.c0
  have e1 := HG.out.c1
  go_wp2
  go_ret
  exact ⟨ret_bool Hn.out.symm, HB.out.below⟩
 ·have Hn : Hid (splB r m s = indB r t) := by show _ = _; unfold splB; rw [hc, Ht.out]; rfl
  rw [hc] at KC
  clear hc
  go_wp2
  rw [← HW.out]
  clear HW
  have HSC : Hid (∀ z : World, Below W.heap.size W z → (Below W.heap.size W z ∧ z.cell? ⟨w.heap.size, 0, none⟩ = some (.int .i64 m) ∧ z.cell? ⟨w.heap.size, 1, none⟩ = some (.slice A m c))) := fun z hz => ⟨hz, up_ hz e0, up_ hz e1⟩
  have HZ0 : Hid (Below W.heap.size W W.drew) := (Below.refl _ _).drew
  have HS1 := Lib.hid (HSC.out _ HZ0.out)
  have KR1 : Hid (∀ z : World, Below W.heap.size W z → _) := fun z hz => KC.out _ hz
  have KR2 : Hid (∀ z : World, Below W.heap.size W z → _) := fun z hz => KA.out z
  have KR3 : Hid (∀ z : World, Below W.heap.size W z → _) := fun z hz => KI.out _ hz
  refine wp_region_held_drew (S := fun z => Below W.heap.size W z ∧ z.cell? ⟨w.heap.size, 0, none⟩ = some (.int .i64 m) ∧ z.cell? ⟨w.heap.size, 1, none⟩ = some (.slice A m c)) (by kernel_rfl) HS1.out (fun hHeld => ?_)
  refine pcY 0 rfl rfl (by kernel_rfl) (by rfl) (by intro w u; (try dsimp only at u); go_simp <;> with_reducible rfl) ‹_› (fun _ _ _ h => h) ?_; simp only [Act.put, sl0, sl1, sl2]
  refine ptY rfl rfl (by kernel_rfl) (by rfl) (by intro w u; (try dsimp only at u); go_simp <;> with_reducible rfl) ‹_› (fun _ _ _ h => h) ?_; simp only [Act.put, sl0, sl1, sl2]
  refine wpAnyH_ready (rs := [2]) (by kernel_rfl) (by simp) ?_
  refine AllReadyH.cons rfl (fun K hK => ?_) AllReadyH.nil
  go_simp
  go_at_call 270; refine (KR1.out _ HZ0.out).mono ?_
  rintro e w2 ⟨rfl, hb2⟩
  have hz2 := bl_trans HZ0.out hb2
  refine hK.out _ _ (HSC.out _ hz2) (fun hHeld => ?_)
  clear hK K
  try simp only [Act.put, sl0, sl1, sl2]
  iterate 3 (refine ptY rfl rfl (by kernel_rfl) (by rfl) (by intro w u; (try dsimp only at u); go_simp <;> with_reducible rfl) ‹_› (fun _ _ _ h => h) ?_; simp only [Act.put, sl0, sl1, sl2])
  refine pcY 7 rfl rfl (by kernel_rfl) (by rfl) (by intro w u; (try dsimp only at u); go_simp <;> with_reducible rfl) ‹_› (fun _ _ _ h => h) ?_; simp only [Act.put, sl0, sl1, sl2]
  refine wpAnyH_ready (rs := [6]) (by kernel_rfl) (by simp) ?_
  refine AllReadyH.cons rfl (fun K hK => ?_) AllReadyH.nil
  go_simp
  go_at_call 106; refine (KR2.out _ hz2).mono ?_
  rintro e w3 ⟨rfl, hb3⟩
  have hz3 := bl_trans hz2 hb3
  refine hK.out _ _ (HSC.out _ hz3) (fun hHeld => ?_)
  clear hK K
  try simp only [Act.put, sl0, sl1, sl2]
  refine pcY 8 rfl rfl (by kernel_rfl) (by rfl) (by intro w u; (try dsimp only at u); go_simp <;> with_reducible rfl) ‹_› (fun _ _ _ h => h) ?_; simp only [Act.put, sl0, sl1, sl2]
  refine wpAnyH_ready (rs := [9]) (by kernel_rfl) (by simp) ?_
  refine AllReadyH.cons rfl (fun K hK => ?_) AllReadyH.nil
  go_simp
  go_at_call 236; refine (KR3.out _ hz3).mono ?_
  rintro e w4 ⟨rfl, hb4⟩
  have hz4 := bl_trans hz3 hb4
  refine hK.out _ _ (HSC.out _ hz4) (fun hHeld => ?_)
  clear hK K
  try simp only [Act.put, sl0, sl1, sl2]
  iterate 2 (refine ptY rfl rfl (by kernel_rfl) (by rfl) (by intro w u; (try dsimp only at u); go_simp <;> with_reducible rfl) ‹_› (fun _ _ _ h => h) ?_; simp only [Act.put, sl0, sl1, sl2])
  refine wpAnyH_done (by kernel_rfl) ?_ _
  clear e0 e1
  replace HB := Lib.hid (HB.out.keep hz4)
  replace HG := Lib.hid (HG.out.keep hz4)
  clear hb2 hz2 hb3 hz3 hb4 hz4 HSC HZ0 HS1 KR1 KR2 KR3
  have e0 := HG.out.c0
  have e1 := HG.out.c1
  go_wp2
  go_ret
  exact ⟨ret_bool Hn.out.symm, HB.out.below⟩
set_option maxHeartbeats 1000000 in
theorem IsSplitPartition_sv (h : GV w A m c r) (hs : s < 2 ^ m) :
 Calls Tryz.prog 196 #[.agg #[.int .i64 m, .slice A m c], .int .i64 s] w fun e w' => e = .returned (.bool (splB r m s)) ∧ Below w.heap.size w w' := by
 have hn7 := h.vg.n7
 have h128 := two_pow_le hn7
 have hcl := comp_lt hn7 hs
 have hfs := full_sub hn7 hs
 obtain ⟨t, ht⟩ : ∃ t, t = (2 ^ m - 1) ^^^ s := ⟨_, rfl⟩
 obtain ⟨F, hF⟩ : ∃ F, F = 2 ^ m := ⟨_, rfl⟩
 have p1 : IntKind.i64.wrap ((2 : Int) ^ m) = (F : Int) := by rw [pow_shl m hn7, hF]; simp
 rw [← ht] at hcl
 rw [← ht, ← hF] at hfs
 have hpos := Nat.two_pow_pos m
 rw [← hF] at hpos h128 hs
 have s2 : IntKind.i64.wrap ((F : Int) - 1) = (F : Int) - 1 := Go.IntWalk.i64_in _ (by omega)
 have s3 : IntKind.i64.wrap ((F : Int) - 1 - (s : Int)) = (t : Int) := by rw [Go.IntWalk.i64_in _ (by omega)]; omega
 have Ht := Lib.hid ht
 have HF := Lib.hid hF
 clear ht hF hfs
 obtain ⟨W, hW⟩ : ∃ W : World, W = (w.alloc (Obj.cells #[Value.int IntKind.i64 m, Value.slice A m c] 29)) := ⟨_, rfl⟩
 have HB : Hid (From w W) := by rw [hW]; exact From.alloc _ _
 have HG : Hid (GBox W w.heap.size A m c r) := by rw [hW]; exact h.box
 have HW := Lib.hid hW
 clear hW h
 have e0 := HG.out.c0
 have e1 := HG.out.c1
 have HG0 := HG
 have KI : Hid (∀ z : World, Below W.heap.size W z → Calls Tryz.prog 199 #[.agg #[.int .i64 m, .slice A m c], .int .i64 (t : Int)] z fun e w' => e = .returned (.bool (indB r t)) ∧ Below z.heap.size z w') := fun z hz => IsIndependent_sv (HG0.out.gv.keep hz) hcl
 have KC : Hid (∀ z : World, Below W.heap.size W z → Calls Tryz.prog 242 #[.agg #[.int .i64 m, .slice A m c], .int .i64 (s : Int)] z fun e w' => e = .returned (.bool (cliq r s)) ∧ Below z.heap.size z w') := fun z hz => IsClique_sv (HG0.out.gv.keep hz) (by rw [← HF.out]; exact hs)
 go_enter Tryz.func196, Tryz.ntmps196
 cases hc : cliq r s
 ·have Hn : Hid (splB r m s = false) := by show _ = _; unfold splB; rw [hc]; rfl
  rw [hc] at KC
  clear hc
  go_wp2
  rw [← HW.out]
  clear HW
  have HSC : Hid (∀ z : World, Below W.heap.size W z → (Below W.heap.size W z ∧ z.cell? ⟨w.heap.size, 0, none⟩ = some (.int .i64 m) ∧ z.cell? ⟨w.heap.size, 1, none⟩ = some (.slice A m c))) := fun z hz => ⟨hz, up_ hz e0, up_ hz e1⟩
  have HZ0 : Hid (Below W.heap.size W W.drew) := (Below.refl _ _).drew
  have HS1 := Lib.hid (HSC.out _ HZ0.out)
  have KR1 : Hid (∀ z : World, Below W.heap.size W z → _) := fun z hz => KC.out _ hz
  refine wp_region_held_drew (S := fun z => Below W.heap.size W z ∧ z.cell? ⟨w.heap.size, 0, none⟩ = some (.int .i64 m) ∧ z.cell? ⟨w.heap.size, 1, none⟩ = some (.slice A m c)) (by kernel_rfl) HS1.out (fun hHeld => ?_)
  refine pcY 0 rfl rfl (by kernel_rfl) (by rfl) (by intro w u; (try dsimp only at u); go_simp <;> with_reducible rfl) ‹_› (fun _ _ _ h => h) ?_; simp only [Act.put, sl0, sl1, sl2]
  refine ptY rfl rfl (by kernel_rfl) (by rfl) (by intro w u; (try dsimp only at u); go_simp <;> with_reducible rfl) ‹_› (fun _ _ _ h => h) ?_; simp only [Act.put, sl0, sl1, sl2]
  refine wpAnyH_ready (rs := [2]) (by kernel_rfl) (by simp) ?_
  refine AllReadyH.cons rfl (fun K hK => ?_) AllReadyH.nil
  go_simp
  go_at_call 242; refine (KR1.out _ HZ0.out).mono ?_
  rintro e w1 ⟨rfl, hb1⟩
  have hz1 := bl_trans HZ0.out hb1
  refine hK.out _ _ (HSC.out _ hz1) (fun hHeld => ?_)
  clear hK K
  try simp only [Act.put, sl0, sl1, sl2]
  refine ptY rfl rfl (by kernel_rfl) (by rfl) (by intro w u; (try dsimp only at u); go_simp <;> with_reducible rfl) ‹_› (fun _ _ _ h => h) ?_; simp only [Act.put, sl0, sl1, sl2]
  iterate 8 (refine ptN rfl rfl (by kernel_rfl) (by rfl) ‹_› (fun _ _ _ h => h) ?_; simp only [Act.put, sl0, sl1, sl2])
  iterate 2 (refine ptY rfl rfl (by kernel_rfl) (by rfl) (by intro w u; (try dsimp only at u); go_simp <;> with_reducible rfl) ‹_› (fun _ _ _ h => h) ?_; simp only [Act.put, sl0, sl1, sl2])
  refine wpAnyH_done (by kernel_rfl) ?_ _
  clear e0 e1
  replace HB := Lib.hid (HB.out.keep hz1)
  replace HG := Lib.hid (HG.out.keep hz1)
  clear hb1 hz1 HSC HZ0 HS1 KR1
  have e0 := HG.out.c0
  have e1 := HG.out.c1
  go_wp2
  go_ret
  exact ⟨ret_bool Hn.out.symm, HB.out.below⟩
 ·have Hn : Hid (splB r m s = indB r t) := by show _ = _; unfold splB; rw [hc, Ht.out]; rfl
  rw [hc] at KC
  clear hc
  go_wp2
  rw [← HW.out]
  clear HW
  have HSC : Hid (∀ z : World, Below W.heap.size W z → (Below W.heap.size W z ∧ z.cell? ⟨w.heap.size, 0, none⟩ = some (.int .i64 m) ∧ z.cell? ⟨w.heap.size, 1, none⟩ = some (.slice A m c))) := fun z hz => ⟨hz, up_ hz e0, up_ hz e1⟩
  have HZ0 : Hid (Below W.heap.size W W.drew) := (Below.refl _ _).drew
  have HS1 := Lib.hid (HSC.out _ HZ0.out)
  have KR1 : Hid (∀ z : World, Below W.heap.size W z → _) := fun z hz => KC.out _ hz
  have KR2 : Hid (∀ z : World, Below W.heap.size W z → _) := fun z hz => KI.out _ hz
  refine wp_region_held_drew (S := fun z => Below W.heap.size W z ∧ z.cell? ⟨w.heap.size, 0, none⟩ = some (.int .i64 m) ∧ z.cell? ⟨w.heap.size, 1, none⟩ = some (.slice A m c)) (by kernel_rfl) HS1.out (fun hHeld => ?_)
  refine pcY 0 rfl rfl (by kernel_rfl) (by rfl) (by intro w u; (try dsimp only at u); go_simp <;> with_reducible rfl) ‹_› (fun _ _ _ h => h) ?_; simp only [Act.put, sl0, sl1, sl2]
  refine ptY rfl rfl (by kernel_rfl) (by rfl) (by intro w u; (try dsimp only at u); go_simp <;> with_reducible rfl) ‹_› (fun _ _ _ h => h) ?_; simp only [Act.put, sl0, sl1, sl2]
  refine wpAnyH_ready (rs := [2]) (by kernel_rfl) (by simp) ?_
  refine AllReadyH.cons rfl (fun K hK => ?_) AllReadyH.nil
  go_simp
  go_at_call 242; refine (KR1.out _ HZ0.out).mono ?_
  rintro e w2 ⟨rfl, hb2⟩
  have hz2 := bl_trans HZ0.out hb2
  refine hK.out _ _ (HSC.out _ hz2) (fun hHeld => ?_)
  clear hK K
  try simp only [Act.put, sl0, sl1, sl2]
  iterate 8 (refine ptY rfl rfl (by kernel_rfl) (by rfl) (by intro w u; (try dsimp only at u); go_simp <;> with_reducible rfl) ‹_› (fun _ _ _ h => h) ?_; simp only [Act.put, sl0, sl1, sl2])
  refine wpAnyH_ready (rs := [11]) (by kernel_rfl) (by simp) ?_
  refine AllReadyH.cons rfl (fun K hK => ?_) AllReadyH.nil
  go_simp
  go_at_call 199; refine (KR2.out _ hz2).mono ?_
  rintro e w3 ⟨rfl, hb3⟩
  have hz3 := bl_trans hz2 hb3
  refine hK.out _ _ (HSC.out _ hz3) (fun hHeld => ?_)
  clear hK K
  try simp only [Act.put, sl0, sl1, sl2]
  iterate 2 (refine ptY rfl rfl (by kernel_rfl) (by rfl) (by intro w u; (try dsimp only at u); go_simp <;> with_reducible rfl) ‹_› (fun _ _ _ h => h) ?_; simp only [Act.put, sl0, sl1, sl2])
  refine wpAnyH_done (by kernel_rfl) ?_ _
  clear e0 e1
  replace HB := Lib.hid (HB.out.keep hz3)
  replace HG := Lib.hid (HG.out.keep hz3)
  clear hb2 hz2 hb3 hz3 HSC HZ0 HS1 KR1 KR2
  have e0 := HG.out.c0
  have e1 := HG.out.c1
  go_wp2
  go_ret
  exact ⟨ret_bool Hn.out.symm, HB.out.below⟩
end
section
variable (sz : Int) (A : Option Addr) (m c : Nat) (x : Nat → Int) (s : Int) (w : World)
end
end Go.Proofs.YtppkokgiojcgbaaGreatDoor
