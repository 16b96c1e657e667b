/-
-/
import Derived.Test.YtppkokgiojcgbaaGreatDoorQxIndI
import Derived.Test.YtppkokgiojcgbaaGreatDoorQxJoinI
namespace Go.Proofs.YtppkokgiojcgbaaGreatDoor
open Go.RowKit
def pfO (r : Nat → Nat) (m : Nat) : Option Nat := lsK (pfB r) (2 ^ m)
noncomputable def peB (sz : Int) (m : Nat) (x : Nat → Int) : Bool := okB sz m x && !(pfO (rw_ x) m).isSome
theorem peB_no {sz : Int} {m : Nat} {x : Nat → Int} (h : okB sz m x = false) : peB sz m x = false := by unfold peB; rw [h]; rfl
theorem peB_yes {sz : Int} {m : Nat} {x : Nat → Int} (h : okB sz m x = true) : peB sz m x = !(pfO (rw_ x) m).isSome := by unfold peB; rw [h]; rfl
section
variable {A : Option Addr} {m c : Nat} {r : Nat → Nat} {s : Nat} {w : World}
set_option maxRecDepth 100000 in
set_option maxHeartbeats 1600000 in
theorem InducedOn_v (h : GV w A m c r) (hs : s < 2 ^ m) (h0 : s ≠ 0) :
 Calls Tryz.prog 105 #[.agg #[.int .i64 m, .slice A m c], .int .i64 s] w fun e w' => ∃ A' c', e = .returned (.tuple #[.agg #[.int .i64 (cn s : Nat), .slice A' (cn s) c'], .bool true]) ∧ Own w' w.heap.size w'.heap.size 3 1 A' (cn s) c' (fun j => .int .i64 (inR r s j : Nat)) ∧ Below w.heap.size w w' := by
 obtain ⟨W, hW⟩ : ∃ W : World, W = ((w.alloc (Obj.cells #[Value.int IntKind.i64 m, Value.slice A m c] 29)).alloc (Obj.cells #[Value.int IntKind.i64 0, Value.slice none 0 0] 29)) := ⟨_, rfl⟩
 have HB : Hid (From w W) := by rw [hW]; exact (From.alloc _ _).alloc_ _
 have HG : Hid (GBox W w.heap.size A m c r) := by rw [hW]; exact h.box.keep ((Below.refl _ _).alloc (Nat.le_refl _) _)
 have HQ : Hid (GC W (w.heap.size + 1) 0 none 0 0) := by
  rw [hW]
  have := GC.new (w.alloc (Obj.cells #[Value.int IntKind.i64 m, Value.slice A m c] 29)) 0 none 0 0
  show GC _ _ _ _ _ _
  simpa using this
 have HW := Lib.hid hW
 have hne : ((s : Int) == 0) = false := by simp; omega
 have Hs := Lib.hid hs
 have H0 := Lib.hid h0
 obtain ⟨n, hn⟩ : ∃ n, n = cn s := ⟨_, rfl⟩
 rw [← hn]
 have Hn := Lib.hid hn
 clear hW h hs h0 hn
 go_enter Tryz.func105, Tryz.ntmps105
 have e0 := HG.out.c0
 have e1 := HG.out.c1
 go_wp2_with fail
 rw [← HW.out]
 clear HW
 refine (IsSet_v HG.out.gv Hs.out).mono ?_
 rintro e w1 ⟨rfl, hb1⟩
 clear e0 e1
 replace HB := Lib.hid (HB.out.keep hb1)
 replace HQ := Lib.hid (HQ.out.keep hb1)
 replace HG := Lib.hid (HG.out.keep hb1)
 clear hb1
 have e0 := HG.out.c0
 have e1 := HG.out.c1
 have KI := Lib.hid (induced_v HG.out.gv Hs.out H0.out)
 rw [← Hn.out] at KI
 have hq1 := HQ.out.lt
 go_wp2_with fail
 refine KI.out.mono ?_
 rintro e w2 ⟨A2, c2, rfl, ho2, hb2⟩
 have HO2 := Lib.hid ho2
 have HZ2 : Hid (w1.heap.size ≤ w2.heap.size) := hb2.size
 clear e0 e1
 replace HB := Lib.hid (HB.out.keep hb2)
 replace HQ := Lib.hid (HQ.out.keep hb2)
 replace HG := Lib.hid (HG.out.keep hb2)
 clear hb2 ho2 KI
 have e0 := HG.out.c0
 have e1 := HG.out.c1
 have d0 := HQ.out.c0
 have d1 := HQ.out.c1
 have d2 := HQ.out.f0
 have d3 := HQ.out.f1
 have F := fr2 w2 (w.heap.size + 1) (.int .i64 (n : Int)) (.slice A2 n c2)
 have HE := (HB.out.set (q := w.heap.size + 1) (Nat.le_succ _) (.int .i64 (n : Int)) (.slice A2 n c2)).below
 have HOE := (HO2.out.keep F (.inr (by omega))).mono (by omega : w.heap.size ≤ w1.heap.size) F.size
 go_wp2
 exact bodyPost_ret (v := .tuple #[.agg #[.int .i64 (n : Int), .slice A2 n c2], .bool true]) (by simp [results, Tryz.results105, go_sem, *]) rfl ⟨A2, c2, rfl, HOE, HE⟩
set_option maxRecDepth 100000 in
set_option maxHeartbeats 1600000 in
theorem InducedOn_v0 (h : GV w A m c r) :
 Calls Tryz.prog 105 #[.agg #[.int .i64 m, .slice A m c], .int .i64 0] w fun e w' => e = .returned (.tuple #[.agg #[.int .i64 0, .slice none 0 0], .bool false]) ∧ Below w.heap.size w w' := by
 obtain ⟨W, hW⟩ : ∃ W : World, W = ((w.alloc (Obj.cells #[Value.int IntKind.i64 m, Value.slice A m c] 29)).alloc (Obj.cells #[Value.int IntKind.i64 0, Value.slice none 0 0] 29)) := ⟨_, rfl⟩
 have HB : Hid (From w W) := by rw [hW]; exact (From.alloc _ _).alloc_ _
 have HG : Hid (GBox W w.heap.size A m c r) := by rw [hW]; exact h.box.keep ((Below.refl _ _).alloc (Nat.le_refl _) _)
 have HQ : Hid (GC W (w.heap.size + 1) 0 none 0 0) := by
  rw [hW]
  have := GC.new (w.alloc (Obj.cells #[Value.int IntKind.i64 m, Value.slice A m c] 29)) 0 none 0 0
  show GC _ _ _ _ _ _
  simpa using this
 have HW := Lib.hid hW
 have KS : Hid (Calls Tryz.prog 157 #[.agg #[.int .i64 m, .slice A m c], .int .i64 0] W fun e w' => e = .returned (.bool true) ∧ Below W.heap.size W w') := IsSet_v (s := 0) HG.out.gv (Nat.two_pow_pos m)
 clear hW h
 go_enter Tryz.func105, Tryz.ntmps105
 have e0 := HG.out.c0
 have e1 := HG.out.c1
 go_wp2_with fail
 rw [← HW.out]
 clear HW
 refine KS.out.mono ?_
 rintro e w1 ⟨rfl, hb1⟩
 clear e0 e1
 replace HB := Lib.hid (HB.out.keep hb1)
 replace HQ := Lib.hid (HQ.out.keep hb1)
 replace HG := Lib.hid (HG.out.keep hb1)
 clear hb1 KS
 have e0 := HG.out.c0
 have e1 := HG.out.c1
 have d0 := HQ.out.c0
 have d1 := HQ.out.c1
 have d2 := HQ.out.f0
 have d3 := HQ.out.f1
 have HE := (HB.out.set (q := w.heap.size + 1) (Nat.le_succ _) (.int .i64 0) (.slice none 0 0)).below
 go_wp2
 exact bodyPost_ret (v := .tuple #[.agg #[.int .i64 0, .slice none 0 0], .bool false]) (by simp [results, Tryz.results105, go_sem, *]) rfl ⟨rfl, HE⟩
set_option maxRecDepth 100000 in
set_option maxHeartbeats 1600000 in
theorem PrfF (h : GV w A m c r) (hs : s < 2 ^ m) :
 Calls Tryz.prog 239 #[.agg #[.int .i64 m, .slice A m c], .int .i64 s] w fun e w' => e = .returned (.bool (pfB r s)) ∧ Below w.heap.size w w' := by
 have hn7 := h.vg.n7
 have HV := Lib.hid h.vg
 have Hs := Lib.hid hs
 obtain ⟨W, hW⟩ : ∃ W : World, W = (w.alloc (Obj.cells #[Value.int IntKind.i64 m, Value.slice A m c] 29)) := ⟨_, rfl⟩
 have HB : Hid (From w W) := by rw [hW]; exact From.alloc _ _
 have HG : Hid (GBox W w.heap.size A m c r) := by rw [hW]; exact h.box
 have HW := Lib.hid hW
 clear hW h
 have e0 := HG.out.c0
 have e1 := HG.out.c1
 by_cases h0 : s = 0
 ·subst h0
  have KI := Lib.hid (InducedOn_v0 HG.out.gv)
  have Hp : Hid (pfB r 0 = false) := pfB_zero r
  go_enter Tryz.func239, Tryz.ntmps239
  have HZ : Hid (((0 : Nat) : Int) = 0) := rfl
  rw [HZ.out]
  go_wp2_with fail
  rw [← HW.out]
  refine (KI.out).mono ?_
  rintro e w1 ⟨rfl, hb1⟩
  clear HW
  clear e0 e1
  replace HB := Lib.hid (HB.out.keep hb1)
  replace HG := Lib.hid (HG.out.keep hb1)
  clear hb1
  have e0 := HG.out.c0
  have e1 := HG.out.c1
  obtain ⟨W2, hW2⟩ : ∃ W2 : World, W2 = (w1.alloc (Obj.cells #[Value.int IntKind.i64 0, Value.slice none 0 0] 29)) := ⟨_, rfl⟩
  have hb2 : Below w1.heap.size w1 W2 := by rw [hW2]; exact (Below.refl _ _).alloc (Nat.le_refl _) _
  clear e0 e1
  replace HB := Lib.hid (HB.out.keep hb2)
  replace HG := Lib.hid (HG.out.keep hb2)
  clear KI
  have e0 := HG.out.c0
  have e1 := HG.out.c1
  have HW2 := Lib.hid hW2
  clear hW2 hb2
  go_wp2
  rw [← HW2.out]
  clear HW2
  have HSC : Hid (∀ z : World, Below W2.heap.size W2 z → (Below W2.heap.size W2 z)) := fun z hz => hz
  have HZ0 : Hid (Below W2.heap.size W2 W2.drew) := (Below.refl _ _).drew
  have HS1 := Lib.hid (HSC.out _ HZ0.out)
  refine wp_region_held_drew (S := fun z => Below W2.heap.size W2 z) (by kernel_rfl) HS1.out (fun hHeld => ?_)
  refine pcY 0 rfl rfl (by kernel_rfl) (by rfl) (by intro w u; (try dsimp only at u); go_simp <;> with_reducible rfl) ‹_› (fun _ _ _ h => h) ?_; simp only [Act.put, sl0, sl1, sl2]
  refine ptY rfl rfl (by kernel_rfl) (by rfl) (by intro w u; (try dsimp only at u); go_simp <;> with_reducible rfl) ‹_› (fun _ _ _ h => h) ?_; simp only [Act.put, sl0, sl1, sl2]
  iterate 5 (refine ptN rfl rfl (by kernel_rfl) (by rfl) ‹_› (fun _ _ _ h => h) ?_; simp only [Act.put, sl0, sl1, sl2])
  iterate 2 (refine ptY rfl rfl (by kernel_rfl) (by rfl) (by intro w u; (try dsimp only at u); go_simp <;> with_reducible rfl) ‹_› (fun _ _ _ h => h) ?_; simp only [Act.put, sl0, sl1, sl2])
  refine wpAnyH_done (by kernel_rfl) ?_ _
  clear e0 e1
  replace HB := Lib.hid (HB.out.keep HZ0.out)
  replace HG := Lib.hid (HG.out.keep HZ0.out)
  clear HSC HZ0 HS1
  have e0 := HG.out.c0
  have e1 := HG.out.c1
  go_wp2
  go_ret
  exact ⟨ret_bool Hp.out.symm, HB.out.below⟩
 have hp := pfB_not (r := r) h0
 have KI := Lib.hid (InducedOn_v HG.out.gv Hs.out h0)
 have Hgv : Hid (∀ {A' : Option Addr} {c' lo hi : Nat} {w' : World}, Own w' lo hi 3 1 A' (cn s) c' (fun j => .int .i64 (inR r s j : Nat)) → hi ≤ w'.heap.size → GV w' A' (cn s) c' (inR r s)) := fun h hhi => ind_gv HV.out Hs.out h0 h hhi
 obtain ⟨R, hR⟩ : ∃ R, R = inR r s := ⟨_, rfl⟩
 obtain ⟨n, hn⟩ : ∃ n, n = cn s := ⟨_, rfl⟩
 have KI2 : Hid (Calls Tryz.prog 105 #[.agg #[.int .i64 m, .slice A m c], .int .i64 s] W fun e w' => ∃ A' c', e = .returned (.tuple #[.agg #[.int .i64 (n : Nat), .slice A' n c'], .bool true]) ∧ GV w' A' n c' R ∧ Below W.heap.size W w') := by
  rw [hR, hn]
  refine KI.out.mono ?_
  rintro e w' ⟨A', c', h1, h2, h3⟩
  exact ⟨A', c', h1, Hgv.out h2 (Nat.le_refl _), h3⟩
 rw [← hR, ← hn] at hp
 obtain ⟨X, hX⟩ : ∃ X, X = chN R n := ⟨_, rfl⟩
 obtain ⟨Y, hY⟩ : ∃ Y, Y = cn (lqN R n) := ⟨_, rfl⟩
 have KX : Hid (∀ {A' : Option Addr} {c' : Nat} {z : World}, GV z A' n c' R → Calls Tryz.prog 240 #[.agg #[.int .i64 n, .slice A' n c']] z fun e w' => e = .returned (.int .i64 (X : Nat)) ∧ Below z.heap.size z w') := by rw [hX]; exact fun h => ChromaticNumber_v h
 have KY : Hid (∀ {A' : Option Addr} {c' : Nat} {z : World}, GV z A' n c' R → Calls Tryz.prog 241 #[.agg #[.int .i64 n, .slice A' n c']] z fun e w' => e = .returned (.int .i64 (Y : Nat)) ∧ Below z.heap.size z w') := by rw [hY]; exact fun h => CliqueNumber_v h
 rw [← hX, ← hY] at hp
 have Hp := Lib.hid hp
 clear hR hn hX hY hp KI Hgv h0
 go_enter Tryz.func239, Tryz.ntmps239
 go_wp2_with fail
 rw [← HW.out]
 refine (KI2.out).mono ?_
 rintro e w2 ⟨A2, c2, rfl, hg2, hb2⟩
 clear HW
 clear e0 e1
 replace HB := Lib.hid (HB.out.keep hb2)
 replace HG := Lib.hid (HG.out.keep hb2)
 clear hb2
 have e0 := HG.out.c0
 have e1 := HG.out.c1
 clear KI2
 obtain ⟨W2, hW2⟩ : ∃ W2 : World, W2 = (w2.alloc (Obj.cells #[Value.int IntKind.i64 n, Value.slice A2 n c2] 29)) := ⟨_, rfl⟩
 have hb2 : Below w2.heap.size w2 W2 := by rw [hW2]; exact (Below.refl _ _).alloc (Nat.le_refl _) _
 have HU : Hid (GC W2 w2.heap.size n A2 n c2) := by rw [hW2]; exact GC.new _ _ _ _ _
 have HG2 : Hid (GV W2 A2 n c2 R) := hg2.keep hb2
 clear e0 e1
 replace HB := Lib.hid (HB.out.keep hb2)
 replace HG := Lib.hid (HG.out.keep hb2)
 clear hg2
 have e0 := HG.out.c0
 have e1 := HG.out.c1
 have HW2 := Lib.hid hW2
 clear hW2 hb2
 have d0 := HU.out.c0
 have d1 := HU.out.c1
 by_cases hlt : Y < X
 ·have i1 : (Y : Int) < (X : Int) := by omega
  have Hq : Hid (pfB r s = true) := by show _ = _; rw [Hp.out]; exact decide_eq_true hlt
  clear hlt
  go_wp2
  rw [← HW2.out]
  clear HW2
  have HSC : Hid (∀ z : World, Below W2.heap.size W2 z → (Below W2.heap.size W2 z ∧ z.cell? ⟨w2.heap.size, 0, none⟩ = some (.int .i64 n) ∧ z.cell? ⟨w2.heap.size, 1, none⟩ = some (.slice A2 n c2))) := fun z hz => ⟨hz, up_ hz d0, up_ hz d1⟩
  have HZ0 : Hid (Below W2.heap.size W2 W2.drew) := (Below.refl _ _).drew
  have HS1 := Lib.hid (HSC.out _ HZ0.out)
  have KR1 : Hid (∀ z : World, Below W2.heap.size W2 z → _) := fun z hz => KX.out (HG2.out.keep hz)
  have KR2 : Hid (∀ z : World, Below W2.heap.size W2 z → _) := fun z hz => KY.out (HG2.out.keep hz)
  refine wp_region_held_drew (S := fun z => Below W2.heap.size W2 z ∧ z.cell? ⟨w2.heap.size, 0, none⟩ = some (.int .i64 n) ∧ z.cell? ⟨w2.heap.size, 1, none⟩ = some (.slice A2 n c2)) (by kernel_rfl) HS1.out (fun hHeld => ?_)
  refine pcY 0 rfl rfl (by kernel_rfl) (by rfl) (by intro w u; (try dsimp only at u); go_simp <;> with_reducible rfl) ‹_› (fun _ _ _ h => h) ?_; simp only [Act.put, sl0, sl1, sl2]
  iterate 2 (refine ptY rfl rfl (by kernel_rfl) (by rfl) (by intro w u; (try dsimp only at u); go_simp <;> with_reducible rfl) ‹_› (fun _ _ _ h => h) ?_; simp only [Act.put, sl0, sl1, sl2])
  refine pcY 4 rfl rfl (by kernel_rfl) (by rfl) (by intro w u; (try dsimp only at u); go_simp <;> with_reducible rfl) ‹_› (fun _ _ _ h => h) ?_; simp only [Act.put, sl0, sl1, sl2]
  refine wpAnyH_ready (rs := [3]) (by kernel_rfl) (by simp) ?_
  refine AllReadyH.cons rfl (fun K hK => ?_) AllReadyH.nil
  go_simp
  go_at_call 240; refine (KR1.out _ HZ0.out).mono ?_
  rintro e w3 ⟨rfl, hb3⟩
  have hz3 := bl_trans HZ0.out hb3
  refine hK.out _ _ (HSC.out _ hz3) (fun hHeld => ?_)
  clear hK K
  try simp only [Act.put, sl0, sl1, sl2]
  refine wpAnyH_ready (rs := [5]) (by kernel_rfl) (by simp) ?_
  refine AllReadyH.cons rfl (fun K hK => ?_) AllReadyH.nil
  go_simp
  go_at_call 241; refine (KR2.out _ hz3).mono ?_
  rintro e w4 ⟨rfl, hb4⟩
  have hz4 := bl_trans hz3 hb4
  refine hK.out _ _ (HSC.out _ hz4) (fun hHeld => ?_)
  clear hK K
  try simp only [Act.put, sl0, sl1, sl2]
  iterate 3 (refine ptY rfl rfl (by kernel_rfl) (by rfl) (by intro w u; (try dsimp only at u); go_simp <;> with_reducible rfl) ‹_› (fun _ _ _ h => h) ?_; simp only [Act.put, sl0, sl1, sl2])
  refine wpAnyH_done (by kernel_rfl) ?_ _
  clear e0 e1
  replace HB := Lib.hid (HB.out.keep hz4)
  replace HG := Lib.hid (HG.out.keep hz4)
  clear hb3 hz3 hb4 hz4 HSC HZ0 HS1 KR1 KR2
  have e0 := HG.out.c0
  have e1 := HG.out.c1
  go_wp2
  go_ret
  exact ⟨ret_bool Hq.out.symm, HB.out.below⟩
 ·have i1 : (X : Int) ≤ (Y : Int) := by omega
  have Hq : Hid (pfB r s = false) := by show _ = _; rw [Hp.out]; exact decide_eq_false hlt
  clear hlt
  go_wp2
  rw [← HW2.out]
  clear HW2
  have HSC : Hid (∀ z : World, Below W2.heap.size W2 z → (Below W2.heap.size W2 z ∧ z.cell? ⟨w2.heap.size, 0, none⟩ = some (.int .i64 n) ∧ z.cell? ⟨w2.heap.size, 1, none⟩ = some (.slice A2 n c2))) := fun z hz => ⟨hz, up_ hz d0, up_ hz d1⟩
  have HZ0 : Hid (Below W2.heap.size W2 W2.drew) := (Below.refl _ _).drew
  have HS1 := Lib.hid (HSC.out _ HZ0.out)
  have KR1 : Hid (∀ z : World, Below W2.heap.size W2 z → _) := fun z hz => KX.out (HG2.out.keep hz)
  have KR2 : Hid (∀ z : World, Below W2.heap.size W2 z → _) := fun z hz => KY.out (HG2.out.keep hz)
  refine wp_region_held_drew (S := fun z => Below W2.heap.size W2 z ∧ z.cell? ⟨w2.heap.size, 0, none⟩ = some (.int .i64 n) ∧ z.cell? ⟨w2.heap.size, 1, none⟩ = some (.slice A2 n c2)) (by kernel_rfl) HS1.out (fun hHeld => ?_)
  refine pcY 0 rfl rfl (by kernel_rfl) (by rfl) (by intro w u; (try dsimp only at u); go_simp <;> with_reducible rfl) ‹_› (fun _ _ _ h => h) ?_; simp only [Act.put, sl0, sl1, sl2]
  iterate 2 (refine ptY rfl rfl (by kernel_rfl) (by rfl) (by intro w u; (try dsimp only at u); go_simp <;> with_reducible rfl) ‹_› (fun _ _ _ h => h) ?_; simp only [Act.put, sl0, sl1, sl2])
  refine pcY 4 rfl rfl (by kernel_rfl) (by rfl) (by intro w u; (try dsimp only at u); go_simp <;> with_reducible rfl) ‹_› (fun _ _ _ h => h) ?_; simp only [Act.put, sl0, sl1, sl2]
  refine wpAnyH_ready (rs := [3]) (by kernel_rfl) (by simp) ?_
  refine AllReadyH.cons rfl (fun K hK => ?_) AllReadyH.nil
  go_simp
  go_at_call 240; refine (KR1.out _ HZ0.out).mono ?_
  rintro e w5 ⟨rfl, hb5⟩
  have hz5 := bl_trans HZ0.out hb5
  refine hK.out _ _ (HSC.out _ hz5) (fun hHeld => ?_)
  clear hK K
  try simp only [Act.put, sl0, sl1, sl2]
  refine wpAnyH_ready (rs := [5]) (by kernel_rfl) (by simp) ?_
  refine AllReadyH.cons rfl (fun K hK => ?_) AllReadyH.nil
  go_simp
  go_at_call 241; refine (KR2.out _ hz5).mono ?_
  rintro e w6 ⟨rfl, hb6⟩
  have hz6 := bl_trans hz5 hb6
  refine hK.out _ _ (HSC.out _ hz6) (fun hHeld => ?_)
  clear hK K
  try simp only [Act.put, sl0, sl1, sl2]
  iterate 3 (refine ptY rfl rfl (by kernel_rfl) (by rfl) (by intro w u; (try dsimp only at u); go_simp <;> with_reducible rfl) ‹_› (fun _ _ _ h => h) ?_; simp only [Act.put, sl0, sl1, sl2])
  refine wpAnyH_done (by kernel_rfl) ?_ _
  clear e0 e1
  replace HB := Lib.hid (HB.out.keep hz6)
  replace HG := Lib.hid (HG.out.keep hz6)
  clear hb5 hz5 hb6 hz6 HSC HZ0 HS1 KR1 KR2
  have e0 := HG.out.c0
  have e1 := HG.out.c1
  go_wp2
  go_ret
  exact ⟨ret_bool (by rw [Hq.out]; first | rfl | exact decide_eq_false (by omega)), HB.out.below⟩
set_option maxHeartbeats 1000000 in
theorem LeastImperfect_v (h : GV w A m c r) :
 Calls Tryz.prog 190 #[.agg #[.int .i64 m, .slice A m c]] w fun e w' => e = .returned (lsV (pfO r m)) ∧ Below w.heap.size w w' := by
 obtain ⟨W, hW⟩ : ∃ W : World, W = (w.alloc (Obj.cells #[Value.int IntKind.i64 m, Value.slice A m c] 29)) := ⟨_, rfl⟩
 have HB : Hid (From w W) := by rw [hW]; exact From.alloc _ _
 have HG : Hid (GBox W w.heap.size A m c r) := by rw [hW]; exact h.box
 have HW := Lib.hid hW
 clear hW h
 have e0 := HG.out.c0
 have e1 := HG.out.c1
 have HS : Hid (pfO r m = lsK (pfB r) (2 ^ m)) := rfl
 go_enter Tryz.func190, Tryz.ntmps190
 go_wp2_with fail
 rw [← HW.out]
 refine (least_g (p := pfB r) (caps := #[]) (ent_of Tryz.func239 (by kernel_rfl) rfl) W HG.out.gv (fun s z hs hb => PrfF (HG.out.gv.keep hb) hs)).mono ?_
 rintro e w1 ⟨rfl, hb1⟩
 clear HW
 clear e0 e1
 replace HB := Lib.hid (HB.out.keep hb1)
 replace HG := Lib.hid (HG.out.keep hb1)
 clear hb1
 have e0 := HG.out.c0
 have e1 := HG.out.c1
 rw [← HS.out]
 cases hso : pfO r m with
 | none =>
   have Hn := Lib.hid hso
   clear hso
   rw [lsV_none]
   go_wp2
   go_ret2
   exact ⟨by rw [Hn.out]; rfl, HB.out.below⟩
 | some k =>
   have Hn := Lib.hid hso
   clear hso
   rw [lsV_some]
   go_wp2
   go_ret2
   exact ⟨by rw [Hn.out]; rfl, HB.out.below⟩
end
section
variable (sz : Int) (A : Option Addr) (m c : Nat) (x : Nat → Int) (w : World)
set_option maxHeartbeats 1000000 in
theorem LeastImperfect_no (h : GA w A m c x) (hm : m ≤ 1048576) (hok : okB sz m x = false) :
 Calls Tryz.prog 190 #[.agg #[.int .i64 sz, .slice A m c]] w fun e w' => e = .returned (lsV none) ∧ Below w.heap.size w w' := by
 obtain ⟨W, hW⟩ : ∃ W : World, W = (w.alloc (Obj.cells #[Value.int IntKind.i64 sz, Value.slice A m c] 29)) := ⟨_, rfl⟩
 have HB : Hid (From w W) := by rw [hW]; exact From.alloc _ _
 have HK := Lib.hid (h.keep HB.out.below)
 have HC : Hid (GC W w.heap.size sz A m c) := by rw [hW]; exact GC.new _ _ _ _ _
 have HW := Lib.hid hW
 have KF := Lib.hid (least_no (f := .func (.func 239) #[] #[]) HK.out hm hok)
 clear hW h hok
 go_enter Tryz.func190, Tryz.ntmps190
 have e0 := HC.out.c0
 have e1 := HC.out.c1
 go_wp2_with fail
 rw [← HW.out]
 refine (KF.out).mono ?_
 rintro e w1 ⟨rfl, hb1⟩
 clear HW
 clear e0 e1
 replace HB := Lib.hid (HB.out.keep hb1)
 replace HK := Lib.hid (HK.out.keep hb1)
 replace HC := Lib.hid (HC.out.keep hb1)
 clear hb1
 have e0 := HC.out.c0
 have e1 := HC.out.c1
 clear KF
 rw [lsV_none]
 go_wp2
 go_ret2
 exact ⟨rfl, HB.out.below⟩
set_option maxRecDepth 100000 in
set_option maxHeartbeats 1600000 in
theorem IsPerfect_i (h : GA w A m c x) (hm : m ≤ 1048576) :
 Calls Tryz.prog 136 #[.agg #[.int .i64 sz, .slice A m c]] w fun e w' => e = .returned (.bool (peB sz m x)) ∧ Below w.heap.size w w' := by
 obtain ⟨W, hW⟩ : ∃ W : World, W = (w.alloc (Obj.cells #[Value.int IntKind.i64 sz, Value.slice A m c] 29)) := ⟨_, rfl⟩
 have HB : Hid (From w W) := by rw [hW]; exact From.alloc _ _
 have HK := Lib.hid (h.keep HB.out.below)
 have HC : Hid (GC W w.heap.size sz A m c) := by rw [hW]; exact GC.new _ _ _ _ _
 have HW := Lib.hid hW
 clear hW h
 go_enter Tryz.func136, Tryz.ntmps136
 cases ho : okB sz m x
 ·have Hn : Hid (peB sz m x = false) := peB_no ho
  have KF := Lib.hid (LeastImperfect_no sz A m c x W HK.out hm ho)
  have Ho := Lib.hid ho
  clear ho
  have e0 := HC.out.c0
  have e1 := HC.out.c1
  go_wp2_with fail
  rw [← HW.out]
  refine (KF.out).mono ?_
  rintro e w1 ⟨rfl, hb1⟩
  clear HW
  clear e0 e1
  replace HB := Lib.hid (HB.out.keep hb1)
  replace HK := Lib.hid (HK.out.keep hb1)
  replace HC := Lib.hid (HC.out.keep hb1)
  clear hb1
  have e0 := HC.out.c0
  have e1 := HC.out.c1
  clear KF
  rw [lsV_none]
  go_wp2_with fail
  refine (IsGraph_any sz A m c x w1 w1.heap.size HK.out.rd (Nat.le_refl _) hm).mono ?_
  rintro e w2 ⟨rfl, hb2⟩
  rw [Ho.out]
  clear e0 e1
  replace HB := Lib.hid (HB.out.keep hb2)
  replace HK := Lib.hid (HK.out.keep hb2)
  replace HC := Lib.hid (HC.out.keep hb2)
  clear hb2
  have e0 := HC.out.c0
  have e1 := HC.out.c1
  go_wp2
  go_ret
  exact ⟨ret_bool Hn.out.symm, HB.out.below⟩
 obtain ⟨_, es, _, _⟩ := okB_ok' ho
 subst es
 have Hn : Hid (peB (m : Int) m x = !(pfO (rw_ x) m).isSome) := peB_yes ho
 have HG : Hid (GBox W w.heap.size A m c (rw_ x)) := ⟨HK.out.gv ho, HC.out.c0, HC.out.c1, HC.out.lt⟩
 have KF := Lib.hid (LeastImperfect_v HG.out.gv)
 obtain ⟨o, ho2⟩ : ∃ o, o = pfO (rw_ x) m := ⟨_, rfl⟩
 rw [← ho2] at Hn KF
 clear ho ho2 HC HK
 cases o
 ·skip
  have e0 := HG.out.c0
  have e1 := HG.out.c1
  go_wp2_with fail
  rw [← HW.out]
  refine (KF.out).mono ?_
  rintro e w2 ⟨rfl, hb2⟩
  clear HW
  clear e0 e1
  replace HB := Lib.hid (HB.out.keep hb2)
  replace HG := Lib.hid (HG.out.keep hb2)
  clear hb2
  have e0 := HG.out.c0
  have e1 := HG.out.c1
  clear KF
  rw [lsV_none]
  go_wp2_with fail
  refine (IsGraph_v HG.out.gv).mono ?_
  rintro e w3 ⟨rfl, hb3⟩
  clear e0 e1
  replace HB := Lib.hid (HB.out.keep hb3)
  replace HG := Lib.hid (HG.out.keep hb3)
  clear hb3
  have e0 := HG.out.c0
  have e1 := HG.out.c1
  go_wp2
  go_ret
  exact ⟨ret_bool Hn.out.symm, HB.out.below⟩
 ·skip
  have e0 := HG.out.c0
  have e1 := HG.out.c1
  go_wp2_with fail
  rw [← HW.out]
  refine (KF.out).mono ?_
  rintro e w4 ⟨rfl, hb4⟩
  clear HW
  clear e0 e1
  replace HB := Lib.hid (HB.out.keep hb4)
  replace HG := Lib.hid (HG.out.keep hb4)
  clear hb4
  have e0 := HG.out.c0
  have e1 := HG.out.c1
  clear KF
  rw [lsV_some]
  go_wp2_with fail
  refine (IsGraph_v HG.out.gv).mono ?_
  rintro e w5 ⟨rfl, hb5⟩
  clear e0 e1
  replace HB := Lib.hid (HB.out.keep hb5)
  replace HG := Lib.hid (HG.out.keep hb5)
  clear hb5
  have e0 := HG.out.c0
  have e1 := HG.out.c1
  go_wp2
  go_ret
  exact ⟨ret_bool Hn.out.symm, HB.out.below⟩
end
end Go.Proofs.YtppkokgiojcgbaaGreatDoor
