/-
-/
import Derived.Test.YtfabbohijhjpcaaGreatDoorRcBarP
import Derived.Test.YtfabbohijhjpcaaGreatDoorRcTake
namespace Go.Proofs.YtfabbohijhjpcaaGreatDoor
open Go.RowKit
section
variable (sz : Int) (A : Option Addr) (m c : Nat) (x : Nat → Int) (Al : Option Addr) (n cl : Nat) (l : List Int) (w : World)
set_option maxRecDepth 100000 in
set_option maxHeartbeats 12800000 in
theorem IsTwoEdges_s (h : GA w A m c x) (hl : LI w Al n cl l) (hm : m ≤ 1048576) (hn : n ≤ 1048576) :
 Calls Tryz.prog 275 #[.agg #[.int .i64 sz, .slice A m c], .slice Al n cl] w fun e w' => e = .returned (.bool (teB sz m x l)) ∧ Below w.heap.size w w' := by
 obtain ⟨W, hW⟩ : ∃ W : World, W = (w.alloc (Obj.cells #[Value.int IntKind.i64 sz, Value.slice A m c] 26)) := ⟨_, rfl⟩
 have HB : Hid (From w W) := by rw [hW]; exact From.alloc _ _
 have HK := Lib.hid (h.keep HB.out.below)
 have HL := Lib.hid (hl.keep HB.out.below)
 have HC : Hid (GC W w.heap.size sz A m c) := by rw [hW]; exact GC.new _ _ _ _ _
 have HW := Lib.hid hW
 have HN := Lib.hid hl.len
 have e0 := HC.out.c0
 have e1 := HC.out.c1
 clear hW h hl
 by_cases h0 : n = 4
 rotate_left
 ·as_aux_lemma =>
   have hno : Hid (teB sz m x l = false) := by show _ = _; unfold teB; rw [decide_eq_false (by rw [← HN.out]; exact h0)]; rfl
   have i9 : ((n : Int) == 4) = false := by simp; omega
   clear h0
   go_enter Tryz.func275, Tryz.ntmps275
   go_wp2_with fail
   rw [← HW.out]
   have HSC : Hid (∀ z : World, Below W.heap.size W z → (Below W.heap.size W z)) := fun z hz => hz
   have HZ0 : Hid (Below W.heap.size W W.drew) := (Below.refl _ _).drew
   have HS1 := Lib.hid (HSC.out _ HZ0.out)
   refine wp_region_held_drew (S := fun z => Below W.heap.size W z) (by kernel_rfl) HS1.out (fun hHeld => ?_)
   refine pcY 0 rfl rfl (by kernel_rfl) (by rfl) (by intro w u; (try dsimp only at u); go_simp <;> with_reducible rfl) ‹_› (fun _ _ _ h => h) ?_; simp only [Act.put, sl0, sl1, sl2]
   iterate 3 (refine ptY rfl rfl (by kernel_rfl) (by rfl) (by intro w u; (try dsimp only at u); go_simp <;> with_reducible rfl) ‹_› (fun _ _ _ h => h) ?_; simp only [Act.put, sl0, sl1, sl2])
   iterate 3 (refine ptN rfl rfl (by kernel_rfl) (by rfl) ‹_› (fun _ _ _ h => h) ?_; simp only [Act.put, sl0, sl1, sl2])
   iterate 2 (refine ptY rfl rfl (by kernel_rfl) (by rfl) (by intro w u; (try dsimp only at u); go_simp <;> with_reducible rfl) ‹_› (fun _ _ _ h => h) ?_; simp only [Act.put, sl0, sl1, sl2])
   iterate 8 (refine ptN rfl rfl (by kernel_rfl) (by rfl) ‹_› (fun _ _ _ h => h) ?_; simp only [Act.put, sl0, sl1, sl2])
   iterate 2 (refine ptY rfl rfl (by kernel_rfl) (by rfl) (by intro w u; (try dsimp only at u); go_simp <;> with_reducible rfl) ‹_› (fun _ _ _ h => h) ?_; simp only [Act.put, sl0, sl1, sl2])
   iterate 8 (refine ptN rfl rfl (by kernel_rfl) (by rfl) ‹_› (fun _ _ _ h => h) ?_; simp only [Act.put, sl0, sl1, sl2])
   iterate 2 (refine ptY rfl rfl (by kernel_rfl) (by rfl) (by intro w u; (try dsimp only at u); go_simp <;> with_reducible rfl) ‹_› (fun _ _ _ h => h) ?_; simp only [Act.put, sl0, sl1, sl2])
   iterate 9 (refine ptN rfl rfl (by kernel_rfl) (by rfl) ‹_› (fun _ _ _ h => h) ?_; simp only [Act.put, sl0, sl1, sl2])
   iterate 2 (refine ptY rfl rfl (by kernel_rfl) (by rfl) (by intro w u; (try dsimp only at u); go_simp <;> with_reducible rfl) ‹_› (fun _ _ _ h => h) ?_; simp only [Act.put, sl0, sl1, sl2])
   iterate 9 (refine ptN rfl rfl (by kernel_rfl) (by rfl) ‹_› (fun _ _ _ h => h) ?_; simp only [Act.put, sl0, sl1, sl2])
   iterate 2 (refine ptY rfl rfl (by kernel_rfl) (by rfl) (by intro w u; (try dsimp only at u); go_simp <;> with_reducible rfl) ‹_› (fun _ _ _ h => h) ?_; simp only [Act.put, sl0, sl1, sl2])
   iterate 9 (refine ptN rfl rfl (by kernel_rfl) (by rfl) ‹_› (fun _ _ _ h => h) ?_; simp only [Act.put, sl0, sl1, sl2])
   iterate 2 (refine ptY rfl rfl (by kernel_rfl) (by rfl) (by intro w u; (try dsimp only at u); go_simp <;> with_reducible rfl) ‹_› (fun _ _ _ h => h) ?_; simp only [Act.put, sl0, sl1, sl2])
   iterate 9 (refine ptN rfl rfl (by kernel_rfl) (by rfl) ‹_› (fun _ _ _ h => h) ?_; simp only [Act.put, sl0, sl1, sl2])
   iterate 2 (refine ptY rfl rfl (by kernel_rfl) (by rfl) (by intro w u; (try dsimp only at u); go_simp <;> with_reducible rfl) ‹_› (fun _ _ _ h => h) ?_; simp only [Act.put, sl0, sl1, sl2])
   refine wpAnyH_done (by kernel_rfl) ?_ _
   replace HB := Lib.hid (HB.out.keep HZ0.out)
   clear HSC HZ0 HS1
   go_wp2
   go_ret
   exact ⟨ret_bool hno.out.symm, HB.out.below⟩
 subst h0
 cases hv : vrB sz m x l
 ·as_aux_lemma =>
   have hno : Hid (teB sz m x l = false) := by show _ = _; unfold teB; rw [ajB_bad hv, Bool.and_false]
   have KD : Hid (∀ z : World, Below W.heap.size W z → Calls Tryz.prog 327 #[.agg #[.int .i64 sz, .slice A m c], .slice Al 4 cl] z fun e w' => e = .returned (.bool false) ∧ Below z.heap.size z w') := fun z hz => by
    have := l4Distinct_z sz A m c x Al 4 cl l z (HK.out.keep hz) (HL.out.keep hz) hm hn
    rwa [hv] at this
   clear hv
   go_enter Tryz.func275, Tryz.ntmps275
   go_wp2_with fail
   rw [← HW.out]
   have HSC : Hid (∀ z : World, Below W.heap.size W z → (Below W.heap.size W z ∧ z.cell? ⟨w.heap.size, 0, none⟩ = some (.int .i64 sz) ∧ z.cell? ⟨w.heap.size, 1, none⟩ = some (.slice A m c))) := fun z hz => ⟨hz, up_ hz e0, up_ hz e1⟩
   have HZ0 : Hid (Below W.heap.size W W.drew) := (Below.refl _ _).drew
   have HS1 := Lib.hid (HSC.out _ HZ0.out)
   have KR1 : Hid (∀ z : World, Below W.heap.size W z → _) := fun z hz => KD.out z hz
   refine wp_region_held_drew (S := fun z => Below W.heap.size W z ∧ z.cell? ⟨w.heap.size, 0, none⟩ = some (.int .i64 sz) ∧ z.cell? ⟨w.heap.size, 1, none⟩ = some (.slice A m c)) (by kernel_rfl) HS1.out (fun hHeld => ?_)
   refine pcY 0 rfl rfl (by kernel_rfl) (by rfl) (by intro w u; (try dsimp only at u); go_simp <;> with_reducible rfl) ‹_› (fun _ _ _ h => h) ?_; simp only [Act.put, sl0, sl1, sl2]
   iterate 5 (refine ptY rfl rfl (by kernel_rfl) (by rfl) (by intro w u; (try dsimp only at u); go_simp <;> with_reducible rfl) ‹_› (fun _ _ _ h => h) ?_; simp only [Act.put, sl0, sl1, sl2])
   refine wpAnyH_ready (rs := [6]) (by kernel_rfl) (by simp) ?_
   refine AllReadyH.cons rfl (fun K hK => ?_) AllReadyH.nil
   go_simp
   go_at_call 327; refine (KR1.out _ HZ0.out).mono ?_
   rintro e w1 ⟨rfl, hb1⟩
   have hz1 := bl_trans HZ0.out hb1
   refine hK.out _ _ (HSC.out _ hz1) (fun hHeld => ?_)
   clear hK K
   try simp only [Act.put, sl0, sl1, sl2]
   iterate 2 (refine ptY rfl rfl (by kernel_rfl) (by rfl) (by intro w u; (try dsimp only at u); go_simp <;> with_reducible rfl) ‹_› (fun _ _ _ h => h) ?_; simp only [Act.put, sl0, sl1, sl2])
   iterate 8 (refine ptN rfl rfl (by kernel_rfl) (by rfl) ‹_› (fun _ _ _ h => h) ?_; simp only [Act.put, sl0, sl1, sl2])
   iterate 2 (refine ptY rfl rfl (by kernel_rfl) (by rfl) (by intro w u; (try dsimp only at u); go_simp <;> with_reducible rfl) ‹_› (fun _ _ _ h => h) ?_; simp only [Act.put, sl0, sl1, sl2])
   iterate 8 (refine ptN rfl rfl (by kernel_rfl) (by rfl) ‹_› (fun _ _ _ h => h) ?_; simp only [Act.put, sl0, sl1, sl2])
   iterate 2 (refine ptY rfl rfl (by kernel_rfl) (by rfl) (by intro w u; (try dsimp only at u); go_simp <;> with_reducible rfl) ‹_› (fun _ _ _ h => h) ?_; simp only [Act.put, sl0, sl1, sl2])
   iterate 9 (refine ptN rfl rfl (by kernel_rfl) (by rfl) ‹_› (fun _ _ _ h => h) ?_; simp only [Act.put, sl0, sl1, sl2])
   iterate 2 (refine ptY rfl rfl (by kernel_rfl) (by rfl) (by intro w u; (try dsimp only at u); go_simp <;> with_reducible rfl) ‹_› (fun _ _ _ h => h) ?_; simp only [Act.put, sl0, sl1, sl2])
   iterate 9 (refine ptN rfl rfl (by kernel_rfl) (by rfl) ‹_› (fun _ _ _ h => h) ?_; simp only [Act.put, sl0, sl1, sl2])
   iterate 2 (refine ptY rfl rfl (by kernel_rfl) (by rfl) (by intro w u; (try dsimp only at u); go_simp <;> with_reducible rfl) ‹_› (fun _ _ _ h => h) ?_; simp only [Act.put, sl0, sl1, sl2])
   iterate 9 (refine ptN rfl rfl (by kernel_rfl) (by rfl) ‹_› (fun _ _ _ h => h) ?_; simp only [Act.put, sl0, sl1, sl2])
   iterate 2 (refine ptY rfl rfl (by kernel_rfl) (by rfl) (by intro w u; (try dsimp only at u); go_simp <;> with_reducible rfl) ‹_› (fun _ _ _ h => h) ?_; simp only [Act.put, sl0, sl1, sl2])
   iterate 9 (refine ptN rfl rfl (by kernel_rfl) (by rfl) ‹_› (fun _ _ _ h => h) ?_; simp only [Act.put, sl0, sl1, sl2])
   iterate 2 (refine ptY rfl rfl (by kernel_rfl) (by rfl) (by intro w u; (try dsimp only at u); go_simp <;> with_reducible rfl) ‹_› (fun _ _ _ h => h) ?_; simp only [Act.put, sl0, sl1, sl2])
   refine wpAnyH_done (by kernel_rfl) ?_ _
   replace HB := Lib.hid (HB.out.keep hz1)
   clear hb1 hz1 HSC HZ0 HS1 KR1
   go_wp2
   go_ret
   exact ⟨ret_bool hno.out.symm, HB.out.below⟩
 obtain ⟨ho, hV⟩ := vrB_parts hv
 obtain ⟨_, es, vg0, _⟩ := okB_ok' ho
 subst es
 have hn7 := vg0.n7
 have HG : Hid (GV W A m c (rw_ x)) := HK.out.gv ho
 have Hv := Lib.hid hv
 have HP : Hid (∀ j, j < 4 → ∃ u : Nat, l.getD j 0 = (u : Int) ∧ u < m) := fun j hj => by
  obtain ⟨a0, a1⟩ := hV.2 _ (getD_mem (l := l) (k := j) (by rw [← HN.out]; exact hj))
  obtain ⟨u, hu⟩ := Int.eq_ofNat_of_zero_le a0
  exact ⟨u, hu, by omega⟩
 have KD : Hid (∀ z : World, Below W.heap.size W z → Calls Tryz.prog 327 #[.agg #[.int .i64 m, .slice A m c], .slice Al 4 cl] z fun e w' => e = .returned (.bool true) ∧ Below z.heap.size z w') := fun z hz => by
  have := l4Distinct_z m A m c x Al 4 cl l z (HK.out.keep hz) (HL.out.keep hz) hm hn
  rwa [hv] at this
 obtain ⟨v0, hv0, m0⟩ := HP.out 0 (by omega)
 obtain ⟨v1, hv1, m1⟩ := HP.out 1 (by omega)
 obtain ⟨v2, hv2, m2⟩ := HP.out 2 (by omega)
 obtain ⟨v3, hv3, m3⟩ := HP.out 3 (by omega)
 have Hed : Hid (edZ x (l.getD 0 0) (l.getD 1 0) = (rw_ x v0).testBit v1 ∧ edZ x (l.getD 0 0) (l.getD 2 0) = (rw_ x v0).testBit v2 ∧ edZ x (l.getD 0 0) (l.getD 3 0) = (rw_ x v0).testBit v3 ∧ edZ x (l.getD 1 0) (l.getD 2 0) = (rw_ x v1).testBit v2 ∧ edZ x (l.getD 1 0) (l.getD 3 0) = (rw_ x v1).testBit v3 ∧ edZ x (l.getD 2 0) (l.getD 3 0) = (rw_ x v2).testBit v3) := by
  show _ ∧ _ ∧ _ ∧ _ ∧ _ ∧ _
  unfold edZ
  rw [hv0, hv1, hv2, hv3]
  simp only [Int.toNat_natCast, and_self]
 obtain ⟨b2, o2, hA⟩ := HL.out.addr (by omega)
 subst hA
 have p0 : W.cell? ⟨b2, o2, none⟩ = some (.int .i64 v0) := by have := HL.out.at (j := 0) (by omega); rw [hv0] at this; exact this
 have p1 : W.cell? ⟨b2, o2 + 1, none⟩ = some (.int .i64 v1) := by have := HL.out.at (j := 1) (by omega); rw [hv1] at this; exact this
 have p2 : W.cell? ⟨b2, o2 + 2, none⟩ = some (.int .i64 v2) := by have := HL.out.at (j := 2) (by omega); rw [hv2] at this; exact this
 have p3 : W.cell? ⟨b2, o2 + 3, none⟩ = some (.int .i64 v3) := by have := HL.out.at (j := 3) (by omega); rw [hv3] at this; exact this
 clear hv ho hV vg0 hv0 hv1 hv2 hv3 HP HL HK
 cases t0 : (rw_ x v0).testBit v1
 ·as_aux_lemma =>
   have hno : Hid (teB (m : Int) m x l = false) := by
    show _ = _; unfold teB
    rw [ajB_no (i := 0) (k := 1) (by omega) (by rw [← HN.out]; omega) (by rw [Hed.out.1, t0]; decide), Bool.and_false]
   have E0 : Hid (∀ z : World, Below W.heap.size W z → Calls Tryz.prog 45 #[.agg #[.int .i64 m, .slice A m c], .int .i64 v0, .int .i64 v1] z fun e w' => e = .returned (.bool false) ∧ Below z.heap.size z w') := fun z hz => by
    have := l2Edge_v (HG.out.keep hz) m0 m1
    rwa [t0] at this
   clear t0
   go_enter Tryz.func275, Tryz.ntmps275
   go_wp2_with fail
   rw [← HW.out]
   have HSC : Hid (∀ z : World, Below W.heap.size W z → (Below W.heap.size W z ∧ z.cell? ⟨w.heap.size, 0, none⟩ = some (.int .i64 m) ∧ z.cell? ⟨w.heap.size, 1, none⟩ = some (.slice A m c) ∧ z.cell? ⟨b2, o2, none⟩ = some (.int .i64 v0) ∧ z.cell? ⟨b2, o2 + 1, none⟩ = some (.int .i64 v1) ∧ z.cell? ⟨b2, o2 + 2, none⟩ = some (.int .i64 v2) ∧ z.cell? ⟨b2, o2 + 3, none⟩ = some (.int .i64 v3))) := fun z hz => ⟨hz, up_ hz e0, up_ hz e1, up_ hz p0, up_ hz p1, up_ hz p2, up_ hz p3⟩
   have HZ0 : Hid (Below W.heap.size W W.drew) := (Below.refl _ _).drew
   have HS1 := Lib.hid (HSC.out _ HZ0.out)
   have KR1 : Hid (∀ z : World, Below W.heap.size W z → _) := fun z hz => KD.out z hz
   have KR2 : Hid (∀ z : World, Below W.heap.size W z → _) := fun z hz => E0.out z hz
   refine wp_region_held_drew (S := fun z => Below W.heap.size W z ∧ z.cell? ⟨w.heap.size, 0, none⟩ = some (.int .i64 m) ∧ z.cell? ⟨w.heap.size, 1, none⟩ = some (.slice A m c) ∧ z.cell? ⟨b2, o2, none⟩ = some (.int .i64 v0) ∧ z.cell? ⟨b2, o2 + 1, none⟩ = some (.int .i64 v1) ∧ z.cell? ⟨b2, o2 + 2, none⟩ = some (.int .i64 v2) ∧ z.cell? ⟨b2, o2 + 3, none⟩ = some (.int .i64 v3)) (by kernel_rfl) HS1.out (fun hHeld => ?_)
   refine pcY 0 rfl rfl (by kernel_rfl) (by rfl) (by intro w u; (try dsimp only at u); go_simp <;> with_reducible rfl) ‹_› (fun _ _ _ h => h) ?_; simp only [Act.put, sl0, sl1, sl2]
   iterate 5 (refine ptY rfl rfl (by kernel_rfl) (by rfl) (by intro w u; (try dsimp only at u); go_simp <;> with_reducible rfl) ‹_› (fun _ _ _ h => h) ?_; simp only [Act.put, sl0, sl1, sl2])
   refine wpAnyH_ready (rs := [6]) (by kernel_rfl) (by simp) ?_
   refine AllReadyH.cons rfl (fun K hK => ?_) AllReadyH.nil
   go_simp
   go_at_call 327; refine (KR1.out _ HZ0.out).mono ?_
   rintro e w2 ⟨rfl, hb2⟩
   have hz2 := bl_trans HZ0.out hb2
   refine hK.out _ _ (HSC.out _ hz2) (fun hHeld => ?_)
   clear hK K
   try simp only [Act.put, sl0, sl1, sl2]
   iterate 9 (refine ptY rfl rfl (by kernel_rfl) (by rfl) (by intro w u; (try dsimp only at u); go_simp <;> with_reducible rfl) ‹_› (fun _ _ _ h => h) ?_; simp only [Act.put, sl0, sl1, sl2])
   refine wpAnyH_ready (rs := [16]) (by kernel_rfl) (by simp) ?_
   refine AllReadyH.cons rfl (fun K hK => ?_) AllReadyH.nil
   go_simp
   go_at_call 45; refine (KR2.out _ hz2).mono ?_
   rintro e w3 ⟨rfl, hb3⟩
   have hz3 := bl_trans hz2 hb3
   refine hK.out _ _ (HSC.out _ hz3) (fun hHeld => ?_)
   clear hK K
   try simp only [Act.put, sl0, sl1, sl2]
   iterate 2 (refine ptY rfl rfl (by kernel_rfl) (by rfl) (by intro w u; (try dsimp only at u); go_simp <;> with_reducible rfl) ‹_› (fun _ _ _ h => h) ?_; simp only [Act.put, sl0, sl1, sl2])
   iterate 8 (refine ptN rfl rfl (by kernel_rfl) (by rfl) ‹_› (fun _ _ _ h => h) ?_; simp only [Act.put, sl0, sl1, sl2])
   iterate 2 (refine ptY rfl rfl (by kernel_rfl) (by rfl) (by intro w u; (try dsimp only at u); go_simp <;> with_reducible rfl) ‹_› (fun _ _ _ h => h) ?_; simp only [Act.put, sl0, sl1, sl2])
   iterate 9 (refine ptN rfl rfl (by kernel_rfl) (by rfl) ‹_› (fun _ _ _ h => h) ?_; simp only [Act.put, sl0, sl1, sl2])
   iterate 2 (refine ptY rfl rfl (by kernel_rfl) (by rfl) (by intro w u; (try dsimp only at u); go_simp <;> with_reducible rfl) ‹_› (fun _ _ _ h => h) ?_; simp only [Act.put, sl0, sl1, sl2])
   iterate 9 (refine ptN rfl rfl (by kernel_rfl) (by rfl) ‹_› (fun _ _ _ h => h) ?_; simp only [Act.put, sl0, sl1, sl2])
   iterate 2 (refine ptY rfl rfl (by kernel_rfl) (by rfl) (by intro w u; (try dsimp only at u); go_simp <;> with_reducible rfl) ‹_› (fun _ _ _ h => h) ?_; simp only [Act.put, sl0, sl1, sl2])
   iterate 9 (refine ptN rfl rfl (by kernel_rfl) (by rfl) ‹_› (fun _ _ _ h => h) ?_; simp only [Act.put, sl0, sl1, sl2])
   iterate 2 (refine ptY rfl rfl (by kernel_rfl) (by rfl) (by intro w u; (try dsimp only at u); go_simp <;> with_reducible rfl) ‹_› (fun _ _ _ h => h) ?_; simp only [Act.put, sl0, sl1, sl2])
   iterate 9 (refine ptN rfl rfl (by kernel_rfl) (by rfl) ‹_› (fun _ _ _ h => h) ?_; simp only [Act.put, sl0, sl1, sl2])
   iterate 2 (refine ptY rfl rfl (by kernel_rfl) (by rfl) (by intro w u; (try dsimp only at u); go_simp <;> with_reducible rfl) ‹_› (fun _ _ _ h => h) ?_; simp only [Act.put, sl0, sl1, sl2])
   refine wpAnyH_done (by kernel_rfl) ?_ _
   replace HB := Lib.hid (HB.out.keep hz3)
   clear hb2 hz2 hb3 hz3 HSC HZ0 HS1 KR1 KR2
   go_wp2
   go_ret
   exact ⟨ret_bool hno.out.symm, HB.out.below⟩
 have E0 : Hid (∀ z : World, Below W.heap.size W z → Calls Tryz.prog 45 #[.agg #[.int .i64 m, .slice A m c], .int .i64 v0, .int .i64 v1] z fun e w' => e = .returned (.bool true) ∧ Below z.heap.size z w') := fun z hz => by
  have := l2Edge_v (HG.out.keep hz) m0 m1
  rwa [t0] at this
 have T0 := Lib.hid t0
 clear t0
 cases t1 : (rw_ x v2).testBit v3
 ·as_aux_lemma =>
   have hno : Hid (teB (m : Int) m x l = false) := by
    show _ = _; unfold teB
    rw [ajB_no (i := 2) (k := 3) (by omega) (by rw [← HN.out]; omega) (by rw [Hed.out.2.2.2.2.2, t1]; decide), Bool.and_false]
   have E1 : Hid (∀ z : World, Below W.heap.size W z → Calls Tryz.prog 45 #[.agg #[.int .i64 m, .slice A m c], .int .i64 v2, .int .i64 v3] z fun e w' => e = .returned (.bool false) ∧ Below z.heap.size z w') := fun z hz => by
    have := l2Edge_v (HG.out.keep hz) m2 m3
    rwa [t1] at this
   clear t1
   go_enter Tryz.func275, Tryz.ntmps275
   go_wp2_with fail
   rw [← HW.out]
   have HSC : Hid (∀ z : World, Below W.heap.size W z → (Below W.heap.size W z ∧ z.cell? ⟨w.heap.size, 0, none⟩ = some (.int .i64 m) ∧ z.cell? ⟨w.heap.size, 1, none⟩ = some (.slice A m c) ∧ z.cell? ⟨b2, o2, none⟩ = some (.int .i64 v0) ∧ z.cell? ⟨b2, o2 + 1, none⟩ = some (.int .i64 v1) ∧ z.cell? ⟨b2, o2 + 2, none⟩ = some (.int .i64 v2) ∧ z.cell? ⟨b2, o2 + 3, none⟩ = some (.int .i64 v3))) := fun z hz => ⟨hz, up_ hz e0, up_ hz e1, up_ hz p0, up_ hz p1, up_ hz p2, up_ hz p3⟩
   have HZ0 : Hid (Below W.heap.size W W.drew) := (Below.refl _ _).drew
   have HS1 := Lib.hid (HSC.out _ HZ0.out)
   have KR1 : Hid (∀ z : World, Below W.heap.size W z → _) := fun z hz => KD.out z hz
   have KR2 : Hid (∀ z : World, Below W.heap.size W z → _) := fun z hz => E0.out z hz
   have KR3 : Hid (∀ z : World, Below W.heap.size W z → _) := fun z hz => E1.out z hz
   refine wp_region_held_drew (S := fun z => Below W.heap.size W z ∧ z.cell? ⟨w.heap.size, 0, none⟩ = some (.int .i64 m) ∧ z.cell? ⟨w.heap.size, 1, none⟩ = some (.slice A m c) ∧ z.cell? ⟨b2, o2, none⟩ = some (.int .i64 v0) ∧ z.cell? ⟨b2, o2 + 1, none⟩ = some (.int .i64 v1) ∧ z.cell? ⟨b2, o2 + 2, none⟩ = some (.int .i64 v2) ∧ z.cell? ⟨b2, o2 + 3, none⟩ = some (.int .i64 v3)) (by kernel_rfl) HS1.out (fun hHeld => ?_)
   refine pcY 0 rfl rfl (by kernel_rfl) (by rfl) (by intro w u; (try dsimp only at u); go_simp <;> with_reducible rfl) ‹_› (fun _ _ _ h => h) ?_; simp only [Act.put, sl0, sl1, sl2]
   iterate 5 (refine ptY rfl rfl (by kernel_rfl) (by rfl) (by intro w u; (try dsimp only at u); go_simp <;> with_reducible rfl) ‹_› (fun _ _ _ h => h) ?_; simp only [Act.put, sl0, sl1, sl2])
   refine wpAnyH_ready (rs := [6]) (by kernel_rfl) (by simp) ?_
   refine AllReadyH.cons rfl (fun K hK => ?_) AllReadyH.nil
   go_simp
   go_at_call 327; refine (KR1.out _ HZ0.out).mono ?_
   rintro e w4 ⟨rfl, hb4⟩
   have hz4 := bl_trans HZ0.out hb4
   refine hK.out _ _ (HSC.out _ hz4) (fun hHeld => ?_)
   clear hK K
   try simp only [Act.put, sl0, sl1, sl2]
   iterate 9 (refine ptY rfl rfl (by kernel_rfl) (by rfl) (by intro w u; (try dsimp only at u); go_simp <;> with_reducible rfl) ‹_› (fun _ _ _ h => h) ?_; simp only [Act.put, sl0, sl1, sl2])
   refine wpAnyH_ready (rs := [16]) (by kernel_rfl) (by simp) ?_
   refine AllReadyH.cons rfl (fun K hK => ?_) AllReadyH.nil
   go_simp
   go_at_call 45; refine (KR2.out _ hz4).mono ?_
   rintro e w5 ⟨rfl, hb5⟩
   have hz5 := bl_trans hz4 hb5
   refine hK.out _ _ (HSC.out _ hz5) (fun hHeld => ?_)
   clear hK K
   try simp only [Act.put, sl0, sl1, sl2]
   iterate 9 (refine ptY rfl rfl (by kernel_rfl) (by rfl) (by intro w u; (try dsimp only at u); go_simp <;> with_reducible rfl) ‹_› (fun _ _ _ h => h) ?_; simp only [Act.put, sl0, sl1, sl2])
   refine wpAnyH_ready (rs := [26]) (by kernel_rfl) (by simp) ?_
   refine AllReadyH.cons rfl (fun K hK => ?_) AllReadyH.nil
   go_simp
   go_at_call 45; refine (KR3.out _ hz5).mono ?_
   rintro e w6 ⟨rfl, hb6⟩
   have hz6 := bl_trans hz5 hb6
   refine hK.out _ _ (HSC.out _ hz6) (fun hHeld => ?_)
   clear hK K
   try simp only [Act.put, sl0, sl1, sl2]
   iterate 2 (refine ptY rfl rfl (by kernel_rfl) (by rfl) (by intro w u; (try dsimp only at u); go_simp <;> with_reducible rfl) ‹_› (fun _ _ _ h => h) ?_; simp only [Act.put, sl0, sl1, sl2])
   iterate 9 (refine ptN rfl rfl (by kernel_rfl) (by rfl) ‹_› (fun _ _ _ h => h) ?_; simp only [Act.put, sl0, sl1, sl2])
   iterate 2 (refine ptY rfl rfl (by kernel_rfl) (by rfl) (by intro w u; (try dsimp only at u); go_simp <;> with_reducible rfl) ‹_› (fun _ _ _ h => h) ?_; simp only [Act.put, sl0, sl1, sl2])
   iterate 9 (refine ptN rfl rfl (by kernel_rfl) (by rfl) ‹_› (fun _ _ _ h => h) ?_; simp only [Act.put, sl0, sl1, sl2])
   iterate 2 (refine ptY rfl rfl (by kernel_rfl) (by rfl) (by intro w u; (try dsimp only at u); go_simp <;> with_reducible rfl) ‹_› (fun _ _ _ h => h) ?_; simp only [Act.put, sl0, sl1, sl2])
   iterate 9 (refine ptN rfl rfl (by kernel_rfl) (by rfl) ‹_› (fun _ _ _ h => h) ?_; simp only [Act.put, sl0, sl1, sl2])
   iterate 2 (refine ptY rfl rfl (by kernel_rfl) (by rfl) (by intro w u; (try dsimp only at u); go_simp <;> with_reducible rfl) ‹_› (fun _ _ _ h => h) ?_; simp only [Act.put, sl0, sl1, sl2])
   iterate 9 (refine ptN rfl rfl (by kernel_rfl) (by rfl) ‹_› (fun _ _ _ h => h) ?_; simp only [Act.put, sl0, sl1, sl2])
   iterate 2 (refine ptY rfl rfl (by kernel_rfl) (by rfl) (by intro w u; (try dsimp only at u); go_simp <;> with_reducible rfl) ‹_› (fun _ _ _ h => h) ?_; simp only [Act.put, sl0, sl1, sl2])
   refine wpAnyH_done (by kernel_rfl) ?_ _
   replace HB := Lib.hid (HB.out.keep hz6)
   clear hb4 hz4 hb5 hz5 hb6 hz6 HSC HZ0 HS1 KR1 KR2 KR3
   go_wp2
   go_ret
   exact ⟨ret_bool hno.out.symm, HB.out.below⟩
 have E1 : Hid (∀ z : World, Below W.heap.size W z → Calls Tryz.prog 45 #[.agg #[.int .i64 m, .slice A m c], .int .i64 v2, .int .i64 v3] z fun e w' => e = .returned (.bool true) ∧ Below z.heap.size z w') := fun z hz => by
  have := l2Edge_v (HG.out.keep hz) m2 m3
  rwa [t1] at this
 have T1 := Lib.hid t1
 clear t1
 cases t2 : (rw_ x v0).testBit v2
 rotate_left
 ·as_aux_lemma =>
   have hno : Hid (teB (m : Int) m x l = false) := by
    show _ = _; unfold teB
    rw [ajB_no (i := 0) (k := 2) (by omega) (by rw [← HN.out]; omega) (by rw [Hed.out.2.1, t2]; decide), Bool.and_false]
   have E2 : Hid (∀ z : World, Below W.heap.size W z → Calls Tryz.prog 45 #[.agg #[.int .i64 m, .slice A m c], .int .i64 v0, .int .i64 v2] z fun e w' => e = .returned (.bool true) ∧ Below z.heap.size z w') := fun z hz => by
    have := l2Edge_v (HG.out.keep hz) m0 m2
    rwa [t2] at this
   clear t2
   go_enter Tryz.func275, Tryz.ntmps275
   go_wp2_with fail
   rw [← HW.out]
   have HSC : Hid (∀ z : World, Below W.heap.size W z → (Below W.heap.size W z ∧ z.cell? ⟨w.heap.size, 0, none⟩ = some (.int .i64 m) ∧ z.cell? ⟨w.heap.size, 1, none⟩ = some (.slice A m c) ∧ z.cell? ⟨b2, o2, none⟩ = some (.int .i64 v0) ∧ z.cell? ⟨b2, o2 + 1, none⟩ = some (.int .i64 v1) ∧ z.cell? ⟨b2, o2 + 2, none⟩ = some (.int .i64 v2) ∧ z.cell? ⟨b2, o2 + 3, none⟩ = some (.int .i64 v3))) := fun z hz => ⟨hz, up_ hz e0, up_ hz e1, up_ hz p0, up_ hz p1, up_ hz p2, up_ hz p3⟩
   have HZ0 : Hid (Below W.heap.size W W.drew) := (Below.refl _ _).drew
   have HS1 := Lib.hid (HSC.out _ HZ0.out)
   have KR1 : Hid (∀ z : World, Below W.heap.size W z → _) := fun z hz => KD.out z hz
   have KR2 : Hid (∀ z : World, Below W.heap.size W z → _) := fun z hz => E0.out z hz
   have KR3 : Hid (∀ z : World, Below W.heap.size W z → _) := fun z hz => E1.out z hz
   have KR4 : Hid (∀ z : World, Below W.heap.size W z → _) := fun z hz => E2.out z hz
   refine wp_region_held_drew (S := fun z => Below W.heap.size W z ∧ z.cell? ⟨w.heap.size, 0, none⟩ = some (.int .i64 m) ∧ z.cell? ⟨w.heap.size, 1, none⟩ = some (.slice A m c) ∧ z.cell? ⟨b2, o2, none⟩ = some (.int .i64 v0) ∧ z.cell? ⟨b2, o2 + 1, none⟩ = some (.int .i64 v1) ∧ z.cell? ⟨b2, o2 + 2, none⟩ = some (.int .i64 v2) ∧ z.cell? ⟨b2, o2 + 3, none⟩ = some (.int .i64 v3)) (by kernel_rfl) HS1.out (fun hHeld => ?_)
   refine pcY 0 rfl rfl (by kernel_rfl) (by rfl) (by intro w u; (try dsimp only at u); go_simp <;> with_reducible rfl) ‹_› (fun _ _ _ h => h) ?_; simp only [Act.put, sl0, sl1, sl2]
   iterate 5 (refine ptY rfl rfl (by kernel_rfl) (by rfl) (by intro w u; (try dsimp only at u); go_simp <;> with_reducible rfl) ‹_› (fun _ _ _ h => h) ?_; simp only [Act.put, sl0, sl1, sl2])
   refine wpAnyH_ready (rs := [6]) (by kernel_rfl) (by simp) ?_
   refine AllReadyH.cons rfl (fun K hK => ?_) AllReadyH.nil
   go_simp
   go_at_call 327; refine (KR1.out _ HZ0.out).mono ?_
   rintro e w7 ⟨rfl, hb7⟩
   have hz7 := bl_trans HZ0.out hb7
   refine hK.out _ _ (HSC.out _ hz7) (fun hHeld => ?_)
   clear hK K
   try simp only [Act.put, sl0, sl1, sl2]
   iterate 9 (refine ptY rfl rfl (by kernel_rfl) (by rfl) (by intro w u; (try dsimp only at u); go_simp <;> with_reducible rfl) ‹_› (fun _ _ _ h => h) ?_; simp only [Act.put, sl0, sl1, sl2])
   refine wpAnyH_ready (rs := [16]) (by kernel_rfl) (by simp) ?_
   refine AllReadyH.cons rfl (fun K hK => ?_) AllReadyH.nil
   go_simp
   go_at_call 45; refine (KR2.out _ hz7).mono ?_
   rintro e w8 ⟨rfl, hb8⟩
   have hz8 := bl_trans hz7 hb8
   refine hK.out _ _ (HSC.out _ hz8) (fun hHeld => ?_)
   clear hK K
   try simp only [Act.put, sl0, sl1, sl2]
   iterate 9 (refine ptY rfl rfl (by kernel_rfl) (by rfl) (by intro w u; (try dsimp only at u); go_simp <;> with_reducible rfl) ‹_› (fun _ _ _ h => h) ?_; simp only [Act.put, sl0, sl1, sl2])
   refine wpAnyH_ready (rs := [26]) (by kernel_rfl) (by simp) ?_
   refine AllReadyH.cons rfl (fun K hK => ?_) AllReadyH.nil
   go_simp
   go_at_call 45; refine (KR3.out _ hz8).mono ?_
   rintro e w9 ⟨rfl, hb9⟩
   have hz9 := bl_trans hz8 hb9
   refine hK.out _ _ (HSC.out _ hz9) (fun hHeld => ?_)
   clear hK K
   try simp only [Act.put, sl0, sl1, sl2]
   iterate 9 (refine ptY rfl rfl (by kernel_rfl) (by rfl) (by intro w u; (try dsimp only at u); go_simp <;> with_reducible rfl) ‹_› (fun _ _ _ h => h) ?_; simp only [Act.put, sl0, sl1, sl2])
   refine wpAnyH_ready (rs := [36]) (by kernel_rfl) (by simp) ?_
   refine AllReadyH.cons rfl (fun K hK => ?_) AllReadyH.nil
   go_simp
   go_at_call 45; refine (KR4.out _ hz9).mono ?_
   rintro e w10 ⟨rfl, hb10⟩
   have hz10 := bl_trans hz9 hb10
   refine hK.out _ _ (HSC.out _ hz10) (fun hHeld => ?_)
   clear hK K
   try simp only [Act.put, sl0, sl1, sl2]
   iterate 3 (refine ptY rfl rfl (by kernel_rfl) (by rfl) (by intro w u; (try dsimp only at u); go_simp <;> with_reducible rfl) ‹_› (fun _ _ _ h => h) ?_; simp only [Act.put, sl0, sl1, sl2])
   iterate 9 (refine ptN rfl rfl (by kernel_rfl) (by rfl) ‹_› (fun _ _ _ h => h) ?_; simp only [Act.put, sl0, sl1, sl2])
   iterate 2 (refine ptY rfl rfl (by kernel_rfl) (by rfl) (by intro w u; (try dsimp only at u); go_simp <;> with_reducible rfl) ‹_› (fun _ _ _ h => h) ?_; simp only [Act.put, sl0, sl1, sl2])
   iterate 9 (refine ptN rfl rfl (by kernel_rfl) (by rfl) ‹_› (fun _ _ _ h => h) ?_; simp only [Act.put, sl0, sl1, sl2])
   iterate 2 (refine ptY rfl rfl (by kernel_rfl) (by rfl) (by intro w u; (try dsimp only at u); go_simp <;> with_reducible rfl) ‹_› (fun _ _ _ h => h) ?_; simp only [Act.put, sl0, sl1, sl2])
   iterate 9 (refine ptN rfl rfl (by kernel_rfl) (by rfl) ‹_› (fun _ _ _ h => h) ?_; simp only [Act.put, sl0, sl1, sl2])
   iterate 2 (refine ptY rfl rfl (by kernel_rfl) (by rfl) (by intro w u; (try dsimp only at u); go_simp <;> with_reducible rfl) ‹_› (fun _ _ _ h => h) ?_; simp only [Act.put, sl0, sl1, sl2])
   refine wpAnyH_done (by kernel_rfl) ?_ _
   replace HB := Lib.hid (HB.out.keep hz10)
   clear hb7 hz7 hb8 hz8 hb9 hz9 hb10 hz10 HSC HZ0 HS1 KR1 KR2 KR3 KR4
   go_wp2
   go_ret
   exact ⟨ret_bool hno.out.symm, HB.out.below⟩
 have E2 : Hid (∀ z : World, Below W.heap.size W z → Calls Tryz.prog 45 #[.agg #[.int .i64 m, .slice A m c], .int .i64 v0, .int .i64 v2] z fun e w' => e = .returned (.bool false) ∧ Below z.heap.size z w') := fun z hz => by
  have := l2Edge_v (HG.out.keep hz) m0 m2
  rwa [t2] at this
 have T2 := Lib.hid t2
 clear t2
 cases t3 : (rw_ x v0).testBit v3
 rotate_left
 ·as_aux_lemma =>
   have hno : Hid (teB (m : Int) m x l = false) := by
    show _ = _; unfold teB
    rw [ajB_no (i := 0) (k := 3) (by omega) (by rw [← HN.out]; omega) (by rw [Hed.out.2.2.1, t3]; decide), Bool.and_false]
   have E3 : Hid (∀ z : World, Below W.heap.size W z → Calls Tryz.prog 45 #[.agg #[.int .i64 m, .slice A m c], .int .i64 v0, .int .i64 v3] z fun e w' => e = .returned (.bool true) ∧ Below z.heap.size z w') := fun z hz => by
    have := l2Edge_v (HG.out.keep hz) m0 m3
    rwa [t3] at this
   clear t3
   go_enter Tryz.func275, Tryz.ntmps275
   go_wp2_with fail
   rw [← HW.out]
   have HSC : Hid (∀ z : World, Below W.heap.size W z → (Below W.heap.size W z ∧ z.cell? ⟨w.heap.size, 0, none⟩ = some (.int .i64 m) ∧ z.cell? ⟨w.heap.size, 1, none⟩ = some (.slice A m c) ∧ z.cell? ⟨b2, o2, none⟩ = some (.int .i64 v0) ∧ z.cell? ⟨b2, o2 + 1, none⟩ = some (.int .i64 v1) ∧ z.cell? ⟨b2, o2 + 2, none⟩ = some (.int .i64 v2) ∧ z.cell? ⟨b2, o2 + 3, none⟩ = some (.int .i64 v3))) := fun z hz => ⟨hz, up_ hz e0, up_ hz e1, up_ hz p0, up_ hz p1, up_ hz p2, up_ hz p3⟩
   have HZ0 : Hid (Below W.heap.size W W.drew) := (Below.refl _ _).drew
   have HS1 := Lib.hid (HSC.out _ HZ0.out)
   have KR1 : Hid (∀ z : World, Below W.heap.size W z → _) := fun z hz => KD.out z hz
   have KR2 : Hid (∀ z : World, Below W.heap.size W z → _) := fun z hz => E0.out z hz
   have KR3 : Hid (∀ z : World, Below W.heap.size W z → _) := fun z hz => E1.out z hz
   have KR4 : Hid (∀ z : World, Below W.heap.size W z → _) := fun z hz => E2.out z hz
   have KR5 : Hid (∀ z : World, Below W.heap.size W z → _) := fun z hz => E3.out z hz
   refine wp_region_held_drew (S := fun z => Below W.heap.size W z ∧ z.cell? ⟨w.heap.size, 0, none⟩ = some (.int .i64 m) ∧ z.cell? ⟨w.heap.size, 1, none⟩ = some (.slice A m c) ∧ z.cell? ⟨b2, o2, none⟩ = some (.int .i64 v0) ∧ z.cell? ⟨b2, o2 + 1, none⟩ = some (.int .i64 v1) ∧ z.cell? ⟨b2, o2 + 2, none⟩ = some (.int .i64 v2) ∧ z.cell? ⟨b2, o2 + 3, none⟩ = some (.int .i64 v3)) (by kernel_rfl) HS1.out (fun hHeld => ?_)
   refine pcY 0 rfl rfl (by kernel_rfl) (by rfl) (by intro w u; (try dsimp only at u); go_simp <;> with_reducible rfl) ‹_› (fun _ _ _ h => h) ?_; simp only [Act.put, sl0, sl1, sl2]
   iterate 5 (refine ptY rfl rfl (by kernel_rfl) (by rfl) (by intro w u; (try dsimp only at u); go_simp <;> with_reducible rfl) ‹_› (fun _ _ _ h => h) ?_; simp only [Act.put, sl0, sl1, sl2])
   refine wpAnyH_ready (rs := [6]) (by kernel_rfl) (by simp) ?_
   refine AllReadyH.cons rfl (fun K hK => ?_) AllReadyH.nil
   go_simp
   go_at_call 327; refine (KR1.out _ HZ0.out).mono ?_
   rintro e w11 ⟨rfl, hb11⟩
   have hz11 := bl_trans HZ0.out hb11
   refine hK.out _ _ (HSC.out _ hz11) (fun hHeld => ?_)
   clear hK K
   try simp only [Act.put, sl0, sl1, sl2]
   iterate 9 (refine ptY rfl rfl (by kernel_rfl) (by rfl) (by intro w u; (try dsimp only at u); go_simp <;> with_reducible rfl) ‹_› (fun _ _ _ h => h) ?_; simp only [Act.put, sl0, sl1, sl2])
   refine wpAnyH_ready (rs := [16]) (by kernel_rfl) (by simp) ?_
   refine AllReadyH.cons rfl (fun K hK => ?_) AllReadyH.nil
   go_simp
   go_at_call 45; refine (KR2.out _ hz11).mono ?_
   rintro e w12 ⟨rfl, hb12⟩
   have hz12 := bl_trans hz11 hb12
   refine hK.out _ _ (HSC.out _ hz12) (fun hHeld => ?_)
   clear hK K
   try simp only [Act.put, sl0, sl1, sl2]
   iterate 9 (refine ptY rfl rfl (by kernel_rfl) (by rfl) (by intro w u; (try dsimp only at u); go_simp <;> with_reducible rfl) ‹_› (fun _ _ _ h => h) ?_; simp only [Act.put, sl0, sl1, sl2])
   refine wpAnyH_ready (rs := [26]) (by kernel_rfl) (by simp) ?_
   refine AllReadyH.cons rfl (fun K hK => ?_) AllReadyH.nil
   go_simp
   go_at_call 45; refine (KR3.out _ hz12).mono ?_
   rintro e w13 ⟨rfl, hb13⟩
   have hz13 := bl_trans hz12 hb13
   refine hK.out _ _ (HSC.out _ hz13) (fun hHeld => ?_)
   clear hK K
   try simp only [Act.put, sl0, sl1, sl2]
   iterate 9 (refine ptY rfl rfl (by kernel_rfl) (by rfl) (by intro w u; (try dsimp only at u); go_simp <;> with_reducible rfl) ‹_› (fun _ _ _ h => h) ?_; simp only [Act.put, sl0, sl1, sl2])
   refine wpAnyH_ready (rs := [36]) (by kernel_rfl) (by simp) ?_
   refine AllReadyH.cons rfl (fun K hK => ?_) AllReadyH.nil
   go_simp
   go_at_call 45; refine (KR4.out _ hz13).mono ?_
   rintro e w14 ⟨rfl, hb14⟩
   have hz14 := bl_trans hz13 hb14
   refine hK.out _ _ (HSC.out _ hz14) (fun hHeld => ?_)
   clear hK K
   try simp only [Act.put, sl0, sl1, sl2]
   iterate 10 (refine ptY rfl rfl (by kernel_rfl) (by rfl) (by intro w u; (try dsimp only at u); go_simp <;> with_reducible rfl) ‹_› (fun _ _ _ h => h) ?_; simp only [Act.put, sl0, sl1, sl2])
   refine wpAnyH_ready (rs := [47]) (by kernel_rfl) (by simp) ?_
   refine AllReadyH.cons rfl (fun K hK => ?_) AllReadyH.nil
   go_simp
   go_at_call 45; refine (KR5.out _ hz14).mono ?_
   rintro e w15 ⟨rfl, hb15⟩
   have hz15 := bl_trans hz14 hb15
   refine hK.out _ _ (HSC.out _ hz15) (fun hHeld => ?_)
   clear hK K
   try simp only [Act.put, sl0, sl1, sl2]
   iterate 3 (refine ptY rfl rfl (by kernel_rfl) (by rfl) (by intro w u; (try dsimp only at u); go_simp <;> with_reducible rfl) ‹_› (fun _ _ _ h => h) ?_; simp only [Act.put, sl0, sl1, sl2])
   iterate 9 (refine ptN rfl rfl (by kernel_rfl) (by rfl) ‹_› (fun _ _ _ h => h) ?_; simp only [Act.put, sl0, sl1, sl2])
   iterate 2 (refine ptY rfl rfl (by kernel_rfl) (by rfl) (by intro w u; (try dsimp only at u); go_simp <;> with_reducible rfl) ‹_› (fun _ _ _ h => h) ?_; simp only [Act.put, sl0, sl1, sl2])
   iterate 9 (refine ptN rfl rfl (by kernel_rfl) (by rfl) ‹_› (fun _ _ _ h => h) ?_; simp only [Act.put, sl0, sl1, sl2])
   iterate 2 (refine ptY rfl rfl (by kernel_rfl) (by rfl) (by intro w u; (try dsimp only at u); go_simp <;> with_reducible rfl) ‹_› (fun _ _ _ h => h) ?_; simp only [Act.put, sl0, sl1, sl2])
   refine wpAnyH_done (by kernel_rfl) ?_ _
   replace HB := Lib.hid (HB.out.keep hz15)
   clear hb11 hz11 hb12 hz12 hb13 hz13 hb14 hz14 hb15 hz15 HSC HZ0 HS1 KR1 KR2 KR3 KR4 KR5
   go_wp2
   go_ret
   exact ⟨ret_bool hno.out.symm, HB.out.below⟩
 have E3 : Hid (∀ z : World, Below W.heap.size W z → Calls Tryz.prog 45 #[.agg #[.int .i64 m, .slice A m c], .int .i64 v0, .int .i64 v3] z fun e w' => e = .returned (.bool false) ∧ Below z.heap.size z w') := fun z hz => by
  have := l2Edge_v (HG.out.keep hz) m0 m3
  rwa [t3] at this
 have T3 := Lib.hid t3
 clear t3
 cases t4 : (rw_ x v1).testBit v2
 rotate_left
 ·as_aux_lemma =>
   have hno : Hid (teB (m : Int) m x l = false) := by
    show _ = _; unfold teB
    rw [ajB_no (i := 1) (k := 2) (by omega) (by rw [← HN.out]; omega) (by rw [Hed.out.2.2.2.1, t4]; decide), Bool.and_false]
   have E4 : Hid (∀ z : World, Below W.heap.size W z → Calls Tryz.prog 45 #[.agg #[.int .i64 m, .slice A m c], .int .i64 v1, .int .i64 v2] z fun e w' => e = .returned (.bool true) ∧ Below z.heap.size z w') := fun z hz => by
    have := l2Edge_v (HG.out.keep hz) m1 m2
    rwa [t4] at this
   clear t4
   go_enter Tryz.func275, Tryz.ntmps275
   go_wp2_with fail
   rw [← HW.out]
   have HSC : Hid (∀ z : World, Below W.heap.size W z → (Below W.heap.size W z ∧ z.cell? ⟨w.heap.size, 0, none⟩ = some (.int .i64 m) ∧ z.cell? ⟨w.heap.size, 1, none⟩ = some (.slice A m c) ∧ z.cell? ⟨b2, o2, none⟩ = some (.int .i64 v0) ∧ z.cell? ⟨b2, o2 + 1, none⟩ = some (.int .i64 v1) ∧ z.cell? ⟨b2, o2 + 2, none⟩ = some (.int .i64 v2) ∧ z.cell? ⟨b2, o2 + 3, none⟩ = some (.int .i64 v3))) := fun z hz => ⟨hz, up_ hz e0, up_ hz e1, up_ hz p0, up_ hz p1, up_ hz p2, up_ hz p3⟩
   have HZ0 : Hid (Below W.heap.size W W.drew) := (Below.refl _ _).drew
   have HS1 := Lib.hid (HSC.out _ HZ0.out)
   have KR1 : Hid (∀ z : World, Below W.heap.size W z → _) := fun z hz => KD.out z hz
   have KR2 : Hid (∀ z : World, Below W.heap.size W z → _) := fun z hz => E0.out z hz
   have KR3 : Hid (∀ z : World, Below W.heap.size W z → _) := fun z hz => E1.out z hz
   have KR4 : Hid (∀ z : World, Below W.heap.size W z → _) := fun z hz => E2.out z hz
   have KR5 : Hid (∀ z : World, Below W.heap.size W z → _) := fun z hz => E3.out z hz
   have KR6 : Hid (∀ z : World, Below W.heap.size W z → _) := fun z hz => E4.out z hz
   refine wp_region_held_drew (S := fun z => Below W.heap.size W z ∧ z.cell? ⟨w.heap.size, 0, none⟩ = some (.int .i64 m) ∧ z.cell? ⟨w.heap.size, 1, none⟩ = some (.slice A m c) ∧ z.cell? ⟨b2, o2, none⟩ = some (.int .i64 v0) ∧ z.cell? ⟨b2, o2 + 1, none⟩ = some (.int .i64 v1) ∧ z.cell? ⟨b2, o2 + 2, none⟩ = some (.int .i64 v2) ∧ z.cell? ⟨b2, o2 + 3, none⟩ = some (.int .i64 v3)) (by kernel_rfl) HS1.out (fun hHeld => ?_)
   refine pcY 0 rfl rfl (by kernel_rfl) (by rfl) (by intro w u; (try dsimp only at u); go_simp <;> with_reducible rfl) ‹_› (fun _ _ _ h => h) ?_; simp only [Act.put, sl0, sl1, sl2]
   iterate 5 (refine ptY rfl rfl (by kernel_rfl) (by rfl) (by intro w u; (try dsimp only at u); go_simp <;> with_reducible rfl) ‹_› (fun _ _ _ h => h) ?_; simp only [Act.put, sl0, sl1, sl2])
   refine wpAnyH_ready (rs := [6]) (by kernel_rfl) (by simp) ?_
   refine AllReadyH.cons rfl (fun K hK => ?_) AllReadyH.nil
   go_simp
   go_at_call 327; refine (KR1.out _ HZ0.out).mono ?_
   rintro e w16 ⟨rfl, hb16⟩
   have hz16 := bl_trans HZ0.out hb16
   refine hK.out _ _ (HSC.out _ hz16) (fun hHeld => ?_)
   clear hK K
   try simp only [Act.put, sl0, sl1, sl2]
   iterate 9 (refine ptY rfl rfl (by kernel_rfl) (by rfl) (by intro w u; (try dsimp only at u); go_simp <;> with_reducible rfl) ‹_› (fun _ _ _ h => h) ?_; simp only [Act.put, sl0, sl1, sl2])
   refine wpAnyH_ready (rs := [16]) (by kernel_rfl) (by simp) ?_
   refine AllReadyH.cons rfl (fun K hK => ?_) AllReadyH.nil
   go_simp
   go_at_call 45; refine (KR2.out _ hz16).mono ?_
   rintro e w17 ⟨rfl, hb17⟩
   have hz17 := bl_trans hz16 hb17
   refine hK.out _ _ (HSC.out _ hz17) (fun hHeld => ?_)
   clear hK K
   try simp only [Act.put, sl0, sl1, sl2]
   iterate 9 (refine ptY rfl rfl (by kernel_rfl) (by rfl) (by intro w u; (try dsimp only at u); go_simp <;> with_reducible rfl) ‹_› (fun _ _ _ h => h) ?_; simp only [Act.put, sl0, sl1, sl2])
   refine wpAnyH_ready (rs := [26]) (by kernel_rfl) (by simp) ?_
   refine AllReadyH.cons rfl (fun K hK => ?_) AllReadyH.nil
   go_simp
   go_at_call 45; refine (KR3.out _ hz17).mono ?_
   rintro e w18 ⟨rfl, hb18⟩
   have hz18 := bl_trans hz17 hb18
   refine hK.out _ _ (HSC.out _ hz18) (fun hHeld => ?_)
   clear hK K
   try simp only [Act.put, sl0, sl1, sl2]
   iterate 9 (refine ptY rfl rfl (by kernel_rfl) (by rfl) (by intro w u; (try dsimp only at u); go_simp <;> with_reducible rfl) ‹_› (fun _ _ _ h => h) ?_; simp only [Act.put, sl0, sl1, sl2])
   refine wpAnyH_ready (rs := [36]) (by kernel_rfl) (by simp) ?_
   refine AllReadyH.cons rfl (fun K hK => ?_) AllReadyH.nil
   go_simp
   go_at_call 45; refine (KR4.out _ hz18).mono ?_
   rintro e w19 ⟨rfl, hb19⟩
   have hz19 := bl_trans hz18 hb19
   refine hK.out _ _ (HSC.out _ hz19) (fun hHeld => ?_)
   clear hK K
   try simp only [Act.put, sl0, sl1, sl2]
   iterate 10 (refine ptY rfl rfl (by kernel_rfl) (by rfl) (by intro w u; (try dsimp only at u); go_simp <;> with_reducible rfl) ‹_› (fun _ _ _ h => h) ?_; simp only [Act.put, sl0, sl1, sl2])
   refine wpAnyH_ready (rs := [47]) (by kernel_rfl) (by simp) ?_
   refine AllReadyH.cons rfl (fun K hK => ?_) AllReadyH.nil
   go_simp
   go_at_call 45; refine (KR5.out _ hz19).mono ?_
   rintro e w20 ⟨rfl, hb20⟩
   have hz20 := bl_trans hz19 hb20
   refine hK.out _ _ (HSC.out _ hz20) (fun hHeld => ?_)
   clear hK K
   try simp only [Act.put, sl0, sl1, sl2]
   iterate 10 (refine ptY rfl rfl (by kernel_rfl) (by rfl) (by intro w u; (try dsimp only at u); go_simp <;> with_reducible rfl) ‹_› (fun _ _ _ h => h) ?_; simp only [Act.put, sl0, sl1, sl2])
   refine wpAnyH_ready (rs := [58]) (by kernel_rfl) (by simp) ?_
   refine AllReadyH.cons rfl (fun K hK => ?_) AllReadyH.nil
   go_simp
   go_at_call 45; refine (KR6.out _ hz20).mono ?_
   rintro e w21 ⟨rfl, hb21⟩
   have hz21 := bl_trans hz20 hb21
   refine hK.out _ _ (HSC.out _ hz21) (fun hHeld => ?_)
   clear hK K
   try simp only [Act.put, sl0, sl1, sl2]
   iterate 3 (refine ptY rfl rfl (by kernel_rfl) (by rfl) (by intro w u; (try dsimp only at u); go_simp <;> with_reducible rfl) ‹_› (fun _ _ _ h => h) ?_; simp only [Act.put, sl0, sl1, sl2])
   iterate 9 (refine ptN rfl rfl (by kernel_rfl) (by rfl) ‹_› (fun _ _ _ h => h) ?_; simp only [Act.put, sl0, sl1, sl2])
   iterate 2 (refine ptY rfl rfl (by kernel_rfl) (by rfl) (by intro w u; (try dsimp only at u); go_simp <;> with_reducible rfl) ‹_› (fun _ _ _ h => h) ?_; simp only [Act.put, sl0, sl1, sl2])
   refine wpAnyH_done (by kernel_rfl) ?_ _
   replace HB := Lib.hid (HB.out.keep hz21)
   clear hb16 hz16 hb17 hz17 hb18 hz18 hb19 hz19 hb20 hz20 hb21 hz21 HSC HZ0 HS1 KR1 KR2 KR3 KR4 KR5 KR6
   go_wp2
   go_ret
   exact ⟨ret_bool hno.out.symm, HB.out.below⟩
 have E4 : Hid (∀ z : World, Below W.heap.size W z → Calls Tryz.prog 45 #[.agg #[.int .i64 m, .slice A m c], .int .i64 v1, .int .i64 v2] z fun e w' => e = .returned (.bool false) ∧ Below z.heap.size z w') := fun z hz => by
  have := l2Edge_v (HG.out.keep hz) m1 m2
  rwa [t4] at this
 have T4 := Lib.hid t4
 clear t4
 cases t5 : (rw_ x v1).testBit v3
 rotate_left
 ·as_aux_lemma =>
   have hno : Hid (teB (m : Int) m x l = false) := by
    show _ = _; unfold teB
    rw [ajB_no (i := 1) (k := 3) (by omega) (by rw [← HN.out]; omega) (by rw [Hed.out.2.2.2.2.1, t5]; decide), Bool.and_false]
   have E5 : Hid (∀ z : World, Below W.heap.size W z → Calls Tryz.prog 45 #[.agg #[.int .i64 m, .slice A m c], .int .i64 v1, .int .i64 v3] z fun e w' => e = .returned (.bool true) ∧ Below z.heap.size z w') := fun z hz => by
    have := l2Edge_v (HG.out.keep hz) m1 m3
    rwa [t5] at this
   clear t5
   go_enter Tryz.func275, Tryz.ntmps275
   go_wp2_with fail
   rw [← HW.out]
   have HSC : Hid (∀ z : World, Below W.heap.size W z → (Below W.heap.size W z ∧ z.cell? ⟨w.heap.size, 0, none⟩ = some (.int .i64 m) ∧ z.cell? ⟨w.heap.size, 1, none⟩ = some (.slice A m c) ∧ z.cell? ⟨b2, o2, none⟩ = some (.int .i64 v0) ∧ z.cell? ⟨b2, o2 + 1, none⟩ = some (.int .i64 v1) ∧ z.cell? ⟨b2, o2 + 2, none⟩ = some (.int .i64 v2) ∧ z.cell? ⟨b2, o2 + 3, none⟩ = some (.int .i64 v3))) := fun z hz => ⟨hz, up_ hz e0, up_ hz e1, up_ hz p0, up_ hz p1, up_ hz p2, up_ hz p3⟩
   have HZ0 : Hid (Below W.heap.size W W.drew) := (Below.refl _ _).drew
   have HS1 := Lib.hid (HSC.out _ HZ0.out)
   have KR1 : Hid (∀ z : World, Below W.heap.size W z → _) := fun z hz => KD.out z hz
   have KR2 : Hid (∀ z : World, Below W.heap.size W z → _) := fun z hz => E0.out z hz
   have KR3 : Hid (∀ z : World, Below W.heap.size W z → _) := fun z hz => E1.out z hz
   have KR4 : Hid (∀ z : World, Below W.heap.size W z → _) := fun z hz => E2.out z hz
   have KR5 : Hid (∀ z : World, Below W.heap.size W z → _) := fun z hz => E3.out z hz
   have KR6 : Hid (∀ z : World, Below W.heap.size W z → _) := fun z hz => E4.out z hz
   have KR7 : Hid (∀ z : World, Below W.heap.size W z → _) := fun z hz => E5.out z hz
   refine wp_region_held_drew (S := fun z => Below W.heap.size W z ∧ z.cell? ⟨w.heap.size, 0, none⟩ = some (.int .i64 m) ∧ z.cell? ⟨w.heap.size, 1, none⟩ = some (.slice A m c) ∧ z.cell? ⟨b2, o2, none⟩ = some (.int .i64 v0) ∧ z.cell? ⟨b2, o2 + 1, none⟩ = some (.int .i64 v1) ∧ z.cell? ⟨b2, o2 + 2, none⟩ = some (.int .i64 v2) ∧ z.cell? ⟨b2, o2 + 3, none⟩ = some (.int .i64 v3)) (by kernel_rfl) HS1.out (fun hHeld => ?_)
   refine pcY 0 rfl rfl (by kernel_rfl) (by rfl) (by intro w u; (try dsimp only at u); go_simp <;> with_reducible rfl) ‹_› (fun _ _ _ h => h) ?_; simp only [Act.put, sl0, sl1, sl2]
   iterate 5 (refine ptY rfl rfl (by kernel_rfl) (by rfl) (by intro w u; (try dsimp only at u); go_simp <;> with_reducible rfl) ‹_› (fun _ _ _ h => h) ?_; simp only [Act.put, sl0, sl1, sl2])
   refine wpAnyH_ready (rs := [6]) (by kernel_rfl) (by simp) ?_
   refine AllReadyH.cons rfl (fun K hK => ?_) AllReadyH.nil
   go_simp
   go_at_call 327; refine (KR1.out _ HZ0.out).mono ?_
   rintro e w22 ⟨rfl, hb22⟩
   have hz22 := bl_trans HZ0.out hb22
   refine hK.out _ _ (HSC.out _ hz22) (fun hHeld => ?_)
   clear hK K
   try simp only [Act.put, sl0, sl1, sl2]
   iterate 9 (refine ptY rfl rfl (by kernel_rfl) (by rfl) (by intro w u; (try dsimp only at u); go_simp <;> with_reducible rfl) ‹_› (fun _ _ _ h => h) ?_; simp only [Act.put, sl0, sl1, sl2])
   refine wpAnyH_ready (rs := [16]) (by kernel_rfl) (by simp) ?_
   refine AllReadyH.cons rfl (fun K hK => ?_) AllReadyH.nil
   go_simp
   go_at_call 45; refine (KR2.out _ hz22).mono ?_
   rintro e w23 ⟨rfl, hb23⟩
   have hz23 := bl_trans hz22 hb23
   refine hK.out _ _ (HSC.out _ hz23) (fun hHeld => ?_)
   clear hK K
   try simp only [Act.put, sl0, sl1, sl2]
   iterate 9 (refine ptY rfl rfl (by kernel_rfl) (by rfl) (by intro w u; (try dsimp only at u); go_simp <;> with_reducible rfl) ‹_› (fun _ _ _ h => h) ?_; simp only [Act.put, sl0, sl1, sl2])
   refine wpAnyH_ready (rs := [26]) (by kernel_rfl) (by simp) ?_
   refine AllReadyH.cons rfl (fun K hK => ?_) AllReadyH.nil
   go_simp
   go_at_call 45; refine (KR3.out _ hz23).mono ?_
   rintro e w24 ⟨rfl, hb24⟩
   have hz24 := bl_trans hz23 hb24
   refine hK.out _ _ (HSC.out _ hz24) (fun hHeld => ?_)
   clear hK K
   try simp only [Act.put, sl0, sl1, sl2]
   iterate 9 (refine ptY rfl rfl (by kernel_rfl) (by rfl) (by intro w u; (try dsimp only at u); go_simp <;> with_reducible rfl) ‹_› (fun _ _ _ h => h) ?_; simp only [Act.put, sl0, sl1, sl2])
   refine wpAnyH_ready (rs := [36]) (by kernel_rfl) (by simp) ?_
   refine AllReadyH.cons rfl (fun K hK => ?_) AllReadyH.nil
   go_simp
   go_at_call 45; refine (KR4.out _ hz24).mono ?_
   rintro e w25 ⟨rfl, hb25⟩
   have hz25 := bl_trans hz24 hb25
   refine hK.out _ _ (HSC.out _ hz25) (fun hHeld => ?_)
   clear hK K
   try simp only [Act.put, sl0, sl1, sl2]
   iterate 10 (refine ptY rfl rfl (by kernel_rfl) (by rfl) (by intro w u; (try dsimp only at u); go_simp <;> with_reducible rfl) ‹_› (fun _ _ _ h => h) ?_; simp only [Act.put, sl0, sl1, sl2])
   refine wpAnyH_ready (rs := [47]) (by kernel_rfl) (by simp) ?_
   refine AllReadyH.cons rfl (fun K hK => ?_) AllReadyH.nil
   go_simp
   go_at_call 45; refine (KR5.out _ hz25).mono ?_
   rintro e w26 ⟨rfl, hb26⟩
   have hz26 := bl_trans hz25 hb26
   refine hK.out _ _ (HSC.out _ hz26) (fun hHeld => ?_)
   clear hK K
   try simp only [Act.put, sl0, sl1, sl2]
   iterate 10 (refine ptY rfl rfl (by kernel_rfl) (by rfl) (by intro w u; (try dsimp only at u); go_simp <;> with_reducible rfl) ‹_› (fun _ _ _ h => h) ?_; simp only [Act.put, sl0, sl1, sl2])
   refine wpAnyH_ready (rs := [58]) (by kernel_rfl) (by simp) ?_
   refine AllReadyH.cons rfl (fun K hK => ?_) AllReadyH.nil
   go_simp
   go_at_call 45; refine (KR6.out _ hz26).mono ?_
   rintro e w27 ⟨rfl, hb27⟩
   have hz27 := bl_trans hz26 hb27
   refine hK.out _ _ (HSC.out _ hz27) (fun hHeld => ?_)
   clear hK K
   try simp only [Act.put, sl0, sl1, sl2]
   iterate 10 (refine ptY rfl rfl (by kernel_rfl) (by rfl) (by intro w u; (try dsimp only at u); go_simp <;> with_reducible rfl) ‹_› (fun _ _ _ h => h) ?_; simp only [Act.put, sl0, sl1, sl2])
   refine wpAnyH_ready (rs := [69]) (by kernel_rfl) (by simp) ?_
   refine AllReadyH.cons rfl (fun K hK => ?_) AllReadyH.nil
   go_simp
   go_at_call 45; refine (KR7.out _ hz27).mono ?_
   rintro e w28 ⟨rfl, hb28⟩
   have hz28 := bl_trans hz27 hb28
   refine hK.out _ _ (HSC.out _ hz28) (fun hHeld => ?_)
   clear hK K
   try simp only [Act.put, sl0, sl1, sl2]
   iterate 3 (refine ptY rfl rfl (by kernel_rfl) (by rfl) (by intro w u; (try dsimp only at u); go_simp <;> with_reducible rfl) ‹_› (fun _ _ _ h => h) ?_; simp only [Act.put, sl0, sl1, sl2])
   refine wpAnyH_done (by kernel_rfl) ?_ _
   replace HB := Lib.hid (HB.out.keep hz28)
   clear hb22 hz22 hb23 hz23 hb24 hz24 hb25 hz25 hb26 hz26 hb27 hz27 hb28 hz28 HSC HZ0 HS1 KR1 KR2 KR3 KR4 KR5 KR6 KR7
   go_wp2
   go_ret
   exact ⟨ret_bool hno.out.symm, HB.out.below⟩
 have E5 : Hid (∀ z : World, Below W.heap.size W z → Calls Tryz.prog 45 #[.agg #[.int .i64 m, .slice A m c], .int .i64 v1, .int .i64 v3] z fun e w' => e = .returned (.bool false) ∧ Below z.heap.size z w') := fun z hz => by
  have := l2Edge_v (HG.out.keep hz) m1 m3
  rwa [t5] at this
 have T5 := Lib.hid t5
 clear t5
 have hyes : Hid (teB (m : Int) m x l = true) := by
  show _ = _; unfold teB
  rw [decide_eq_true HN.out.symm, Bool.true_and]
  refine ajB_yes Hv.out fun k hk i hi => ?_
  rw [← HN.out] at hk
  have h : (i = 0 ∧ k = 1) ∨ (i = 0 ∧ k = 2) ∨ (i = 0 ∧ k = 3) ∨ (i = 1 ∧ k = 2) ∨ (i = 1 ∧ k = 3) ∨ (i = 2 ∧ k = 3) := by omega
  rcases h with ⟨rfl, rfl⟩ | ⟨rfl, rfl⟩ | ⟨rfl, rfl⟩ | ⟨rfl, rfl⟩ | ⟨rfl, rfl⟩ | ⟨rfl, rfl⟩
  ·rw [Hed.out.1, T0.out]; rfl
  ·rw [Hed.out.2.1, T2.out]; rfl
  ·rw [Hed.out.2.2.1, T3.out]; rfl
  ·rw [Hed.out.2.2.2.1, T4.out]; rfl
  ·rw [Hed.out.2.2.2.2.1, T5.out]; rfl
  ·rw [Hed.out.2.2.2.2.2, T1.out]; rfl
 go_enter Tryz.func275, Tryz.ntmps275
 go_wp2_with fail
 rw [← HW.out]
 have HSC : Hid (∀ z : World, Below W.heap.size W z → (Below W.heap.size W z ∧ z.cell? ⟨w.heap.size, 0, none⟩ = some (.int .i64 m) ∧ z.cell? ⟨w.heap.size, 1, none⟩ = some (.slice A m c) ∧ z.cell? ⟨b2, o2, none⟩ = some (.int .i64 v0) ∧ z.cell? ⟨b2, o2 + 1, none⟩ = some (.int .i64 v1) ∧ z.cell? ⟨b2, o2 + 2, none⟩ = some (.int .i64 v2) ∧ z.cell? ⟨b2, o2 + 3, none⟩ = some (.int .i64 v3))) := fun z hz => ⟨hz, up_ hz e0, up_ hz e1, up_ hz p0, up_ hz p1, up_ hz p2, up_ hz p3⟩
 have HZ0 : Hid (Below W.heap.size W W.drew) := (Below.refl _ _).drew
 have HS1 := Lib.hid (HSC.out _ HZ0.out)
 have KR1 : Hid (∀ z : World, Below W.heap.size W z → _) := fun z hz => KD.out z hz
 have KR2 : Hid (∀ z : World, Below W.heap.size W z → _) := fun z hz => E0.out z hz
 have KR3 : Hid (∀ z : World, Below W.heap.size W z → _) := fun z hz => E1.out z hz
 have KR4 : Hid (∀ z : World, Below W.heap.size W z → _) := fun z hz => E2.out z hz
 have KR5 : Hid (∀ z : World, Below W.heap.size W z → _) := fun z hz => E3.out z hz
 have KR6 : Hid (∀ z : World, Below W.heap.size W z → _) := fun z hz => E4.out z hz
 have KR7 : Hid (∀ z : World, Below W.heap.size W z → _) := fun z hz => E5.out z hz
 refine wp_region_held_drew (S := fun z => Below W.heap.size W z ∧ z.cell? ⟨w.heap.size, 0, none⟩ = some (.int .i64 m) ∧ z.cell? ⟨w.heap.size, 1, none⟩ = some (.slice A m c) ∧ z.cell? ⟨b2, o2, none⟩ = some (.int .i64 v0) ∧ z.cell? ⟨b2, o2 + 1, none⟩ = some (.int .i64 v1) ∧ z.cell? ⟨b2, o2 + 2, none⟩ = some (.int .i64 v2) ∧ z.cell? ⟨b2, o2 + 3, none⟩ = some (.int .i64 v3)) (by kernel_rfl) HS1.out (fun hHeld => ?_)
 refine pcY 0 rfl rfl (by kernel_rfl) (by rfl) (by intro w u; (try dsimp only at u); go_simp <;> with_reducible rfl) ‹_› (fun _ _ _ h => h) ?_; simp only [Act.put, sl0, sl1, sl2]
 iterate 5 (refine ptY rfl rfl (by kernel_rfl) (by rfl) (by intro w u; (try dsimp only at u); go_simp <;> with_reducible rfl) ‹_› (fun _ _ _ h => h) ?_; simp only [Act.put, sl0, sl1, sl2])
 refine wpAnyH_ready (rs := [6]) (by kernel_rfl) (by simp) ?_
 refine AllReadyH.cons rfl (fun K hK => ?_) AllReadyH.nil
 go_simp
 go_at_call 327; refine (KR1.out _ HZ0.out).mono ?_
 rintro e w29 ⟨rfl, hb29⟩
 have hz29 := bl_trans HZ0.out hb29
 refine hK.out _ _ (HSC.out _ hz29) (fun hHeld => ?_)
 clear hK K
 try simp only [Act.put, sl0, sl1, sl2]
 iterate 9 (refine ptY rfl rfl (by kernel_rfl) (by rfl) (by intro w u; (try dsimp only at u); go_simp <;> with_reducible rfl) ‹_› (fun _ _ _ h => h) ?_; simp only [Act.put, sl0, sl1, sl2])
 refine wpAnyH_ready (rs := [16]) (by kernel_rfl) (by simp) ?_
 refine AllReadyH.cons rfl (fun K hK => ?_) AllReadyH.nil
 go_simp
 go_at_call 45; refine (KR2.out _ hz29).mono ?_
 rintro e w30 ⟨rfl, hb30⟩
 have hz30 := bl_trans hz29 hb30
 refine hK.out _ _ (HSC.out _ hz30) (fun hHeld => ?_)
 clear hK K
 try simp only [Act.put, sl0, sl1, sl2]
 iterate 9 (refine ptY rfl rfl (by kernel_rfl) (by rfl) (by intro w u; (try dsimp only at u); go_simp <;> with_reducible rfl) ‹_› (fun _ _ _ h => h) ?_; simp only [Act.put, sl0, sl1, sl2])
 refine wpAnyH_ready (rs := [26]) (by kernel_rfl) (by simp) ?_
 refine AllReadyH.cons rfl (fun K hK => ?_) AllReadyH.nil
 go_simp
 go_at_call 45; refine (KR3.out _ hz30).mono ?_
 rintro e w31 ⟨rfl, hb31⟩
 have hz31 := bl_trans hz30 hb31
 refine hK.out _ _ (HSC.out _ hz31) (fun hHeld => ?_)
 clear hK K
 try simp only [Act.put, sl0, sl1, sl2]
 iterate 9 (refine ptY rfl rfl (by kernel_rfl) (by rfl) (by intro w u; (try dsimp only at u); go_simp <;> with_reducible rfl) ‹_› (fun _ _ _ h => h) ?_; simp only [Act.put, sl0, sl1, sl2])
 refine wpAnyH_ready (rs := [36]) (by kernel_rfl) (by simp) ?_
 refine AllReadyH.cons rfl (fun K hK => ?_) AllReadyH.nil
 go_simp
 go_at_call 45; refine (KR4.out _ hz31).mono ?_
 rintro e w32 ⟨rfl, hb32⟩
 have hz32 := bl_trans hz31 hb32
 refine hK.out _ _ (HSC.out _ hz32) (fun hHeld => ?_)
 clear hK K
 try simp only [Act.put, sl0, sl1, sl2]
 iterate 10 (refine ptY rfl rfl (by kernel_rfl) (by rfl) (by intro w u; (try dsimp only at u); go_simp <;> with_reducible rfl) ‹_› (fun _ _ _ h => h) ?_; simp only [Act.put, sl0, sl1, sl2])
 refine wpAnyH_ready (rs := [47]) (by kernel_rfl) (by simp) ?_
 refine AllReadyH.cons rfl (fun K hK => ?_) AllReadyH.nil
 go_simp
 go_at_call 45; refine (KR5.out _ hz32).mono ?_
 rintro e w33 ⟨rfl, hb33⟩
 have hz33 := bl_trans hz32 hb33
 refine hK.out _ _ (HSC.out _ hz33) (fun hHeld => ?_)
 clear hK K
 try simp only [Act.put, sl0, sl1, sl2]
 iterate 10 (refine ptY rfl rfl (by kernel_rfl) (by rfl) (by intro w u; (try dsimp only at u); go_simp <;> with_reducible rfl) ‹_› (fun _ _ _ h => h) ?_; simp only [Act.put, sl0, sl1, sl2])
 refine wpAnyH_ready (rs := [58]) (by kernel_rfl) (by simp) ?_
 refine AllReadyH.cons rfl (fun K hK => ?_) AllReadyH.nil
 go_simp
 go_at_call 45; refine (KR6.out _ hz33).mono ?_
 rintro e w34 ⟨rfl, hb34⟩
 have hz34 := bl_trans hz33 hb34
 refine hK.out _ _ (HSC.out _ hz34) (fun hHeld => ?_)
 clear hK K
 try simp only [Act.put, sl0, sl1, sl2]
 iterate 10 (refine ptY rfl rfl (by kernel_rfl) (by rfl) (by intro w u; (try dsimp only at u); go_simp <;> with_reducible rfl) ‹_› (fun _ _ _ h => h) ?_; simp only [Act.put, sl0, sl1, sl2])
 refine wpAnyH_ready (rs := [69]) (by kernel_rfl) (by simp) ?_
 refine AllReadyH.cons rfl (fun K hK => ?_) AllReadyH.nil
 go_simp
 go_at_call 45; refine (KR7.out _ hz34).mono ?_
 rintro e w35 ⟨rfl, hb35⟩
 have hz35 := bl_trans hz34 hb35
 refine hK.out _ _ (HSC.out _ hz35) (fun hHeld => ?_)
 clear hK K
 try simp only [Act.put, sl0, sl1, sl2]
 iterate 3 (refine ptY rfl rfl (by kernel_rfl) (by rfl) (by intro w u; (try dsimp only at u); go_simp <;> with_reducible rfl) ‹_› (fun _ _ _ h => h) ?_; simp only [Act.put, sl0, sl1, sl2])
 refine wpAnyH_done (by kernel_rfl) ?_ _
 replace HB := Lib.hid (HB.out.keep hz35)
 clear hb29 hz29 hb30 hz30 hb31 hz31 hb32 hz32 hb33 hz33 hb34 hz34 hb35 hz35 HSC HZ0 HS1 KR1 KR2 KR3 KR4 KR5 KR6 KR7
 go_wp2
 go_ret
 exact ⟨ret_bool hyes.out.symm, HB.out.below⟩
end
end Go.Proofs.YtfabbohijhjpcaaGreatDoor
