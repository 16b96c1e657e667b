/-
-/
import Derived.Test.YtfabbohijhjpcaaGreatDoorRcBarP
import Derived.Test.YtfabbohijhjpcaaGreatDoorRcTake
namespace Go.Proofs.YtfabbohijhjpcaaGreatDoor
open Go.RowKit
section
variable {sz : Int} {m : Nat} {x : Nat → Int} {l : List Int}
noncomputable def ocB (sz : Int) (m : Nat) (x : Nat → Int) (l : List Int) : Bool :=
 decide (3 ≤ l.length) && decide (l.length % 2 = 1) && (vrB sz m x l && (List.range l.length).all fun i => edZ x (l.getD i 0) (l.getD ((i + 1) % l.length) 0))
theorem ocB_short (h : ¬3 ≤ l.length) : ocB sz m x l = false := by unfold ocB; rw [decide_eq_false h]; rfl
theorem ocB_even (h : ¬l.length % 2 = 1) : ocB sz m x l = false := by unfold ocB; rw [decide_eq_false h, Bool.and_false]; rfl
theorem ocB_bad (h : vrB sz m x l = false) : ocB sz m x l = false := by unfold ocB; rw [h, Bool.false_and, Bool.and_false]
theorem ocB_no {i : Nat} (hi : i < l.length) (h : edZ x (l.getD i 0) (l.getD ((i + 1) % l.length) 0) = false) : ocB sz m x l = false := by
 unfold ocB
 have : ((List.range l.length).all fun i => edZ x (l.getD i 0) (l.getD ((i + 1) % l.length) 0)) = false := by
  rw [List.all_eq_false]
  exact ⟨i, List.mem_range.2 hi, by rw [h]; decide⟩
 rw [this, Bool.and_false, Bool.and_false]
theorem ocB_yes (h0 : 3 ≤ l.length) (h1 : l.length % 2 = 1) (h : vrB sz m x l = true) (hall : ∀ i, i < l.length → edZ x (l.getD i 0) (l.getD ((i + 1) % l.length) 0) = true) : ocB sz m x l = true := by
 unfold ocB
 rw [h, decide_eq_true h0, decide_eq_true h1, Bool.true_and, Bool.true_and, Bool.true_and, List.all_eq_true]
 exact fun i hi => hall i (List.mem_range.1 hi)
end
section
variable (sz : Int) (A : Option Addr) (m c : Nat) (x : Nat → Int) (Al : Option Addr) (n cl : Nat) (l : List Int) (w : World)
set_option maxRecDepth 100000 in
set_option maxHeartbeats 6400000 in
theorem IsOddCycle_i (h : GA w A m c x) (hl : LI w Al n cl l) (hm : m ≤ 1048576) (hn : n ≤ 1048576) :
 Calls Tryz.prog 214 #[.agg #[.int .i64 sz, .slice A m c], .slice Al n cl] w fun e w' => e = .returned (.bool (ocB sz m x l)) ∧ Below w.heap.size w w' := by
 obtain ⟨W, hW⟩ : ∃ W : World, W = (w.alloc (Obj.cells #[Value.int IntKind.i64 sz, Value.slice A m c] 26)) := ⟨_, rfl⟩
 have HB : Hid (From w W) := by rw [hW]; exact From.alloc _ _
 have HK := Lib.hid (h.keep HB.out.below)
 have HL := Lib.hid (hl.keep HB.out.below)
 have HC : Hid (GC W w.heap.size sz A m c) := by rw [hW]; exact GC.new _ _ _ _ _
 have HW := Lib.hid hW
 have HN := Lib.hid hl.len
 clear hW h hl
 by_cases h0 : 3 ≤ n
 rotate_left
 ·have hno : Hid (ocB sz m x l = false) := ocB_short (by rw [← HN.out]; exact h0)
  have i9 : (n : Int) < 3 := by omega
  clear h0
  go_enter Tryz.func214, Tryz.ntmps214
  go_wp2
  rw [← HW.out]
  go_ret
  exact ⟨ret_bool hno.out.symm, HB.out.below⟩
 by_cases h1 : n % 2 = 1
 rotate_left
 ·have hno : Hid (ocB sz m x l = false) := ocB_even (by rw [← HN.out]; exact h1)
  have i9 : 3 ≤ (n : Int) := by omega
  have i8 : ((n : Int) % 2 == 0) = true := by simp; omega
  clear h1
  go_enter Tryz.func214, Tryz.ntmps214
  go_wp2
  rw [← HW.out]
  go_ret
  exact ⟨ret_bool hno.out.symm, HB.out.below⟩
 have i9 : 3 ≤ (n : Int) := by omega
 have i8 : ((n : Int) % 2 == 0) = false := by simp; omega
 have H1 := Lib.hid h1
 clear h1
 go_enter Tryz.func214, Tryz.ntmps214
 have e0 := HC.out.c0
 have e1 := HC.out.c1
 go_wp2_with fail
 rw [← HW.out]
 refine (areVertices_z sz A m c x Al n cl l W HK.out HL.out hm hn).mono ?_
 rintro e w1 ⟨rfl, hb1⟩
 clear HW
 clear e0 e1
 replace HB := Lib.hid (HB.out.keep hb1)
 replace HK := Lib.hid (HK.out.keep hb1)
 replace HL := Lib.hid (HL.out.keep hb1)
 replace HC := Lib.hid (HC.out.keep hb1)
 clear hb1
 have e0 := HC.out.c0
 have e1 := HC.out.c1
 cases hv : vrB sz m x l
 ·have hno : Hid (ocB sz m x l = false) := ocB_bad hv
  clear hv
  go_wp2
  go_ret
  exact ⟨ret_bool hno.out.symm, HB.out.below⟩
 obtain ⟨ho, hV⟩ := vrB_parts hv
 obtain ⟨_, es, vg0, _⟩ := okB_ok' ho
 subst es
 have hn7 := vg0.n7
 have HG : Hid (GV w1 A m c (rw_ x)) := HK.out.gv ho
 have HV := Lib.hid hV
 have Hv := Lib.hid hv
 have hn7' : n ≤ 7 := by rw [HN.out]; have := hV.len; omega
 clear hv ho hV vg0
 clear e0
 obtain ⟨b, o, rfl⟩ := HG.out.addr
 go_wp2
 go_loopw [24] (fun k wr => ∃ K : Nat, K ≤ n ∧ k = .int .i64 K ∧ Hid (∀ i, i < K → edZ x (l.getD i 0) (l.getD ((i + 1) % l.length) 0) = true) ∧ Hid (From w1 wr)) (fun k _ => n - (intOf k).toNat)
 case atStart => exact ⟨0, Nat.zero_le _, rfl, fun k hk => absurd hk (by omega), From.refl _⟩
 case round =>
  obtain ⟨K, hK, rfl, hall, HR⟩ := hrel
  have HBr := Lib.hid (HB.out.keep HR.out.below)
  by_cases hlt : K < n
  ·have i1 : (K : Int) < (n : Int) := by omega
   have Hlt := Lib.hid hlt
   have HLr := Lib.hid (HL.out.keep HR.out.below)
   have HGr := Lib.hid (HG.out.keep HR.out.below)
   have HCr := Lib.hid (HC.out.keep HR.out.below)
   obtain ⟨j, hj⟩ : ∃ j, j = (K + 1) % n := ⟨_, rfl⟩
   have hjn : j < n := by rw [hj]; exact Nat.mod_lt _ (by omega)
   obtain ⟨b2, o2, rfl⟩ := HLr.out.addr (by omega)
   have p0 := HLr.out.at (j := K) hlt
   have p1 := HLr.out.at (j := j) hjn
   have hmj := getD_mem (l := l) (k := K) (by rw [← HN.out]; omega)
   have hmk := getD_mem (l := l) (k := j) (by rw [← HN.out]; omega)
   obtain ⟨a0, a1⟩ := HV.out.2 _ hmj
   obtain ⟨d0, d1⟩ := HV.out.2 _ hmk
   obtain ⟨u, hu⟩ := Int.eq_ofNat_of_zero_le a0
   obtain ⟨v, hvv⟩ := Int.eq_ofNat_of_zero_le d0
   have Hed : Hid (edZ x (l.getD K 0) (l.getD ((K + 1) % l.length) 0) = (rw_ x u).testBit v) := by show _ = _; rw [← HN.out, ← hj]; unfold edZ; rw [hu, hvv, Int.toNat_natCast, Int.toNat_natCast]
   rw [hu] at p0 a1
   rw [hvv] at p1 d1
   have hum : u < m := by omega
   have hvm : v < m := by omega
   have q0 := HGr.out.row hum
   have hr := HGr.out.vg.lt128 hum
   obtain ⟨y, hy⟩ : ∃ y, y = rw_ x u := ⟨_, rfl⟩
   rw [← hy] at q0 hr Hed
   have KE : Hid (∀ z : World, Calls Tryz.prog 44 #[.int .i64 (y : Int), .int .i64 v] z fun e w' => e = .returned (.bool (y.testBit v)) ∧ Below z.heap.size z w') := fun z => (has_v z (by omega) (by omega)).mono fun _ _ ⟨h1, h2⟩ => ⟨h1, h2 ▸ Below.refl _ _⟩
   obtain ⟨t, ht⟩ : ∃ t, t = y.testBit v := ⟨_, rfl⟩
   rw [← ht] at KE Hed
   clear hy
   have i2 : (j : Int) < (n : Int) := by omega
   have s1 : IntKind.i64.wrap ((K : Int) + 1) = (K : Int) + 1 := Go.IntWalk.i64_in _ (by omega)
   have s2 : ((K : Int) + 1) % (n : Int) = (j : Int) := by rw [hj]; simp
   have s3 : ((K : Int) + 1).tmod (n : Int) = (j : Int) := by rw [Int.tmod_eq_emod_of_nonneg (by omega)]; exact s2
   have g5 : n ≠ 0 := by omega
   clear hmj hmk hu hvv ht a0 d0 hj
   have e1 := HCr.out.c1
   go_wp2
   have HSC : Hid (∀ z : World, Below wr.heap.size wr z → (Below wr.heap.size wr z ∧ z.cell? ⟨w.heap.size, 1, none⟩ = some (.slice (some ⟨b, o, none⟩) m c) ∧ z.cell? ⟨b2, o2 + j, none⟩ = some (.int .i64 v) ∧ z.cell? ⟨b, o + u, none⟩ = some (.int .i64 (y : Int)))) := fun z hz => ⟨hz, up_ hz e1, up_ hz p1, up_ hz q0⟩
   have HZ0 : Hid (Below wr.heap.size wr wr.drew) := (Below.refl _ _).drew
   have HS1 := Lib.hid (HSC.out _ HZ0.out)
   have KR1 : Hid (∀ z : World, Below wr.heap.size wr z → _) := fun z hz => KE.out z
   refine wp_region_held_drew (S := fun z => Below wr.heap.size wr z ∧ z.cell? ⟨w.heap.size, 1, none⟩ = some (.slice (some ⟨b, o, none⟩) m c) ∧ z.cell? ⟨b2, o2 + j, none⟩ = some (.int .i64 v) ∧ z.cell? ⟨b, o + u, none⟩ = some (.int .i64 (y : Int))) (by kernel_rfl) HS1.out (fun hHeld => ?_)
   refine pcY 0 rfl rfl (by kernel_rfl) (by rfl) (by intro w u; (try dsimp only at u); go_simp <;> with_reducible rfl) ‹_› (fun _ _ _ h => h) ?_; simp only [Act.put, sl0, sl1, sl2]
   iterate 12 (refine ptY rfl rfl (by kernel_rfl) (by rfl) (by intro w u; (try dsimp only at u); go_simp <;> with_reducible rfl) ‹_› (fun _ _ _ h => h) ?_; simp only [Act.put, sl0, sl1, sl2])
   refine wpAnyH_ready (rs := [13]) (by kernel_rfl) (by simp) ?_
   refine AllReadyH.cons rfl (fun K hK => ?_) AllReadyH.nil
   go_simp
   go_at_call 44; refine (KR1.out _ HZ0.out).mono ?_
   rintro e w2 ⟨rfl, hb2⟩
   have hz2 := bl_trans HZ0.out hb2
   refine hK.out _ _ (HSC.out _ hz2) (fun hHeld => ?_)
   clear hK K
   try simp only [Act.put, sl0, sl1, sl2]
   refine ptY rfl rfl (by kernel_rfl) (by rfl) (by intro w u; (try dsimp only at u); go_simp <;> with_reducible rfl) ‹_› (fun _ _ _ h => h) ?_; simp only [Act.put, sl0, sl1, sl2]
   refine wpAnyH_done (by kernel_rfl) ?_ _
   clear e1
   replace HCr := Lib.hid (HCr.out.keep hz2)
   replace HR := Lib.hid (HR.out.keep hz2)
   replace HBr := Lib.hid (HBr.out.keep hz2)
   clear hb2 hz2 HSC HZ0 HS1 KR1
   have e1 := HCr.out.c1
   cases t
   ·have hno : Hid (ocB (m : Int) m x l = false) := ocB_no (by rw [← HN.out]; exact Hlt.out) Hed.out
    go_wp2
    go_ret
    exact ⟨ret_bool hno.out.symm, HBr.out.below⟩
   ·go_wp2
    go_roundw
    case rel =>
     refine ⟨K + 1, by omega, by go_num, fun i hi => ?_, HR⟩
     by_cases hij : i < K
     ·exact hall.out i hij
     ·obtain rfl : i = K := by omega
      exact Hed.out
    case measure => (simp [intOf] <;> omega)
  ·have hyes : Hid (ocB (m : Int) m x l = true) := ocB_yes (by rw [← HN.out]; omega) (by rw [← HN.out]; exact H1.out) Hv.out fun i hi => hall.out i (by rw [← HN.out] at hi; omega)
   have i1 : (n : Int) ≤ (K : Int) := by omega
   go_wp2
   go_ret
   exact ⟨ret_bool hyes.out.symm, HBr.out.below⟩
set_option maxRecDepth 100000 in
set_option maxHeartbeats 6400000 in
theorem IsOddCycle_s (h : GA w A m c x) (hl : LI w Al n cl l) (hm : m ≤ 1048576) (hn : n ≤ 1048576) :
 Calls Tryz.prog 276 #[.agg #[.int .i64 sz, .slice A m c], .slice Al n cl] w fun e w' => e = .returned (.bool (ocB sz m x l)) ∧ Below w.heap.size w w' := by
 obtain ⟨W, hW⟩ : ∃ W : World, W = (w.alloc (Obj.cells #[Value.int IntKind.i64 sz, Value.slice A m c] 26)) := ⟨_, rfl⟩
 have HB : Hid (From w W) := by rw [hW]; exact From.alloc _ _
 have HK := Lib.hid (h.keep HB.out.below)
 have HL := Lib.hid (hl.keep HB.out.below)
 have HC : Hid (GC W w.heap.size sz A m c) := by rw [hW]; exact GC.new _ _ _ _ _
 have HW := Lib.hid hW
 have HN := Lib.hid hl.len
 clear hW h hl
 go_enter Tryz.func276, Tryz.ntmps276
 have e0 := HC.out.c0
 have e1 := HC.out.c1
 go_wp2_with fail
 rw [← HW.out]
 refine (l4Distinct_z sz A m c x Al n cl l W HK.out HL.out hm hn).mono ?_
 rintro e w1 ⟨rfl, hb1⟩
 clear HW
 clear e0 e1
 replace HB := Lib.hid (HB.out.keep hb1)
 replace HK := Lib.hid (HK.out.keep hb1)
 replace HL := Lib.hid (HL.out.keep hb1)
 replace HC := Lib.hid (HC.out.keep hb1)
 clear hb1
 have e0 := HC.out.c0
 have e1 := HC.out.c1
 cases hv : vrB sz m x l
 ·have hno : Hid (ocB sz m x l = false) := ocB_bad hv
  clear hv
  go_wp2
  go_ret
  exact ⟨ret_bool hno.out.symm, HB.out.below⟩
 obtain ⟨ho, hV⟩ := vrB_parts hv
 obtain ⟨_, es, vg0, _⟩ := okB_ok' ho
 subst es
 have hn7 := vg0.n7
 have HG : Hid (GV w1 A m c (rw_ x)) := HK.out.gv ho
 have HV := Lib.hid hV
 have Hv := Lib.hid hv
 have hn7' : n ≤ 7 := by rw [HN.out]; have := hV.len; omega
 clear hv ho hV vg0
 by_cases h0 : 3 ≤ n
 rotate_left
 ·have hno : Hid (ocB m m x l = false) := ocB_short (by rw [← HN.out]; exact h0)
  have i9 : (n : Int) < 3 := by omega
  clear h0
  go_wp2
  go_ret
  exact ⟨ret_bool hno.out.symm, HB.out.below⟩
 by_cases h1 : n % 2 = 1
 rotate_left
 ·have hno : Hid (ocB m m x l = false) := ocB_even (by rw [← HN.out]; exact h1)
  have i9 : 3 ≤ (n : Int) := by omega
  have i8 : ((n : Int) % 2 == 0) = true := by simp; omega
  clear h1
  go_wp2
  go_ret
  exact ⟨ret_bool hno.out.symm, HB.out.below⟩
 have i9 : 3 ≤ (n : Int) := by omega
 have i8 : ((n : Int) % 2 == 0) = false := by simp; omega
 have H1 := Lib.hid h1
 clear h1
 go_wp2
 go_loopw [5] (fun k wr => ∃ K : Nat, K ≤ n ∧ k = .int .i64 K ∧ Hid (∀ i, i < K → edZ x (l.getD i 0) (l.getD ((i + 1) % l.length) 0) = true) ∧ Hid (From w1 wr)) (fun k _ => n - (intOf k).toNat)
 case atStart => exact ⟨0, Nat.zero_le _, rfl, fun k hk => absurd hk (by omega), From.refl _⟩
 case round =>
  obtain ⟨K, hK, rfl, hall, HR⟩ := hrel
  have HBr := Lib.hid (HB.out.keep HR.out.below)
  by_cases hlt : K < n
  ·have i1 : (K : Int) < (n : Int) := by omega
   have Hlt := Lib.hid hlt
   have HLr := Lib.hid (HL.out.keep HR.out.below)
   have HGr := Lib.hid (HG.out.keep HR.out.below)
   have HCr := Lib.hid (HC.out.keep HR.out.below)
   obtain ⟨j, hj⟩ : ∃ j, j = (K + 1) % n := ⟨_, rfl⟩
   have hjn : j < n := by rw [hj]; exact Nat.mod_lt _ (by omega)
   obtain ⟨b2, o2, rfl⟩ := HLr.out.addr (by omega)
   have p0 := HLr.out.at (j := K) hlt
   have p1 := HLr.out.at (j := j) hjn
   have hmj := getD_mem (l := l) (k := K) (by rw [← HN.out]; omega)
   have hmk := getD_mem (l := l) (k := j) (by rw [← HN.out]; omega)
   obtain ⟨a0, a1⟩ := HV.out.2 _ hmj
   obtain ⟨d0, d1⟩ := HV.out.2 _ hmk
   obtain ⟨u, hu⟩ := Int.eq_ofNat_of_zero_le a0
   obtain ⟨v, hvv⟩ := Int.eq_ofNat_of_zero_le d0
   have Hed : Hid (edZ x (l.getD K 0) (l.getD ((K + 1) % l.length) 0) = (rw_ x u).testBit v) := by show _ = _; rw [← HN.out, ← hj]; unfold edZ; rw [hu, hvv, Int.toNat_natCast, Int.toNat_natCast]
   rw [hu] at p0 a1
   rw [hvv] at p1 d1
   have hum : u < m := by omega
   have hvm : v < m := by omega
   have KE : Hid (∀ z : World, Below wr.heap.size wr z → Calls Tryz.prog 45 #[.agg #[.int .i64 m, .slice A m c], .int .i64 u, .int .i64 v] z fun e w' => e = .returned (.bool ((rw_ x u).testBit v)) ∧ Below z.heap.size z w') := fun z hz => l2Edge_v (HGr.out.keep hz) hum hvm
   obtain ⟨t, ht⟩ : ∃ t, t = (rw_ x u).testBit v := ⟨_, rfl⟩
   rw [← ht] at KE Hed
   have i2 : (j : Int) < (n : Int) := by omega
   have s1 : IntKind.i64.wrap ((K : Int) + 1) = (K : Int) + 1 := Go.IntWalk.i64_in _ (by omega)
   have s2 : ((K : Int) + 1) % (n : Int) = (j : Int) := by rw [hj]; simp
   have s3 : ((K : Int) + 1).tmod (n : Int) = (j : Int) := by rw [Int.tmod_eq_emod_of_nonneg (by omega)]; exact s2
   have g5 : n ≠ 0 := by omega
   clear hmj hmk hu hvv ht a0 d0 hj
   have e0 := HCr.out.c0
   have e1 := HCr.out.c1
   go_wp2
   have HSC : Hid (∀ z : World, Below wr.heap.size wr z → (Below wr.heap.size wr z ∧ z.cell? ⟨w.heap.size, 0, none⟩ = some (.int .i64 m) ∧ z.cell? ⟨w.heap.size, 1, none⟩ = some (.slice A m c) ∧ z.cell? ⟨b2, o2 + K, none⟩ = some (.int .i64 u) ∧ z.cell? ⟨b2, o2 + j, none⟩ = some (.int .i64 v))) := fun z hz => ⟨hz, up_ hz e0, up_ hz e1, up_ hz p0, up_ hz p1⟩
   have HZ0 : Hid (Below wr.heap.size wr wr.drew) := (Below.refl _ _).drew
   have HS1 := Lib.hid (HSC.out _ HZ0.out)
   have KR1 : Hid (∀ z : World, Below wr.heap.size wr z → _) := fun z hz => KE.out z hz
   refine wp_region_held_drew (S := fun z => Below wr.heap.size wr z ∧ z.cell? ⟨w.heap.size, 0, none⟩ = some (.int .i64 m) ∧ z.cell? ⟨w.heap.size, 1, none⟩ = some (.slice A m c) ∧ z.cell? ⟨b2, o2 + K, none⟩ = some (.int .i64 u) ∧ z.cell? ⟨b2, o2 + j, none⟩ = some (.int .i64 v)) (by kernel_rfl) HS1.out (fun hHeld => ?_)
   refine pcY 0 rfl rfl (by kernel_rfl) (by rfl) (by intro w u; (try dsimp only at u); go_simp <;> with_reducible rfl) ‹_› (fun _ _ _ h => h) ?_; simp only [Act.put, sl0, sl1, sl2]
   iterate 12 (refine ptY rfl rfl (by kernel_rfl) (by rfl) (by intro w u; (try dsimp only at u); go_simp <;> with_reducible rfl) ‹_› (fun _ _ _ h => h) ?_; simp only [Act.put, sl0, sl1, sl2])
   refine wpAnyH_ready (rs := [13]) (by kernel_rfl) (by simp) ?_
   refine AllReadyH.cons rfl (fun K hK => ?_) AllReadyH.nil
   go_simp
   go_at_call 45; refine (KR1.out _ HZ0.out).mono ?_
   rintro e w2 ⟨rfl, hb2⟩
   have hz2 := bl_trans HZ0.out hb2
   refine hK.out _ _ (HSC.out _ hz2) (fun hHeld => ?_)
   clear hK K
   try simp only [Act.put, sl0, sl1, sl2]
   refine ptY rfl rfl (by kernel_rfl) (by rfl) (by intro w u; (try dsimp only at u); go_simp <;> with_reducible rfl) ‹_› (fun _ _ _ h => h) ?_; simp only [Act.put, sl0, sl1, sl2]
   refine wpAnyH_done (by kernel_rfl) ?_ _
   clear e0 e1
   replace HCr := Lib.hid (HCr.out.keep hz2)
   replace HR := Lib.hid (HR.out.keep hz2)
   replace HBr := Lib.hid (HBr.out.keep hz2)
   clear hb2 hz2 HSC HZ0 HS1 KR1
   have e0 := HCr.out.c0
   have e1 := HCr.out.c1
   cases t
   ·have hno : Hid (ocB (m : Int) m x l = false) := ocB_no (by rw [← HN.out]; exact Hlt.out) Hed.out
    go_wp2
    go_ret
    exact ⟨ret_bool hno.out.symm, HBr.out.below⟩
   ·go_wp2
    go_roundw
    case rel =>
     refine ⟨K + 1, by omega, by go_num, fun i hi => ?_, HR⟩
     by_cases hij : i < K
     ·exact hall.out i hij
     ·obtain rfl : i = K := by omega
      exact Hed.out
    case measure => (simp [intOf] <;> omega)
  ·have hyes : Hid (ocB (m : Int) m x l = true) := ocB_yes (by rw [← HN.out]; omega) (by rw [← HN.out]; exact H1.out) Hv.out fun i hi => hall.out i (by rw [← HN.out] at hi; omega)
   have i1 : (n : Int) ≤ (K : Int) := by omega
   go_wp2
   go_ret
   exact ⟨ret_bool hyes.out.symm, HBr.out.below⟩
end
end Go.Proofs.YtfabbohijhjpcaaGreatDoor
