/-
-/
import Derived.Test.YtfabbohijhjpcaaGreatDoorRcBarP
import Derived.Test.YtfabbohijhjpcaaGreatDoorRcTake
namespace Go.Proofs.YtfabbohijhjpcaaGreatDoor
open Go.RowKit
section
variable (sz : Int) (A : Option Addr) (m c : Nat) (x : Nat → Int) (Al : Option Addr) (n cl : Nat) (l : List Int) (w : World)
set_option maxRecDepth 100000 in
set_option maxHeartbeats 6400000 in
theorem IsInducedPath_s (h : GA w A m c x) (hl : LI w Al n cl l) (hm : m ≤ 1048576) (hn : n ≤ 1048576) :
 Calls Tryz.prog 272 #[.agg #[.int .i64 sz, .slice A m c], .slice Al n cl] w fun e w' => e = .returned (.bool (ipB sz m x l)) ∧ Below w.heap.size w w' := by
 obtain ⟨W, hW⟩ : ∃ W : World, W = (w.alloc (Obj.cells #[Value.int IntKind.i64 sz, Value.slice A m c] 26)) := ⟨_, rfl⟩
 have HB : Hid (From w W) := by rw [hW]; exact From.alloc _ _
 have HK := Lib.hid (h.keep HB.out.below)
 have HL := Lib.hid (hl.keep HB.out.below)
 have HC : Hid (GC W w.heap.size sz A m c) := by rw [hW]; exact GC.new _ _ _ _ _
 have HW := Lib.hid hW
 have HN := Lib.hid hl.len
 clear hW h hl
 go_enter Tryz.func272, Tryz.ntmps272
 have e0 := HC.out.c0
 have e1 := HC.out.c1
 go_wp2_with fail
 rw [← HW.out]
 refine (l4Distinct_z sz A m c x Al n cl l W HK.out HL.out hm hn).mono ?_
 rintro e w1 ⟨rfl, hb1⟩
 clear HW
 clear e0 e1
 replace HB := Lib.hid (HB.out.keep hb1)
 replace HK := Lib.hid (HK.out.keep hb1)
 replace HL := Lib.hid (HL.out.keep hb1)
 replace HC := Lib.hid (HC.out.keep hb1)
 clear hb1
 have e0 := HC.out.c0
 have e1 := HC.out.c1
 cases hv : vrB sz m x l
 ·have hno : Hid (ipB sz m x l = false) := by show _ = _; unfold ipB; rw [ajB_bad hv, Bool.and_false]
  clear hv
  go_wp2
  go_ret
  exact ⟨ret_bool hno.out.symm, HB.out.below⟩
 ·obtain ⟨ho, hV⟩ := vrB_parts hv
  obtain ⟨_, es, vg0, _⟩ := okB_ok' ho
  subst es
  have hn7 := vg0.n7
  have HG : Hid (GV w1 A m c (rw_ x)) := HK.out.gv ho
  have HV := Lib.hid hV
  have Hv := Lib.hid hv
  have hn7' : n ≤ 7 := by rw [HN.out]; have := hV.len; omega
  clear hv ho hV vg0
  by_cases h0 : n = 0
  ·have hno : Hid (ipB (m : Int) m x l = false) := by show _ = _; unfold ipB; rw [decide_eq_false (by rw [← HN.out]; omega)]; rfl
   have i9 : ((n : Int) == 0) = true := by simp; omega
   go_wp2
   go_ret
   exact ⟨ret_bool hno.out.symm, HB.out.below⟩
  have i9 : ((n : Int) == 0) = false := by simp; omega
  have h0p : 0 < n := by omega
  clear h0
  go_wp2
  go_loopw [5] (fun k wr => ∃ K : Nat, K ≤ n ∧ k = .int .i64 K ∧ Hid (∀ k, k < K → ∀ i, i < k → edZ x (l.getD i 0) (l.getD k 0) = pathJ i k) ∧ Hid (From w1 wr)) (fun k _ => n - (intOf k).toNat)
  case atStart => exact ⟨0, Nat.zero_le _, rfl, fun k hk => absurd hk (by omega), From.refl _⟩
  case round =>
   obtain ⟨K, hK, rfl, hall, HR⟩ := hrel
   by_cases hlt : K < n
   ·have i1 : (K : Int) < (n : Int) := by omega
    have HRo := HR
    have Hlt := Lib.hid hlt
    go_wp2
    go_loopw [6] (fun i wz => ∃ j : Nat, j ≤ K ∧ i = .int .i64 j ∧ Hid (∀ i, i < j → edZ x (l.getD i 0) (l.getD K 0) = pathJ i K) ∧ Hid (From w1 wz)) (fun i _ => K - (intOf i).toNat)
    case atStart => exact ⟨0, Nat.zero_le _, rfl, fun i hi => absurd hi (by omega), HRo⟩
    case round =>
     clear HR HRo
     obtain ⟨j, hj, rfl, hin, HR⟩ := hrel
     by_cases hjK : j < K
     ·have i2 : (j : Int) < (K : Int) := by omega
      have HLr := Lib.hid (HL.out.keep HR.out.below)
      have HGr := Lib.hid (HG.out.keep HR.out.below)
      have HCr := Lib.hid (HC.out.keep HR.out.below)
      have HBr := Lib.hid (HB.out.keep HR.out.below)
      obtain ⟨b2, o2, rfl⟩ := HLr.out.addr (by omega)
      have p0 := HLr.out.at (j := j) (by omega)
      have p1 := HLr.out.at (j := K) (by omega)
      have hmj := getD_mem (l := l) (k := j) (by rw [← HN.out]; omega)
      have hmk := getD_mem (l := l) (k := K) (by rw [← HN.out]; omega)
      obtain ⟨a0, a1⟩ := HV.out.2 _ hmj
      obtain ⟨d0, d1⟩ := HV.out.2 _ hmk
      obtain ⟨u, hu⟩ := Int.eq_ofNat_of_zero_le a0
      obtain ⟨v, hvv⟩ := Int.eq_ofNat_of_zero_le d0
      have Hed : Hid (edZ x (l.getD j 0) (l.getD K 0) = (rw_ x u).testBit v) := by show _ = _; unfold edZ; rw [hu, hvv, Int.toNat_natCast, Int.toNat_natCast]
      rw [hu] at p0 a1
      rw [hvv] at p1 d1
      have hum : u < m := by omega
      have hvm : v < m := by omega
      have hsym : (rw_ x v).testBit u = (rw_ x u).testBit v := HGr.out.vg.sym _ _ hvm hum
      obtain ⟨t, ht⟩ : ∃ t, t = (rw_ x u).testBit v := ⟨_, rfl⟩
      rw [← ht] at Hed hsym
      have KE : Hid (∀ z : World, Below wr.heap.size wr z → Calls Tryz.prog 45 #[.agg #[.int .i64 m, .slice A m c], .int .i64 v, .int .i64 u] z fun e w' => e = .returned (.bool t) ∧ Below z.heap.size z w') := fun z hz => by
       have := l2Edge_v (HGr.out.keep hz) hvm hum
       rwa [hsym] at this
      have i3 : (j : Int) < (n : Int) := by omega
      have i4 : (K : Int) < (n : Int) := by omega
      have s1 : IntKind.i64.wrap ((K : Int) - 1) = (K : Int) - 1 := Go.IntWalk.i64_in _ (by omega)
      have s2 : IntKind.i64.wrap ((n : Int) - 1) = (n : Int) - 1 := Go.IntWalk.i64_in _ (by omega)
      clear hmj hmk hu hvv ht a0 d0 hsym
      have e0 := HCr.out.c0
      have e1 := HCr.out.c1
      by_cases h1 : j + 1 = K
      ·have q1 : ((j : Int) == (K : Int) - 1) = true := by simp; omega
       have HJ : Hid (pathJ j K = true) := by show _ = _; unfold pathJ; simp; omega
       go_wp2
       have HSC : Hid (∀ z : World, Below wr.heap.size wr z → (Below wr.heap.size wr z ∧ z.cell? ⟨w.heap.size, 0, none⟩ = some (.int .i64 m) ∧ z.cell? ⟨w.heap.size, 1, none⟩ = some (.slice A m c) ∧ z.cell? ⟨b2, o2 + j, none⟩ = some (.int .i64 u) ∧ z.cell? ⟨b2, o2 + K, none⟩ = some (.int .i64 v))) := fun z hz => ⟨hz, up_ hz e0, up_ hz e1, up_ hz p0, up_ hz p1⟩
       have HZ0 : Hid (Below wr.heap.size wr wr.drew) := (Below.refl _ _).drew
       have HS1 := Lib.hid (HSC.out _ HZ0.out)
       have KR1 : Hid (∀ z : World, Below wr.heap.size wr z → _) := fun z hz => KE.out z hz
       go_region_held3 (fun z => Below wr.heap.size wr z ∧ z.cell? ⟨w.heap.size, 0, none⟩ = some (.int .i64 m) ∧ z.cell? ⟨w.heap.size, 1, none⟩ = some (.slice A m c) ∧ z.cell? ⟨b2, o2 + j, none⟩ = some (.int .i64 u) ∧ z.cell? ⟨b2, o2 + K, none⟩ = some (.int .i64 v))
        (first | exact HS1.out | assumption | exact HSC.out _ hz2 | fail)
        (first | (go_at_call 45; ((with_reducible refine (KR1.out _ HZ0.out).mono ?_); rintro e w2 ⟨rfl, hb2⟩; have hz2 := bl_trans HZ0.out hb2)))
       clear e0 e1
       replace HCr := Lib.hid (HCr.out.keep hz2)
       replace HR := Lib.hid (HR.out.keep hz2)
       replace HBr := Lib.hid (HBr.out.keep hz2)
       clear hb2 hz2 HSC HZ0 HS1 KR1
       have e0 := HCr.out.c0
       have e1 := HCr.out.c1
       cases t
       ·have hno : Hid (ajB (m : Int) m x l pathJ = false) := ajB_no (i := j) (k := K) hjK (by rw [← HN.out]; exact Hlt.out) (by rw [Hed.out, HJ.out]; decide)
        have hno2 : Hid (ipB (m : Int) m x l = false) := by show _ = _; unfold ipB; rw [hno.out, Bool.and_false]
        go_wp2
        go_ret
        exact ⟨ret_bool hno2.out.symm, HBr.out.below⟩
       ·go_wp2
        go_roundw
        case rel =>
         refine ⟨j + 1, by omega, by go_num, fun i hi => ?_, HR⟩
         by_cases hij : i < j
         ·exact hin.out i hij
         ·obtain rfl : i = j := by omega
          rw [Hed.out, HJ.out]
        case measure => (simp [intOf] <;> omega)
      ·have q1 : ((j : Int) == (K : Int) - 1) = false := by simp; omega
       have HJ : Hid (pathJ j K = false) := by show _ = _; unfold pathJ; simp; omega
       go_wp2
       have HSC : Hid (∀ z : World, Below wr.heap.size wr z → (Below wr.heap.size wr z ∧ z.cell? ⟨w.heap.size, 0, none⟩ = some (.int .i64 m) ∧ z.cell? ⟨w.heap.size, 1, none⟩ = some (.slice A m c) ∧ z.cell? ⟨b2, o2 + j, none⟩ = some (.int .i64 u) ∧ z.cell? ⟨b2, o2 + K, none⟩ = some (.int .i64 v))) := fun z hz => ⟨hz, up_ hz e0, up_ hz e1, up_ hz p0, up_ hz p1⟩
       have HZ0 : Hid (Below wr.heap.size wr wr.drew) := (Below.refl _ _).drew
       have HS1 := Lib.hid (HSC.out _ HZ0.out)
       have KR1 : Hid (∀ z : World, Below wr.heap.size wr z → _) := fun z hz => KE.out z hz
       go_region_held3 (fun z => Below wr.heap.size wr z ∧ z.cell? ⟨w.heap.size, 0, none⟩ = some (.int .i64 m) ∧ z.cell? ⟨w.heap.size, 1, none⟩ = some (.slice A m c) ∧ z.cell? ⟨b2, o2 + j, none⟩ = some (.int .i64 u) ∧ z.cell? ⟨b2, o2 + K, none⟩ = some (.int .i64 v))
        (first | exact HS1.out | assumption | exact HSC.out _ hz3 | fail)
        (first | (go_at_call 45; ((with_reducible refine (KR1.out _ HZ0.out).mono ?_); rintro e w3 ⟨rfl, hb3⟩; have hz3 := bl_trans HZ0.out hb3)))
       clear e0 e1
       replace HCr := Lib.hid (HCr.out.keep hz3)
       replace HR := Lib.hid (HR.out.keep hz3)
       replace HBr := Lib.hid (HBr.out.keep hz3)
       clear hb3 hz3 HSC HZ0 HS1 KR1
       have e0 := HCr.out.c0
       have e1 := HCr.out.c1
       cases t
       ·go_wp2
        go_roundw
        case rel =>
         refine ⟨j + 1, by omega, by go_num, fun i hi => ?_, HR⟩
         by_cases hij : i < j
         ·exact hin.out i hij
         ·obtain rfl : i = j := by omega
          rw [Hed.out, HJ.out]
        case measure => (simp [intOf] <;> omega)
       ·have hno : Hid (ajB (m : Int) m x l pathJ = false) := ajB_no (i := j) (k := K) hjK (by rw [← HN.out]; exact Hlt.out) (by rw [Hed.out, HJ.out]; decide)
        have hno2 : Hid (ipB (m : Int) m x l = false) := by show _ = _; unfold ipB; rw [hno.out, Bool.and_false]
        go_wp2
        go_ret
        exact ⟨ret_bool hno2.out.symm, HBr.out.below⟩
     ·obtain rfl : j = K := by omega
      go_wp2
      go_roundw
      case rel =>
       refine ⟨j + 1, by omega, by go_num, fun k hk i hi => ?_, HR⟩
       by_cases hkj : k < j
       ·exact hall.out k hkj i hi
       ·obtain rfl : k = j := by omega
        exact hin.out i hi
      case measure => (simp [intOf] <;> omega)
   ·have hyes : Hid (ajB (m : Int) m x l pathJ = true) := ajB_yes Hv.out fun k hk i hi => hall.out k (by rw [← HN.out] at hk; omega) i hi
    have hyes2 : Hid (ipB (m : Int) m x l = true) := by show _ = _; unfold ipB; rw [hyes.out, decide_eq_true (by rw [← HN.out]; omega)]; rfl
    have i1 : (n : Int) ≤ (K : Int) := by omega
    have HBr := Lib.hid (HB.out.keep HR.out.below)
    go_wp2
    go_ret
    exact ⟨ret_bool hyes2.out.symm, HBr.out.below⟩
set_option maxRecDepth 100000 in
set_option maxHeartbeats 6400000 in
theorem IsHole_s (h : GA w A m c x) (hl : LI w Al n cl l) (hm : m ≤ 1048576) (hn : n ≤ 1048576) :
 Calls Tryz.prog 271 #[.agg #[.int .i64 sz, .slice A m c], .slice Al n cl] w fun e w' => e = .returned (.bool (hoB sz m x l)) ∧ Below w.heap.size w w' := by
 obtain ⟨W, hW⟩ : ∃ W : World, W = (w.alloc (Obj.cells #[Value.int IntKind.i64 sz, Value.slice A m c] 26)) := ⟨_, rfl⟩
 have HB : Hid (From w W) := by rw [hW]; exact From.alloc _ _
 have HK := Lib.hid (h.keep HB.out.below)
 have HL := Lib.hid (hl.keep HB.out.below)
 have HC : Hid (GC W w.heap.size sz A m c) := by rw [hW]; exact GC.new _ _ _ _ _
 have HW := Lib.hid hW
 have HN := Lib.hid hl.len
 clear hW h hl
 go_enter Tryz.func271, Tryz.ntmps271
 have e0 := HC.out.c0
 have e1 := HC.out.c1
 go_wp2_with fail
 rw [← HW.out]
 refine (l4Distinct_z sz A m c x Al n cl l W HK.out HL.out hm hn).mono ?_
 rintro e w1 ⟨rfl, hb1⟩
 clear HW
 clear e0 e1
 replace HB := Lib.hid (HB.out.keep hb1)
 replace HK := Lib.hid (HK.out.keep hb1)
 replace HL := Lib.hid (HL.out.keep hb1)
 replace HC := Lib.hid (HC.out.keep hb1)
 clear hb1
 have e0 := HC.out.c0
 have e1 := HC.out.c1
 cases hv : vrB sz m x l
 ·have hno : Hid (hoB sz m x l = false) := by show _ = _; unfold hoB; rw [ajB_bad hv, Bool.and_false]
  clear hv
  go_wp2
  go_ret
  exact ⟨ret_bool hno.out.symm, HB.out.below⟩
 ·obtain ⟨ho, hV⟩ := vrB_parts hv
  obtain ⟨_, es, vg0, _⟩ := okB_ok' ho
  subst es
  have hn7 := vg0.n7
  have HG : Hid (GV w1 A m c (rw_ x)) := HK.out.gv ho
  have HV := Lib.hid hV
  have Hv := Lib.hid hv
  have hn7' : n ≤ 7 := by rw [HN.out]; have := hV.len; omega
  clear hv ho hV vg0
  by_cases h0 : n < 4
  ·have hno : Hid (hoB (m : Int) m x l = false) := by show _ = _; unfold hoB; rw [decide_eq_false (by rw [← HN.out]; omega)]; rfl
   have i9 : (n : Int) < 4 := by omega
   go_wp2
   go_ret
   exact ⟨ret_bool hno.out.symm, HB.out.below⟩
  have i9 : 4 ≤ (n : Int) := by omega
  have h0p : 4 ≤ n := by omega
  clear h0
  go_wp2
  go_loopw [5] (fun k wr => ∃ K : Nat, K ≤ n ∧ k = .int .i64 K ∧ Hid (∀ k, k < K → ∀ i, i < k → edZ x (l.getD i 0) (l.getD k 0) = holeJ n i k) ∧ Hid (From w1 wr)) (fun k _ => n - (intOf k).toNat)
  case atStart => exact ⟨0, Nat.zero_le _, rfl, fun k hk => absurd hk (by omega), From.refl _⟩
  case round =>
   obtain ⟨K, hK, rfl, hall, HR⟩ := hrel
   by_cases hlt : K < n
   ·have i1 : (K : Int) < (n : Int) := by omega
    have HRo := HR
    have Hlt := Lib.hid hlt
    go_wp2
    go_loopw [6] (fun i wz => ∃ j : Nat, j ≤ K ∧ i = .int .i64 j ∧ Hid (∀ i, i < j → edZ x (l.getD i 0) (l.getD K 0) = holeJ n i K) ∧ Hid (From w1 wz)) (fun i _ => K - (intOf i).toNat)
    case atStart => exact ⟨0, Nat.zero_le _, rfl, fun i hi => absurd hi (by omega), HRo⟩
    case round =>
     clear HR HRo
     obtain ⟨j, hj, rfl, hin, HR⟩ := hrel
     by_cases hjK : j < K
     ·have i2 : (j : Int) < (K : Int) := by omega
      have HLr := Lib.hid (HL.out.keep HR.out.below)
      have HGr := Lib.hid (HG.out.keep HR.out.below)
      have HCr := Lib.hid (HC.out.keep HR.out.below)
      have HBr := Lib.hid (HB.out.keep HR.out.below)
      obtain ⟨b2, o2, rfl⟩ := HLr.out.addr (by omega)
      have p0 := HLr.out.at (j := j) (by omega)
      have p1 := HLr.out.at (j := K) (by omega)
      have hmj := getD_mem (l := l) (k := j) (by rw [← HN.out]; omega)
      have hmk := getD_mem (l := l) (k := K) (by rw [← HN.out]; omega)
      obtain ⟨a0, a1⟩ := HV.out.2 _ hmj
      obtain ⟨d0, d1⟩ := HV.out.2 _ hmk
      obtain ⟨u, hu⟩ := Int.eq_ofNat_of_zero_le a0
      obtain ⟨v, hvv⟩ := Int.eq_ofNat_of_zero_le d0
      have Hed : Hid (edZ x (l.getD j 0) (l.getD K 0) = (rw_ x u).testBit v) := by show _ = _; unfold edZ; rw [hu, hvv, Int.toNat_natCast, Int.toNat_natCast]
      rw [hu] at p0 a1
      rw [hvv] at p1 d1
      have hum : u < m := by omega
      have hvm : v < m := by omega
      have hsym : (rw_ x v).testBit u = (rw_ x u).testBit v := HGr.out.vg.sym _ _ hvm hum
      obtain ⟨t, ht⟩ : ∃ t, t = (rw_ x u).testBit v := ⟨_, rfl⟩
      rw [← ht] at Hed hsym
      have KE : Hid (∀ z : World, Below wr.heap.size wr z → Calls Tryz.prog 45 #[.agg #[.int .i64 m, .slice A m c], .int .i64 v, .int .i64 u] z fun e w' => e = .returned (.bool t) ∧ Below z.heap.size z w') := fun z hz => by
       have := l2Edge_v (HGr.out.keep hz) hvm hum
       rwa [hsym] at this
      have i3 : (j : Int) < (n : Int) := by omega
      have i4 : (K : Int) < (n : Int) := by omega
      have s1 : IntKind.i64.wrap ((K : Int) - 1) = (K : Int) - 1 := Go.IntWalk.i64_in _ (by omega)
      have s2 : IntKind.i64.wrap ((n : Int) - 1) = (n : Int) - 1 := Go.IntWalk.i64_in _ (by omega)
      clear hmj hmk hu hvv ht a0 d0 hsym
      have e0 := HCr.out.c0
      have e1 := HCr.out.c1
      by_cases h1 : j + 1 = K
      ·have q1 : ((j : Int) == (K : Int) - 1) = true := by simp; omega
       have HJ : Hid (holeJ n j K = true) := by show _ = _; unfold holeJ; rw [show (K == j + 1) = true by simp; omega]; rfl
       go_wp2
       have HSC : Hid (∀ z : World, Below wr.heap.size wr z → (Below wr.heap.size wr z ∧ z.cell? ⟨w.heap.size, 0, none⟩ = some (.int .i64 m) ∧ z.cell? ⟨w.heap.size, 1, none⟩ = some (.slice A m c) ∧ z.cell? ⟨b2, o2 + j, none⟩ = some (.int .i64 u) ∧ z.cell? ⟨b2, o2 + K, none⟩ = some (.int .i64 v))) := fun z hz => ⟨hz, up_ hz e0, up_ hz e1, up_ hz p0, up_ hz p1⟩
       have HZ0 : Hid (Below wr.heap.size wr wr.drew) := (Below.refl _ _).drew
       have HS1 := Lib.hid (HSC.out _ HZ0.out)
       have KR1 : Hid (∀ z : World, Below wr.heap.size wr z → _) := fun z hz => KE.out z hz
       refine wp_region_held_drew (S := fun z => Below wr.heap.size wr z ∧ z.cell? ⟨w.heap.size, 0, none⟩ = some (.int .i64 m) ∧ z.cell? ⟨w.heap.size, 1, none⟩ = some (.slice A m c) ∧ z.cell? ⟨b2, o2 + j, none⟩ = some (.int .i64 u) ∧ z.cell? ⟨b2, o2 + K, none⟩ = some (.int .i64 v)) (by kernel_rfl) HS1.out (fun hHeld => ?_)
       refine pcY 0 rfl rfl (by kernel_rfl) (by rfl) (by intro w u; (try dsimp only at u); go_simp <;> with_reducible rfl) ‹_› (fun _ _ _ h => h) ?_; simp only [Act.put, sl0, sl1, sl2]
       iterate 8 (refine ptY rfl rfl (by kernel_rfl) (by rfl) (by intro w u; (try dsimp only at u); go_simp <;> with_reducible rfl) ‹_› (fun _ _ _ h => h) ?_; simp only [Act.put, sl0, sl1, sl2])
       refine pcY 10 rfl rfl (by kernel_rfl) (by rfl) (by intro w u; (try dsimp only at u); go_simp <;> with_reducible rfl) ‹_› (fun _ _ _ h => h) ?_; simp only [Act.put, sl0, sl1, sl2]
       iterate 3 (refine ptY rfl rfl (by kernel_rfl) (by rfl) (by intro w u; (try dsimp only at u); go_simp <;> with_reducible rfl) ‹_› (fun _ _ _ h => h) ?_; simp only [Act.put, sl0, sl1, sl2])
       refine wpAnyH_ready (rs := [9]) (by kernel_rfl) (by simp) ?_
       refine AllReadyH.cons rfl (fun K hK => ?_) AllReadyH.nil
       go_simp
       go_at_call 45; refine (KR1.out _ HZ0.out).mono ?_
       rintro e w2 ⟨rfl, hb2⟩
       have hz2 := bl_trans HZ0.out hb2
       refine hK.out _ _ (HSC.out _ hz2) (fun hHeld => ?_)
       clear hK K
       try simp only [Act.put, sl0, sl1, sl2]
       refine pcY 14 rfl rfl (by kernel_rfl) (by rfl) (by intro w u; (try dsimp only at u); go_simp <;> with_reducible rfl) ‹_› (fun _ _ _ h => h) ?_; simp only [Act.put, sl0, sl1, sl2]
       iterate 9 (refine ptN rfl rfl (by kernel_rfl) (by rfl) ‹_› (fun _ _ _ h => h) ?_; simp only [Act.put, sl0, sl1, sl2])
       iterate 2 (refine ptY rfl rfl (by kernel_rfl) (by rfl) (by intro w u; (try dsimp only at u); go_simp <;> with_reducible rfl) ‹_› (fun _ _ _ h => h) ?_; simp only [Act.put, sl0, sl1, sl2])
       refine wpAnyH_done (by kernel_rfl) ?_ _
       clear e0 e1
       replace HCr := Lib.hid (HCr.out.keep hz2)
       replace HR := Lib.hid (HR.out.keep hz2)
       replace HBr := Lib.hid (HBr.out.keep hz2)
       clear hb2 hz2 HSC HZ0 HS1 KR1
       have e0 := HCr.out.c0
       have e1 := HCr.out.c1
       cases t
       ·have hno : Hid (ajB (m : Int) m x l (holeJ l.length) = false) := ajB_no (i := j) (k := K) hjK (by rw [← HN.out]; exact Hlt.out) (by rw [Hed.out, ← HN.out, HJ.out]; decide)
        have hno2 : Hid (hoB (m : Int) m x l = false) := by show _ = _; unfold hoB; rw [hno.out, Bool.and_false]
        go_wp2
        go_ret
        exact ⟨ret_bool hno2.out.symm, HBr.out.below⟩
       ·go_wp2
        go_roundw
        case rel =>
         refine ⟨j + 1, by omega, by go_num, fun i hi => ?_, HR⟩
         by_cases hij : i < j
         ·exact hin.out i hij
         ·obtain rfl : i = j := by omega
          rw [Hed.out, HJ.out]
        case measure => (simp [intOf] <;> omega)
      ·by_cases h2 : j = 0
       ·by_cases h3 : K + 1 = n
        ·subst h2
         have i2 : (0 : Int) < (K : Int) := by omega
         have i3 : (0 : Int) < (n : Int) := by omega
         have i5 : 0 < n := by omega
         have p0 : wr.cell? ⟨b2, o2, none⟩ = some (.int .i64 u) := p0
         have q1 : ((0 : Int) == (K : Int) - 1) = false := by simp; omega
         have q2 : ((0 : Int) == 0) = true := rfl
         have q3 : ((K : Int) == (n : Int) - 1) = true := by simp; omega
         have HJ : Hid (holeJ n 0 K = true) := by show _ = _; unfold holeJ; rw [show (0 == 0) = true by simp, show (K + 1 == n) = true by simpa using h3, Bool.and_self, Bool.or_true]
         go_wp2
         have HSC : Hid (∀ z : World, Below wr.heap.size wr z → (Below wr.heap.size wr z ∧ z.cell? ⟨w.heap.size, 0, none⟩ = some (.int .i64 m) ∧ z.cell? ⟨w.heap.size, 1, none⟩ = some (.slice A m c) ∧ z.cell? ⟨b2, o2, none⟩ = some (.int .i64 u) ∧ z.cell? ⟨b2, o2 + K, none⟩ = some (.int .i64 v))) := fun z hz => ⟨hz, up_ hz e0, up_ hz e1, up_ hz p0, up_ hz p1⟩
         have HZ0 : Hid (Below wr.heap.size wr wr.drew) := (Below.refl _ _).drew
         have HS1 := Lib.hid (HSC.out _ HZ0.out)
         have KR1 : Hid (∀ z : World, Below wr.heap.size wr z → _) := fun z hz => KE.out z hz
         refine wp_region_held_drew (S := fun z => Below wr.heap.size wr z ∧ z.cell? ⟨w.heap.size, 0, none⟩ = some (.int .i64 m) ∧ z.cell? ⟨w.heap.size, 1, none⟩ = some (.slice A m c) ∧ z.cell? ⟨b2, o2, none⟩ = some (.int .i64 u) ∧ z.cell? ⟨b2, o2 + K, none⟩ = some (.int .i64 v)) (by kernel_rfl) HS1.out (fun hHeld => ?_)
         refine pcY 0 rfl rfl (by kernel_rfl) (by rfl) (by intro w u; (try dsimp only at u); go_simp <;> with_reducible rfl) ‹_› (fun _ _ _ h => h) ?_; simp only [Act.put, sl0, sl1, sl2]
         iterate 8 (refine ptY rfl rfl (by kernel_rfl) (by rfl) (by intro w u; (try dsimp only at u); go_simp <;> with_reducible rfl) ‹_› (fun _ _ _ h => h) ?_; simp only [Act.put, sl0, sl1, sl2])
         refine pcY 10 rfl rfl (by kernel_rfl) (by rfl) (by intro w u; (try dsimp only at u); go_simp <;> with_reducible rfl) ‹_› (fun _ _ _ h => h) ?_; simp only [Act.put, sl0, sl1, sl2]
         iterate 3 (refine ptY rfl rfl (by kernel_rfl) (by rfl) (by intro w u; (try dsimp only at u); go_simp <;> with_reducible rfl) ‹_› (fun _ _ _ h => h) ?_; simp only [Act.put, sl0, sl1, sl2])
         refine wpAnyH_ready (rs := [9]) (by kernel_rfl) (by simp) ?_
         refine AllReadyH.cons rfl (fun K hK => ?_) AllReadyH.nil
         go_simp
         go_at_call 45; refine (KR1.out _ HZ0.out).mono ?_
         rintro e w3 ⟨rfl, hb3⟩
         have hz3 := bl_trans HZ0.out hb3
         refine hK.out _ _ (HSC.out _ hz3) (fun hHeld => ?_)
         clear hK K
         try simp only [Act.put, sl0, sl1, sl2]
         refine pcY 14 rfl rfl (by kernel_rfl) (by rfl) (by intro w u; (try dsimp only at u); go_simp <;> with_reducible rfl) ‹_› (fun _ _ _ h => h) ?_; simp only [Act.put, sl0, sl1, sl2]
         iterate 11 (refine ptY rfl rfl (by kernel_rfl) (by rfl) (by intro w u; (try dsimp only at u); go_simp <;> with_reducible rfl) ‹_› (fun _ _ _ h => h) ?_; simp only [Act.put, sl0, sl1, sl2])
         refine wpAnyH_done (by kernel_rfl) ?_ _
         clear e0 e1
         replace HCr := Lib.hid (HCr.out.keep hz3)
         replace HR := Lib.hid (HR.out.keep hz3)
         replace HBr := Lib.hid (HBr.out.keep hz3)
         clear hb3 hz3 HSC HZ0 HS1 KR1
         have e0 := HCr.out.c0
         have e1 := HCr.out.c1
         cases t
         ·have hno : Hid (ajB (m : Int) m x l (holeJ l.length) = false) := ajB_no (i := 0) (k := K) hjK (by rw [← HN.out]; exact Hlt.out) (by rw [Hed.out, ← HN.out, HJ.out]; decide)
          have hno2 : Hid (hoB (m : Int) m x l = false) := by show _ = _; unfold hoB; rw [hno.out, Bool.and_false]
          go_wp2
          go_ret
          exact ⟨ret_bool hno2.out.symm, HBr.out.below⟩
         ·go_wp2
          go_roundw
          case rel =>
           refine ⟨0 + 1, by omega, by go_num, fun i hi => ?_, HR⟩
           by_cases hij : i < 0
           ·exact hin.out i hij
           ·obtain rfl : i = 0 := by omega
            rw [Hed.out, HJ.out]
          case measure => (simp [intOf] <;> omega)
        ·subst h2
         have i2 : (0 : Int) < (K : Int) := by omega
         have i3 : (0 : Int) < (n : Int) := by omega
         have i5 : 0 < n := by omega
         have p0 : wr.cell? ⟨b2, o2, none⟩ = some (.int .i64 u) := p0
         have q1 : ((0 : Int) == (K : Int) - 1) = false := by simp; omega
         have q2 : ((0 : Int) == 0) = true := rfl
         have q3 : ((K : Int) == (n : Int) - 1) = false := by simp; omega
         have HJ : Hid (holeJ n 0 K = false) := by show _ = _; unfold holeJ; rw [show (K == 0 + 1) = false by simp; omega, show (K + 1 == n) = false by simpa using h3, Bool.and_false, Bool.or_false]
         go_wp2
         have HSC : Hid (∀ z : World, Below wr.heap.size wr z → (Below wr.heap.size wr z ∧ z.cell? ⟨w.heap.size, 0, none⟩ = some (.int .i64 m) ∧ z.cell? ⟨w.heap.size, 1, none⟩ = some (.slice A m c) ∧ z.cell? ⟨b2, o2, none⟩ = some (.int .i64 u) ∧ z.cell? ⟨b2, o2 + K, none⟩ = some (.int .i64 v))) := fun z hz => ⟨hz, up_ hz e0, up_ hz e1, up_ hz p0, up_ hz p1⟩
         have HZ0 : Hid (Below wr.heap.size wr wr.drew) := (Below.refl _ _).drew
         have HS1 := Lib.hid (HSC.out _ HZ0.out)
         have KR1 : Hid (∀ z : World, Below wr.heap.size wr z → _) := fun z hz => KE.out z hz
         refine wp_region_held_drew (S := fun z => Below wr.heap.size wr z ∧ z.cell? ⟨w.heap.size, 0, none⟩ = some (.int .i64 m) ∧ z.cell? ⟨w.heap.size, 1, none⟩ = some (.slice A m c) ∧ z.cell? ⟨b2, o2, none⟩ = some (.int .i64 u) ∧ z.cell? ⟨b2, o2 + K, none⟩ = some (.int .i64 v)) (by kernel_rfl) HS1.out (fun hHeld => ?_)
         refine pcY 0 rfl rfl (by kernel_rfl) (by rfl) (by intro w u; (try dsimp only at u); go_simp <;> with_reducible rfl) ‹_› (fun _ _ _ h => h) ?_; simp only [Act.put, sl0, sl1, sl2]
         iterate 8 (refine ptY rfl rfl (by kernel_rfl) (by rfl) (by intro w u; (try dsimp only at u); go_simp <;> with_reducible rfl) ‹_› (fun _ _ _ h => h) ?_; simp only [Act.put, sl0, sl1, sl2])
         refine pcY 10 rfl rfl (by kernel_rfl) (by rfl) (by intro w u; (try dsimp only at u); go_simp <;> with_reducible rfl) ‹_› (fun _ _ _ h => h) ?_; simp only [Act.put, sl0, sl1, sl2]
         iterate 3 (refine ptY rfl rfl (by kernel_rfl) (by rfl) (by intro w u; (try dsimp only at u); go_simp <;> with_reducible rfl) ‹_› (fun _ _ _ h => h) ?_; simp only [Act.put, sl0, sl1, sl2])
         refine wpAnyH_ready (rs := [9]) (by kernel_rfl) (by simp) ?_
         refine AllReadyH.cons rfl (fun K hK => ?_) AllReadyH.nil
         go_simp
         go_at_call 45; refine (KR1.out _ HZ0.out).mono ?_
         rintro e w4 ⟨rfl, hb4⟩
         have hz4 := bl_trans HZ0.out hb4
         refine hK.out _ _ (HSC.out _ hz4) (fun hHeld => ?_)
         clear hK K
         try simp only [Act.put, sl0, sl1, sl2]
         refine pcY 14 rfl rfl (by kernel_rfl) (by rfl) (by intro w u; (try dsimp only at u); go_simp <;> with_reducible rfl) ‹_› (fun _ _ _ h => h) ?_; simp only [Act.put, sl0, sl1, sl2]
         iterate 11 (refine ptY rfl rfl (by kernel_rfl) (by rfl) (by intro w u; (try dsimp only at u); go_simp <;> with_reducible rfl) ‹_› (fun _ _ _ h => h) ?_; simp only [Act.put, sl0, sl1, sl2])
         refine wpAnyH_done (by kernel_rfl) ?_ _
         clear e0 e1
         replace HCr := Lib.hid (HCr.out.keep hz4)
         replace HR := Lib.hid (HR.out.keep hz4)
         replace HBr := Lib.hid (HBr.out.keep hz4)
         clear hb4 hz4 HSC HZ0 HS1 KR1
         have e0 := HCr.out.c0
         have e1 := HCr.out.c1
         cases t
         ·go_wp2
          go_roundw
          case rel =>
           refine ⟨0 + 1, by omega, by go_num, fun i hi => ?_, HR⟩
           by_cases hij : i < 0
           ·exact hin.out i hij
           ·obtain rfl : i = 0 := by omega
            rw [Hed.out, HJ.out]
          case measure => (simp [intOf] <;> omega)
         ·have hno : Hid (ajB (m : Int) m x l (holeJ l.length) = false) := ajB_no (i := 0) (k := K) hjK (by rw [← HN.out]; exact Hlt.out) (by rw [Hed.out, ← HN.out, HJ.out]; decide)
          have hno2 : Hid (hoB (m : Int) m x l = false) := by show _ = _; unfold hoB; rw [hno.out, Bool.and_false]
          go_wp2
          go_ret
          exact ⟨ret_bool hno2.out.symm, HBr.out.below⟩
       ·have q1 : ((j : Int) == (K : Int) - 1) = false := by simp; omega
        have q2 : ((j : Int) == 0) = false := by simp; omega
        have HJ : Hid (holeJ n j K = false) := by show _ = _; unfold holeJ; rw [show (K == j + 1) = false by simp; omega, show (j == 0) = false by simpa using h2, Bool.false_and, Bool.or_false]
        go_wp2
        have HSC : Hid (∀ z : World, Below wr.heap.size wr z → (Below wr.heap.size wr z ∧ z.cell? ⟨w.heap.size, 0, none⟩ = some (.int .i64 m) ∧ z.cell? ⟨w.heap.size, 1, none⟩ = some (.slice A m c) ∧ z.cell? ⟨b2, o2 + j, none⟩ = some (.int .i64 u) ∧ z.cell? ⟨b2, o2 + K, none⟩ = some (.int .i64 v))) := fun z hz => ⟨hz, up_ hz e0, up_ hz e1, up_ hz p0, up_ hz p1⟩
        have HZ0 : Hid (Below wr.heap.size wr wr.drew) := (Below.refl _ _).drew
        have HS1 := Lib.hid (HSC.out _ HZ0.out)
        have KR1 : Hid (∀ z : World, Below wr.heap.size wr z → _) := fun z hz => KE.out z hz
        refine wp_region_held_drew (S := fun z => Below wr.heap.size wr z ∧ z.cell? ⟨w.heap.size, 0, none⟩ = some (.int .i64 m) ∧ z.cell? ⟨w.heap.size, 1, none⟩ = some (.slice A m c) ∧ z.cell? ⟨b2, o2 + j, none⟩ = some (.int .i64 u) ∧ z.cell? ⟨b2, o2 + K, none⟩ = some (.int .i64 v)) (by kernel_rfl) HS1.out (fun hHeld => ?_)
        refine pcY 0 rfl rfl (by kernel_rfl) (by rfl) (by intro w u; (try dsimp only at u); go_simp <;> with_reducible rfl) ‹_› (fun _ _ _ h => h) ?_; simp only [Act.put, sl0, sl1, sl2]
        iterate 8 (refine ptY rfl rfl (by kernel_rfl) (by rfl) (by intro w u; (try dsimp only at u); go_simp <;> with_reducible rfl) ‹_› (fun _ _ _ h => h) ?_; simp only [Act.put, sl0, sl1, sl2])
        refine pcY 10 rfl rfl (by kernel_rfl) (by rfl) (by intro w u; (try dsimp only at u); go_simp <;> with_reducible rfl) ‹_› (fun _ _ _ h => h) ?_; simp only [Act.put, sl0, sl1, sl2]
        iterate 3 (refine ptY rfl rfl (by kernel_rfl) (by rfl) (by intro w u; (try dsimp only at u); go_simp <;> with_reducible rfl) ‹_› (fun _ _ _ h => h) ?_; simp only [Act.put, sl0, sl1, sl2])
        refine wpAnyH_ready (rs := [9]) (by kernel_rfl) (by simp) ?_
        refine AllReadyH.cons rfl (fun K hK => ?_) AllReadyH.nil
        go_simp
        go_at_call 45; refine (KR1.out _ HZ0.out).mono ?_
        rintro e w5 ⟨rfl, hb5⟩
        have hz5 := bl_trans HZ0.out hb5
        refine hK.out _ _ (HSC.out _ hz5) (fun hHeld => ?_)
        clear hK K
        try simp only [Act.put, sl0, sl1, sl2]
        refine pcY 14 rfl rfl (by kernel_rfl) (by rfl) (by intro w u; (try dsimp only at u); go_simp <;> with_reducible rfl) ‹_› (fun _ _ _ h => h) ?_; simp only [Act.put, sl0, sl1, sl2]
        iterate 3 (refine ptY rfl rfl (by kernel_rfl) (by rfl) (by intro w u; (try dsimp only at u); go_simp <;> with_reducible rfl) ‹_› (fun _ _ _ h => h) ?_; simp only [Act.put, sl0, sl1, sl2])
        iterate 5 (refine ptN rfl rfl (by kernel_rfl) (by rfl) ‹_› (fun _ _ _ h => h) ?_; simp only [Act.put, sl0, sl1, sl2])
        iterate 3 (refine ptY rfl rfl (by kernel_rfl) (by rfl) (by intro w u; (try dsimp only at u); go_simp <;> with_reducible rfl) ‹_› (fun _ _ _ h => h) ?_; simp only [Act.put, sl0, sl1, sl2])
        refine wpAnyH_done (by kernel_rfl) ?_ _
        clear e0 e1
        replace HCr := Lib.hid (HCr.out.keep hz5)
        replace HR := Lib.hid (HR.out.keep hz5)
        replace HBr := Lib.hid (HBr.out.keep hz5)
        clear hb5 hz5 HSC HZ0 HS1 KR1
        have e0 := HCr.out.c0
        have e1 := HCr.out.c1
        cases t
        ·go_wp2
         go_roundw
         case rel =>
          refine ⟨j + 1, by omega, by go_num, fun i hi => ?_, HR⟩
          by_cases hij : i < j
          ·exact hin.out i hij
          ·obtain rfl : i = j := by omega
           rw [Hed.out, HJ.out]
         case measure => (simp [intOf] <;> omega)
        ·have hno : Hid (ajB (m : Int) m x l (holeJ l.length) = false) := ajB_no (i := j) (k := K) hjK (by rw [← HN.out]; exact Hlt.out) (by rw [Hed.out, ← HN.out, HJ.out]; decide)
         have hno2 : Hid (hoB (m : Int) m x l = false) := by show _ = _; unfold hoB; rw [hno.out, Bool.and_false]
         go_wp2
         go_ret
         exact ⟨ret_bool hno2.out.symm, HBr.out.below⟩
     ·obtain rfl : j = K := by omega
      go_wp2
      go_roundw
      case rel =>
       refine ⟨j + 1, by omega, by go_num, fun k hk i hi => ?_, HR⟩
       by_cases hkj : k < j
       ·exact hall.out k hkj i hi
       ·obtain rfl : k = j := by omega
        exact hin.out i hi
      case measure => (simp [intOf] <;> omega)
   ·have hyes : Hid (ajB (m : Int) m x l (holeJ l.length) = true) := ajB_yes Hv.out fun k hk i hi => (by rw [← HN.out]; exact hall.out k (by rw [← HN.out] at hk; omega) i hi)
    have hyes2 : Hid (hoB (m : Int) m x l = true) := by show _ = _; unfold hoB; rw [hyes.out, decide_eq_true (by rw [← HN.out]; omega)]; rfl
    have i1 : (n : Int) ≤ (K : Int) := by omega
    have HBr := Lib.hid (HB.out.keep HR.out.below)
    go_wp2
    go_ret
    exact ⟨ret_bool hyes2.out.symm, HBr.out.below⟩
end
end Go.Proofs.YtfabbohijhjpcaaGreatDoor
