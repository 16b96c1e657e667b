/-
  Contracts: are just those pairs of a list neighbours that should be? an induced path, a hole, two edges, a claw, a sun: the reference's tests.
-/
import Derived.Test.YtdpkbfiggbcclaaGreatQjJoinI
import Derived.Test.YtdpkbfiggbcclaaGreatQjTake
namespace Go.Proofs.YtdpkbfiggbcclaaGreat
open Go.RowKit

section
variable (sz : Int) (A : Option Addr) (m c : Nat) (x : Nat → Int) (Al : Option Addr) (n cl : Nat) (l : List Int) (w : World)
set_option maxRecDepth 100000 in
set_option maxHeartbeats 6400000 in
theorem IsInducedPath_s (h : GA w A m c x) (hl : LI w Al n cl l) (hm : m ≤ 1048576) (hn : n ≤ 1048576) :
    Calls Tryz.prog 241 #[.agg #[.int .i64 sz, .slice A m c], .slice Al n cl] w fun e w' => e = .returned (.bool (ipB sz m x l)) ∧ Below w.heap.size w w' := by
  obtain ⟨W, hW⟩ : ∃ W : World, W = (w.alloc (Obj.cells #[Value.int IntKind.i64 sz, Value.slice A m c] 28)) := ⟨_, rfl⟩
  have HB : Hid (From w W) := by rw [hW]; exact From.alloc _ _
  have HK := Lib.hid (h.keep HB.out.below)
  have HL := Lib.hid (hl.keep HB.out.below)
  have HC : Hid (GC W w.heap.size sz A m c) := by rw [hW]; exact GC.new _ _ _ _ _
  have HW := Lib.hid hW
  have HN := Lib.hid hl.len
  clear hW h hl
  go_enter Tryz.func241, Tryz.ntmps241
  have e0 := HC.out.c0
  have e1 := HC.out.c1
  go_wp2_with fail
  rw [← HW.out]
  refine (l4Distinct_z sz A m c x Al n cl l W HK.out HL.out hm hn).mono ?_
  rintro e w1 ⟨rfl, hb1⟩
  clear HW
  clear e0 e1
  replace HB := Lib.hid (HB.out.keep hb1)
  replace HK := Lib.hid (HK.out.keep hb1)
  replace HL := Lib.hid (HL.out.keep hb1)
  replace HC := Lib.hid (HC.out.keep hb1)
  clear hb1
  have e0 := HC.out.c0
  have e1 := HC.out.c1
  cases hv : vrB sz m x l
  · have hno : Hid (ipB sz m x l = false) := by show _ = _; unfold ipB; rw [ajB_bad hv, Bool.and_false]
    clear hv
    go_wp2
    go_ret
    exact ⟨ret_bool hno.out.symm, HB.out.below⟩
  · obtain ⟨ho, hV⟩ := vrB_parts hv
    obtain ⟨_, es, vg0, _⟩ := okB_ok' ho
    subst es
    have hn7 := vg0.n7
    have HG : Hid (GV w1 A m c (rw_ x)) := HK.out.gv ho
    have HV := Lib.hid hV
    have Hv := Lib.hid hv
    have hn7' : n ≤ 7 := by rw [HN.out]; have := hV.len; omega
    clear hv ho hV vg0
    by_cases h0 : n = 0
    · have hno : Hid (ipB (m : Int) m x l = false) := by show _ = _; unfold ipB; rw [decide_eq_false (by rw [← HN.out]; omega)]; rfl
      have i9 : ((n : Int) == 0) = true := by simp; omega
      go_wp2
      go_ret
      exact ⟨ret_bool hno.out.symm, HB.out.below⟩
    have i9 : ((n : Int) == 0) = false := by simp; omega
    have h0p : 0 < n := by omega
    clear h0
    go_wp2
    go_loopw [5] (fun k wr => ∃ K : Nat, K ≤ n ∧ k = .int .i64 K ∧ Hid (∀ k, k < K → ∀ i, i < k → edZ x (l.getD i 0) (l.getD k 0) = pathJ i k) ∧ Hid (From w1 wr)) (fun k _ => n - (intOf k).toNat)
    case atStart => exact ⟨0, Nat.zero_le _, rfl, fun k hk => absurd hk (by omega), From.refl _⟩
    case round =>
      obtain ⟨K, hK, rfl, hall, HR⟩ := hrel
      by_cases hlt : K < n
      · have i1 : (K : Int) < (n : Int) := by omega
        have HRo := HR
        have Hlt := Lib.hid hlt
        go_wp2
        go_loopw [6] (fun i wz => ∃ j : Nat, j ≤ K ∧ i = .int .i64 j ∧ Hid (∀ i, i < j → edZ x (l.getD i 0) (l.getD K 0) = pathJ i K) ∧ Hid (From w1 wz)) (fun i _ => K - (intOf i).toNat)
        case atStart => exact ⟨0, Nat.zero_le _, rfl, fun i hi => absurd hi (by omega), HRo⟩
        case round =>
          clear HR HRo
          obtain ⟨j, hj, rfl, hin, HR⟩ := hrel
          by_cases hjK : j < K
          · have i2 : (j : Int) < (K : Int) := by omega
            have HLr := Lib.hid (HL.out.keep HR.out.below)
            have HGr := Lib.hid (HG.out.keep HR.out.below)
            have HCr := Lib.hid (HC.out.keep HR.out.below)
            have HBr := Lib.hid (HB.out.keep HR.out.below)
            obtain ⟨b2, o2, rfl⟩ := HLr.out.addr (by omega)
            have p0 := HLr.out.at (j := j) (by omega)
            have p1 := HLr.out.at (j := K) (by omega)
            have hmj := getD_mem (l := l) (k := j) (by rw [← HN.out]; omega)
            have hmk := getD_mem (l := l) (k := K) (by rw [← HN.out]; omega)
            obtain ⟨a0, a1⟩ := HV.out.2 _ hmj
            obtain ⟨d0, d1⟩ := HV.out.2 _ hmk
            obtain ⟨u, hu⟩ := Int.eq_ofNat_of_zero_le a0
            obtain ⟨v, hvv⟩ := Int.eq_ofNat_of_zero_le d0
            have Hed : Hid (edZ x (l.getD j 0) (l.getD K 0) = (rw_ x u).testBit v) := by show _ = _; unfold edZ; rw [hu, hvv, Int.toNat_natCast, Int.toNat_natCast]
            rw [hu] at p0 a1
            rw [hvv] at p1 d1
            have hum : u < m := by omega
            have hvm : v < m := by omega
            have hsym : (rw_ x v).testBit u = (rw_ x u).testBit v := HGr.out.vg.sym _ _ hvm hum
            obtain ⟨t, ht⟩ : ∃ t, t = (rw_ x u).testBit v := ⟨_, rfl⟩
            rw [← ht] at Hed hsym
            have KE : Hid (∀ z : World, Below wr.heap.size wr z → Calls Tryz.prog 85 #[.agg #[.int .i64 m, .slice A m c], .int .i64 v, .int .i64 u] z fun e w' => e = .returned (.bool t) ∧ Below z.heap.size z w') := fun z hz => by
              have := l2Edge_v (HGr.out.keep hz) hvm hum
              rwa [hsym] at this
            have i3 : (j : Int) < (n : Int) := by omega
            have i4 : (K : Int) < (n : Int) := by omega
            have s1 : IntKind.i64.wrap ((K : Int) - 1) = (K : Int) - 1 := Go.IntWalk.i64_in _ (by omega)
            have s2 : IntKind.i64.wrap ((n : Int) - 1) = (n : Int) - 1 := Go.IntWalk.i64_in _ (by omega)
            
            clear hmj hmk hu hvv ht a0 d0 hsym
            have e0 := HCr.out.c0
            have e1 := HCr.out.c1
            by_cases h1 : j + 1 = K
            · have q1 : ((j : Int) == (K : Int) - 1) = true := by simp; omega
              have HJ : Hid (pathJ j K = true) := by show _ = _; unfold pathJ; simp; omega
              go_wp2
              have HSC : Hid (∀ z : World, Below wr.heap.size wr z → (Below wr.heap.size wr z ∧ z.cell? ⟨w.heap.size, 0, none⟩ = some (.int .i64 m) ∧ z.cell? ⟨w.heap.size, 1, none⟩ = some (.slice A m c) ∧ z.cell? ⟨b2, o2 + j, none⟩ = some (.int .i64 u) ∧ z.cell? ⟨b2, o2 + K, none⟩ = some (.int .i64 v))) := fun z hz => ⟨hz, up_ hz e0, up_ hz e1, up_ hz p0, up_ hz p1⟩
              have HZ0 : Hid (Below wr.heap.size wr wr.drew) := (Below.refl _ _).drew
              have HS1 := Lib.hid (HSC.out _ HZ0.out)
              have KR1 : Hid (∀ z : World, Below wr.heap.size wr z → _) := fun z hz => KE.out z hz
              go_region_held3 (fun z => Below wr.heap.size wr z ∧ z.cell? ⟨w.heap.size, 0, none⟩ = some (.int .i64 m) ∧ z.cell? ⟨w.heap.size, 1, none⟩ = some (.slice A m c) ∧ z.cell? ⟨b2, o2 + j, none⟩ = some (.int .i64 u) ∧ z.cell? ⟨b2, o2 + K, none⟩ = some (.int .i64 v))
                (first | exact HS1.out | assumption | exact HSC.out _ hz2 | fail)
                (first | (go_at_call 85; ((with_reducible refine (KR1.out _ HZ0.out).mono ?_); rintro e w2 ⟨rfl, hb2⟩; have hz2 := bl_trans HZ0.out hb2)))
              clear e0 e1
              replace HCr := Lib.hid (HCr.out.keep hz2)
              replace HR := Lib.hid (HR.out.keep hz2)
              replace HBr := Lib.hid (HBr.out.keep hz2)
              clear hb2 hz2 HSC HZ0 HS1 KR1
              have e0 := HCr.out.c0
              have e1 := HCr.out.c1
              cases t
              · have hno : Hid (ajB (m : Int) m x l pathJ = false) := ajB_no (i := j) (k := K) hjK (by rw [← HN.out]; exact Hlt.out) (by rw [Hed.out, HJ.out]; decide)
                have hno2 : Hid (ipB (m : Int) m x l = false) := by show _ = _; unfold ipB; rw [hno.out, Bool.and_false]
                go_wp2
                go_ret
                exact ⟨ret_bool hno2.out.symm, HBr.out.below⟩
              · go_wp2
                go_roundw
                case rel =>
                  refine ⟨j + 1, by omega, by go_num, fun i hi => ?_, HR⟩
                  by_cases hij : i < j
                  · exact hin.out i hij
                  · obtain rfl : i = j := by omega
                    rw [Hed.out, HJ.out]
                case measure => (simp [intOf] <;> omega)
            · have q1 : ((j : Int) == (K : Int) - 1) = false := by simp; omega
              have HJ : Hid (pathJ j K = false) := by show _ = _; unfold pathJ; simp; omega
              go_wp2
              have HSC : Hid (∀ z : World, Below wr.heap.size wr z → (Below wr.heap.size wr z ∧ z.cell? ⟨w.heap.size, 0, none⟩ = some (.int .i64 m) ∧ z.cell? ⟨w.heap.size, 1, none⟩ = some (.slice A m c) ∧ z.cell? ⟨b2, o2 + j, none⟩ = some (.int .i64 u) ∧ z.cell? ⟨b2, o2 + K, none⟩ = some (.int .i64 v))) := fun z hz => ⟨hz, up_ hz e0, up_ hz e1, up_ hz p0, up_ hz p1⟩
              have HZ0 : Hid (Below wr.heap.size wr wr.drew) := (Below.refl _ _).drew
              have HS1 := Lib.hid (HSC.out _ HZ0.out)
              have KR1 : Hid (∀ z : World, Below wr.heap.size wr z → _) := fun z hz => KE.out z hz
              go_region_held3 (fun z => Below wr.heap.size wr z ∧ z.cell? ⟨w.heap.size, 0, none⟩ = some (.int .i64 m) ∧ z.cell? ⟨w.heap.size, 1, none⟩ = some (.slice A m c) ∧ z.cell? ⟨b2, o2 + j, none⟩ = some (.int .i64 u) ∧ z.cell? ⟨b2, o2 + K, none⟩ = some (.int .i64 v))
                (first | exact HS1.out | assumption | exact HSC.out _ hz3 | fail)
                (first | (go_at_call 85; ((with_reducible refine (KR1.out _ HZ0.out).mono ?_); rintro e w3 ⟨rfl, hb3⟩; have hz3 := bl_trans HZ0.out hb3)))
              clear e0 e1
              replace HCr := Lib.hid (HCr.out.keep hz3)
              replace HR := Lib.hid (HR.out.keep hz3)
              replace HBr := Lib.hid (HBr.out.keep hz3)
              clear hb3 hz3 HSC HZ0 HS1 KR1
              have e0 := HCr.out.c0
              have e1 := HCr.out.c1
              cases t
              · go_wp2
                go_roundw
                case rel =>
                  refine ⟨j + 1, by omega, by go_num, fun i hi => ?_, HR⟩
                  by_cases hij : i < j
                  · exact hin.out i hij
                  · obtain rfl : i = j := by omega
                    rw [Hed.out, HJ.out]
                case measure => (simp [intOf] <;> omega)
              · have hno : Hid (ajB (m : Int) m x l pathJ = false) := ajB_no (i := j) (k := K) hjK (by rw [← HN.out]; exact Hlt.out) (by rw [Hed.out, HJ.out]; decide)
                have hno2 : Hid (ipB (m : Int) m x l = false) := by show _ = _; unfold ipB; rw [hno.out, Bool.and_false]
                go_wp2
                go_ret
                exact ⟨ret_bool hno2.out.symm, HBr.out.below⟩
          · obtain rfl : j = K := by omega
            go_wp2
            go_roundw
            case rel =>
              refine ⟨j + 1, by omega, by go_num, fun k hk i hi => ?_, HR⟩
              by_cases hkj : k < j
              · exact hall.out k hkj i hi
              · obtain rfl : k = j := by omega
                exact hin.out i hi
            case measure => (simp [intOf] <;> omega)
      · have hyes : Hid (ajB (m : Int) m x l pathJ = true) := ajB_yes Hv.out fun k hk i hi => hall.out k (by rw [← HN.out] at hk; omega) i hi
        have hyes2 : Hid (ipB (m : Int) m x l = true) := by show _ = _; unfold ipB; rw [hyes.out, decide_eq_true (by rw [← HN.out]; omega)]; rfl
        have i1 : (n : Int) ≤ (K : Int) := by omega
        have HBr := Lib.hid (HB.out.keep HR.out.below)
        go_wp2
        go_ret
        exact ⟨ret_bool hyes2.out.symm, HBr.out.below⟩
set_option maxRecDepth 100000 in
set_option maxHeartbeats 6400000 in
theorem IsHole_s (h : GA w A m c x) (hl : LI w Al n cl l) (hm : m ≤ 1048576) (hn : n ≤ 1048576) :
    Calls Tryz.prog 238 #[.agg #[.int .i64 sz, .slice A m c], .slice Al n cl] w fun e w' => e = .returned (.bool (hoB sz m x l)) ∧ Below w.heap.size w w' := by
  obtain ⟨W, hW⟩ : ∃ W : World, W = (w.alloc (Obj.cells #[Value.int IntKind.i64 sz, Value.slice A m c] 28)) := ⟨_, rfl⟩
  have HB : Hid (From w W) := by rw [hW]; exact From.alloc _ _
  have HK := Lib.hid (h.keep HB.out.below)
  have HL := Lib.hid (hl.keep HB.out.below)
  have HC : Hid (GC W w.heap.size sz A m c) := by rw [hW]; exact GC.new _ _ _ _ _
  have HW := Lib.hid hW
  have HN := Lib.hid hl.len
  clear hW h hl
  go_enter Tryz.func238, Tryz.ntmps238
  have e0 := HC.out.c0
  have e1 := HC.out.c1
  go_wp2_with fail
  rw [← HW.out]
  refine (l4Distinct_z sz A m c x Al n cl l W HK.out HL.out hm hn).mono ?_
  rintro e w1 ⟨rfl, hb1⟩
  clear HW
  clear e0 e1
  replace HB := Lib.hid (HB.out.keep hb1)
  replace HK := Lib.hid (HK.out.keep hb1)
  replace HL := Lib.hid (HL.out.keep hb1)
  replace HC := Lib.hid (HC.out.keep hb1)
  clear hb1
  have e0 := HC.out.c0
  have e1 := HC.out.c1
  cases hv : vrB sz m x l
  · have hno : Hid (hoB sz m x l = false) := by show _ = _; unfold hoB; rw [ajB_bad hv, Bool.and_false]
    clear hv
    go_wp2
    go_ret
    exact ⟨ret_bool hno.out.symm, HB.out.below⟩
  · obtain ⟨ho, hV⟩ := vrB_parts hv
    obtain ⟨_, es, vg0, _⟩ := okB_ok' ho
    subst es
    have hn7 := vg0.n7
    have HG : Hid (GV w1 A m c (rw_ x)) := HK.out.gv ho
    have HV := Lib.hid hV
    have Hv := Lib.hid hv
    have hn7' : n ≤ 7 := by rw [HN.out]; have := hV.len; omega
    clear hv ho hV vg0
    by_cases h0 : n < 4
    · have hno : Hid (hoB (m : Int) m x l = false) := by show _ = _; unfold hoB; rw [decide_eq_false (by rw [← HN.out]; omega)]; rfl
      have i9 : (n : Int) < 4 := by omega
      go_wp2
      go_ret
      exact ⟨ret_bool hno.out.symm, HB.out.below⟩
    have i9 : 4 ≤ (n : Int) := by omega
    have h0p : 4 ≤ n := by omega
    clear h0
    go_wp2
    go_loopw [5] (fun k wr => ∃ K : Nat, K ≤ n ∧ k = .int .i64 K ∧ Hid (∀ k, k < K → ∀ i, i < k → edZ x (l.getD i 0) (l.getD k 0) = holeJ n i k) ∧ Hid (From w1 wr)) (fun k _ => n - (intOf k).toNat)
    case atStart => exact ⟨0, Nat.zero_le _, rfl, fun k hk => absurd hk (by omega), From.refl _⟩
    case round =>
      obtain ⟨K, hK, rfl, hall, HR⟩ := hrel
      by_cases hlt : K < n
      · have i1 : (K : Int) < (n : Int) := by omega
        have HRo := HR
        have Hlt := Lib.hid hlt
        go_wp2
        go_loopw [6] (fun i wz => ∃ j : Nat, j ≤ K ∧ i = .int .i64 j ∧ Hid (∀ i, i < j → edZ x (l.getD i 0) (l.getD K 0) = holeJ n i K) ∧ Hid (From w1 wz)) (fun i _ => K - (intOf i).toNat)
        case atStart => exact ⟨0, Nat.zero_le _, rfl, fun i hi => absurd hi (by omega), HRo⟩
        case round =>
          clear HR HRo
          obtain ⟨j, hj, rfl, hin, HR⟩ := hrel
          by_cases hjK : j < K
          · have i2 : (j : Int) < (K : Int) := by omega
            have HLr := Lib.hid (HL.out.keep HR.out.below)
            have HGr := Lib.hid (HG.out.keep HR.out.below)
            have HCr := Lib.hid (HC.out.keep HR.out.below)
            have HBr := Lib.hid (HB.out.keep HR.out.below)
            obtain ⟨b2, o2, rfl⟩ := HLr.out.addr (by omega)
            have p0 := HLr.out.at (j := j) (by omega)
            have p1 := HLr.out.at (j := K) (by omega)
            have hmj := getD_mem (l := l) (k := j) (by rw [← HN.out]; omega)
            have hmk := getD_mem (l := l) (k := K) (by rw [← HN.out]; omega)
            obtain ⟨a0, a1⟩ := HV.out.2 _ hmj
            obtain ⟨d0, d1⟩ := HV.out.2 _ hmk
            obtain ⟨u, hu⟩ := Int.eq_ofNat_of_zero_le a0
            obtain ⟨v, hvv⟩ := Int.eq_ofNat_of_zero_le d0
            have Hed : Hid (edZ x (l.getD j 0) (l.getD K 0) = (rw_ x u).testBit v) := by show _ = _; unfold edZ; rw [hu, hvv, Int.toNat_natCast, Int.toNat_natCast]
            rw [hu] at p0 a1
            rw [hvv] at p1 d1
            have hum : u < m := by omega
            have hvm : v < m := by omega
            have hsym : (rw_ x v).testBit u = (rw_ x u).testBit v := HGr.out.vg.sym _ _ hvm hum
            obtain ⟨t, ht⟩ : ∃ t, t = (rw_ x u).testBit v := ⟨_, rfl⟩
            rw [← ht] at Hed hsym
            have KE : Hid (∀ z : World, Below wr.heap.size wr z → Calls Tryz.prog 85 #[.agg #[.int .i64 m, .slice A m c], .int .i64 v, .int .i64 u] z fun e w' => e = .returned (.bool t) ∧ Below z.heap.size z w') := fun z hz => by
              have := l2Edge_v (HGr.out.keep hz) hvm hum
              rwa [hsym] at this
            have i3 : (j : Int) < (n : Int) := by omega
            have i4 : (K : Int) < (n : Int) := by omega
            have s1 : IntKind.i64.wrap ((K : Int) - 1) = (K : Int) - 1 := Go.IntWalk.i64_in _ (by omega)
            have s2 : IntKind.i64.wrap ((n : Int) - 1) = (n : Int) - 1 := Go.IntWalk.i64_in _ (by omega)
            
            clear hmj hmk hu hvv ht a0 d0 hsym
            have e0 := HCr.out.c0
            have e1 := HCr.out.c1
            by_cases h1 : j + 1 = K
            · have q1 : ((j : Int) == (K : Int) - 1) = true := by simp; omega
              have HJ : Hid (holeJ n j K = true) := by show _ = _; unfold holeJ; rw [show (K == j + 1) = true by simp; omega]; rfl
              go_wp2
              have HSC : Hid (∀ z : World, Below wr.heap.size wr z → (Below wr.heap.size wr z ∧ z.cell? ⟨w.heap.size, 0, none⟩ = some (.int .i64 m) ∧ z.cell? ⟨w.heap.size, 1, none⟩ = some (.slice A m c) ∧ z.cell? ⟨b2, o2 + j, none⟩ = some (.int .i64 u) ∧ z.cell? ⟨b2, o2 + K, none⟩ = some (.int .i64 v))) := fun z hz => ⟨hz, up_ hz e0, up_ hz e1, up_ hz p0, up_ hz p1⟩
              have HZ0 : Hid (Below wr.heap.size wr wr.drew) := (Below.refl _ _).drew
              have HS1 := Lib.hid (HSC.out _ HZ0.out)
              have KR1 : Hid (∀ z : World, Below wr.heap.size wr z → _) := fun z hz => KE.out z hz
              refine wp_region_held_drew (S := fun z => Below wr.heap.size wr z ∧ z.cell? ⟨w.heap.size, 0, none⟩ = some (.int .i64 m) ∧ z.cell? ⟨w.heap.size, 1, none⟩ = some (.slice A m c) ∧ z.cell? ⟨b2, o2 + j, none⟩ = some (.int .i64 u) ∧ z.cell? ⟨b2, o2 + K, none⟩ = some (.int .i64 v)) (by kernel_rfl) HS1.out (fun hHeld => ?_)
              refine take_yes (i := 0) (d := 27) (v := ?v1) rfl rfl (by kernel_rfl) (by kernel_rfl) (by kernel_rfl) (fun _ _ _ h => h) (by rfl) ?y1 (by assumption) ?r1
              case y1 => (intro w hSw; (try dsimp only at hSw); go_simp <;> with_reducible rfl)
              simp only [Act.put, sl0, sl1, sl2]
              refine take_yes (i := 1) (d := 28) (v := ?v2) rfl rfl (by kernel_rfl) (by kernel_rfl) (by kernel_rfl) (fun _ _ _ h => h) (by rfl) ?y2 (by assumption) ?r2
              case y2 => (intro w hSw; (try dsimp only at hSw); go_simp <;> with_reducible rfl)
              simp only [Act.put, sl0, sl1, sl2]
              refine take_yes (i := 2) (d := 29) (v := ?v3) rfl rfl (by kernel_rfl) (by kernel_rfl) (by kernel_rfl) (fun _ _ _ h => h) (by rfl) ?y3 (by assumption) ?r3
              case y3 => (intro w hSw; (try dsimp only at hSw); go_simp <;> with_reducible rfl)
              simp only [Act.put, sl0, sl1, sl2]
              refine take_yes (i := 3) (d := 30) (v := ?v4) rfl rfl (by kernel_rfl) (by kernel_rfl) (by kernel_rfl) (fun _ _ _ h => h) (by rfl) ?y4 (by assumption) ?r4
              case y4 => (intro w hSw; (try dsimp only at hSw); go_simp <;> with_reducible rfl)
              simp only [Act.put, sl0, sl1, sl2]
              refine take_yes (i := 4) (d := 31) (v := ?v5) rfl rfl (by kernel_rfl) (by kernel_rfl) (by kernel_rfl) (fun _ _ _ h => h) (by rfl) ?y5 (by assumption) ?r5
              case y5 => (intro w hSw; (try dsimp only at hSw); go_simp <;> with_reducible rfl)
              simp only [Act.put, sl0, sl1, sl2]
              refine take_yes (i := 5) (d := 32) (v := ?v6) rfl rfl (by kernel_rfl) (by kernel_rfl) (by kernel_rfl) (fun _ _ _ h => h) (by rfl) ?y6 (by assumption) ?r6
              case y6 => (intro w hSw; (try dsimp only at hSw); go_simp <;> with_reducible rfl)
              simp only [Act.put, sl0, sl1, sl2]
              refine take_yes (i := 6) (d := 33) (v := ?v7) rfl rfl (by kernel_rfl) (by kernel_rfl) (by kernel_rfl) (fun _ _ _ h => h) (by rfl) ?y7 (by assumption) ?r7
              case y7 => (intro w hSw; (try dsimp only at hSw); go_simp <;> with_reducible rfl)
              simp only [Act.put, sl0, sl1, sl2]
              refine take_yes (i := 7) (d := 34) (v := ?v8) rfl rfl (by kernel_rfl) (by kernel_rfl) (by kernel_rfl) (fun _ _ _ h => h) (by rfl) ?y8 (by assumption) ?r8
              case y8 => (intro w hSw; (try dsimp only at hSw); go_simp <;> with_reducible rfl)
              simp only [Act.put, sl0, sl1, sl2]
              refine take_yes (i := 8) (d := 35) (v := ?v9) rfl rfl (by kernel_rfl) (by kernel_rfl) (by kernel_rfl) (fun _ _ _ h => h) (by rfl) ?y9 (by assumption) ?r9
              case y9 => (intro w hSw; (try dsimp only at hSw); go_simp <;> with_reducible rfl)
              simp only [Act.put, sl0, sl1, sl2]
              refine take_yes (i := 10) (d := 37) (v := ?v10) rfl rfl (by kernel_rfl) (by kernel_rfl) (by kernel_rfl) (fun _ _ _ h => h) (by rfl) ?y10 (by assumption) ?r10
              case y10 => (intro w hSw; (try dsimp only at hSw); go_simp <;> with_reducible rfl)
              simp only [Act.put, sl0, sl1, sl2]
              refine take_yes (i := 11) (d := 38) (v := ?v11) rfl rfl (by kernel_rfl) (by kernel_rfl) (by kernel_rfl) (fun _ _ _ h => h) (by rfl) ?y11 (by assumption) ?r11
              case y11 => (intro w hSw; (try dsimp only at hSw); go_simp <;> with_reducible rfl)
              simp only [Act.put, sl0, sl1, sl2]
              refine take_yes (i := 12) (d := 39) (v := ?v12) rfl rfl (by kernel_rfl) (by kernel_rfl) (by kernel_rfl) (fun _ _ _ h => h) (by rfl) ?y12 (by assumption) ?r12
              case y12 => (intro w hSw; (try dsimp only at hSw); go_simp <;> with_reducible rfl)
              simp only [Act.put, sl0, sl1, sl2]
              refine take_yes (i := 13) (d := 40) (v := ?v13) rfl rfl (by kernel_rfl) (by kernel_rfl) (by kernel_rfl) (fun _ _ _ h => h) (by rfl) ?y13 (by assumption) ?r13
              case y13 => (intro w hSw; (try dsimp only at hSw); go_simp <;> with_reducible rfl)
              simp only [Act.put, sl0, sl1, sl2]
              refine wpAnyH_ready (rs := [9]) (by kernel_rfl) (by simp) ?_
              refine AllReadyH.cons rfl (fun K hK => ?_) AllReadyH.nil
              go_simp
              go_at_call 85; refine (KR1.out _ HZ0.out).mono ?_
              rintro e w2 ⟨rfl, hb2⟩
              have hz2 := bl_trans HZ0.out hb2
              refine hK.out _ _ (HSC.out _ hz2) (fun hHeld => ?_)
              clear hK K
              try simp only [Act.put, sl0, sl1, sl2]
              refine take_yes (i := 14) (d := 41) (v := ?v14) rfl rfl (by kernel_rfl) (by kernel_rfl) (by kernel_rfl) (fun _ _ _ h => h) (by rfl) ?y14 (by assumption) ?r14
              case y14 => (intro w hSw; (try dsimp only at hSw); go_simp <;> with_reducible rfl)
              simp only [Act.put, sl0, sl1, sl2]
              refine take_no (i := 15) (d := 42) rfl rfl (by kernel_rfl) (by kernel_rfl) (by kernel_rfl) (fun _ _ _ h => h) (by rfl) (by assumption) ?_
              simp only [Act.put, sl0, sl1, sl2]
              refine take_no (i := 16) (d := 43) rfl rfl (by kernel_rfl) (by kernel_rfl) (by kernel_rfl) (fun _ _ _ h => h) (by rfl) (by assumption) ?_
              simp only [Act.put, sl0, sl1, sl2]
              refine take_no (i := 17) (d := 44) rfl rfl (by kernel_rfl) (by kernel_rfl) (by kernel_rfl) (fun _ _ _ h => h) (by rfl) (by assumption) ?_
              simp only [Act.put, sl0, sl1, sl2]
              refine take_no (i := 18) (d := 45) rfl rfl (by kernel_rfl) (by kernel_rfl) (by kernel_rfl) (fun _ _ _ h => h) (by rfl) (by assumption) ?_
              simp only [Act.put, sl0, sl1, sl2]
              refine take_no (i := 19) (d := 46) rfl rfl (by kernel_rfl) (by kernel_rfl) (by kernel_rfl) (fun _ _ _ h => h) (by rfl) (by assumption) ?_
              simp only [Act.put, sl0, sl1, sl2]
              refine take_no (i := 20) (d := 47) rfl rfl (by kernel_rfl) (by kernel_rfl) (by kernel_rfl) (fun _ _ _ h => h) (by rfl) (by assumption) ?_
              simp only [Act.put, sl0, sl1, sl2]
              refine take_no (i := 21) (d := 48) rfl rfl (by kernel_rfl) (by kernel_rfl) (by kernel_rfl) (fun _ _ _ h => h) (by rfl) (by assumption) ?_
              simp only [Act.put, sl0, sl1, sl2]
              refine take_no (i := 22) (d := 49) rfl rfl (by kernel_rfl) (by kernel_rfl) (by kernel_rfl) (fun _ _ _ h => h) (by rfl) (by assumption) ?_
              simp only [Act.put, sl0, sl1, sl2]
              refine take_no (i := 23) (d := 50) rfl rfl (by kernel_rfl) (by kernel_rfl) (by kernel_rfl) (fun _ _ _ h => h) (by rfl) (by assumption) ?_
              simp only [Act.put, sl0, sl1, sl2]
              refine take_yes (i := 24) (d := 51) (v := ?v15) rfl rfl (by kernel_rfl) (by kernel_rfl) (by kernel_rfl) (fun _ _ _ h => h) (by rfl) ?y15 (by assumption) ?r15
              case y15 => (intro w hSw; (try dsimp only at hSw); go_simp <;> with_reducible rfl)
              simp only [Act.put, sl0, sl1, sl2]
              refine take_yes (i := 25) (d := 52) (v := ?v16) rfl rfl (by kernel_rfl) (by kernel_rfl) (by kernel_rfl) (fun _ _ _ h => h) (by rfl) ?y16 (by assumption) ?r16
              case y16 => (intro w hSw; (try dsimp only at hSw); go_simp <;> with_reducible rfl)
              simp only [Act.put, sl0, sl1, sl2]
              refine wpAnyH_done (by kernel_rfl) ?_ _
              clear e0 e1
              replace HCr := Lib.hid (HCr.out.keep hz2)
              replace HR := Lib.hid (HR.out.keep hz2)
              replace HBr := Lib.hid (HBr.out.keep hz2)
              clear hb2 hz2 HSC HZ0 HS1 KR1
              have e0 := HCr.out.c0
              have e1 := HCr.out.c1
              cases t
              · have hno : Hid (ajB (m : Int) m x l (holeJ l.length) = false) := ajB_no (i := j) (k := K) hjK (by rw [← HN.out]; exact Hlt.out) (by rw [Hed.out, ← HN.out, HJ.out]; decide)
                have hno2 : Hid (hoB (m : Int) m x l = false) := by show _ = _; unfold hoB; rw [hno.out, Bool.and_false]
                go_wp2
                go_ret
                exact ⟨ret_bool hno2.out.symm, HBr.out.below⟩
              · go_wp2
                go_roundw
                case rel =>
                  refine ⟨j + 1, by omega, by go_num, fun i hi => ?_, HR⟩
                  by_cases hij : i < j
                  · exact hin.out i hij
                  · obtain rfl : i = j := by omega
                    rw [Hed.out, HJ.out]
                case measure => (simp [intOf] <;> omega)
            · by_cases h2 : j = 0
              · by_cases h3 : K + 1 = n
                · subst h2
                  have i2 : (0 : Int) < (K : Int) := by omega
                  have i3 : (0 : Int) < (n : Int) := by omega
                  have i5 : 0 < n := by omega
                  have p0 : wr.cell? ⟨b2, o2, none⟩ = some (.int .i64 u) := p0
                  have q1 : ((0 : Int) == (K : Int) - 1) = false := by simp; omega
                  have q2 : ((0 : Int) == 0) = true := rfl
                  have q3 : ((K : Int) == (n : Int) - 1) = true := by simp; omega
                  have HJ : Hid (holeJ n 0 K = true) := by show _ = _; unfold holeJ; rw [show (0 == 0) = true by simp, show (K + 1 == n) = true by simpa using h3, Bool.and_self, Bool.or_true]
                  go_wp2
                  have HSC : Hid (∀ z : World, Below wr.heap.size wr z → (Below wr.heap.size wr z ∧ z.cell? ⟨w.heap.size, 0, none⟩ = some (.int .i64 m) ∧ z.cell? ⟨w.heap.size, 1, none⟩ = some (.slice A m c) ∧ z.cell? ⟨b2, o2, none⟩ = some (.int .i64 u) ∧ z.cell? ⟨b2, o2 + K, none⟩ = some (.int .i64 v))) := fun z hz => ⟨hz, up_ hz e0, up_ hz e1, up_ hz p0, up_ hz p1⟩
                  have HZ0 : Hid (Below wr.heap.size wr wr.drew) := (Below.refl _ _).drew
                  have HS1 := Lib.hid (HSC.out _ HZ0.out)
                  have KR1 : Hid (∀ z : World, Below wr.heap.size wr z → _) := fun z hz => KE.out z hz
                  refine wp_region_held_drew (S := fun z => Below wr.heap.size wr z ∧ z.cell? ⟨w.heap.size, 0, none⟩ = some (.int .i64 m) ∧ z.cell? ⟨w.heap.size, 1, none⟩ = some (.slice A m c) ∧ z.cell? ⟨b2, o2, none⟩ = some (.int .i64 u) ∧ z.cell? ⟨b2, o2 + K, none⟩ = some (.int .i64 v)) (by kernel_rfl) HS1.out (fun hHeld => ?_)
                  refine take_yes (i := 0) (d := 27) (v := ?v17) rfl rfl (by kernel_rfl) (by kernel_rfl) (by kernel_rfl) (fun _ _ _ h => h) (by rfl) ?y17 (by assumption) ?r17
                  case y17 => (intro w hSw; (try dsimp only at hSw); go_simp <;> with_reducible rfl)
                  simp only [Act.put, sl0, sl1, sl2]
                  refine take_yes (i := 1) (d := 28) (v := ?v18) rfl rfl (by kernel_rfl) (by kernel_rfl) (by kernel_rfl) (fun _ _ _ h => h) (by rfl) ?y18 (by assumption) ?r18
                  case y18 => (intro w hSw; (try dsimp only at hSw); go_simp <;> with_reducible rfl)
                  simp only [Act.put, sl0, sl1, sl2]
                  refine take_yes (i := 2) (d := 29) (v := ?v19) rfl rfl (by kernel_rfl) (by kernel_rfl) (by kernel_rfl) (fun _ _ _ h => h) (by rfl) ?y19 (by assumption) ?r19
                  case y19 => (intro w hSw; (try dsimp only at hSw); go_simp <;> with_reducible rfl)
                  simp only [Act.put, sl0, sl1, sl2]
                  refine take_yes (i := 3) (d := 30) (v := ?v20) rfl rfl (by kernel_rfl) (by kernel_rfl) (by kernel_rfl) (fun _ _ _ h => h) (by rfl) ?y20 (by assumption) ?r20
                  case y20 => (intro w hSw; (try dsimp only at hSw); go_simp <;> with_reducible rfl)
                  simp only [Act.put, sl0, sl1, sl2]
                  refine take_yes (i := 4) (d := 31) (v := ?v21) rfl rfl (by kernel_rfl) (by kernel_rfl) (by kernel_rfl) (fun _ _ _ h => h) (by rfl) ?y21 (by assumption) ?r21
                  case y21 => (intro w hSw; (try dsimp only at hSw); go_simp <;> with_reducible rfl)
                  simp only [Act.put, sl0, sl1, sl2]
                  refine take_yes (i := 5) (d := 32) (v := ?v22) rfl rfl (by kernel_rfl) (by kernel_rfl) (by kernel_rfl) (fun _ _ _ h => h) (by rfl) ?y22 (by assumption) ?r22
                  case y22 => (intro w hSw; (try dsimp only at hSw); go_simp <;> with_reducible rfl)
                  simp only [Act.put, sl0, sl1, sl2]
                  refine take_yes (i := 6) (d := 33) (v := ?v23) rfl rfl (by kernel_rfl) (by kernel_rfl) (by kernel_rfl) (fun _ _ _ h => h) (by rfl) ?y23 (by assumption) ?r23
                  case y23 => (intro w hSw; (try dsimp only at hSw); go_simp <;> with_reducible rfl)
                  simp only [Act.put, sl0, sl1, sl2]
                  refine take_yes (i := 7) (d := 34) (v := ?v24) rfl rfl (by kernel_rfl) (by kernel_rfl) (by kernel_rfl) (fun _ _ _ h => h) (by rfl) ?y24 (by assumption) ?r24
                  case y24 => (intro w hSw; (try dsimp only at hSw); go_simp <;> with_reducible rfl)
                  simp only [Act.put, sl0, sl1, sl2]
                  refine take_yes (i := 8) (d := 35) (v := ?v25) rfl rfl (by kernel_rfl) (by kernel_rfl) (by kernel_rfl) (fun _ _ _ h => h) (by rfl) ?y25 (by assumption) ?r25
                  case y25 => (intro w hSw; (try dsimp only at hSw); go_simp <;> with_reducible rfl)
                  simp only [Act.put, sl0, sl1, sl2]
                  refine take_yes (i := 10) (d := 37) (v := ?v26) rfl rfl (by kernel_rfl) (by kernel_rfl) (by kernel_rfl) (fun _ _ _ h => h) (by rfl) ?y26 (by assumption) ?r26
                  case y26 => (intro w hSw; (try dsimp only at hSw); go_simp <;> with_reducible rfl)
                  simp only [Act.put, sl0, sl1, sl2]
                  refine take_yes (i := 11) (d := 38) (v := ?v27) rfl rfl (by kernel_rfl) (by kernel_rfl) (by kernel_rfl) (fun _ _ _ h => h) (by rfl) ?y27 (by assumption) ?r27
                  case y27 => (intro w hSw; (try dsimp only at hSw); go_simp <;> with_reducible rfl)
                  simp only [Act.put, sl0, sl1, sl2]
                  refine take_yes (i := 12) (d := 39) (v := ?v28) rfl rfl (by kernel_rfl) (by kernel_rfl) (by kernel_rfl) (fun _ _ _ h => h) (by rfl) ?y28 (by assumption) ?r28
                  case y28 => (intro w hSw; (try dsimp only at hSw); go_simp <;> with_reducible rfl)
                  simp only [Act.put, sl0, sl1, sl2]
                  refine take_yes (i := 13) (d := 40) (v := ?v29) rfl rfl (by kernel_rfl) (by kernel_rfl) (by kernel_rfl) (fun _ _ _ h => h) (by rfl) ?y29 (by assumption) ?r29
                  case y29 => (intro w hSw; (try dsimp only at hSw); go_simp <;> with_reducible rfl)
                  simp only [Act.put, sl0, sl1, sl2]
                  refine wpAnyH_ready (rs := [9]) (by kernel_rfl) (by simp) ?_
                  refine AllReadyH.cons rfl (fun K hK => ?_) AllReadyH.nil
                  go_simp
                  go_at_call 85; refine (KR1.out _ HZ0.out).mono ?_
                  rintro e w3 ⟨rfl, hb3⟩
                  have hz3 := bl_trans HZ0.out hb3
                  refine hK.out _ _ (HSC.out _ hz3) (fun hHeld => ?_)
                  clear hK K
                  try simp only [Act.put, sl0, sl1, sl2]
                  refine take_yes (i := 14) (d := 41) (v := ?v30) rfl rfl (by kernel_rfl) (by kernel_rfl) (by kernel_rfl) (fun _ _ _ h => h) (by rfl) ?y30 (by assumption) ?r30
                  case y30 => (intro w hSw; (try dsimp only at hSw); go_simp <;> with_reducible rfl)
                  simp only [Act.put, sl0, sl1, sl2]
                  refine take_yes (i := 15) (d := 42) (v := ?v31) rfl rfl (by kernel_rfl) (by kernel_rfl) (by kernel_rfl) (fun _ _ _ h => h) (by rfl) ?y31 (by assumption) ?r31
                  case y31 => (intro w hSw; (try dsimp only at hSw); go_simp <;> with_reducible rfl)
                  simp only [Act.put, sl0, sl1, sl2]
                  refine take_yes (i := 16) (d := 43) (v := ?v32) rfl rfl (by kernel_rfl) (by kernel_rfl) (by kernel_rfl) (fun _ _ _ h => h) (by rfl) ?y32 (by assumption) ?r32
                  case y32 => (intro w hSw; (try dsimp only at hSw); go_simp <;> with_reducible rfl)
                  simp only [Act.put, sl0, sl1, sl2]
                  refine take_yes (i := 17) (d := 44) (v := ?v33) rfl rfl (by kernel_rfl) (by kernel_rfl) (by kernel_rfl) (fun _ _ _ h => h) (by rfl) ?y33 (by assumption) ?r33
                  case y33 => (intro w hSw; (try dsimp only at hSw); go_simp <;> with_reducible rfl)
                  simp only [Act.put, sl0, sl1, sl2]
                  refine take_yes (i := 18) (d := 45) (v := ?v34) rfl rfl (by kernel_rfl) (by kernel_rfl) (by kernel_rfl) (fun _ _ _ h => h) (by rfl) ?y34 (by assumption) ?r34
                  case y34 => (intro w hSw; (try dsimp only at hSw); go_simp <;> with_reducible rfl)
                  simp only [Act.put, sl0, sl1, sl2]
                  refine take_yes (i := 19) (d := 46) (v := ?v35) rfl rfl (by kernel_rfl) (by kernel_rfl) (by kernel_rfl) (fun _ _ _ h => h) (by rfl) ?y35 (by assumption) ?r35
                  case y35 => (intro w hSw; (try dsimp only at hSw); go_simp <;> with_reducible rfl)
                  simp only [Act.put, sl0, sl1, sl2]
                  refine take_yes (i := 20) (d := 47) (v := ?v36) rfl rfl (by kernel_rfl) (by kernel_rfl) (by kernel_rfl) (fun _ _ _ h => h) (by rfl) ?y36 (by assumption) ?r36
                  case y36 => (intro w hSw; (try dsimp only at hSw); go_simp <;> with_reducible rfl)
                  simp only [Act.put, sl0, sl1, sl2]
                  refine take_yes (i := 21) (d := 48) (v := ?v37) rfl rfl (by kernel_rfl) (by kernel_rfl) (by kernel_rfl) (fun _ _ _ h => h) (by rfl) ?y37 (by assumption) ?r37
                  case y37 => (intro w hSw; (try dsimp only at hSw); go_simp <;> with_reducible rfl)
                  simp only [Act.put, sl0, sl1, sl2]
                  refine take_yes (i := 22) (d := 49) (v := ?v38) rfl rfl (by kernel_rfl) (by kernel_rfl) (by kernel_rfl) (fun _ _ _ h => h) (by rfl) ?y38 (by assumption) ?r38
                  case y38 => (intro w hSw; (try dsimp only at hSw); go_simp <;> with_reducible rfl)
                  simp only [Act.put, sl0, sl1, sl2]
                  refine take_yes (i := 23) (d := 50) (v := ?v39) rfl rfl (by kernel_rfl) (by kernel_rfl) (by kernel_rfl) (fun _ _ _ h => h) (by rfl) ?y39 (by assumption) ?r39
                  case y39 => (intro w hSw; (try dsimp only at hSw); go_simp <;> with_reducible rfl)
                  simp only [Act.put, sl0, sl1, sl2]
                  refine take_yes (i := 24) (d := 51) (v := ?v40) rfl rfl (by kernel_rfl) (by kernel_rfl) (by kernel_rfl) (fun _ _ _ h => h) (by rfl) ?y40 (by assumption) ?r40
                  case y40 => (intro w hSw; (try dsimp only at hSw); go_simp <;> with_reducible rfl)
                  simp only [Act.put, sl0, sl1, sl2]
                  refine take_yes (i := 25) (d := 52) (v := ?v41) rfl rfl (by kernel_rfl) (by kernel_rfl) (by kernel_rfl) (fun _ _ _ h => h) (by rfl) ?y41 (by assumption) ?r41
                  case y41 => (intro w hSw; (try dsimp only at hSw); go_simp <;> with_reducible rfl)
                  simp only [Act.put, sl0, sl1, sl2]
                  refine wpAnyH_done (by kernel_rfl) ?_ _
                  clear e0 e1
                  replace HCr := Lib.hid (HCr.out.keep hz3)
                  replace HR := Lib.hid (HR.out.keep hz3)
                  replace HBr := Lib.hid (HBr.out.keep hz3)
                  clear hb3 hz3 HSC HZ0 HS1 KR1
                  have e0 := HCr.out.c0
                  have e1 := HCr.out.c1
                  cases t
                  · have hno : Hid (ajB (m : Int) m x l (holeJ l.length) = false) := ajB_no (i := 0) (k := K) hjK (by rw [← HN.out]; exact Hlt.out) (by rw [Hed.out, ← HN.out, HJ.out]; decide)
                    have hno2 : Hid (hoB (m : Int) m x l = false) := by show _ = _; unfold hoB; rw [hno.out, Bool.and_false]
                    go_wp2
                    go_ret
                    exact ⟨ret_bool hno2.out.symm, HBr.out.below⟩
                  · go_wp2
                    go_roundw
                    case rel =>
                      refine ⟨0 + 1, by omega, by go_num, fun i hi => ?_, HR⟩
                      by_cases hij : i < 0
                      · exact hin.out i hij
                      · obtain rfl : i = 0 := by omega
                        rw [Hed.out, HJ.out]
                    case measure => (simp [intOf] <;> omega)
                · subst h2
                  have i2 : (0 : Int) < (K : Int) := by omega
                  have i3 : (0 : Int) < (n : Int) := by omega
                  have i5 : 0 < n := by omega
                  have p0 : wr.cell? ⟨b2, o2, none⟩ = some (.int .i64 u) := p0
                  have q1 : ((0 : Int) == (K : Int) - 1) = false := by simp; omega
                  have q2 : ((0 : Int) == 0) = true := rfl
                  have q3 : ((K : Int) == (n : Int) - 1) = false := by simp; omega
                  have HJ : Hid (holeJ n 0 K = false) := by show _ = _; unfold holeJ; rw [show (K == 0 + 1) = false by simp; omega, show (K + 1 == n) = false by simpa using h3, Bool.and_false, Bool.or_false]
                  go_wp2
                  have HSC : Hid (∀ z : World, Below wr.heap.size wr z → (Below wr.heap.size wr z ∧ z.cell? ⟨w.heap.size, 0, none⟩ = some (.int .i64 m) ∧ z.cell? ⟨w.heap.size, 1, none⟩ = some (.slice A m c) ∧ z.cell? ⟨b2, o2, none⟩ = some (.int .i64 u) ∧ z.cell? ⟨b2, o2 + K, none⟩ = some (.int .i64 v))) := fun z hz => ⟨hz, up_ hz e0, up_ hz e1, up_ hz p0, up_ hz p1⟩
                  have HZ0 : Hid (Below wr.heap.size wr wr.drew) := (Below.refl _ _).drew
                  have HS1 := Lib.hid (HSC.out _ HZ0.out)
                  have KR1 : Hid (∀ z : World, Below wr.heap.size wr z → _) := fun z hz => KE.out z hz
                  refine wp_region_held_drew (S := fun z => Below wr.heap.size wr z ∧ z.cell? ⟨w.heap.size, 0, none⟩ = some (.int .i64 m) ∧ z.cell? ⟨w.heap.size, 1, none⟩ = some (.slice A m c) ∧ z.cell? ⟨b2, o2, none⟩ = some (.int .i64 u) ∧ z.cell? ⟨b2, o2 + K, none⟩ = some (.int .i64 v)) (by kernel_rfl) HS1.out (fun hHeld => ?_)
                  refine take_yes (i := 0) (d := 27) (v := ?v42) rfl rfl (by kernel_rfl) (by kernel_rfl) (by kernel_rfl) (fun _ _ _ h => h) (by rfl) ?y42 (by assumption) ?r42
                  case y42 => (intro w hSw; (try dsimp only at hSw); go_simp <;> with_reducible rfl)
                  simp only [Act.put, sl0, sl1, sl2]
                  refine take_yes (i := 1) (d := 28) (v := ?v43) rfl rfl (by kernel_rfl) (by kernel_rfl) (by kernel_rfl) (fun _ _ _ h => h) (by rfl) ?y43 (by assumption) ?r43
                  case y43 => (intro w hSw; (try dsimp only at hSw); go_simp <;> with_reducible rfl)
                  simp only [Act.put, sl0, sl1, sl2]
                  refine take_yes (i := 2) (d := 29) (v := ?v44) rfl rfl (by kernel_rfl) (by kernel_rfl) (by kernel_rfl) (fun _ _ _ h => h) (by rfl) ?y44 (by assumption) ?r44
                  case y44 => (intro w hSw; (try dsimp only at hSw); go_simp <;> with_reducible rfl)
                  simp only [Act.put, sl0, sl1, sl2]
                  refine take_yes (i := 3) (d := 30) (v := ?v45) rfl rfl (by kernel_rfl) (by kernel_rfl) (by kernel_rfl) (fun _ _ _ h => h) (by rfl) ?y45 (by assumption) ?r45
                  case y45 => (intro w hSw; (try dsimp only at hSw); go_simp <;> with_reducible rfl)
                  simp only [Act.put, sl0, sl1, sl2]
                  refine take_yes (i := 4) (d := 31) (v := ?v46) rfl rfl (by kernel_rfl) (by kernel_rfl) (by kernel_rfl) (fun _ _ _ h => h) (by rfl) ?y46 (by assumption) ?r46
                  case y46 => (intro w hSw; (try dsimp only at hSw); go_simp <;> with_reducible rfl)
                  simp only [Act.put, sl0, sl1, sl2]
                  refine take_yes (i := 5) (d := 32) (v := ?v47) rfl rfl (by kernel_rfl) (by kernel_rfl) (by kernel_rfl) (fun _ _ _ h => h) (by rfl) ?y47 (by assumption) ?r47
                  case y47 => (intro w hSw; (try dsimp only at hSw); go_simp <;> with_reducible rfl)
                  simp only [Act.put, sl0, sl1, sl2]
                  refine take_yes (i := 6) (d := 33) (v := ?v48) rfl rfl (by kernel_rfl) (by kernel_rfl) (by kernel_rfl) (fun _ _ _ h => h) (by rfl) ?y48 (by assumption) ?r48
                  case y48 => (intro w hSw; (try dsimp only at hSw); go_simp <;> with_reducible rfl)
                  simp only [Act.put, sl0, sl1, sl2]
                  refine take_yes (i := 7) (d := 34) (v := ?v49) rfl rfl (by kernel_rfl) (by kernel_rfl) (by kernel_rfl) (fun _ _ _ h => h) (by rfl) ?y49 (by assumption) ?r49
                  case y49 => (intro w hSw; (try dsimp only at hSw); go_simp <;> with_reducible rfl)
                  simp only [Act.put, sl0, sl1, sl2]
                  refine take_yes (i := 8) (d := 35) (v := ?v50) rfl rfl (by kernel_rfl) (by kernel_rfl) (by kernel_rfl) (fun _ _ _ h => h) (by rfl) ?y50 (by assumption) ?r50
                  case y50 => (intro w hSw; (try dsimp only at hSw); go_simp <;> with_reducible rfl)
                  simp only [Act.put, sl0, sl1, sl2]
                  refine take_yes (i := 10) (d := 37) (v := ?v51) rfl rfl (by kernel_rfl) (by kernel_rfl) (by kernel_rfl) (fun _ _ _ h => h) (by rfl) ?y51 (by assumption) ?r51
                  case y51 => (intro w hSw; (try dsimp only at hSw); go_simp <;> with_reducible rfl)
                  simp only [Act.put, sl0, sl1, sl2]
                  refine take_yes (i := 11) (d := 38) (v := ?v52) rfl rfl (by kernel_rfl) (by kernel_rfl) (by kernel_rfl) (fun _ _ _ h => h) (by rfl) ?y52 (by assumption) ?r52
                  case y52 => (intro w hSw; (try dsimp only at hSw); go_simp <;> with_reducible rfl)
                  simp only [Act.put, sl0, sl1, sl2]
                  refine take_yes (i := 12) (d := 39) (v := ?v53) rfl rfl (by kernel_rfl) (by kernel_rfl) (by kernel_rfl) (fun _ _ _ h => h) (by rfl) ?y53 (by assumption) ?r53
                  case y53 => (intro w hSw; (try dsimp only at hSw); go_simp <;> with_reducible rfl)
                  simp only [Act.put, sl0, sl1, sl2]
                  refine take_yes (i := 13) (d := 40) (v := ?v54) rfl rfl (by kernel_rfl) (by kernel_rfl) (by kernel_rfl) (fun _ _ _ h => h) (by rfl) ?y54 (by assumption) ?r54
                  case y54 => (intro w hSw; (try dsimp only at hSw); go_simp <;> with_reducible rfl)
                  simp only [Act.put, sl0, sl1, sl2]
                  refine wpAnyH_ready (rs := [9]) (by kernel_rfl) (by simp) ?_
                  refine AllReadyH.cons rfl (fun K hK => ?_) AllReadyH.nil
                  go_simp
                  go_at_call 85; refine (KR1.out _ HZ0.out).mono ?_
                  rintro e w4 ⟨rfl, hb4⟩
                  have hz4 := bl_trans HZ0.out hb4
                  refine hK.out _ _ (HSC.out _ hz4) (fun hHeld => ?_)
                  clear hK K
                  try simp only [Act.put, sl0, sl1, sl2]
                  refine take_yes (i := 14) (d := 41) (v := ?v55) rfl rfl (by kernel_rfl) (by kernel_rfl) (by kernel_rfl) (fun _ _ _ h => h) (by rfl) ?y55 (by assumption) ?r55
                  case y55 => (intro w hSw; (try dsimp only at hSw); go_simp <;> with_reducible rfl)
                  simp only [Act.put, sl0, sl1, sl2]
                  refine take_yes (i := 15) (d := 42) (v := ?v56) rfl rfl (by kernel_rfl) (by kernel_rfl) (by kernel_rfl) (fun _ _ _ h => h) (by rfl) ?y56 (by assumption) ?r56
                  case y56 => (intro w hSw; (try dsimp only at hSw); go_simp <;> with_reducible rfl)
                  simp only [Act.put, sl0, sl1, sl2]
                  refine take_yes (i := 16) (d := 43) (v := ?v57) rfl rfl (by kernel_rfl) (by kernel_rfl) (by kernel_rfl) (fun _ _ _ h => h) (by rfl) ?y57 (by assumption) ?r57
                  case y57 => (intro w hSw; (try dsimp only at hSw); go_simp <;> with_reducible rfl)
                  simp only [Act.put, sl0, sl1, sl2]
                  refine take_yes (i := 17) (d := 44) (v := ?v58) rfl rfl (by kernel_rfl) (by kernel_rfl) (by kernel_rfl) (fun _ _ _ h => h) (by rfl) ?y58 (by assumption) ?r58
                  case y58 => (intro w hSw; (try dsimp only at hSw); go_simp <;> with_reducible rfl)
                  simp only [Act.put, sl0, sl1, sl2]
                  refine take_yes (i := 18) (d := 45) (v := ?v59) rfl rfl (by kernel_rfl) (by kernel_rfl) (by kernel_rfl) (fun _ _ _ h => h) (by rfl) ?y59 (by assumption) ?r59
                  case y59 => (intro w hSw; (try dsimp only at hSw); go_simp <;> with_reducible rfl)
                  simp only [Act.put, sl0, sl1, sl2]
                  refine take_yes (i := 19) (d := 46) (v := ?v60) rfl rfl (by kernel_rfl) (by kernel_rfl) (by kernel_rfl) (fun _ _ _ h => h) (by rfl) ?y60 (by assumption) ?r60
                  case y60 => (intro w hSw; (try dsimp only at hSw); go_simp <;> with_reducible rfl)
                  simp only [Act.put, sl0, sl1, sl2]
                  refine take_yes (i := 20) (d := 47) (v := ?v61) rfl rfl (by kernel_rfl) (by kernel_rfl) (by kernel_rfl) (fun _ _ _ h => h) (by rfl) ?y61 (by assumption) ?r61
                  case y61 => (intro w hSw; (try dsimp only at hSw); go_simp <;> with_reducible rfl)
                  simp only [Act.put, sl0, sl1, sl2]
                  refine take_yes (i := 21) (d := 48) (v := ?v62) rfl rfl (by kernel_rfl) (by kernel_rfl) (by kernel_rfl) (fun _ _ _ h => h) (by rfl) ?y62 (by assumption) ?r62
                  case y62 => (intro w hSw; (try dsimp only at hSw); go_simp <;> with_reducible rfl)
                  simp only [Act.put, sl0, sl1, sl2]
                  refine take_yes (i := 22) (d := 49) (v := ?v63) rfl rfl (by kernel_rfl) (by kernel_rfl) (by kernel_rfl) (fun _ _ _ h => h) (by rfl) ?y63 (by assumption) ?r63
                  case y63 => (intro w hSw; (try dsimp only at hSw); go_simp <;> with_reducible rfl)
                  simp only [Act.put, sl0, sl1, sl2]
                  refine take_yes (i := 23) (d := 50) (v := ?v64) rfl rfl (by kernel_rfl) (by kernel_rfl) (by kernel_rfl) (fun _ _ _ h => h) (by rfl) ?y64 (by assumption) ?r64
                  case y64 => (intro w hSw; (try dsimp only at hSw); go_simp <;> with_reducible rfl)
                  simp only [Act.put, sl0, sl1, sl2]
                  refine take_yes (i := 24) (d := 51) (v := ?v65) rfl rfl (by kernel_rfl) (by kernel_rfl) (by kernel_rfl) (fun _ _ _ h => h) (by rfl) ?y65 (by assumption) ?r65
                  case y65 => (intro w hSw; (try dsimp only at hSw); go_simp <;> with_reducible rfl)
                  simp only [Act.put, sl0, sl1, sl2]
                  refine take_yes (i := 25) (d := 52) (v := ?v66) rfl rfl (by kernel_rfl) (by kernel_rfl) (by kernel_rfl) (fun _ _ _ h => h) (by rfl) ?y66 (by assumption) ?r66
                  case y66 => (intro w hSw; (try dsimp only at hSw); go_simp <;> with_reducible rfl)
                  simp only [Act.put, sl0, sl1, sl2]
                  refine wpAnyH_done (by kernel_rfl) ?_ _
                  clear e0 e1
                  replace HCr := Lib.hid (HCr.out.keep hz4)
                  replace HR := Lib.hid (HR.out.keep hz4)
                  replace HBr := Lib.hid (HBr.out.keep hz4)
                  clear hb4 hz4 HSC HZ0 HS1 KR1
                  have e0 := HCr.out.c0
                  have e1 := HCr.out.c1
                  cases t
                  · go_wp2
                    go_roundw
                    case rel =>
                      refine ⟨0 + 1, by omega, by go_num, fun i hi => ?_, HR⟩
                      by_cases hij : i < 0
                      · exact hin.out i hij
                      · obtain rfl : i = 0 := by omega
                        rw [Hed.out, HJ.out]
                    case measure => (simp [intOf] <;> omega)
                  · have hno : Hid (ajB (m : Int) m x l (holeJ l.length) = false) := ajB_no (i := 0) (k := K) hjK (by rw [← HN.out]; exact Hlt.out) (by rw [Hed.out, ← HN.out, HJ.out]; decide)
                    have hno2 : Hid (hoB (m : Int) m x l = false) := by show _ = _; unfold hoB; rw [hno.out, Bool.and_false]
                    go_wp2
                    go_ret
                    exact ⟨ret_bool hno2.out.symm, HBr.out.below⟩
              · have q1 : ((j : Int) == (K : Int) - 1) = false := by simp; omega
                have q2 : ((j : Int) == 0) = false := by simp; omega
                have HJ : Hid (holeJ n j K = false) := by show _ = _; unfold holeJ; rw [show (K == j + 1) = false by simp; omega, show (j == 0) = false by simpa using h2, Bool.false_and, Bool.or_false]
                go_wp2
                have HSC : Hid (∀ z : World, Below wr.heap.size wr z → (Below wr.heap.size wr z ∧ z.cell? ⟨w.heap.size, 0, none⟩ = some (.int .i64 m) ∧ z.cell? ⟨w.heap.size, 1, none⟩ = some (.slice A m c) ∧ z.cell? ⟨b2, o2 + j, none⟩ = some (.int .i64 u) ∧ z.cell? ⟨b2, o2 + K, none⟩ = some (.int .i64 v))) := fun z hz => ⟨hz, up_ hz e0, up_ hz e1, up_ hz p0, up_ hz p1⟩
                have HZ0 : Hid (Below wr.heap.size wr wr.drew) := (Below.refl _ _).drew
                have HS1 := Lib.hid (HSC.out _ HZ0.out)
                have KR1 : Hid (∀ z : World, Below wr.heap.size wr z → _) := fun z hz => KE.out z hz
                refine wp_region_held_drew (S := fun z => Below wr.heap.size wr z ∧ z.cell? ⟨w.heap.size, 0, none⟩ = some (.int .i64 m) ∧ z.cell? ⟨w.heap.size, 1, none⟩ = some (.slice A m c) ∧ z.cell? ⟨b2, o2 + j, none⟩ = some (.int .i64 u) ∧ z.cell? ⟨b2, o2 + K, none⟩ = some (.int .i64 v)) (by kernel_rfl) HS1.out (fun hHeld => ?_)
                refine take_yes (i := 0) (d := 27) (v := ?v67) rfl rfl (by kernel_rfl) (by kernel_rfl) (by kernel_rfl) (fun _ _ _ h => h) (by rfl) ?y67 (by assumption) ?r67
                case y67 => (intro w hSw; (try dsimp only at hSw); go_simp <;> with_reducible rfl)
                simp only [Act.put, sl0, sl1, sl2]
                refine take_yes (i := 1) (d := 28) (v := ?v68) rfl rfl (by kernel_rfl) (by kernel_rfl) (by kernel_rfl) (fun _ _ _ h => h) (by rfl) ?y68 (by assumption) ?r68
                case y68 => (intro w hSw; (try dsimp only at hSw); go_simp <;> with_reducible rfl)
                simp only [Act.put, sl0, sl1, sl2]
                refine take_yes (i := 2) (d := 29) (v := ?v69) rfl rfl (by kernel_rfl) (by kernel_rfl) (by kernel_rfl) (fun _ _ _ h => h) (by rfl) ?y69 (by assumption) ?r69
                case y69 => (intro w hSw; (try dsimp only at hSw); go_simp <;> with_reducible rfl)
                simp only [Act.put, sl0, sl1, sl2]
                refine take_yes (i := 3) (d := 30) (v := ?v70) rfl rfl (by kernel_rfl) (by kernel_rfl) (by kernel_rfl) (fun _ _ _ h => h) (by rfl) ?y70 (by assumption) ?r70
                case y70 => (intro w hSw; (try dsimp only at hSw); go_simp <;> with_reducible rfl)
                simp only [Act.put, sl0, sl1, sl2]
                refine take_yes (i := 4) (d := 31) (v := ?v71) rfl rfl (by kernel_rfl) (by kernel_rfl) (by kernel_rfl) (fun _ _ _ h => h) (by rfl) ?y71 (by assumption) ?r71
                case y71 => (intro w hSw; (try dsimp only at hSw); go_simp <;> with_reducible rfl)
                simp only [Act.put, sl0, sl1, sl2]
                refine take_yes (i := 5) (d := 32) (v := ?v72) rfl rfl (by kernel_rfl) (by kernel_rfl) (by kernel_rfl) (fun _ _ _ h => h) (by rfl) ?y72 (by assumption) ?r72
                case y72 => (intro w hSw; (try dsimp only at hSw); go_simp <;> with_reducible rfl)
                simp only [Act.put, sl0, sl1, sl2]
                refine take_yes (i := 6) (d := 33) (v := ?v73) rfl rfl (by kernel_rfl) (by kernel_rfl) (by kernel_rfl) (fun _ _ _ h => h) (by rfl) ?y73 (by assumption) ?r73
                case y73 => (intro w hSw; (try dsimp only at hSw); go_simp <;> with_reducible rfl)
                simp only [Act.put, sl0, sl1, sl2]
                refine take_yes (i := 7) (d := 34) (v := ?v74) rfl rfl (by kernel_rfl) (by kernel_rfl) (by kernel_rfl) (fun _ _ _ h => h) (by rfl) ?y74 (by assumption) ?r74
                case y74 => (intro w hSw; (try dsimp only at hSw); go_simp <;> with_reducible rfl)
                simp only [Act.put, sl0, sl1, sl2]
                refine take_yes (i := 8) (d := 35) (v := ?v75) rfl rfl (by kernel_rfl) (by kernel_rfl) (by kernel_rfl) (fun _ _ _ h => h) (by rfl) ?y75 (by assumption) ?r75
                case y75 => (intro w hSw; (try dsimp only at hSw); go_simp <;> with_reducible rfl)
                simp only [Act.put, sl0, sl1, sl2]
                refine take_yes (i := 10) (d := 37) (v := ?v76) rfl rfl (by kernel_rfl) (by kernel_rfl) (by kernel_rfl) (fun _ _ _ h => h) (by rfl) ?y76 (by assumption) ?r76
                case y76 => (intro w hSw; (try dsimp only at hSw); go_simp <;> with_reducible rfl)
                simp only [Act.put, sl0, sl1, sl2]
                refine take_yes (i := 11) (d := 38) (v := ?v77) rfl rfl (by kernel_rfl) (by kernel_rfl) (by kernel_rfl) (fun _ _ _ h => h) (by rfl) ?y77 (by assumption) ?r77
                case y77 => (intro w hSw; (try dsimp only at hSw); go_simp <;> with_reducible rfl)
                simp only [Act.put, sl0, sl1, sl2]
                refine take_yes (i := 12) (d := 39) (v := ?v78) rfl rfl (by kernel_rfl) (by kernel_rfl) (by kernel_rfl) (fun _ _ _ h => h) (by rfl) ?y78 (by assumption) ?r78
                case y78 => (intro w hSw; (try dsimp only at hSw); go_simp <;> with_reducible rfl)
                simp only [Act.put, sl0, sl1, sl2]
                refine take_yes (i := 13) (d := 40) (v := ?v79) rfl rfl (by kernel_rfl) (by kernel_rfl) (by kernel_rfl) (fun _ _ _ h => h) (by rfl) ?y79 (by assumption) ?r79
                case y79 => (intro w hSw; (try dsimp only at hSw); go_simp <;> with_reducible rfl)
                simp only [Act.put, sl0, sl1, sl2]
                refine wpAnyH_ready (rs := [9]) (by kernel_rfl) (by simp) ?_
                refine AllReadyH.cons rfl (fun K hK => ?_) AllReadyH.nil
                go_simp
                go_at_call 85; refine (KR1.out _ HZ0.out).mono ?_
                rintro e w5 ⟨rfl, hb5⟩
                have hz5 := bl_trans HZ0.out hb5
                refine hK.out _ _ (HSC.out _ hz5) (fun hHeld => ?_)
                clear hK K
                try simp only [Act.put, sl0, sl1, sl2]
                refine take_yes (i := 14) (d := 41) (v := ?v80) rfl rfl (by kernel_rfl) (by kernel_rfl) (by kernel_rfl) (fun _ _ _ h => h) (by rfl) ?y80 (by assumption) ?r80
                case y80 => (intro w hSw; (try dsimp only at hSw); go_simp <;> with_reducible rfl)
                simp only [Act.put, sl0, sl1, sl2]
                refine take_yes (i := 15) (d := 42) (v := ?v81) rfl rfl (by kernel_rfl) (by kernel_rfl) (by kernel_rfl) (fun _ _ _ h => h) (by rfl) ?y81 (by assumption) ?r81
                case y81 => (intro w hSw; (try dsimp only at hSw); go_simp <;> with_reducible rfl)
                simp only [Act.put, sl0, sl1, sl2]
                refine take_yes (i := 16) (d := 43) (v := ?v82) rfl rfl (by kernel_rfl) (by kernel_rfl) (by kernel_rfl) (fun _ _ _ h => h) (by rfl) ?y82 (by assumption) ?r82
                case y82 => (intro w hSw; (try dsimp only at hSw); go_simp <;> with_reducible rfl)
                simp only [Act.put, sl0, sl1, sl2]
                refine take_yes (i := 17) (d := 44) (v := ?v83) rfl rfl (by kernel_rfl) (by kernel_rfl) (by kernel_rfl) (fun _ _ _ h => h) (by rfl) ?y83 (by assumption) ?r83
                case y83 => (intro w hSw; (try dsimp only at hSw); go_simp <;> with_reducible rfl)
                simp only [Act.put, sl0, sl1, sl2]
                refine take_no (i := 18) (d := 45) rfl rfl (by kernel_rfl) (by kernel_rfl) (by kernel_rfl) (fun _ _ _ h => h) (by rfl) (by assumption) ?_
                simp only [Act.put, sl0, sl1, sl2]
                refine take_no (i := 19) (d := 46) rfl rfl (by kernel_rfl) (by kernel_rfl) (by kernel_rfl) (fun _ _ _ h => h) (by rfl) (by assumption) ?_
                simp only [Act.put, sl0, sl1, sl2]
                refine take_no (i := 20) (d := 47) rfl rfl (by kernel_rfl) (by kernel_rfl) (by kernel_rfl) (fun _ _ _ h => h) (by rfl) (by assumption) ?_
                simp only [Act.put, sl0, sl1, sl2]
                refine take_no (i := 21) (d := 48) rfl rfl (by kernel_rfl) (by kernel_rfl) (by kernel_rfl) (fun _ _ _ h => h) (by rfl) (by assumption) ?_
                simp only [Act.put, sl0, sl1, sl2]
                refine take_no (i := 22) (d := 49) rfl rfl (by kernel_rfl) (by kernel_rfl) (by kernel_rfl) (fun _ _ _ h => h) (by rfl) (by assumption) ?_
                simp only [Act.put, sl0, sl1, sl2]
                refine take_yes (i := 23) (d := 50) (v := ?v84) rfl rfl (by kernel_rfl) (by kernel_rfl) (by kernel_rfl) (fun _ _ _ h => h) (by rfl) ?y84 (by assumption) ?r84
                case y84 => (intro w hSw; (try dsimp only at hSw); go_simp <;> with_reducible rfl)
                simp only [Act.put, sl0, sl1, sl2]
                refine take_yes (i := 24) (d := 51) (v := ?v85) rfl rfl (by kernel_rfl) (by kernel_rfl) (by kernel_rfl) (fun _ _ _ h => h) (by rfl) ?y85 (by assumption) ?r85
                case y85 => (intro w hSw; (try dsimp only at hSw); go_simp <;> with_reducible rfl)
                simp only [Act.put, sl0, sl1, sl2]
                refine take_yes (i := 25) (d := 52) (v := ?v86) rfl rfl (by kernel_rfl) (by kernel_rfl) (by kernel_rfl) (fun _ _ _ h => h) (by rfl) ?y86 (by assumption) ?r86
                case y86 => (intro w hSw; (try dsimp only at hSw); go_simp <;> with_reducible rfl)
                simp only [Act.put, sl0, sl1, sl2]
                refine wpAnyH_done (by kernel_rfl) ?_ _
                clear e0 e1
                replace HCr := Lib.hid (HCr.out.keep hz5)
                replace HR := Lib.hid (HR.out.keep hz5)
                replace HBr := Lib.hid (HBr.out.keep hz5)
                clear hb5 hz5 HSC HZ0 HS1 KR1
                have e0 := HCr.out.c0
                have e1 := HCr.out.c1
                cases t
                · go_wp2
                  go_roundw
                  case rel =>
                    refine ⟨j + 1, by omega, by go_num, fun i hi => ?_, HR⟩
                    by_cases hij : i < j
                    · exact hin.out i hij
                    · obtain rfl : i = j := by omega
                      rw [Hed.out, HJ.out]
                  case measure => (simp [intOf] <;> omega)
                · have hno : Hid (ajB (m : Int) m x l (holeJ l.length) = false) := ajB_no (i := j) (k := K) hjK (by rw [← HN.out]; exact Hlt.out) (by rw [Hed.out, ← HN.out, HJ.out]; decide)
                  have hno2 : Hid (hoB (m : Int) m x l = false) := by show _ = _; unfold hoB; rw [hno.out, Bool.and_false]
                  go_wp2
                  go_ret
                  exact ⟨ret_bool hno2.out.symm, HBr.out.below⟩
          · obtain rfl : j = K := by omega
            go_wp2
            go_roundw
            case rel =>
              refine ⟨j + 1, by omega, by go_num, fun k hk i hi => ?_, HR⟩
              by_cases hkj : k < j
              · exact hall.out k hkj i hi
              · obtain rfl : k = j := by omega
                exact hin.out i hi
            case measure => (simp [intOf] <;> omega)
      · have hyes : Hid (ajB (m : Int) m x l (holeJ l.length) = true) := ajB_yes Hv.out fun k hk i hi => (by rw [← HN.out]; exact hall.out k (by rw [← HN.out] at hk; omega) i hi)
        have hyes2 : Hid (hoB (m : Int) m x l = true) := by show _ = _; unfold hoB; rw [hyes.out, decide_eq_true (by rw [← HN.out]; omega)]; rfl
        have i1 : (n : Int) ≤ (K : Int) := by omega
        have HBr := Lib.hid (HB.out.keep HR.out.below)
        go_wp2
        go_ret
        exact ⟨ret_bool hyes2.out.symm, HBr.out.below⟩
end
end Go.Proofs.YtdpkbfiggbcclaaGreat
