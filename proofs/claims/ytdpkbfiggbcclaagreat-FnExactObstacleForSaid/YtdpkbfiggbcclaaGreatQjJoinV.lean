/-
  Contracts: are just those pairs of a list neighbours that should be? an induced path, a hole, two edges, a claw, a sun: the reference's tests.
-/
import Derived.Test.YtdpkbfiggbcclaaGreatQjJoinI
import Derived.Test.YtdpkbfiggbcclaaGreatQjTake
namespace Go.Proofs.YtdpkbfiggbcclaaGreat
open Go.RowKit

section
variable (sz : Int) (A : Option Addr) (m c : Nat) (x : Nat → Int) (Al : Option Addr) (n cl : Nat) (l : List Int) (w : World)
theorem sun_rem {j K : Nat} (h1 : 3 ≤ K) (h2 : K < 6) (h3 : j < 3) (h4 : ¬((K = 3 ∧ j = 1) ∨ (K = 4 ∧ j = 2) ∨ (K = 5 ∧ j = 0))) : ((j : Int) == ((K : Int) - 2) % 3) = false := by
  have g : K = 3 ∨ K = 4 ∨ K = 5 := by omega
  have gj : j = 0 ∨ j = 1 ∨ j = 2 := by omega
  rcases g with rfl | rfl | rfl <;> rcases gj with rfl | rfl | rfl <;> first | rfl | exact absurd h4 (by decide)
set_option maxRecDepth 100000 in
set_option maxHeartbeats 6400000 in
theorem IsSun_s (h : GA w A m c x) (hl : LI w Al n cl l) (hm : m ≤ 1048576) (hn : n ≤ 1048576) :
    Calls Tryz.prog 244 #[.agg #[.int .i64 sz, .slice A m c], .slice Al n cl] w fun e w' => e = .returned (.bool (snB sz m x l)) ∧ Below w.heap.size w w' := by
  obtain ⟨W, hW⟩ : ∃ W : World, W = (w.alloc (Obj.cells #[Value.int IntKind.i64 sz, Value.slice A m c] 28)) := ⟨_, rfl⟩
  have HB : Hid (From w W) := by rw [hW]; exact From.alloc _ _
  have HK := Lib.hid (h.keep HB.out.below)
  have HL := Lib.hid (hl.keep HB.out.below)
  have HC : Hid (GC W w.heap.size sz A m c) := by rw [hW]; exact GC.new _ _ _ _ _
  have HW := Lib.hid hW
  have HN := Lib.hid hl.len
  clear hW h hl
  go_enter Tryz.func244, Tryz.ntmps244
  have e0 := HC.out.c0
  have e1 := HC.out.c1
  go_wp2_with fail
  rw [← HW.out]
  refine (l4Distinct_z sz A m c x Al n cl l W HK.out HL.out hm hn).mono ?_
  rintro e w1 ⟨rfl, hb1⟩
  clear HW
  clear e0 e1
  replace HB := Lib.hid (HB.out.keep hb1)
  replace HK := Lib.hid (HK.out.keep hb1)
  replace HL := Lib.hid (HL.out.keep hb1)
  replace HC := Lib.hid (HC.out.keep hb1)
  clear hb1
  have e0 := HC.out.c0
  have e1 := HC.out.c1
  cases hv : vrB sz m x l
  · have hno : Hid (snB sz m x l = false) := by show _ = _; unfold snB; rw [ajB_bad hv, Bool.and_false]
    clear hv
    go_wp2
    go_ret
    exact ⟨ret_bool hno.out.symm, HB.out.below⟩
  · obtain ⟨ho, hV⟩ := vrB_parts hv
    obtain ⟨_, es, vg0, _⟩ := okB_ok' ho
    subst es
    have hn7 := vg0.n7
    have HG : Hid (GV w1 A m c (rw_ x)) := HK.out.gv ho
    have HV := Lib.hid hV
    have Hv := Lib.hid hv
    have hn7' : n ≤ 7 := by rw [HN.out]; have := hV.len; omega
    clear hv ho hV vg0
    by_cases h0 : n ≠ 6
    · have hno : Hid (snB (m : Int) m x l = false) := by show _ = _; unfold snB; rw [decide_eq_false (by rw [← HN.out]; omega)]; rfl
      have i9 : ((n : Int) != 6) = true := by simp; omega
      go_wp2
      go_ret
      exact ⟨ret_bool hno.out.symm, HB.out.below⟩
    have i9 : ((n : Int) != 6) = false := by simp; omega
    have g6 : n ≤ 6 := by omega
    have g7 : 6 ≤ n := by omega
    clear h0
    go_wp2
    go_loopw [5] (fun k wr => ∃ K : Nat, K ≤ n ∧ k = .int .i64 K ∧ Hid (∀ k, k < K → ∀ i, i < k → edZ x (l.getD i 0) (l.getD k 0) = sunJ i k) ∧ Hid (From w1 wr)) (fun k _ => n - (intOf k).toNat)
    case atStart => exact ⟨0, Nat.zero_le _, rfl, fun k hk => absurd hk (by omega), From.refl _⟩
    case round =>
      obtain ⟨K, hK, rfl, hall, HR⟩ := hrel
      by_cases hlt : K < n
      · have i1 : (K : Int) < (6 : Int) := by omega
        have HRo := HR
        have Hlt := Lib.hid hlt
        go_wp2
        go_loopw [6] (fun i wz => ∃ j : Nat, j ≤ K ∧ i = .int .i64 j ∧ Hid (∀ i, i < j → edZ x (l.getD i 0) (l.getD K 0) = sunJ i K) ∧ Hid (From w1 wz)) (fun i _ => K - (intOf i).toNat)
        case atStart => exact ⟨0, Nat.zero_le _, rfl, fun i hi => absurd hi (by omega), HRo⟩
        case round =>
          clear HR HRo
          obtain ⟨j, hj, rfl, hin, HR⟩ := hrel
          by_cases hjK : j < K
          · have i2 : (j : Int) < (K : Int) := by omega
            have HLr := Lib.hid (HL.out.keep HR.out.below)
            have HGr := Lib.hid (HG.out.keep HR.out.below)
            have HCr := Lib.hid (HC.out.keep HR.out.below)
            have HBr := Lib.hid (HB.out.keep HR.out.below)
            obtain ⟨b2, o2, rfl⟩ := HLr.out.addr (by omega)
            have p0 := HLr.out.at (j := j) (by omega)
            have p1 := HLr.out.at (j := K) (by omega)
            have hmj := getD_mem (l := l) (k := j) (by rw [← HN.out]; omega)
            have hmk := getD_mem (l := l) (k := K) (by rw [← HN.out]; omega)
            obtain ⟨a0, a1⟩ := HV.out.2 _ hmj
            obtain ⟨d0, d1⟩ := HV.out.2 _ hmk
            obtain ⟨u, hu⟩ := Int.eq_ofNat_of_zero_le a0
            obtain ⟨v, hvv⟩ := Int.eq_ofNat_of_zero_le d0
            have Hed : Hid (edZ x (l.getD j 0) (l.getD K 0) = (rw_ x u).testBit v) := by show _ = _; unfold edZ; rw [hu, hvv, Int.toNat_natCast, Int.toNat_natCast]
            rw [hu] at p0 a1
            rw [hvv] at p1 d1
            have hum : u < m := by omega
            have hvm : v < m := by omega
            have hsym : (rw_ x v).testBit u = (rw_ x u).testBit v := HGr.out.vg.sym _ _ hvm hum
            obtain ⟨t, ht⟩ : ∃ t, t = (rw_ x u).testBit v := ⟨_, rfl⟩
            rw [← ht] at Hed hsym
            have KE : Hid (∀ z : World, Below wr.heap.size wr z → Calls Tryz.prog 85 #[.agg #[.int .i64 m, .slice A m c], .int .i64 v, .int .i64 u] z fun e w' => e = .returned (.bool t) ∧ Below z.heap.size z w') := fun z hz => by
              have := l2Edge_v (HGr.out.keep hz) hvm hum
              rwa [hsym] at this
            have i3 : (j : Int) < (n : Int) := by omega
            have i4 : (K : Int) < (n : Int) := by omega
            have s1 : IntKind.i64.wrap ((K : Int) - 1) = (K : Int) - 1 := Go.IntWalk.i64_in _ (by omega)
            have s2 : IntKind.i64.wrap ((n : Int) - 1) = (n : Int) - 1 := Go.IntWalk.i64_in _ (by omega)
            have s3 : IntKind.i64.wrap ((K : Int) - 3) = (K : Int) - 3 := Go.IntWalk.i64_in _ (by omega)
            have s4 : IntKind.i64.wrap ((K : Int) - 2) = (K : Int) - 2 := Go.IntWalk.i64_in _ (by omega)
            clear hmj hmk hu hvv ht a0 d0 hsym
            have e0 := HCr.out.c0
            have e1 := HCr.out.c1
            by_cases h1 : K < 3
            · have q1 : decide ((K : Int) < 3) = true := by simp; omega
              have HJ : Hid (sunJ j K = true) := by show _ = _; unfold sunJ; simp; omega
              (try clear h4)
              (try clear h3)
              go_wp2
              have HSC : Hid (∀ z : World, Below wr.heap.size wr z → (Below wr.heap.size wr z ∧ z.cell? ⟨w.heap.size, 0, none⟩ = some (.int .i64 m) ∧ z.cell? ⟨w.heap.size, 1, none⟩ = some (.slice A m c) ∧ z.cell? ⟨b2, o2 + j, none⟩ = some (.int .i64 u) ∧ z.cell? ⟨b2, o2 + K, none⟩ = some (.int .i64 v))) := fun z hz => ⟨hz, up_ hz e0, up_ hz e1, up_ hz p0, up_ hz p1⟩
              have HZ0 : Hid (Below wr.heap.size wr wr.drew) := (Below.refl _ _).drew
              have HS1 := Lib.hid (HSC.out _ HZ0.out)
              have KR1 : Hid (∀ z : World, Below wr.heap.size wr z → _) := fun z hz => KE.out z hz
              refine wp_region_held_drew (S := fun z => Below wr.heap.size wr z ∧ z.cell? ⟨w.heap.size, 0, none⟩ = some (.int .i64 m) ∧ z.cell? ⟨w.heap.size, 1, none⟩ = some (.slice A m c) ∧ z.cell? ⟨b2, o2 + j, none⟩ = some (.int .i64 u) ∧ z.cell? ⟨b2, o2 + K, none⟩ = some (.int .i64 v)) (by kernel_rfl) HS1.out (fun hHeld => ?_)
              refine take_yes (i := 0) (d := 45) (v := ?v1) rfl rfl (by kernel_rfl) (by kernel_rfl) (by kernel_rfl) (fun _ _ _ h => h) (by rfl) ?y1 (by assumption) ?r1
              case y1 => (intro w hSw; (try dsimp only at hSw); go_simp <;> with_reducible rfl)
              simp only [Act.put, sl0, sl1, sl2]
              refine take_yes (i := 1) (d := 46) (v := ?v2) rfl rfl (by kernel_rfl) (by kernel_rfl) (by kernel_rfl) (fun _ _ _ h => h) (by rfl) ?y2 (by assumption) ?r2
              case y2 => (intro w hSw; (try dsimp only at hSw); go_simp <;> with_reducible rfl)
              simp only [Act.put, sl0, sl1, sl2]
              refine take_yes (i := 2) (d := 47) (v := ?v3) rfl rfl (by kernel_rfl) (by kernel_rfl) (by kernel_rfl) (fun _ _ _ h => h) (by rfl) ?y3 (by assumption) ?r3
              case y3 => (intro w hSw; (try dsimp only at hSw); go_simp <;> with_reducible rfl)
              simp only [Act.put, sl0, sl1, sl2]
              refine take_yes (i := 3) (d := 48) (v := ?v4) rfl rfl (by kernel_rfl) (by kernel_rfl) (by kernel_rfl) (fun _ _ _ h => h) (by rfl) ?y4 (by assumption) ?r4
              case y4 => (intro w hSw; (try dsimp only at hSw); go_simp <;> with_reducible rfl)
              simp only [Act.put, sl0, sl1, sl2]
              refine take_yes (i := 4) (d := 49) (v := ?v5) rfl rfl (by kernel_rfl) (by kernel_rfl) (by kernel_rfl) (fun _ _ _ h => h) (by rfl) ?y5 (by assumption) ?r5
              case y5 => (intro w hSw; (try dsimp only at hSw); go_simp <;> with_reducible rfl)
              simp only [Act.put, sl0, sl1, sl2]
              refine take_yes (i := 5) (d := 50) (v := ?v6) rfl rfl (by kernel_rfl) (by kernel_rfl) (by kernel_rfl) (fun _ _ _ h => h) (by rfl) ?y6 (by assumption) ?r6
              case y6 => (intro w hSw; (try dsimp only at hSw); go_simp <;> with_reducible rfl)
              simp only [Act.put, sl0, sl1, sl2]
              refine take_yes (i := 6) (d := 51) (v := ?v7) rfl rfl (by kernel_rfl) (by kernel_rfl) (by kernel_rfl) (fun _ _ _ h => h) (by rfl) ?y7 (by assumption) ?r7
              case y7 => (intro w hSw; (try dsimp only at hSw); go_simp <;> with_reducible rfl)
              simp only [Act.put, sl0, sl1, sl2]
              refine take_yes (i := 7) (d := 52) (v := ?v8) rfl rfl (by kernel_rfl) (by kernel_rfl) (by kernel_rfl) (fun _ _ _ h => h) (by rfl) ?y8 (by assumption) ?r8
              case y8 => (intro w hSw; (try dsimp only at hSw); go_simp <;> with_reducible rfl)
              simp only [Act.put, sl0, sl1, sl2]
              refine take_yes (i := 8) (d := 53) (v := ?v9) rfl rfl (by kernel_rfl) (by kernel_rfl) (by kernel_rfl) (fun _ _ _ h => h) (by rfl) ?y9 (by assumption) ?r9
              case y9 => (intro w hSw; (try dsimp only at hSw); go_simp <;> with_reducible rfl)
              simp only [Act.put, sl0, sl1, sl2]
              refine take_yes (i := 10) (d := 55) (v := ?v10) rfl rfl (by kernel_rfl) (by kernel_rfl) (by kernel_rfl) (fun _ _ _ h => h) (by rfl) ?y10 (by assumption) ?r10
              case y10 => (intro w hSw; (try dsimp only at hSw); go_simp <;> with_reducible rfl)
              simp only [Act.put, sl0, sl1, sl2]
              refine wpAnyH_ready (rs := [9]) (by kernel_rfl) (by simp) ?_
              refine AllReadyH.cons rfl (fun K hK => ?_) AllReadyH.nil
              go_simp
              go_at_call 85; refine (KR1.out _ HZ0.out).mono ?_
              rintro e w2 ⟨rfl, hb2⟩
              have hz2 := bl_trans HZ0.out hb2
              refine hK.out _ _ (HSC.out _ hz2) (fun hHeld => ?_)
              clear hK K
              try simp only [Act.put, sl0, sl1, sl2]
              refine take_yes (i := 11) (d := 56) (v := ?v11) rfl rfl (by kernel_rfl) (by kernel_rfl) (by kernel_rfl) (fun _ _ _ h => h) (by rfl) ?y11 (by assumption) ?r11
              case y11 => (intro w hSw; (try dsimp only at hSw); go_simp <;> with_reducible rfl)
              simp only [Act.put, sl0, sl1, sl2]
              refine wpAnyH_done (by kernel_rfl) ?_ _
              clear e0 e1
              replace HCr := Lib.hid (HCr.out.keep hz2)
              replace HR := Lib.hid (HR.out.keep hz2)
              replace HBr := Lib.hid (HBr.out.keep hz2)
              clear hb2 hz2 HSC HZ0 HS1 KR1
              have e0 := HCr.out.c0
              have e1 := HCr.out.c1
              cases t
              · have hno : Hid (ajB (m : Int) m x l sunJ = false) := ajB_no (i := j) (k := K) hjK (by rw [← HN.out]; exact Hlt.out) (by rw [Hed.out, HJ.out]; decide)
                have hno2 : Hid (snB (m : Int) m x l = false) := by show _ = _; unfold snB; rw [hno.out, Bool.and_false]
                go_wp2
                go_ret
                exact ⟨ret_bool hno2.out.symm, HBr.out.below⟩
              · go_wp2
                go_roundw
                case rel =>
                  refine ⟨j + 1, by omega, by go_num, fun i hi => ?_, HR⟩
                  by_cases hij : i < j
                  · exact hin.out i hij
                  · obtain rfl : i = j := by omega
                    rw [Hed.out, HJ.out]
                case measure => (simp [intOf] <;> omega)
            · by_cases h2 : 3 ≤ j
              · have q1 : decide ((K : Int) < 3) = false := by simp; omega
                have q2 : decide ((j : Int) < 3) = false := by simp; omega
                have HJ : Hid (sunJ j K = false) := by show _ = _; unfold sunJ; simp; omega
                (try clear h4)
                (try clear h3)
                go_wp2
                have HSC : Hid (∀ z : World, Below wr.heap.size wr z → (Below wr.heap.size wr z ∧ z.cell? ⟨w.heap.size, 0, none⟩ = some (.int .i64 m) ∧ z.cell? ⟨w.heap.size, 1, none⟩ = some (.slice A m c) ∧ z.cell? ⟨b2, o2 + j, none⟩ = some (.int .i64 u) ∧ z.cell? ⟨b2, o2 + K, none⟩ = some (.int .i64 v))) := fun z hz => ⟨hz, up_ hz e0, up_ hz e1, up_ hz p0, up_ hz p1⟩
                have HZ0 : Hid (Below wr.heap.size wr wr.drew) := (Below.refl _ _).drew
                have HS1 := Lib.hid (HSC.out _ HZ0.out)
                have KR1 : Hid (∀ z : World, Below wr.heap.size wr z → _) := fun z hz => KE.out z hz
                refine wp_region_held_drew (S := fun z => Below wr.heap.size wr z ∧ z.cell? ⟨w.heap.size, 0, none⟩ = some (.int .i64 m) ∧ z.cell? ⟨w.heap.size, 1, none⟩ = some (.slice A m c) ∧ z.cell? ⟨b2, o2 + j, none⟩ = some (.int .i64 u) ∧ z.cell? ⟨b2, o2 + K, none⟩ = some (.int .i64 v)) (by kernel_rfl) HS1.out (fun hHeld => ?_)
                refine take_yes (i := 0) (d := 45) (v := ?v12) rfl rfl (by kernel_rfl) (by kernel_rfl) (by kernel_rfl) (fun _ _ _ h => h) (by rfl) ?y12 (by assumption) ?r12
                case y12 => (intro w hSw; (try dsimp only at hSw); go_simp <;> with_reducible rfl)
                simp only [Act.put, sl0, sl1, sl2]
                refine take_yes (i := 1) (d := 46) (v := ?v13) rfl rfl (by kernel_rfl) (by kernel_rfl) (by kernel_rfl) (fun _ _ _ h => h) (by rfl) ?y13 (by assumption) ?r13
                case y13 => (intro w hSw; (try dsimp only at hSw); go_simp <;> with_reducible rfl)
                simp only [Act.put, sl0, sl1, sl2]
                refine take_yes (i := 2) (d := 47) (v := ?v14) rfl rfl (by kernel_rfl) (by kernel_rfl) (by kernel_rfl) (fun _ _ _ h => h) (by rfl) ?y14 (by assumption) ?r14
                case y14 => (intro w hSw; (try dsimp only at hSw); go_simp <;> with_reducible rfl)
                simp only [Act.put, sl0, sl1, sl2]
                refine take_yes (i := 3) (d := 48) (v := ?v15) rfl rfl (by kernel_rfl) (by kernel_rfl) (by kernel_rfl) (fun _ _ _ h => h) (by rfl) ?y15 (by assumption) ?r15
                case y15 => (intro w hSw; (try dsimp only at hSw); go_simp <;> with_reducible rfl)
                simp only [Act.put, sl0, sl1, sl2]
                refine take_yes (i := 4) (d := 49) (v := ?v16) rfl rfl (by kernel_rfl) (by kernel_rfl) (by kernel_rfl) (fun _ _ _ h => h) (by rfl) ?y16 (by assumption) ?r16
                case y16 => (intro w hSw; (try dsimp only at hSw); go_simp <;> with_reducible rfl)
                simp only [Act.put, sl0, sl1, sl2]
                refine take_yes (i := 5) (d := 50) (v := ?v17) rfl rfl (by kernel_rfl) (by kernel_rfl) (by kernel_rfl) (fun _ _ _ h => h) (by rfl) ?y17 (by assumption) ?r17
                case y17 => (intro w hSw; (try dsimp only at hSw); go_simp <;> with_reducible rfl)
                simp only [Act.put, sl0, sl1, sl2]
                refine take_yes (i := 6) (d := 51) (v := ?v18) rfl rfl (by kernel_rfl) (by kernel_rfl) (by kernel_rfl) (fun _ _ _ h => h) (by rfl) ?y18 (by assumption) ?r18
                case y18 => (intro w hSw; (try dsimp only at hSw); go_simp <;> with_reducible rfl)
                simp only [Act.put, sl0, sl1, sl2]
                refine take_yes (i := 7) (d := 52) (v := ?v19) rfl rfl (by kernel_rfl) (by kernel_rfl) (by kernel_rfl) (fun _ _ _ h => h) (by rfl) ?y19 (by assumption) ?r19
                case y19 => (intro w hSw; (try dsimp only at hSw); go_simp <;> with_reducible rfl)
                simp only [Act.put, sl0, sl1, sl2]
                refine take_yes (i := 8) (d := 53) (v := ?v20) rfl rfl (by kernel_rfl) (by kernel_rfl) (by kernel_rfl) (fun _ _ _ h => h) (by rfl) ?y20 (by assumption) ?r20
                case y20 => (intro w hSw; (try dsimp only at hSw); go_simp <;> with_reducible rfl)
                simp only [Act.put, sl0, sl1, sl2]
                refine take_yes (i := 10) (d := 55) (v := ?v21) rfl rfl (by kernel_rfl) (by kernel_rfl) (by kernel_rfl) (fun _ _ _ h => h) (by rfl) ?y21 (by assumption) ?r21
                case y21 => (intro w hSw; (try dsimp only at hSw); go_simp <;> with_reducible rfl)
                simp only [Act.put, sl0, sl1, sl2]
                refine wpAnyH_ready (rs := [9]) (by kernel_rfl) (by simp) ?_
                refine AllReadyH.cons rfl (fun K hK => ?_) AllReadyH.nil
                go_simp
                go_at_call 85; refine (KR1.out _ HZ0.out).mono ?_
                rintro e w3 ⟨rfl, hb3⟩
                have hz3 := bl_trans HZ0.out hb3
                refine hK.out _ _ (HSC.out _ hz3) (fun hHeld => ?_)
                clear hK K
                try simp only [Act.put, sl0, sl1, sl2]
                refine take_yes (i := 11) (d := 56) (v := ?v22) rfl rfl (by kernel_rfl) (by kernel_rfl) (by kernel_rfl) (fun _ _ _ h => h) (by rfl) ?y22 (by assumption) ?r22
                case y22 => (intro w hSw; (try dsimp only at hSw); go_simp <;> with_reducible rfl)
                simp only [Act.put, sl0, sl1, sl2]
                refine wpAnyH_done (by kernel_rfl) ?_ _
                clear e0 e1
                replace HCr := Lib.hid (HCr.out.keep hz3)
                replace HR := Lib.hid (HR.out.keep hz3)
                replace HBr := Lib.hid (HBr.out.keep hz3)
                clear hb3 hz3 HSC HZ0 HS1 KR1
                have e0 := HCr.out.c0
                have e1 := HCr.out.c1
                cases t
                · go_wp2
                  go_roundw
                  case rel =>
                    refine ⟨j + 1, by omega, by go_num, fun i hi => ?_, HR⟩
                    by_cases hij : i < j
                    · exact hin.out i hij
                    · obtain rfl : i = j := by omega
                      rw [Hed.out, HJ.out]
                  case measure => (simp [intOf] <;> omega)
                · have hno : Hid (ajB (m : Int) m x l sunJ = false) := ajB_no (i := j) (k := K) hjK (by rw [← HN.out]; exact Hlt.out) (by rw [Hed.out, HJ.out]; decide)
                  have hno2 : Hid (snB (m : Int) m x l = false) := by show _ = _; unfold snB; rw [hno.out, Bool.and_false]
                  go_wp2
                  go_ret
                  exact ⟨ret_bool hno2.out.symm, HBr.out.below⟩
              · by_cases h3 : j + 3 = K
                · have q1 : decide ((K : Int) < 3) = false := by simp; omega
                  have q2 : decide ((j : Int) < 3) = true := by simp; omega
                  have q3 : ((j : Int) == (K : Int) - 3) = true := by simp; omega
                  have HJ : Hid (sunJ j K = true) := by show _ = _; unfold sunJ; simp; omega
                  (try clear h4)
                  (try clear h3)
                  go_wp2
                  have HSC : Hid (∀ z : World, Below wr.heap.size wr z → (Below wr.heap.size wr z ∧ z.cell? ⟨w.heap.size, 0, none⟩ = some (.int .i64 m) ∧ z.cell? ⟨w.heap.size, 1, none⟩ = some (.slice A m c) ∧ z.cell? ⟨b2, o2 + j, none⟩ = some (.int .i64 u) ∧ z.cell? ⟨b2, o2 + K, none⟩ = some (.int .i64 v))) := fun z hz => ⟨hz, up_ hz e0, up_ hz e1, up_ hz p0, up_ hz p1⟩
                  have HZ0 : Hid (Below wr.heap.size wr wr.drew) := (Below.refl _ _).drew
                  have HS1 := Lib.hid (HSC.out _ HZ0.out)
                  have KR1 : Hid (∀ z : World, Below wr.heap.size wr z → _) := fun z hz => KE.out z hz
                  refine wp_region_held_drew (S := fun z => Below wr.heap.size wr z ∧ z.cell? ⟨w.heap.size, 0, none⟩ = some (.int .i64 m) ∧ z.cell? ⟨w.heap.size, 1, none⟩ = some (.slice A m c) ∧ z.cell? ⟨b2, o2 + j, none⟩ = some (.int .i64 u) ∧ z.cell? ⟨b2, o2 + K, none⟩ = some (.int .i64 v)) (by kernel_rfl) HS1.out (fun hHeld => ?_)
                  refine take_yes (i := 0) (d := 45) (v := ?v23) rfl rfl (by kernel_rfl) (by kernel_rfl) (by kernel_rfl) (fun _ _ _ h => h) (by rfl) ?y23 (by assumption) ?r23
                  case y23 => (intro w hSw; (try dsimp only at hSw); go_simp <;> with_reducible rfl)
                  simp only [Act.put, sl0, sl1, sl2]
                  refine take_yes (i := 1) (d := 46) (v := ?v24) rfl rfl (by kernel_rfl) (by kernel_rfl) (by kernel_rfl) (fun _ _ _ h => h) (by rfl) ?y24 (by assumption) ?r24
                  case y24 => (intro w hSw; (try dsimp only at hSw); go_simp <;> with_reducible rfl)
                  simp only [Act.put, sl0, sl1, sl2]
                  refine take_yes (i := 2) (d := 47) (v := ?v25) rfl rfl (by kernel_rfl) (by kernel_rfl) (by kernel_rfl) (fun _ _ _ h => h) (by rfl) ?y25 (by assumption) ?r25
                  case y25 => (intro w hSw; (try dsimp only at hSw); go_simp <;> with_reducible rfl)
                  simp only [Act.put, sl0, sl1, sl2]
                  refine take_yes (i := 3) (d := 48) (v := ?v26) rfl rfl (by kernel_rfl) (by kernel_rfl) (by kernel_rfl) (fun _ _ _ h => h) (by rfl) ?y26 (by assumption) ?r26
                  case y26 => (intro w hSw; (try dsimp only at hSw); go_simp <;> with_reducible rfl)
                  simp only [Act.put, sl0, sl1, sl2]
                  refine take_yes (i := 4) (d := 49) (v := ?v27) rfl rfl (by kernel_rfl) (by kernel_rfl) (by kernel_rfl) (fun _ _ _ h => h) (by rfl) ?y27 (by assumption) ?r27
                  case y27 => (intro w hSw; (try dsimp only at hSw); go_simp <;> with_reducible rfl)
                  simp only [Act.put, sl0, sl1, sl2]
                  refine take_yes (i := 5) (d := 50) (v := ?v28) rfl rfl (by kernel_rfl) (by kernel_rfl) (by kernel_rfl) (fun _ _ _ h => h) (by rfl) ?y28 (by assumption) ?r28
                  case y28 => (intro w hSw; (try dsimp only at hSw); go_simp <;> with_reducible rfl)
                  simp only [Act.put, sl0, sl1, sl2]
                  refine take_yes (i := 6) (d := 51) (v := ?v29) rfl rfl (by kernel_rfl) (by kernel_rfl) (by kernel_rfl) (fun _ _ _ h => h) (by rfl) ?y29 (by assumption) ?r29
                  case y29 => (intro w hSw; (try dsimp only at hSw); go_simp <;> with_reducible rfl)
                  simp only [Act.put, sl0, sl1, sl2]
                  refine take_yes (i := 7) (d := 52) (v := ?v30) rfl rfl (by kernel_rfl) (by kernel_rfl) (by kernel_rfl) (fun _ _ _ h => h) (by rfl) ?y30 (by assumption) ?r30
                  case y30 => (intro w hSw; (try dsimp only at hSw); go_simp <;> with_reducible rfl)
                  simp only [Act.put, sl0, sl1, sl2]
                  refine take_yes (i := 8) (d := 53) (v := ?v31) rfl rfl (by kernel_rfl) (by kernel_rfl) (by kernel_rfl) (fun _ _ _ h => h) (by rfl) ?y31 (by assumption) ?r31
                  case y31 => (intro w hSw; (try dsimp only at hSw); go_simp <;> with_reducible rfl)
                  simp only [Act.put, sl0, sl1, sl2]
                  refine take_yes (i := 10) (d := 55) (v := ?v32) rfl rfl (by kernel_rfl) (by kernel_rfl) (by kernel_rfl) (fun _ _ _ h => h) (by rfl) ?y32 (by assumption) ?r32
                  case y32 => (intro w hSw; (try dsimp only at hSw); go_simp <;> with_reducible rfl)
                  simp only [Act.put, sl0, sl1, sl2]
                  refine wpAnyH_ready (rs := [9]) (by kernel_rfl) (by simp) ?_
                  refine AllReadyH.cons rfl (fun K hK => ?_) AllReadyH.nil
                  go_simp
                  go_at_call 85; refine (KR1.out _ HZ0.out).mono ?_
                  rintro e w4 ⟨rfl, hb4⟩
                  have hz4 := bl_trans HZ0.out hb4
                  refine hK.out _ _ (HSC.out _ hz4) (fun hHeld => ?_)
                  clear hK K
                  try simp only [Act.put, sl0, sl1, sl2]
                  refine take_yes (i := 11) (d := 56) (v := ?v33) rfl rfl (by kernel_rfl) (by kernel_rfl) (by kernel_rfl) (fun _ _ _ h => h) (by rfl) ?y33 (by assumption) ?r33
                  case y33 => (intro w hSw; (try dsimp only at hSw); go_simp <;> with_reducible rfl)
                  simp only [Act.put, sl0, sl1, sl2]
                  refine wpAnyH_done (by kernel_rfl) ?_ _
                  clear e0 e1
                  replace HCr := Lib.hid (HCr.out.keep hz4)
                  replace HR := Lib.hid (HR.out.keep hz4)
                  replace HBr := Lib.hid (HBr.out.keep hz4)
                  clear hb4 hz4 HSC HZ0 HS1 KR1
                  have e0 := HCr.out.c0
                  have e1 := HCr.out.c1
                  cases t
                  · have hno : Hid (ajB (m : Int) m x l sunJ = false) := ajB_no (i := j) (k := K) hjK (by rw [← HN.out]; exact Hlt.out) (by rw [Hed.out, HJ.out]; decide)
                    have hno2 : Hid (snB (m : Int) m x l = false) := by show _ = _; unfold snB; rw [hno.out, Bool.and_false]
                    go_wp2
                    go_ret
                    exact ⟨ret_bool hno2.out.symm, HBr.out.below⟩
                  · go_wp2
                    go_roundw
                    case rel =>
                      refine ⟨j + 1, by omega, by go_num, fun i hi => ?_, HR⟩
                      by_cases hij : i < j
                      · exact hin.out i hij
                      · obtain rfl : i = j := by omega
                        rw [Hed.out, HJ.out]
                    case measure => (simp [intOf] <;> omega)
                · by_cases h4 : (K = 3 ∧ j = 1) ∨ (K = 4 ∧ j = 2) ∨ (K = 5 ∧ j = 0)
                  · have q1 : decide ((K : Int) < 3) = false := by simp; omega
                    have q2 : decide ((j : Int) < 3) = true := by simp; omega
                    have q3 : ((j : Int) == (K : Int) - 3) = false := by simp; omega
                    have q4 : ((j : Int) == ((K : Int) - 2) % 3) = true := by simp; omega
                    have HJ : Hid (sunJ j K = true) := by show _ = _; unfold sunJ; simp; omega
                    (try clear h4)
                    (try clear h3)
                    go_wp2
                    have HSC : Hid (∀ z : World, Below wr.heap.size wr z → (Below wr.heap.size wr z ∧ z.cell? ⟨w.heap.size, 0, none⟩ = some (.int .i64 m) ∧ z.cell? ⟨w.heap.size, 1, none⟩ = some (.slice A m c) ∧ z.cell? ⟨b2, o2 + j, none⟩ = some (.int .i64 u) ∧ z.cell? ⟨b2, o2 + K, none⟩ = some (.int .i64 v))) := fun z hz => ⟨hz, up_ hz e0, up_ hz e1, up_ hz p0, up_ hz p1⟩
                    have HZ0 : Hid (Below wr.heap.size wr wr.drew) := (Below.refl _ _).drew
                    have HS1 := Lib.hid (HSC.out _ HZ0.out)
                    have KR1 : Hid (∀ z : World, Below wr.heap.size wr z → _) := fun z hz => KE.out z hz
                    refine wp_region_held_drew (S := fun z => Below wr.heap.size wr z ∧ z.cell? ⟨w.heap.size, 0, none⟩ = some (.int .i64 m) ∧ z.cell? ⟨w.heap.size, 1, none⟩ = some (.slice A m c) ∧ z.cell? ⟨b2, o2 + j, none⟩ = some (.int .i64 u) ∧ z.cell? ⟨b2, o2 + K, none⟩ = some (.int .i64 v)) (by kernel_rfl) HS1.out (fun hHeld => ?_)
                    refine take_yes (i := 0) (d := 45) (v := ?v34) rfl rfl (by kernel_rfl) (by kernel_rfl) (by kernel_rfl) (fun _ _ _ h => h) (by rfl) ?y34 (by assumption) ?r34
                    case y34 => (intro w hSw; (try dsimp only at hSw); go_simp <;> with_reducible rfl)
                    simp only [Act.put, sl0, sl1, sl2]
                    refine take_yes (i := 1) (d := 46) (v := ?v35) rfl rfl (by kernel_rfl) (by kernel_rfl) (by kernel_rfl) (fun _ _ _ h => h) (by rfl) ?y35 (by assumption) ?r35
                    case y35 => (intro w hSw; (try dsimp only at hSw); go_simp <;> with_reducible rfl)
                    simp only [Act.put, sl0, sl1, sl2]
                    refine take_yes (i := 2) (d := 47) (v := ?v36) rfl rfl (by kernel_rfl) (by kernel_rfl) (by kernel_rfl) (fun _ _ _ h => h) (by rfl) ?y36 (by assumption) ?r36
                    case y36 => (intro w hSw; (try dsimp only at hSw); go_simp <;> with_reducible rfl)
                    simp only [Act.put, sl0, sl1, sl2]
                    refine take_yes (i := 3) (d := 48) (v := ?v37) rfl rfl (by kernel_rfl) (by kernel_rfl) (by kernel_rfl) (fun _ _ _ h => h) (by rfl) ?y37 (by assumption) ?r37
                    case y37 => (intro w hSw; (try dsimp only at hSw); go_simp <;> with_reducible rfl)
                    simp only [Act.put, sl0, sl1, sl2]
                    refine take_yes (i := 4) (d := 49) (v := ?v38) rfl rfl (by kernel_rfl) (by kernel_rfl) (by kernel_rfl) (fun _ _ _ h => h) (by rfl) ?y38 (by assumption) ?r38
                    case y38 => (intro w hSw; (try dsimp only at hSw); go_simp <;> with_reducible rfl)
                    simp only [Act.put, sl0, sl1, sl2]
                    refine take_yes (i := 5) (d := 50) (v := ?v39) rfl rfl (by kernel_rfl) (by kernel_rfl) (by kernel_rfl) (fun _ _ _ h => h) (by rfl) ?y39 (by assumption) ?r39
                    case y39 => (intro w hSw; (try dsimp only at hSw); go_simp <;> with_reducible rfl)
                    simp only [Act.put, sl0, sl1, sl2]
                    refine take_yes (i := 6) (d := 51) (v := ?v40) rfl rfl (by kernel_rfl) (by kernel_rfl) (by kernel_rfl) (fun _ _ _ h => h) (by rfl) ?y40 (by assumption) ?r40
                    case y40 => (intro w hSw; (try dsimp only at hSw); go_simp <;> with_reducible rfl)
                    simp only [Act.put, sl0, sl1, sl2]
                    refine take_yes (i := 7) (d := 52) (v := ?v41) rfl rfl (by kernel_rfl) (by kernel_rfl) (by kernel_rfl) (fun _ _ _ h => h) (by rfl) ?y41 (by assumption) ?r41
                    case y41 => (intro w hSw; (try dsimp only at hSw); go_simp <;> with_reducible rfl)
                    simp only [Act.put, sl0, sl1, sl2]
                    refine take_yes (i := 8) (d := 53) (v := ?v42) rfl rfl (by kernel_rfl) (by kernel_rfl) (by kernel_rfl) (fun _ _ _ h => h) (by rfl) ?y42 (by assumption) ?r42
                    case y42 => (intro w hSw; (try dsimp only at hSw); go_simp <;> with_reducible rfl)
                    simp only [Act.put, sl0, sl1, sl2]
                    refine take_yes (i := 10) (d := 55) (v := ?v43) rfl rfl (by kernel_rfl) (by kernel_rfl) (by kernel_rfl) (fun _ _ _ h => h) (by rfl) ?y43 (by assumption) ?r43
                    case y43 => (intro w hSw; (try dsimp only at hSw); go_simp <;> with_reducible rfl)
                    simp only [Act.put, sl0, sl1, sl2]
                    refine wpAnyH_ready (rs := [9]) (by kernel_rfl) (by simp) ?_
                    refine AllReadyH.cons rfl (fun K hK => ?_) AllReadyH.nil
                    go_simp
                    go_at_call 85; refine (KR1.out _ HZ0.out).mono ?_
                    rintro e w5 ⟨rfl, hb5⟩
                    have hz5 := bl_trans HZ0.out hb5
                    refine hK.out _ _ (HSC.out _ hz5) (fun hHeld => ?_)
                    clear hK K
                    try simp only [Act.put, sl0, sl1, sl2]
                    refine take_yes (i := 11) (d := 56) (v := ?v44) rfl rfl (by kernel_rfl) (by kernel_rfl) (by kernel_rfl) (fun _ _ _ h => h) (by rfl) ?y44 (by assumption) ?r44
                    case y44 => (intro w hSw; (try dsimp only at hSw); go_simp <;> with_reducible rfl)
                    simp only [Act.put, sl0, sl1, sl2]
                    refine wpAnyH_done (by kernel_rfl) ?_ _
                    clear e0 e1
                    replace HCr := Lib.hid (HCr.out.keep hz5)
                    replace HR := Lib.hid (HR.out.keep hz5)
                    replace HBr := Lib.hid (HBr.out.keep hz5)
                    clear hb5 hz5 HSC HZ0 HS1 KR1
                    have e0 := HCr.out.c0
                    have e1 := HCr.out.c1
                    cases t
                    · have hno : Hid (ajB (m : Int) m x l sunJ = false) := ajB_no (i := j) (k := K) hjK (by rw [← HN.out]; exact Hlt.out) (by rw [Hed.out, HJ.out]; decide)
                      have hno2 : Hid (snB (m : Int) m x l = false) := by show _ = _; unfold snB; rw [hno.out, Bool.and_false]
                      go_wp2
                      go_ret
                      exact ⟨ret_bool hno2.out.symm, HBr.out.below⟩
                    · go_wp2
                      go_roundw
                      case rel =>
                        refine ⟨j + 1, by omega, by go_num, fun i hi => ?_, HR⟩
                        by_cases hij : i < j
                        · exact hin.out i hij
                        · obtain rfl : i = j := by omega
                          rw [Hed.out, HJ.out]
                      case measure => (simp [intOf] <;> omega)
                  · have q1 : decide ((K : Int) < 3) = false := by simp; omega
                    have q2 : decide ((j : Int) < 3) = true := by simp; omega
                    have q3 : ((j : Int) == (K : Int) - 3) = false := by simp; omega
                    have q4 : ((j : Int) == ((K : Int) - 2) % 3) = false := sun_rem (by omega) (by omega) (by omega) h4
                    have HJ : Hid (sunJ j K = false) := by show _ = _; unfold sunJ; simp; omega
                    (try clear h4)
                    (try clear h3)
                    go_wp2
                    have HSC : Hid (∀ z : World, Below wr.heap.size wr z → (Below wr.heap.size wr z ∧ z.cell? ⟨w.heap.size, 0, none⟩ = some (.int .i64 m) ∧ z.cell? ⟨w.heap.size, 1, none⟩ = some (.slice A m c) ∧ z.cell? ⟨b2, o2 + j, none⟩ = some (.int .i64 u) ∧ z.cell? ⟨b2, o2 + K, none⟩ = some (.int .i64 v))) := fun z hz => ⟨hz, up_ hz e0, up_ hz e1, up_ hz p0, up_ hz p1⟩
                    have HZ0 : Hid (Below wr.heap.size wr wr.drew) := (Below.refl _ _).drew
                    have HS1 := Lib.hid (HSC.out _ HZ0.out)
                    have KR1 : Hid (∀ z : World, Below wr.heap.size wr z → _) := fun z hz => KE.out z hz
                    refine wp_region_held_drew (S := fun z => Below wr.heap.size wr z ∧ z.cell? ⟨w.heap.size, 0, none⟩ = some (.int .i64 m) ∧ z.cell? ⟨w.heap.size, 1, none⟩ = some (.slice A m c) ∧ z.cell? ⟨b2, o2 + j, none⟩ = some (.int .i64 u) ∧ z.cell? ⟨b2, o2 + K, none⟩ = some (.int .i64 v)) (by kernel_rfl) HS1.out (fun hHeld => ?_)
                    refine take_yes (i := 0) (d := 45) (v := ?v45) rfl rfl (by kernel_rfl) (by kernel_rfl) (by kernel_rfl) (fun _ _ _ h => h) (by rfl) ?y45 (by assumption) ?r45
                    case y45 => (intro w hSw; (try dsimp only at hSw); go_simp <;> with_reducible rfl)
                    simp only [Act.put, sl0, sl1, sl2]
                    refine take_yes (i := 1) (d := 46) (v := ?v46) rfl rfl (by kernel_rfl) (by kernel_rfl) (by kernel_rfl) (fun _ _ _ h => h) (by rfl) ?y46 (by assumption) ?r46
                    case y46 => (intro w hSw; (try dsimp only at hSw); go_simp <;> with_reducible rfl)
                    simp only [Act.put, sl0, sl1, sl2]
                    refine take_yes (i := 2) (d := 47) (v := ?v47) rfl rfl (by kernel_rfl) (by kernel_rfl) (by kernel_rfl) (fun _ _ _ h => h) (by rfl) ?y47 (by assumption) ?r47
                    case y47 => (intro w hSw; (try dsimp only at hSw); go_simp <;> with_reducible rfl)
                    simp only [Act.put, sl0, sl1, sl2]
                    refine take_yes (i := 3) (d := 48) (v := ?v48) rfl rfl (by kernel_rfl) (by kernel_rfl) (by kernel_rfl) (fun _ _ _ h => h) (by rfl) ?y48 (by assumption) ?r48
                    case y48 => (intro w hSw; (try dsimp only at hSw); go_simp <;> with_reducible rfl)
                    simp only [Act.put, sl0, sl1, sl2]
                    refine take_yes (i := 4) (d := 49) (v := ?v49) rfl rfl (by kernel_rfl) (by kernel_rfl) (by kernel_rfl) (fun _ _ _ h => h) (by rfl) ?y49 (by assumption) ?r49
                    case y49 => (intro w hSw; (try dsimp only at hSw); go_simp <;> with_reducible rfl)
                    simp only [Act.put, sl0, sl1, sl2]
                    refine take_yes (i := 5) (d := 50) (v := ?v50) rfl rfl (by kernel_rfl) (by kernel_rfl) (by kernel_rfl) (fun _ _ _ h => h) (by rfl) ?y50 (by assumption) ?r50
                    case y50 => (intro w hSw; (try dsimp only at hSw); go_simp <;> with_reducible rfl)
                    simp only [Act.put, sl0, sl1, sl2]
                    refine take_yes (i := 6) (d := 51) (v := ?v51) rfl rfl (by kernel_rfl) (by kernel_rfl) (by kernel_rfl) (fun _ _ _ h => h) (by rfl) ?y51 (by assumption) ?r51
                    case y51 => (intro w hSw; (try dsimp only at hSw); go_simp <;> with_reducible rfl)
                    simp only [Act.put, sl0, sl1, sl2]
                    refine take_yes (i := 7) (d := 52) (v := ?v52) rfl rfl (by kernel_rfl) (by kernel_rfl) (by kernel_rfl) (fun _ _ _ h => h) (by rfl) ?y52 (by assumption) ?r52
                    case y52 => (intro w hSw; (try dsimp only at hSw); go_simp <;> with_reducible rfl)
                    simp only [Act.put, sl0, sl1, sl2]
                    refine take_yes (i := 8) (d := 53) (v := ?v53) rfl rfl (by kernel_rfl) (by kernel_rfl) (by kernel_rfl) (fun _ _ _ h => h) (by rfl) ?y53 (by assumption) ?r53
                    case y53 => (intro w hSw; (try dsimp only at hSw); go_simp <;> with_reducible rfl)
                    simp only [Act.put, sl0, sl1, sl2]
                    refine take_yes (i := 10) (d := 55) (v := ?v54) rfl rfl (by kernel_rfl) (by kernel_rfl) (by kernel_rfl) (fun _ _ _ h => h) (by rfl) ?y54 (by assumption) ?r54
                    case y54 => (intro w hSw; (try dsimp only at hSw); go_simp <;> with_reducible rfl)
                    simp only [Act.put, sl0, sl1, sl2]
                    refine wpAnyH_ready (rs := [9]) (by kernel_rfl) (by simp) ?_
                    refine AllReadyH.cons rfl (fun K hK => ?_) AllReadyH.nil
                    go_simp
                    go_at_call 85; refine (KR1.out _ HZ0.out).mono ?_
                    rintro e w6 ⟨rfl, hb6⟩
                    have hz6 := bl_trans HZ0.out hb6
                    refine hK.out _ _ (HSC.out _ hz6) (fun hHeld => ?_)
                    clear hK K
                    try simp only [Act.put, sl0, sl1, sl2]
                    refine take_yes (i := 11) (d := 56) (v := ?v55) rfl rfl (by kernel_rfl) (by kernel_rfl) (by kernel_rfl) (fun _ _ _ h => h) (by rfl) ?y55 (by assumption) ?r55
                    case y55 => (intro w hSw; (try dsimp only at hSw); go_simp <;> with_reducible rfl)
                    simp only [Act.put, sl0, sl1, sl2]
                    refine wpAnyH_done (by kernel_rfl) ?_ _
                    clear e0 e1
                    replace HCr := Lib.hid (HCr.out.keep hz6)
                    replace HR := Lib.hid (HR.out.keep hz6)
                    replace HBr := Lib.hid (HBr.out.keep hz6)
                    clear hb6 hz6 HSC HZ0 HS1 KR1
                    have e0 := HCr.out.c0
                    have e1 := HCr.out.c1
                    cases t
                    · go_wp2
                      go_roundw
                      case rel =>
                        refine ⟨j + 1, by omega, by go_num, fun i hi => ?_, HR⟩
                        by_cases hij : i < j
                        · exact hin.out i hij
                        · obtain rfl : i = j := by omega
                          rw [Hed.out, HJ.out]
                      case measure => (simp [intOf] <;> omega)
                    · have hno : Hid (ajB (m : Int) m x l sunJ = false) := ajB_no (i := j) (k := K) hjK (by rw [← HN.out]; exact Hlt.out) (by rw [Hed.out, HJ.out]; decide)
                      have hno2 : Hid (snB (m : Int) m x l = false) := by show _ = _; unfold snB; rw [hno.out, Bool.and_false]
                      go_wp2
                      go_ret
                      exact ⟨ret_bool hno2.out.symm, HBr.out.below⟩
          · obtain rfl : j = K := by omega
            go_wp2
            go_roundw
            case rel =>
              refine ⟨j + 1, by omega, by go_num, fun k hk i hi => ?_, HR⟩
              by_cases hkj : k < j
              · exact hall.out k hkj i hi
              · obtain rfl : k = j := by omega
                exact hin.out i hi
            case measure => (simp [intOf] <;> omega)
      · have hyes : Hid (ajB (m : Int) m x l sunJ = true) := ajB_yes Hv.out fun k hk i hi => hall.out k (by rw [← HN.out] at hk; omega) i hi
        have hyes2 : Hid (snB (m : Int) m x l = true) := by show _ = _; unfold snB; rw [hyes.out, decide_eq_true (by rw [← HN.out]; omega)]; rfl
        have i1 : (6 : Int) ≤ (K : Int) := by omega
        have HBr := Lib.hid (HB.out.keep HR.out.below)
        go_wp2
        go_ret
        exact ⟨ret_bool hyes2.out.symm, HBr.out.below⟩
end
end Go.Proofs.YtdpkbfiggbcclaaGreat
