/-
  Contract: the reference's l8Sorted.
-/
import Derived.Test.YtppkokgiojcgbaaDoorQzSrtP
import Derived.Test.YtppkokgiojcgbaaDoorQzHamT
namespace Go.Proofs.YtppkokgiojcgbaaDoor
open Go.RowKit

set_option maxRecDepth 100000 in
set_option maxHeartbeats 6400000 in
theorem l8Sorted_s (A : Option Addr) (c : Nat) (L : List Nat) (w : World) (h : LN w A c L) (hlen : L.length ≤ 7) :
    Calls Tryd.prog 35 #[.slice A L.length c] w fun e w' => ∃ A' c', e = .returned (.slice A' L.length c') ∧ ON w.heap.size w' A' c' (srt L) ∧ Below w.heap.size w w' := by
  have HL : Hid (∀ z, Below w.heap.size w z → LN z A c L) := fun z hz => h.keep hz
  obtain ⟨n, hn⟩ : ∃ n, n = L.length := ⟨_, rfl⟩
  have Hn := Lib.hid hn
  rw [← hn] at hlen ⊢
  clear h hn
  go_enter Tryd.func35, Tryd.ntmps35
  go_wp2
  go_loopw [3, 4] (fun ol i wr => ∃ (k g c1 : Nat), k ≤ n ∧ i = .int .i64 k ∧ ol = .slice (some ⟨g, 0, none⟩) k c1 ∧ w.heap.size ≤ g ∧ g < wr.heap.size ∧ Hid (Own wr w.heap.size wr.heap.size 3 1 (some ⟨g, 0, none⟩) k c1 (ni (srtF L k))) ∧ Hid (Below w.heap.size w wr)) (fun _ i _ => n - (intOf i).toNat)
  case atStart => exact ⟨0, w.heap.size, 0, Nat.zero_le _, rfl, rfl, Nat.le_refl _, by simp, (ON.nil w).own, (Below.refl _ _).alloc (Nat.le_refl _) _⟩
  case round =>
    obtain ⟨k, g, c1, hk, rfl, rfl, hgl, hgw, HO, HB⟩ := hrel
    by_cases hlt : k < n
    · have i1 : (k : Int) < (n : Int) := by omega
      obtain ⟨T, hT⟩ : ∃ T, T = srtF L k := ⟨_, rfl⟩
      obtain ⟨x, hx⟩ : ∃ x, x = L.getD k 0 := ⟨_, rfl⟩
      have HTT := Lib.hid hT
      have HX := Lib.hid hx
      have HTl : Hid (T.length = k) := by show _ = _; rw [hT]; exact srtF_len L k
      have Hq : Hid (∀ z, Below w.heap.size w z → ∃ b o, A = some ⟨b, o, none⟩ ∧ z.cell? ⟨b, o + k, none⟩ = some (.int .i64 (x : Int))) := fun z hz => by
        obtain ⟨b, o, e, _, hc⟩ := (HL.out z hz).rd.2 (by rw [← Hn.out]; omega)
        exact ⟨b, o, e, by rw [hc k (by rw [← Hn.out]; exact hlt), hx]⟩
      obtain ⟨b, o, rfl, q0⟩ := Hq.out wr HB.out
      have Hq2 : Hid (∀ z, Below w.heap.size w z → z.cell? ⟨b, o + k, none⟩ = some (.int .i64 (x : Int))) := fun z hz => by
        obtain ⟨b2, o2, e, hc⟩ := Hq.out z hz
        cases e
        exact hc
      rw [← hT] at HO
      clear hT hx Hq q0
      go_wp2
      obtain ⟨wo, rfl⟩ : ∃ wo : World, wo = wr := ⟨_, rfl⟩
      go_loopw [5] (fun p wr => ∃ (j : Nat), j ≤ k ∧ p = .int .i64 j ∧ g < wr.heap.size ∧ Hid (insF T x k = insF T x j) ∧ Hid (Own wr w.heap.size wr.heap.size 3 1 (some ⟨g, 0, none⟩) k c1 (ni T)) ∧ Hid (Below w.heap.size w wr)) (fun p _ => (intOf p).toNat)
      case atStart => exact ⟨k, Nat.le_refl _, rfl, hgw, rfl, HO, HB⟩
      case round =>
        clear HO HB hgw
        obtain ⟨j, hj, rfl, hgw, HI, HO, HB⟩ := hrel
        have q0 := Hq2.out wr HB.out
        by_cases hj0 : j = 0
        · have i2 : (j : Int) ≤ (0 : Int) := by omega
          have i3 : decide (0 < j) = false := decide_eq_false (by omega)
          replace HI : Hid (insF T x k = j) := by show _ = _; rw [HI.out, hj0]; rfl
          have hj1 : ¬ (0 : Int) < (j : Int) := by omega
          have Hj0 := Lib.hid hj0
          clear hj0
          go_wp2
          go_quiet (fail)
          have HO' : Hid (Own (wr.drewN nq) w.heap.size (wr.drewN nq).heap.size 3 1 (some ⟨g, 0, none⟩) k c1 (ni T)) := HO.out.drewN nq
          have HB' := Lib.hid (below_drewN HB.out nq)
          replace HO := HO'
          replace HB := HB'
          replace q0 := Hq2.out _ HB.out
          replace hgw : g < (wr.drewN nq).heap.size := hgw
          clear HO' HB' Hj0 hj1 i2 i3
          obtain ⟨wp, hwp⟩ : ∃ z : World, z = wr.drewN nq := ⟨_, rfl⟩
          rw [← hwp] at HO HB q0 hgw ⊢
          clear hwp
          obtain ⟨wr, rfl⟩ : ∃ z : World, z = wp := ⟨_, rfl⟩
          obtain ⟨W, hWW⟩ : ∃ W : World, W = wr := ⟨_, rfl⟩
          rw [← hWW] at HO HB q0 hgw ⊢
          clear hWW
          obtain ⟨T1, T2, hT12, hT1⟩ : ∃ T1 T2 : List Nat, T = T1 ++ T2 ∧ T1.length = j := ⟨T.take j, T.drop j, (List.take_append_drop j T).symm, by rw [List.length_take, HTl.out]; omega⟩
          have HT12 := Lib.hid hT12
          have HJ : Hid (T1 ++ [x] ++ T2 = srtF L (k + 1)) := by
            show _ = insL _ _
            rw [← HTT.out, ← HX.out]
            unfold insL
            rw [HTl.out, HI.out, hT12, ← hT1]
            simp
          have hT2 : T2.length = k - T1.length := by
            have h5 := HTl.out
            rw [hT12, List.length_append] at h5; omega
          have HT2l := Lib.hid hT2
          clear hT12 HI
          subst hT1
          have hjk : T1.length ≤ k := hj
          obtain ⟨g0, cur, eg, hg1, hg2, hgc, hkc, hcm, hcs, hcx⟩ : ∃ g0 cur, some ({ block := g, off := 0 } : Addr) = some ⟨g0, 0, none⟩ ∧ w.heap.size ≤ g0 ∧ g0 < W.heap.size ∧ W.heap[g0]? = some (.cells cur 3 (0, 0)) ∧ k ≤ c1 ∧ c1 ≤ maxLen ∧ cur.size = c1 * 1 ∧ ∀ i, i < k * 1 → cur[i]? = some (ni T i) := by
            rcases HO.out with ⟨h, _⟩ | h
            · cases h
            · exact h
          clear eg hg1 hg2 hgc hcs hcx g0 cur
          have hcell : Hid (∀ i, i < k → W.cell? ⟨g, i, none⟩ = some (ni T i)) := fun i hi => by
            obtain ⟨g5, e5, _, _, _, h5, _⟩ := HO.out.at_ (by omega)
            cases e5
            exact h5 i (by omega)
          have HRa : Hid (Rd W W.heap.size (some ⟨g, 0, none⟩) T1.length c1 (fun i => ((T1.getD i 0 : Nat) : Int))) := ⟨by omega, fun _ => ⟨g, 0, rfl, hgw, fun i hi => by
            rw [Nat.zero_add, hcell.out i (by omega)]
            unfold ni
            rw [HT12.out]
            simp [List.getD, List.getElem?_append_left hi]⟩⟩
          have HRd : Hid (Rd W W.heap.size (if c1 = T1.length then some ⟨g, 0, none⟩ else some ⟨g, T1.length, none⟩) (k - T1.length) (c1 - T1.length) (fun i => ((T2.getD i 0 : Nat) : Int))) := ⟨by omega, fun h0 => ⟨g, T1.length, by rw [if_neg (by omega)], hgw, fun i hi => by
            rw [hcell.out (T1.length + i) (by omega)]
            unfold ni
            rw [HT12.out]
            simp [List.getD, List.getElem?_append_right (Nat.le_add_right T1.length i)]⟩⟩
          clear hcell
          have HSC : Hid (∀ z : World, Below W.heap.size W z → (Below W.heap.size W z ∧ z.cell? ⟨b, o + k, none⟩ = some (.int .i64 (x : Int)))) := fun z hz => ⟨hz, up_ hz q0⟩
          have HZ0 : Hid (Below W.heap.size W W.drew) := (Below.refl _ _).drew
          have HB1 : Hid (Below W.heap.size W ((W.alloc (Obj.cells #[] 3)).drew)) := ((Below.refl _ _).alloc (Nat.le_refl _) _).drew
          have HB2 : Hid (Below W.heap.size W (((W.alloc (Obj.cells #[] 3)).alloc (Obj.cells #[.int .i64 (x : Int)] 3)).drew)) := (((Below.refl _ _).alloc (Nat.le_refl _) _).alloc (by simp) _).drew
          have HB3 : Hid (Below W.heap.size W (((W.alloc (Obj.cells #[.int .i64 (x : Int)] 3)).alloc (Obj.cells #[] 3)).drew)) := (((Below.refl _ _).alloc (Nat.le_refl _) _).alloc (by simp) _).drew
          have HB4 : Hid (Below W.heap.size W ((W.alloc (Obj.cells #[.int .i64 (x : Int)] 3)).drew)) := ((Below.refl _ _).alloc (Nat.le_refl _) _).drew
          have HO1 : Hid (Own ((W.alloc (Obj.cells #[] 3)).drew) W.heap.size (W.heap.size + 1) 3 1 (some ⟨W.heap.size, 0, none⟩) 0 0 (ni [])) := .inr ⟨W.heap.size, #[], rfl, Nat.le_refl _, Nat.lt_succ_self _, heap_alloc_new W _, Nat.le_refl _, by unfold maxLen; omega, rfl, fun j hj => absurd hj (by omega)⟩
          have HO2 : Hid (Own (((W.alloc (Obj.cells #[] 3)).alloc (Obj.cells #[.int .i64 (x : Int)] 3)).drew) W.heap.size (W.heap.size + 1) 3 1 (some ⟨W.heap.size, 0, none⟩) 0 0 (ni [])) := Own.alloc HO1.out _
          have HO3 : Hid (Own (((W.alloc (Obj.cells #[.int .i64 (x : Int)] 3)).alloc (Obj.cells #[] 3)).drew) W.heap.size (W.heap.size + 1 + 1) 3 1 (some ⟨W.heap.size + 1, 0, none⟩) 0 0 (ni [])) := by
            have hn := heap_alloc_new (W.alloc (Obj.cells #[.int .i64 (x : Int)] 3)) (Obj.cells #[] 3)
            have he : (W.alloc (Obj.cells #[.int .i64 (x : Int)] 3)).heap.size = W.heap.size + 1 := by simp
            rw [he] at hn
            exact .inr ⟨W.heap.size + 1, #[], rfl, by omega, Nat.lt_succ_self _, hn, Nat.le_refl _, by unfold maxLen; omega, rfl, fun j hj => absurd hj (by omega)⟩
          have HR1 : Hid (Rd ((W.alloc (Obj.cells #[] 3)).drew) W.heap.size (some ⟨g, 0, none⟩) T1.length c1 (fun i => ((T1.getD i 0 : Nat) : Int))) := HRa.out.keep HB1.out (Nat.le_refl _)
          have HR2 : Hid (Rd (((W.alloc (Obj.cells #[] 3)).alloc (Obj.cells #[.int .i64 (x : Int)] 3)).drew) W.heap.size (some ⟨g, 0, none⟩) T1.length c1 (fun i => ((T1.getD i 0 : Nat) : Int))) := HRa.out.keep HB2.out (Nat.le_refl _)
          have HR3 : Hid (Rd (((W.alloc (Obj.cells #[.int .i64 (x : Int)] 3)).alloc (Obj.cells #[] 3)).drew) W.heap.size (some ⟨g, 0, none⟩) T1.length c1 (fun i => ((T1.getD i 0 : Nat) : Int))) := HRa.out.keep HB3.out (Nat.le_refl _)
          have B2 : Hid ((((W.alloc (Obj.cells #[] 3)).alloc (Obj.cells #[.int .i64 (x : Int)] 3)).drew).heap[W.heap.size + 1]? = some (.cells #[.int .i64 (x : Int)] 3 (0, 0)) ∧ W.heap.size + 1 < (((W.alloc (Obj.cells #[] 3)).alloc (Obj.cells #[.int .i64 (x : Int)] 3)).drew).heap.size) := by
            have hn := heap_alloc_new (W.alloc (Obj.cells #[] 3)) (Obj.cells #[.int .i64 (x : Int)] 3)
            have he : (W.alloc (Obj.cells #[] 3)).heap.size = W.heap.size + 1 := by simp
            rw [he] at hn
            exact ⟨hn, by show _ < ((W.alloc _).alloc _).heap.size; simp⟩
          have B3 : Hid ((((W.alloc (Obj.cells #[.int .i64 (x : Int)] 3)).alloc (Obj.cells #[] 3)).drew).heap[W.heap.size]? = some (.cells #[.int .i64 (x : Int)] 3 (0, 0)) ∧ W.heap.size < (((W.alloc (Obj.cells #[.int .i64 (x : Int)] 3)).alloc (Obj.cells #[] 3)).drew).heap.size) :=
            ⟨(Below.heap_alloc (W.alloc (Obj.cells #[.int .i64 (x : Int)] 3)) _ _ (by simp)).trans (heap_alloc_new W _), by show _ < ((W.alloc _).alloc _).heap.size; simp; omega⟩
          have HC1 : Hid (∀ (z : World) (A1 : Option Addr) (k1 : Nat), Own z W.heap.size z.heap.size 3 1 A1 T1.length k1 (fun i => .int .i64 ((T1.getD i 0 : Nat) : Int)) → Own z W.heap.size z.heap.size 3 1 A1 T1.length k1 (ni (T1 ++ [x]))) := by
            intro z A1 k1 h
            exact h.congr (fun i hi => by rw [ni_left (by omega)]; rfl)
          have hT1s : T1.length ≤ 7 := by omega
          have hk7 : k ≤ 7 := by omega
          have n1 : (0 : Int) ≤ (T1.length : Int) := by omega
          have n2 : (T1.length : Int) ≤ (c1 : Int) := by omega
          have n3 : (T1.length : Int) ≤ (k : Int) := by omega
          have n4 : (k : Int) ≤ (c1 : Int) := by omega
          clear HRa
          go_wp2
          go_region_held3 (fun z => Below W.heap.size W z ∧ z.cell? ⟨b, o + k, none⟩ = some (.int .i64 (x : Int)))
              (first | exact HSC.out _ HZ0.out | exact HSC.out _ HB1.out | exact HSC.out _ HB2.out | exact HSC.out _ HB3.out | exact HSC.out _ HB4.out | exact HSC.out _ hzC | exact HSC.out _ hzB | exact HSC.out _ (bl_alloc hzA) | exact HSC.out _ hzA | fail)
              (first
                | ((refine step_appendI _ (by rfl) _ _ (by rfl) (by rfl) hp.own (by rfl) (HRd.out.keep hzB (Nat.le_refl _)) hzB.size (by omega) (by omega) ?_; intro A9 c9 wC hOC hbC; have hzC := hzB.trans hbC))
                | ((refine step_appendG0 _ (by rfl) _ _ (by rfl) (by rfl) HO1.out (by rfl) HR1.out HB1.out.size (by omega) ?_; intro A1 k1 wA hOA hbA hgA; have hzA := HB1.out.trans hbA; have hOA' := HC1.out _ _ _ hOA))
                | ((refine step_appendG0 _ (by rfl) _ _ (by rfl) (by rfl) HO2.out (by rfl) HR2.out HB2.out.size (by omega) ?_; intro A1 k1 wA hOA hbA hgA; have hzA := HB2.out.trans hbA; have hOA' := HC1.out _ _ _ hOA; have hB5 := (hgA.block (W.heap.size + 1) B2.out.2 (by simp [Value.ownBlock])).trans B2.out.1))
                | ((refine step_appendG0 _ (by rfl) _ _ (by rfl) (by rfl) HO3.out (by rfl) HR3.out HB3.out.size (by omega) ?_; intro A1 k1 wA hOA hbA hgA; have hzA := HB3.out.trans hbA; have hOA' := HC1.out _ _ _ hOA; have hB5 := (hgA.block W.heap.size B3.out.2 (by simp [Value.ownBlock])).trans B3.out.1))
                | ((refine step_push _ (by rfl) _ _ _ (by rfl) 3 _ 1 8 Tryd.underlying22 info_int rfl (by omega) W.heap.size wA.heap.size A1 T1.length k1 (ni (T1 ++ [x])) (by rfl) (hOA'.alloc _) (by have := hzA.size; simp; omega) wA.heap.size #[.int .i64 (x : Int)] 3 (0, 0) 1 (heap_alloc_new wA _) (by rfl) rfl ni_news (by simp [Value.oneCell']) (by omega) (by omega) ?_; intro g6 cap wB hp; have hzB := (bl_alloc hzA).trans hp.below))
                | ((refine step_push _ (by rfl) _ _ _ (by rfl) 3 _ 1 8 Tryd.underlying22 info_int rfl (by omega) W.heap.size wA.heap.size A1 T1.length k1 (ni (T1 ++ [x])) (by rfl) hOA' hzA.size (W.heap.size + 1) #[.int .i64 (x : Int)] 3 (0, 0) 1 hB5 (by rfl) rfl ni_news (by simp [Value.oneCell']) (by omega) (by omega) ?_; intro g6 cap wB hp; have hzB := hzA.trans hp.below))
                | ((refine step_push _ (by rfl) _ _ _ (by rfl) 3 _ 1 8 Tryd.underlying22 info_int rfl (by omega) W.heap.size wA.heap.size A1 T1.length k1 (ni (T1 ++ [x])) (by rfl) hOA' hzA.size W.heap.size #[.int .i64 (x : Int)] 3 (0, 0) 1 hB5 (by rfl) rfl ni_news (by simp [Value.oneCell']) (by omega) (by omega) ?_; intro g6 cap wB hp; have hzB := hzA.trans hp.below))
                | fail)
          all_goals
              have he : T1.length + 1 + (k - T1.length) = k + 1 := by omega
              rw [he] at hOC
              try rw [he]
              have hOD : Own wC W.heap.size wC.heap.size 3 1 A9 (k + 1) c9 (ni (srtF L (k + 1))) := by
                have hJ := HJ.out
                obtain ⟨P, hP⟩ : ∃ P, P = T1 ++ [x] := ⟨_, rfl⟩
                have hPl : P.length = T1.length + 1 := by rw [hP]; simp
                rw [← hP] at hJ hOC
                exact hOC.congr (fun i hi => by
                  unfold thenI ni
                  rw [← hJ]
                  by_cases h5 : i < T1.length + 1
                  · rw [if_pos (by omega)]
                    simp [List.getD, List.getElem?_append_left (show i < P.length by omega)]
                  · rw [if_neg (by omega)]
                    simp [List.getD, List.getElem?_append_right (show P.length ≤ i by omega), hPl])
              obtain ⟨g7, rfl, hg7, _, hg8, _⟩ := hOD.at_ (by omega)
              have HOD : Hid (Own wC w.heap.size wC.heap.size 3 1 (some ⟨g7, 0, none⟩) (k + 1) c9 (ni (srtF L (k + 1)))) := hOD.mono HB.out.size (Nat.le_refl _)
              have HBD : Hid (Below w.heap.size w wC) := HB.out.trans (hzC.mono HB.out.size)
              have hzw := HB.out.size
              clear hOC hOD hzC hbC hzB hp hzA hOA hOA' hbA hgA HSC HZ0 HB1 HB2 HB3 HB4 HO1 HO2 HO3 HR1 HR2 HR3 B2 B3 HC1 HRd HO HB q0
              go_wp2
              go_roundw
              case rel => exact ⟨k + 1, g7, c9, by omega, by go_num, rfl, by omega, hg8, HOD, HBD⟩
              case measure => (simp [intOf] <;> omega)
        · obtain ⟨i, rfl⟩ : ∃ i, j = i + 1 := ⟨j - 1, by omega⟩
          have i2 : (0 : Int) < ((i + 1 : Nat) : Int) := by omega
          have i3 : decide (0 < i + 1) = true := decide_eq_true (by omega)
          have q1 : wr.cell? ⟨g, i, none⟩ = some (.int .i64 ((T.getD i 0 : Nat) : Int)) := by
            obtain ⟨g5, e5, _, _, _, h5, _⟩ := HO.out.at_ (by omega)
            cases e5
            exact h5 i (by omega)
          by_cases hgt : x < T.getD i 0
          · have HI2 : Hid (insF T x k = insF T x i) := HI.out.trans (insF_more hgt)
            have i4 : ((x : Nat) : Int) < ((T.getD i 0 : Nat) : Int) := by omega
            obtain ⟨y, hy⟩ : ∃ y, y = T.getD i 0 := ⟨_, rfl⟩
            rw [← hy] at q1 i4
            clear hgt hy HI
            go_wp2
            go_quiet (fail)
            have HO2 := Lib.hid (HO.out.drewN nq)
            have HB2 := Lib.hid (below_drewN HB.out nq)
            have hgw2 : g < (wr.drewN nq).heap.size := hgw
            clear HO HB q0 q1
            go_wp2
            go_roundw
            case rel => exact ⟨i, by omega, by go_num, hgw2, HI2, HO2, HB2⟩
            case measure => (simp [intOf] <;> omega)
          · have HI2 : Hid (insF T x k = i + 1) := HI.out.trans (insF_stop hgt)
            have i4 : ((T.getD i 0 : Nat) : Int) ≤ ((x : Nat) : Int) := by omega
            have i5 := hgt
            obtain ⟨y, hy⟩ : ∃ y, y = T.getD i 0 := ⟨_, rfl⟩
            rw [← hy] at q1 i4 i5
            clear hgt hy HI
            have HI := HI2
            clear HI2
            go_wp2
            go_quiet (fail)
            have HO' : Hid (Own (wr.drewN nq) w.heap.size (wr.drewN nq).heap.size 3 1 (some ⟨g, 0, none⟩) k c1 (ni T)) := HO.out.drewN nq
            have HB' := Lib.hid (below_drewN HB.out nq)
            replace HO := HO'
            replace HB := HB'
            replace q0 := Hq2.out _ HB.out
            replace hgw : g < (wr.drewN nq).heap.size := hgw
            clear HO' HB' q1
            obtain ⟨wp, hwp⟩ : ∃ z : World, z = wr.drewN nq := ⟨_, rfl⟩
            rw [← hwp] at HO HB q0 hgw ⊢
            clear hwp
            obtain ⟨wr, rfl⟩ : ∃ z : World, z = wp := ⟨_, rfl⟩
            obtain ⟨j, hjj⟩ : ∃ j, j = i + 1 := ⟨_, rfl⟩
            rw [← hjj] at HI hj i2 i3 ⊢
            clear hjj
            obtain ⟨W, hWW⟩ : ∃ W : World, W = wr := ⟨_, rfl⟩
            rw [← hWW] at HO HB q0 hgw ⊢
            clear hWW
            obtain ⟨T1, T2, hT12, hT1⟩ : ∃ T1 T2 : List Nat, T = T1 ++ T2 ∧ T1.length = j := ⟨T.take j, T.drop j, (List.take_append_drop j T).symm, by rw [List.length_take, HTl.out]; omega⟩
            have HT12 := Lib.hid hT12
            have HJ : Hid (T1 ++ [x] ++ T2 = srtF L (k + 1)) := by
              show _ = insL _ _
              rw [← HTT.out, ← HX.out]
              unfold insL
              rw [HTl.out, HI.out, hT12, ← hT1]
              simp
            have hT2 : T2.length = k - T1.length := by
              have h5 := HTl.out
              rw [hT12, List.length_append] at h5; omega
            have HT2l := Lib.hid hT2
            clear hT12 HI
            subst hT1
            have hjk : T1.length ≤ k := hj
            obtain ⟨g0, cur, eg, hg1, hg2, hgc, hkc, hcm, hcs, hcx⟩ : ∃ g0 cur, some ({ block := g, off := 0 } : Addr) = some ⟨g0, 0, none⟩ ∧ w.heap.size ≤ g0 ∧ g0 < W.heap.size ∧ W.heap[g0]? = some (.cells cur 3 (0, 0)) ∧ k ≤ c1 ∧ c1 ≤ maxLen ∧ cur.size = c1 * 1 ∧ ∀ i, i < k * 1 → cur[i]? = some (ni T i) := by
              rcases HO.out with ⟨h, _⟩ | h
              · cases h
              · exact h
            clear eg hg1 hg2 hgc hcs hcx g0 cur
            have hcell : Hid (∀ i, i < k → W.cell? ⟨g, i, none⟩ = some (ni T i)) := fun i hi => by
              obtain ⟨g5, e5, _, _, _, h5, _⟩ := HO.out.at_ (by omega)
              cases e5
              exact h5 i (by omega)
            have HRa : Hid (Rd W W.heap.size (some ⟨g, 0, none⟩) T1.length c1 (fun i => ((T1.getD i 0 : Nat) : Int))) := ⟨by omega, fun _ => ⟨g, 0, rfl, hgw, fun i hi => by
              rw [Nat.zero_add, hcell.out i (by omega)]
              unfold ni
              rw [HT12.out]
              simp [List.getD, List.getElem?_append_left hi]⟩⟩
            have HRd : Hid (Rd W W.heap.size (if c1 = T1.length then some ⟨g, 0, none⟩ else some ⟨g, T1.length, none⟩) (k - T1.length) (c1 - T1.length) (fun i => ((T2.getD i 0 : Nat) : Int))) := ⟨by omega, fun h0 => ⟨g, T1.length, by rw [if_neg (by omega)], hgw, fun i hi => by
              rw [hcell.out (T1.length + i) (by omega)]
              unfold ni
              rw [HT12.out]
              simp [List.getD, List.getElem?_append_right (Nat.le_add_right T1.length i)]⟩⟩
            clear hcell
            have HSC : Hid (∀ z : World, Below W.heap.size W z → (Below W.heap.size W z ∧ z.cell? ⟨b, o + k, none⟩ = some (.int .i64 (x : Int)))) := fun z hz => ⟨hz, up_ hz q0⟩
            have HZ0 : Hid (Below W.heap.size W W.drew) := (Below.refl _ _).drew
            have HB1 : Hid (Below W.heap.size W ((W.alloc (Obj.cells #[] 3)).drew)) := ((Below.refl _ _).alloc (Nat.le_refl _) _).drew
            have HB2 : Hid (Below W.heap.size W (((W.alloc (Obj.cells #[] 3)).alloc (Obj.cells #[.int .i64 (x : Int)] 3)).drew)) := (((Below.refl _ _).alloc (Nat.le_refl _) _).alloc (by simp) _).drew
            have HB3 : Hid (Below W.heap.size W (((W.alloc (Obj.cells #[.int .i64 (x : Int)] 3)).alloc (Obj.cells #[] 3)).drew)) := (((Below.refl _ _).alloc (Nat.le_refl _) _).alloc (by simp) _).drew
            have HB4 : Hid (Below W.heap.size W ((W.alloc (Obj.cells #[.int .i64 (x : Int)] 3)).drew)) := ((Below.refl _ _).alloc (Nat.le_refl _) _).drew
            have HO1 : Hid (Own ((W.alloc (Obj.cells #[] 3)).drew) W.heap.size (W.heap.size + 1) 3 1 (some ⟨W.heap.size, 0, none⟩) 0 0 (ni [])) := .inr ⟨W.heap.size, #[], rfl, Nat.le_refl _, Nat.lt_succ_self _, heap_alloc_new W _, Nat.le_refl _, by unfold maxLen; omega, rfl, fun j hj => absurd hj (by omega)⟩
            have HO2 : Hid (Own (((W.alloc (Obj.cells #[] 3)).alloc (Obj.cells #[.int .i64 (x : Int)] 3)).drew) W.heap.size (W.heap.size + 1) 3 1 (some ⟨W.heap.size, 0, none⟩) 0 0 (ni [])) := Own.alloc HO1.out _
            have HO3 : Hid (Own (((W.alloc (Obj.cells #[.int .i64 (x : Int)] 3)).alloc (Obj.cells #[] 3)).drew) W.heap.size (W.heap.size + 1 + 1) 3 1 (some ⟨W.heap.size + 1, 0, none⟩) 0 0 (ni [])) := by
              have hn := heap_alloc_new (W.alloc (Obj.cells #[.int .i64 (x : Int)] 3)) (Obj.cells #[] 3)
              have he : (W.alloc (Obj.cells #[.int .i64 (x : Int)] 3)).heap.size = W.heap.size + 1 := by simp
              rw [he] at hn
              exact .inr ⟨W.heap.size + 1, #[], rfl, by omega, Nat.lt_succ_self _, hn, Nat.le_refl _, by unfold maxLen; omega, rfl, fun j hj => absurd hj (by omega)⟩
            have HR1 : Hid (Rd ((W.alloc (Obj.cells #[] 3)).drew) W.heap.size (some ⟨g, 0, none⟩) T1.length c1 (fun i => ((T1.getD i 0 : Nat) : Int))) := HRa.out.keep HB1.out (Nat.le_refl _)
            have HR2 : Hid (Rd (((W.alloc (Obj.cells #[] 3)).alloc (Obj.cells #[.int .i64 (x : Int)] 3)).drew) W.heap.size (some ⟨g, 0, none⟩) T1.length c1 (fun i => ((T1.getD i 0 : Nat) : Int))) := HRa.out.keep HB2.out (Nat.le_refl _)
            have HR3 : Hid (Rd (((W.alloc (Obj.cells #[.int .i64 (x : Int)] 3)).alloc (Obj.cells #[] 3)).drew) W.heap.size (some ⟨g, 0, none⟩) T1.length c1 (fun i => ((T1.getD i 0 : Nat) : Int))) := HRa.out.keep HB3.out (Nat.le_refl _)
            have B2 : Hid ((((W.alloc (Obj.cells #[] 3)).alloc (Obj.cells #[.int .i64 (x : Int)] 3)).drew).heap[W.heap.size + 1]? = some (.cells #[.int .i64 (x : Int)] 3 (0, 0)) ∧ W.heap.size + 1 < (((W.alloc (Obj.cells #[] 3)).alloc (Obj.cells #[.int .i64 (x : Int)] 3)).drew).heap.size) := by
              have hn := heap_alloc_new (W.alloc (Obj.cells #[] 3)) (Obj.cells #[.int .i64 (x : Int)] 3)
              have he : (W.alloc (Obj.cells #[] 3)).heap.size = W.heap.size + 1 := by simp
              rw [he] at hn
              exact ⟨hn, by show _ < ((W.alloc _).alloc _).heap.size; simp⟩
            have B3 : Hid ((((W.alloc (Obj.cells #[.int .i64 (x : Int)] 3)).alloc (Obj.cells #[] 3)).drew).heap[W.heap.size]? = some (.cells #[.int .i64 (x : Int)] 3 (0, 0)) ∧ W.heap.size < (((W.alloc (Obj.cells #[.int .i64 (x : Int)] 3)).alloc (Obj.cells #[] 3)).drew).heap.size) :=
              ⟨(Below.heap_alloc (W.alloc (Obj.cells #[.int .i64 (x : Int)] 3)) _ _ (by simp)).trans (heap_alloc_new W _), by show _ < ((W.alloc _).alloc _).heap.size; simp; omega⟩
            have HC1 : Hid (∀ (z : World) (A1 : Option Addr) (k1 : Nat), Own z W.heap.size z.heap.size 3 1 A1 T1.length k1 (fun i => .int .i64 ((T1.getD i 0 : Nat) : Int)) → Own z W.heap.size z.heap.size 3 1 A1 T1.length k1 (ni (T1 ++ [x]))) := by
              intro z A1 k1 h
              exact h.congr (fun i hi => by rw [ni_left (by omega)]; rfl)
            have hT1s : T1.length ≤ 7 := by omega
            have hk7 : k ≤ 7 := by omega
            have n1 : (0 : Int) ≤ (T1.length : Int) := by omega
            have n2 : (T1.length : Int) ≤ (c1 : Int) := by omega
            have n3 : (T1.length : Int) ≤ (k : Int) := by omega
            have n4 : (k : Int) ≤ (c1 : Int) := by omega
            clear HRa
            go_wp2
            go_region_held3 (fun z => Below W.heap.size W z ∧ z.cell? ⟨b, o + k, none⟩ = some (.int .i64 (x : Int)))
                (first | exact HSC.out _ HZ0.out | exact HSC.out _ HB1.out | exact HSC.out _ HB2.out | exact HSC.out _ HB3.out | exact HSC.out _ HB4.out | exact HSC.out _ hzC | exact HSC.out _ hzB | exact HSC.out _ (bl_alloc hzA) | exact HSC.out _ hzA | fail)
                (first
                  | ((refine step_appendI _ (by rfl) _ _ (by rfl) (by rfl) hp.own (by rfl) (HRd.out.keep hzB (Nat.le_refl _)) hzB.size (by omega) (by omega) ?_; intro A9 c9 wC hOC hbC; have hzC := hzB.trans hbC))
                  | ((refine step_appendG0 _ (by rfl) _ _ (by rfl) (by rfl) HO1.out (by rfl) HR1.out HB1.out.size (by omega) ?_; intro A1 k1 wA hOA hbA hgA; have hzA := HB1.out.trans hbA; have hOA' := HC1.out _ _ _ hOA))
                  | ((refine step_appendG0 _ (by rfl) _ _ (by rfl) (by rfl) HO2.out (by rfl) HR2.out HB2.out.size (by omega) ?_; intro A1 k1 wA hOA hbA hgA; have hzA := HB2.out.trans hbA; have hOA' := HC1.out _ _ _ hOA; have hB5 := (hgA.block (W.heap.size + 1) B2.out.2 (by simp [Value.ownBlock])).trans B2.out.1))
                  | ((refine step_appendG0 _ (by rfl) _ _ (by rfl) (by rfl) HO3.out (by rfl) HR3.out HB3.out.size (by omega) ?_; intro A1 k1 wA hOA hbA hgA; have hzA := HB3.out.trans hbA; have hOA' := HC1.out _ _ _ hOA; have hB5 := (hgA.block W.heap.size B3.out.2 (by simp [Value.ownBlock])).trans B3.out.1))
                  | ((refine step_push _ (by rfl) _ _ _ (by rfl) 3 _ 1 8 Tryd.underlying22 info_int rfl (by omega) W.heap.size wA.heap.size A1 T1.length k1 (ni (T1 ++ [x])) (by rfl) (hOA'.alloc _) (by have := hzA.size; simp; omega) wA.heap.size #[.int .i64 (x : Int)] 3 (0, 0) 1 (heap_alloc_new wA _) (by rfl) rfl ni_news (by simp [Value.oneCell']) (by omega) (by omega) ?_; intro g6 cap wB hp; have hzB := (bl_alloc hzA).trans hp.below))
                  | ((refine step_push _ (by rfl) _ _ _ (by rfl) 3 _ 1 8 Tryd.underlying22 info_int rfl (by omega) W.heap.size wA.heap.size A1 T1.length k1 (ni (T1 ++ [x])) (by rfl) hOA' hzA.size (W.heap.size + 1) #[.int .i64 (x : Int)] 3 (0, 0) 1 hB5 (by rfl) rfl ni_news (by simp [Value.oneCell']) (by omega) (by omega) ?_; intro g6 cap wB hp; have hzB := hzA.trans hp.below))
                  | ((refine step_push _ (by rfl) _ _ _ (by rfl) 3 _ 1 8 Tryd.underlying22 info_int rfl (by omega) W.heap.size wA.heap.size A1 T1.length k1 (ni (T1 ++ [x])) (by rfl) hOA' hzA.size W.heap.size #[.int .i64 (x : Int)] 3 (0, 0) 1 hB5 (by rfl) rfl ni_news (by simp [Value.oneCell']) (by omega) (by omega) ?_; intro g6 cap wB hp; have hzB := hzA.trans hp.below))
                  | fail)
            all_goals
                have he : T1.length + 1 + (k - T1.length) = k + 1 := by omega
                rw [he] at hOC
                try rw [he]
                have hOD : Own wC W.heap.size wC.heap.size 3 1 A9 (k + 1) c9 (ni (srtF L (k + 1))) := by
                  have hJ := HJ.out
                  obtain ⟨P, hP⟩ : ∃ P, P = T1 ++ [x] := ⟨_, rfl⟩
                  have hPl : P.length = T1.length + 1 := by rw [hP]; simp
                  rw [← hP] at hJ hOC
                  exact hOC.congr (fun i hi => by
                    unfold thenI ni
                    rw [← hJ]
                    by_cases h5 : i < T1.length + 1
                    · rw [if_pos (by omega)]
                      simp [List.getD, List.getElem?_append_left (show i < P.length by omega)]
                    · rw [if_neg (by omega)]
                      simp [List.getD, List.getElem?_append_right (show P.length ≤ i by omega), hPl])
                obtain ⟨g7, rfl, hg7, _, hg8, _⟩ := hOD.at_ (by omega)
                have HOD : Hid (Own wC w.heap.size wC.heap.size 3 1 (some ⟨g7, 0, none⟩) (k + 1) c9 (ni (srtF L (k + 1)))) := hOD.mono HB.out.size (Nat.le_refl _)
                have HBD : Hid (Below w.heap.size w wC) := HB.out.trans (hzC.mono HB.out.size)
                have hzw := HB.out.size
                clear hOC hOD hzC hbC hzB hp hzA hOA hOA' hbA hgA HSC HZ0 HB1 HB2 HB3 HB4 HO1 HO2 HO3 HR1 HR2 HR3 B2 B3 HC1 HRd HO HB q0
                go_wp2
                go_roundw
                case rel => exact ⟨k + 1, g7, c9, by omega, by go_num, rfl, by omega, hg8, HOD, HBD⟩
                case measure => (simp [intOf] <;> omega)
    · have i1 : (n : Int) ≤ (k : Int) := by omega
      obtain rfl : k = n := by omega
      have HON : Hid (ON w.heap.size wr (some ⟨g, 0, none⟩) c1 (srt L)) := ⟨by rw [srt_len, ← Hn.out]; unfold srt; rw [← Hn.out]; exact HO.out⟩
      clear HO
      go_wp2
      go_ret
      exact ⟨_, c1, rfl, HON.out, HB.out⟩
end Go.Proofs.YtppkokgiojcgbaaDoor
