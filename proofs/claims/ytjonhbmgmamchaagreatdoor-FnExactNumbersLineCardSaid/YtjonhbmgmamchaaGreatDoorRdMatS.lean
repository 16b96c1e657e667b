/-
  Contracts: a matching with most edges (the reference's).
-/
import Derived.Test.YtjonhbmgmamchaaGreatDoorRdMatI
namespace Go.Proofs.YtjonhbmgmamchaaGreatDoor
open Go.RowKit

set_option maxRecDepth 100000 in
set_option maxHeartbeats 6400000 in
theorem l20Match_v {L : List (Nat × Nat)} {A : Option Addr} {c n : Nat} (hLn : L.length = n) (hn21 : n ≤ 21) (hlt : ∀ p ∈ L, p.1 < 7 ∧ p.2 < 7) : ∀ (es : List (Nat × Nat)) (t u : Nat) (w : World), t + es.length = n → L.drop t = es → u < 128 → RPr w A c L →
    Calls Tryz.prog 48 #[.slice A n c, .int .i64 (t : Nat), .int .i64 (u : Nat)] w fun e w' => ∃ A' c', e = .returned (.slice A' (maL es u).length c') ∧ MR w' A' (maL es u).length c' ∧ Below w.heap.size w w' := by
  intro es
  induction es with
  | nil =>
    intro t u w ht hd hu h
    obtain rfl : t = n := by simpa using ht
    have HB : Hid (Below w.heap.size w (w.alloc (Obj.cells #[] 22))) := (Below.refl _ _).alloc (Nat.le_refl _) _
    have HS : Hid (maL [] u = []) := rfl
    clear ht hd hlt h hLn
    go_enter Tryz.func48, Tryz.ntmps48
    go_wp2
    go_ret
    rw [HS.out]
    exact ⟨_, _, rfl, MR.nil _ _ _, HB.out⟩
  | cons p es ih =>
    intro t u w ht hd hu h
    have htn : t < n := by simp only [List.length_cons] at ht; omega
    have htL : t < L.length := by omega
    have hLt : L[t] = p := by
      have := List.drop_eq_getElem_cons htL
      rw [hd] at this
      exact (List.cons.inj this).1.symm
    have hd1 : L.drop (t + 1) = es := by
      have := List.drop_eq_getElem_cons htL
      rw [hd] at this
      exact (List.cons.inj this).2.symm
    have hel : t + 1 + es.length = n := by simp only [List.length_cons] at ht; omega
    have hes21 : es.length ≤ 21 := by omega
    have hp := hlt p (by rw [← hLt]; exact List.getElem_mem htL)
    have IH := Lib.hid ih
    have HRE := Lib.hid h
    obtain ⟨b, o, rfl⟩ := h.addr (by omega)
    obtain ⟨g, cap, q0, hac⟩ := h.at htL
    have d0 := hac.c0
    have d1 := hac.c1
    have hcap := hac.le
    rw [hLt] at d0 d1
    have KI : Hid (∀ (v : Nat) (z : World), v < 128 → Below w.heap.size w z → Calls Tryz.prog 48 #[.slice (some ⟨b, o, none⟩) n c, .int .i64 ((t : Int) + 1), .int .i64 (v : Nat)] z fun e w' => ∃ A' c', e = .returned (.slice A' (maL es v).length c') ∧ MR w' A' (maL es v).length c' ∧ Below z.heap.size z w') := fun v z hv hz => by
      have := IH.out (t + 1) v z hel hd1 hv (HRE.out.keep hz)
      rwa [show ((t + 1 : Nat) : Int) = (t : Int) + 1 by omega] at this
    have h0 : ((t : Int) == (n : Int)) = false := by simp; omega
    have h1 : (t = n) = False := by simp; omega
    have i1 : (t : Int) < (n : Int) := by omega
    have ht21 : t < 21 := by omega
    have hnc : n ≤ c := by have := h.le; omega
    obtain ⟨x, hx⟩ : ∃ x, x = p.1 := ⟨_, rfl⟩
    obtain ⟨y, hy⟩ : ∃ y, y = p.2 := ⟨_, rfl⟩
    have hx7 : x < 7 := by omega
    have hy7 : y < 7 := by omega
    have F1 := and_one_i64' (u : Int) x (by omega) (by omega)
    have F2 := and_one_i64' (u : Int) y (by omega) (by omega)
    rw [Int.toNat_natCast] at F1 F2
    obtain ⟨b1, hb1⟩ : ∃ b1, b1 = u.testBit x := ⟨_, rfl⟩
    obtain ⟨b2, hb2⟩ : ∃ b2, b2 = u.testBit y := ⟨_, rfl⟩
    rw [← hb1] at F1
    rw [← hb2] at F2
    have HMB : Hid (maB u p = (b1 || b2)) := by show (u.testBit p.1 || u.testBit p.2) = _; rw [hb1, hb2, hx, hy]
    obtain ⟨u1, hu1⟩ : ∃ u1, u1 = u ||| 2 ^ x := ⟨_, rfl⟩
    obtain ⟨u2, hu2⟩ : ∃ u2, u2 = u1 ||| 2 ^ y := ⟨_, rfl⟩
    have h2x := two_pow_le (n := x) (by omega)
    have h2y := two_pow_le (n := y) (by omega)
    have h3x : 2 ^ x < 2 ^ 7 := Nat.pow_lt_pow_right (by omega) hx7
    have h3y : 2 ^ y < 2 ^ 7 := Nat.pow_lt_pow_right (by omega) hy7
    have hu1l : u1 < 128 := by rw [hu1]; exact Nat.or_lt_two_pow (n := 7) hu h3x
    have hu2l : u2 < 128 := by rw [hu2]; exact Nat.or_lt_two_pow (n := 7) hu1l h3y
    have E1 : bits .or .i64 (u : Int) (2 ^ x) = (u1 : Int) := by
      have := i64_or_nat u (2 ^ x) (by omega) (by omega)
      rw [hu1, ← this]; simp
    have E2 : bits .or .i64 (u1 : Int) (2 ^ y) = (u2 : Int) := by
      have := i64_or_nat u1 (2 ^ y) (by omega) (by omega)
      rw [hu2, ← this]; simp
    obtain ⟨N1, hN1⟩ : ∃ N1, N1 = (maL es u).length := ⟨_, rfl⟩
    obtain ⟨N2, hN2⟩ : ∃ N2, N2 = (maL es u2).length := ⟨_, rfl⟩
    have HHit : Hid (maB u p = true → (maL (p :: es) u).length = N1) := fun h => by rw [maL_hit h, hN1]
    have HWith : Hid (maB u p = false → N1 ≤ N2 + 1 → (maL (p :: es) u).length = 1 + N2) := fun h h2 => by
      rw [maL_with h (by rw [← hx, ← hy, ← hu1, ← hu2, ← hN1, ← hN2]; exact h2), ← hx, ← hy, ← hu1, ← hu2, List.length_cons, ← hN2]; omega
    have HRest : Hid (maB u p = false → ¬ N1 ≤ N2 + 1 → (maL (p :: es) u).length = N1) := fun h h2 => by
      rw [maL_rest h (by rw [← hx, ← hy, ← hu1, ← hu2, ← hN1, ← hN2]; exact h2), ← hN1]
    have hN1l : N1 ≤ 21 := by rw [hN1]; exact Nat.le_trans maL_len (by omega)
    have hN2l : N2 ≤ 21 := by rw [hN2]; exact Nat.le_trans maL_len (by omega)
    have KI1 : Hid (∀ z : World, Below w.heap.size w z → Calls Tryz.prog 48 #[.slice (some ⟨b, o, none⟩) n c, .int .i64 ((t : Int) + 1), .int .i64 (u : Nat)] z fun e w' => ∃ A' c', e = .returned (.slice A' N1 c') ∧ MR w' A' N1 c' ∧ Below z.heap.size z w') := fun z hz => by rw [hN1]; exact KI.out u z hu hz
    have KR0 : Hid (∀ z : World, Below w.heap.size w z → Calls Tryz.prog 48 #[.slice (some ⟨b, o, none⟩) n c, .int .i64 ((t : Int) + 1), .int .i64 (u2 : Nat)] z fun e w' => ∃ A' c', e = .returned (.slice A' N2 c') ∧ MR w' A' N2 c' ∧ Below z.heap.size z w') := fun z hz => by rw [hN2]; exact KI.out u2 z hu2l hz
    rw [← hx] at d0
    rw [← hy] at d1
    obtain ⟨T, hT⟩ : ∃ T, T = (maL (p :: es) u).length := ⟨_, rfl⟩
    rw [← hT] at HHit HWith HRest ⊢
    obtain ⟨W2, hW2⟩ : ∃ W2 : World, W2 = w.alloc (Obj.cells #[] 22) := ⟨_, rfl⟩
    have HB2 : Hid (Below w.heap.size w W2) := by rw [hW2]; exact (Below.refl _ _).alloc (Nat.le_refl _) _
    have HME : Hid (MR W2 (some ⟨w.heap.size, 0, none⟩) 0 0) := MR.nil _ _ _
    have HW2 := Lib.hid hW2
    have HQ0 : Hid (CL w b (o + t) (.slice (some ⟨g, 0, none⟩) 2 cap)) := ⟨q0⟩
    have HQ1 : Hid (CL w g 0 (.int .i64 (x : Nat))) := ⟨d0⟩
    have HQ2 : Hid (CL w g 1 (.int .i64 (y : Nat))) := ⟨d1⟩
    have hbl := World.block_lt_of_cell? _ _ q0
    have hgl := World.block_lt_of_cell? _ _ d0
    simp only at hbl hgl
    have HE1 := Lib.hid E1
    have HE2 := Lib.hid E2
    clear ht hd hlt h ih hac hx hy hb1 hb2 hu1 hu2 h2x h2y h3x h3y hN1 hN2 hT hp KI htL hLt hd1 hel hLn E1 E2 hW2 hes21 htn
    cases b1
    case' true =>
      have HS : Hid (T = N1) := HHit.out (by rw [HMB.out]; rfl)
      clear KR0 HWith HRest HHit
      by_cases hN0 : N1 = 0
      · have HS0 : Hid (T = 0) := by show _ = _; rw [HS.out, hN0]
        subst hN0
        go_enter Tryz.func48, Tryz.ntmps48
        go_wp2_with fail
        rw [← HW2.out]
        clear q0 d0 d1 F1 F2
        refine (KI1.out _ HB2.out).mono ?_
        rintro e w1 ⟨A5, c5, rfl, hm5, hb1⟩
        have HMz := Lib.hid (HME.out.keep hb1)
        have HBz : Hid (Below w.heap.size w w1) := HB2.out.trans (hb1.mono HB2.out.size)
        clear hm5 hb1 KI1
        go_wp2
        go_ret
        exact ⟨_, _, by rw [HS0.out]; rfl, by rw [HS0.out]; exact HMz.out, HBz.out⟩
      · have j1 : (0 : Int) < (N1 : Int) := by omega
        have j2 : 0 < N1 := by omega
        clear hN0
        go_enter Tryz.func48, Tryz.ntmps48
        go_wp2_with fail
        rw [← HW2.out]
        clear q0 d0 d1 F1 F2
        refine (KI1.out _ HB2.out).mono ?_
        rintro e w1 ⟨A5, c5, rfl, hm5, hb1⟩
        have HMz := Lib.hid hm5
        have HBz : Hid (Below w.heap.size w w1) := HB2.out.trans (hb1.mono HB2.out.size)
        clear hm5 hb1 KI1
        go_wp2
        go_ret
        exact ⟨_, _, by rw [HS.out]; rfl, by rw [HS.out]; exact HMz.out, HBz.out⟩
    cases b2
    case' true =>
      have HS : Hid (T = N1) := HHit.out (by rw [HMB.out]; rfl)
      clear KR0 HWith HRest HHit
      by_cases hN0 : N1 = 0
      · have HS0 : Hid (T = 0) := by show _ = _; rw [HS.out, hN0]
        subst hN0
        go_enter Tryz.func48, Tryz.ntmps48
        go_wp2_with fail
        rw [← HW2.out]
        clear q0 d0 d1 F1 F2
        refine (KI1.out _ HB2.out).mono ?_
        rintro e w1 ⟨A5, c5, rfl, hm5, hb1⟩
        have HMz := Lib.hid (HME.out.keep hb1)
        have HBz : Hid (Below w.heap.size w w1) := HB2.out.trans (hb1.mono HB2.out.size)
        clear hm5 hb1 KI1
        go_wp2
        go_ret
        exact ⟨_, _, by rw [HS0.out]; rfl, by rw [HS0.out]; exact HMz.out, HBz.out⟩
      · have j1 : (0 : Int) < (N1 : Int) := by omega
        have j2 : 0 < N1 := by omega
        clear hN0
        go_enter Tryz.func48, Tryz.ntmps48
        go_wp2_with fail
        rw [← HW2.out]
        clear q0 d0 d1 F1 F2
        refine (KI1.out _ HB2.out).mono ?_
        rintro e w1 ⟨A5, c5, rfl, hm5, hb1⟩
        have HMz := Lib.hid hm5
        have HBz : Hid (Below w.heap.size w w1) := HB2.out.trans (hb1.mono HB2.out.size)
        clear hm5 hb1 KI1
        go_wp2
        go_ret
        exact ⟨_, _, by rw [HS.out]; rfl, by rw [HS.out]; exact HMz.out, HBz.out⟩
    have Hmb : Hid (maB u p = false) := by show _ = _; rw [HMB.out]; rfl
    have KR : Hid (∀ z : World, Below W2.heap.size W2 z → Calls Tryz.prog 48 #[.slice (some ⟨b, o, none⟩) n c, .int .i64 ((t : Int) + 1), .int .i64 (u2 : Nat)] z fun e w' => ∃ A' c', e = .returned (.slice A' N2 c') ∧ MR w' A' N2 c' ∧ Below z.heap.size z w') := fun z hz => KR0.out z (HB2.out.trans (hz.mono HB2.out.size))
    clear KR0 HME HHit
    by_cases hge : N1 ≤ N2 + 1
    · have HS : Hid (T = 1 + N2) := HWith.out Hmb.out hge
      have i4 : (N1 : Int) ≤ 1 + (N2 : Int) := by omega
      clear hge HWith HRest
      go_enter Tryz.func48, Tryz.ntmps48
      go_wp2
      rw [← HW2.out]
      clear q0 d0 d1 F1 F2
      have q0 := up_ HB2.out HQ0.out.c
      have d0 := up_ HB2.out HQ1.out.c
      have d1 := up_ HB2.out HQ2.out.c
      have E1 : bits .or .i64 (u : Int) (2 ^ x) = (u1 : Int) := HE1.out
      have E2 : bits .or .i64 (u1 : Int) (2 ^ y) = (u2 : Int) := HE2.out
      have s1 := pow_shl x (by omega)
      have s2 := pow_shl y (by omega)
      have s3 : IntKind.i64.wrap ((t : Int) + 1) = (t : Int) + 1 := Go.IntWalk.i64_in _ (by omega)
      have HSC : Hid (∀ z : World, Below W2.heap.size W2 z → (Below W2.heap.size W2 z ∧ z.cell? ⟨b, o + t, none⟩ = some (.slice (some ⟨g, 0, none⟩) 2 cap) ∧ z.cell? ⟨g, 0, none⟩ = some (.int .i64 (x : Nat)) ∧ z.cell? ⟨g, 1, none⟩ = some (.int .i64 (y : Nat)))) := fun z hz => ⟨hz, up_ hz q0, up_ hz d0, up_ hz d1⟩
      have HZ1 : Hid (Below W2.heap.size W2 W2.drew) := (Below.refl _ _).drew
      have HZ2 : Hid (Below W2.heap.size W2 ((W2.alloc (Obj.cells #[.slice (some ⟨g, 0, none⟩) 2 cap] 22)).drew)) := ((Below.refl _ _).alloc (Nat.le_refl _) _).drew
      have HO2 : Hid (Own ((W2.alloc (Obj.cells #[.slice (some ⟨g, 0, none⟩) 2 cap] 22)).drew) W2.heap.size (W2.heap.size + 1) 22 1 (some ⟨W2.heap.size, 0, none⟩) 1 1 (fun _ => .slice (some ⟨g, 0, none⟩) 2 cap)) := (one_slice W2 g cap).drew
      have HL2 : Hid (W2.heap.size + 1 ≤ ((W2.alloc (Obj.cells #[.slice (some ⟨g, 0, none⟩) 2 cap] 22)).drew).heap.size) := by show _ ≤ (W2.alloc _).heap.size; simp
      go_region_held3 (fun z => Below W2.heap.size W2 z ∧ z.cell? ⟨b, o + t, none⟩ = some (.slice (some ⟨g, 0, none⟩) 2 cap) ∧ z.cell? ⟨g, 0, none⟩ = some (.int .i64 (x : Nat)) ∧ z.cell? ⟨g, 1, none⟩ = some (.int .i64 (y : Nat)))
        (first | exact HSC.out _ HZ1.out | exact HSC.out _ HZ2.out | exact HSC.out _ hz5 | exact HSC.out _ (bl_alloc hz5) | exact HSC.out _ hzA | fail)
        (first
          | (go_at_call 48; ((with_reducible refine (KR.out _ HZ1.out).mono ?_); rintro e w5 ⟨A5, c5, rfl, hm6, hb5⟩; have hz5 := bl_trans HZ1.out hb5; obtain ⟨y6, hr6, hy6⟩ := hm6.rd))
          | (go_at_call 48; ((with_reducible refine (KR.out _ HZ2.out).mono ?_); rintro e w5 ⟨A5, c5, rfl, hm6, hb5⟩; have hz5 := bl_trans HZ2.out hb5; have hO5 := HO2.out.keepB hb5 HL2.out; obtain ⟨y6, hr6, hy6⟩ := hm6.rd))
          | ((refine step_appendV _ (by rfl) _ _ (by rfl) (by rfl) hO5 (by rfl) hr6 hy6 hz5.size (by omega) (by omega) ?_); intro A7 c7 wA hOA hbA; have hzA := hz5.trans hbA; have HM7 : Hid (MR wA A7 (1 + N2) c7) := MR.of hOA (Nat.le_refl _) (fun j => thenV_one rfl hy6 j))
          | ((refine step_appendV _ (by rfl) _ _ (by rfl) (by rfl) (one_slice w5 g cap) (by rfl) (hr6.keep ((Below.refl _ _).alloc (Nat.le_refl _) _) (Nat.le_refl _)) hy6 (by simp) (by omega) (by omega) ?_); intro A7 c7 wA hOA hbA; have hzA := (bl_alloc hz5).trans (hbA.mono hz5.size); have HM7 : Hid (MR wA A7 (1 + N2) c7) := MR.of hOA (Nat.le_refl _) (fun j => thenV_one rfl hy6 j))
          | fail)
      all_goals
        have HBz : Hid (Below w.heap.size w wA) := HB2.out.trans (hzA.mono HB2.out.size)
        clear hOA hbA hzA hz5 hb5 hr6 hy6 hm6 HSC HZ1 HZ2 HO2 HL2 KR q0 d0 d1 E1 E2 s1 s2 s3
        (try clear hO5)
        go_wp2_with fail
        refine (KI1.out _ HBz.out).mono ?_
        rintro e w6 ⟨A8, c8, rfl, hm8, hb8⟩
        have HM8 := Lib.hid hm8
        have HM7z := Lib.hid (HM7.out.keep hb8)
        have HB8 : Hid (Below w.heap.size w w6) := HBz.out.trans (hb8.mono HBz.out.size)
        clear hm8 hb8 KI1 HM7
        go_wp2
        go_ret
        exact ⟨_, _, by rw [HS.out]; rfl, by rw [HS.out]; exact HM7z.out, HB8.out⟩
    · have HS : Hid (T = N1) := HRest.out Hmb.out hge
      have i4 : 1 + (N2 : Int) < (N1 : Int) := by omega
      clear hge HWith HRest
      go_enter Tryz.func48, Tryz.ntmps48
      go_wp2
      rw [← HW2.out]
      clear q0 d0 d1 F1 F2
      have q0 := up_ HB2.out HQ0.out.c
      have d0 := up_ HB2.out HQ1.out.c
      have d1 := up_ HB2.out HQ2.out.c
      have E1 : bits .or .i64 (u : Int) (2 ^ x) = (u1 : Int) := HE1.out
      have E2 : bits .or .i64 (u1 : Int) (2 ^ y) = (u2 : Int) := HE2.out
      have s1 := pow_shl x (by omega)
      have s2 := pow_shl y (by omega)
      have s3 : IntKind.i64.wrap ((t : Int) + 1) = (t : Int) + 1 := Go.IntWalk.i64_in _ (by omega)
      have HSC : Hid (∀ z : World, Below W2.heap.size W2 z → (Below W2.heap.size W2 z ∧ z.cell? ⟨b, o + t, none⟩ = some (.slice (some ⟨g, 0, none⟩) 2 cap) ∧ z.cell? ⟨g, 0, none⟩ = some (.int .i64 (x : Nat)) ∧ z.cell? ⟨g, 1, none⟩ = some (.int .i64 (y : Nat)))) := fun z hz => ⟨hz, up_ hz q0, up_ hz d0, up_ hz d1⟩
      have HZ1 : Hid (Below W2.heap.size W2 W2.drew) := (Below.refl _ _).drew
      have HZ2 : Hid (Below W2.heap.size W2 ((W2.alloc (Obj.cells #[.slice (some ⟨g, 0, none⟩) 2 cap] 22)).drew)) := ((Below.refl _ _).alloc (Nat.le_refl _) _).drew
      have HO2 : Hid (Own ((W2.alloc (Obj.cells #[.slice (some ⟨g, 0, none⟩) 2 cap] 22)).drew) W2.heap.size (W2.heap.size + 1) 22 1 (some ⟨W2.heap.size, 0, none⟩) 1 1 (fun _ => .slice (some ⟨g, 0, none⟩) 2 cap)) := (one_slice W2 g cap).drew
      have HL2 : Hid (W2.heap.size + 1 ≤ ((W2.alloc (Obj.cells #[.slice (some ⟨g, 0, none⟩) 2 cap] 22)).drew).heap.size) := by show _ ≤ (W2.alloc _).heap.size; simp
      go_region_held3 (fun z => Below W2.heap.size W2 z ∧ z.cell? ⟨b, o + t, none⟩ = some (.slice (some ⟨g, 0, none⟩) 2 cap) ∧ z.cell? ⟨g, 0, none⟩ = some (.int .i64 (x : Nat)) ∧ z.cell? ⟨g, 1, none⟩ = some (.int .i64 (y : Nat)))
        (first | exact HSC.out _ HZ1.out | exact HSC.out _ HZ2.out | exact HSC.out _ hz5 | exact HSC.out _ (bl_alloc hz5) | exact HSC.out _ hzA | fail)
        (first
          | (go_at_call 48; ((with_reducible refine (KR.out _ HZ1.out).mono ?_); rintro e w5 ⟨A5, c5, rfl, hm6, hb5⟩; have hz5 := bl_trans HZ1.out hb5; obtain ⟨y6, hr6, hy6⟩ := hm6.rd))
          | (go_at_call 48; ((with_reducible refine (KR.out _ HZ2.out).mono ?_); rintro e w5 ⟨A5, c5, rfl, hm6, hb5⟩; have hz5 := bl_trans HZ2.out hb5; have hO5 := HO2.out.keepB hb5 HL2.out; obtain ⟨y6, hr6, hy6⟩ := hm6.rd))
          | ((refine step_appendV _ (by rfl) _ _ (by rfl) (by rfl) hO5 (by rfl) hr6 hy6 hz5.size (by omega) (by omega) ?_); intro A7 c7 wA hOA hbA; have hzA := hz5.trans hbA; have HM7 : Hid (MR wA A7 (1 + N2) c7) := MR.of hOA (Nat.le_refl _) (fun j => thenV_one rfl hy6 j))
          | ((refine step_appendV _ (by rfl) _ _ (by rfl) (by rfl) (one_slice w5 g cap) (by rfl) (hr6.keep ((Below.refl _ _).alloc (Nat.le_refl _) _) (Nat.le_refl _)) hy6 (by simp) (by omega) (by omega) ?_); intro A7 c7 wA hOA hbA; have hzA := (bl_alloc hz5).trans (hbA.mono hz5.size); have HM7 : Hid (MR wA A7 (1 + N2) c7) := MR.of hOA (Nat.le_refl _) (fun j => thenV_one rfl hy6 j))
          | fail)
      all_goals
        have HBz : Hid (Below w.heap.size w wA) := HB2.out.trans (hzA.mono HB2.out.size)
        clear hOA hbA hzA hz5 hb5 hr6 hy6 hm6 HSC HZ1 HZ2 HO2 HL2 KR q0 d0 d1 E1 E2 s1 s2 s3
        (try clear hO5)
        go_wp2_with fail
        refine (KI1.out _ HBz.out).mono ?_
        rintro e w6 ⟨A8, c8, rfl, hm8, hb8⟩
        have HM8 := Lib.hid hm8
        have HM7z := Lib.hid (HM7.out.keep hb8)
        have HB8 : Hid (Below w.heap.size w w6) := HBz.out.trans (hb8.mono HBz.out.size)
        clear hm8 hb8 KI1 HM7
        go_wp2
        go_ret
        exact ⟨_, _, by rw [HS.out]; rfl, by rw [HS.out]; exact HM8.out, HB8.out⟩
set_option maxRecDepth 100000 in
theorem MatchingOf_sv {A : Option Addr} {m c : Nat} {r : Nat → Nat} {w : World} (h : GV w A m c r) :
    Calls Tryz.prog 17 #[.agg #[.int .i64 m, .slice A m c]] w fun e w' => ∃ A' c', e = .returned (.slice A' (maL (edN r m) 0).length c') ∧ Below w.heap.size w w' := by
  have hm7 := h.vg.n7
  have hE21 : (edN r m).length ≤ 21 := edN_len hm7
  have HEM : Hid (∀ p ∈ edN r m, p.1 < 7 ∧ p.2 < 7) := fun p hp => by have := mem_edN.1 hp; omega
  have KE : Hid (∀ z : World, GV z A m c r → Calls Tryz.prog 49 #[.agg #[.int .i64 m, .slice A m c]] z fun e w' => ∃ A' c', e = .returned (.slice A' (edN r m).length c') ∧ OC z.heap.size w'.heap.size w' A' c' (edN r m) ∧ Below z.heap.size z w') := fun z hz => EdgesOf_sv hz
  obtain ⟨E, hE⟩ : ∃ E, E = edN r m := ⟨_, rfl⟩
  rw [← hE] at hE21 HEM KE ⊢
  have KM : Hid (∀ (z : World) (A5 : Option Addr) (c5 : Nat), RPr z A5 c5 E → Calls Tryz.prog 48 #[.slice A5 E.length c5, .int .i64 0, .int .i64 0] z fun e w' => ∃ A' c', e = .returned (.slice A' (maL E 0).length c') ∧ MR w' A' (maL E 0).length c' ∧ Below z.heap.size z w') := fun z A5 c5 hz => l20Match_v rfl hE21 HEM.out E 0 0 z (by simp) (by simp) (by omega) hz
  clear hE
  obtain ⟨W, hW⟩ : ∃ W : World, W = (w.alloc (Obj.cells #[Value.int IntKind.i64 m, Value.slice A m c] 27)) := ⟨_, rfl⟩
  have HB : Hid (From w W) := by rw [hW]; exact From.alloc _ _
  have HG : Hid (GBox W w.heap.size A m c r) := by rw [hW]; exact h.box
  have HW := Lib.hid hW
  clear hW h
  have e0 := HG.out.c0
  have e1 := HG.out.c1
  go_enter Tryz.func17, Tryz.ntmps17
  go_wp2_with fail
  rw [← HW.out]
  refine (KE.out _ HG.out.gv).mono ?_
  rintro e w1 ⟨A5, c5, rfl, ho5, hb1⟩
  clear HW
  clear e0 e1
  replace HB := Lib.hid (HB.out.keep hb1)
  replace HG := Lib.hid (HG.out.keep hb1)
  clear hb1
  have e0 := HG.out.c0
  have e1 := HG.out.c1
  have HRE := Lib.hid ho5.re
  clear ho5 KE
  clear e0 e1
  go_wp2_with fail
  refine (KM.out _ _ _ HRE.out).mono ?_
  rintro e w2 ⟨A6, c6, rfl, hm6, hb2⟩
  replace HB := Lib.hid (HB.out.keep hb2)
  clear hb2
  clear hm6 KM
  go_wp2
  go_ret
  exact ⟨_, _, rfl, HB.out.below⟩
end Go.Proofs.YtjonhbmgmamchaaGreatDoor
