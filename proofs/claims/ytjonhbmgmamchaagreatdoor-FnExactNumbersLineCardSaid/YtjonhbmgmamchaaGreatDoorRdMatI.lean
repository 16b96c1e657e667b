/-
  Contracts: a matching with most edges (the program's).
-/
import Derived.Test.YtjonhbmgmamchaaGreatDoorRdMatM
namespace Go.Proofs.YtjonhbmgmamchaaGreatDoor
open Go.RowKit

set_option maxRecDepth 100000 in
set_option maxHeartbeats 6400000 in
theorem matched_v : ∀ (es : List (Nat × Nat)) (u n : Nat) (A : Option Addr) (c : Nat) (w : World), es.length = n → n ≤ 21 → (∀ p ∈ es, p.1 < 7 ∧ p.2 < 7) → u < 128 → RPr w A c es →
    Calls Tryz.prog 65 #[.slice A n c, .int .i64 (u : Nat)] w fun e w' => ∃ A' c', e = .returned (.slice A' (maL es u).length c') ∧ MR w' A' (maL es u).length c' ∧ Below w.heap.size w w' := by
  intro es
  induction es with
  | nil =>
    intro u n A c w hn hn21 hlt hu h
    obtain rfl : n = 0 := by simpa using hn.symm
    have HB : Hid (Below w.heap.size w (w.alloc (Obj.cells #[] 22))) := (Below.refl _ _).alloc (Nat.le_refl _) _
    have HS : Hid (maL [] u = []) := rfl
    clear hn hlt h
    go_enter Tryz.func65, Tryz.ntmps65
    go_wp2
    go_ret
    rw [HS.out]
    exact ⟨_, _, rfl, MR.nil _ _ _, HB.out⟩
  | cons p es ih =>
    intro u n A c w hn hn21 hlt hu h
    obtain ⟨k, rfl⟩ : ∃ k, n = k + 1 := ⟨es.length, by simpa using hn.symm⟩
    have hk : es.length = k := by simpa using hn
    have hp := hlt p (by simp)
    have hes : ∀ q ∈ es, q.1 < 7 ∧ q.2 < 7 := fun q hq => hlt q (by simp [hq])
    have IH := Lib.hid ih
    have HRE := Lib.hid h
    obtain ⟨b, o, rfl⟩ := h.addr (by simp)
    obtain ⟨g, cap, q0, hac⟩ := h.at (k := 0) (by simp)
    rw [Nat.add_zero] at q0
    have d0 := hac.c0
    have d1 := hac.c1
    have hcap := hac.le
    simp only [List.getElem_cons_zero] at d0 d1
    have hcl : k + 1 ≤ c := by have := h.le; simp only [List.length_cons, hk] at this; exact this
    obtain ⟨A1, hA1⟩ : ∃ A1 : Option Addr, A1 = if c = 1 then some ⟨b, o, none⟩ else some ⟨b, o + 1, none⟩ := ⟨_, rfl⟩
    have KI : Hid (∀ (v : Nat) (z : World), v < 128 → Below w.heap.size w z → Calls Tryz.prog 65 #[.slice A1 k (c - 1), .int .i64 (v : Nat)] z fun e w' => ∃ A' c', e = .returned (.slice A' (maL es v).length c') ∧ MR w' A' (maL es v).length c' ∧ Below z.heap.size z w') := fun v z hv hz => IH.out v k A1 (c - 1) z hk (by omega) hes hv ((HRE.out.keep hz).tail A1 (fun h0 => by rw [hA1, if_neg (by omega)]))
    have hA1' : (if c = 1 then some (⟨b, o, none⟩ : Addr) else some ⟨b, o + 1, none⟩) = A1 := hA1.symm
    have h0 : ((k : Int) + 1 == 0) = false := by simp; omega
    have HAC : Hid (AC w g cap p) := hac
    obtain ⟨x, hx⟩ : ∃ x, x = p.1 := ⟨_, rfl⟩
    obtain ⟨y, hy⟩ : ∃ y, y = p.2 := ⟨_, rfl⟩
    have hx7 : x < 7 := by omega
    have hy7 : y < 7 := by omega
    obtain ⟨b1, hb1⟩ : ∃ b1, b1 = u.testBit x := ⟨_, rfl⟩
    obtain ⟨b2, hb2⟩ : ∃ b2, b2 = u.testBit y := ⟨_, rfl⟩
    have KH1 : Hid (∀ z : World, Calls Tryz.prog 58 #[.int .i64 (u : Int), .int .i64 (x : Int)] z fun e w' => e = .returned (.bool b1) ∧ z = w') := fun z => by rw [hb1]; exact has_v z hu (by omega)
    have KH2 : Hid (∀ z : World, Calls Tryz.prog 58 #[.int .i64 (u : Int), .int .i64 (y : Int)] z fun e w' => e = .returned (.bool b2) ∧ z = w') := fun z => by rw [hb2]; exact has_v z hu (by omega)
    have HMB : Hid (maB u p = (b1 || b2)) := by show (u.testBit p.1 || u.testBit p.2) = _; rw [hb1, hb2, hx, hy]
    obtain ⟨u1, hu1⟩ : ∃ u1, u1 = u ||| 2 ^ x := ⟨_, rfl⟩
    obtain ⟨u2, hu2⟩ : ∃ u2, u2 = u1 ||| 2 ^ y := ⟨_, rfl⟩
    have h2x := two_pow_le (n := x) (by omega)
    have h2y := two_pow_le (n := y) (by omega)
    have h3x : 2 ^ x < 2 ^ 7 := Nat.pow_lt_pow_right (by omega) hx7
    have h3y : 2 ^ y < 2 ^ 7 := Nat.pow_lt_pow_right (by omega) hy7
    have hu1l : u1 < 128 := by rw [hu1]; exact Nat.or_lt_two_pow (n := 7) hu h3x
    have hu2l : u2 < 128 := by rw [hu2]; exact Nat.or_lt_two_pow (n := 7) hu1l h3y
    have E1 : bits .or .i64 (u : Int) (2 ^ x) = (u1 : Int) := by
      have := i64_or_nat u (2 ^ x) (by omega) (by omega)
      rw [hu1, ← this]; simp
    have E2 : bits .or .i64 (u1 : Int) (2 ^ y) = (u2 : Int) := by
      have := i64_or_nat u1 (2 ^ y) (by omega) (by omega)
      rw [hu2, ← this]; simp
    have s1 := pow_shl x (by omega)
    have s2 := pow_shl y (by omega)
    obtain ⟨N1, hN1⟩ : ∃ N1, N1 = (maL es u).length := ⟨_, rfl⟩
    obtain ⟨N2, hN2⟩ : ∃ N2, N2 = (maL es u2).length := ⟨_, rfl⟩
    have HHit : Hid (maB u p = true → (maL (p :: es) u).length = N1) := fun h => by rw [maL_hit h, hN1]
    have HWith : Hid (maB u p = false → N1 ≤ N2 + 1 → (maL (p :: es) u).length = 1 + N2) := fun h h2 => by
      rw [maL_with h (by rw [← hx, ← hy, ← hu1, ← hu2, ← hN1, ← hN2]; exact h2), ← hx, ← hy, ← hu1, ← hu2, List.length_cons, ← hN2]; omega
    have HRest : Hid (maB u p = false → ¬ N1 ≤ N2 + 1 → (maL (p :: es) u).length = N1) := fun h h2 => by
      rw [maL_rest h (by rw [← hx, ← hy, ← hu1, ← hu2, ← hN1, ← hN2]; exact h2), ← hN1]
    have hN1l : N1 ≤ 21 := by rw [hN1]; exact Nat.le_trans maL_len (by omega)
    have hN2l : N2 ≤ 21 := by rw [hN2]; exact Nat.le_trans maL_len (by omega)
    have KI1 := Lib.hid (KI.out u w hu (Below.refl _ _))
    rw [← hN1] at KI1
    have KR0 : Hid (∀ z : World, Below w.heap.size w z → Calls Tryz.prog 65 #[.slice A1 k (c - 1), .int .i64 (u2 : Nat)] z fun e w' => ∃ A' c', e = .returned (.slice A' N2 c') ∧ MR w' A' N2 c' ∧ Below z.heap.size z w') := fun z hz => by rw [hN2]; exact KI.out u2 z hu2l hz
    rw [← hx] at d0
    rw [← hy] at d1
    obtain ⟨T, hT⟩ : ∃ T, T = (maL (p :: es) u).length := ⟨_, rfl⟩
    rw [← hT] at HHit HWith HRest ⊢
    have HCx : Hid (CL w g 0 (.int .i64 (x : Nat))) := ⟨d0⟩
    have HCy : Hid (CL w g 1 (.int .i64 (y : Nat))) := ⟨d1⟩
    have HE1 := Lib.hid E1
    have HE2 := Lib.hid E2
    have HA1 := Lib.hid hA1'
    clear hn hlt h ih hac hA1 hes hk hx hy hb1 hb2 hu1 hu2 h2x h2y h3x h3y hN1 hN2 hT d0 d1 hp KI
    go_enter Tryz.func65, Tryz.ntmps65
    go_wp2_with fail
    clear q0 hA1' h0 E1 E2 s1 s2
    refine KI1.out.mono ?_
    rintro e w1 ⟨A5, c5, rfl, hm5, hb1⟩
    have HM5 := Lib.hid hm5
    have HB1 := Lib.hid hb1
    have KR : Hid (∀ z : World, Below w1.heap.size w1 z → Calls Tryz.prog 65 #[.slice A1 k (c - 1), .int .i64 (u2 : Nat)] z fun e w' => ∃ A' c', e = .returned (.slice A' N2 c') ∧ MR w' A' N2 c' ∧ Below z.heap.size z w') := fun z hz => KR0.out z (hb1.trans (hz.mono hb1.size))
    replace HCx := Lib.hid (HCx.out.keep hb1)
    replace HCy := Lib.hid (HCy.out.keep hb1)
    have d0 := HCx.out.c
    have d1 := HCy.out.c
    clear hm5 hb1 KI1 KR0
    go_wp2_with fail
    refine (KH1.out _).mono ?_
    rintro e w' ⟨rfl, rfl⟩
    cases b1
    case' true =>
      have HS : Hid (T = N1) := HHit.out (by rw [HMB.out]; rfl)
      go_wp2
      go_ret
      exact ⟨_, _, by rw [HS.out]; rfl, by rw [HS.out]; exact HM5.out, HB1.out⟩
    go_wp2_with fail
    refine (KH2.out _).mono ?_
    rintro e w' ⟨rfl, rfl⟩
    cases b2
    case' true =>
      have HS : Hid (T = N1) := HHit.out (by rw [HMB.out]; rfl)
      go_wp2
      go_ret
      exact ⟨_, _, by rw [HS.out]; rfl, by rw [HS.out]; exact HM5.out, HB1.out⟩
    have Hmb : Hid (maB u p = false) := by show _ = _; rw [HMB.out]; rfl
    have E1 : bits .or .i64 (u : Int) (2 ^ x) = (u1 : Int) := HE1.out
    have E2 : bits .or .i64 (u1 : Int) (2 ^ y) = (u2 : Int) := HE2.out
    have s1 := pow_shl x (by omega)
    have s2 := pow_shl y (by omega)
    have hA1' : (if c = 1 then some (⟨b, o, none⟩ : Addr) else some ⟨b, o + 1, none⟩) = A1 := HA1.out
    have j1 : (0 : Int) ≤ (k : Int) := by omega
    have j2 : (1 : Int) ≤ (k : Int) + 1 := by omega
    have j3 : (k : Int) + 1 ≤ (c : Int) := by omega
    have j4 : 1 ≤ k + 1 := by omega
    have j5 : k + 1 ≤ c := hcl
    by_cases hge : N1 ≤ N2 + 1
    · have HS : Hid (T = 1 + N2) := HWith.out Hmb.out hge
      have i4 : (N1 : Int) ≤ 1 + (N2 : Int) := by omega
      clear hge
      have HSC : Hid (∀ z : World, Below w1.heap.size w1 z → (Below w1.heap.size w1 z ∧ z.cell? ⟨g, 0, none⟩ = some (.int .i64 (x : Nat)) ∧ z.cell? ⟨g, 1, none⟩ = some (.int .i64 (y : Nat)))) := fun z hz => ⟨hz, up_ hz d0, up_ hz d1⟩
      have HZ1 : Hid (Below w1.heap.size w1 w1.drew) := (Below.refl _ _).drew
      have HZ2 : Hid (Below w1.heap.size w1 ((w1.alloc (Obj.cells #[.slice (some ⟨g, 0, none⟩) 2 cap] 22)).drew)) := ((Below.refl _ _).alloc (Nat.le_refl _) _).drew
      have HO2 : Hid (Own ((w1.alloc (Obj.cells #[.slice (some ⟨g, 0, none⟩) 2 cap] 22)).drew) w1.heap.size (w1.heap.size + 1) 22 1 (some ⟨w1.heap.size, 0, none⟩) 1 1 (fun _ => .slice (some ⟨g, 0, none⟩) 2 cap)) := (one_slice w1 g cap).drew
      have HL2 : Hid (w1.heap.size + 1 ≤ ((w1.alloc (Obj.cells #[.slice (some ⟨g, 0, none⟩) 2 cap] 22)).drew).heap.size) := by show _ ≤ (w1.alloc _).heap.size; simp
      go_wp2
      go_region_held3 (fun z => Below w1.heap.size w1 z ∧ z.cell? ⟨g, 0, none⟩ = some (.int .i64 (x : Nat)) ∧ z.cell? ⟨g, 1, none⟩ = some (.int .i64 (y : Nat)))
        (first | exact HSC.out _ HZ1.out | exact HSC.out _ HZ2.out | exact HSC.out _ hz5 | exact HSC.out _ (bl_alloc hz5) | exact HSC.out _ hzA | fail)
        (first
          | (go_at_call 65; ((with_reducible refine (KR.out _ HZ1.out).mono ?_); rintro e w5 ⟨A5, c5, rfl, hm6, hb5⟩; have hz5 := bl_trans HZ1.out hb5; obtain ⟨y6, hr6, hy6⟩ := hm6.rd))
          | (go_at_call 65; ((with_reducible refine (KR.out _ HZ2.out).mono ?_); rintro e w5 ⟨A5, c5, rfl, hm6, hb5⟩; have hz5 := bl_trans HZ2.out hb5; have hO5 := HO2.out.keepB hb5 HL2.out; obtain ⟨y6, hr6, hy6⟩ := hm6.rd))
          | ((refine step_appendV _ (by rfl) _ _ (by rfl) (by rfl) hO5 (by rfl) hr6 hy6 hz5.size (by omega) (by omega) ?_); intro A7 c7 wA hOA hbA; have hzA := hz5.trans hbA; have HM7 : Hid (MR wA A7 (1 + N2) c7) := MR.of hOA (Nat.le_refl _) (fun j => thenV_one rfl hy6 j))
          | ((refine step_appendV _ (by rfl) _ _ (by rfl) (by rfl) (one_slice w5 g cap) (by rfl) (hr6.keep ((Below.refl _ _).alloc (Nat.le_refl _) _) (Nat.le_refl _)) hy6 (by simp) (by omega) (by omega) ?_); intro A7 c7 wA hOA hbA; have hzA := (bl_alloc hz5).trans (hbA.mono hz5.size); have HM7 : Hid (MR wA A7 (1 + N2) c7) := MR.of hOA (Nat.le_refl _) (fun j => thenV_one rfl hy6 j))
          | fail)
      all_goals
        have HBz : Hid (Below w.heap.size w wA) := HB1.out.trans (hzA.mono HB1.out.size)
        have HM5z : Hid (MR wA _ _ _) := HM5.out.keep hzA
        clear hOA hbA hzA hz5 hb5 hr6 hy6 hm6 HSC HZ1 HZ2 HO2 HL2 KR
        (try clear hO5)
        go_wp2
        go_ret
        exact ⟨_, _, by rw [HS.out]; rfl, by rw [HS.out]; exact HM7.out, HBz.out⟩
    · have HS : Hid (T = N1) := HRest.out Hmb.out hge
      have i4 : 1 + (N2 : Int) < (N1 : Int) := by omega
      clear hge
      have HSC : Hid (∀ z : World, Below w1.heap.size w1 z → (Below w1.heap.size w1 z ∧ z.cell? ⟨g, 0, none⟩ = some (.int .i64 (x : Nat)) ∧ z.cell? ⟨g, 1, none⟩ = some (.int .i64 (y : Nat)))) := fun z hz => ⟨hz, up_ hz d0, up_ hz d1⟩
      have HZ1 : Hid (Below w1.heap.size w1 w1.drew) := (Below.refl _ _).drew
      have HZ2 : Hid (Below w1.heap.size w1 ((w1.alloc (Obj.cells #[.slice (some ⟨g, 0, none⟩) 2 cap] 22)).drew)) := ((Below.refl _ _).alloc (Nat.le_refl _) _).drew
      have HO2 : Hid (Own ((w1.alloc (Obj.cells #[.slice (some ⟨g, 0, none⟩) 2 cap] 22)).drew) w1.heap.size (w1.heap.size + 1) 22 1 (some ⟨w1.heap.size, 0, none⟩) 1 1 (fun _ => .slice (some ⟨g, 0, none⟩) 2 cap)) := (one_slice w1 g cap).drew
      have HL2 : Hid (w1.heap.size + 1 ≤ ((w1.alloc (Obj.cells #[.slice (some ⟨g, 0, none⟩) 2 cap] 22)).drew).heap.size) := by show _ ≤ (w1.alloc _).heap.size; simp
      go_wp2
      go_region_held3 (fun z => Below w1.heap.size w1 z ∧ z.cell? ⟨g, 0, none⟩ = some (.int .i64 (x : Nat)) ∧ z.cell? ⟨g, 1, none⟩ = some (.int .i64 (y : Nat)))
        (first | exact HSC.out _ HZ1.out | exact HSC.out _ HZ2.out | exact HSC.out _ hz5 | exact HSC.out _ (bl_alloc hz5) | exact HSC.out _ hzA | fail)
        (first
          | (go_at_call 65; ((with_reducible refine (KR.out _ HZ1.out).mono ?_); rintro e w5 ⟨A5, c5, rfl, hm6, hb5⟩; have hz5 := bl_trans HZ1.out hb5; obtain ⟨y6, hr6, hy6⟩ := hm6.rd))
          | (go_at_call 65; ((with_reducible refine (KR.out _ HZ2.out).mono ?_); rintro e w5 ⟨A5, c5, rfl, hm6, hb5⟩; have hz5 := bl_trans HZ2.out hb5; have hO5 := HO2.out.keepB hb5 HL2.out; obtain ⟨y6, hr6, hy6⟩ := hm6.rd))
          | ((refine step_appendV _ (by rfl) _ _ (by rfl) (by rfl) hO5 (by rfl) hr6 hy6 hz5.size (by omega) (by omega) ?_); intro A7 c7 wA hOA hbA; have hzA := hz5.trans hbA; have HM7 : Hid (MR wA A7 (1 + N2) c7) := MR.of hOA (Nat.le_refl _) (fun j => thenV_one rfl hy6 j))
          | ((refine step_appendV _ (by rfl) _ _ (by rfl) (by rfl) (one_slice w5 g cap) (by rfl) (hr6.keep ((Below.refl _ _).alloc (Nat.le_refl _) _) (Nat.le_refl _)) hy6 (by simp) (by omega) (by omega) ?_); intro A7 c7 wA hOA hbA; have hzA := (bl_alloc hz5).trans (hbA.mono hz5.size); have HM7 : Hid (MR wA A7 (1 + N2) c7) := MR.of hOA (Nat.le_refl _) (fun j => thenV_one rfl hy6 j))
          | fail)
      all_goals
        have HBz : Hid (Below w.heap.size w wA) := HB1.out.trans (hzA.mono HB1.out.size)
        have HM5z : Hid (MR wA _ _ _) := HM5.out.keep hzA
        clear hOA hbA hzA hz5 hb5 hr6 hy6 hm6 HSC HZ1 HZ2 HO2 HL2 KR
        (try clear hO5)
        go_wp2
        go_ret
        exact ⟨_, _, by rw [HS.out]; rfl, by rw [HS.out]; exact HM5z.out, HBz.out⟩
set_option maxRecDepth 100000 in
theorem MatchingOf_v {A : Option Addr} {m c : Nat} {r : Nat → Nat} {w : World} (h : GV w A m c r) :
    Calls Tryz.prog 32 #[.agg #[.int .i64 m, .slice A m c]] w fun e w' => ∃ A' c', e = .returned (.slice A' (maL (edN r m) 0).length c') ∧ Below w.heap.size w w' := by
  have hm7 := h.vg.n7
  have hE21 : (edN r m).length ≤ 21 := edN_len hm7
  have HEM : Hid (∀ p ∈ edN r m, p.1 < 7 ∧ p.2 < 7) := fun p hp => by have := mem_edN.1 hp; omega
  have KE : Hid (∀ z : World, GV z A m c r → Calls Tryz.prog 66 #[.agg #[.int .i64 m, .slice A m c]] z fun e w' => ∃ A' c', e = .returned (.slice A' (edN r m).length c') ∧ OC z.heap.size w'.heap.size w' A' c' (edN r m) ∧ Below z.heap.size z w') := fun z hz => EdgesOf_v hz
  obtain ⟨E, hE⟩ : ∃ E, E = edN r m := ⟨_, rfl⟩
  rw [← hE] at hE21 HEM KE ⊢
  have KM : Hid (∀ (z : World) (A5 : Option Addr) (c5 : Nat), RPr z A5 c5 E → Calls Tryz.prog 65 #[.slice A5 E.length c5, .int .i64 0] z fun e w' => ∃ A' c', e = .returned (.slice A' (maL E 0).length c') ∧ MR w' A' (maL E 0).length c' ∧ Below z.heap.size z w') := fun z A5 c5 hz => matched_v E 0 E.length A5 c5 z rfl hE21 HEM.out (by omega) hz
  clear hE
  obtain ⟨W, hW⟩ : ∃ W : World, W = (w.alloc (Obj.cells #[Value.int IntKind.i64 m, Value.slice A m c] 27)) := ⟨_, rfl⟩
  have HB : Hid (From w W) := by rw [hW]; exact From.alloc _ _
  have HG : Hid (GBox W w.heap.size A m c r) := by rw [hW]; exact h.box
  have HW := Lib.hid hW
  clear hW h
  have e0 := HG.out.c0
  have e1 := HG.out.c1
  go_enter Tryz.func32, Tryz.ntmps32
  go_wp2_with fail
  rw [← HW.out]
  refine (KE.out _ HG.out.gv).mono ?_
  rintro e w1 ⟨A5, c5, rfl, ho5, hb1⟩
  clear HW
  clear e0 e1
  replace HB := Lib.hid (HB.out.keep hb1)
  replace HG := Lib.hid (HG.out.keep hb1)
  clear hb1
  have e0 := HG.out.c0
  have e1 := HG.out.c1
  have HRE := Lib.hid ho5.re
  clear ho5 KE
  clear e0 e1
  go_wp2_with fail
  refine (KM.out _ _ _ HRE.out).mono ?_
  rintro e w2 ⟨A6, c6, rfl, hm6, hb2⟩
  replace HB := Lib.hid (HB.out.keep hb2)
  clear hb2
  clear hm6 KM
  go_wp2
  go_ret
  exact ⟨_, _, rfl, HB.out.below⟩
end Go.Proofs.YtjonhbmgmamchaaGreatDoor
