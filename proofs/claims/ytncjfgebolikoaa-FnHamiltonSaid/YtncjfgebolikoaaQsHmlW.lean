/-
  The law FnHamilton: what its text computes at some bytes.
-/
import Derived.Test.YtncjfgebolikoaaQsHmlZ
import Derived.Deep.CutRange
namespace Go.Proofs.Ytncjfgebolikoaa
open Go.RowKit
set_option maxRecDepth 100000 in
set_option maxHeartbeats 25600000 in
theorem fnHamilton_walk (A : Option Addr) (n c : Nat) (w : World) (h : BX w A n c) (hn : n ≤ maxLen) :
    Calls Try.prog 3 #[.slice A n c] w fun e w' => e = .returned (.bool true) ∧ Below w.heap.size w w' := by
  have HB : Hid (From w w) := From.refl w
  have HY := Lib.hid h
  clear h
  by_cases hbig : 1048576 < n
  · have eb := Lib.hid (decide_eq_true hbig)
    clear hbig
    go_enter Try.func3, Try.ntmps3
    go_wp2_with fail
    refine (big_s A n c w hn).mono ?_
    rintro e w0 ⟨rfl, rfl⟩
    rw [eb.out]
    go_wp2
    go_ret
    exact ⟨rfl, HB.out.below⟩
  have hn2 : n ≤ 1048576 := by omega
  have eb := Lib.hid (decide_eq_false hbig)
  clear hbig
  go_enter Try.func3, Try.ntmps3
  go_wp2_with fail
  refine (big_s A n c w hn).mono ?_
  rintro e w0 ⟨rfl, rfl⟩
  rw [eb.out]
  clear eb hn
  go_wp2_with fail
  refine (DrawHamiltonPath_s HY.out.b hn2).mono ?_
  rintro e v1 ⟨s1, B1, m1, d1, x1, rfl, hS⟩
  have hm1 := hS.h7
  have hga : GA v1 B1 m1 d1 x1 := ⟨hS.o1.rd⟩
  have hbv := hS.b
  replace HB := Lib.hid (HB.out.keep hbv)
  replace HY := Lib.hid (HY.out.keep hbv)
  clear hbv hS
  obtain ⟨U1, hW⟩ : ∃ U : World, U = v1.alloc (Obj.cells #[Value.int .i64 s1, .slice B1 m1 d1] 26) := ⟨_, rfl⟩
  have hbU : Below v1.heap.size v1 U1 := by rw [hW]; exact (Below.refl _ _).alloc (Nat.le_refl _) _
  have HG1 : Hid (GX U1 v1.heap.size s1 B1 m1 d1 x1) := by rw [hW]; exact GX.new hga
  have HW := Lib.hid hW
  replace HB := Lib.hid (HB.out.keep hbU)
  replace HY := Lib.hid (HY.out.keep hbU)
  clear hbU hW hga
  obtain ⟨is, circle, weak, pr, cn, L, D, set, cut, hL7, hD7, hP1, hP2, hP3, K1, K2, K3, K4, K5, K6, K7, K8, K9, K10, K11, K12, K13⟩ := ham_pack s1 m1 x1 hm1
  have HP1 := Lib.hid hP1
  have HP2 := Lib.hid hP2
  have HP3 := Lib.hid hP3
  replace K1 := Lib.hid K1
  replace K2 := Lib.hid K2
  replace K3 := Lib.hid K3
  replace K4 := Lib.hid K4
  replace K5 := Lib.hid K5
  replace K6 := Lib.hid K6
  replace K7 := Lib.hid K7
  replace K8 := Lib.hid K8
  replace K9 := Lib.hid K9
  replace K10 := Lib.hid K10
  replace K11 := Lib.hid K11
  replace K12 := Lib.hid K12
  replace K13 := Lib.hid K13
  clear hP1 hP2 hP3
  have a0 := HG1.out.c0
  have a1 := HG1.out.c1
  go_wp2_with fail
  rw [← HW.out]
  refine (K1.out _ _ _ HG1.out.a).mono ?_
  rintro e w1 ⟨A3, c3, rfl, hl3, hb1⟩
  clear HW
  clear a0 a1
  replace HB := Lib.hid (HB.out.keep hb1)
  replace HY := Lib.hid (HY.out.keep hb1)
  replace HG1 := Lib.hid (HG1.out.keep hb1)
  clear hb1
  have a0 := HG1.out.c0
  have a1 := HG1.out.c1
  have HL3 := Lib.hid hl3
  clear hl3
  go_wp2_with fail
  refine (K2.out _ _ _ HG1.out.a).mono ?_
  rintro e w2 ⟨A4, c4, rfl, hl4, hb2⟩
  clear a0 a1
  replace HB := Lib.hid (HB.out.keep hb2)
  replace HY := Lib.hid (HY.out.keep hb2)
  replace HG1 := Lib.hid (HG1.out.keep hb2)
  replace HL3 := Lib.hid (HL3.out.keep hb2)
  clear hb2
  have a0 := HG1.out.c0
  have a1 := HG1.out.c1
  have HL4 := Lib.hid hl4
  clear hl4
  go_wp2_with fail
  refine (K3.out _ _ _ HG1.out.a).mono ?_
  rintro e w3 ⟨A5, c5, rfl, hl5, hb3⟩
  clear a0 a1
  replace HB := Lib.hid (HB.out.keep hb3)
  replace HY := Lib.hid (HY.out.keep hb3)
  replace HG1 := Lib.hid (HG1.out.keep hb3)
  replace HL3 := Lib.hid (HL3.out.keep hb3)
  replace HL4 := Lib.hid (HL4.out.keep hb3)
  clear hb3
  have a0 := HG1.out.c0
  have a1 := HG1.out.c1
  have HL5 := Lib.hid hl5
  clear hl5
  go_wp2_with fail
  refine (K4.out _ _ _ HG1.out.a).mono ?_
  rintro e w4 ⟨A6, c6, rfl, hl6, hb4⟩
  clear a0 a1
  replace HB := Lib.hid (HB.out.keep hb4)
  replace HY := Lib.hid (HY.out.keep hb4)
  replace HG1 := Lib.hid (HG1.out.keep hb4)
  replace HL3 := Lib.hid (HL3.out.keep hb4)
  replace HL4 := Lib.hid (HL4.out.keep hb4)
  replace HL5 := Lib.hid (HL5.out.keep hb4)
  clear hb4
  have a0 := HG1.out.c0
  have a1 := HG1.out.c1
  have HL6 := Lib.hid hl6
  clear hl6
  go_wp2_with fail
  refine (K5.out _ _ _ HG1.out.a).mono ?_
  rintro e w5 ⟨rfl, hb5⟩
  clear a0 a1
  replace HB := Lib.hid (HB.out.keep hb5)
  replace HY := Lib.hid (HY.out.keep hb5)
  replace HG1 := Lib.hid (HG1.out.keep hb5)
  replace HL3 := Lib.hid (HL3.out.keep hb5)
  replace HL4 := Lib.hid (HL4.out.keep hb5)
  replace HL5 := Lib.hid (HL5.out.keep hb5)
  replace HL6 := Lib.hid (HL6.out.keep hb5)
  clear hb5
  have a0 := HG1.out.c0
  have a1 := HG1.out.c1
  go_wp2_with fail
  refine (K6.out _ _ _ HG1.out.a).mono ?_
  rintro e w6 ⟨rfl, hb6⟩
  clear a0 a1
  replace HB := Lib.hid (HB.out.keep hb6)
  replace HY := Lib.hid (HY.out.keep hb6)
  replace HG1 := Lib.hid (HG1.out.keep hb6)
  replace HL3 := Lib.hid (HL3.out.keep hb6)
  replace HL4 := Lib.hid (HL4.out.keep hb6)
  replace HL5 := Lib.hid (HL5.out.keep hb6)
  replace HL6 := Lib.hid (HL6.out.keep hb6)
  clear hb6
  have a0 := HG1.out.c0
  have a1 := HG1.out.c1
  clear K1 K2 K3 K4 K5 K6
  have KS1 : Hid (∀ W : World, LN W A3 c3 L → LN W A4 c4 L → Calls Try.prog 12 #[.slice A3 L.length c3, .slice A4 L.length c4] W fun e w' => e = .returned (.bool true) ∧ Below W.heap.size W w') := fun W h1 h2 => same_ints h1 h2 hL7
  have KS2 : Hid (∀ W : World, LN W A5 c5 D → LN W A6 c6 D → Calls Try.prog 12 #[.slice A5 D.length c5, .slice A6 D.length c6] W fun e w' => e = .returned (.bool true) ∧ Below W.heap.size W w') := fun W h1 h2 => same_ints h1 h2 hD7
  go_upto_region 10 with fail
  go_cut [140] from 24 (fun cc wx => cc = .bool false ∧ Hid (From w0 wx) ∧ Hid (BX wx A n c) ∧ Hid (GX wx v1.heap.size s1 B1 m1 d1 x1))
  case first =>
    rename_i J0 K0 hJ hM
    cases is
    · cases circle
      · refine wp_mono (ham_none_ HB HY HG1 HL3 HL4 HL5 HL6 hL7 hD7) ?_
        intro e ax wx hx
        cases e
        case normal => exact hM _ _ (Met.intro (hJ _ _ hx))
        all_goals exact False.elim hx
      · exact absurd (HP2.out rfl).2.2.1 (by simp)
    · have K7' := K7.out rfl
      have q1 := HP1.out rfl
      cases circle
      · refine wp_mono (ham_path_ HB HY HG1 HL3 HL4 HL5 HL6 hL7 hD7 q1 K7') ?_
        intro e ax wx hx
        cases e
        case normal => exact hM _ _ (Met.intro (hJ _ _ hx))
        all_goals exact False.elim hx
      · obtain ⟨hs1, hd1, _, hwk⟩ := HP2.out rfl
        subst hwk
        refine wp_mono (ham_circle_ HB HY HG1 HL3 HL4 HL5 HL6 hL7 hD7 q1 hs1 hd1 K7' (K8.out rfl) (K9.out rfl)) ?_
        intro e ax wx hx
        cases e
        case normal => exact hM _ _ (Met.intro (hJ _ _ hx))
        all_goals exact False.elim hx
  case rest =>
  clear HB HY HG1 HL3 HL4 HL5 HL6 HP1 HP2 K7 K8 K9 KS1 KS2 a0 a1
  obtain ⟨rfl, HB, HY, HG1⟩ := hcut
  obtain ⟨z0, hz0⟩ : ∃ z : World, z = wc := ⟨_, rfl⟩
  rw [← hz0] at HB HY HG1 ⊢
  clear hz0
  have a0 := HG1.out.c0
  have a1 := HG1.out.c1
  go_wp2_with fail
  refine (K10.out _ _ _ HG1.out.a).mono ?_
  rintro e w7 ⟨rfl, hb7⟩
  clear a0 a1
  replace HB := Lib.hid (HB.out.keep hb7)
  replace HY := Lib.hid (HY.out.keep hb7)
  replace HG1 := Lib.hid (HG1.out.keep hb7)
  clear hb7
  have a0 := HG1.out.c0
  have a1 := HG1.out.c1
  clear K10
  go_upto_region 13 with fail
  go_cut [171] from 24 (fun cc wx => cc = .bool false ∧ Hid (From w0 wx) ∧ Hid (BX wx A n c))
  case first =>
    go_wp2_with fail
    refine (K11.out _ _ _ HG1.out.a).mono ?_
    rintro e w8 ⟨rfl, hb8⟩
    clear a0 a1
    replace HB := Lib.hid (HB.out.keep hb8)
    replace HY := Lib.hid (HY.out.keep hb8)
    replace HG1 := Lib.hid (HG1.out.keep hb8)
    clear hb8
    have a0 := HG1.out.c0
    have a1 := HG1.out.c1
    go_wp2_with fail
    refine (K12.out _ _ _ HG1.out.a).mono ?_
    rintro e w9 ⟨rfl, hb9⟩
    clear a0 a1
    replace HB := Lib.hid (HB.out.keep hb9)
    replace HY := Lib.hid (HY.out.keep hb9)
    replace HG1 := Lib.hid (HG1.out.keep hb9)
    clear hb9
    have a0 := HG1.out.c0
    have a1 := HG1.out.c1
    cases pr
    · go_wp2_with fail
      go_meet
      exact ⟨rfl, HB, HY⟩
    · go_wp2_with fail
      refine (K13.out _ _ _ HG1.out.a).mono ?_
      rintro e w10 ⟨rfl, hb10⟩
      clear a0 a1
      replace HB := Lib.hid (HB.out.keep hb10)
      replace HY := Lib.hid (HY.out.keep hb10)
      replace HG1 := Lib.hid (HG1.out.keep hb10)
      clear hb10
      have a0 := HG1.out.c0
      have a1 := HG1.out.c1
      cases cn
      · go_wp2_with fail
        go_meet
        exact ⟨rfl, HB, HY⟩
      · obtain ⟨rfl, h3⟩ := HP3.out (by first | rfl | trivial) (by first | rfl | trivial)
        by_cases h31 : 3 ≤ s1
        · by_cases h0 : cut = 0
          · obtain rfl := h3 h31 h0
            have j0 : (cut == 0) = true := by simp; omega
            clear h3 h0
            go_wp2_with fail
            go_meet
            exact ⟨rfl, HB, HY⟩
          · have j0 : (cut == 0) = false := by simp; omega
            clear h3
            go_wp2_with fail
            go_meet
            exact ⟨rfl, HB, HY⟩
        · have j0 : s1 < 3 := by omega
          clear h3
          go_wp2_with fail
          go_meet
          exact ⟨rfl, HB, HY⟩
  case rest =>
  clear HB HY HG1 HP3 K11 K12 K13 a0 a1
  obtain ⟨rfl, HB, HY⟩ := hcut
  obtain ⟨z2, hz2⟩ : ∃ z : World, z = wc := ⟨_, rfl⟩
  rw [← hz2] at HB HY ⊢
  clear hz2
  go_wp2_with fail
  refine (DrawCountHamiltonPaths_s HY.out.b hn2).mono ?_
  rintro e v2 ⟨s3, B3, m3, d3, x3, rfl, hS⟩
  have hm3 := hS.h7
  have hga : GA v2 B3 m3 d3 x3 := ⟨hS.o1.rd⟩
  have hbv := hS.b
  replace HB := Lib.hid (HB.out.keep hbv)
  replace HY := Lib.hid (HY.out.keep hbv)
  clear hbv hS
  obtain ⟨U3, hW⟩ : ∃ U : World, U = v2.alloc (Obj.cells #[Value.int .i64 s3, .slice B3 m3 d3] 26) := ⟨_, rfl⟩
  have hbU : Below v2.heap.size v2 U3 := by rw [hW]; exact (Below.refl _ _).alloc (Nat.le_refl _) _
  have HA : Hid (GX U3 v2.heap.size s3 B3 m3 d3 x3) := by rw [hW]; exact GX.new hga
  have HW := Lib.hid hW
  replace HB := Lib.hid (HB.out.keep hbU)
  replace HY := Lib.hid (HY.out.keep hbU)
  clear hbU hW hga
  obtain ⟨N, Lp, hLp, hN2, hNb, Q1, Q2, Q3⟩ := cnt_pack s3 m3 x3 hm3
  have HN2 := Lib.hid hN2
  obtain ⟨pb, hpb⟩ : ∃ b, b = decide (0 < N) := ⟨_, rfl⟩
  rw [← hpb] at Q3
  have HPB := Lib.hid hpb
  replace Q1 := Lib.hid Q1
  replace Q2 := Lib.hid Q2
  replace Q3 := Lib.hid Q3
  clear hN2 hpb
  have a0 := HA.out.c0
  have a1 := HA.out.c1
  go_wp2_with fail
  rw [← HW.out]
  refine (Q1.out _ _ _ HA.out.a).mono ?_
  rintro e w11 ⟨rfl, hb11⟩
  clear HW
  clear a0 a1
  replace HB := Lib.hid (HB.out.keep hb11)
  replace HY := Lib.hid (HY.out.keep hb11)
  replace HA := Lib.hid (HA.out.keep hb11)
  clear hb11
  have a0 := HA.out.c0
  have a1 := HA.out.c1
  go_wp2_with fail
  refine (Q3.out _ _ _ HA.out.a).mono ?_
  rintro e w12 ⟨A7, c7, rfl, hl7, hb12⟩
  clear a0 a1
  replace HB := Lib.hid (HB.out.keep hb12)
  replace HY := Lib.hid (HY.out.keep hb12)
  replace HA := Lib.hid (HA.out.keep hb12)
  clear hb12
  have a0 := HA.out.c0
  have a1 := HA.out.c1
  clear hl7 Q1 Q3 a0 a1
  go_wp2_with fail
  refine (DrawIsWay_s HY.out.b hn2).mono ?_
  rintro e va ⟨s4, B4, m4, d4, x4, A5, n5, c5, l5, rfl, hS, hn5, hl5⟩
  have hm4 := hS.h7
  have hga : GA va B4 m4 d4 x4 := ⟨hS.o1.rd⟩
  have hbv := hS.b
  have HL5 := Lib.hid hl5
  replace HB := Lib.hid (HB.out.keep hbv)
  replace HY := Lib.hid (HY.out.keep hbv)
  replace HA := Lib.hid (HA.out.keep hbv)
  clear hbv hS hl5
  obtain ⟨Ua, hW⟩ : ∃ U : World, U = va.alloc (Obj.cells #[Value.int .i64 s4, .slice B4 m4 d4] 26) := ⟨_, rfl⟩
  have hbU : Below va.heap.size va Ua := by rw [hW]; exact (Below.refl _ _).alloc (Nat.le_refl _) _
  have HG4 : Hid (GX Ua va.heap.size s4 B4 m4 d4 x4) := by rw [hW]; exact GX.new hga
  have HW := Lib.hid hW
  replace HB := Lib.hid (HB.out.keep hbU)
  replace HY := Lib.hid (HY.out.keep hbU)
  replace HA := Lib.hid (HA.out.keep hbU)
  replace HL5 := Lib.hid (HL5.out.keep hbU)
  clear hbU hW hga
  go_wp2_with fail
  rw [← HW.out]
  clear HW
  refine (DrawCutVertices_s HY.out.b hn2).mono ?_
  rintro e vb ⟨s6, B6, m6, d6, x6, rfl, hS⟩
  have hm6 := hS.h7
  have hga : GA vb B6 m6 d6 x6 := ⟨hS.o1.rd⟩
  have hbv := hS.b
  replace HB := Lib.hid (HB.out.keep hbv)
  replace HY := Lib.hid (HY.out.keep hbv)
  replace HA := Lib.hid (HA.out.keep hbv)
  replace HL5 := Lib.hid (HL5.out.keep hbv)
  replace HG4 := Lib.hid (HG4.out.keep hbv)
  clear hbv hS
  obtain ⟨Ub, hW⟩ : ∃ U : World, U = vb.alloc (Obj.cells #[Value.int .i64 s6, .slice B6 m6 d6] 26) := ⟨_, rfl⟩
  have hbU : Below vb.heap.size vb Ub := by rw [hW]; exact (Below.refl _ _).alloc (Nat.le_refl _) _
  have HG6 : Hid (GX Ub vb.heap.size s6 B6 m6 d6 x6) := by rw [hW]; exact GX.new hga
  have HW := Lib.hid hW
  replace HB := Lib.hid (HB.out.keep hbU)
  replace HY := Lib.hid (HY.out.keep hbU)
  replace HA := Lib.hid (HA.out.keep hbU)
  replace HL5 := Lib.hid (HL5.out.keep hbU)
  replace HG4 := Lib.hid (HG4.out.keep hbU)
  clear hbU hW hga
  obtain ⟨wb, hwb⟩ : ∃ b, b = wyB s4 m4 x4 l5 := ⟨_, rfl⟩
  obtain ⟨cu, hcu⟩ : ∃ b, b = cvI s6 m6 x6 := ⟨_, rfl⟩
  have R1 : Hid (∀ W : World, GA W B4 m4 d4 x4 → LI W A5 n5 c5 l5 → Calls Try.prog 13 #[.agg #[.int .i64 s4, .slice B4 m4 d4], .slice A5 n5 c5] W fun e w' => e = .returned (.bool wb) ∧ Below W.heap.size W w') := fun W h1 h2 => by rw [hwb]; exact IsWay_z s4 B4 m4 d4 x4 A5 n5 c5 l5 W h1 h2 (by omega) (by omega)
  have R2 : Hid (∀ W : World, GA W B4 m4 d4 x4 → LI W A5 n5 c5 l5 → Calls Try.prog 24 #[.agg #[.int .i64 s4, .slice B4 m4 d4], .slice A5 n5 c5] W fun e w' => e = .returned (.bool wb) ∧ Below W.heap.size W w') := fun W h1 h2 => by rw [hwb]; exact IsWay_sz s4 B4 m4 d4 x4 A5 n5 c5 l5 W h1 h2 (by omega) (by omega)
  have R3 : Hid (∀ W : World, GA W B6 m6 d6 x6 → Calls Try.prog 15 #[.agg #[.int .i64 s6, .slice B6 m6 d6]] W fun e w' => e = .returned (.int .i64 cu) ∧ Below W.heap.size W w') := fun W h1 => by rw [hcu]; exact CutVertices_i s6 B6 m6 d6 x6 W h1 (by omega)
  have R4 : Hid (∀ W : World, GA W B6 m6 d6 x6 → Calls Try.prog 16 #[.agg #[.int .i64 s6, .slice B6 m6 d6]] W fun e w' => e = .returned (.int .i64 cu) ∧ Below W.heap.size W w') := fun W h1 => by rw [hcu]; exact CutVertices_s s6 B6 m6 d6 x6 W h1 (by omega)
  clear hwb hcu
  have e0 := HA.out.c0
  have e1 := HA.out.c1
  have e2 := HG4.out.c0
  have e3 := HG4.out.c1
  have e4 := HG6.out.c0
  have e5 := HG6.out.c1
  have hpi : decide ((0 : Int) < (N : Int)) = pb := by rw [HPB.out, decide_eq_decide]; omega
  have hpn : decide (0 < N) = pb := HPB.out.symm
  go_wp2_with fail
  rw [← HW.out]
  clear HW
  by_cases h1 : s3 = 1
  · have g1 : (s3 == 1) = true := by simp; omega
    clear h1 HN2
    have HSC : Hid (∀ z : World, Below Ub.heap.size Ub z → (Below Ub.heap.size Ub z ∧ z.cell? ⟨v2.heap.size, 0, none⟩ = some (.int .i64 s3) ∧ z.cell? ⟨v2.heap.size, 1, none⟩ = some (.slice B3 m3 d3) ∧ z.cell? ⟨va.heap.size, 0, none⟩ = some (.int .i64 s4) ∧ z.cell? ⟨va.heap.size, 1, none⟩ = some (.slice B4 m4 d4) ∧ z.cell? ⟨vb.heap.size, 0, none⟩ = some (.int .i64 s6) ∧ z.cell? ⟨vb.heap.size, 1, none⟩ = some (.slice B6 m6 d6))) := fun z hz => ⟨hz, up_ hz e0, up_ hz e1, up_ hz e2, up_ hz e3, up_ hz e4, up_ hz e5⟩
    have HZ0 : Hid (Below Ub.heap.size Ub Ub.drew) := (Below.refl _ _).drew
    have HS1 := Lib.hid (HSC.out _ HZ0.out)
    have KR1 : Hid (∀ z : World, Below Ub.heap.size Ub z → _) := fun z hz => Q2.out z _ _ (HA.out.a.keep hz)
    have KR2 : Hid (∀ z : World, Below Ub.heap.size Ub z → _) := fun z hz => R1.out z (HG4.out.a.keep hz) (HL5.out.keep hz)
    have KR3 : Hid (∀ z : World, Below Ub.heap.size Ub z → _) := fun z hz => R2.out z (HG4.out.a.keep hz) (HL5.out.keep hz)
    have KR4 : Hid (∀ z : World, Below Ub.heap.size Ub z → _) := fun z hz => R3.out z (HG6.out.a.keep hz)
    have KR5 : Hid (∀ z : World, Below Ub.heap.size Ub z → _) := fun z hz => R4.out z (HG6.out.a.keep hz)
    refine wp_region_held_drew (S := fun z => Below Ub.heap.size Ub z ∧ z.cell? ⟨v2.heap.size, 0, none⟩ = some (.int .i64 s3) ∧ z.cell? ⟨v2.heap.size, 1, none⟩ = some (.slice B3 m3 d3) ∧ z.cell? ⟨va.heap.size, 0, none⟩ = some (.int .i64 s4) ∧ z.cell? ⟨va.heap.size, 1, none⟩ = some (.slice B4 m4 d4) ∧ z.cell? ⟨vb.heap.size, 0, none⟩ = some (.int .i64 s6) ∧ z.cell? ⟨vb.heap.size, 1, none⟩ = some (.slice B6 m6 d6)) (by kernel_rfl) HS1.out (fun hHeld => ?_)
    refine take_yes (i := 0) (d := 188) (v := ?v1) rfl rfl (by kernel_rfl) (by kernel_rfl) (by kernel_rfl) (fun _ _ _ h => h) (by rfl) ?y1 (by assumption) ?r1
    case y1 => (intro w hSw; (try dsimp only at hSw); go_simp <;> with_reducible rfl)
    simp only [Act.put, sl0, sl1, sl2]
    refine take_yes (i := 1) (d := 189) (v := ?v2) rfl rfl (by kernel_rfl) (by kernel_rfl) (by kernel_rfl) (fun _ _ _ h => h) (by rfl) ?y2 (by assumption) ?r2
    case y2 => (intro w hSw; (try dsimp only at hSw); go_simp <;> with_reducible rfl)
    simp only [Act.put, sl0, sl1, sl2]
    refine wpAnyH_ready (rs := [2]) (by kernel_rfl) (by simp) ?_
    refine AllReadyH.cons rfl (fun K hK => ?_) AllReadyH.nil
    go_simp
    go_at_call 23; refine (KR1.out _ HZ0.out).mono ?_
    rintro e w13 ⟨rfl, hb13⟩
    have hz13 := bl_trans HZ0.out hb13
    refine hK.out _ _ (HSC.out _ hz13) (fun hHeld => ?_)
    clear hK K
    try simp only [Act.put, sl0, sl1, sl2]
    refine take_yes (i := 3) (d := 191) (v := ?v3) rfl rfl (by kernel_rfl) (by kernel_rfl) (by kernel_rfl) (fun _ _ _ h => h) (by rfl) ?y3 (by assumption) ?r3
    case y3 => (intro w hSw; (try dsimp only at hSw); go_simp <;> with_reducible rfl)
    simp only [Act.put, sl0, sl1, sl2]
    refine take_yes (i := 4) (d := 192) (v := ?v4) rfl rfl (by kernel_rfl) (by kernel_rfl) (by kernel_rfl) (fun _ _ _ h => h) (by rfl) ?y4 (by assumption) ?r4
    case y4 => (intro w hSw; (try dsimp only at hSw); go_simp <;> with_reducible rfl)
    simp only [Act.put, sl0, sl1, sl2]
    refine take_yes (i := 5) (d := 193) (v := ?v5) rfl rfl (by kernel_rfl) (by kernel_rfl) (by kernel_rfl) (fun _ _ _ h => h) (by rfl) ?y5 (by assumption) ?r5
    case y5 => (intro w hSw; (try dsimp only at hSw); go_simp <;> with_reducible rfl)
    simp only [Act.put, sl0, sl1, sl2]
    refine take_yes (i := 6) (d := 194) (v := ?v6) rfl rfl (by kernel_rfl) (by kernel_rfl) (by kernel_rfl) (fun _ _ _ h => h) (by rfl) ?y6 (by assumption) ?r6
    case y6 => (intro w hSw; (try dsimp only at hSw); go_simp <;> with_reducible rfl)
    simp only [Act.put, sl0, sl1, sl2]
    refine take_yes (i := 7) (d := 195) (v := ?v7) rfl rfl (by kernel_rfl) (by kernel_rfl) (by kernel_rfl) (fun _ _ _ h => h) (by rfl) ?y7 (by assumption) ?r7
    case y7 => (intro w hSw; (try dsimp only at hSw); go_simp <;> with_reducible rfl)
    simp only [Act.put, sl0, sl1, sl2]
    refine take_yes (i := 8) (d := 196) (v := ?v8) rfl rfl (by kernel_rfl) (by kernel_rfl) (by kernel_rfl) (fun _ _ _ h => h) (by rfl) ?y8 (by assumption) ?r8
    case y8 => (intro w hSw; (try dsimp only at hSw); go_simp <;> with_reducible rfl)
    simp only [Act.put, sl0, sl1, sl2]
    refine take_yes (i := 9) (d := 197) (v := ?v9) rfl rfl (by kernel_rfl) (by kernel_rfl) (by kernel_rfl) (fun _ _ _ h => h) (by rfl) ?y9 (by assumption) ?r9
    case y9 => (intro w hSw; (try dsimp only at hSw); go_simp <;> with_reducible rfl)
    simp only [Act.put, sl0, sl1, sl2]
    refine take_yes (i := 10) (d := 198) (v := ?v10) rfl rfl (by kernel_rfl) (by kernel_rfl) (by kernel_rfl) (fun _ _ _ h => h) (by rfl) ?y10 (by assumption) ?r10
    case y10 => (intro w hSw; (try dsimp only at hSw); go_simp <;> with_reducible rfl)
    simp only [Act.put, sl0, sl1, sl2]
    refine take_yes (i := 11) (d := 199) (v := ?v11) rfl rfl (by kernel_rfl) (by kernel_rfl) (by kernel_rfl) (fun _ _ _ h => h) (by rfl) ?y11 (by assumption) ?r11
    case y11 => (intro w hSw; (try dsimp only at hSw); go_simp <;> with_reducible rfl)
    simp only [Act.put, sl0, sl1, sl2]
    refine take_yes (i := 12) (d := 200) (v := ?v12) rfl rfl (by kernel_rfl) (by kernel_rfl) (by kernel_rfl) (fun _ _ _ h => h) (by rfl) ?y12 (by assumption) ?r12
    case y12 => (intro w hSw; (try dsimp only at hSw); go_simp <;> with_reducible rfl)
    simp only [Act.put, sl0, sl1, sl2]
    refine take_yes (i := 13) (d := 201) (v := ?v13) rfl rfl (by kernel_rfl) (by kernel_rfl) (by kernel_rfl) (fun _ _ _ h => h) (by rfl) ?y13 (by assumption) ?r13
    case y13 => (intro w hSw; (try dsimp only at hSw); go_simp <;> with_reducible rfl)
    simp only [Act.put, sl0, sl1, sl2]
    refine take_yes (i := 14) (d := 202) (v := ?v14) rfl rfl (by kernel_rfl) (by kernel_rfl) (by kernel_rfl) (fun _ _ _ h => h) (by rfl) ?y14 (by assumption) ?r14
    case y14 => (intro w hSw; (try dsimp only at hSw); go_simp <;> with_reducible rfl)
    simp only [Act.put, sl0, sl1, sl2]
    refine take_no (i := 15) (d := 203) rfl rfl (by kernel_rfl) (by kernel_rfl) (by kernel_rfl) (fun _ _ _ h => h) (by rfl) (by assumption) ?_
    simp only [Act.put, sl0, sl1, sl2]
    refine take_no (i := 16) (d := 204) rfl rfl (by kernel_rfl) (by kernel_rfl) (by kernel_rfl) (fun _ _ _ h => h) (by rfl) (by assumption) ?_
    simp only [Act.put, sl0, sl1, sl2]
    refine take_no (i := 17) (d := 205) rfl rfl (by kernel_rfl) (by kernel_rfl) (by kernel_rfl) (fun _ _ _ h => h) (by rfl) (by assumption) ?_
    simp only [Act.put, sl0, sl1, sl2]
    refine take_yes (i := 18) (d := 206) (v := ?v15) rfl rfl (by kernel_rfl) (by kernel_rfl) (by kernel_rfl) (fun _ _ _ h => h) (by rfl) ?y15 (by assumption) ?r15
    case y15 => (intro w hSw; (try dsimp only at hSw); go_simp <;> with_reducible rfl)
    simp only [Act.put, sl0, sl1, sl2]
    refine take_yes (i := 19) (d := 207) (v := ?v16) rfl rfl (by kernel_rfl) (by kernel_rfl) (by kernel_rfl) (fun _ _ _ h => h) (by rfl) ?y16 (by assumption) ?r16
    case y16 => (intro w hSw; (try dsimp only at hSw); go_simp <;> with_reducible rfl)
    simp only [Act.put, sl0, sl1, sl2]
    refine take_yes (i := 20) (d := 208) (v := ?v17) rfl rfl (by kernel_rfl) (by kernel_rfl) (by kernel_rfl) (fun _ _ _ h => h) (by rfl) ?y17 (by assumption) ?r17
    case y17 => (intro w hSw; (try dsimp only at hSw); go_simp <;> with_reducible rfl)
    simp only [Act.put, sl0, sl1, sl2]
    refine take_yes (i := 21) (d := 209) (v := ?v18) rfl rfl (by kernel_rfl) (by kernel_rfl) (by kernel_rfl) (fun _ _ _ h => h) (by rfl) ?y18 (by assumption) ?r18
    case y18 => (intro w hSw; (try dsimp only at hSw); go_simp <;> with_reducible rfl)
    simp only [Act.put, sl0, sl1, sl2]
    refine take_yes (i := 22) (d := 210) (v := ?v19) rfl rfl (by kernel_rfl) (by kernel_rfl) (by kernel_rfl) (fun _ _ _ h => h) (by rfl) ?y19 (by assumption) ?r19
    case y19 => (intro w hSw; (try dsimp only at hSw); go_simp <;> with_reducible rfl)
    simp only [Act.put, sl0, sl1, sl2]
    refine take_yes (i := 24) (d := 212) (v := ?v20) rfl rfl (by kernel_rfl) (by kernel_rfl) (by kernel_rfl) (fun _ _ _ h => h) (by rfl) ?y20 (by assumption) ?r20
    case y20 => (intro w hSw; (try dsimp only at hSw); go_simp <;> with_reducible rfl)
    simp only [Act.put, sl0, sl1, sl2]
    refine take_yes (i := 25) (d := 213) (v := ?v21) rfl rfl (by kernel_rfl) (by kernel_rfl) (by kernel_rfl) (fun _ _ _ h => h) (by rfl) ?y21 (by assumption) ?r21
    case y21 => (intro w hSw; (try dsimp only at hSw); go_simp <;> with_reducible rfl)
    simp only [Act.put, sl0, sl1, sl2]
    refine wpAnyH_ready (rs := [23]) (by kernel_rfl) (by simp) ?_
    refine AllReadyH.cons rfl (fun K hK => ?_) AllReadyH.nil
    go_simp
    go_at_call 13; refine (KR2.out _ hz13).mono ?_
    rintro e w14 ⟨rfl, hb14⟩
    have hz14 := bl_trans hz13 hb14
    refine hK.out _ _ (HSC.out _ hz14) (fun hHeld => ?_)
    clear hK K
    try simp only [Act.put, sl0, sl1, sl2]
    refine wpAnyH_ready (rs := [26]) (by kernel_rfl) (by simp) ?_
    refine AllReadyH.cons rfl (fun K hK => ?_) AllReadyH.nil
    go_simp
    go_at_call 24; refine (KR3.out _ hz14).mono ?_
    rintro e w15 ⟨rfl, hb15⟩
    have hz15 := bl_trans hz14 hb15
    refine hK.out _ _ (HSC.out _ hz15) (fun hHeld => ?_)
    clear hK K
    try simp only [Act.put, sl0, sl1, sl2]
    refine take_yes (i := 27) (d := 215) (v := ?v22) rfl rfl (by kernel_rfl) (by kernel_rfl) (by kernel_rfl) (fun _ _ _ h => h) (by rfl) ?y22 (by assumption) ?r22
    case y22 => (intro w hSw; (try dsimp only at hSw); go_simp <;> with_reducible rfl)
    simp only [Act.put, sl0, sl1, sl2]
    refine take_yes (i := 28) (d := 216) (v := ?v23) rfl rfl (by kernel_rfl) (by kernel_rfl) (by kernel_rfl) (fun _ _ _ h => h) (by rfl) ?y23 (by assumption) ?r23
    case y23 => (intro w hSw; (try dsimp only at hSw); go_simp <;> with_reducible rfl)
    simp only [Act.put, sl0, sl1, sl2]
    refine take_yes (i := 29) (d := 217) (v := ?v24) rfl rfl (by kernel_rfl) (by kernel_rfl) (by kernel_rfl) (fun _ _ _ h => h) (by rfl) ?y24 (by assumption) ?r24
    case y24 => (intro w hSw; (try dsimp only at hSw); go_simp <;> with_reducible rfl)
    simp only [Act.put, sl0, sl1, sl2]
    refine take_yes (i := 30) (d := 218) (v := ?v25) rfl rfl (by kernel_rfl) (by kernel_rfl) (by kernel_rfl) (fun _ _ _ h => h) (by rfl) ?y25 (by assumption) ?r25
    case y25 => (intro w hSw; (try dsimp only at hSw); go_simp <;> with_reducible rfl)
    simp only [Act.put, sl0, sl1, sl2]
    refine take_yes (i := 32) (d := 220) (v := ?v26) rfl rfl (by kernel_rfl) (by kernel_rfl) (by kernel_rfl) (fun _ _ _ h => h) (by rfl) ?y26 (by assumption) ?r26
    case y26 => (intro w hSw; (try dsimp only at hSw); go_simp <;> with_reducible rfl)
    simp only [Act.put, sl0, sl1, sl2]
    refine wpAnyH_ready (rs := [31]) (by kernel_rfl) (by simp) ?_
    refine AllReadyH.cons rfl (fun K hK => ?_) AllReadyH.nil
    go_simp
    go_at_call 15; refine (KR4.out _ hz15).mono ?_
    rintro e w16 ⟨rfl, hb16⟩
    have hz16 := bl_trans hz15 hb16
    refine hK.out _ _ (HSC.out _ hz16) (fun hHeld => ?_)
    clear hK K
    try simp only [Act.put, sl0, sl1, sl2]
    refine wpAnyH_ready (rs := [33]) (by kernel_rfl) (by simp) ?_
    refine AllReadyH.cons rfl (fun K hK => ?_) AllReadyH.nil
    go_simp
    go_at_call 16; refine (KR5.out _ hz16).mono ?_
    rintro e w17 ⟨rfl, hb17⟩
    have hz17 := bl_trans hz16 hb17
    refine hK.out _ _ (HSC.out _ hz17) (fun hHeld => ?_)
    clear hK K
    try simp only [Act.put, sl0, sl1, sl2]
    refine take_yes (i := 34) (d := 222) (v := ?v27) rfl rfl (by kernel_rfl) (by kernel_rfl) (by kernel_rfl) (fun _ _ _ h => h) (by rfl) ?y27 (by assumption) ?r27
    case y27 => (intro w hSw; (try dsimp only at hSw); go_simp <;> with_reducible rfl)
    simp only [Act.put, sl0, sl1, sl2]
    refine take_yes (i := 35) (d := 223) (v := ?v28) rfl rfl (by kernel_rfl) (by kernel_rfl) (by kernel_rfl) (fun _ _ _ h => h) (by rfl) ?y28 (by assumption) ?r28
    case y28 => (intro w hSw; (try dsimp only at hSw); go_simp <;> with_reducible rfl)
    simp only [Act.put, sl0, sl1, sl2]
    refine take_yes (i := 36) (d := 2) (v := ?v29) rfl rfl (by kernel_rfl) (by kernel_rfl) (by kernel_rfl) (fun _ _ _ h => h) (by rfl) ?y29 (by assumption) ?r29
    case y29 => (intro w hSw; (try dsimp only at hSw); go_simp <;> with_reducible rfl)
    simp only [Act.put, sl0, sl1, sl2]
    refine wpAnyH_done (by kernel_rfl) ?_ _
    replace HB := Lib.hid (HB.out.keep hz17)
    replace HY := Lib.hid (HY.out.keep hz17)
    clear hb13 hz13 hb14 hz14 hb15 hz15 hb16 hz16 hb17 hz17 HSC HZ0 HS1 KR1 KR2 KR3 KR4 KR5
    go_wp2
    go_ret
    exact ⟨ret_bool (by simp), HB.out.below⟩
  · have g1 : (s3 == 1) = false := by simp; omega
    have hN2 : N % 2 = 0 := by
      rcases HN2.out with h2 | h2
      · exact absurd h2 h1
      · exact h2
    have g2 : (N : Int) % 2 = 0 := by omega
    have g3 : (N : Int).tmod 2 = 0 := by rw [Int.tmod_eq_emod_of_nonneg (by omega)]; exact g2
    clear h1 HN2 hN2
    have HSC : Hid (∀ z : World, Below Ub.heap.size Ub z → (Below Ub.heap.size Ub z ∧ z.cell? ⟨v2.heap.size, 0, none⟩ = some (.int .i64 s3) ∧ z.cell? ⟨v2.heap.size, 1, none⟩ = some (.slice B3 m3 d3) ∧ z.cell? ⟨va.heap.size, 0, none⟩ = some (.int .i64 s4) ∧ z.cell? ⟨va.heap.size, 1, none⟩ = some (.slice B4 m4 d4) ∧ z.cell? ⟨vb.heap.size, 0, none⟩ = some (.int .i64 s6) ∧ z.cell? ⟨vb.heap.size, 1, none⟩ = some (.slice B6 m6 d6))) := fun z hz => ⟨hz, up_ hz e0, up_ hz e1, up_ hz e2, up_ hz e3, up_ hz e4, up_ hz e5⟩
    have HZ0 : Hid (Below Ub.heap.size Ub Ub.drew) := (Below.refl _ _).drew
    have HS1 := Lib.hid (HSC.out _ HZ0.out)
    have KR1 : Hid (∀ z : World, Below Ub.heap.size Ub z → _) := fun z hz => Q2.out z _ _ (HA.out.a.keep hz)
    have KR2 : Hid (∀ z : World, Below Ub.heap.size Ub z → _) := fun z hz => R1.out z (HG4.out.a.keep hz) (HL5.out.keep hz)
    have KR3 : Hid (∀ z : World, Below Ub.heap.size Ub z → _) := fun z hz => R2.out z (HG4.out.a.keep hz) (HL5.out.keep hz)
    have KR4 : Hid (∀ z : World, Below Ub.heap.size Ub z → _) := fun z hz => R3.out z (HG6.out.a.keep hz)
    have KR5 : Hid (∀ z : World, Below Ub.heap.size Ub z → _) := fun z hz => R4.out z (HG6.out.a.keep hz)
    refine wp_region_held_drew (S := fun z => Below Ub.heap.size Ub z ∧ z.cell? ⟨v2.heap.size, 0, none⟩ = some (.int .i64 s3) ∧ z.cell? ⟨v2.heap.size, 1, none⟩ = some (.slice B3 m3 d3) ∧ z.cell? ⟨va.heap.size, 0, none⟩ = some (.int .i64 s4) ∧ z.cell? ⟨va.heap.size, 1, none⟩ = some (.slice B4 m4 d4) ∧ z.cell? ⟨vb.heap.size, 0, none⟩ = some (.int .i64 s6) ∧ z.cell? ⟨vb.heap.size, 1, none⟩ = some (.slice B6 m6 d6)) (by kernel_rfl) HS1.out (fun hHeld => ?_)
    refine take_yes (i := 0) (d := 188) (v := ?v30) rfl rfl (by kernel_rfl) (by kernel_rfl) (by kernel_rfl) (fun _ _ _ h => h) (by rfl) ?y30 (by assumption) ?r30
    case y30 => (intro w hSw; (try dsimp only at hSw); go_simp <;> with_reducible rfl)
    simp only [Act.put, sl0, sl1, sl2]
    refine take_yes (i := 1) (d := 189) (v := ?v31) rfl rfl (by kernel_rfl) (by kernel_rfl) (by kernel_rfl) (fun _ _ _ h => h) (by rfl) ?y31 (by assumption) ?r31
    case y31 => (intro w hSw; (try dsimp only at hSw); go_simp <;> with_reducible rfl)
    simp only [Act.put, sl0, sl1, sl2]
    refine wpAnyH_ready (rs := [2]) (by kernel_rfl) (by simp) ?_
    refine AllReadyH.cons rfl (fun K hK => ?_) AllReadyH.nil
    go_simp
    go_at_call 23; refine (KR1.out _ HZ0.out).mono ?_
    rintro e w18 ⟨rfl, hb18⟩
    have hz18 := bl_trans HZ0.out hb18
    refine hK.out _ _ (HSC.out _ hz18) (fun hHeld => ?_)
    clear hK K
    try simp only [Act.put, sl0, sl1, sl2]
    refine take_yes (i := 3) (d := 191) (v := ?v32) rfl rfl (by kernel_rfl) (by kernel_rfl) (by kernel_rfl) (fun _ _ _ h => h) (by rfl) ?y32 (by assumption) ?r32
    case y32 => (intro w hSw; (try dsimp only at hSw); go_simp <;> with_reducible rfl)
    simp only [Act.put, sl0, sl1, sl2]
    refine take_yes (i := 4) (d := 192) (v := ?v33) rfl rfl (by kernel_rfl) (by kernel_rfl) (by kernel_rfl) (fun _ _ _ h => h) (by rfl) ?y33 (by assumption) ?r33
    case y33 => (intro w hSw; (try dsimp only at hSw); go_simp <;> with_reducible rfl)
    simp only [Act.put, sl0, sl1, sl2]
    refine take_yes (i := 5) (d := 193) (v := ?v34) rfl rfl (by kernel_rfl) (by kernel_rfl) (by kernel_rfl) (fun _ _ _ h => h) (by rfl) ?y34 (by assumption) ?r34
    case y34 => (intro w hSw; (try dsimp only at hSw); go_simp <;> with_reducible rfl)
    simp only [Act.put, sl0, sl1, sl2]
    refine take_yes (i := 6) (d := 194) (v := ?v35) rfl rfl (by kernel_rfl) (by kernel_rfl) (by kernel_rfl) (fun _ _ _ h => h) (by rfl) ?y35 (by assumption) ?r35
    case y35 => (intro w hSw; (try dsimp only at hSw); go_simp <;> with_reducible rfl)
    simp only [Act.put, sl0, sl1, sl2]
    refine take_yes (i := 7) (d := 195) (v := ?v36) rfl rfl (by kernel_rfl) (by kernel_rfl) (by kernel_rfl) (fun _ _ _ h => h) (by rfl) ?y36 (by assumption) ?r36
    case y36 => (intro w hSw; (try dsimp only at hSw); go_simp <;> with_reducible rfl)
    simp only [Act.put, sl0, sl1, sl2]
    refine take_yes (i := 8) (d := 196) (v := ?v37) rfl rfl (by kernel_rfl) (by kernel_rfl) (by kernel_rfl) (fun _ _ _ h => h) (by rfl) ?y37 (by assumption) ?r37
    case y37 => (intro w hSw; (try dsimp only at hSw); go_simp <;> with_reducible rfl)
    simp only [Act.put, sl0, sl1, sl2]
    refine take_yes (i := 9) (d := 197) (v := ?v38) rfl rfl (by kernel_rfl) (by kernel_rfl) (by kernel_rfl) (fun _ _ _ h => h) (by rfl) ?y38 (by assumption) ?r38
    case y38 => (intro w hSw; (try dsimp only at hSw); go_simp <;> with_reducible rfl)
    simp only [Act.put, sl0, sl1, sl2]
    refine take_yes (i := 10) (d := 198) (v := ?v39) rfl rfl (by kernel_rfl) (by kernel_rfl) (by kernel_rfl) (fun _ _ _ h => h) (by rfl) ?y39 (by assumption) ?r39
    case y39 => (intro w hSw; (try dsimp only at hSw); go_simp <;> with_reducible rfl)
    simp only [Act.put, sl0, sl1, sl2]
    refine take_yes (i := 11) (d := 199) (v := ?v40) rfl rfl (by kernel_rfl) (by kernel_rfl) (by kernel_rfl) (fun _ _ _ h => h) (by rfl) ?y40 (by assumption) ?r40
    case y40 => (intro w hSw; (try dsimp only at hSw); go_simp <;> with_reducible rfl)
    simp only [Act.put, sl0, sl1, sl2]
    refine take_yes (i := 12) (d := 200) (v := ?v41) rfl rfl (by kernel_rfl) (by kernel_rfl) (by kernel_rfl) (fun _ _ _ h => h) (by rfl) ?y41 (by assumption) ?r41
    case y41 => (intro w hSw; (try dsimp only at hSw); go_simp <;> with_reducible rfl)
    simp only [Act.put, sl0, sl1, sl2]
    refine take_yes (i := 13) (d := 201) (v := ?v42) rfl rfl (by kernel_rfl) (by kernel_rfl) (by kernel_rfl) (fun _ _ _ h => h) (by rfl) ?y42 (by assumption) ?r42
    case y42 => (intro w hSw; (try dsimp only at hSw); go_simp <;> with_reducible rfl)
    simp only [Act.put, sl0, sl1, sl2]
    refine take_yes (i := 14) (d := 202) (v := ?v43) rfl rfl (by kernel_rfl) (by kernel_rfl) (by kernel_rfl) (fun _ _ _ h => h) (by rfl) ?y43 (by assumption) ?r43
    case y43 => (intro w hSw; (try dsimp only at hSw); go_simp <;> with_reducible rfl)
    simp only [Act.put, sl0, sl1, sl2]
    refine take_yes (i := 15) (d := 203) (v := ?v44) rfl rfl (by kernel_rfl) (by kernel_rfl) (by kernel_rfl) (fun _ _ _ h => h) (by rfl) ?y44 (by assumption) ?r44
    case y44 => (intro w hSw; (try dsimp only at hSw); go_simp <;> with_reducible rfl)
    simp only [Act.put, sl0, sl1, sl2]
    refine take_yes (i := 16) (d := 204) (v := ?v45) rfl rfl (by kernel_rfl) (by kernel_rfl) (by kernel_rfl) (fun _ _ _ h => h) (by rfl) ?y45 (by assumption) ?r45
    case y45 => (intro w hSw; (try dsimp only at hSw); go_simp <;> with_reducible rfl)
    simp only [Act.put, sl0, sl1, sl2]
    refine take_yes (i := 17) (d := 205) (v := ?v46) rfl rfl (by kernel_rfl) (by kernel_rfl) (by kernel_rfl) (fun _ _ _ h => h) (by rfl) ?y46 (by assumption) ?r46
    case y46 => (intro w hSw; (try dsimp only at hSw); go_simp <;> with_reducible rfl)
    simp only [Act.put, sl0, sl1, sl2]
    refine take_yes (i := 18) (d := 206) (v := ?v47) rfl rfl (by kernel_rfl) (by kernel_rfl) (by kernel_rfl) (fun _ _ _ h => h) (by rfl) ?y47 (by assumption) ?r47
    case y47 => (intro w hSw; (try dsimp only at hSw); go_simp <;> with_reducible rfl)
    simp only [Act.put, sl0, sl1, sl2]
    refine take_yes (i := 19) (d := 207) (v := ?v48) rfl rfl (by kernel_rfl) (by kernel_rfl) (by kernel_rfl) (fun _ _ _ h => h) (by rfl) ?y48 (by assumption) ?r48
    case y48 => (intro w hSw; (try dsimp only at hSw); go_simp <;> with_reducible rfl)
    simp only [Act.put, sl0, sl1, sl2]
    refine take_yes (i := 20) (d := 208) (v := ?v49) rfl rfl (by kernel_rfl) (by kernel_rfl) (by kernel_rfl) (fun _ _ _ h => h) (by rfl) ?y49 (by assumption) ?r49
    case y49 => (intro w hSw; (try dsimp only at hSw); go_simp <;> with_reducible rfl)
    simp only [Act.put, sl0, sl1, sl2]
    refine take_yes (i := 21) (d := 209) (v := ?v50) rfl rfl (by kernel_rfl) (by kernel_rfl) (by kernel_rfl) (fun _ _ _ h => h) (by rfl) ?y50 (by assumption) ?r50
    case y50 => (intro w hSw; (try dsimp only at hSw); go_simp <;> with_reducible rfl)
    simp only [Act.put, sl0, sl1, sl2]
    refine take_yes (i := 22) (d := 210) (v := ?v51) rfl rfl (by kernel_rfl) (by kernel_rfl) (by kernel_rfl) (fun _ _ _ h => h) (by rfl) ?y51 (by assumption) ?r51
    case y51 => (intro w hSw; (try dsimp only at hSw); go_simp <;> with_reducible rfl)
    simp only [Act.put, sl0, sl1, sl2]
    refine take_yes (i := 24) (d := 212) (v := ?v52) rfl rfl (by kernel_rfl) (by kernel_rfl) (by kernel_rfl) (fun _ _ _ h => h) (by rfl) ?y52 (by assumption) ?r52
    case y52 => (intro w hSw; (try dsimp only at hSw); go_simp <;> with_reducible rfl)
    simp only [Act.put, sl0, sl1, sl2]
    refine take_yes (i := 25) (d := 213) (v := ?v53) rfl rfl (by kernel_rfl) (by kernel_rfl) (by kernel_rfl) (fun _ _ _ h => h) (by rfl) ?y53 (by assumption) ?r53
    case y53 => (intro w hSw; (try dsimp only at hSw); go_simp <;> with_reducible rfl)
    simp only [Act.put, sl0, sl1, sl2]
    refine wpAnyH_ready (rs := [23]) (by kernel_rfl) (by simp) ?_
    refine AllReadyH.cons rfl (fun K hK => ?_) AllReadyH.nil
    go_simp
    go_at_call 13; refine (KR2.out _ hz18).mono ?_
    rintro e w19 ⟨rfl, hb19⟩
    have hz19 := bl_trans hz18 hb19
    refine hK.out _ _ (HSC.out _ hz19) (fun hHeld => ?_)
    clear hK K
    try simp only [Act.put, sl0, sl1, sl2]
    refine wpAnyH_ready (rs := [26]) (by kernel_rfl) (by simp) ?_
    refine AllReadyH.cons rfl (fun K hK => ?_) AllReadyH.nil
    go_simp
    go_at_call 24; refine (KR3.out _ hz19).mono ?_
    rintro e w20 ⟨rfl, hb20⟩
    have hz20 := bl_trans hz19 hb20
    refine hK.out _ _ (HSC.out _ hz20) (fun hHeld => ?_)
    clear hK K
    try simp only [Act.put, sl0, sl1, sl2]
    refine take_yes (i := 27) (d := 215) (v := ?v54) rfl rfl (by kernel_rfl) (by kernel_rfl) (by kernel_rfl) (fun _ _ _ h => h) (by rfl) ?y54 (by assumption) ?r54
    case y54 => (intro w hSw; (try dsimp only at hSw); go_simp <;> with_reducible rfl)
    simp only [Act.put, sl0, sl1, sl2]
    refine take_yes (i := 28) (d := 216) (v := ?v55) rfl rfl (by kernel_rfl) (by kernel_rfl) (by kernel_rfl) (fun _ _ _ h => h) (by rfl) ?y55 (by assumption) ?r55
    case y55 => (intro w hSw; (try dsimp only at hSw); go_simp <;> with_reducible rfl)
    simp only [Act.put, sl0, sl1, sl2]
    refine take_yes (i := 29) (d := 217) (v := ?v56) rfl rfl (by kernel_rfl) (by kernel_rfl) (by kernel_rfl) (fun _ _ _ h => h) (by rfl) ?y56 (by assumption) ?r56
    case y56 => (intro w hSw; (try dsimp only at hSw); go_simp <;> with_reducible rfl)
    simp only [Act.put, sl0, sl1, sl2]
    refine take_yes (i := 30) (d := 218) (v := ?v57) rfl rfl (by kernel_rfl) (by kernel_rfl) (by kernel_rfl) (fun _ _ _ h => h) (by rfl) ?y57 (by assumption) ?r57
    case y57 => (intro w hSw; (try dsimp only at hSw); go_simp <;> with_reducible rfl)
    simp only [Act.put, sl0, sl1, sl2]
    refine take_yes (i := 32) (d := 220) (v := ?v58) rfl rfl (by kernel_rfl) (by kernel_rfl) (by kernel_rfl) (fun _ _ _ h => h) (by rfl) ?y58 (by assumption) ?r58
    case y58 => (intro w hSw; (try dsimp only at hSw); go_simp <;> with_reducible rfl)
    simp only [Act.put, sl0, sl1, sl2]
    refine wpAnyH_ready (rs := [31]) (by kernel_rfl) (by simp) ?_
    refine AllReadyH.cons rfl (fun K hK => ?_) AllReadyH.nil
    go_simp
    go_at_call 15; refine (KR4.out _ hz20).mono ?_
    rintro e w21 ⟨rfl, hb21⟩
    have hz21 := bl_trans hz20 hb21
    refine hK.out _ _ (HSC.out _ hz21) (fun hHeld => ?_)
    clear hK K
    try simp only [Act.put, sl0, sl1, sl2]
    refine wpAnyH_ready (rs := [33]) (by kernel_rfl) (by simp) ?_
    refine AllReadyH.cons rfl (fun K hK => ?_) AllReadyH.nil
    go_simp
    go_at_call 16; refine (KR5.out _ hz21).mono ?_
    rintro e w22 ⟨rfl, hb22⟩
    have hz22 := bl_trans hz21 hb22
    refine hK.out _ _ (HSC.out _ hz22) (fun hHeld => ?_)
    clear hK K
    try simp only [Act.put, sl0, sl1, sl2]
    refine take_yes (i := 34) (d := 222) (v := ?v59) rfl rfl (by kernel_rfl) (by kernel_rfl) (by kernel_rfl) (fun _ _ _ h => h) (by rfl) ?y59 (by assumption) ?r59
    case y59 => (intro w hSw; (try dsimp only at hSw); go_simp <;> with_reducible rfl)
    simp only [Act.put, sl0, sl1, sl2]
    refine take_yes (i := 35) (d := 223) (v := ?v60) rfl rfl (by kernel_rfl) (by kernel_rfl) (by kernel_rfl) (fun _ _ _ h => h) (by rfl) ?y60 (by assumption) ?r60
    case y60 => (intro w hSw; (try dsimp only at hSw); go_simp <;> with_reducible rfl)
    simp only [Act.put, sl0, sl1, sl2]
    refine take_yes (i := 36) (d := 2) (v := ?v61) rfl rfl (by kernel_rfl) (by kernel_rfl) (by kernel_rfl) (fun _ _ _ h => h) (by rfl) ?y61 (by assumption) ?r61
    case y61 => (intro w hSw; (try dsimp only at hSw); go_simp <;> with_reducible rfl)
    simp only [Act.put, sl0, sl1, sl2]
    refine wpAnyH_done (by kernel_rfl) ?_ _
    replace HB := Lib.hid (HB.out.keep hz22)
    replace HY := Lib.hid (HY.out.keep hz22)
    clear hb18 hz18 hb19 hz19 hb20 hz20 hb21 hz21 hb22 hz22 HSC HZ0 HS1 KR1 KR2 KR3 KR4 KR5
    go_wp2
    go_ret
    exact ⟨ret_bool (by simp), HB.out.below⟩

end Go.Proofs.Ytncjfgebolikoaa
