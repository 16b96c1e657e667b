/-
-/
import Derived.Test.YticadlkcjhglnaaGreatQnHasE
namespace Go.Proofs.YticadlkcjhglnaaGreat
open Go.RowKit
set_option maxRecDepth 100000 in
set_option maxHeartbeats 12800000 in
theorem fnSandwiches_walk (A : Option Addr) (n c : Nat) (w : World) (h : BX w A n c) (hn : n ≤ maxLen) :
 Calls Tryz.prog 3 #[.slice A n c] w fun e w' => e = .returned (.bool true) ∧ Below w.heap.size w w' := by
 have HB : Hid (From w w) := From.refl w
 have HY := Lib.hid h
 clear h
 by_cases hbig : 1048576 < n
 ·have eb := Lib.hid (decide_eq_true hbig)
  clear hbig
  go_enter Tryz.func3, Tryz.ntmps3
  go_wp2_with fail
  refine (big_s A n c w hn).mono ?_
  rintro e w0 ⟨rfl, rfl⟩
  rw [eb.out]
  go_wp2
  go_ret
  exact ⟨rfl, HB.out.below⟩
 have hn2 : n ≤ 1048576 := by omega
 have eb := Lib.hid (decide_eq_false hbig)
 clear hbig
 go_enter Tryz.func3, Tryz.ntmps3
 go_wp2_with fail
 refine (big_s A n c w hn).mono ?_
 rintro e w0 ⟨rfl, rfl⟩
 rw [eb.out]
 clear eb hn
 go_wp2_with fail
 refine (DrawFindSandwich_s HY.out.b hn2).mono ?_
 rintro e v1 ⟨s1, B1, m1, d1, x1, s2, B2, m2, d2, x2, t, rfl, hT⟩
 have hm1 := hT.h1
 have hm2 := hT.h2
 have hga1 : GA v1 B1 m1 d1 x1 := ⟨hT.o1.rd⟩
 have hga2 : GA v1 B2 m2 d2 x2 := ⟨hT.o2.rd⟩
 have hbv := hT.b
 replace HB := Lib.hid (HB.out.keep hbv)
 replace HY := Lib.hid (HY.out.keep hbv)
 clear hbv hT
 obtain ⟨U1, hW⟩ : ∃ U : World, U = ((v1.alloc (Obj.cells #[Value.int .i64 s1, .slice B1 m1 d1] 26)).alloc (Obj.cells #[Value.int .i64 s2, .slice B2 m2 d2] 26)) := ⟨_, rfl⟩
 obtain ⟨hg1, hg2, hbU⟩ := GX.two (s1 := s1) (s2 := s2) hga1 hga2
 rw [← hW] at hg1 hg2 hbU
 have HG1 := Lib.hid hg1
 have HG2 := Lib.hid hg2
 have HW := Lib.hid hW
 replace HB := Lib.hid (HB.out.keep hbU)
 replace HY := Lib.hid (HY.out.keep hbU)
 clear hbU hW hg1 hg2 hga1 hga2
 obtain ⟨N, X, is, z, F, hN, hz, hF0, hF1, hF2, hP, K1, K2, K3, K4, K5, K6⟩ := sdw_pack s1 m1 x1 s2 m2 x2 t hm1.2 hm2.2
 have Hz := Lib.hid hz
 have HF0 := Lib.hid hF0
 have HF2 := Lib.hid hF2
 have HP := Lib.hid hP
 replace K1 := Lib.hid K1
 replace K2 := Lib.hid K2
 replace K3 := Lib.hid K3
 replace K4 := Lib.hid K4
 replace K5 := Lib.hid K5
 replace K6 := Lib.hid K6
 clear hz hF0 hF2 hP
 have a0 := HG1.out.c0
 have a1 := HG1.out.c1
 have b0 := HG2.out.c0
 have b1 := HG2.out.c1
 go_wp2_with fail
 rw [← HW.out]
 refine (K1.out _ _ _ _ _ HG1.out.a HG2.out.a).mono ?_
 rintro e w1 ⟨A3, c3, rfl, ha3, hb1⟩
 clear HW
 clear a0 a1 b0 b1
 replace HB := Lib.hid (HB.out.keep hb1)
 replace HY := Lib.hid (HY.out.keep hb1)
 replace HG1 := Lib.hid (HG1.out.keep hb1)
 replace HG2 := Lib.hid (HG2.out.keep hb1)
 clear hb1
 have a0 := HG1.out.c0
 have a1 := HG1.out.c1
 have b0 := HG2.out.c0
 have b1 := HG2.out.c1
 obtain ⟨U2, hW⟩ : ∃ U : World, U = w1.alloc (Obj.cells #[Value.int .i64 (N : Nat), .slice A3 N c3] 26) := ⟨_, rfl⟩
 have hbU : Below w1.heap.size w1 U2 := by rw [hW]; exact (Below.refl _ _).alloc (Nat.le_refl _) _
 have HX : Hid (GX U2 w1.heap.size (N : Nat) A3 N c3 X) := by rw [hW]; exact GX.new ha3
 have hl1 := World.block_lt_of_cell? _ _ a0
 have hl2 := World.block_lt_of_cell? _ _ b0
 have HW := Lib.hid hW
 clear hW
 go_wp2_with fail
 rw [← HW.out]
 clear HW
 clear a0 a1 b0 b1
 replace HB := Lib.hid (HB.out.keep hbU)
 replace HY := Lib.hid (HY.out.keep hbU)
 replace HG1 := Lib.hid (HG1.out.keep hbU)
 replace HG2 := Lib.hid (HG2.out.keep hbU)
 clear hbU ha3 hl1 hl2
 have a0 := HG1.out.c0
 have a1 := HG1.out.c1
 have b0 := HG2.out.c0
 have b1 := HG2.out.c1
 refine (K2.out _ _ _ _ _ HG1.out.a HG2.out.a).mono ?_
 rintro e v2 ⟨A4, c4, rfl, ha4, hb2⟩
 clear a0 a1 b0 b1
 replace HB := Lib.hid (HB.out.keep hb2)
 replace HY := Lib.hid (HY.out.keep hb2)
 replace HG1 := Lib.hid (HG1.out.keep hb2)
 replace HG2 := Lib.hid (HG2.out.keep hb2)
 replace HX := Lib.hid (HX.out.keep hb2)
 clear hb2
 have a0 := HG1.out.c0
 have a1 := HG1.out.c1
 have b0 := HG2.out.c0
 have b1 := HG2.out.c1
 obtain ⟨U3, hW⟩ : ∃ U : World, U = v2.alloc (Obj.cells #[Value.int .i64 (N : Nat), .slice A4 N c4] 26) := ⟨_, rfl⟩
 have hbU : Below v2.heap.size v2 U3 := by rw [hW]; exact (Below.refl _ _).alloc (Nat.le_refl _) _
 have HZ : Hid (GX U3 v2.heap.size (N : Nat) A4 N c4 X) := by rw [hW]; exact GX.new ha4
 have hl1 := World.block_lt_of_cell? _ _ a0
 have hl2 := World.block_lt_of_cell? _ _ b0
 have HW := Lib.hid hW
 clear hW
 go_wp2_with fail
 rw [← HW.out]
 clear HW
 clear a0 a1 b0 b1
 replace HB := Lib.hid (HB.out.keep hbU)
 replace HY := Lib.hid (HY.out.keep hbU)
 replace HG1 := Lib.hid (HG1.out.keep hbU)
 replace HG2 := Lib.hid (HG2.out.keep hbU)
 replace HX := Lib.hid (HX.out.keep hbU)
 clear hbU ha4 hl1 hl2
 have a0 := HG1.out.c0
 have a1 := HG1.out.c1
 have b0 := HG2.out.c0
 have b1 := HG2.out.c1
 refine (K3.out _ _ _ _ _ HG1.out.a HG2.out.a).mono ?_
 rintro e v3 ⟨rfl, hb3⟩
 clear a0 a1 b0 b1
 replace HB := Lib.hid (HB.out.keep hb3)
 replace HY := Lib.hid (HY.out.keep hb3)
 replace HG1 := Lib.hid (HG1.out.keep hb3)
 replace HG2 := Lib.hid (HG2.out.keep hb3)
 replace HX := Lib.hid (HX.out.keep hb3)
 replace HZ := Lib.hid (HZ.out.keep hb3)
 clear hb3
 have a0 := HG1.out.c0
 have a1 := HG1.out.c1
 have b0 := HG2.out.c0
 have b1 := HG2.out.c1
 go_wp2_with fail
 refine (K5.out _ _ _ _ _ HG1.out.a HG2.out.a).mono ?_
 rintro e w2 ⟨A5, c5, D5, rfl, hl5, hd5, hb2⟩
 clear a0 a1 b0 b1
 replace HB := Lib.hid (HB.out.keep hb2)
 replace HY := Lib.hid (HY.out.keep hb2)
 replace HG1 := Lib.hid (HG1.out.keep hb2)
 replace HG2 := Lib.hid (HG2.out.keep hb2)
 replace HX := Lib.hid (HX.out.keep hb2)
 replace HZ := Lib.hid (HZ.out.keep hb2)
 clear hb2
 have a0 := HG1.out.c0
 have a1 := HG1.out.c1
 have b0 := HG2.out.c0
 have b1 := HG2.out.c1
 have HD5 := Lib.hid hd5
 have HL5 := Lib.hid hl5
 clear hd5 hl5
 go_wp2_with fail
 refine (K6.out _ _ _ _ _ HG1.out.a HG2.out.a).mono ?_
 rintro e w3 ⟨A6, c6, D6, rfl, hl6, hd6, hb3⟩
 clear a0 a1 b0 b1
 replace HB := Lib.hid (HB.out.keep hb3)
 replace HY := Lib.hid (HY.out.keep hb3)
 replace HG1 := Lib.hid (HG1.out.keep hb3)
 replace HG2 := Lib.hid (HG2.out.keep hb3)
 replace HX := Lib.hid (HX.out.keep hb3)
 replace HZ := Lib.hid (HZ.out.keep hb3)
 replace HD5 := Lib.hid (HD5.out.keep hb3)
 clear hb3
 have a0 := HG1.out.c0
 have a1 := HG1.out.c1
 have b0 := HG2.out.c0
 have b1 := HG2.out.c1
 have HD6 := Lib.hid hd6
 have HL6 := Lib.hid hl6
 clear hd6 hl6
 have KL : Hid (∀ (W : World), LD W A5 c5 D5 → LD W A6 c6 D6 → Calls Tryz.prog 14 #[.slice A5 D5.length c5, .slice A6 D6.length c6] W fun e w' => e = .returned (.bool true) ∧ Below W.heap.size W w') := fun W h1 h2 => same_lists h1 h2 HL5.out HL6.out hF1 HF2.out
 have x0 := HX.out.c0
 have x1' := HX.out.c1
 have y0 := HZ.out.c0
 have y1 := HZ.out.c1
 cases is
 ·have hz0 : z ≤ 0 := by have := of_decide_eq_false Hz.out; omega
  go_wp2_with fail
  refine (same_graphs HX.out.a HZ.out.a (by omega)).mono ?_
  rintro e w4 ⟨rfl, hb4⟩
  clear a0 a1 b0 b1 x0 x1' y0 y1
  replace HB := Lib.hid (HB.out.keep hb4)
  replace HY := Lib.hid (HY.out.keep hb4)
  replace HG1 := Lib.hid (HG1.out.keep hb4)
  replace HG2 := Lib.hid (HG2.out.keep hb4)
  replace HX := Lib.hid (HX.out.keep hb4)
  replace HZ := Lib.hid (HZ.out.keep hb4)
  replace HD5 := Lib.hid (HD5.out.keep hb4)
  replace HD6 := Lib.hid (HD6.out.keep hb4)
  clear hb4
  have a0 := HG1.out.c0
  have a1 := HG1.out.c1
  have b0 := HG2.out.c0
  have b1 := HG2.out.c1
  have x0 := HX.out.c0
  have x1' := HX.out.c1
  have y0 := HZ.out.c0
  have y1 := HZ.out.c1
  go_wp2_with fail
  refine (K4.out _ _ _ _ _ HG1.out.a HG2.out.a).mono ?_
  rintro e w5 ⟨rfl, hb5⟩
  clear a0 a1 b0 b1 x0 x1' y0 y1
  replace HB := Lib.hid (HB.out.keep hb5)
  replace HY := Lib.hid (HY.out.keep hb5)
  replace HG1 := Lib.hid (HG1.out.keep hb5)
  replace HG2 := Lib.hid (HG2.out.keep hb5)
  replace HX := Lib.hid (HX.out.keep hb5)
  replace HZ := Lib.hid (HZ.out.keep hb5)
  replace HD5 := Lib.hid (HD5.out.keep hb5)
  replace HD6 := Lib.hid (HD6.out.keep hb5)
  clear hb5
  have a0 := HG1.out.c0
  have a1 := HG1.out.c1
  have b0 := HG2.out.c0
  have b1 := HG2.out.c1
  have x0 := HX.out.c0
  have x1' := HX.out.c1
  have y0 := HZ.out.c0
  have y1 := HZ.out.c1
  go_wp2_with fail
  refine (KL.out _ HD5.out HD6.out).mono ?_
  rintro e w6 ⟨rfl, hb6⟩
  clear a0 a1 b0 b1 x0 x1' y0 y1
  replace HB := Lib.hid (HB.out.keep hb6)
  replace HY := Lib.hid (HY.out.keep hb6)
  replace HG1 := Lib.hid (HG1.out.keep hb6)
  replace HG2 := Lib.hid (HG2.out.keep hb6)
  replace HX := Lib.hid (HX.out.keep hb6)
  replace HZ := Lib.hid (HZ.out.keep hb6)
  replace HD5 := Lib.hid (HD5.out.keep hb6)
  replace HD6 := Lib.hid (HD6.out.keep hb6)
  clear hb6
  have a0 := HG1.out.c0
  have a1 := HG1.out.c1
  have b0 := HG2.out.c0
  have b1 := HG2.out.c1
  have x0 := HX.out.c0
  have x1' := HX.out.c1
  have y0 := HZ.out.c0
  have y1 := HZ.out.c1
  have hD0 : D6.length = 0 := by
   have h1 := HL6.out
   rw [HF0.out trivial] at h1
   have h2 := congrArg List.length h1
   unfold lists at h2
   rw [List.length_map] at h2
   exact h2
  rw [hD0]
  clear a0 a1 b0 b1 x0 x1' y0 y1 HG1 HG2 HX HZ HD5 HD6 K1 K2 K3 K4 K5 K6 KL HP
  go_wp2
  go_loopw [15] (fun i wr => i = .int .i64 0 ∧ Hid (From w0 wr) ∧ Hid (BX wr A n c)) (fun _ _ => 0)
  case atStart => exact ⟨rfl, HB, HY⟩
  case round =>
   clear HB HY
   obtain ⟨rfl, HB, HY⟩ := hrel
   go_wp2_with fail
   refine (DrawOptionalEdges_s HY.out.b hn2).mono ?_
   rintro e va ⟨s3, B3, m3, d3, x3, s4, B4, m4, d4, x4, rfl, hT⟩
   have hm3 := hT.h1
   have hm4 := hT.h2
   have hga3 : GA va B3 m3 d3 x3 := ⟨hT.o1.rd⟩
   have hga4 : GA va B4 m4 d4 x4 := ⟨hT.o2.rd⟩
   have hbv := hT.b
   replace HB := Lib.hid (HB.out.keep hbv)
   replace HY := Lib.hid (HY.out.keep hbv)
   clear hbv hT
   obtain ⟨Ua, hW⟩ : ∃ U : World, U = ((va.alloc (Obj.cells #[Value.int .i64 s3, .slice B3 m3 d3] 26)).alloc (Obj.cells #[Value.int .i64 s4, .slice B4 m4 d4] 26)) := ⟨_, rfl⟩
   obtain ⟨hg3, hg4, hbU⟩ := GX.two (s1 := s3) (s2 := s4) hga3 hga4
   rw [← hW] at hg3 hg4 hbU
   have HG3 := Lib.hid hg3
   have HG4 := Lib.hid hg4
   have HW := Lib.hid hW
   replace HB := Lib.hid (HB.out.keep hbU)
   replace HY := Lib.hid (HY.out.keep hbU)
   clear hbU hW hg3 hg4 hga3 hga4
   obtain ⟨wi, hwi⟩ : ∃ b, b = wiB s3 m3 x3 s4 m4 x4 := ⟨_, rfl⟩
   have KO1 : Hid (∀ (W : World), GA W B3 m3 d3 x3 → GA W B4 m4 d4 x4 → Calls Tryz.prog 19 #[.agg #[.int .i64 s3, .slice B3 m3 d3], .agg #[.int .i64 s4, .slice B4 m4 d4]] W fun e w' => ∃ (A' : Option Addr) (c' : Nat) (D : List Dsc), e = .returned (.tuple #[.slice A' D.length c', .bool wi]) ∧ lists D = optL s3 m3 x3 s4 m4 x4 ∧ LD w' A' c' D ∧ Below W.heap.size W w') := fun W h1 h2 => by
    refine (OptionalEdges_i s3 B3 m3 d3 x3 s4 B4 m4 d4 x4 W W.heap.size h1.rd h2.rd (Nat.le_refl _) (by omega) (by omega)).mono ?_
    rintro e w' ⟨A', c', D, he, hl, ho, hb⟩
    exact ⟨A', c', D, by rw [he, hwi], hl, ⟨ho.rdD⟩, hb⟩
   have KO2 : Hid (∀ (W : World), GA W B3 m3 d3 x3 → GA W B4 m4 d4 x4 → Calls Tryz.prog 20 #[.agg #[.int .i64 s3, .slice B3 m3 d3], .agg #[.int .i64 s4, .slice B4 m4 d4]] W fun e w' => ∃ (A' : Option Addr) (c' : Nat) (D : List Dsc), e = .returned (.tuple #[.slice A' D.length c', .bool wi]) ∧ lists D = optL s3 m3 x3 s4 m4 x4 ∧ LD w' A' c' D ∧ Below W.heap.size W w') := fun W h1 h2 => by
    refine (OptionalEdges_s s3 B3 m3 d3 x3 s4 B4 m4 d4 x4 W W.heap.size h1.rd h2.rd (Nat.le_refl _) (by omega) (by omega)).mono ?_
    rintro e w' ⟨A', c', D, he, hl, ho, hb⟩
    exact ⟨A', c', D, by rw [he, hwi], hl, ⟨ho.rdD⟩, hb⟩
   clear hwi
   have a0 := HG3.out.c0
   have a1 := HG3.out.c1
   have b0 := HG4.out.c0
   have b1 := HG4.out.c1
   go_wp2_with fail
   rw [← HW.out]
   refine (KO1.out _ HG3.out.a HG4.out.a).mono ?_
   rintro e w7 ⟨A7, c7, D7, rfl, hl7, hd7, hb7⟩
   clear HW
   clear a0 a1 b0 b1
   replace HB := Lib.hid (HB.out.keep hb7)
   replace HY := Lib.hid (HY.out.keep hb7)
   replace HG3 := Lib.hid (HG3.out.keep hb7)
   replace HG4 := Lib.hid (HG4.out.keep hb7)
   clear hb7
   have a0 := HG3.out.c0
   have a1 := HG3.out.c1
   have b0 := HG4.out.c0
   have b1 := HG4.out.c1
   have HD7 := Lib.hid hd7
   have HL7 := Lib.hid hl7
   clear hd7 hl7
   go_wp2_with fail
   refine (KO2.out _ HG3.out.a HG4.out.a).mono ?_
   rintro e w8 ⟨A8, c8, D8, rfl, hl8, hd8, hb8⟩
   clear a0 a1 b0 b1
   replace HB := Lib.hid (HB.out.keep hb8)
   replace HY := Lib.hid (HY.out.keep hb8)
   replace HG3 := Lib.hid (HG3.out.keep hb8)
   replace HG4 := Lib.hid (HG4.out.keep hb8)
   replace HD7 := Lib.hid (HD7.out.keep hb8)
   clear hb8
   have a0 := HG3.out.c0
   have a1 := HG3.out.c1
   have b0 := HG4.out.c0
   have b1 := HG4.out.c1
   have HD8 := Lib.hid hd8
   have HL8 := Lib.hid hl8
   clear hd8 hl8 a0 a1 b0 b1 HG3 HG4 KO1 KO2
   go_wp2_with fail
   refine (DrawIsSandwich_s HY.out.b hn2).mono ?_
   rintro e vb ⟨s5, B5, m5, d5, x5, s6, B6, m6, d6, x6, s7, B7, m7, d7, x7, rfl, hT, hm7, ho7⟩
   have hm5 := hT.h1
   have hm6 := hT.h2
   have hga5 : GA vb B5 m5 d5 x5 := ⟨hT.o1.rd⟩
   have hga6 : GA vb B6 m6 d6 x6 := ⟨hT.o2.rd⟩
   have hga7 : GA vb B7 m7 d7 x7 := ⟨ho7.rd⟩
   have hbv := hT.b
   replace HB := Lib.hid (HB.out.keep hbv)
   replace HY := Lib.hid (HY.out.keep hbv)
   replace HD7 := Lib.hid (HD7.out.keep hbv)
   replace HD8 := Lib.hid (HD8.out.keep hbv)
   clear hbv hT ho7
   obtain ⟨Ub, hW⟩ : ∃ U : World, U = (((vb.alloc (Obj.cells #[Value.int .i64 s5, .slice B5 m5 d5] 26)).alloc (Obj.cells #[Value.int .i64 s6, .slice B6 m6 d6] 26)).alloc (Obj.cells #[Value.int .i64 s7, .slice B7 m7 d7] 26)) := ⟨_, rfl⟩
   obtain ⟨hg5, hg6, hg7, hbU⟩ := GX.three hga5 hga6 hga7 hW
   have HG5 := Lib.hid hg5
   have HG6 := Lib.hid hg6
   have HG7 := Lib.hid hg7
   have HW := Lib.hid hW
   replace HB := Lib.hid (HB.out.keep hbU)
   replace HY := Lib.hid (HY.out.keep hbU)
   replace HD7 := Lib.hid (HD7.out.keep hbU)
   replace HD8 := Lib.hid (HD8.out.keep hbU)
   clear hbU hW hg5 hg6 hg7 hga5 hga6 hga7
   obtain ⟨sw, hsw⟩ : ∃ b, b = (wiB s5 m5 x5 s7 m7 x7 && wiB s7 m7 x7 s6 m6 x6) := ⟨_, rfl⟩
   have KS1 : Hid (∀ (W : World), GA W B5 m5 d5 x5 → GA W B6 m6 d6 x6 → GA W B7 m7 d7 x7 → Calls Tryz.prog 15 #[.agg #[.int .i64 s5, .slice B5 m5 d5], .agg #[.int .i64 s6, .slice B6 m6 d6], .agg #[.int .i64 s7, .slice B7 m7 d7]] W fun e w' => e = .returned (.bool sw) ∧ Below W.heap.size W w') := fun W h1 h2 h3 => by
    rw [hsw]
    exact IsSandwich_any s5 s6 s7 B5 B6 B7 m5 m6 m7 d5 d6 d7 x5 x6 x7 W W.heap.size h1.rd h2.rd h3.rd (Nat.le_refl _) (by omega) (by omega) (by omega)
   have KS2 : Hid (∀ (W : World), GA W B5 m5 d5 x5 → GA W B6 m6 d6 x6 → GA W B7 m7 d7 x7 → Calls Tryz.prog 22 #[.agg #[.int .i64 s5, .slice B5 m5 d5], .agg #[.int .i64 s6, .slice B6 m6 d6], .agg #[.int .i64 s7, .slice B7 m7 d7]] W fun e w' => e = .returned (.bool sw) ∧ Below W.heap.size W w') := fun W h1 h2 h3 => by
    rw [hsw]
    exact IsSandwich_sany s5 s6 s7 B5 B6 B7 m5 m6 m7 d5 d6 d7 x5 x6 x7 W W.heap.size h1.rd h2.rd h3.rd (Nat.le_refl _) (by omega) (by omega) (by omega)
   have KL : Hid (∀ (W : World), LD W A7 c7 D7 → LD W A8 c8 D8 → Calls Tryz.prog 14 #[.slice A7 D7.length c7, .slice A8 D8.length c8] W fun e w' => e = .returned (.bool true) ∧ Below W.heap.size W w') := fun W h1 h2 => same_lists h1 h2 HL7.out HL8.out optL_len optL_two
   clear hsw
   have e0 := HG5.out.c0
   have e1 := HG5.out.c1
   have e2 := HG6.out.c0
   have e3 := HG6.out.c1
   have e4 := HG7.out.c0
   have e5 := HG7.out.c1
   go_wp2_with fail
   rw [← HW.out]
   clear HW
   have HSC : Hid (∀ z : World, Below Ub.heap.size Ub z → (Below Ub.heap.size Ub z ∧ z.cell? ⟨vb.heap.size, 0, none⟩ = some (.int .i64 s5) ∧ z.cell? ⟨vb.heap.size, 1, none⟩ = some (.slice B5 m5 d5) ∧ z.cell? ⟨vb.heap.size + 1, 0, none⟩ = some (.int .i64 s6) ∧ z.cell? ⟨vb.heap.size + 1, 1, none⟩ = some (.slice B6 m6 d6) ∧ z.cell? ⟨vb.heap.size + 2, 0, none⟩ = some (.int .i64 s7) ∧ z.cell? ⟨vb.heap.size + 2, 1, none⟩ = some (.slice B7 m7 d7))) := fun z hz => ⟨hz, up_ hz e0, up_ hz e1, up_ hz e2, up_ hz e3, up_ hz e4, up_ hz e5⟩
   have HZ0 : Hid (Below Ub.heap.size Ub Ub.drew) := (Below.refl _ _).drew
   have HS1 := Lib.hid (HSC.out _ HZ0.out)
   have KR1 : Hid (∀ z : World, Below Ub.heap.size Ub z → _) := fun z hz => KL.out z (HD7.out.keep hz) (HD8.out.keep hz)
   have KR2 : Hid (∀ z : World, Below Ub.heap.size Ub z → _) := fun z hz => KS1.out z (HG5.out.a.keep hz) (HG6.out.a.keep hz) (HG7.out.a.keep hz)
   have KR3 : Hid (∀ z : World, Below Ub.heap.size Ub z → _) := fun z hz => KS2.out z (HG5.out.a.keep hz) (HG6.out.a.keep hz) (HG7.out.a.keep hz)
   refine wp_region_held_drew (S := fun z => Below Ub.heap.size Ub z ∧ z.cell? ⟨vb.heap.size, 0, none⟩ = some (.int .i64 s5) ∧ z.cell? ⟨vb.heap.size, 1, none⟩ = some (.slice B5 m5 d5) ∧ z.cell? ⟨vb.heap.size + 1, 0, none⟩ = some (.int .i64 s6) ∧ z.cell? ⟨vb.heap.size + 1, 1, none⟩ = some (.slice B6 m6 d6) ∧ z.cell? ⟨vb.heap.size + 2, 0, none⟩ = some (.int .i64 s7) ∧ z.cell? ⟨vb.heap.size + 2, 1, none⟩ = some (.slice B7 m7 d7)) (by kernel_rfl) HS1.out (fun hHeld => ?_)
   refine pcY 0 rfl rfl (by kernel_rfl) (by rfl) (by intro w u; (try dsimp only at u); go_simp <;> with_reducible rfl) ‹_› (fun _ _ _ h => h) ?_; simp only [Act.put, sl0, sl1, sl2]
   iterate 5 (refine ptY rfl rfl (by kernel_rfl) (by rfl) (by intro w u; (try dsimp only at u); go_simp <;> with_reducible rfl) ‹_› (fun _ _ _ h => h) ?_; simp only [Act.put, sl0, sl1, sl2])
   refine wpAnyH_ready (rs := [6]) (by kernel_rfl) (by simp) ?_
   refine AllReadyH.cons rfl (fun K hK => ?_) AllReadyH.nil
   go_simp
   go_at_call 14; refine (KR1.out _ HZ0.out).mono ?_
   rintro e w9 ⟨rfl, hb9⟩
   have hz9 := bl_trans HZ0.out hb9
   refine hK.out _ _ (HSC.out _ hz9) (fun hHeld => ?_)
   clear hK K
   try simp only [Act.put, sl0, sl1, sl2]
   iterate 5 (refine ptY rfl rfl (by kernel_rfl) (by rfl) (by intro w u; (try dsimp only at u); go_simp <;> with_reducible rfl) ‹_› (fun _ _ _ h => h) ?_; simp only [Act.put, sl0, sl1, sl2])
   refine pcY 13 rfl rfl (by kernel_rfl) (by rfl) (by intro w u; (try dsimp only at u); go_simp <;> with_reducible rfl) ‹_› (fun _ _ _ h => h) ?_; simp only [Act.put, sl0, sl1, sl2]
   iterate 2 (refine ptY rfl rfl (by kernel_rfl) (by rfl) (by intro w u; (try dsimp only at u); go_simp <;> with_reducible rfl) ‹_› (fun _ _ _ h => h) ?_; simp only [Act.put, sl0, sl1, sl2])
   refine wpAnyH_ready (rs := [12]) (by kernel_rfl) (by simp) ?_
   refine AllReadyH.cons rfl (fun K hK => ?_) AllReadyH.nil
   go_simp
   go_at_call 15; refine (KR2.out _ hz9).mono ?_
   rintro e w10 ⟨rfl, hb10⟩
   have hz10 := bl_trans hz9 hb10
   refine hK.out _ _ (HSC.out _ hz10) (fun hHeld => ?_)
   clear hK K
   try simp only [Act.put, sl0, sl1, sl2]
   refine wpAnyH_ready (rs := [16]) (by kernel_rfl) (by simp) ?_
   refine AllReadyH.cons rfl (fun K hK => ?_) AllReadyH.nil
   go_simp
   go_at_call 22; refine (KR3.out _ hz10).mono ?_
   rintro e w11 ⟨rfl, hb11⟩
   have hz11 := bl_trans hz10 hb11
   refine hK.out _ _ (HSC.out _ hz11) (fun hHeld => ?_)
   clear hK K
   try simp only [Act.put, sl0, sl1, sl2]
   iterate 3 (refine ptY rfl rfl (by kernel_rfl) (by rfl) (by intro w u; (try dsimp only at u); go_simp <;> with_reducible rfl) ‹_› (fun _ _ _ h => h) ?_; simp only [Act.put, sl0, sl1, sl2])
   refine wpAnyH_done (by kernel_rfl) ?_ _
   replace HB := Lib.hid (HB.out.keep hz11)
   replace HY := Lib.hid (HY.out.keep hz11)
   clear hb9 hz9 hb10 hz10 hb11 hz11 HSC HZ0 HS1 KR1 KR2 KR3
   go_wp2
   go_ret
   exact ⟨ret_bool (by simp), HB.out.below⟩
 ·have hz0 : 0 < z := of_decide_eq_true Hz.out
  obtain ⟨r, vg, rfl, q1, q2, q3, q4⟩ := HP.out rfl
  have KSW : Hid (∀ (W : World), GA W B1 m1 d1 x1 → GA W B2 m2 d2 x2 → GA W A4 N c4 (fun j => (r j : Int)) → Calls Tryz.prog 15 #[.agg #[.int .i64 s1, .slice B1 m1 d1], .agg #[.int .i64 s2, .slice B2 m2 d2], .agg #[.int .i64 (N : Nat), .slice A4 N c4]] W fun e w' => e = .returned (.bool true) ∧ Below W.heap.size W w') := fun W h1 h2 h3 => by
   have := IsSandwich_any s1 s2 N B1 B2 A4 m1 m2 N d1 d2 c4 x1 x2 (fun j => (r j : Int)) W W.heap.size h1.rd h2.rd h3.rd (Nat.le_refl _) (by omega) (by omega) (by omega)
   rwa [q1, q2] at this
  have KIN : Hid (∀ (W : World), GA W A4 N c4 (fun j => (r j : Int)) → Calls Tryz.prog 16 #[.agg #[.int .i64 (N : Nat), .slice A4 N c4], .string t] W fun e w' => e = .returned (.bool true) ∧ Below W.heap.size W w') := fun W h => by
   have := IsIn_sv (A := A4) (c := c4) ⟨vg, h.rd⟩ t
   rwa [q3] at this
  have HVG := Lib.hid vg
  have HQ4 := Lib.hid q4
  clear q1 q2 q3 q4 vg HP
  go_wp2_with fail
  refine (same_graphs HX.out.a HZ.out.a (by omega)).mono ?_
  rintro e w12 ⟨rfl, hb12⟩
  clear a0 a1 b0 b1 x0 x1' y0 y1
  replace HB := Lib.hid (HB.out.keep hb12)
  replace HY := Lib.hid (HY.out.keep hb12)
  replace HG1 := Lib.hid (HG1.out.keep hb12)
  replace HG2 := Lib.hid (HG2.out.keep hb12)
  replace HX := Lib.hid (HX.out.keep hb12)
  replace HZ := Lib.hid (HZ.out.keep hb12)
  replace HD5 := Lib.hid (HD5.out.keep hb12)
  replace HD6 := Lib.hid (HD6.out.keep hb12)
  clear hb12
  have a0 := HG1.out.c0
  have a1 := HG1.out.c1
  have b0 := HG2.out.c0
  have b1 := HG2.out.c1
  have x0 := HX.out.c0
  have x1' := HX.out.c1
  have y0 := HZ.out.c0
  have y1 := HZ.out.c1
  go_wp2_with fail
  refine (K4.out _ _ _ _ _ HG1.out.a HG2.out.a).mono ?_
  rintro e w13 ⟨rfl, hb13⟩
  clear a0 a1 b0 b1 x0 x1' y0 y1
  replace HB := Lib.hid (HB.out.keep hb13)
  replace HY := Lib.hid (HY.out.keep hb13)
  replace HG1 := Lib.hid (HG1.out.keep hb13)
  replace HG2 := Lib.hid (HG2.out.keep hb13)
  replace HX := Lib.hid (HX.out.keep hb13)
  replace HZ := Lib.hid (HZ.out.keep hb13)
  replace HD5 := Lib.hid (HD5.out.keep hb13)
  replace HD6 := Lib.hid (HD6.out.keep hb13)
  clear hb13
  have a0 := HG1.out.c0
  have a1 := HG1.out.c1
  have b0 := HG2.out.c0
  have b1 := HG2.out.c1
  have x0 := HX.out.c0
  have x1' := HX.out.c1
  have y0 := HZ.out.c0
  have y1 := HZ.out.c1
  go_wp2_with fail
  refine (KL.out _ HD5.out HD6.out).mono ?_
  rintro e w14 ⟨rfl, hb14⟩
  clear a0 a1 b0 b1 x0 x1' y0 y1
  replace HB := Lib.hid (HB.out.keep hb14)
  replace HY := Lib.hid (HY.out.keep hb14)
  replace HG1 := Lib.hid (HG1.out.keep hb14)
  replace HG2 := Lib.hid (HG2.out.keep hb14)
  replace HX := Lib.hid (HX.out.keep hb14)
  replace HZ := Lib.hid (HZ.out.keep hb14)
  replace HD5 := Lib.hid (HD5.out.keep hb14)
  replace HD6 := Lib.hid (HD6.out.keep hb14)
  clear hb14
  have a0 := HG1.out.c0
  have a1 := HG1.out.c1
  have b0 := HG2.out.c0
  have b1 := HG2.out.c1
  have x0 := HX.out.c0
  have x1' := HX.out.c1
  have y0 := HZ.out.c0
  have y1 := HZ.out.c1
  go_wp2_with fail
  refine (KSW.out _ HG1.out.a HG2.out.a HZ.out.a).mono ?_
  rintro e w15 ⟨rfl, hb15⟩
  clear a0 a1 b0 b1 x0 x1' y0 y1
  replace HB := Lib.hid (HB.out.keep hb15)
  replace HY := Lib.hid (HY.out.keep hb15)
  replace HG1 := Lib.hid (HG1.out.keep hb15)
  replace HG2 := Lib.hid (HG2.out.keep hb15)
  replace HX := Lib.hid (HX.out.keep hb15)
  replace HZ := Lib.hid (HZ.out.keep hb15)
  replace HD5 := Lib.hid (HD5.out.keep hb15)
  replace HD6 := Lib.hid (HD6.out.keep hb15)
  clear hb15
  have a0 := HG1.out.c0
  have a1 := HG1.out.c1
  have b0 := HG2.out.c0
  have b1 := HG2.out.c1
  have x0 := HX.out.c0
  have x1' := HX.out.c1
  have y0 := HZ.out.c0
  have y1 := HZ.out.c1
  go_wp2_with fail
  refine (KIN.out _ HZ.out.a).mono ?_
  rintro e w16 ⟨rfl, hb16⟩
  clear a0 a1 b0 b1 x0 x1' y0 y1
  replace HB := Lib.hid (HB.out.keep hb16)
  replace HY := Lib.hid (HY.out.keep hb16)
  replace HG1 := Lib.hid (HG1.out.keep hb16)
  replace HG2 := Lib.hid (HG2.out.keep hb16)
  replace HX := Lib.hid (HX.out.keep hb16)
  replace HZ := Lib.hid (HZ.out.keep hb16)
  replace HD5 := Lib.hid (HD5.out.keep hb16)
  replace HD6 := Lib.hid (HD6.out.keep hb16)
  clear hb16
  have a0 := HG1.out.c0
  have a1 := HG1.out.c1
  have b0 := HG2.out.c0
  have b1 := HG2.out.c1
  have x0 := HX.out.c0
  have x1' := HX.out.c1
  have y0 := HZ.out.c0
  have y1 := HZ.out.c1
  have Hat : Hid (∀ k, k < D6.length → ∃ v u : Nat, (lists D6)[k]? = some [(v : Int), (u : Int)] ∧ v < N ∧ u < N ∧ (r v).testBit u = true) := fun k hk => by
   have h1 : k < (lists D6).length := by unfold lists; rw [List.length_map]; exact hk
   obtain ⟨v, u, e1, e2, e3, e4⟩ := HQ4.out _ (by rw [← HL6.out]; exact List.getElem_mem h1)
   exact ⟨v, u, by rw [List.getElem?_eq_getElem h1, e1], e2, e3, e4⟩
  obtain ⟨n6, hn6⟩ : ∃ k, k = D6.length := ⟨_, rfl⟩
  have hn21 : n6 ≤ 21 := by rw [hn6]; exact (lists_small HL6.out hF1 HF2.out).1
  rw [← hn6] at Hat ⊢
  clear hn6
  clear a0 a1 b0 b1 x0 x1' y0 y1 HG1 HG2 HX HD5 HL5 K1 K2 K3 K4 K5 K6 KL KSW KIN
  go_wp2
  go_loopw [15] (fun i wr => ∃ k : Nat, k ≤ n6 ∧ i = .int .i64 k ∧ Hid (From w0 wr) ∧ Hid (BX wr A n c) ∧ Hid (GX wr v2.heap.size (N : Nat) A4 N c4 (fun j => (r j : Int))) ∧ Hid (LD wr A6 c6 D6)) (fun i _ => n6 - (intOf i).toNat)
  case atStart => exact ⟨0, Nat.zero_le _, rfl, HB, HY, HZ, HD6⟩
  case round =>
   clear HB HY HZ HD6
   obtain ⟨k, hk, rfl, HB, HY, HZ, HD6⟩ := hrel
   by_cases hlt : k < n6
   ·have i1 : (k : Int) < (n6 : Int) := by omega
    obtain ⟨v, u, e1, e2, e3, e4⟩ := Hat.out k hlt
    obtain ⟨bD, oD, gd, od, cd, rfl, p0, p1, p2⟩ := HD6.out.pairAt e1
    have KH : Hid (∀ z : World, GA z A4 N c4 (fun j => (r j : Int)) → Calls Tryz.prog 17 #[.agg #[.int .i64 (N : Nat), .slice A4 N c4], .int .i64 (v : Nat), .int .i64 (u : Nat)] z fun e w' => e = .returned (.bool true) ∧ Below z.heap.size z w') := fun z h => by
     have := HasEdge_sv (A := A4) (c := c4) ⟨HVG.out, h.rd⟩ e2 e3
     rwa [e4] at this
    have y0 := HZ.out.c0
    have y1 := HZ.out.c1
    clear e1 e2 e3 e4
    go_wp2
    have HSC : Hid (∀ z : World, Below wr.heap.size wr z → (Below wr.heap.size wr z ∧ z.cell? ⟨v2.heap.size, 0, none⟩ = some (.int .i64 (N : Nat)) ∧ z.cell? ⟨v2.heap.size, 1, none⟩ = some (.slice A4 N c4) ∧ z.cell? ⟨bD, oD + k, none⟩ = some (.slice (some ⟨gd, od, none⟩) 2 cd) ∧ z.cell? ⟨gd, od, none⟩ = some (.int .i64 (v : Nat)) ∧ z.cell? ⟨gd, od + 1, none⟩ = some (.int .i64 (u : Nat)))) := fun z hz => ⟨hz, up_ hz y0, up_ hz y1, up_ hz p0, up_ hz p1, up_ hz p2⟩
    have HZ0 : Hid (Below wr.heap.size wr wr.drew) := (Below.refl _ _).drew
    have HS1 := Lib.hid (HSC.out _ HZ0.out)
    have KR1 : Hid (∀ z : World, Below wr.heap.size wr z → _) := fun z hz => KH.out z (HZ.out.a.keep hz)
    refine wp_region_held_drew (S := fun z => Below wr.heap.size wr z ∧ z.cell? ⟨v2.heap.size, 0, none⟩ = some (.int .i64 (N : Nat)) ∧ z.cell? ⟨v2.heap.size, 1, none⟩ = some (.slice A4 N c4) ∧ z.cell? ⟨bD, oD + k, none⟩ = some (.slice (some ⟨gd, od, none⟩) 2 cd) ∧ z.cell? ⟨gd, od, none⟩ = some (.int .i64 (v : Nat)) ∧ z.cell? ⟨gd, od + 1, none⟩ = some (.int .i64 (u : Nat))) (by kernel_rfl) HS1.out (fun hHeld => ?_)
    refine pcY 0 rfl rfl (by kernel_rfl) (by rfl) (by intro w u; (try dsimp only at u); go_simp <;> with_reducible rfl) ‹_› (fun _ _ _ h => h) ?_; simp only [Act.put, sl0, sl1, sl2]
    iterate 12 (refine ptY rfl rfl (by kernel_rfl) (by rfl) (by intro w u; (try dsimp only at u); go_simp <;> with_reducible rfl) ‹_› (fun _ _ _ h => h) ?_; simp only [Act.put, sl0, sl1, sl2])
    refine wpAnyH_ready (rs := [13]) (by kernel_rfl) (by simp) ?_
    refine AllReadyH.cons rfl (fun K hK => ?_) AllReadyH.nil
    go_simp
    go_at_call 17; refine (KR1.out _ HZ0.out).mono ?_
    rintro e w17 ⟨rfl, hb17⟩
    have hz17 := bl_trans HZ0.out hb17
    refine hK.out _ _ (HSC.out _ hz17) (fun hHeld => ?_)
    clear hK K
    try simp only [Act.put, sl0, sl1, sl2]
    refine ptY rfl rfl (by kernel_rfl) (by rfl) (by intro w u; (try dsimp only at u); go_simp <;> with_reducible rfl) ‹_› (fun _ _ _ h => h) ?_; simp only [Act.put, sl0, sl1, sl2]
    refine wpAnyH_done (by kernel_rfl) ?_ _
    replace HB := Lib.hid (HB.out.keep hz17)
    replace HY := Lib.hid (HY.out.keep hz17)
    replace HZ := Lib.hid (HZ.out.keep hz17)
    replace HD6 := Lib.hid (HD6.out.keep hz17)
    clear hb17 hz17 HSC HZ0 HS1 KR1
    clear y0 y1 p0 p1 p2 KH
    go_wp2
    go_roundw
    case rel => exact ⟨k + 1, by omega, by go_num, HB, HY, HZ, HD6⟩
    case measure => (simp [intOf] <;> omega)
   ·obtain rfl : k = n6 := by omega
    have i1 : (k : Int) ≤ (k : Int) := Int.le_refl _
    clear HZ HD6 Hat HL6 HVG HQ4
    go_wp2_with fail
    refine (DrawOptionalEdges_s HY.out.b hn2).mono ?_
    rintro e va ⟨s3, B3, m3, d3, x3, s4, B4, m4, d4, x4, rfl, hT⟩
    have hm3 := hT.h1
    have hm4 := hT.h2
    have hga3 : GA va B3 m3 d3 x3 := ⟨hT.o1.rd⟩
    have hga4 : GA va B4 m4 d4 x4 := ⟨hT.o2.rd⟩
    have hbv := hT.b
    replace HB := Lib.hid (HB.out.keep hbv)
    replace HY := Lib.hid (HY.out.keep hbv)
    clear hbv hT
    obtain ⟨Ua, hW⟩ : ∃ U : World, U = ((va.alloc (Obj.cells #[Value.int .i64 s3, .slice B3 m3 d3] 26)).alloc (Obj.cells #[Value.int .i64 s4, .slice B4 m4 d4] 26)) := ⟨_, rfl⟩
    obtain ⟨hg3, hg4, hbU⟩ := GX.two (s1 := s3) (s2 := s4) hga3 hga4
    rw [← hW] at hg3 hg4 hbU
    have HG3 := Lib.hid hg3
    have HG4 := Lib.hid hg4
    have HW := Lib.hid hW
    replace HB := Lib.hid (HB.out.keep hbU)
    replace HY := Lib.hid (HY.out.keep hbU)
    clear hbU hW hg3 hg4 hga3 hga4
    obtain ⟨wi, hwi⟩ : ∃ b, b = wiB s3 m3 x3 s4 m4 x4 := ⟨_, rfl⟩
    have KO1 : Hid (∀ (W : World), GA W B3 m3 d3 x3 → GA W B4 m4 d4 x4 → Calls Tryz.prog 19 #[.agg #[.int .i64 s3, .slice B3 m3 d3], .agg #[.int .i64 s4, .slice B4 m4 d4]] W fun e w' => ∃ (A' : Option Addr) (c' : Nat) (D : List Dsc), e = .returned (.tuple #[.slice A' D.length c', .bool wi]) ∧ lists D = optL s3 m3 x3 s4 m4 x4 ∧ LD w' A' c' D ∧ Below W.heap.size W w') := fun W h1 h2 => by
     refine (OptionalEdges_i s3 B3 m3 d3 x3 s4 B4 m4 d4 x4 W W.heap.size h1.rd h2.rd (Nat.le_refl _) (by omega) (by omega)).mono ?_
     rintro e w' ⟨A', c', D, he, hl, ho, hb⟩
     exact ⟨A', c', D, by rw [he, hwi], hl, ⟨ho.rdD⟩, hb⟩
    have KO2 : Hid (∀ (W : World), GA W B3 m3 d3 x3 → GA W B4 m4 d4 x4 → Calls Tryz.prog 20 #[.agg #[.int .i64 s3, .slice B3 m3 d3], .agg #[.int .i64 s4, .slice B4 m4 d4]] W fun e w' => ∃ (A' : Option Addr) (c' : Nat) (D : List Dsc), e = .returned (.tuple #[.slice A' D.length c', .bool wi]) ∧ lists D = optL s3 m3 x3 s4 m4 x4 ∧ LD w' A' c' D ∧ Below W.heap.size W w') := fun W h1 h2 => by
     refine (OptionalEdges_s s3 B3 m3 d3 x3 s4 B4 m4 d4 x4 W W.heap.size h1.rd h2.rd (Nat.le_refl _) (by omega) (by omega)).mono ?_
     rintro e w' ⟨A', c', D, he, hl, ho, hb⟩
     exact ⟨A', c', D, by rw [he, hwi], hl, ⟨ho.rdD⟩, hb⟩
    clear hwi
    have a0 := HG3.out.c0
    have a1 := HG3.out.c1
    have b0 := HG4.out.c0
    have b1 := HG4.out.c1
    go_wp2_with fail
    rw [← HW.out]
    refine (KO1.out _ HG3.out.a HG4.out.a).mono ?_
    rintro e w18 ⟨A7, c7, D7, rfl, hl7, hd7, hb18⟩
    clear HW
    clear a0 a1 b0 b1
    replace HB := Lib.hid (HB.out.keep hb18)
    replace HY := Lib.hid (HY.out.keep hb18)
    replace HG3 := Lib.hid (HG3.out.keep hb18)
    replace HG4 := Lib.hid (HG4.out.keep hb18)
    clear hb18
    have a0 := HG3.out.c0
    have a1 := HG3.out.c1
    have b0 := HG4.out.c0
    have b1 := HG4.out.c1
    have HD7 := Lib.hid hd7
    have HL7 := Lib.hid hl7
    clear hd7 hl7
    go_wp2_with fail
    refine (KO2.out _ HG3.out.a HG4.out.a).mono ?_
    rintro e w19 ⟨A8, c8, D8, rfl, hl8, hd8, hb19⟩
    clear a0 a1 b0 b1
    replace HB := Lib.hid (HB.out.keep hb19)
    replace HY := Lib.hid (HY.out.keep hb19)
    replace HG3 := Lib.hid (HG3.out.keep hb19)
    replace HG4 := Lib.hid (HG4.out.keep hb19)
    replace HD7 := Lib.hid (HD7.out.keep hb19)
    clear hb19
    have a0 := HG3.out.c0
    have a1 := HG3.out.c1
    have b0 := HG4.out.c0
    have b1 := HG4.out.c1
    have HD8 := Lib.hid hd8
    have HL8 := Lib.hid hl8
    clear hd8 hl8 a0 a1 b0 b1 HG3 HG4 KO1 KO2
    go_wp2_with fail
    refine (DrawIsSandwich_s HY.out.b hn2).mono ?_
    rintro e vb ⟨s5, B5, m5, d5, x5, s6, B6, m6, d6, x6, s7, B7, m7, d7, x7, rfl, hT, hm7, ho7⟩
    have hm5 := hT.h1
    have hm6 := hT.h2
    have hga5 : GA vb B5 m5 d5 x5 := ⟨hT.o1.rd⟩
    have hga6 : GA vb B6 m6 d6 x6 := ⟨hT.o2.rd⟩
    have hga7 : GA vb B7 m7 d7 x7 := ⟨ho7.rd⟩
    have hbv := hT.b
    replace HB := Lib.hid (HB.out.keep hbv)
    replace HY := Lib.hid (HY.out.keep hbv)
    replace HD7 := Lib.hid (HD7.out.keep hbv)
    replace HD8 := Lib.hid (HD8.out.keep hbv)
    clear hbv hT ho7
    obtain ⟨Ub, hW⟩ : ∃ U : World, U = (((vb.alloc (Obj.cells #[Value.int .i64 s5, .slice B5 m5 d5] 26)).alloc (Obj.cells #[Value.int .i64 s6, .slice B6 m6 d6] 26)).alloc (Obj.cells #[Value.int .i64 s7, .slice B7 m7 d7] 26)) := ⟨_, rfl⟩
    obtain ⟨hg5, hg6, hg7, hbU⟩ := GX.three hga5 hga6 hga7 hW
    have HG5 := Lib.hid hg5
    have HG6 := Lib.hid hg6
    have HG7 := Lib.hid hg7
    have HW := Lib.hid hW
    replace HB := Lib.hid (HB.out.keep hbU)
    replace HY := Lib.hid (HY.out.keep hbU)
    replace HD7 := Lib.hid (HD7.out.keep hbU)
    replace HD8 := Lib.hid (HD8.out.keep hbU)
    clear hbU hW hg5 hg6 hg7 hga5 hga6 hga7
    obtain ⟨sw, hsw⟩ : ∃ b, b = (wiB s5 m5 x5 s7 m7 x7 && wiB s7 m7 x7 s6 m6 x6) := ⟨_, rfl⟩
    have KS1 : Hid (∀ (W : World), GA W B5 m5 d5 x5 → GA W B6 m6 d6 x6 → GA W B7 m7 d7 x7 → Calls Tryz.prog 15 #[.agg #[.int .i64 s5, .slice B5 m5 d5], .agg #[.int .i64 s6, .slice B6 m6 d6], .agg #[.int .i64 s7, .slice B7 m7 d7]] W fun e w' => e = .returned (.bool sw) ∧ Below W.heap.size W w') := fun W h1 h2 h3 => by
     rw [hsw]
     exact IsSandwich_any s5 s6 s7 B5 B6 B7 m5 m6 m7 d5 d6 d7 x5 x6 x7 W W.heap.size h1.rd h2.rd h3.rd (Nat.le_refl _) (by omega) (by omega) (by omega)
    have KS2 : Hid (∀ (W : World), GA W B5 m5 d5 x5 → GA W B6 m6 d6 x6 → GA W B7 m7 d7 x7 → Calls Tryz.prog 22 #[.agg #[.int .i64 s5, .slice B5 m5 d5], .agg #[.int .i64 s6, .slice B6 m6 d6], .agg #[.int .i64 s7, .slice B7 m7 d7]] W fun e w' => e = .returned (.bool sw) ∧ Below W.heap.size W w') := fun W h1 h2 h3 => by
     rw [hsw]
     exact IsSandwich_sany s5 s6 s7 B5 B6 B7 m5 m6 m7 d5 d6 d7 x5 x6 x7 W W.heap.size h1.rd h2.rd h3.rd (Nat.le_refl _) (by omega) (by omega) (by omega)
    have KL : Hid (∀ (W : World), LD W A7 c7 D7 → LD W A8 c8 D8 → Calls Tryz.prog 14 #[.slice A7 D7.length c7, .slice A8 D8.length c8] W fun e w' => e = .returned (.bool true) ∧ Below W.heap.size W w') := fun W h1 h2 => same_lists h1 h2 HL7.out HL8.out optL_len optL_two
    clear hsw
    have e0 := HG5.out.c0
    have e1 := HG5.out.c1
    have e2 := HG6.out.c0
    have e3 := HG6.out.c1
    have e4 := HG7.out.c0
    have e5 := HG7.out.c1
    go_wp2_with fail
    rw [← HW.out]
    clear HW
    have HSC : Hid (∀ z : World, Below Ub.heap.size Ub z → (Below Ub.heap.size Ub z ∧ z.cell? ⟨vb.heap.size, 0, none⟩ = some (.int .i64 s5) ∧ z.cell? ⟨vb.heap.size, 1, none⟩ = some (.slice B5 m5 d5) ∧ z.cell? ⟨vb.heap.size + 1, 0, none⟩ = some (.int .i64 s6) ∧ z.cell? ⟨vb.heap.size + 1, 1, none⟩ = some (.slice B6 m6 d6) ∧ z.cell? ⟨vb.heap.size + 2, 0, none⟩ = some (.int .i64 s7) ∧ z.cell? ⟨vb.heap.size + 2, 1, none⟩ = some (.slice B7 m7 d7))) := fun z hz => ⟨hz, up_ hz e0, up_ hz e1, up_ hz e2, up_ hz e3, up_ hz e4, up_ hz e5⟩
    have HZ0 : Hid (Below Ub.heap.size Ub Ub.drew) := (Below.refl _ _).drew
    have HS1 := Lib.hid (HSC.out _ HZ0.out)
    have KR1 : Hid (∀ z : World, Below Ub.heap.size Ub z → _) := fun z hz => KL.out z (HD7.out.keep hz) (HD8.out.keep hz)
    have KR2 : Hid (∀ z : World, Below Ub.heap.size Ub z → _) := fun z hz => KS1.out z (HG5.out.a.keep hz) (HG6.out.a.keep hz) (HG7.out.a.keep hz)
    have KR3 : Hid (∀ z : World, Below Ub.heap.size Ub z → _) := fun z hz => KS2.out z (HG5.out.a.keep hz) (HG6.out.a.keep hz) (HG7.out.a.keep hz)
    refine wp_region_held_drew (S := fun z => Below Ub.heap.size Ub z ∧ z.cell? ⟨vb.heap.size, 0, none⟩ = some (.int .i64 s5) ∧ z.cell? ⟨vb.heap.size, 1, none⟩ = some (.slice B5 m5 d5) ∧ z.cell? ⟨vb.heap.size + 1, 0, none⟩ = some (.int .i64 s6) ∧ z.cell? ⟨vb.heap.size + 1, 1, none⟩ = some (.slice B6 m6 d6) ∧ z.cell? ⟨vb.heap.size + 2, 0, none⟩ = some (.int .i64 s7) ∧ z.cell? ⟨vb.heap.size + 2, 1, none⟩ = some (.slice B7 m7 d7)) (by kernel_rfl) HS1.out (fun hHeld => ?_)
    refine pcY 0 rfl rfl (by kernel_rfl) (by rfl) (by intro w u; (try dsimp only at u); go_simp <;> with_reducible rfl) ‹_› (fun _ _ _ h => h) ?_; simp only [Act.put, sl0, sl1, sl2]
    iterate 5 (refine ptY rfl rfl (by kernel_rfl) (by rfl) (by intro w u; (try dsimp only at u); go_simp <;> with_reducible rfl) ‹_› (fun _ _ _ h => h) ?_; simp only [Act.put, sl0, sl1, sl2])
    refine wpAnyH_ready (rs := [6]) (by kernel_rfl) (by simp) ?_
    refine AllReadyH.cons rfl (fun K hK => ?_) AllReadyH.nil
    go_simp
    go_at_call 14; refine (KR1.out _ HZ0.out).mono ?_
    rintro e w20 ⟨rfl, hb20⟩
    have hz20 := bl_trans HZ0.out hb20
    refine hK.out _ _ (HSC.out _ hz20) (fun hHeld => ?_)
    clear hK K
    try simp only [Act.put, sl0, sl1, sl2]
    iterate 5 (refine ptY rfl rfl (by kernel_rfl) (by rfl) (by intro w u; (try dsimp only at u); go_simp <;> with_reducible rfl) ‹_› (fun _ _ _ h => h) ?_; simp only [Act.put, sl0, sl1, sl2])
    refine pcY 13 rfl rfl (by kernel_rfl) (by rfl) (by intro w u; (try dsimp only at u); go_simp <;> with_reducible rfl) ‹_› (fun _ _ _ h => h) ?_; simp only [Act.put, sl0, sl1, sl2]
    iterate 2 (refine ptY rfl rfl (by kernel_rfl) (by rfl) (by intro w u; (try dsimp only at u); go_simp <;> with_reducible rfl) ‹_› (fun _ _ _ h => h) ?_; simp only [Act.put, sl0, sl1, sl2])
    refine wpAnyH_ready (rs := [12]) (by kernel_rfl) (by simp) ?_
    refine AllReadyH.cons rfl (fun K hK => ?_) AllReadyH.nil
    go_simp
    go_at_call 15; refine (KR2.out _ hz20).mono ?_
    rintro e w21 ⟨rfl, hb21⟩
    have hz21 := bl_trans hz20 hb21
    refine hK.out _ _ (HSC.out _ hz21) (fun hHeld => ?_)
    clear hK K
    try simp only [Act.put, sl0, sl1, sl2]
    refine wpAnyH_ready (rs := [16]) (by kernel_rfl) (by simp) ?_
    refine AllReadyH.cons rfl (fun K hK => ?_) AllReadyH.nil
    go_simp
    go_at_call 22; refine (KR3.out _ hz21).mono ?_
    rintro e w22 ⟨rfl, hb22⟩
    have hz22 := bl_trans hz21 hb22
    refine hK.out _ _ (HSC.out _ hz22) (fun hHeld => ?_)
    clear hK K
    try simp only [Act.put, sl0, sl1, sl2]
    iterate 3 (refine ptY rfl rfl (by kernel_rfl) (by rfl) (by intro w u; (try dsimp only at u); go_simp <;> with_reducible rfl) ‹_› (fun _ _ _ h => h) ?_; simp only [Act.put, sl0, sl1, sl2])
    refine wpAnyH_done (by kernel_rfl) ?_ _
    replace HB := Lib.hid (HB.out.keep hz22)
    replace HY := Lib.hid (HY.out.keep hz22)
    clear hb20 hz20 hb21 hz21 hb22 hz22 HSC HZ0 HS1 KR1 KR2 KR3
    go_wp2
    go_ret
    exact ⟨ret_bool (by simp), HB.out.below⟩
end Go.Proofs.YticadlkcjhglnaaGreat
