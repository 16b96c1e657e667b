/-
  Contract: the reference's FormatClaim.
-/
import Derived.Test.YtncjfgebolikoaaDoorQwFcP
namespace Go.Proofs.YtncjfgebolikoaaDoor
open Go.RowKit

set_option maxRecDepth 100000 in
set_option maxHeartbeats 3200000 in
theorem FormatClaim_sn (k : Clm) (w : World) (h : RdK w w.heap.size k) (hs : SmK k) (hno : ¬ ((1 ≤ k.K ∧ k.K ≤ 6) ∧ okB k.s k.n0 k.x0 = true)) :
    Calls Tryd.prog 12 #[.agg #[.int .i64 k.K, .int .i64 k.s, .slice k.A0 k.n0 k.c0, .string k.t, .slice k.A1 k.n1 k.c1, .slice k.A2 k.n2 k.c2, .slice k.A3 k.D.length k.c3]] w fun e w' => e = .returned (.string (fcB k)) ∧ Below w.heap.size w w' := by
  obtain ⟨W, hW⟩ : ∃ W : World, W = (w.alloc (Obj.cells #[.int .i64 k.K, .int .i64 k.s, .slice k.A0 k.n0 k.c0, .string k.t, .slice k.A1 k.n1 k.c1, .slice k.A2 k.n2 k.c2, .slice k.A3 k.D.length k.c3] 39)) := ⟨_, rfl⟩
  have HB : Hid (From w W) := by rw [hW]; exact From.alloc _ _
  have HC : Hid (CB W w.heap.size k.K k) := by rw [hW]; exact CB.new _ _ _
  have HR : Hid (∀ z, Below w.heap.size w z → RdK z z.heap.size k) := fun z hz => h.keep hz hz.size
  have HW := Lib.hid hW
  obtain ⟨s0, s1, s2, s3, s4, s5⟩ := hs
  clear hW h
  have HO := Lib.hid (fcB_no hno)
  have hor : (fgB k.s k.n0 k.x0).toList.isEmpty = true ∨ (fgB k.s k.n0 k.x0).toList.isEmpty = false ∧ (cwB k.K).toList.isEmpty = true := by
    cases ho : okB k.s k.n0 k.x0
    · left; rw [fgB_no ho, ByteArray.toList_eq]; rfl
    · right
      refine ⟨some_text (by have := fgB_some ho; omega), ?_⟩
      rw [cwB_no (fun h => hno ⟨h, ho⟩), ByteArray.toList_eq]; rfl
  have KG : Hid (∀ z, Below w.heap.size w z → _) := fun z hz => FormatGraph_s k.s k.A0 k.n0 k.c0 k.x0 z (HR.out z hz).1 s0
  have KW : Hid (∀ z : World, _) := fun z => ClaimWord_sv k.K z
  obtain ⟨G, hG⟩ : ∃ G, G = fgB k.s k.n0 k.x0 := ⟨_, rfl⟩
  obtain ⟨Wd, hWd⟩ : ∃ Wd, Wd = cwB k.K := ⟨_, rfl⟩
  rw [← hG] at KG hor
  rw [← hWd] at KW hor
  clear hno hG hWd HR
  go_enter Tryd.func12, Tryd.ntmps12
  have b0 := HC.out.c0
  have b1 := HC.out.c1
  have b2 := HC.out.c2
  go_wp2_with fail
  rw [← HW.out]
  refine (KG.out W HB.out.below).mono ?_
  rintro e w1 ⟨rfl, hb1⟩
  clear HW
  clear b0 b1 b2
  replace HB := Lib.hid (HB.out.keep hb1)
  replace HC := Lib.hid (HC.out.keep hb1)
  clear hb1
  have b0 := HC.out.c0
  have b1 := HC.out.c1
  have b2 := HC.out.c2
  go_wp2_with fail
  refine (KW.out w1).mono ?_
  rintro e w2 ⟨rfl, hb2⟩
  clear b0 b1 b2
  replace HB := Lib.hid (HB.out.keep hb2)
  replace HC := Lib.hid (HC.out.keep hb2)
  clear hb2
  have b0 := HC.out.c0
  have b1 := HC.out.c1
  have b2 := HC.out.c2
  rcases hor with hg | ⟨hg, hw⟩
  · go_wp2
    go_ret
    exact ⟨by rw [HO.out]; rfl, HB.out.below⟩
  · go_wp2
    go_ret
    exact ⟨by rw [HO.out]; rfl, HB.out.below⟩

set_option maxRecDepth 100000 in
set_option maxHeartbeats 3200000 in
theorem FormatClaim_s1 (k : Clm) (w : World) (h : RdK w w.heap.size k) (hs : SmK k) (hI : I64K k) (hK : k.K = 1) (hyes : (1 ≤ k.K ∧ k.K ≤ 6) ∧ okB k.s k.n0 k.x0 = true) :
    Calls Tryd.prog 12 #[.agg #[.int .i64 1, .int .i64 k.s, .slice k.A0 k.n0 k.c0, .string k.t, .slice k.A1 k.n1 k.c1, .slice k.A2 k.n2 k.c2, .slice k.A3 k.D.length k.c3]] w fun e w' => e = .returned (.string (fcB k)) ∧ Below w.heap.size w w' := by
  obtain ⟨W, hW⟩ : ∃ W : World, W = (w.alloc (Obj.cells #[.int .i64 1, .int .i64 k.s, .slice k.A0 k.n0 k.c0, .string k.t, .slice k.A1 k.n1 k.c1, .slice k.A2 k.n2 k.c2, .slice k.A3 k.D.length k.c3] 39)) := ⟨_, rfl⟩
  have HB : Hid (From w W) := by rw [hW]; exact From.alloc _ _
  have HC : Hid (CB W w.heap.size 1 k) := by rw [hW]; exact CB.new _ _ _
  have HR : Hid (∀ z, Below w.heap.size w z → RdK z z.heap.size k) := fun z hz => h.keep hz hz.size
  have HW := Lib.hid hW
  obtain ⟨s0, s1, s2, s3, s4, s5⟩ := hs
  clear hW h
  have HY : Hid (fcB k = fcY k) := fcB_yes hyes
  have HHd : Hid (fcH k = cwB 1 ++ ⟨#[32]⟩ ++ fgB k.s k.n0 k.x0) := by show _ = _; unfold fcH; rw [hK]
  have hwsz := cwB_size (K := 1) (by omega)
  have hgsz := fgB_size (s := k.s) (m := k.n0) (x := k.x0)
  have hg2 := fgB_some hyes.2
  have KG : Hid (∀ z, Below w.heap.size w z → _) := fun z hz => FormatGraph_s k.s k.A0 k.n0 k.c0 k.x0 z (HR.out z hz).1 s0
  have KW : Hid (∀ z : World, _) := fun z => ClaimWord_sy 1 (by omega) z
  have HX := Lib.hid (fcY_1 hK)
  have KN1 : Hid (∀ z, Below w.heap.size w z → _) := fun z hz => l33Numbers_s k.A1 k.n1 k.c1 k.x1 z (HR.out z hz).2.1 hI.1 s2
  have z1 := nmB_size hI.1
  have KN2 : Hid (∀ z, Below w.heap.size w z → _) := fun z hz => l33Numbers_s k.A2 k.n2 k.c2 k.x2 z (HR.out z hz).2.2.1 hI.2.1 s3
  have z2 := nmB_size hI.2.1
  obtain ⟨G, hG⟩ : ∃ X, X = fgB k.s k.n0 k.x0 := ⟨_, rfl⟩
  rw [← hG] at KG hgsz hg2 HHd
  obtain ⟨Wd, hWd⟩ : ∃ X, X = cwB 1 := ⟨_, rfl⟩
  rw [← hWd] at KW hwsz HHd
  obtain ⟨Hd, hHd⟩ : ∃ X, X = fcH k := ⟨_, rfl⟩
  rw [← hHd] at HHd HX
  obtain ⟨N1, hN1⟩ : ∃ X, X = nmB k.x1 k.n1 := ⟨_, rfl⟩
  rw [← hN1] at KN1 z1 HX
  obtain ⟨N2, hN2⟩ : ∃ X, X = nmB k.x2 k.n2 := ⟨_, rfl⟩
  rw [← hN2] at KN2 z2 HX
  have HE2 : Hid (fcB k = fcY k) := HY.out
  clear HY hG hWd hHd hN1 hN2
  have hge : G.toList.isEmpty = false := some_text (by omega)
  have hwe : Wd.toList.isEmpty = false := some_text (by omega)
  clear hyes hI HR
  have gd0 : ¬ 9223372036854775807 < Wd.size + 1 := by omega
  have gd1 : ¬ 9223372036854775807 < Wd.size + 1 + G.size := by omega
  have gd2 : ¬ 9223372036854775807 < Wd.size + 1 + G.size + 4 := by omega
  have gd3 : ¬ 9223372036854775807 < Wd.size + 1 + G.size + 4 + k.t.size := by omega
  have gd4 : ¬ 9223372036854775807 < Wd.size + 1 + G.size + 4 + k.t.size + 4 := by omega
  have gd5 : ¬ 9223372036854775807 < Wd.size + 1 + G.size + 4 + k.t.size + 4 + N1.size := by omega
  have gd6 : ¬ 9223372036854775807 < Wd.size + 1 + G.size + 4 + k.t.size + 4 + N1.size + 5 := by omega
  have gd7 : ¬ 9223372036854775807 < Wd.size + 1 + G.size + 4 + k.t.size + 4 + N1.size + 5 + N2.size := by omega
  clear hwsz hgsz hg2
  go_enter Tryd.func12, Tryd.ntmps12
  have b0 := HC.out.c0
  have b1 := HC.out.c1
  have b2 := HC.out.c2
  have b3 := HC.out.c3
  have b4 := HC.out.c4
  have b5 := HC.out.c5
  have b6 := HC.out.c6
  go_wp2_with fail
  rw [← HW.out]
  refine (KG.out W HB.out.below).mono ?_
  rintro e w1 ⟨rfl, hb1⟩
  clear HW
  clear b0 b1 b2 b3 b4 b5 b6
  replace HB := Lib.hid (HB.out.keep hb1)
  replace HC := Lib.hid (HC.out.keep hb1)
  clear hb1
  have b0 := HC.out.c0
  have b1 := HC.out.c1
  have b2 := HC.out.c2
  have b3 := HC.out.c3
  have b4 := HC.out.c4
  have b5 := HC.out.c5
  have b6 := HC.out.c6
  go_wp2_with fail
  refine (KW.out w1).mono ?_
  rintro e w2 ⟨rfl, hb2⟩
  clear b0 b1 b2 b3 b4 b5 b6
  replace HB := Lib.hid (HB.out.keep hb2)
  replace HC := Lib.hid (HC.out.keep hb2)
  clear hb2
  have b0 := HC.out.c0
  have b1 := HC.out.c1
  have b2 := HC.out.c2
  have b3 := HC.out.c3
  have b4 := HC.out.c4
  have b5 := HC.out.c5
  have b6 := HC.out.c6
  go_wp2
  have HSC : Hid (∀ z : World, Below w2.heap.size w2 z → (Below w2.heap.size w2 z ∧ z.cell? ⟨w.heap.size, 3, none⟩ = some (.string k.t) ∧ z.cell? ⟨w.heap.size, 4, none⟩ = some (.slice k.A1 k.n1 k.c1) ∧ z.cell? ⟨w.heap.size, 5, none⟩ = some (.slice k.A2 k.n2 k.c2))) := fun z hz => ⟨hz, up_ hz b3, up_ hz b4, up_ hz b5⟩
  have HZ0 : Hid (Below w2.heap.size w2 w2.drew) := (Below.refl _ _).drew
  have HS1 := Lib.hid (HSC.out _ HZ0.out)
  have KR1 : Hid (∀ z : World, Below w2.heap.size w2 z → _) := fun z hz => KN1.out z (HB.out.below.trans (hz.mono HB.out.below.size))
  have KR2 : Hid (∀ z : World, Below w2.heap.size w2 z → _) := fun z hz => KN2.out z (HB.out.below.trans (hz.mono HB.out.below.size))
  go_region_held3 (fun z => Below w2.heap.size w2 z ∧ z.cell? ⟨w.heap.size, 3, none⟩ = some (.string k.t) ∧ z.cell? ⟨w.heap.size, 4, none⟩ = some (.slice k.A1 k.n1 k.c1) ∧ z.cell? ⟨w.heap.size, 5, none⟩ = some (.slice k.A2 k.n2 k.c2))
    (first | exact HS1.out | assumption | exact HSC.out _ hz4 | exact HSC.out _ hz3 | fail)
    (first | (go_at_call 34; ((with_reducible refine (KR1.out _ HZ0.out).mono ?_); rintro e w3 ⟨rfl, hb3⟩; have hz3 := bl_trans HZ0.out hb3)) | (go_at_call 34; ((with_reducible refine (KR2.out _ hz3).mono ?_); rintro e w4 ⟨rfl, hb4⟩; have hz4 := bl_trans hz3 hb4)))
  clear b0 b1 b2 b3 b4 b5 b6
  replace HB := Lib.hid (HB.out.keep hz4)
  replace HC := Lib.hid (HC.out.keep hz4)
  clear hb3 hz3 hb4 hz4 HSC HZ0 HS1 KR1 KR2
  have b0 := HC.out.c0
  have b1 := HC.out.c1
  have b2 := HC.out.c2
  have b3 := HC.out.c3
  have b4 := HC.out.c4
  have b5 := HC.out.c5
  have b6 := HC.out.c6
  go_wp2
  go_ret
  exact ⟨by rw [HE2.out, HX.out, HHd.out]; rfl, HB.out.below⟩

set_option maxRecDepth 100000 in
set_option maxHeartbeats 3200000 in
theorem FormatClaim_s2 (k : Clm) (w : World) (h : RdK w w.heap.size k) (hs : SmK k) (hI : I64K k) (hK : k.K = 2) (hyes : (1 ≤ k.K ∧ k.K ≤ 6) ∧ okB k.s k.n0 k.x0 = true) :
    Calls Tryd.prog 12 #[.agg #[.int .i64 2, .int .i64 k.s, .slice k.A0 k.n0 k.c0, .string k.t, .slice k.A1 k.n1 k.c1, .slice k.A2 k.n2 k.c2, .slice k.A3 k.D.length k.c3]] w fun e w' => e = .returned (.string (fcB k)) ∧ Below w.heap.size w w' := by
  obtain ⟨W, hW⟩ : ∃ W : World, W = (w.alloc (Obj.cells #[.int .i64 2, .int .i64 k.s, .slice k.A0 k.n0 k.c0, .string k.t, .slice k.A1 k.n1 k.c1, .slice k.A2 k.n2 k.c2, .slice k.A3 k.D.length k.c3] 39)) := ⟨_, rfl⟩
  have HB : Hid (From w W) := by rw [hW]; exact From.alloc _ _
  have HC : Hid (CB W w.heap.size 2 k) := by rw [hW]; exact CB.new _ _ _
  have HR : Hid (∀ z, Below w.heap.size w z → RdK z z.heap.size k) := fun z hz => h.keep hz hz.size
  have HW := Lib.hid hW
  obtain ⟨s0, s1, s2, s3, s4, s5⟩ := hs
  clear hW h
  have HY : Hid (fcB k = fcY k) := fcB_yes hyes
  have HHd : Hid (fcH k = cwB 2 ++ ⟨#[32]⟩ ++ fgB k.s k.n0 k.x0) := by show _ = _; unfold fcH; rw [hK]
  have hwsz := cwB_size (K := 2) (by omega)
  have hgsz := fgB_size (s := k.s) (m := k.n0) (x := k.x0)
  have hg2 := fgB_some hyes.2
  have KG : Hid (∀ z, Below w.heap.size w z → _) := fun z hz => FormatGraph_s k.s k.A0 k.n0 k.c0 k.x0 z (HR.out z hz).1 s0
  have KW : Hid (∀ z : World, _) := fun z => ClaimWord_sy 2 (by omega) z
  have HX := Lib.hid (fcY_2 hK)
  have KN1 : Hid (∀ z, Below w.heap.size w z → _) := fun z hz => l33Numbers_s k.A1 k.n1 k.c1 k.x1 z (HR.out z hz).2.1 hI.1 s2
  have z1 := nmB_size hI.1
  obtain ⟨G, hG⟩ : ∃ X, X = fgB k.s k.n0 k.x0 := ⟨_, rfl⟩
  rw [← hG] at KG hgsz hg2 HHd
  obtain ⟨Wd, hWd⟩ : ∃ X, X = cwB 2 := ⟨_, rfl⟩
  rw [← hWd] at KW hwsz HHd
  obtain ⟨Hd, hHd⟩ : ∃ X, X = fcH k := ⟨_, rfl⟩
  rw [← hHd] at HHd HX
  obtain ⟨N1, hN1⟩ : ∃ X, X = nmB k.x1 k.n1 := ⟨_, rfl⟩
  rw [← hN1] at KN1 z1 HX
  have HE2 : Hid (fcB k = fcY k) := HY.out
  clear HY hG hWd hHd hN1
  have hge : G.toList.isEmpty = false := some_text (by omega)
  have hwe : Wd.toList.isEmpty = false := some_text (by omega)
  clear hyes hI HR
  have gd0 : ¬ 9223372036854775807 < Wd.size + 1 := by omega
  have gd1 : ¬ 9223372036854775807 < Wd.size + 1 + G.size := by omega
  have gd2 : ¬ 9223372036854775807 < Wd.size + 1 + G.size + 4 := by omega
  have gd3 : ¬ 9223372036854775807 < Wd.size + 1 + G.size + 4 + k.t.size := by omega
  have gd4 : ¬ 9223372036854775807 < Wd.size + 1 + G.size + 4 + k.t.size + 4 := by omega
  have gd5 : ¬ 9223372036854775807 < Wd.size + 1 + G.size + 4 + k.t.size + 4 + N1.size := by omega
  clear hwsz hgsz hg2
  go_enter Tryd.func12, Tryd.ntmps12
  have b0 := HC.out.c0
  have b1 := HC.out.c1
  have b2 := HC.out.c2
  have b3 := HC.out.c3
  have b4 := HC.out.c4
  have b5 := HC.out.c5
  have b6 := HC.out.c6
  go_wp2_with fail
  rw [← HW.out]
  refine (KG.out W HB.out.below).mono ?_
  rintro e w1 ⟨rfl, hb1⟩
  clear HW
  clear b0 b1 b2 b3 b4 b5 b6
  replace HB := Lib.hid (HB.out.keep hb1)
  replace HC := Lib.hid (HC.out.keep hb1)
  clear hb1
  have b0 := HC.out.c0
  have b1 := HC.out.c1
  have b2 := HC.out.c2
  have b3 := HC.out.c3
  have b4 := HC.out.c4
  have b5 := HC.out.c5
  have b6 := HC.out.c6
  go_wp2_with fail
  refine (KW.out w1).mono ?_
  rintro e w2 ⟨rfl, hb2⟩
  clear b0 b1 b2 b3 b4 b5 b6
  replace HB := Lib.hid (HB.out.keep hb2)
  replace HC := Lib.hid (HC.out.keep hb2)
  clear hb2
  have b0 := HC.out.c0
  have b1 := HC.out.c1
  have b2 := HC.out.c2
  have b3 := HC.out.c3
  have b4 := HC.out.c4
  have b5 := HC.out.c5
  have b6 := HC.out.c6
  go_wp2
  have HSC : Hid (∀ z : World, Below w2.heap.size w2 z → (Below w2.heap.size w2 z ∧ z.cell? ⟨w.heap.size, 3, none⟩ = some (.string k.t) ∧ z.cell? ⟨w.heap.size, 4, none⟩ = some (.slice k.A1 k.n1 k.c1))) := fun z hz => ⟨hz, up_ hz b3, up_ hz b4⟩
  have HZ0 : Hid (Below w2.heap.size w2 w2.drew) := (Below.refl _ _).drew
  have HS1 := Lib.hid (HSC.out _ HZ0.out)
  have KR1 : Hid (∀ z : World, Below w2.heap.size w2 z → _) := fun z hz => KN1.out z (HB.out.below.trans (hz.mono HB.out.below.size))
  go_region_held3 (fun z => Below w2.heap.size w2 z ∧ z.cell? ⟨w.heap.size, 3, none⟩ = some (.string k.t) ∧ z.cell? ⟨w.heap.size, 4, none⟩ = some (.slice k.A1 k.n1 k.c1))
    (first | exact HS1.out | assumption | exact HSC.out _ hz3 | fail)
    (first | (go_at_call 34; ((with_reducible refine (KR1.out _ HZ0.out).mono ?_); rintro e w3 ⟨rfl, hb3⟩; have hz3 := bl_trans HZ0.out hb3)))
  clear b0 b1 b2 b3 b4 b5 b6
  replace HB := Lib.hid (HB.out.keep hz3)
  replace HC := Lib.hid (HC.out.keep hz3)
  clear hb3 hz3 HSC HZ0 HS1 KR1
  have b0 := HC.out.c0
  have b1 := HC.out.c1
  have b2 := HC.out.c2
  have b3 := HC.out.c3
  have b4 := HC.out.c4
  have b5 := HC.out.c5
  have b6 := HC.out.c6
  go_wp2
  go_ret
  exact ⟨by rw [HE2.out, HX.out, HHd.out]; rfl, HB.out.below⟩

set_option maxRecDepth 100000 in
set_option maxHeartbeats 3200000 in
theorem FormatClaim_s3 (k : Clm) (w : World) (h : RdK w w.heap.size k) (hs : SmK k) (hI : I64K k) (hK : k.K = 3) (hyes : (1 ≤ k.K ∧ k.K ≤ 6) ∧ okB k.s k.n0 k.x0 = true) :
    Calls Tryd.prog 12 #[.agg #[.int .i64 3, .int .i64 k.s, .slice k.A0 k.n0 k.c0, .string k.t, .slice k.A1 k.n1 k.c1, .slice k.A2 k.n2 k.c2, .slice k.A3 k.D.length k.c3]] w fun e w' => e = .returned (.string (fcB k)) ∧ Below w.heap.size w w' := by
  obtain ⟨W, hW⟩ : ∃ W : World, W = (w.alloc (Obj.cells #[.int .i64 3, .int .i64 k.s, .slice k.A0 k.n0 k.c0, .string k.t, .slice k.A1 k.n1 k.c1, .slice k.A2 k.n2 k.c2, .slice k.A3 k.D.length k.c3] 39)) := ⟨_, rfl⟩
  have HB : Hid (From w W) := by rw [hW]; exact From.alloc _ _
  have HC : Hid (CB W w.heap.size 3 k) := by rw [hW]; exact CB.new _ _ _
  have HR : Hid (∀ z, Below w.heap.size w z → RdK z z.heap.size k) := fun z hz => h.keep hz hz.size
  have HW := Lib.hid hW
  obtain ⟨s0, s1, s2, s3, s4, s5⟩ := hs
  clear hW h
  have HY : Hid (fcB k = fcY k) := fcB_yes hyes
  have HHd : Hid (fcH k = cwB 3 ++ ⟨#[32]⟩ ++ fgB k.s k.n0 k.x0) := by show _ = _; unfold fcH; rw [hK]
  have hwsz := cwB_size (K := 3) (by omega)
  have hgsz := fgB_size (s := k.s) (m := k.n0) (x := k.x0)
  have hg2 := fgB_some hyes.2
  have KG : Hid (∀ z, Below w.heap.size w z → _) := fun z hz => FormatGraph_s k.s k.A0 k.n0 k.c0 k.x0 z (HR.out z hz).1 s0
  have KW : Hid (∀ z : World, _) := fun z => ClaimWord_sy 3 (by omega) z
  have HX := Lib.hid (fcY_3 (k := k) (by omega) (by omega) (by omega))
  have KN1 : Hid (∀ z, Below w.heap.size w z → _) := fun z hz => l33Numbers_s k.A1 k.n1 k.c1 k.x1 z (HR.out z hz).2.1 hI.1 s2
  have z1 := nmB_size hI.1
  have KN2 : Hid (∀ z, Below w.heap.size w z → _) := fun z hz => l33Numbers_s k.A2 k.n2 k.c2 k.x2 z (HR.out z hz).2.2.1 hI.2.1 s3
  have z2 := nmB_size hI.2.1
  obtain ⟨G, hG⟩ : ∃ X, X = fgB k.s k.n0 k.x0 := ⟨_, rfl⟩
  rw [← hG] at KG hgsz hg2 HHd
  obtain ⟨Wd, hWd⟩ : ∃ X, X = cwB 3 := ⟨_, rfl⟩
  rw [← hWd] at KW hwsz HHd
  obtain ⟨Hd, hHd⟩ : ∃ X, X = fcH k := ⟨_, rfl⟩
  rw [← hHd] at HHd HX
  obtain ⟨N1, hN1⟩ : ∃ X, X = nmB k.x1 k.n1 := ⟨_, rfl⟩
  rw [← hN1] at KN1 z1 HX
  obtain ⟨N2, hN2⟩ : ∃ X, X = nmB k.x2 k.n2 := ⟨_, rfl⟩
  rw [← hN2] at KN2 z2 HX
  have HE2 : Hid (fcB k = fcY k) := HY.out
  clear HY hG hWd hHd hN1 hN2
  have hge : G.toList.isEmpty = false := some_text (by omega)
  have hwe : Wd.toList.isEmpty = false := some_text (by omega)
  clear hyes hI HR
  have gd0 : ¬ 9223372036854775807 < Wd.size + 1 := by omega
  have gd1 : ¬ 9223372036854775807 < Wd.size + 1 + G.size := by omega
  have gd2 : ¬ 9223372036854775807 < Wd.size + 1 + G.size + 4 := by omega
  have gd3 : ¬ 9223372036854775807 < Wd.size + 1 + G.size + 4 + N1.size := by omega
  have gd4 : ¬ 9223372036854775807 < Wd.size + 1 + G.size + 4 + N1.size + 5 := by omega
  have gd5 : ¬ 9223372036854775807 < Wd.size + 1 + G.size + 4 + N1.size + 5 + N2.size := by omega
  clear hwsz hgsz hg2
  go_enter Tryd.func12, Tryd.ntmps12
  have b0 := HC.out.c0
  have b1 := HC.out.c1
  have b2 := HC.out.c2
  have b3 := HC.out.c3
  have b4 := HC.out.c4
  have b5 := HC.out.c5
  have b6 := HC.out.c6
  go_wp2_with fail
  rw [← HW.out]
  refine (KG.out W HB.out.below).mono ?_
  rintro e w1 ⟨rfl, hb1⟩
  clear HW
  clear b0 b1 b2 b3 b4 b5 b6
  replace HB := Lib.hid (HB.out.keep hb1)
  replace HC := Lib.hid (HC.out.keep hb1)
  clear hb1
  have b0 := HC.out.c0
  have b1 := HC.out.c1
  have b2 := HC.out.c2
  have b3 := HC.out.c3
  have b4 := HC.out.c4
  have b5 := HC.out.c5
  have b6 := HC.out.c6
  go_wp2_with fail
  refine (KW.out w1).mono ?_
  rintro e w2 ⟨rfl, hb2⟩
  clear b0 b1 b2 b3 b4 b5 b6
  replace HB := Lib.hid (HB.out.keep hb2)
  replace HC := Lib.hid (HC.out.keep hb2)
  clear hb2
  have b0 := HC.out.c0
  have b1 := HC.out.c1
  have b2 := HC.out.c2
  have b3 := HC.out.c3
  have b4 := HC.out.c4
  have b5 := HC.out.c5
  have b6 := HC.out.c6
  go_wp2
  have HSC : Hid (∀ z : World, Below w2.heap.size w2 z → (Below w2.heap.size w2 z ∧ z.cell? ⟨w.heap.size, 4, none⟩ = some (.slice k.A1 k.n1 k.c1) ∧ z.cell? ⟨w.heap.size, 5, none⟩ = some (.slice k.A2 k.n2 k.c2))) := fun z hz => ⟨hz, up_ hz b4, up_ hz b5⟩
  have HZ0 : Hid (Below w2.heap.size w2 w2.drew) := (Below.refl _ _).drew
  have HS1 := Lib.hid (HSC.out _ HZ0.out)
  have KR1 : Hid (∀ z : World, Below w2.heap.size w2 z → _) := fun z hz => KN1.out z (HB.out.below.trans (hz.mono HB.out.below.size))
  have KR2 : Hid (∀ z : World, Below w2.heap.size w2 z → _) := fun z hz => KN2.out z (HB.out.below.trans (hz.mono HB.out.below.size))
  go_region_held3 (fun z => Below w2.heap.size w2 z ∧ z.cell? ⟨w.heap.size, 4, none⟩ = some (.slice k.A1 k.n1 k.c1) ∧ z.cell? ⟨w.heap.size, 5, none⟩ = some (.slice k.A2 k.n2 k.c2))
    (first | exact HS1.out | assumption | exact HSC.out _ hz4 | exact HSC.out _ hz3 | fail)
    (first | (go_at_call 34; ((with_reducible refine (KR1.out _ HZ0.out).mono ?_); rintro e w3 ⟨rfl, hb3⟩; have hz3 := bl_trans HZ0.out hb3)) | (go_at_call 34; ((with_reducible refine (KR2.out _ hz3).mono ?_); rintro e w4 ⟨rfl, hb4⟩; have hz4 := bl_trans hz3 hb4)))
  clear b0 b1 b2 b3 b4 b5 b6
  replace HB := Lib.hid (HB.out.keep hz4)
  replace HC := Lib.hid (HC.out.keep hz4)
  clear hb3 hz3 hb4 hz4 HSC HZ0 HS1 KR1 KR2
  have b0 := HC.out.c0
  have b1 := HC.out.c1
  have b2 := HC.out.c2
  have b3 := HC.out.c3
  have b4 := HC.out.c4
  have b5 := HC.out.c5
  have b6 := HC.out.c6
  go_wp2
  go_ret
  exact ⟨by rw [HE2.out, HX.out, HHd.out]; rfl, HB.out.below⟩

set_option maxRecDepth 100000 in
set_option maxHeartbeats 3200000 in
theorem FormatClaim_s4 (k : Clm) (w : World) (h : RdK w w.heap.size k) (hs : SmK k) (hI : I64K k) (hK : k.K = 4) (hyes : (1 ≤ k.K ∧ k.K ≤ 6) ∧ okB k.s k.n0 k.x0 = true) :
    Calls Tryd.prog 12 #[.agg #[.int .i64 4, .int .i64 k.s, .slice k.A0 k.n0 k.c0, .string k.t, .slice k.A1 k.n1 k.c1, .slice k.A2 k.n2 k.c2, .slice k.A3 k.D.length k.c3]] w fun e w' => e = .returned (.string (fcB k)) ∧ Below w.heap.size w w' := by
  obtain ⟨W, hW⟩ : ∃ W : World, W = (w.alloc (Obj.cells #[.int .i64 4, .int .i64 k.s, .slice k.A0 k.n0 k.c0, .string k.t, .slice k.A1 k.n1 k.c1, .slice k.A2 k.n2 k.c2, .slice k.A3 k.D.length k.c3] 39)) := ⟨_, rfl⟩
  have HB : Hid (From w W) := by rw [hW]; exact From.alloc _ _
  have HC : Hid (CB W w.heap.size 4 k) := by rw [hW]; exact CB.new _ _ _
  have HR : Hid (∀ z, Below w.heap.size w z → RdK z z.heap.size k) := fun z hz => h.keep hz hz.size
  have HW := Lib.hid hW
  obtain ⟨s0, s1, s2, s3, s4, s5⟩ := hs
  clear hW h
  have HY : Hid (fcB k = fcY k) := fcB_yes hyes
  have HHd : Hid (fcH k = cwB 4 ++ ⟨#[32]⟩ ++ fgB k.s k.n0 k.x0) := by show _ = _; unfold fcH; rw [hK]
  have hwsz := cwB_size (K := 4) (by omega)
  have hgsz := fgB_size (s := k.s) (m := k.n0) (x := k.x0)
  have hg2 := fgB_some hyes.2
  have KG : Hid (∀ z, Below w.heap.size w z → _) := fun z hz => FormatGraph_s k.s k.A0 k.n0 k.c0 k.x0 z (HR.out z hz).1 s0
  have KW : Hid (∀ z : World, _) := fun z => ClaimWord_sy 4 (by omega) z
  have HX := Lib.hid (fcY_3 (k := k) (by omega) (by omega) (by omega))
  have KN1 : Hid (∀ z, Below w.heap.size w z → _) := fun z hz => l33Numbers_s k.A1 k.n1 k.c1 k.x1 z (HR.out z hz).2.1 hI.1 s2
  have z1 := nmB_size hI.1
  have KN2 : Hid (∀ z, Below w.heap.size w z → _) := fun z hz => l33Numbers_s k.A2 k.n2 k.c2 k.x2 z (HR.out z hz).2.2.1 hI.2.1 s3
  have z2 := nmB_size hI.2.1
  obtain ⟨G, hG⟩ : ∃ X, X = fgB k.s k.n0 k.x0 := ⟨_, rfl⟩
  rw [← hG] at KG hgsz hg2 HHd
  obtain ⟨Wd, hWd⟩ : ∃ X, X = cwB 4 := ⟨_, rfl⟩
  rw [← hWd] at KW hwsz HHd
  obtain ⟨Hd, hHd⟩ : ∃ X, X = fcH k := ⟨_, rfl⟩
  rw [← hHd] at HHd HX
  obtain ⟨N1, hN1⟩ : ∃ X, X = nmB k.x1 k.n1 := ⟨_, rfl⟩
  rw [← hN1] at KN1 z1 HX
  obtain ⟨N2, hN2⟩ : ∃ X, X = nmB k.x2 k.n2 := ⟨_, rfl⟩
  rw [← hN2] at KN2 z2 HX
  have HE2 : Hid (fcB k = fcY k) := HY.out
  clear HY hG hWd hHd hN1 hN2
  have hge : G.toList.isEmpty = false := some_text (by omega)
  have hwe : Wd.toList.isEmpty = false := some_text (by omega)
  clear hyes hI HR
  have gd0 : ¬ 9223372036854775807 < Wd.size + 1 := by omega
  have gd1 : ¬ 9223372036854775807 < Wd.size + 1 + G.size := by omega
  have gd2 : ¬ 9223372036854775807 < Wd.size + 1 + G.size + 4 := by omega
  have gd3 : ¬ 9223372036854775807 < Wd.size + 1 + G.size + 4 + N1.size := by omega
  have gd4 : ¬ 9223372036854775807 < Wd.size + 1 + G.size + 4 + N1.size + 5 := by omega
  have gd5 : ¬ 9223372036854775807 < Wd.size + 1 + G.size + 4 + N1.size + 5 + N2.size := by omega
  clear hwsz hgsz hg2
  go_enter Tryd.func12, Tryd.ntmps12
  have b0 := HC.out.c0
  have b1 := HC.out.c1
  have b2 := HC.out.c2
  have b3 := HC.out.c3
  have b4 := HC.out.c4
  have b5 := HC.out.c5
  have b6 := HC.out.c6
  go_wp2_with fail
  rw [← HW.out]
  refine (KG.out W HB.out.below).mono ?_
  rintro e w1 ⟨rfl, hb1⟩
  clear HW
  clear b0 b1 b2 b3 b4 b5 b6
  replace HB := Lib.hid (HB.out.keep hb1)
  replace HC := Lib.hid (HC.out.keep hb1)
  clear hb1
  have b0 := HC.out.c0
  have b1 := HC.out.c1
  have b2 := HC.out.c2
  have b3 := HC.out.c3
  have b4 := HC.out.c4
  have b5 := HC.out.c5
  have b6 := HC.out.c6
  go_wp2_with fail
  refine (KW.out w1).mono ?_
  rintro e w2 ⟨rfl, hb2⟩
  clear b0 b1 b2 b3 b4 b5 b6
  replace HB := Lib.hid (HB.out.keep hb2)
  replace HC := Lib.hid (HC.out.keep hb2)
  clear hb2
  have b0 := HC.out.c0
  have b1 := HC.out.c1
  have b2 := HC.out.c2
  have b3 := HC.out.c3
  have b4 := HC.out.c4
  have b5 := HC.out.c5
  have b6 := HC.out.c6
  go_wp2
  have HSC : Hid (∀ z : World, Below w2.heap.size w2 z → (Below w2.heap.size w2 z ∧ z.cell? ⟨w.heap.size, 4, none⟩ = some (.slice k.A1 k.n1 k.c1) ∧ z.cell? ⟨w.heap.size, 5, none⟩ = some (.slice k.A2 k.n2 k.c2))) := fun z hz => ⟨hz, up_ hz b4, up_ hz b5⟩
  have HZ0 : Hid (Below w2.heap.size w2 w2.drew) := (Below.refl _ _).drew
  have HS1 := Lib.hid (HSC.out _ HZ0.out)
  have KR1 : Hid (∀ z : World, Below w2.heap.size w2 z → _) := fun z hz => KN1.out z (HB.out.below.trans (hz.mono HB.out.below.size))
  have KR2 : Hid (∀ z : World, Below w2.heap.size w2 z → _) := fun z hz => KN2.out z (HB.out.below.trans (hz.mono HB.out.below.size))
  go_region_held3 (fun z => Below w2.heap.size w2 z ∧ z.cell? ⟨w.heap.size, 4, none⟩ = some (.slice k.A1 k.n1 k.c1) ∧ z.cell? ⟨w.heap.size, 5, none⟩ = some (.slice k.A2 k.n2 k.c2))
    (first | exact HS1.out | assumption | exact HSC.out _ hz4 | exact HSC.out _ hz3 | fail)
    (first | (go_at_call 34; ((with_reducible refine (KR1.out _ HZ0.out).mono ?_); rintro e w3 ⟨rfl, hb3⟩; have hz3 := bl_trans HZ0.out hb3)) | (go_at_call 34; ((with_reducible refine (KR2.out _ hz3).mono ?_); rintro e w4 ⟨rfl, hb4⟩; have hz4 := bl_trans hz3 hb4)))
  clear b0 b1 b2 b3 b4 b5 b6
  replace HB := Lib.hid (HB.out.keep hz4)
  replace HC := Lib.hid (HC.out.keep hz4)
  clear hb3 hz3 hb4 hz4 HSC HZ0 HS1 KR1 KR2
  have b0 := HC.out.c0
  have b1 := HC.out.c1
  have b2 := HC.out.c2
  have b3 := HC.out.c3
  have b4 := HC.out.c4
  have b5 := HC.out.c5
  have b6 := HC.out.c6
  go_wp2
  go_ret
  exact ⟨by rw [HE2.out, HX.out, HHd.out]; rfl, HB.out.below⟩

set_option maxRecDepth 100000 in
set_option maxHeartbeats 3200000 in
theorem FormatClaim_s5 (k : Clm) (w : World) (h : RdK w w.heap.size k) (hs : SmK k) (hI : I64K k) (hK : k.K = 5) (hyes : (1 ≤ k.K ∧ k.K ≤ 6) ∧ okB k.s k.n0 k.x0 = true) :
    Calls Tryd.prog 12 #[.agg #[.int .i64 5, .int .i64 k.s, .slice k.A0 k.n0 k.c0, .string k.t, .slice k.A1 k.n1 k.c1, .slice k.A2 k.n2 k.c2, .slice k.A3 k.D.length k.c3]] w fun e w' => e = .returned (.string (fcB k)) ∧ Below w.heap.size w w' := by
  obtain ⟨W, hW⟩ : ∃ W : World, W = (w.alloc (Obj.cells #[.int .i64 5, .int .i64 k.s, .slice k.A0 k.n0 k.c0, .string k.t, .slice k.A1 k.n1 k.c1, .slice k.A2 k.n2 k.c2, .slice k.A3 k.D.length k.c3] 39)) := ⟨_, rfl⟩
  have HB : Hid (From w W) := by rw [hW]; exact From.alloc _ _
  have HC : Hid (CB W w.heap.size 5 k) := by rw [hW]; exact CB.new _ _ _
  have HR : Hid (∀ z, Below w.heap.size w z → RdK z z.heap.size k) := fun z hz => h.keep hz hz.size
  have HW := Lib.hid hW
  obtain ⟨s0, s1, s2, s3, s4, s5⟩ := hs
  clear hW h
  have HY : Hid (fcB k = fcY k) := fcB_yes hyes
  have HHd : Hid (fcH k = cwB 5 ++ ⟨#[32]⟩ ++ fgB k.s k.n0 k.x0) := by show _ = _; unfold fcH; rw [hK]
  have hwsz := cwB_size (K := 5) (by omega)
  have hgsz := fgB_size (s := k.s) (m := k.n0) (x := k.x0)
  have hg2 := fgB_some hyes.2
  have KG : Hid (∀ z, Below w.heap.size w z → _) := fun z hz => FormatGraph_s k.s k.A0 k.n0 k.c0 k.x0 z (HR.out z hz).1 s0
  have KW : Hid (∀ z : World, _) := fun z => ClaimWord_sy 5 (by omega) z
  have HX := Lib.hid (fcY_5 hK)
  have KE : Hid (∀ z, Below w.heap.size w z → _) := fun z hz => l33Edges_s k.A3 k.c3 k.D z (HR.out z hz).2.2.2 hI.2.2 s4 s5
  have z3 := edB_size hI.2.2 s5 s4
  obtain ⟨G, hG⟩ : ∃ X, X = fgB k.s k.n0 k.x0 := ⟨_, rfl⟩
  rw [← hG] at KG hgsz hg2 HHd
  obtain ⟨Wd, hWd⟩ : ∃ X, X = cwB 5 := ⟨_, rfl⟩
  rw [← hWd] at KW hwsz HHd
  obtain ⟨Hd, hHd⟩ : ∃ X, X = fcH k := ⟨_, rfl⟩
  rw [← hHd] at HHd HX
  obtain ⟨E3, hE3⟩ : ∃ X, X = edB (lists k.D) := ⟨_, rfl⟩
  rw [← hE3] at KE z3 HX
  have HE2 : Hid (fcB k = fcY k) := HY.out
  clear HY hG hWd hHd hE3
  have hge : G.toList.isEmpty = false := some_text (by omega)
  have hwe : Wd.toList.isEmpty = false := some_text (by omega)
  clear hyes hI HR
  have gd0 : ¬ 9223372036854775807 < Wd.size + 1 := by omega
  have gd1 : ¬ 9223372036854775807 < Wd.size + 1 + G.size := by omega
  have gd2 : ¬ 9223372036854775807 < Wd.size + 1 + G.size + 4 := by omega
  have gd3 : ¬ 9223372036854775807 < Wd.size + 1 + G.size + 4 + E3.size := by omega
  clear hwsz hgsz hg2
  go_enter Tryd.func12, Tryd.ntmps12
  have b0 := HC.out.c0
  have b1 := HC.out.c1
  have b2 := HC.out.c2
  have b3 := HC.out.c3
  have b4 := HC.out.c4
  have b5 := HC.out.c5
  have b6 := HC.out.c6
  go_wp2_with fail
  rw [← HW.out]
  refine (KG.out W HB.out.below).mono ?_
  rintro e w1 ⟨rfl, hb1⟩
  clear HW
  clear b0 b1 b2 b3 b4 b5 b6
  replace HB := Lib.hid (HB.out.keep hb1)
  replace HC := Lib.hid (HC.out.keep hb1)
  clear hb1
  have b0 := HC.out.c0
  have b1 := HC.out.c1
  have b2 := HC.out.c2
  have b3 := HC.out.c3
  have b4 := HC.out.c4
  have b5 := HC.out.c5
  have b6 := HC.out.c6
  go_wp2_with fail
  refine (KW.out w1).mono ?_
  rintro e w2 ⟨rfl, hb2⟩
  clear b0 b1 b2 b3 b4 b5 b6
  replace HB := Lib.hid (HB.out.keep hb2)
  replace HC := Lib.hid (HC.out.keep hb2)
  clear hb2
  have b0 := HC.out.c0
  have b1 := HC.out.c1
  have b2 := HC.out.c2
  have b3 := HC.out.c3
  have b4 := HC.out.c4
  have b5 := HC.out.c5
  have b6 := HC.out.c6
  go_wp2_with fail
  refine (KE.out w2 HB.out.below).mono ?_
  rintro e w3 ⟨rfl, hb3⟩
  clear b0 b1 b2 b3 b4 b5 b6
  replace HB := Lib.hid (HB.out.keep hb3)
  replace HC := Lib.hid (HC.out.keep hb3)
  clear hb3
  have b0 := HC.out.c0
  have b1 := HC.out.c1
  have b2 := HC.out.c2
  have b3 := HC.out.c3
  have b4 := HC.out.c4
  have b5 := HC.out.c5
  have b6 := HC.out.c6
  go_wp2
  go_ret
  exact ⟨by rw [HE2.out, HX.out, HHd.out]; rfl, HB.out.below⟩

set_option maxRecDepth 100000 in
set_option maxHeartbeats 3200000 in
theorem FormatClaim_s6 (k : Clm) (w : World) (h : RdK w w.heap.size k) (hs : SmK k) (hI : I64K k) (hK : k.K = 6) (hyes : (1 ≤ k.K ∧ k.K ≤ 6) ∧ okB k.s k.n0 k.x0 = true) :
    Calls Tryd.prog 12 #[.agg #[.int .i64 6, .int .i64 k.s, .slice k.A0 k.n0 k.c0, .string k.t, .slice k.A1 k.n1 k.c1, .slice k.A2 k.n2 k.c2, .slice k.A3 k.D.length k.c3]] w fun e w' => e = .returned (.string (fcB k)) ∧ Below w.heap.size w w' := by
  obtain ⟨W, hW⟩ : ∃ W : World, W = (w.alloc (Obj.cells #[.int .i64 6, .int .i64 k.s, .slice k.A0 k.n0 k.c0, .string k.t, .slice k.A1 k.n1 k.c1, .slice k.A2 k.n2 k.c2, .slice k.A3 k.D.length k.c3] 39)) := ⟨_, rfl⟩
  have HB : Hid (From w W) := by rw [hW]; exact From.alloc _ _
  have HC : Hid (CB W w.heap.size 6 k) := by rw [hW]; exact CB.new _ _ _
  have HR : Hid (∀ z, Below w.heap.size w z → RdK z z.heap.size k) := fun z hz => h.keep hz hz.size
  have HW := Lib.hid hW
  obtain ⟨s0, s1, s2, s3, s4, s5⟩ := hs
  clear hW h
  have HY : Hid (fcB k = fcY k) := fcB_yes hyes
  have HHd : Hid (fcH k = cwB 6 ++ ⟨#[32]⟩ ++ fgB k.s k.n0 k.x0) := by show _ = _; unfold fcH; rw [hK]
  have hwsz := cwB_size (K := 6) (by omega)
  have hgsz := fgB_size (s := k.s) (m := k.n0) (x := k.x0)
  have hg2 := fgB_some hyes.2
  have KG : Hid (∀ z, Below w.heap.size w z → _) := fun z hz => FormatGraph_s k.s k.A0 k.n0 k.c0 k.x0 z (HR.out z hz).1 s0
  have KW : Hid (∀ z : World, _) := fun z => ClaimWord_sy 6 (by omega) z
  have HX := Lib.hid (fcY_3 (k := k) (by omega) (by omega) (by omega))
  have KN1 : Hid (∀ z, Below w.heap.size w z → _) := fun z hz => l33Numbers_s k.A1 k.n1 k.c1 k.x1 z (HR.out z hz).2.1 hI.1 s2
  have z1 := nmB_size hI.1
  have KN2 : Hid (∀ z, Below w.heap.size w z → _) := fun z hz => l33Numbers_s k.A2 k.n2 k.c2 k.x2 z (HR.out z hz).2.2.1 hI.2.1 s3
  have z2 := nmB_size hI.2.1
  obtain ⟨G, hG⟩ : ∃ X, X = fgB k.s k.n0 k.x0 := ⟨_, rfl⟩
  rw [← hG] at KG hgsz hg2 HHd
  obtain ⟨Wd, hWd⟩ : ∃ X, X = cwB 6 := ⟨_, rfl⟩
  rw [← hWd] at KW hwsz HHd
  obtain ⟨Hd, hHd⟩ : ∃ X, X = fcH k := ⟨_, rfl⟩
  rw [← hHd] at HHd HX
  obtain ⟨N1, hN1⟩ : ∃ X, X = nmB k.x1 k.n1 := ⟨_, rfl⟩
  rw [← hN1] at KN1 z1 HX
  obtain ⟨N2, hN2⟩ : ∃ X, X = nmB k.x2 k.n2 := ⟨_, rfl⟩
  rw [← hN2] at KN2 z2 HX
  have HE2 : Hid (fcB k = fcY k) := HY.out
  clear HY hG hWd hHd hN1 hN2
  have hge : G.toList.isEmpty = false := some_text (by omega)
  have hwe : Wd.toList.isEmpty = false := some_text (by omega)
  clear hyes hI HR
  have gd0 : ¬ 9223372036854775807 < Wd.size + 1 := by omega
  have gd1 : ¬ 9223372036854775807 < Wd.size + 1 + G.size := by omega
  have gd2 : ¬ 9223372036854775807 < Wd.size + 1 + G.size + 4 := by omega
  have gd3 : ¬ 9223372036854775807 < Wd.size + 1 + G.size + 4 + N1.size := by omega
  have gd4 : ¬ 9223372036854775807 < Wd.size + 1 + G.size + 4 + N1.size + 5 := by omega
  have gd5 : ¬ 9223372036854775807 < Wd.size + 1 + G.size + 4 + N1.size + 5 + N2.size := by omega
  clear hwsz hgsz hg2
  go_enter Tryd.func12, Tryd.ntmps12
  have b0 := HC.out.c0
  have b1 := HC.out.c1
  have b2 := HC.out.c2
  have b3 := HC.out.c3
  have b4 := HC.out.c4
  have b5 := HC.out.c5
  have b6 := HC.out.c6
  go_wp2_with fail
  rw [← HW.out]
  refine (KG.out W HB.out.below).mono ?_
  rintro e w1 ⟨rfl, hb1⟩
  clear HW
  clear b0 b1 b2 b3 b4 b5 b6
  replace HB := Lib.hid (HB.out.keep hb1)
  replace HC := Lib.hid (HC.out.keep hb1)
  clear hb1
  have b0 := HC.out.c0
  have b1 := HC.out.c1
  have b2 := HC.out.c2
  have b3 := HC.out.c3
  have b4 := HC.out.c4
  have b5 := HC.out.c5
  have b6 := HC.out.c6
  go_wp2_with fail
  refine (KW.out w1).mono ?_
  rintro e w2 ⟨rfl, hb2⟩
  clear b0 b1 b2 b3 b4 b5 b6
  replace HB := Lib.hid (HB.out.keep hb2)
  replace HC := Lib.hid (HC.out.keep hb2)
  clear hb2
  have b0 := HC.out.c0
  have b1 := HC.out.c1
  have b2 := HC.out.c2
  have b3 := HC.out.c3
  have b4 := HC.out.c4
  have b5 := HC.out.c5
  have b6 := HC.out.c6
  go_wp2
  have HSC : Hid (∀ z : World, Below w2.heap.size w2 z → (Below w2.heap.size w2 z ∧ z.cell? ⟨w.heap.size, 4, none⟩ = some (.slice k.A1 k.n1 k.c1) ∧ z.cell? ⟨w.heap.size, 5, none⟩ = some (.slice k.A2 k.n2 k.c2))) := fun z hz => ⟨hz, up_ hz b4, up_ hz b5⟩
  have HZ0 : Hid (Below w2.heap.size w2 w2.drew) := (Below.refl _ _).drew
  have HS1 := Lib.hid (HSC.out _ HZ0.out)
  have KR1 : Hid (∀ z : World, Below w2.heap.size w2 z → _) := fun z hz => KN1.out z (HB.out.below.trans (hz.mono HB.out.below.size))
  have KR2 : Hid (∀ z : World, Below w2.heap.size w2 z → _) := fun z hz => KN2.out z (HB.out.below.trans (hz.mono HB.out.below.size))
  go_region_held3 (fun z => Below w2.heap.size w2 z ∧ z.cell? ⟨w.heap.size, 4, none⟩ = some (.slice k.A1 k.n1 k.c1) ∧ z.cell? ⟨w.heap.size, 5, none⟩ = some (.slice k.A2 k.n2 k.c2))
    (first | exact HS1.out | assumption | exact HSC.out _ hz4 | exact HSC.out _ hz3 | fail)
    (first | (go_at_call 34; ((with_reducible refine (KR1.out _ HZ0.out).mono ?_); rintro e w3 ⟨rfl, hb3⟩; have hz3 := bl_trans HZ0.out hb3)) | (go_at_call 34; ((with_reducible refine (KR2.out _ hz3).mono ?_); rintro e w4 ⟨rfl, hb4⟩; have hz4 := bl_trans hz3 hb4)))
  clear b0 b1 b2 b3 b4 b5 b6
  replace HB := Lib.hid (HB.out.keep hz4)
  replace HC := Lib.hid (HC.out.keep hz4)
  clear hb3 hz3 hb4 hz4 HSC HZ0 HS1 KR1 KR2
  have b0 := HC.out.c0
  have b1 := HC.out.c1
  have b2 := HC.out.c2
  have b3 := HC.out.c3
  have b4 := HC.out.c4
  have b5 := HC.out.c5
  have b6 := HC.out.c6
  go_wp2
  go_ret
  exact ⟨by rw [HE2.out, HX.out, HHd.out]; rfl, HB.out.below⟩
theorem FormatClaim_s (k : Clm) (w : World) (h : RdK w w.heap.size k) (hs : SmK k) (hI : I64K k) :
    Calls Tryd.prog 12 #[.agg #[.int .i64 k.K, .int .i64 k.s, .slice k.A0 k.n0 k.c0, .string k.t, .slice k.A1 k.n1 k.c1, .slice k.A2 k.n2 k.c2, .slice k.A3 k.D.length k.c3]] w fun e w' => e = .returned (.string (fcB k)) ∧ Below w.heap.size w w' := by
  by_cases hy : (1 ≤ k.K ∧ k.K ≤ 6) ∧ okB k.s k.n0 k.x0 = true
  · have hc : k.K = 1 ∨ k.K = 2 ∨ k.K = 3 ∨ k.K = 4 ∨ k.K = 5 ∨ k.K = 6 := by omega
    rcases hc with e | e | e | e | e | e
    · rw [e]; exact FormatClaim_s1 k w h hs hI e hy
    · rw [e]; exact FormatClaim_s2 k w h hs hI e hy
    · rw [e]; exact FormatClaim_s3 k w h hs hI e hy
    · rw [e]; exact FormatClaim_s4 k w h hs hI e hy
    · rw [e]; exact FormatClaim_s5 k w h hs hI e hy
    · rw [e]; exact FormatClaim_s6 k w h hs hI e hy
  · exact FormatClaim_sn k w h hs hy
end Go.Proofs.YtncjfgebolikoaaDoor
