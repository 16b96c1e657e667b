/-
-/
import Derived.Test.YtppkokgiojcgbaaGreatDoorQxFsT
import Derived.Test.YtppkokgiojcgbaaGreatDoorQxMinFillS
import Derived.Test.YtppkokgiojcgbaaGreatDoorQxRemEdgeS
import Derived.Test.YtppkokgiojcgbaaGreatDoorQxSafL
namespace Go.Proofs.YtppkokgiojcgbaaGreatDoor
open Go.RowKit
noncomputable def chlY (s : Int) (m : Nat) (x : Nat → Int) (t : List UInt8) : ByteArray :=
 ⟨#[100, 101, 108, 101, 116, 101, 32]⟩ ++ fsT ((dlX s m x t).getD 0) ++ ⟨#[32, 108, 97, 114, 103, 101, 115, 116, 32]⟩ ++ itB (laI m (dlX s m x t)) ++ ⟨#[32, 102, 105, 108, 108, 32]⟩ ++ edB (miL s m x) ++ ⟨#[32, 115, 97, 102, 101, 32]⟩ ++ itB ((seL s m x t).length : Nat)
noncomputable def chlB (s : Int) (m : Nat) (x : Nat → Int) (t : List UInt8) : ByteArray := if (dlX s m x t).isSome = true then chlY s m x t else ⟨#[]⟩
theorem chlB_no {s : Int} {m : Nat} {x : Nat → Int} {t : List UInt8} (h : (dlX s m x t).isSome = false) : chlB s m x t = ⟨#[]⟩ := by unfold chlB; rw [h]; rfl
theorem chlB_yes {s : Int} {m : Nat} {x : Nat → Int} {t : List UInt8} (h : (dlX s m x t).isSome = true) : chlB s m x t = chlY s m x t := by unfold chlB; rw [if_pos h]
theorem cl_facts {s : Int} {m : Nat} {x : Nat → Int} {t : List UInt8} : (dlX s m x t).getD 0 < 128 ∧ I64 (laI m (dlX s m x t)) := by
 cases ho : okB s m x
 ·rw [dlX_no ho]; exact ⟨by show 0 < 128; omega, by show I64 (-1); exact ⟨by omega, by omega⟩⟩
 ·obtain ⟨_, _, vg, _⟩ := okB_ok ho
  have hm7 := vg.n7
  have h128 := two_pow_le hm7
  rw [dlX_yes ho]
  cases h : dlO (rw_ x) m t with
  | none => exact ⟨by show 0 < 128; omega, by show I64 (-1); exact ⟨by omega, by omega⟩⟩
  | some k =>
    have h1 := dlO_lt h
    have h2 := cn_le k
    refine ⟨by show k < 128; omega, ?_⟩
    show I64 ((m : Int) - (cn k : Int))
    exact ⟨by omega, by omega⟩
theorem miL_I64 {s : Int} {m : Nat} {x : Nat → Int} : ∀ e ∈ miL s m x, ∀ z ∈ e, I64 z := by
 cases h : lxB s m x 0
 ·rw [miL_no h]; exact fun e he => by cases he
 ·rw [miL_yes h]
  intro e he z hz
  have h1 := (mfL_in (sz := s) (m := m) (x := x) _ (fofL s m x (ci (lxL s m x 0).reverse)) (Nat.le_refl _)).2 e he
  unfold lxB at h
  rw [Bool.and_eq_true] at h
  obtain ⟨_, es, vg0, _⟩ := okB_ok' h.2
  have hm7 := vg0.n7
  unfold fofL at h1
  split at h1
  ·have h2 := (List.mem_filter.1 h1).1
   unfold edAll at h2
   obtain ⟨p, hp, rfl⟩ := List.mem_map.1 h2
   have hp2 := mem_pr.1 (List.mem_filter.1 hp).1
   simp only [List.mem_cons, List.not_mem_nil, or_false] at hz
   rcases hz with rfl | rfl <;> exact ⟨by omega, by omega⟩
  ·cases h1
theorem edM_size {s : Int} {m : Nat} {x : Nat → Int} : (edB (miL s m x)).size ≤ 23089745231876 := by
 have h2 := miL_two (sz := s) (m := m) (x := x)
 have a1 := noB_size (cmJ (erT (miL s m x)) (miL s m x).length)
 have a2 := cmJ_size (T := erT (miL s m x)) (M := 42) (miL s m x).length (fun j hj => by
  have hm : (miL s m x).getD j [] ∈ miL s m x := by
   have e : (miL s m x).getD j [] = (miL s m x)[j] := by simp [List.getD, hj]
   rw [e]; exact List.getElem_mem hj
  have hl := h2.2 _ hm
  unfold erT
  have := dgJ_size (X := fun i => ((miL s m x).getD j []).getD i 0) ((miL s m x).getD j []).length (fun i hi => miL_I64 _ hm _ (getD_in hi))
  omega)
 rw [edB_eq]; omega
set_option maxRecDepth 100000 in
set_option maxHeartbeats 3200000 in
theorem ChangeLine_i (s : Int) (A : Option Addr) (m c : Nat) (x : Nat → Int) (t : ByteArray) (w : World) (h : Rd w w.heap.size A m c x) (hm : m ≤ 1048576) (ht : t.size ≤ 1048576) (hT : Tb w) :
 Calls Tryz.prog 15 #[.agg #[.int .i64 s, .slice A m c], .string t] w fun e w' => e = .returned (.string (chlB s m x t.toList)) ∧ Below w.heap.size w w' := by
 obtain ⟨W, hW⟩ : ∃ W : World, W = (w.alloc (Obj.cells #[Value.int IntKind.i64 s, Value.slice A m c] 29)) := ⟨_, rfl⟩
 have HB : Hid (From w W) := by rw [hW]; exact From.alloc _ _
 have HC : Hid (GC W w.heap.size s A m c) := by rw [hW]; exact GC.new _ _ _ _ _
 have HR : Hid (∀ z, Below w.heap.size w z → Rd z z.heap.size A m c x) := fun z hz => h.keep hz hz.size
 have HW := Lib.hid hW
 have HT := Lib.hid hT
 clear hT
 clear hW h
 have KF : Hid (∀ z, Below w.heap.size w z → _) := fun z hz => FewestDeletions_iL s A m c x t z z.heap.size (HR.out z hz) (Nat.le_refl _) hm ht
 cases ho : (dlX s m x t.toList).isSome
 ·have HO := Lib.hid (chlB_no ho)
  rw [ho] at KF
  clear ho HR
  go_enter Tryz.func15, Tryz.ntmps15
  have e0 := HC.out.c0
  have e1 := HC.out.c1
  go_wp2_with fail
  rw [← HW.out]
  refine (KF.out W HB.out.below).mono ?_
  rintro e w1 ⟨rfl, hb1⟩
  clear HW
  clear e0 e1
  replace HB := Lib.hid (HB.out.keep hb1)
  replace HC := Lib.hid (HC.out.keep hb1)
  clear hb1
  have e0 := HC.out.c0
  have e1 := HC.out.c1
  go_wp2
  go_ret
  exact ⟨by rw [HO.out]; rfl, HB.out.below⟩
 have HO : Hid (chlB s m x t.toList = ⟨#[100, 101, 108, 101, 116, 101, 32]⟩ ++ fsT ((dlX s m x t.toList).getD 0) ++ ⟨#[32, 108, 97, 114, 103, 101, 115, 116, 32]⟩ ++ itB (laI m (dlX s m x t.toList)) ++ ⟨#[32, 102, 105, 108, 108, 32]⟩ ++ edB (miL s m x) ++ ⟨#[32, 115, 97, 102, 101, 32]⟩ ++ itB ((seL s m x t.toList).length : Nat)) := chlB_yes ho
 have hcf := cl_facts (s := s) (m := m) (x := x) (t := t.toList)
 have hsl := seL_len (sz := s) (m := m) (x := x) (s := t.toList)
 have KM : Hid (∀ z, Below w.heap.size w z → _) := fun z hz => MinimalFill_i s A m c x z ⟨HR.out z hz⟩ hm
 have KS : Hid (∀ z, Below w.heap.size w z → _) := fun z hz => FormatSet_i ((dlX s m x t.toList).getD 0) hcf.1 z (HT.out.keep hz)
 have KL : Hid (∀ z, Below w.heap.size w z → _) := fun z hz => LargestInside_iL s A m c x t z z.heap.size (HR.out z hz) (Nat.le_refl _) hm ht
 have KI : Hid (∀ z, Below w.heap.size w z → _) := fun z hz => FormatInt_ia (laI m (dlX s m x t.toList)) hcf.2 z (HT.out.keep hz)
 have KE : Hid (∀ z, Below w.heap.size w z → _) := fun z hz => SafeEdits_iL s A m c x t z z.heap.size (HR.out z hz) (Nat.le_refl _) hm ht
 have KJ : Hid (∀ z, Below w.heap.size w z → _) := fun z hz => FormatInt_ia (((seL s m x t.toList).length : Nat) : Int) ⟨by omega, by omega⟩ z (HT.out.keep hz)
 have KD : Hid (∀ (z : World) (lo : Nat) (A' : Option Addr) (c' : Nat) (D : List Dsc), Below w.heap.size w z → lists D = miL s m x → EdO z lo A' c' D → Calls Tryz.prog 57 #[.slice A' D.length c'] z fun e w' => e = .returned (.string (edB (miL s m x))) ∧ Below z.heap.size z w') := fun z lo A' c' D hz hD hE => by
  have h2 := miL_two (sz := s) (m := m) (x := x)
  have h3 : D.length ≤ 21 := by rw [← lists_len, hD]; exact h2.1
  have h4 : tot D ≤ 42 := by rw [tot_two (by rw [hD]; exact h2.2)]; omega
  rw [← hD]
  exact edgesText_i A' c' D z hE.own.rdD (fun d hd => miL_I64 (s := s) (m := m) (x := x) d.2.2 (by rw [← hD]; exact List.mem_map_of_mem hd)) (by omega) (by omega) (HT.out.keep hz)
 have z1 := fsT_size ((dlX s m x t.toList).getD 0)
 have z2 := itB_size hcf.2
 have z4 := itB_size (n := (((seL s m x t.toList).length : Nat) : Int)) ⟨by omega, by omega⟩
 have z3 : (edB (miL s m x)).size ≤ 23089745231876 := edM_size
 rw [ho] at KF
 obtain ⟨S1, hS1⟩ : ∃ X, X = fsT ((dlX s m x t.toList).getD 0) := ⟨_, rfl⟩
 obtain ⟨S2, hS2⟩ : ∃ X, X = itB (laI m (dlX s m x t.toList)) := ⟨_, rfl⟩
 obtain ⟨S3, hS3⟩ : ∃ X, X = edB (miL s m x) := ⟨_, rfl⟩
 obtain ⟨n4, hn4⟩ : ∃ X, X = (seL s m x t.toList).length := ⟨_, rfl⟩
 rw [← hn4] at KJ HO z4 KE hsl
 obtain ⟨S4, hS4⟩ : ∃ X, X = itB (n4 : Int) := ⟨_, rfl⟩
 rw [← hS1] at KS HO z1
 rw [← hS2] at KI HO z2
 rw [← hS3] at KD HO z3
 rw [← hS4] at KJ HO z4
 obtain ⟨v1, hv1⟩ : ∃ X, X = (((dlX s m x t.toList).getD 0 : Nat) : Int) := ⟨_, rfl⟩
 rw [← hv1] at KF KS
 obtain ⟨v2, hv2⟩ : ∃ X, X = laI m (dlX s m x t.toList) := ⟨_, rfl⟩
 rw [← hv2] at KL KI
 have gd0 : ¬ 9223372036854775807 < 7 + S1.size := by omega
 have gd1 : ¬ 9223372036854775807 < 7 + S1.size + 9 := by omega
 have gd2 : ¬ 9223372036854775807 < 7 + S1.size + 9 + S2.size := by omega
 have gd3 : ¬ 9223372036854775807 < 7 + S1.size + 9 + S2.size + 6 := by omega
 have gd4 : ¬ 9223372036854775807 < 7 + S1.size + 9 + S2.size + 6 + S3.size := by omega
 have gd5 : ¬ 9223372036854775807 < 7 + S1.size + 9 + S2.size + 6 + S3.size + 6 := by omega
 have gd6 : ¬ 9223372036854775807 < 7 + S1.size + 9 + S2.size + 6 + S3.size + 6 + S4.size := by omega
 clear hS1 hS2 hS3 hS4 hn4 hv1 hv2 ho HR z1 z2 z3 z4 hcf
 go_enter Tryz.func15, Tryz.ntmps15
 have e0 := HC.out.c0
 have e1 := HC.out.c1
 go_wp2_with fail
 rw [← HW.out]
 refine (KF.out W HB.out.below).mono ?_
 rintro e w2 ⟨rfl, hb2⟩
 clear HW
 clear e0 e1
 replace HB := Lib.hid (HB.out.keep hb2)
 replace HC := Lib.hid (HC.out.keep hb2)
 clear hb2
 have e0 := HC.out.c0
 have e1 := HC.out.c1
 go_wp2_with fail
 refine (KM.out w2 HB.out.below).mono ?_
 rintro e w3 ⟨A', c', D, rfl, hD, hO3, hb3⟩
 clear e0 e1
 replace HB := Lib.hid (HB.out.keep hb3)
 replace HC := Lib.hid (HC.out.keep hb3)
 have e0 := HC.out.c0
 have e1 := HC.out.c1
 have HE : Hid (EdO w3 w2.heap.size A' c' D) := ⟨hO3⟩
 have HD := Lib.hid hD
 obtain ⟨nD, hnD⟩ : ∃ n, n = D.length := ⟨_, rfl⟩
 have KD2 : Hid (∀ z : World, Below w3.heap.size w3 z → Calls Tryz.prog 57 #[.slice A' nD c'] z fun e w' => e = .returned (.string S3) ∧ Below z.heap.size z w') := fun z hz => by
  rw [hnD]
  exact KD.out z _ A' c' D (HB.out.below.trans (hz.mono HB.out.below.size)) HD.out (HE.out.keep hz)
 rw [← hnD]
 clear hO3 hb3 hD hnD HE HD KD KM KF
 go_wp2
 have HSC : Hid (∀ z : World, Below w3.heap.size w3 z → (Below w3.heap.size w3 z ∧ z.cell? ⟨w.heap.size, 0, none⟩ = some (.int .i64 s) ∧ z.cell? ⟨w.heap.size, 1, none⟩ = some (.slice A m c))) := fun z hz => ⟨hz, up_ hz e0, up_ hz e1⟩
 have HZ0 : Hid (Below w3.heap.size w3 w3.drew) := (Below.refl _ _).drew
 have HS1 := Lib.hid (HSC.out _ HZ0.out)
 have KR1 : Hid (∀ z : World, Below w3.heap.size w3 z → _) := fun z hz => KS.out z (HB.out.below.trans (hz.mono HB.out.below.size))
 have KR2 : Hid (∀ z : World, Below w3.heap.size w3 z → _) := fun z hz => KL.out z (HB.out.below.trans (hz.mono HB.out.below.size))
 have KR3 : Hid (∀ z : World, Below w3.heap.size w3 z → _) := fun z hz => KI.out z (HB.out.below.trans (hz.mono HB.out.below.size))
 have KR4 : Hid (∀ z : World, Below w3.heap.size w3 z → _) := fun z hz => KD2.out z hz
 have KR5 : Hid (∀ z : World, Below w3.heap.size w3 z → _) := fun z hz => KE.out z (HB.out.below.trans (hz.mono HB.out.below.size))
 have KR6 : Hid (∀ z : World, Below w3.heap.size w3 z → _) := fun z hz => KJ.out z (HB.out.below.trans (hz.mono HB.out.below.size))
 go_region_held3 (fun z => Below w3.heap.size w3 z ∧ z.cell? ⟨w.heap.size, 0, none⟩ = some (.int .i64 s) ∧ z.cell? ⟨w.heap.size, 1, none⟩ = some (.slice A m c))
  (first | exact HS1.out | assumption | exact HSC.out _ hz8 | exact HSC.out _ hz7 | exact HSC.out _ hz6 | exact HSC.out _ hz5 | exact HSC.out _ hz4 | exact HSC.out _ hz3 | fail)
  (first | (go_at_call 54; ((with_reducible refine (KR1.out _ HZ0.out).mono ?_); rintro e w3 ⟨rfl, hb3⟩; have hz3 := bl_trans HZ0.out hb3)) | (go_at_call 56; ((with_reducible refine (KR2.out _ hz3).mono ?_); rintro e w4 ⟨rfl, hb4⟩; have hz4 := bl_trans hz3 hb4)) | (go_at_call 55; ((with_reducible refine (KR3.out _ hz4).mono ?_); rintro e w5 ⟨rfl, hb5⟩; have hz5 := bl_trans hz4 hb5)) | (go_at_call 57; ((with_reducible refine (KR4.out _ hz5).mono ?_); rintro e w6 ⟨rfl, hb6⟩; have hz6 := bl_trans hz5 hb6)) | (go_at_call 32; ((with_reducible refine (KR5.out _ hz6).mono ?_); rintro e w7 ⟨A9, c9, rfl, hO9, hb7⟩; have hz7 := bl_trans hz6 hb7)) | (go_at_call 55; ((with_reducible refine (KR6.out _ hz7).mono ?_); rintro e w8 ⟨rfl, hb8⟩; have hz8 := bl_trans hz7 hb8)))
 clear e0 e1
 replace HB := Lib.hid (HB.out.keep hz8)
 replace HC := Lib.hid (HC.out.keep hz8)
 clear hb3 hz3 hb4 hz4 hb5 hz5 hb6 hz6 hb7 hz7 hb8 hz8 HSC HZ0 HS1 KR1 KR2 KR3 KR4 KR5 KR6
 have e0 := HC.out.c0
 have e1 := HC.out.c1
 go_wp2
 go_ret
 exact ⟨by rw [HO.out]; rfl, HB.out.below⟩
set_option maxRecDepth 100000 in
set_option maxHeartbeats 3200000 in
theorem ChangeLine_s (s : Int) (A : Option Addr) (m c : Nat) (x : Nat → Int) (t : ByteArray) (w : World) (h : Rd w w.heap.size A m c x) (hm : m ≤ 1048576) (ht : t.size ≤ 1048576) :
 Calls Tryz.prog 14 #[.agg #[.int .i64 s, .slice A m c], .string t] w fun e w' => e = .returned (.string (chlB s m x t.toList)) ∧ Below w.heap.size w w' := by
 obtain ⟨W, hW⟩ : ∃ W : World, W = (w.alloc (Obj.cells #[Value.int IntKind.i64 s, Value.slice A m c] 29)) := ⟨_, rfl⟩
 have HB : Hid (From w W) := by rw [hW]; exact From.alloc _ _
 have HC : Hid (GC W w.heap.size s A m c) := by rw [hW]; exact GC.new _ _ _ _ _
 have HR : Hid (∀ z, Below w.heap.size w z → Rd z z.heap.size A m c x) := fun z hz => h.keep hz hz.size
 have HW := Lib.hid hW
 clear hW h
 have KF : Hid (∀ z, Below w.heap.size w z → _) := fun z hz => FewestDeletions_sL s A m c x t z z.heap.size (HR.out z hz) (Nat.le_refl _) hm ht
 cases ho : (dlX s m x t.toList).isSome
 ·have HO := Lib.hid (chlB_no ho)
  rw [ho] at KF
  clear ho HR
  go_enter Tryz.func14, Tryz.ntmps14
  have e0 := HC.out.c0
  have e1 := HC.out.c1
  go_wp2_with fail
  rw [← HW.out]
  refine (KF.out W HB.out.below).mono ?_
  rintro e w1 ⟨rfl, hb1⟩
  clear HW
  clear e0 e1
  replace HB := Lib.hid (HB.out.keep hb1)
  replace HC := Lib.hid (HC.out.keep hb1)
  clear hb1
  have e0 := HC.out.c0
  have e1 := HC.out.c1
  go_wp2
  go_ret
  exact ⟨by rw [HO.out]; rfl, HB.out.below⟩
 have HO : Hid (chlB s m x t.toList = ⟨#[100, 101, 108, 101, 116, 101, 32]⟩ ++ fsT ((dlX s m x t.toList).getD 0) ++ ⟨#[32, 108, 97, 114, 103, 101, 115, 116, 32]⟩ ++ itB (laI m (dlX s m x t.toList)) ++ ⟨#[32, 102, 105, 108, 108, 32]⟩ ++ edB (miL s m x) ++ ⟨#[32, 115, 97, 102, 101, 32]⟩ ++ itB ((seL s m x t.toList).length : Nat)) := chlB_yes ho
 have hcf := cl_facts (s := s) (m := m) (x := x) (t := t.toList)
 have hsl := seL_len (sz := s) (m := m) (x := x) (s := t.toList)
 have KM : Hid (∀ z, Below w.heap.size w z → _) := fun z hz => MinimalFill_s s A m c x z ⟨HR.out z hz⟩ hm
 have KS : Hid (∀ z, Below w.heap.size w z → _) := fun z hz => FormatSet_s ((dlX s m x t.toList).getD 0) hcf.1 z
 have KL : Hid (∀ z, Below w.heap.size w z → _) := fun z hz => LargestInside_sL s A m c x t z z.heap.size (HR.out z hz) (Nat.le_refl _) hm ht
 have KI : Hid (∀ z, Below w.heap.size w z → _) := fun z hz => FormatInt_sa (laI m (dlX s m x t.toList)) hcf.2 z
 have KE : Hid (∀ z, Below w.heap.size w z → _) := fun z hz => SafeEdits_sL s A m c x t z z.heap.size (HR.out z hz) (Nat.le_refl _) hm ht
 have KJ : Hid (∀ z, Below w.heap.size w z → _) := fun z hz => FormatInt_sa (((seL s m x t.toList).length : Nat) : Int) ⟨by omega, by omega⟩ z
 have KD : Hid (∀ (z : World) (lo : Nat) (A' : Option Addr) (c' : Nat) (D : List Dsc), Below w.heap.size w z → lists D = miL s m x → EdO z lo A' c' D → Calls Tryz.prog 51 #[.slice A' D.length c'] z fun e w' => e = .returned (.string (edB (miL s m x))) ∧ Below z.heap.size z w') := fun z lo A' c' D hz hD hE => by
  have h2 := miL_two (sz := s) (m := m) (x := x)
  have h3 : D.length ≤ 21 := by rw [← lists_len, hD]; exact h2.1
  have h4 : tot D ≤ 42 := by rw [tot_two (by rw [hD]; exact h2.2)]; omega
  rw [← hD]
  exact l33Edges_s A' c' D z hE.own.rdD (fun d hd => miL_I64 (s := s) (m := m) (x := x) d.2.2 (by rw [← hD]; exact List.mem_map_of_mem hd)) (by omega) (by omega)
 have z1 := fsT_size ((dlX s m x t.toList).getD 0)
 have z2 := itB_size hcf.2
 have z4 := itB_size (n := (((seL s m x t.toList).length : Nat) : Int)) ⟨by omega, by omega⟩
 have z3 : (edB (miL s m x)).size ≤ 23089745231876 := edM_size
 rw [ho] at KF
 obtain ⟨S1, hS1⟩ : ∃ X, X = fsT ((dlX s m x t.toList).getD 0) := ⟨_, rfl⟩
 obtain ⟨S2, hS2⟩ : ∃ X, X = itB (laI m (dlX s m x t.toList)) := ⟨_, rfl⟩
 obtain ⟨S3, hS3⟩ : ∃ X, X = edB (miL s m x) := ⟨_, rfl⟩
 obtain ⟨n4, hn4⟩ : ∃ X, X = (seL s m x t.toList).length := ⟨_, rfl⟩
 rw [← hn4] at KJ HO z4 KE hsl
 obtain ⟨S4, hS4⟩ : ∃ X, X = itB (n4 : Int) := ⟨_, rfl⟩
 rw [← hS1] at KS HO z1
 rw [← hS2] at KI HO z2
 rw [← hS3] at KD HO z3
 rw [← hS4] at KJ HO z4
 obtain ⟨v1, hv1⟩ : ∃ X, X = (((dlX s m x t.toList).getD 0 : Nat) : Int) := ⟨_, rfl⟩
 rw [← hv1] at KF KS
 obtain ⟨v2, hv2⟩ : ∃ X, X = laI m (dlX s m x t.toList) := ⟨_, rfl⟩
 rw [← hv2] at KL KI
 have gd0 : ¬ 9223372036854775807 < 7 + S1.size := by omega
 have gd1 : ¬ 9223372036854775807 < 7 + S1.size + 9 := by omega
 have gd2 : ¬ 9223372036854775807 < 7 + S1.size + 9 + S2.size := by omega
 have gd3 : ¬ 9223372036854775807 < 7 + S1.size + 9 + S2.size + 6 := by omega
 have gd4 : ¬ 9223372036854775807 < 7 + S1.size + 9 + S2.size + 6 + S3.size := by omega
 have gd5 : ¬ 9223372036854775807 < 7 + S1.size + 9 + S2.size + 6 + S3.size + 6 := by omega
 have gd6 : ¬ 9223372036854775807 < 7 + S1.size + 9 + S2.size + 6 + S3.size + 6 + S4.size := by omega
 clear hS1 hS2 hS3 hS4 hn4 hv1 hv2 ho HR z1 z2 z3 z4 hcf
 go_enter Tryz.func14, Tryz.ntmps14
 have e0 := HC.out.c0
 have e1 := HC.out.c1
 go_wp2_with fail
 rw [← HW.out]
 refine (KF.out W HB.out.below).mono ?_
 rintro e w2 ⟨rfl, hb2⟩
 clear HW
 clear e0 e1
 replace HB := Lib.hid (HB.out.keep hb2)
 replace HC := Lib.hid (HC.out.keep hb2)
 clear hb2
 have e0 := HC.out.c0
 have e1 := HC.out.c1
 go_wp2_with fail
 refine (KM.out w2 HB.out.below).mono ?_
 rintro e w3 ⟨A', c', D, rfl, hD, hO3, hb3⟩
 clear e0 e1
 replace HB := Lib.hid (HB.out.keep hb3)
 replace HC := Lib.hid (HC.out.keep hb3)
 have e0 := HC.out.c0
 have e1 := HC.out.c1
 have HE : Hid (EdO w3 w2.heap.size A' c' D) := ⟨hO3⟩
 have HD := Lib.hid hD
 obtain ⟨nD, hnD⟩ : ∃ n, n = D.length := ⟨_, rfl⟩
 have KD2 : Hid (∀ z : World, Below w3.heap.size w3 z → Calls Tryz.prog 51 #[.slice A' nD c'] z fun e w' => e = .returned (.string S3) ∧ Below z.heap.size z w') := fun z hz => by
  rw [hnD]
  exact KD.out z _ A' c' D (HB.out.below.trans (hz.mono HB.out.below.size)) HD.out (HE.out.keep hz)
 rw [← hnD]
 clear hO3 hb3 hD hnD HE HD KD KM KF
 go_wp2
 have HSC : Hid (∀ z : World, Below w3.heap.size w3 z → (Below w3.heap.size w3 z ∧ z.cell? ⟨w.heap.size, 0, none⟩ = some (.int .i64 s) ∧ z.cell? ⟨w.heap.size, 1, none⟩ = some (.slice A m c))) := fun z hz => ⟨hz, up_ hz e0, up_ hz e1⟩
 have HZ0 : Hid (Below w3.heap.size w3 w3.drew) := (Below.refl _ _).drew
 have HS1 := Lib.hid (HSC.out _ HZ0.out)
 have KR1 : Hid (∀ z : World, Below w3.heap.size w3 z → _) := fun z hz => KS.out z (HB.out.below.trans (hz.mono HB.out.below.size))
 have KR2 : Hid (∀ z : World, Below w3.heap.size w3 z → _) := fun z hz => KL.out z (HB.out.below.trans (hz.mono HB.out.below.size))
 have KR3 : Hid (∀ z : World, Below w3.heap.size w3 z → _) := fun z hz => KI.out z (HB.out.below.trans (hz.mono HB.out.below.size))
 have KR4 : Hid (∀ z : World, Below w3.heap.size w3 z → _) := fun z hz => KD2.out z hz
 have KR5 : Hid (∀ z : World, Below w3.heap.size w3 z → _) := fun z hz => KE.out z (HB.out.below.trans (hz.mono HB.out.below.size))
 have KR6 : Hid (∀ z : World, Below w3.heap.size w3 z → _) := fun z hz => KJ.out z (HB.out.below.trans (hz.mono HB.out.below.size))
 go_region_held3 (fun z => Below w3.heap.size w3 z ∧ z.cell? ⟨w.heap.size, 0, none⟩ = some (.int .i64 s) ∧ z.cell? ⟨w.heap.size, 1, none⟩ = some (.slice A m c))
  (first | exact HS1.out | assumption | exact HSC.out _ hz8 | exact HSC.out _ hz7 | exact HSC.out _ hz6 | exact HSC.out _ hz5 | exact HSC.out _ hz4 | exact HSC.out _ hz3 | fail)
  (first | (go_at_call 48; ((with_reducible refine (KR1.out _ HZ0.out).mono ?_); rintro e w3 ⟨rfl, hb3⟩; have hz3 := bl_trans HZ0.out hb3)) | (go_at_call 50; ((with_reducible refine (KR2.out _ hz3).mono ?_); rintro e w4 ⟨rfl, hb4⟩; have hz4 := bl_trans hz3 hb4)) | (go_at_call 49; ((with_reducible refine (KR3.out _ hz4).mono ?_); rintro e w5 ⟨rfl, hb5⟩; have hz5 := bl_trans hz4 hb5)) | (go_at_call 51; ((with_reducible refine (KR4.out _ hz5).mono ?_); rintro e w6 ⟨rfl, hb6⟩; have hz6 := bl_trans hz5 hb6)) | (go_at_call 33; ((with_reducible refine (KR5.out _ hz6).mono ?_); rintro e w7 ⟨A9, c9, rfl, hO9, hb7⟩; have hz7 := bl_trans hz6 hb7)) | (go_at_call 49; ((with_reducible refine (KR6.out _ hz7).mono ?_); rintro e w8 ⟨rfl, hb8⟩; have hz8 := bl_trans hz7 hb8)))
 clear e0 e1
 replace HB := Lib.hid (HB.out.keep hz8)
 replace HC := Lib.hid (HC.out.keep hz8)
 clear hb3 hz3 hb4 hz4 hb5 hz5 hb6 hz6 hb7 hz7 hb8 hz8 HSC HZ0 HS1 KR1 KR2 KR3 KR4 KR5 KR6
 have e0 := HC.out.c0
 have e1 := HC.out.c1
 go_wp2
 go_ret
 exact ⟨by rw [HO.out]; rfl, HB.out.below⟩
section
variable (s1 : Int) (A1 : Option Addr) (m1 c1 : Nat) (x1 : Nat → Int) (t2 : ByteArray) (w : World) (B : Nat)
theorem ChangeLine_iL (h1 : Rd w B A1 m1 c1 x1) (hB : B ≤ w.heap.size) (hm1 : m1 ≤ 1048576) (ht : t2.size ≤ 1048576) (hT : Tb w) :
 Calls Tryz.prog 15 #[.agg #[.int .i64 s1, .slice A1 m1 c1], .string t2] w fun e w' => e = .returned (.string (chlB s1 m1 x1 t2.toList)) ∧ Below w.heap.size w w' :=
 ChangeLine_i s1 A1 m1 c1 x1 t2 w (h1.keep (Below.refl _ _) hB) hm1 ht hT
theorem ChangeLine_sL (h1 : Rd w B A1 m1 c1 x1) (hB : B ≤ w.heap.size) (hm1 : m1 ≤ 1048576) (ht : t2.size ≤ 1048576) :
 Calls Tryz.prog 14 #[.agg #[.int .i64 s1, .slice A1 m1 c1], .string t2] w fun e w' => e = .returned (.string (chlB s1 m1 x1 t2.toList)) ∧ Below w.heap.size w w' :=
 ChangeLine_s s1 A1 m1 c1 x1 t2 w (h1.keep (Below.refl _ _) hB) hm1 ht
end
end Go.Proofs.YtppkokgiojcgbaaGreatDoor
