/-
  Several texts in one.
-/
import Derived.Test.YtfabbohijhjpcaaGreatDoorRcGA
import Derived.Test.YtfabbohijhjpcaaGreatDoorRcCllI
import Derived.Test.YtfabbohijhjpcaaGreatDoorRcPmoS
import Derived.Test.YtfabbohijhjpcaaGreatDoorRcPruS
import Derived.Test.YtfabbohijhjpcaaGreatDoorRcOrnQ
import Derived.JoinedOf
import Derived.Test.YtfabbohijhjpcaaGreatDoorRcFmU
import Derived.Lib.LaidTab
import Derived.LaidSub
import Derived.LaidMore
import Derived.Lay
import Derived.Stop.Joined
import Derived.SevenTiedAt
import Derived.Handed
/-
-/
namespace Go.Proofs.YtfabbohijhjpcaaGreatDoor
open Go.RowKit
set_option maxRecDepth 100000 in
theorem l34Yes_s (b : Bool) (t : ByteArray) (w : World) :
 Calls Tryz.prog 74 #[.bool b, .string t] w fun e w' => e = .returned (.string (if b = true then t else ⟨#[]⟩)) ∧ Below w.heap.size w w' := by
 cases b
 ·go_enter Tryz.func74, Tryz.ntmps74
  go_wp2
  go_ret
  exact ⟨rfl, Below.refl _ _⟩
 ·go_enter Tryz.func74, Tryz.ntmps74
  go_wp2
  go_ret
  exact ⟨rfl, Below.refl _ _⟩
end Go.Proofs.YtfabbohijhjpcaaGreatDoor

/-
-/
namespace Go.Proofs.YtfabbohijhjpcaaGreatDoor
open Go.RowKit
theorem two_bytes (U V : ByteArray) (a b : UInt8) : U ++ (⟨#[a, b]⟩ : ByteArray) ++ V = U ++ ⟨#[a]⟩ ++ ((⟨#[b]⟩ : ByteArray) ++ V) := by
 rw [show (⟨#[a, b]⟩ : ByteArray) = ⟨#[a]⟩ ++ ⟨#[b]⟩ from rfl]
 simp only [ByteArray.append_assoc]
set_option maxRecDepth 100000 in
set_option maxHeartbeats 6400000 in
theorem ClassLine_s (s : Int) (A : Option Addr) (m c : Nat) (x : Nat → Int) (w : World) (h : Rd w w.heap.size A m c x) (hm : m ≤ 1048576) :
 Calls Tryz.prog 29 #[.agg #[.int .i64 s, .slice A m c]] w fun e w' => e = .returned (.string (cllB s m x)) ∧ Below w.heap.size w w' := by
 have KG := Lib.hid (fun (z : World) (hz : From w z) => IsGraph_sany s A m c x z w.heap.size (h.keep hz.below (Nat.le_refl _)) hz.below.size hm)
 obtain ⟨W, hW⟩ : ∃ W : World, W = (w.alloc (Obj.cells #[Value.int IntKind.i64 s, Value.slice A m c] 26)) := ⟨_, rfl⟩
 have HB : Hid (From w W) := by rw [hW]; exact From.alloc _ _
 have HC : Hid (GC W w.heap.size s A m c) := by rw [hW]; exact GC.new _ _ _ _ _
 have HW := Lib.hid hW
 clear hW
 cases ho : okB s m x
 ·rw [ho] at KG
  have HE : Hid (cllB s m x = ⟨#[]⟩) := cllB_no ho
  clear ho h
  go_enter Tryz.func29, Tryz.ntmps29
  have e0 := HC.out.c0
  have e1 := HC.out.c1
  go_wp2_with fail
  rw [← HW.out]
  refine (KG.out _ HB.out).mono ?_
  rintro e w1 ⟨rfl, hb1⟩
  clear HW
  clear e0 e1
  replace HB := Lib.hid (HB.out.keep hb1)
  replace HC := Lib.hid (HC.out.keep hb1)
  clear hb1
  have e0 := HC.out.c0
  have e1 := HC.out.c1
  go_wp2
  go_ret
  exact ⟨by rw [HE.out]; rfl, HB.out.below⟩
 obtain ⟨_, es, _, _⟩ := okB_ok' ho
 subst es
 have hGA : GA w A m c x := ⟨h⟩
 have HGA := Lib.hid hGA
 have HGV := Lib.hid (hGA.gv ho)
 have hm7 := (hGA.gv ho).vg.n7
 have HE : Hid (cllB (m : Int) m x = spJ (clF m x)) := cllB_yes ho
 rw [ho] at KG
 have K1 : Hid (∀ z : World, From w z → Calls Tryz.prog 75 #[.agg #[.int .i64 (m : Int), .slice A m c]] z fun e w' => e = .returned (.bool (otO (rw_ x) m).isSome) ∧ Below z.heap.size z w') := fun z hz => IsComparability_sv (HGV.out.keep hz.below)
 have K2 : Hid (∀ z : World, From w z → Calls Tryz.prog 76 #[.agg #[.int .i64 (m : Int), .slice A m c]] z fun e w' => e = .returned (.bool (pmO (rw_ x) m).isSome) ∧ Below z.heap.size z w') := fun z hz => IsPermutationGraph_sv (HGV.out.keep hz.below)
 have K3 : Hid (∀ z : World, From w z → Calls Tryz.prog 77 #[.agg #[.int .i64 (m : Int), .slice A m c]] z fun e w' => e = .returned (.bool (plO (rw_ x) m).isSome) ∧ Below z.heap.size z w') := fun z hz => IsHereditary_sv (HGV.out.keep hz.below)
 have HCF : Hid (spJ (clF m x) = spJ (clL m x 9) ++ (if (otO (rw_ x) m).isSome = true then ⟨#[32]⟩ ++ clC else ⟨#[]⟩) ++ (if (pmO (rw_ x) m).isSome = true then ⟨#[32]⟩ ++ clP else ⟨#[]⟩) ++ (if (plO (rw_ x) m).isSome = true then ⟨#[32]⟩ ++ clH else ⟨#[]⟩)) := clF_join
 obtain ⟨b1, hb1⟩ : ∃ b, b = (otO (rw_ x) m).isSome := ⟨_, rfl⟩
 obtain ⟨b2, hb2⟩ : ∃ b, b = (pmO (rw_ x) m).isSome := ⟨_, rfl⟩
 obtain ⟨b3, hb3⟩ : ∃ b, b = (plO (rw_ x) m).isSome := ⟨_, rfl⟩
 rw [← hb1] at K1 HCF
 rw [← hb2] at K2 HCF
 rw [← hb3] at K3 HCF
 obtain ⟨Y1, hY1⟩ : ∃ Y : ByteArray, Y = if b1 = true then ⟨#[32, 43, 99, 111, 109, 112, 97, 114, 97, 98, 105, 108, 105, 116, 121]⟩ else ⟨#[]⟩ := ⟨_, rfl⟩
 obtain ⟨Y2, hY2⟩ : ∃ Y : ByteArray, Y = if b2 = true then ⟨#[32, 43, 112, 101, 114, 109, 117, 116, 97, 116, 105, 111, 110]⟩ else ⟨#[]⟩ := ⟨_, rfl⟩
 obtain ⟨Y3, hY3⟩ : ∃ Y : ByteArray, Y = if b3 = true then ⟨#[32, 43, 104, 101, 114, 101, 100, 105, 116, 97, 114, 121]⟩ else ⟨#[]⟩ := ⟨_, rfl⟩
 have zY1 : Y1.size ≤ 15 := by rw [hY1]; cases b1 <;> decide
 have zY2 : Y2.size ≤ 15 := by rw [hY2]; cases b2 <;> decide
 have zY3 : Y3.size ≤ 15 := by rw [hY3]; cases b3 <;> decide
 have KY1 : Hid (∀ z : World, Calls Tryz.prog 74 #[.bool b1, .string ⟨#[32, 43, 99, 111, 109, 112, 97, 114, 97, 98, 105, 108, 105, 116, 121]⟩] z fun e w' => e = .returned (.string Y1) ∧ Below z.heap.size z w') := fun z => by rw [hY1]; exact l34Yes_s b1 _ z
 have KY2 : Hid (∀ z : World, Calls Tryz.prog 74 #[.bool b2, .string ⟨#[32, 43, 112, 101, 114, 109, 117, 116, 97, 116, 105, 111, 110]⟩] z fun e w' => e = .returned (.string Y2) ∧ Below z.heap.size z w') := fun z => by rw [hY2]; exact l34Yes_s b2 _ z
 have KY3 : Hid (∀ z : World, Calls Tryz.prog 74 #[.bool b3, .string ⟨#[32, 43, 104, 101, 114, 101, 100, 105, 116, 97, 114, 121]⟩] z fun e w' => e = .returned (.string Y3) ∧ Below z.heap.size z w') := fun z => by rw [hY3]; exact l34Yes_s b3 _ z
 have HY : Hid (spJ (clF m x) = spJ (clL m x 9) ++ Y1 ++ Y2 ++ Y3) := by
  show _ = _
  rw [HCF.out, hY1, hY2, hY3]
  cases b1 <;> cases b2 <;> cases b3 <;> rfl
 clear ho h hGA hb1 hb2 hb3 hY1 hY2 hY3 HCF
 go_enter Tryz.func29, Tryz.ntmps29
 have e0 := HC.out.c0
 have e1 := HC.out.c1
 go_wp2_with fail
 rw [← HW.out]
 refine (KG.out _ HB.out).mono ?_
 rintro e w2 ⟨rfl, hb2⟩
 clear HW
 clear e0 e1
 replace HB := Lib.hid (HB.out.keep hb2)
 replace HC := Lib.hid (HC.out.keep hb2)
 clear hb2
 have e0 := HC.out.c0
 have e1 := HC.out.c1
 clear KG
 go_wp2_with fail
 refine (ClassNames_sv w2).mono ?_
 rintro e w3 ⟨A3, c3, rfl, hO3, hb3⟩
 obtain ⟨gn, rfl, hgn, _, hN⟩ := hO3.only (by omega)
 have HN : Hid (NB w3 gn c3) := ⟨hN⟩
 clear e0 e1
 replace HB := Lib.hid (HB.out.keep hb3)
 replace HC := Lib.hid (HC.out.keep hb3)
 clear hb3 hO3 hN
 have e0 := HC.out.c0
 have e1 := HC.out.c1
 clear e0 e1
 have HU0 : Hid (clsB = spJ (clL m x 0)) := (spJ_one clsB).symm
 go_wp2
 go_loopw [3, 5] (fun o i wr => ∃ (k : Nat) (U : ByteArray), k ≤ 9 ∧ i = .int .i64 k ∧ o = .string U ∧ U.size ≤ 7 + 171 * k ∧ Hid (U = spJ (clL m x k)) ∧ Hid (NB wr gn c3) ∧ Hid (GC wr w.heap.size m A m c) ∧ Hid (From w wr)) (fun _ i _ => 9 - (intOf i).toNat)
 case atStart => exact ⟨0, clsB, Nat.zero_le _, rfl, rfl, by decide, HU0, HN, HC, HB⟩
 case round =>
  clear HN HC HB HU0
  obtain ⟨k, U, hk, rfl, rfl, hU, HU, HN, HC, HB⟩ := hrel
  have e0 := HC.out.c0
  have e1 := HC.out.c1
  have hzr : w.heap.size ≤ wr.heap.size := HB.out.below.size
  by_cases hk9 : k < 9
  rotate_left
  ·obtain rfl : k = 9 := by omega
   have gd1 : ¬ 9223372036854775807 < U.size + Y1.size := by omega
   have gd2 : ¬ 9223372036854775807 < U.size + Y1.size + Y2.size := by omega
   have gd3 : ¬ 9223372036854775807 < U.size + Y1.size + Y2.size + Y3.size := by omega
   clear hU zY1 zY2 zY3
   have HB' := HB
   have HSC : Hid (∀ z : World, Below wr.heap.size wr z → (Below wr.heap.size wr z ∧ z.cell? ⟨w.heap.size, 0, none⟩ = some (.int .i64 (m : Nat)) ∧ z.cell? ⟨w.heap.size, 1, none⟩ = some (.slice A m c))) := fun z hz => ⟨hz, up_ hz e0, up_ hz e1⟩
   have HZ0 : Hid (Below wr.heap.size wr wr.drew) := (Below.refl _ _).drew
   have HS1 := Lib.hid (HSC.out _ HZ0.out)
   have KR1 : Hid (∀ z : World, Below wr.heap.size wr z → _) := fun z hz => K1.out z (HB'.out.keep hz)
   have KR2 : Hid (∀ z : World, Below wr.heap.size wr z → _) := fun z hz => KY1.out z
   have KR3 : Hid (∀ z : World, Below wr.heap.size wr z → _) := fun z hz => K2.out z (HB'.out.keep hz)
   have KR4 : Hid (∀ z : World, Below wr.heap.size wr z → _) := fun z hz => KY2.out z
   have KR5 : Hid (∀ z : World, Below wr.heap.size wr z → _) := fun z hz => K3.out z (HB'.out.keep hz)
   have KR6 : Hid (∀ z : World, Below wr.heap.size wr z → _) := fun z hz => KY3.out z
   go_wp2
   go_region_held3 (fun z => Below wr.heap.size wr z ∧ z.cell? ⟨w.heap.size, 0, none⟩ = some (.int .i64 (m : Nat)) ∧ z.cell? ⟨w.heap.size, 1, none⟩ = some (.slice A m c))
    (first | exact HS1.out | assumption | exact HSC.out _ hz8 | exact HSC.out _ hz7 | exact HSC.out _ hz6 | exact HSC.out _ hz5 | exact HSC.out _ hz4 | exact HSC.out _ hz3 | fail)
    (first | (go_at_call 75; ((with_reducible refine (KR1.out _ HZ0.out).mono ?_); rintro e w3 ⟨rfl, hb3⟩; have hz3 := bl_trans HZ0.out hb3)) | (go_at_call 74; ((with_reducible refine (KR2.out _ hz3).mono ?_); rintro e w4 ⟨rfl, hb4⟩; have hz4 := bl_trans hz3 hb4)) | (go_at_call 76; ((with_reducible refine (KR3.out _ hz4).mono ?_); rintro e w5 ⟨rfl, hb5⟩; have hz5 := bl_trans hz4 hb5)) | (go_at_call 74; ((with_reducible refine (KR4.out _ hz5).mono ?_); rintro e w6 ⟨rfl, hb6⟩; have hz6 := bl_trans hz5 hb6)) | (go_at_call 77; ((with_reducible refine (KR5.out _ hz6).mono ?_); rintro e w7 ⟨rfl, hb7⟩; have hz7 := bl_trans hz6 hb7)) | (go_at_call 74; ((with_reducible refine (KR6.out _ hz7).mono ?_); rintro e w8 ⟨rfl, hb8⟩; have hz8 := bl_trans hz7 hb8)))
   clear e0 e1
   replace HB := Lib.hid (HB.out.keep hz8)
   replace HC := Lib.hid (HC.out.keep hz8)
   clear hb3 hz3 hb4 hz4 hb5 hz5 hb6 hz6 hb7 hz7 hb8 hz8 HSC HZ0 HS1 KR1 KR2 KR3 KR4 KR5 KR6
   have e0 := HC.out.c0
   have e1 := HC.out.c1
   go_wp2
   go_ret
   exact ⟨by rw [HE.out, HY.out, ← HU.out]; rfl, HB.out.below⟩
  have i1 : (k : Int) < (9 : Int) := by omega
  have q0 := HN.out.cell hk9
  have KO : Hid (∀ z : World, From w z → Calls Tryz.prog 72 #[.agg #[.int .i64 (m : Int), .slice A m c], .string (nm k)] z (lsQ z (obO (m : Int) m x (nm k).toList))) := fun z hz => ObstacleFor_s (m : Int) A m c x (nm k) z (HGA.out.keep hz.below) hm
  have hNs := nm_size k
  have hWs := clW_size (x := x) (j := k) hm7
  have HWy : Hid (∀ l, obO (m : Int) m x (nm k).toList = some l → clW m x k = ⟨#[45]⟩ ++ nm k ++ ⟨#[40]⟩ ++ nuB (fun i => ((l.getD i 0 : Nat) : Int)) l.length ++ ⟨#[41]⟩ ∧ l.length ≤ 7 ∧ ∀ i, i < l.length → I64 ((l.getD i 0 : Nat) : Int)) := fun l hl => ⟨clW_yes hl, (ob_I64 hm7 hl).1, (ob_I64 hm7 hl).2⟩
  have HWn : Hid (obO (m : Int) m x (nm k).toList = none → clW m x k = ⟨#[43]⟩ ++ nm k) := fun hl => clW_no hl
  obtain ⟨o, hoo⟩ : ∃ o, o = obO (m : Int) m x (nm k).toList := ⟨_, rfl⟩
  rw [← hoo] at KO HWy HWn
  obtain ⟨N, hN⟩ : ∃ N, N = nm k := ⟨_, rfl⟩
  rw [← hN] at q0 KO HWy HWn hNs
  obtain ⟨V, hV⟩ : ∃ V, V = clW m x k := ⟨_, rfl⟩
  rw [← hV] at hWs HWy HWn
  have HX : Hid (spJ (clL m x (k + 1)) = U ++ ⟨#[32]⟩ ++ V) := by show _ = _; rw [clJ_succ, HU.out, hV]
  have hXs : (U ++ ⟨#[32]⟩ ++ V).size ≤ 7 + 171 * (k + 1) := by rw [ByteArray.size_append, ByteArray.size_append]; show _ + 1 + _ ≤ _; omega
  have HXs := Lib.hid hXs
  have HB' := HB
  have HQ : Hid (CL wr gn k (.string N)) := ⟨q0⟩
  clear hoo hN hV hXs
  rcases o with _ | l
  ·have HS : Hid (U ++ ⟨#[32, 43]⟩ ++ N = U ++ ⟨#[32]⟩ ++ V) := by show _ = _; rw [HWn.out rfl]; exact two_bytes _ _ _ _
   have gd1 : ¬ 9223372036854775807 < U.size + 2 := by omega
   have gd2 : ¬ 9223372036854775807 < U.size + 2 + N.size := by omega
   have HSC : Hid (∀ z : World, Below wr.heap.size wr z → (Below wr.heap.size wr z ∧ z.cell? ⟨w.heap.size, 0, none⟩ = some (.int .i64 (m : Nat)) ∧ z.cell? ⟨w.heap.size, 1, none⟩ = some (.slice A m c) ∧ z.cell? ⟨gn, k, none⟩ = some (.string N))) := fun z hz => ⟨hz, up_ hz e0, up_ hz e1, up_ hz q0⟩
   have HZ0 : Hid (Below wr.heap.size wr wr.drew) := (Below.refl _ _).drew
   have HS1 := Lib.hid (HSC.out _ HZ0.out)
   have KR1 : Hid (∀ z : World, Below wr.heap.size wr z → _) := fun z hz => KO.out z (HB'.out.keep hz)
   go_wp2
   go_region_held3 (fun z => Below wr.heap.size wr z ∧ z.cell? ⟨w.heap.size, 0, none⟩ = some (.int .i64 (m : Nat)) ∧ z.cell? ⟨w.heap.size, 1, none⟩ = some (.slice A m c) ∧ z.cell? ⟨gn, k, none⟩ = some (.string N))
    (first | exact HS1.out | assumption | exact HSC.out _ hz9 | fail)
    (first | (go_at_call 72; ((with_reducible refine (KR1.out _ HZ0.out).mono ?_); rintro e w9 ⟨A5, c5, rfl, ho5, hb9⟩; have hz9 := bl_trans HZ0.out hb9)))
   clear e0 e1 q0
   replace HB := Lib.hid (HB.out.keep hz9)
   replace HC := Lib.hid (HC.out.keep hz9)
   replace HN := Lib.hid (HN.out.keep hz9)
   replace HQ := Lib.hid (HQ.out.keep hz9)
   clear hb9 hz9 HSC HZ0 HS1 KR1
   have e0 := HC.out.c0
   have e1 := HC.out.c1
   have q0 := HQ.out.c
   clear KO HB' ho5
   go_wp2
   go_roundw
   case rel => exact ⟨k + 1, _, by omega, by go_num, rfl, by rw [HS.out]; exact HXs.out, by show _ = _; rw [HS.out, HX.out], HN, HC, HB⟩
   case measure => (simp [intOf] <;> omega)
  ·obtain ⟨h1, h2, h3⟩ := HWy.out l rfl
   have H3 := Lib.hid h3
   obtain ⟨P, hP⟩ : ∃ P, P = nuB (fun i => ((l.getD i 0 : Nat) : Int)) l.length := ⟨_, rfl⟩
   have hPs : P.size ≤ 158 := by rw [hP]; have := nuB_size (X := fun i => ((l.getD i 0 : Nat) : Int)) (n := l.length) h3; omega
   rw [← hP] at h1
   have HS : Hid (U ++ ⟨#[32, 45]⟩ ++ N ++ ⟨#[40]⟩ ++ P ++ ⟨#[41]⟩ = U ++ ⟨#[32]⟩ ++ V) := by
    show _ = _
    rw [h1]
    have := two_bytes U (N ++ ⟨#[40]⟩ ++ P ++ ⟨#[41]⟩) 32 45
    simpa only [ByteArray.append_assoc] using this
   have KN : Hid (∀ (z : World) (A' : Option Addr) (c' : Nat), ON w.heap.size z A' c' l → Calls Tryz.prog 73 #[.slice A' l.length c'] z fun e w' => e = .returned (.string P) ∧ Below z.heap.size z w') := fun z A' c' hl => by
    rw [hP]
    exact l33Numbers_s A' l.length c' (fun i => ((l.getD i 0 : Nat) : Int)) z hl.ln.rd H3.out (by omega)
   clear h1 h3 hP HWy HWn
   have gd1 : ¬ 9223372036854775807 < U.size + 2 := by omega
   have gd2 : ¬ 9223372036854775807 < U.size + 2 + N.size := by omega
   have gd3 : ¬ 9223372036854775807 < U.size + 2 + N.size + 1 := by omega
   have gd4 : ¬ 9223372036854775807 < U.size + 2 + N.size + 1 + P.size := by omega
   have gd5 : ¬ 9223372036854775807 < U.size + 2 + N.size + 1 + P.size + 1 := by omega
   have HSC : Hid (∀ z : World, Below wr.heap.size wr z → (Below wr.heap.size wr z ∧ z.cell? ⟨w.heap.size, 0, none⟩ = some (.int .i64 (m : Nat)) ∧ z.cell? ⟨w.heap.size, 1, none⟩ = some (.slice A m c) ∧ z.cell? ⟨gn, k, none⟩ = some (.string N))) := fun z hz => ⟨hz, up_ hz e0, up_ hz e1, up_ hz q0⟩
   have HZ0 : Hid (Below wr.heap.size wr wr.drew) := (Below.refl _ _).drew
   have HS1 := Lib.hid (HSC.out _ HZ0.out)
   have KR1 : Hid (∀ z : World, Below wr.heap.size wr z → _) := fun z hz => KO.out z (HB'.out.keep hz)
   go_wp2
   go_region_held3 (fun z => Below wr.heap.size wr z ∧ z.cell? ⟨w.heap.size, 0, none⟩ = some (.int .i64 (m : Nat)) ∧ z.cell? ⟨w.heap.size, 1, none⟩ = some (.slice A m c) ∧ z.cell? ⟨gn, k, none⟩ = some (.string N))
    (first | exact HS1.out | assumption | exact HSC.out _ hz10 | fail)
    (first | (go_at_call 72; ((with_reducible refine (KR1.out _ HZ0.out).mono ?_); rintro e w10 ⟨A5, c5, rfl, ho5, hb10⟩; have hz10 := bl_trans HZ0.out hb10)))
   clear e0 e1 q0
   replace HB := Lib.hid (HB.out.keep hz10)
   replace HC := Lib.hid (HC.out.keep hz10)
   replace HN := Lib.hid (HN.out.keep hz10)
   replace HQ := Lib.hid (HQ.out.keep hz10)
   clear hb10 hz10 HSC HZ0 HS1 KR1
   have e0 := HC.out.c0
   have e1 := HC.out.c1
   have q0 := HQ.out.c
   have HO5 : Hid (ON w.heap.size w10 A5 c5 l) := ho5.mono hzr
   have HO' := HO5
   clear KO HB' ho5
   clear e0 e1
   have HSC : Hid (∀ z : World, Below w10.heap.size w10 z → (Below w10.heap.size w10 z ∧ z.cell? ⟨gn, k, none⟩ = some (.string N))) := fun z hz => ⟨hz, up_ hz q0⟩
   have HZ0 : Hid (Below w10.heap.size w10 w10.drew) := (Below.refl _ _).drew
   have HS1 := Lib.hid (HSC.out _ HZ0.out)
   have KR1 : Hid (∀ z : World, Below w10.heap.size w10 z → _) := fun z hz => KN.out z _ _ (HO'.out.keep hz)
   go_wp2
   go_region_held3 (fun z => Below w10.heap.size w10 z ∧ z.cell? ⟨gn, k, none⟩ = some (.string N))
    (first | exact HS1.out | assumption | exact HSC.out _ hz11 | fail)
    (first | (go_at_call 73; ((with_reducible refine (KR1.out _ HZ0.out).mono ?_); rintro e w11 ⟨rfl, hb11⟩; have hz11 := bl_trans HZ0.out hb11)))
   clear q0
   replace HB := Lib.hid (HB.out.keep hz11)
   replace HC := Lib.hid (HC.out.keep hz11)
   replace HN := Lib.hid (HN.out.keep hz11)
   replace HQ := Lib.hid (HQ.out.keep hz11)
   clear hb11 hz11 HSC HZ0 HS1 KR1
   have q0 := HQ.out.c
   clear KN HO5 HO'
   go_wp2
   go_roundw
   case rel => exact ⟨k + 1, _, by omega, by go_num, rfl, by rw [HS.out]; exact HXs.out, by show _ = _; rw [HS.out, HX.out], HN, HC, HB⟩
   case measure => (simp [intOf] <;> omega)
section
variable (s1 : Int) (A1 : Option Addr) (m1 c1 : Nat) (x1 : Nat → Int) (w : World) (B : Nat)
theorem ClassLine_iL (h1 : Rd w B A1 m1 c1 x1) (hB : B ≤ w.heap.size) (hm1 : m1 ≤ 1048576) (hT : Tb w) :
 Calls Tryz.prog 31 #[.agg #[.int .i64 s1, .slice A1 m1 c1]] w fun e w' => e = .returned (.string (cllB s1 m1 x1)) ∧ Below w.heap.size w w' :=
 ClassLine_i s1 A1 m1 c1 x1 w (h1.keep (Below.refl _ _) hB) hm1 hT
theorem ClassLine_sL (h1 : Rd w B A1 m1 c1 x1) (hB : B ≤ w.heap.size) (hm1 : m1 ≤ 1048576) :
 Calls Tryz.prog 29 #[.agg #[.int .i64 s1, .slice A1 m1 c1]] w fun e w' => e = .returned (.string (cllB s1 m1 x1)) ∧ Below w.heap.size w w' :=
 ClassLine_s s1 A1 m1 c1 x1 w (h1.keep (Below.refl _ _) hB) hm1
end
end Go.Proofs.YtfabbohijhjpcaaGreatDoor

/-
-/
namespace Go.Proofs.YtfabbohijhjpcaaGreatDoor
open Go.RowKit
def leadsAt (P : Program) (i : FuncId) : List FuncId := (P.funcs[i]?).elim [] P.leadsTo
section
variable {P : Program} {f g h : FuncId}
theorem recurses_of (hu : P.unfollowed f = true) : P.recurses f = true := by unfold Program.recurses; rw [hu]; rfl
variable {lo hi : Nat}
end
end Go.Proofs.YtfabbohijhjpcaaGreatDoor

/-
-/
namespace Go.Proofs.YtfabbohijhjpcaaGreatDoor
open Go.RowKit
def tabAt (adj : List (List Nat)) (i : Nat) : List Nat := adj.getD i []
def goT (adj : List (List Nat)) : Nat → List Nat → Nat → List Nat → List Nat
 | 0, _, _, seen => seen.reverse
 | _ + 1, [], _, seen => seen.reverse
 | n + 1, f :: todo, k, seen => bif k.testBit f then goT adj n todo k seen else goT adj n (tabAt adj f ++ todo) (k ||| (1 <<< f)) (f :: seen)
theorem goT_eq {P : Program} {adj : List (List Nat)} (hadj : ∀ i, leadsAt P i = tabAt adj i) : ∀ (n : Nat) (todo : List Nat) (k : Nat) (seen : List Nat), (∀ i, k.testBit i = seen.contains i) → goT adj n todo k seen = P.closureVia n todo seen
 | 0, todo, k, seen, _ => by unfold goT Program.closureVia; rfl
 | n + 1, [], k, seen, _ => by unfold goT Program.closureVia; rfl
 | n + 1, f :: todo, k, seen, h => by
   unfold goT
   conv => rhs; unfold Program.closureVia
   rw [h f]
   cases hs : seen.contains f
   ·show goT adj n (tabAt adj f ++ todo) (k ||| (1 <<< f)) (f :: seen) = P.closureVia n (leadsAt P f ++ todo) (f :: seen)
    rw [hadj f]
    refine goT_eq hadj n _ _ _ fun i => ?_
    rw [Nat.testBit_or, h i, List.contains_cons, Nat.one_shiftLeft, Nat.testBit_two_pow, Bool.or_comm]
    congr 1
    by_cases e : f = i
    ·subst e; simp
    ·have e2 : ¬ i = f := fun h => e h.symm
     simp [e, e2]
   ·exact goT_eq hadj n todo k seen h
theorem tab_all {P : Program} {adj : List (List Nat)} (h1 : P.funcs.size = adj.length) (h2 : (List.range adj.length).map (leadsAt P) = adj) : ∀ i, leadsAt P i = tabAt adj i := by
 intro i
 by_cases hi : i < adj.length
 ·have e : ((List.range adj.length).map (leadsAt P))[i]? = adj[i]? := by rw [h2]
  rw [List.getElem?_map, List.getElem?_range hi, Option.map_some, List.getElem?_eq_getElem hi] at e
  unfold tabAt
  rw [Option.some.inj e]
  simp [List.getD, hi]
 ·unfold leadsAt tabAt
  rw [Array.getElem?_eq_none (by rw [h1]; exact Nat.le_of_not_lt hi)]
  simp [List.getD, List.getElem?_eq_none (Nat.le_of_not_lt hi)]
theorem tab_sum {P : Program} {adj : List (List Nat)} (h1 : P.funcs.size = adj.length) (h2 : (List.range adj.length).map (leadsAt P) = adj) : (P.funcs.toList.map fun g => (P.leadsTo g).length + 1).sum = (adj.map fun l => l.length + 1).sum := by
 have e : P.funcs.toList.map P.leadsTo = adj := by
  rw [← h2]
  apply List.ext_getElem
  ·simp [h1]
  ·intro i h3 h4
   have hi : i < P.funcs.size := by simpa using h3
   simp [leadsAt, hi]
 rw [← e, List.map_map]
 rfl
theorem closure_tab {P : Program} {adj : List (List Nat)} (h1 : P.funcs.size = adj.length) (h2 : (List.range adj.length).map (leadsAt P) = adj) (f : FuncId) : P.closure f = goT adj (1 + (adj.map fun l => l.length + 1).sum) [f] 0 [] := by
 unfold Program.closure
 rw [tab_sum h1 h2]
 exact (goT_eq (tab_all h1 h2) _ _ _ _ (fun i => by simp)).symm
end Go.Proofs.YtfabbohijhjpcaaGreatDoor

/-
-/
namespace Go.Proofs.YtfabbohijhjpcaaGreatDoor
open Go.RowKit
theorem tb_of {W : World} {l : List (String × DataW Unit)} (h : laidMetH Tryz.prog l W) (hf : l.filter (fun x => x.1 == "internal/strconv.uint64pow10") = [("internal/strconv.uint64pow10", Rows.laid_internal_strconv_uint64pow10)]) : Tb W := by
 have h2 := h.filter (fun x => x.1 == "internal/strconv.uint64pow10")
 rw [hf, MakeChecks.laidMetH_plain _ _ _ (by kernel_rfl)] at h2
 have e : Rows.laid_internal_strconv_uint64pow10 = (Lib.tabData .u64 Lib.pow10Tab : DataW Unit) := by kernel_rfl
 rw [e] at h2
 exact Lib.tabIs_of_head layItoaM.m17 (by kernel_rfl) (layItoaM.t212) (layItoaM.t53) (by kernel_rfl) (by kernel_rfl) h2
theorem handed_shaped {H : Type} {enc : TypeId × Value → H} {a : Assume} {C : Checked} {os : Os} {f : FuncId} {fn : Func} {s : ChangeSpec} {conds : List PathCond} {apart fresh handsOn again : Bool} {X : World → Array Value → Prop}
 (hX : ∀ (w w' : World) (args : Array Value), w.heap = w'.heap → X w args → X w' args)
 (own : ownKnob C.prog.godebug = none) (started : os.Started) (noInit : C.prog.inits.idxOf? f = none) (hfn : C.prog.funcs[f]? = some fn)
 (witness : ∃ (w : World) (tape : Tape) (i : Input), w.os = os ∧ (w.forCall tape i).Shaped C.prog ∧ i.vars = [] ∧ Input.okWide C.prog (w.forCall tape i) .any w.heap.size f i ∧
   ((s.pre enc C.prog fn conds apart (w.forCall tape i).memory i.args ∧ X (w.forCall tape i).memory i.args) ∧ sizedMet enc C.prog fn (OpenSpec.ofChange s) apart (w.forCall tape i).memory i.args) ∧ a.holds C.prog (lone (Frame.enter C.prog f i.args .normal) [] (w.forCall tape i)))
 (contract : ∀ (W : World) (base : Nat) (args : Array Value) (ds gs : List (DataW H)) (before : List MemPlace),
   (∀ (j : Nat) t v, fn.params[j]? = some t → args[j]? = some v → Value.okWide C.prog W .any base t v) →
   DataW.Whole enc C.prog fn.params.toList s.vars apart W args.toList ds gs before → W.ShapedOpen C.prog → X W args →
   a.holds C.prog (lone (Frame.enter C.prog f args .normal) [] W) →
   Calls C.prog f args W fun e W' => ∃ v, e = .returned v ∧ s.post enc C.prog fn apart fresh handsOn again W args v W') :
 ReturnsInHanded a C os f .any (fun w args => (s.pre enc C.prog fn conds apart w args ∧ X w args) ∧ sizedMet enc C.prog fn (OpenSpec.ofChange s) apart w args) (s.post enc C.prog fn apart fresh handsOn again) := by
 refine returnsInHanded_of_calls own started noInit witness fun w tape i _ hsh _ hok hpre hholds => ?_
 obtain ⟨_, _, _, fn2, hfn2, _, _, _, _, hval⟩ := hok
 obtain rfl : fn2 = fn := Option.some.inj (hfn2.symm.trans hfn)
 obtain ⟨⟨⟨ds, gs, before, hw, _⟩, hx⟩, _⟩ := hpre
 refine (contract (w.forCall tape i) w.heap.size i.args ds gs before hval (DataW.Whole.of_heap (w' := w.forCall tape i) (by rfl) hw) hsh (hX _ _ _ (by rfl) hx) hholds).mono fun e W' ⟨v, he, hp⟩ => ?_
 subst he
 exact ChangeSpec.post_blind hp
end Go.Proofs.YtfabbohijhjpcaaGreatDoor

/-
-/
namespace Go.Proofs.YtfabbohijhjpcaaGreatDoor
open Go.RowKit
def adjT : List (List Nat) := [[], [], [1], [5, 6, 7, 8, 9, 10, 7, 10, 11, 12, 13, 7, 10, 14, 15, 16, 8, 17, 18, 19, 20, 21, 22, 23, 24, 25, 24, 26, 27], [28, 30, 29, 30, 31, 30, 32], [], [33, 34, 35], [36, 37, 38], [39, 40, 41], [], [], [33, 42], [36, 36, 43, 44, 44], [39, 39, 45, 45], [46], [7, 7, 47], [8, 40, 17, 41], [48, 49, 50, 51, 52, 53, 54, 55, 56], [15], [16], [57], [36, 43, 44, 38, 47], [39, 45, 41, 17], [58, 59, 61, 61, 62], [63, 23], [33, 34, 35, 27, 64, 65, 66], [67, 27], [68, 68, 69, 69], [70], [39, 71, 72, 73, 75, 74, 76, 74, 77, 74], [78], [36, 79, 80, 81, 82, 83, 84, 62], [85], [], [86, 64, 87, 87], [40, 64, 39, 64, 64, 45, 41, 88, 88, 87, 64], [60, 60, 44, 44, 44], [], [89, 90], [68], [], [91, 92], [93, 40, 94, 95, 88, 91, 88], [], [], [], [33, 96, 97, 35], [98, 99, 100, 101, 102, 103, 104, 105, 106], [107], [108], [109], [110, 39], [111], [112], [113], [114], [115, 39], [33, 96, 93], [116], [60, 60], [], [117], [118, 119, 119, 119, 120], [121], [122, 122, 122, 122, 122], [123, 64, 64, 122, 64], [64], [], [], [], [], [], [124, 125, 126, 110, 127, 128, 129, 130, 131], [69], [], [132], [133], [134], [], [], [135, 136, 137, 138, 139, 140, 141, 142, 143], [61, 144], [145], [146], [147], [], [64, 64, 66, 148, 64, 64, 88, 91, 149, 149], [64], [64], [37, 150, 44, 151], [37, 152, 151], [40, 153, 45], [40, 153, 45], [154, 88, 155], [39], [39, 45], [71, 88, 66, 64], [64, 156, 157, 158, 159, 160, 154], [161], [162], [163], [138, 36], [164], [165], [166], [167], [168, 36], [39, 169], [48, 171, 170], [39, 172], [173], [39, 174], [39], [39, 175, 177, 176, 39, 178, 178], [39, 179], [39, 155, 180, 181], [], [182], [183, 184], [183], [], [185, 186, 187], [], [64, 64, 122], [39, 188], [124, 189], [190, 125], [191, 124], [39, 192], [39, 193], [124, 194], [195, 196], [39, 40, 95, 95, 197, 198, 92], [132, 94, 132, 199, 199], [39, 200], [201, 204, 203], [135, 206], [207, 136], [208], [209, 135], [211, 203, 210], [213, 203, 210], [135, 215], [216, 217], [62], [37, 36, 218, 219, 220, 44, 151, 218], [221, 145, 145, 222, 222, 223, 224, 224], [36, 225, 223, 226], [68, 91], [64, 91], [60, 36], [], [150, 44], [39], [88, 34, 64, 148, 64, 64, 88, 91], [227, 177, 45], [34, 64, 228, 88, 229], [88, 230, 64, 64, 231], [88, 34, 64, 64, 177, 91, 88, 91], [88, 232, 233, 88, 234], [34, 39, 88, 92], [36, 225, 223, 236, 235, 223], [239, 238], [240, 203, 210], [242, 243], [36, 225, 223, 244, 245], [36, 225, 246, 223, 223, 247, 248, 225, 248], [36, 225, 223, 249, 235, 223], [242, 251], [255], [256, 257, 170], [39, 255], [256, 258, 172], [39, 68, 188], [255, 178], [259], [39, 259], [260], [227], [227, 68, 177], [39, 261], [39, 263, 262], [264], [265], [266], [267, 268], [267, 269, 187], [270], [271, 272, 271, 188], [39, 273], [274], [274], [275, 271, 272], [276, 256, 45, 193], [39, 277], [39, 188], [94, 195], [278, 279, 198], [], [], [262, 177, 45], [202], [280, 281], [282, 36], [205], [284, 280], [36, 285], [286, 203, 210], [60, 288, 203, 210], [289, 203, 210], [], [212], [290, 205, 202], [214], [291, 44], [292, 203, 210], [294, 295, 203], [221, 216], [36, 44], [296, 220], [298, 297], [36, 37, 225], [], [60, 44], [44], [], [300, 223, 223, 223], [39], [39, 301, 301], [40, 302, 177, 91], [88, 303, 91, 64, 64, 88, 91], [304, 91], [34, 39, 88, 64, 91, 92], [64, 64, 88, 87], [305, 91], [], [237], [223], [306, 307, 98], [], [241], [44, 44, 44], [36, 225], [309, 225, 248], [], [222, 310], [311], [150, 44, 312], [313, 312], [250], [313, 60, 44, 223], [252, 253, 254], [313, 314], [315], [36, 316, 300], [227], [], [], [45, 45, 45], [227], [68], [39, 68, 317], [177], [39, 262, 262, 255], [318, 319, 320, 321], [], [], [], [322], [], [323, 324, 323, 325, 324, 326], [327, 45], [327, 45], [328, 328, 328], [39, 275, 329], [327, 45, 45, 45, 45, 45, 45], [327, 45], [330, 256, 45, 277], [39, 45], [45, 45, 45], [291, 44], [], [222, 283], [331], [], [332, 332, 332], [287], [280, 333], [202], [290], [280, 334], [60, 283, 36], [280, 293], [], [202], [205], [225, 223, 223, 44], [], [299], [], [223], [45], [335], [88, 156, 336, 231], [68, 68, 68], [337, 68], [36, 225, 237, 44], [222, 283, 308], [], [313, 237], [], [312], [223], [36, 225, 60], [223, 44], [60, 36, 339, 338], [340, 309], [45, 317], [], [342, 341, 343], [], [344, 345], [], [346], [], [], [347], [337, 39, 227], [39, 68, 68, 68, 259, 259, 45], [327, 45, 45, 45, 45, 45, 45], [327, 45], [], [150, 225, 348], [], [], [327], [88, 64, 64, 64, 64, 87], [68], [349], [], [36, 225, 300, 300], [], [], [], [], [350, 351], [], [], [44, 44, 44, 312, 223], [44], [], [], [], [], [], [], [], [], [], [], [], [], [], [], [], [], [], [], [], [], [], [], [], [], [], [], []]
set_option maxRecDepth 100000 in
theorem tab_len : Tryz.prog.funcs.size = adjT.length := by kernel_rfl
set_option maxRecDepth 100000 in
theorem tab_is : (List.range adjT.length).map (leadsAt Tryz.prog) = adjT := by kernel_rfl
def cloLClassLine : List Nat := [4, 28, 70, 30, 78, 29, 39, 68, 71, 72, 124, 188, 271, 327, 337, 227, 45, 272, 125, 189, 273, 328, 259, 126, 190, 274, 275, 329, 110, 173, 127, 191, 128, 192, 129, 193, 276, 256, 130, 194, 277, 330, 131, 195, 196, 94, 73, 69, 75, 132, 40, 95, 197, 278, 279, 198, 92, 153, 74, 76, 133, 199, 77, 134, 200, 262, 177, 260, 31, 36, 60, 44, 79, 80, 135, 201, 202, 280, 291, 283, 331, 281, 204, 205, 284, 203, 282, 222, 136, 206, 285, 332, 150, 225, 348, 312, 223, 137, 207, 286, 287, 333, 210, 138, 208, 288, 139, 209, 289, 290, 334, 140, 211, 212, 141, 213, 214, 142, 215, 292, 293, 143, 216, 294, 295, 217, 221, 37, 81, 61, 117, 182, 264, 318, 319, 342, 341, 343, 320, 321, 344, 345, 350, 351, 144, 62, 118, 183, 265, 184, 266, 119, 120, 82, 145, 218, 219, 296, 220, 298, 299, 297, 151, 83, 146, 224, 84, 147, 226, 300, 32, 85]
end Go.Proofs.YtfabbohijhjpcaaGreatDoor
