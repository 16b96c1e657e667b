/-
  Contract: NumbersLine (the reference's); both in the law's words.
-/
import Derived.Test.YtjonhbmgmamchaaGreatDoorRdNulI
import Derived.Test.YtjonhbmgmamchaaGreatDoorRdBndS
import Derived.Test.YtjonhbmgmamchaaGreatDoorRdPwtS
import Derived.Test.YtjonhbmgmamchaaGreatDoorRdTrwS
import Derived.Test.YtjonhbmgmamchaaGreatDoorRdMatS
import Derived.Test.YtjonhbmgmamchaaGreatDoorRdNumS
import Derived.Test.YtjonhbmgmamchaaGreatDoorRdCovS
import Derived.Test.YtjonhbmgmamchaaGreatDoorRdPackS
import Derived.Test.YtjonhbmgmamchaaGreatDoorRdHamU
import Derived.Test.YtjonhbmgmamchaaGreatDoorRdDecS
namespace Go.Proofs.YtjonhbmgmamchaaGreatDoor
open Go.RowKit

set_option maxRecDepth 100000 in
set_option maxHeartbeats 6400000 in
theorem NumbersLine_s (s : Int) (A : Option Addr) (m c : Nat) (x : Nat → Int) (w : World) (h : Rd w w.heap.size A m c x) (hm : m ≤ 1048576) :
    Calls Tryz.prog 5 #[.agg #[.int .i64 s, .slice A m c]] w fun e w' => e = .returned (.string (nulB s m x)) ∧ Below w.heap.size w w' := by
  have KG := Lib.hid (fun (z : World) (hz : From w z) => IsGraph_sany s A m c x z w.heap.size (h.keep hz.below (Nat.le_refl _)) hz.below.size hm)
  obtain ⟨W, hW⟩ : ∃ W : World, W = (w.alloc (Obj.cells #[Value.int IntKind.i64 s, Value.slice A m c] 27)) := ⟨_, rfl⟩
  have HB : Hid (From w W) := by rw [hW]; exact From.alloc _ _
  have HC : Hid (GC W w.heap.size s A m c) := by rw [hW]; exact GC.new _ _ _ _ _
  have HW := Lib.hid hW
  clear hW
  cases ho : okB s m x
  · rw [ho] at KG
    have HE : Hid (nulB s m x = ⟨#[]⟩) := nulB_no ho
    clear ho h
    go_enter Tryz.func5, Tryz.ntmps5
    have e0 := HC.out.c0
    have e1 := HC.out.c1
    go_wp2_with fail
    rw [← HW.out]
    refine (KG.out _ HB.out).mono ?_
    rintro e w1 ⟨rfl, hb1⟩
    clear HW
    clear e0 e1
    replace HB := Lib.hid (HB.out.keep hb1)
    replace HC := Lib.hid (HC.out.keep hb1)
    clear hb1
    have e0 := HC.out.c0
    have e1 := HC.out.c1
    go_wp2
    go_ret
    exact ⟨by rw [HE.out]; rfl, HB.out.below⟩
  obtain ⟨_, es, _, _⟩ := okB_ok' ho
  subst es
  have hGA : GA w A m c x := ⟨h⟩
  have HGA := Lib.hid hGA
  have HGV := Lib.hid (hGA.gv ho)
  have vg := (hGA.gv ho).vg
  have hm7 := vg.n7
  have HE : Hid (nulB (m : Int) m x = spJ (nlF m x)) := nulB_yes ho
  rw [ho] at KG
  have HI64 : Hid (∀ k, I64 (nuN (rw_ x) m k)) := fun k => nuN_I64 vg k
  have HNT : Hid (spJ (nlL (rw_ x) m 9) = _) := nl_text
  obtain ⟨r, hr⟩ : ∃ r, r = rw_ x := ⟨_, rfl⟩
  have HFJ : Hid (spJ (nlF m x) = spJ (nlL r m 9) ++ (if hamB (m : Int) m x false = true then ⟨#[32]⟩ ++ paW else ⟨#[]⟩) ++ (if hamB (m : Int) m x true = true then ⟨#[32]⟩ ++ cyW else ⟨#[]⟩)) := by rw [hr]; exact nlF_join
  rw [← hr] at HGV HI64 HNT
  have HKP : Hid (∀ z : World, From w z → Calls Tryz.prog 22 #[.agg #[.int .i64 (m : Int), .slice A m c]] z fun e w' => ∃ A' c', e = .returned (.tuple #[.slice A' (hamL (m : Int) m x false).length c', .bool (hamB (m : Int) m x false)]) ∧ Own w' z.heap.size w'.heap.size 3 1 A' (hamL (m : Int) m x false).length c' (fun j => .int .i64 ((((hamL (m : Int) m x false).getD j 0 : Nat)) : Int)) ∧ Below z.heap.size z w') := fun z hz => HamiltonPath_s (m : Int) A m c x z z.heap.size (HGA.out.keep hz.below).rd (Nat.le_refl _) hm
  have HKC : Hid (∀ z : World, From w z → Calls Tryz.prog 23 #[.agg #[.int .i64 (m : Int), .slice A m c]] z fun e w' => ∃ A' c', e = .returned (.tuple #[.slice A' (hamL (m : Int) m x true).length c', .bool (hamB (m : Int) m x true)]) ∧ Own w' z.heap.size w'.heap.size 3 1 A' (hamL (m : Int) m x true).length c' (fun j => .int .i64 ((((hamL (m : Int) m x true).getD j 0 : Nat)) : Int)) ∧ Below z.heap.size z w') := fun z hz => HamiltonCycle_s (m : Int) A m c x z z.heap.size (HGA.out.keep hz.below).rd (Nat.le_refl _) hm
  obtain ⟨bp, hbp⟩ : ∃ b, b = hamB (m : Int) m x false := ⟨_, rfl⟩
  obtain ⟨bc, hbc⟩ : ∃ b, b = hamB (m : Int) m x true := ⟨_, rfl⟩
  obtain ⟨np, hnp⟩ : ∃ n, n = (hamL (m : Int) m x false).length := ⟨_, rfl⟩
  obtain ⟨nc, hnc⟩ : ∃ n, n = (hamL (m : Int) m x true).length := ⟨_, rfl⟩
  have KP : Hid (∀ z : World, From w z → Calls Tryz.prog 22 #[.agg #[.int .i64 (m : Int), .slice A m c]] z fun e w' => ∃ A' c', e = .returned (.tuple #[.slice A' np c', .bool bp]) ∧ Below z.heap.size z w') := fun z hz => by
    rw [hnp, hbp]
    exact (HKP.out z hz).mono fun _ _ ⟨A', c', h1, _, h3⟩ => ⟨A', c', h1, h3⟩
  have KC : Hid (∀ z : World, From w z → Calls Tryz.prog 23 #[.agg #[.int .i64 (m : Int), .slice A m c]] z fun e w' => ∃ A' c', e = .returned (.tuple #[.slice A' nc c', .bool bc]) ∧ Below z.heap.size z w') := fun z hz => by
    rw [hnc, hbc]
    exact (HKC.out z hz).mono fun _ _ ⟨A', c', h1, _, h3⟩ => ⟨A', c', h1, h3⟩
  rw [← hbp, ← hbc] at HFJ
  obtain ⟨Y1, hY1⟩ : ∃ Y : ByteArray, Y = if bp = true then ⟨#[32, 112, 97, 116, 104]⟩ else ⟨#[]⟩ := ⟨_, rfl⟩
  obtain ⟨Y2, hY2⟩ : ∃ Y : ByteArray, Y = if bc = true then ⟨#[32, 99, 121, 99, 108, 101]⟩ else ⟨#[]⟩ := ⟨_, rfl⟩
  have zY1 : Y1.size ≤ 6 := by rw [hY1]; cases bp <;> decide
  have zY2 : Y2.size ≤ 6 := by rw [hY2]; cases bc <;> decide
  have KY1 : Hid (∀ z : World, Calls Tryz.prog 24 #[.bool bp, .string ⟨#[32, 112, 97, 116, 104]⟩] z fun e w' => e = .returned (.string Y1) ∧ Below z.heap.size z w') := fun z => by rw [hY1]; exact l34Yes_s bp _ z
  have KY2 : Hid (∀ z : World, Calls Tryz.prog 24 #[.bool bc, .string ⟨#[32, 99, 121, 99, 108, 101]⟩] z fun e w' => e = .returned (.string Y2) ∧ Below z.heap.size z w') := fun z => by rw [hY2]; exact l34Yes_s bc _ z
  have HY : Hid (spJ (nlF m x) = spJ (nlL r m 9) ++ Y1 ++ Y2) := by
    show _ = _
    rw [HFJ.out, hY1, hY2]
    cases bp <;> cases bc <;> rfl
  clear HKP HKC hbp hbc hnp hnc hr hY1 hY2 HFJ
  obtain ⟨v0, hv0⟩ : ∃ v0 : Nat, v0 = cn (lqN r m) := ⟨_, rfl⟩
  obtain ⟨v1, hv1⟩ : ∃ v1 : Nat, v1 = chN r m := ⟨_, rfl⟩
  obtain ⟨v2, hv2⟩ : ∃ v2 : Nat, v2 = cn (liN r m) := ⟨_, rfl⟩
  obtain ⟨v3, hv3⟩ : ∃ v3 : Nat, v3 = (cvL r m).length := ⟨_, rfl⟩
  obtain ⟨v4, hv4⟩ : ∃ v4 : Nat, v4 = (maL (edN r m) 0).length := ⟨_, rfl⟩
  obtain ⟨v5, hv5⟩ : ∃ v5 : Nat, v5 = cn (fdN r m) := ⟨_, rfl⟩
  obtain ⟨v6, hv6⟩ : ∃ v6 : Int, v6 = bwI r m := ⟨_, rfl⟩
  obtain ⟨v7, hv7⟩ : ∃ v7 : Int, v7 = pwI r m := ⟨_, rfl⟩
  obtain ⟨v8, hv8⟩ : ∃ v8 : Int, v8 = trI r m := ⟨_, rfl⟩
  obtain ⟨s2, hs2⟩ : ∃ s2 : Nat, s2 = liN r m := ⟨_, rfl⟩
  obtain ⟨s5, hs5⟩ : ∃ s5 : Nat, s5 = fdN r m := ⟨_, rfl⟩
  have hs2l : s2 < 128 := by rw [hs2]; exact Nat.lt_of_lt_of_le (li_lt r m) (two_pow_le hm7)
  have hs5l : s5 < 128 := by rw [hs5]; exact Nat.lt_of_lt_of_le (fd_lt HGV.out.vg) (two_pow_le hm7)
  have HU0 : Hid (nuN r m 0 = ((v0 : Nat) : Int)) := by show _ = _; rw [hv0]; rfl
  have hI0 : I64 ((v0 : Nat) : Int) := by rw [← HU0.out]; exact HI64.out 0
  obtain ⟨I0, hJ0⟩ : ∃ I, I = itB ((v0 : Nat) : Int) := ⟨_, rfl⟩
  have zI0 : I0.size ≤ 21 := by rw [hJ0]; exact itB_size hI0
  have F0 : Hid (∀ z : World, Calls Tryz.prog 11 #[.int .i64 (v0 : Nat)] z fun e w' => e = .returned (.string I0) ∧ Below z.heap.size z w') := fun z => by rw [hJ0]; exact FormatInt_sa _ hI0 z
  rw [HU0.out, ← hJ0] at HNT
  have HU1 : Hid (nuN r m 1 = ((v1 : Nat) : Int)) := by show _ = _; rw [hv1]; rfl
  have hI1 : I64 ((v1 : Nat) : Int) := by rw [← HU1.out]; exact HI64.out 1
  obtain ⟨I1, hJ1⟩ : ∃ I, I = itB ((v1 : Nat) : Int) := ⟨_, rfl⟩
  have zI1 : I1.size ≤ 21 := by rw [hJ1]; exact itB_size hI1
  have F1 : Hid (∀ z : World, Calls Tryz.prog 11 #[.int .i64 (v1 : Nat)] z fun e w' => e = .returned (.string I1) ∧ Below z.heap.size z w') := fun z => by rw [hJ1]; exact FormatInt_sa _ hI1 z
  rw [HU1.out, ← hJ1] at HNT
  have HU2 : Hid (nuN r m 2 = ((v2 : Nat) : Int)) := by show _ = _; rw [hv2]; rfl
  have hI2 : I64 ((v2 : Nat) : Int) := by rw [← HU2.out]; exact HI64.out 2
  obtain ⟨I2, hJ2⟩ : ∃ I, I = itB ((v2 : Nat) : Int) := ⟨_, rfl⟩
  have zI2 : I2.size ≤ 21 := by rw [hJ2]; exact itB_size hI2
  have F2 : Hid (∀ z : World, Calls Tryz.prog 11 #[.int .i64 (v2 : Nat)] z fun e w' => e = .returned (.string I2) ∧ Below z.heap.size z w') := fun z => by rw [hJ2]; exact FormatInt_sa _ hI2 z
  rw [HU2.out, ← hJ2] at HNT
  have HU3 : Hid (nuN r m 3 = ((v3 : Nat) : Int)) := by show _ = _; rw [hv3]; rfl
  have hI3 : I64 ((v3 : Nat) : Int) := by rw [← HU3.out]; exact HI64.out 3
  obtain ⟨I3, hJ3⟩ : ∃ I, I = itB ((v3 : Nat) : Int) := ⟨_, rfl⟩
  have zI3 : I3.size ≤ 21 := by rw [hJ3]; exact itB_size hI3
  have F3 : Hid (∀ z : World, Calls Tryz.prog 11 #[.int .i64 (v3 : Nat)] z fun e w' => e = .returned (.string I3) ∧ Below z.heap.size z w') := fun z => by rw [hJ3]; exact FormatInt_sa _ hI3 z
  rw [HU3.out, ← hJ3] at HNT
  have HU4 : Hid (nuN r m 4 = ((v4 : Nat) : Int)) := by show _ = _; rw [hv4]; rfl
  have hI4 : I64 ((v4 : Nat) : Int) := by rw [← HU4.out]; exact HI64.out 4
  obtain ⟨I4, hJ4⟩ : ∃ I, I = itB ((v4 : Nat) : Int) := ⟨_, rfl⟩
  have zI4 : I4.size ≤ 21 := by rw [hJ4]; exact itB_size hI4
  have F4 : Hid (∀ z : World, Calls Tryz.prog 11 #[.int .i64 (v4 : Nat)] z fun e w' => e = .returned (.string I4) ∧ Below z.heap.size z w') := fun z => by rw [hJ4]; exact FormatInt_sa _ hI4 z
  rw [HU4.out, ← hJ4] at HNT
  have HU5 : Hid (nuN r m 5 = ((v5 : Nat) : Int)) := by show _ = _; rw [hv5]; rfl
  have hI5 : I64 ((v5 : Nat) : Int) := by rw [← HU5.out]; exact HI64.out 5
  obtain ⟨I5, hJ5⟩ : ∃ I, I = itB ((v5 : Nat) : Int) := ⟨_, rfl⟩
  have zI5 : I5.size ≤ 21 := by rw [hJ5]; exact itB_size hI5
  have F5 : Hid (∀ z : World, Calls Tryz.prog 11 #[.int .i64 (v5 : Nat)] z fun e w' => e = .returned (.string I5) ∧ Below z.heap.size z w') := fun z => by rw [hJ5]; exact FormatInt_sa _ hI5 z
  rw [HU5.out, ← hJ5] at HNT
  have HU6 : Hid (nuN r m 6 = v6) := by show _ = _; rw [hv6]; rfl
  have hI6 : I64 v6 := by rw [← HU6.out]; exact HI64.out 6
  obtain ⟨I6, hJ6⟩ : ∃ I, I = itB v6 := ⟨_, rfl⟩
  have zI6 : I6.size ≤ 21 := by rw [hJ6]; exact itB_size hI6
  have F6 : Hid (∀ z : World, Calls Tryz.prog 11 #[.int .i64 v6] z fun e w' => e = .returned (.string I6) ∧ Below z.heap.size z w') := fun z => by rw [hJ6]; exact FormatInt_sa _ hI6 z
  rw [HU6.out, ← hJ6] at HNT
  have HU7 : Hid (nuN r m 7 = v7) := by show _ = _; rw [hv7]; rfl
  have hI7 : I64 v7 := by rw [← HU7.out]; exact HI64.out 7
  obtain ⟨I7, hJ7⟩ : ∃ I, I = itB v7 := ⟨_, rfl⟩
  have zI7 : I7.size ≤ 21 := by rw [hJ7]; exact itB_size hI7
  have F7 : Hid (∀ z : World, Calls Tryz.prog 11 #[.int .i64 v7] z fun e w' => e = .returned (.string I7) ∧ Below z.heap.size z w') := fun z => by rw [hJ7]; exact FormatInt_sa _ hI7 z
  rw [HU7.out, ← hJ7] at HNT
  have HU8 : Hid (nuN r m 8 = v8) := by show _ = _; rw [hv8]; rfl
  have hI8 : I64 v8 := by rw [← HU8.out]; exact HI64.out 8
  obtain ⟨I8, hJ8⟩ : ∃ I, I = itB v8 := ⟨_, rfl⟩
  have zI8 : I8.size ≤ 21 := by rw [hJ8]; exact itB_size hI8
  have F8 : Hid (∀ z : World, Calls Tryz.prog 11 #[.int .i64 v8] z fun e w' => e = .returned (.string I8) ∧ Below z.heap.size z w') := fun z => by rw [hJ8]; exact FormatInt_sa _ hI8 z
  rw [HU8.out, ← hJ8] at HNT
  have K0 : Hid (∀ z : World, From w z → Calls Tryz.prog 12 #[.agg #[.int .i64 (m : Int), .slice A m c]] z fun e w' => e = .returned (.int .i64 (v0 : Nat)) ∧ Below z.heap.size z w') := fun z hz => by
    rw [hv0]; exact CliqueNumber_sv (HGV.out.keep hz.below)
  have K1 : Hid (∀ z : World, From w z → Calls Tryz.prog 13 #[.agg #[.int .i64 (m : Int), .slice A m c]] z fun e w' => e = .returned (.int .i64 (v1 : Nat)) ∧ Below z.heap.size z w') := fun z hz => by
    rw [hv1]; exact ChromaticNumber_sv (HGV.out.keep hz.below)
  have K2 : Hid (∀ z : World, From w z → Calls Tryz.prog 15 #[.agg #[.int .i64 (m : Int), .slice A m c]] z fun e w' => e = .returned (.int .i64 (s2 : Nat)) ∧ Below z.heap.size z w') := fun z hz => by
    rw [hs2]; exact LargestIndependent_sv (HGV.out.keep hz.below)
  have K3 : Hid (∀ z : World, From w z → Calls Tryz.prog 14 #[.int .i64 (s2 : Nat)] z fun e w' => e = .returned (.int .i64 (v2 : Nat)) ∧ Below z.heap.size z w') := fun z hz => by
    rw [hv2, ← hs2]; exact CountSet_sv s2 hs2l z
  have K4 : Hid (∀ z : World, From w z → Calls Tryz.prog 16 #[.agg #[.int .i64 (m : Int), .slice A m c]] z fun e w' => ∃ A' c', e = .returned (.slice A' v3 c') ∧ Below z.heap.size z w') := fun z hz => by
    rw [hv3]; exact (CliqueCoverOf_sv (HGV.out.keep hz.below)).mono fun _ _ ⟨A', c', h1, _, h3⟩ => ⟨A', c', h1, h3⟩
  have K5 : Hid (∀ z : World, From w z → Calls Tryz.prog 17 #[.agg #[.int .i64 (m : Int), .slice A m c]] z fun e w' => ∃ A' c', e = .returned (.slice A' v4 c') ∧ Below z.heap.size z w') := fun z hz => by
    rw [hv4]; exact MatchingOf_sv (HGV.out.keep hz.below)
  have K6 : Hid (∀ z : World, From w z → Calls Tryz.prog 18 #[.agg #[.int .i64 (m : Int), .slice A m c]] z fun e w' => e = .returned (.int .i64 (s5 : Nat)) ∧ Below z.heap.size z w') := fun z hz => by
    rw [hs5]; exact FewestDominating_sv (HGV.out.keep hz.below)
  have K7 : Hid (∀ z : World, From w z → Calls Tryz.prog 14 #[.int .i64 (s5 : Nat)] z fun e w' => e = .returned (.int .i64 (v5 : Nat)) ∧ Below z.heap.size z w') := fun z hz => by
    rw [hv5, ← hs5]; exact CountSet_sv s5 hs5l z
  have K8 : Hid (∀ z : World, From w z → Calls Tryz.prog 19 #[.agg #[.int .i64 (m : Int), .slice A m c]] z fun e w' => e = .returned (.int .i64 v6) ∧ Below z.heap.size z w') := fun z hz => by
    rw [hv6]; exact BandwidthOf_sv (HGV.out.keep hz.below)
  have K9 : Hid (∀ z : World, From w z → Calls Tryz.prog 20 #[.agg #[.int .i64 (m : Int), .slice A m c]] z fun e w' => e = .returned (.int .i64 v7) ∧ Below z.heap.size z w') := fun z hz => by
    rw [hv7]; exact PathwidthOf_sv (HGV.out.keep hz.below)
  have K10 : Hid (∀ z : World, From w z → Calls Tryz.prog 21 #[.agg #[.int .i64 (m : Int), .slice A m c]] z fun e w' => e = .returned (.int .i64 v8) ∧ Below z.heap.size z w') := fun z hz => by
    rw [hv8]; exact TreewidthOf_sv (HGV.out.keep hz.below)
  have gd0 : ¬ 9223372036854775807 < 7 + I0.size := by omega
  have gd1 : ¬ 9223372036854775807 < 7 + I0.size + 8 := by clear gd0; omega
  have gd2 : ¬ 9223372036854775807 < 7 + I0.size + 8 + I1.size := by clear gd0 gd1; omega
  have gd3 : ¬ 9223372036854775807 < 7 + I0.size + 8 + I1.size + 13 := by clear gd0 gd1 gd2; omega
  have gd4 : ¬ 9223372036854775807 < 7 + I0.size + 8 + I1.size + 13 + I2.size := by clear gd0 gd1 gd2 gd3; omega
  have gd5 : ¬ 9223372036854775807 < 7 + I0.size + 8 + I1.size + 13 + I2.size + 8 := by clear gd0 gd1 gd2 gd3 gd4; omega
  have gd6 : ¬ 9223372036854775807 < 7 + I0.size + 8 + I1.size + 13 + I2.size + 8 + I3.size := by clear gd0 gd1 gd2 gd3 gd4 gd5; omega
  have gd7 : ¬ 9223372036854775807 < 7 + I0.size + 8 + I1.size + 13 + I2.size + 8 + I3.size + 10 := by clear gd0 gd1 gd2 gd3 gd4 gd5 gd6; omega
  have gd8 : ¬ 9223372036854775807 < 7 + I0.size + 8 + I1.size + 13 + I2.size + 8 + I3.size + 10 + I4.size := by clear gd0 gd1 gd2 gd3 gd4 gd5 gd6 gd7; omega
  have gd9 : ¬ 9223372036854775807 < 7 + I0.size + 8 + I1.size + 13 + I2.size + 8 + I3.size + 10 + I4.size + 12 := by clear gd0 gd1 gd2 gd3 gd4 gd5 gd6 gd7 gd8; omega
  have gd10 : ¬ 9223372036854775807 < 7 + I0.size + 8 + I1.size + 13 + I2.size + 8 + I3.size + 10 + I4.size + 12 + I5.size := by clear gd0 gd1 gd2 gd3 gd4 gd5 gd6 gd7 gd8 gd9; omega
  have gd11 : ¬ 9223372036854775807 < 7 + I0.size + 8 + I1.size + 13 + I2.size + 8 + I3.size + 10 + I4.size + 12 + I5.size + 11 := by clear gd0 gd1 gd2 gd3 gd4 gd5 gd6 gd7 gd8 gd9 gd10; omega
  have gd12 : ¬ 9223372036854775807 < 7 + I0.size + 8 + I1.size + 13 + I2.size + 8 + I3.size + 10 + I4.size + 12 + I5.size + 11 + I6.size := by clear gd0 gd1 gd2 gd3 gd4 gd5 gd6 gd7 gd8 gd9 gd10 gd11; omega
  have gd13 : ¬ 9223372036854775807 < 7 + I0.size + 8 + I1.size + 13 + I2.size + 8 + I3.size + 10 + I4.size + 12 + I5.size + 11 + I6.size + 11 := by clear gd0 gd1 gd2 gd3 gd4 gd5 gd6 gd7 gd8 gd9 gd10 gd11 gd12; omega
  have gd14 : ¬ 9223372036854775807 < 7 + I0.size + 8 + I1.size + 13 + I2.size + 8 + I3.size + 10 + I4.size + 12 + I5.size + 11 + I6.size + 11 + I7.size := by clear gd0 gd1 gd2 gd3 gd4 gd5 gd6 gd7 gd8 gd9 gd10 gd11 gd12 gd13; omega
  have gd15 : ¬ 9223372036854775807 < 7 + I0.size + 8 + I1.size + 13 + I2.size + 8 + I3.size + 10 + I4.size + 12 + I5.size + 11 + I6.size + 11 + I7.size + 11 := by clear gd0 gd1 gd2 gd3 gd4 gd5 gd6 gd7 gd8 gd9 gd10 gd11 gd12 gd13 gd14; omega
  have gd16 : ¬ 9223372036854775807 < 7 + I0.size + 8 + I1.size + 13 + I2.size + 8 + I3.size + 10 + I4.size + 12 + I5.size + 11 + I6.size + 11 + I7.size + 11 + I8.size := by clear gd0 gd1 gd2 gd3 gd4 gd5 gd6 gd7 gd8 gd9 gd10 gd11 gd12 gd13 gd14 gd15; omega
  have gd17 : ¬ 9223372036854775807 < 7 + I0.size + 8 + I1.size + 13 + I2.size + 8 + I3.size + 10 + I4.size + 12 + I5.size + 11 + I6.size + 11 + I7.size + 11 + I8.size + Y1.size := by clear gd0 gd1 gd2 gd3 gd4 gd5 gd6 gd7 gd8 gd9 gd10 gd11 gd12 gd13 gd14 gd15 gd16; omega
  have gd18 : ¬ 9223372036854775807 < 7 + I0.size + 8 + I1.size + 13 + I2.size + 8 + I3.size + 10 + I4.size + 12 + I5.size + 11 + I6.size + 11 + I7.size + 11 + I8.size + Y1.size + Y2.size := by clear gd0 gd1 gd2 gd3 gd4 gd5 gd6 gd7 gd8 gd9 gd10 gd11 gd12 gd13 gd14 gd15 gd16 gd17; omega
  clear ho h hGA vg hs2 hs5 hs2l hs5l HGV HI64 zY1 zY2 hv0 HU0 hI0 hJ0 zI0 hv1 HU1 hI1 hJ1 zI1 hv2 HU2 hI2 hJ2 zI2 hv3 HU3 hI3 hJ3 zI3 hv4 HU4 hI4 hJ4 zI4 hv5 HU5 hI5 hJ5 zI5 hv6 HU6 hI6 hJ6 zI6 hv7 HU7 hI7 hJ7 zI7 hv8 HU8 hI8 hJ8 zI8
  go_enter Tryz.func5, Tryz.ntmps5
  have e0 := HC.out.c0
  have e1 := HC.out.c1
  go_wp2_with fail
  rw [← HW.out]
  refine (KG.out _ HB.out).mono ?_
  rintro e w2 ⟨rfl, hb2⟩
  clear HW
  clear e0 e1
  replace HB := Lib.hid (HB.out.keep hb2)
  replace HC := Lib.hid (HC.out.keep hb2)
  clear hb2
  have e0 := HC.out.c0
  have e1 := HC.out.c1
  clear KG
  have HB' := HB
  have HSC : Hid (∀ z : World, Below w2.heap.size w2 z → (Below w2.heap.size w2 z ∧ z.cell? ⟨w.heap.size, 0, none⟩ = some (.int .i64 (m : Nat)) ∧ z.cell? ⟨w.heap.size, 1, none⟩ = some (.slice A m c))) := fun z hz => ⟨hz, up_ hz e0, up_ hz e1⟩
  have HZ0 : Hid (Below w2.heap.size w2 w2.drew) := (Below.refl _ _).drew
  have HS1 := Lib.hid (HSC.out _ HZ0.out)
  have KR1 : Hid (∀ z : World, Below w2.heap.size w2 z → _) := fun z hz => K0.out z (HB'.out.keep hz)
  have KR2 : Hid (∀ z : World, Below w2.heap.size w2 z → _) := fun z hz => F0.out z
  have KR3 : Hid (∀ z : World, Below w2.heap.size w2 z → _) := fun z hz => K1.out z (HB'.out.keep hz)
  have KR4 : Hid (∀ z : World, Below w2.heap.size w2 z → _) := fun z hz => F1.out z
  have KR5 : Hid (∀ z : World, Below w2.heap.size w2 z → _) := fun z hz => K2.out z (HB'.out.keep hz)
  have KR6 : Hid (∀ z : World, Below w2.heap.size w2 z → _) := fun z hz => K3.out z (HB'.out.keep hz)
  have KR7 : Hid (∀ z : World, Below w2.heap.size w2 z → _) := fun z hz => F2.out z
  have KR8 : Hid (∀ z : World, Below w2.heap.size w2 z → _) := fun z hz => K4.out z (HB'.out.keep hz)
  have KR9 : Hid (∀ z : World, Below w2.heap.size w2 z → _) := fun z hz => F3.out z
  go_wp2
  go_region_held3 (fun z => Below w2.heap.size w2 z ∧ z.cell? ⟨w.heap.size, 0, none⟩ = some (.int .i64 (m : Nat)) ∧ z.cell? ⟨w.heap.size, 1, none⟩ = some (.slice A m c))
    (first | exact HS1.out | assumption | exact HSC.out _ hz11 | exact HSC.out _ hz10 | exact HSC.out _ hz9 | exact HSC.out _ hz8 | exact HSC.out _ hz7 | exact HSC.out _ hz6 | exact HSC.out _ hz5 | exact HSC.out _ hz4 | exact HSC.out _ hz3 | fail)
    (first | (go_at_call 12; ((with_reducible refine (KR1.out _ HZ0.out).mono ?_); rintro e w3 ⟨rfl, hb3⟩; have hz3 := bl_trans HZ0.out hb3)) | (go_at_call 11; ((with_reducible refine (KR2.out _ hz3).mono ?_); rintro e w4 ⟨rfl, hb4⟩; have hz4 := bl_trans hz3 hb4)) | (go_at_call 13; ((with_reducible refine (KR3.out _ hz4).mono ?_); rintro e w5 ⟨rfl, hb5⟩; have hz5 := bl_trans hz4 hb5)) | (go_at_call 11; ((with_reducible refine (KR4.out _ hz5).mono ?_); rintro e w6 ⟨rfl, hb6⟩; have hz6 := bl_trans hz5 hb6)) | (go_at_call 15; ((with_reducible refine (KR5.out _ hz6).mono ?_); rintro e w7 ⟨rfl, hb7⟩; have hz7 := bl_trans hz6 hb7)) | (go_at_call 14; ((with_reducible refine (KR6.out _ hz7).mono ?_); rintro e w8 ⟨rfl, hb8⟩; have hz8 := bl_trans hz7 hb8)) | (go_at_call 11; ((with_reducible refine (KR7.out _ hz8).mono ?_); rintro e w9 ⟨rfl, hb9⟩; have hz9 := bl_trans hz8 hb9)) | (go_at_call 16; ((with_reducible refine (KR8.out _ hz9).mono ?_); rintro e w10 ⟨A5, c5, rfl, hb10⟩; have hz10 := bl_trans hz9 hb10)) | (go_at_call 11; ((with_reducible refine (KR9.out _ hz10).mono ?_); rintro e w11 ⟨rfl, hb11⟩; have hz11 := bl_trans hz10 hb11)))
  clear e0 e1
  replace HB := Lib.hid (HB.out.keep hz11)
  replace HC := Lib.hid (HC.out.keep hz11)
  clear hb3 hz3 hb4 hz4 hb5 hz5 hb6 hz6 hb7 hz7 hb8 hz8 hb9 hz9 hb10 hz10 hb11 hz11 HSC HZ0 HS1 KR1 KR2 KR3 KR4 KR5 KR6 KR7 KR8 KR9
  have e0 := HC.out.c0
  have e1 := HC.out.c1
  clear K0 K1 K2 K3 K4 F0 F1 F2 F3
  replace HB' := HB
  have HSC : Hid (∀ z : World, Below w11.heap.size w11 z → (Below w11.heap.size w11 z ∧ z.cell? ⟨w.heap.size, 0, none⟩ = some (.int .i64 (m : Nat)) ∧ z.cell? ⟨w.heap.size, 1, none⟩ = some (.slice A m c))) := fun z hz => ⟨hz, up_ hz e0, up_ hz e1⟩
  have HZ0 : Hid (Below w11.heap.size w11 w11.drew) := (Below.refl _ _).drew
  have HS1 := Lib.hid (HSC.out _ HZ0.out)
  have KR1 : Hid (∀ z : World, Below w11.heap.size w11 z → _) := fun z hz => K5.out z (HB'.out.keep hz)
  have KR2 : Hid (∀ z : World, Below w11.heap.size w11 z → _) := fun z hz => F4.out z
  have KR3 : Hid (∀ z : World, Below w11.heap.size w11 z → _) := fun z hz => K6.out z (HB'.out.keep hz)
  have KR4 : Hid (∀ z : World, Below w11.heap.size w11 z → _) := fun z hz => K7.out z (HB'.out.keep hz)
  have KR5 : Hid (∀ z : World, Below w11.heap.size w11 z → _) := fun z hz => F5.out z
  have KR6 : Hid (∀ z : World, Below w11.heap.size w11 z → _) := fun z hz => K8.out z (HB'.out.keep hz)
  have KR7 : Hid (∀ z : World, Below w11.heap.size w11 z → _) := fun z hz => F6.out z
  have KR8 : Hid (∀ z : World, Below w11.heap.size w11 z → _) := fun z hz => K9.out z (HB'.out.keep hz)
  have KR9 : Hid (∀ z : World, Below w11.heap.size w11 z → _) := fun z hz => F7.out z
  have KR10 : Hid (∀ z : World, Below w11.heap.size w11 z → _) := fun z hz => K10.out z (HB'.out.keep hz)
  have KR11 : Hid (∀ z : World, Below w11.heap.size w11 z → _) := fun z hz => F8.out z
  go_wp2
  go_region_held3 (fun z => Below w11.heap.size w11 z ∧ z.cell? ⟨w.heap.size, 0, none⟩ = some (.int .i64 (m : Nat)) ∧ z.cell? ⟨w.heap.size, 1, none⟩ = some (.slice A m c))
    (first | exact HS1.out | assumption | exact HSC.out _ hz22 | exact HSC.out _ hz21 | exact HSC.out _ hz20 | exact HSC.out _ hz19 | exact HSC.out _ hz18 | exact HSC.out _ hz17 | exact HSC.out _ hz16 | exact HSC.out _ hz15 | exact HSC.out _ hz14 | exact HSC.out _ hz13 | exact HSC.out _ hz12 | fail)
    (first | (go_at_call 17; ((with_reducible refine (KR1.out _ HZ0.out).mono ?_); rintro e w12 ⟨A6, c6, rfl, hb12⟩; have hz12 := bl_trans HZ0.out hb12)) | (go_at_call 11; ((with_reducible refine (KR2.out _ hz12).mono ?_); rintro e w13 ⟨rfl, hb13⟩; have hz13 := bl_trans hz12 hb13)) | (go_at_call 18; ((with_reducible refine (KR3.out _ hz13).mono ?_); rintro e w14 ⟨rfl, hb14⟩; have hz14 := bl_trans hz13 hb14)) | (go_at_call 14; ((with_reducible refine (KR4.out _ hz14).mono ?_); rintro e w15 ⟨rfl, hb15⟩; have hz15 := bl_trans hz14 hb15)) | (go_at_call 11; ((with_reducible refine (KR5.out _ hz15).mono ?_); rintro e w16 ⟨rfl, hb16⟩; have hz16 := bl_trans hz15 hb16)) | (go_at_call 19; ((with_reducible refine (KR6.out _ hz16).mono ?_); rintro e w17 ⟨rfl, hb17⟩; have hz17 := bl_trans hz16 hb17)) | (go_at_call 11; ((with_reducible refine (KR7.out _ hz17).mono ?_); rintro e w18 ⟨rfl, hb18⟩; have hz18 := bl_trans hz17 hb18)) | (go_at_call 20; ((with_reducible refine (KR8.out _ hz18).mono ?_); rintro e w19 ⟨rfl, hb19⟩; have hz19 := bl_trans hz18 hb19)) | (go_at_call 11; ((with_reducible refine (KR9.out _ hz19).mono ?_); rintro e w20 ⟨rfl, hb20⟩; have hz20 := bl_trans hz19 hb20)) | (go_at_call 21; ((with_reducible refine (KR10.out _ hz20).mono ?_); rintro e w21 ⟨rfl, hb21⟩; have hz21 := bl_trans hz20 hb21)) | (go_at_call 11; ((with_reducible refine (KR11.out _ hz21).mono ?_); rintro e w22 ⟨rfl, hb22⟩; have hz22 := bl_trans hz21 hb22)))
  clear e0 e1
  replace HB := Lib.hid (HB.out.keep hz22)
  replace HC := Lib.hid (HC.out.keep hz22)
  clear hb12 hz12 hb13 hz13 hb14 hz14 hb15 hz15 hb16 hz16 hb17 hz17 hb18 hz18 hb19 hz19 hb20 hz20 hb21 hz21 hb22 hz22 HSC HZ0 HS1 KR1 KR2 KR3 KR4 KR5 KR6 KR7 KR8 KR9 KR10 KR11
  have e0 := HC.out.c0
  have e1 := HC.out.c1
  clear K5 K6 K7 K8 K9 K10 F4 F5 F6 F7 F8 HB'
  go_wp2_with fail
  refine (KP.out _ HB.out).mono ?_
  rintro e w23 ⟨A7, c7, rfl, hb23⟩
  clear e0 e1
  replace HB := Lib.hid (HB.out.keep hb23)
  replace HC := Lib.hid (HC.out.keep hb23)
  clear hb23
  have e0 := HC.out.c0
  have e1 := HC.out.c1
  go_wp2_with fail
  refine (KC.out _ HB.out).mono ?_
  rintro e w24 ⟨A8, c8, rfl, hb24⟩
  clear e0 e1
  replace HB := Lib.hid (HB.out.keep hb24)
  replace HC := Lib.hid (HC.out.keep hb24)
  clear hb24
  have e0 := HC.out.c0
  have e1 := HC.out.c1
  go_wp2_with fail
  refine (KY1.out _).mono ?_
  rintro e w25 ⟨rfl, hb25⟩
  clear e0 e1
  replace HB := Lib.hid (HB.out.keep hb25)
  replace HC := Lib.hid (HC.out.keep hb25)
  clear hb25
  have e0 := HC.out.c0
  have e1 := HC.out.c1
  go_wp2_with fail
  refine (KY2.out _).mono ?_
  rintro e w26 ⟨rfl, hb26⟩
  clear e0 e1
  replace HB := Lib.hid (HB.out.keep hb26)
  replace HC := Lib.hid (HC.out.keep hb26)
  clear hb26
  have e0 := HC.out.c0
  have e1 := HC.out.c1
  go_wp2
  go_ret
  exact ⟨by rw [HE.out, HY.out, HNT.out]; rfl, HB.out.below⟩
section
variable (s1 : Int) (A1 : Option Addr) (m1 c1 : Nat) (x1 : Nat → Int) (w : World) (B : Nat)
theorem NumbersLine_iL (h1 : Rd w B A1 m1 c1 x1) (hB : B ≤ w.heap.size) (hm1 : m1 ≤ 1048576) (hT : Tb w) :
    Calls Tryz.prog 7 #[.agg #[.int .i64 s1, .slice A1 m1 c1]] w fun e w' => e = .returned (.string (nulB s1 m1 x1)) ∧ Below w.heap.size w w' :=
  NumbersLine_i s1 A1 m1 c1 x1 w (h1.keep (Below.refl _ _) hB) hm1 hT
theorem NumbersLine_sL (h1 : Rd w B A1 m1 c1 x1) (hB : B ≤ w.heap.size) (hm1 : m1 ≤ 1048576) :
    Calls Tryz.prog 5 #[.agg #[.int .i64 s1, .slice A1 m1 c1]] w fun e w' => e = .returned (.string (nulB s1 m1 x1)) ∧ Below w.heap.size w w' :=
  NumbersLine_s s1 A1 m1 c1 x1 w (h1.keep (Below.refl _ _) hB) hm1
end
end Go.Proofs.YtjonhbmgmamchaaGreatDoor
