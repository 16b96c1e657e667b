/-
  The program's FindSandwich answers as the reference's at every input: the law FnExactFindSandwich answers true.
  No condition.
-/
import Derived.Test.YtmkahbephidmbaaGreatQhGreat
import Derived.Test.YtmkahbephidmbaaGreatQhNms
import Derived.Test.YtmkahbephidmbaaGreatQhV
import Derived.Test.YtmkahbephidmbaaGreatQhGA
import Derived.Test.YtmkahbephidmbaaGreatQhOptS
import Derived.Deep.CutRange
import Derived.Deep.RegionHeld3
namespace Go.Proofs.YtmkahbephidmbaaGreat.fnExactFindSandwich
open Go.ChangeShapes Go.WideShapes Go.ChangeAt Go.RowKit

theorem le_drew {a : Nat} {w : World} (h : a ≤ w.heap.size) : a ≤ w.drew.heap.size := h
set_option maxRecDepth 100000 in
set_option maxHeartbeats 1600000 in
theorem walk (s1 : Int) (A1 : Option Addr) (m1 : Nat) (c1 : Nat) (x1 : Nat → Int) (s2 : Int) (A2 : Option Addr) (m2 : Nat) (c2 : Nat) (x2 : Nat → Int) (t3 : ByteArray) (w : World) (h1 : Rd w w.heap.size A1 m1 c1 x1) (n1 : m1 ≤ maxLen) (h2 : Rd w w.heap.size A2 m2 c2 x2) (n2 : m2 ≤ maxLen) (n3 : t3.size ≤ maxLen) :
    Calls Tryz.prog 11 #[.agg #[.int .i64 s1, .slice A1 m1 c1], .agg #[.int .i64 s2, .slice A2 m2 c2], .string t3] w fun e w' => e = .returned (.bool true) ∧ Below w.heap.size w w' := by
  obtain ⟨w0, hW⟩ : ∃ W : World, W = ((w.alloc (Obj.cells #[.int .i64 s1, .slice A1 m1 c1] 24)).alloc (Obj.cells #[.int .i64 s2, .slice A2 m2 c2] 24)) := ⟨_, rfl⟩
  have HB : Hid (Below w.heap.size w w0) := by rw [hW]; exact (((Below.refl _ _).alloc (by simp) _).alloc (by simp) _)
  have z0_0 : w.heap.size < w0.heap.size := by rw [hW]; simp <;> omega
  have z1_0 : w.heap.size + 1 < w0.heap.size := by rw [hW]; simp <;> omega
  have e1a_0 : w0.cell? ⟨w.heap.size, 0, none⟩ = some (.int .i64 s1) := by rw [hW]; simp [go_sem]
  have e1b_0 : w0.cell? ⟨w.heap.size, 1, none⟩ = some (.slice A1 m1 c1) := by rw [hW]; simp [go_sem]
  have e2a_0 : w0.cell? ⟨w.heap.size + 1, 0, none⟩ = some (.int .i64 s2) := by rw [hW]; simp [go_sem]
  have e2b_0 : w0.cell? ⟨w.heap.size + 1, 1, none⟩ = some (.slice A2 m2 c2) := by rw [hW]; simp [go_sem]
  have SZ : Hid (w.heap.size + 2 ≤ w0.heap.size) := by rw [hW]; simp [Hid]
  have HW := Lib.hid hW
  clear hW
  go_enter Tryz.func11, Tryz.ntmps11
  unfold maxLen at n3
  by_cases p3 : (1048576 : Int) < t3.size
  · go_wp2
    go_ret
    exact ⟨rfl, by rw [← HW.out]; exact HB.out⟩
  go_wp2_with fail
  rw [← HW.out]
  clear HW
  refine (szGraph_any s1 A1 m1 c1 ((1048576 : Int)) w0 n1 (by omega) (by omega)).mono ?_
  rintro e w1 ⟨rfl, hb⟩
  have zz := hb.size
  have e1a_1 := up hb e1a_0 z0_0
  have e1b_1 := up hb e1b_0 z0_0
  have e2a_1 := up hb e2a_0 z1_0
  have e2b_1 := up hb e2b_0 z1_0
  have z0_1 := Nat.lt_of_lt_of_le z0_0 zz
  have z1_1 := Nat.lt_of_lt_of_le z1_0 zz
  replace HB := Lib.hid (HB.out.trans (hb.mono HB.out.size))
  replace SZ := Lib.hid (And.intro SZ.out zz)
  clear zz hb e1a_0 e1b_0 e2a_0 e2b_0 z0_0 z1_0
  by_cases p1 : (1048576 : Int) < m1
  · have q1 : szl ((1048576 : Int)) m1 < 0 := by unfold szl; rw [if_pos p1]; omega
    clear p1
    go_wp2
    go_ret
    exact ⟨rfl, HB.out⟩
  have q1 : szl ((1048576 : Int)) m1 = (1048576 : Int) - m1 := by unfold szl; rw [if_neg p1]
  rw [q1]
  clear q1 n1
  go_wp2_with fail
  refine (szGraph_any s2 A2 m2 c2 ((1048576 : Int) - m1) w1 n2 (by omega) (by omega)).mono ?_
  rintro e w2 ⟨rfl, hb⟩
  have zz := hb.size
  have e1a_2 := up hb e1a_1 z0_1
  have e1b_2 := up hb e1b_1 z0_1
  have e2a_2 := up hb e2a_1 z1_1
  have e2b_2 := up hb e2b_1 z1_1
  have z0_2 := Nat.lt_of_lt_of_le z0_1 zz
  have z1_2 := Nat.lt_of_lt_of_le z1_1 zz
  replace HB := Lib.hid (HB.out.trans (hb.mono HB.out.size))
  replace SZ := Lib.hid (And.intro SZ.out zz)
  clear zz hb e1a_1 e1b_1 e2a_1 e2b_1 z0_1 z1_1
  by_cases p2 : (1048576 : Int) - m1 < m2
  · have q1 : szl ((1048576 : Int) - m1) m2 < 0 := by unfold szl; rw [if_pos p2]; omega
    clear p2
    go_wp2
    go_ret
    exact ⟨rfl, HB.out⟩
  have q1 : szl ((1048576 : Int) - m1) m2 = (1048576 : Int) - m1 - m2 := by unfold szl; rw [if_neg p2]
  rw [q1]
  clear q1 n2
  go_upto_region 10 with fail
  go_cut [8, 9] from 32 to 40 (fun p9 b9 wx => ∃ (X : Nat) (A : Option Addr) (c : Nat), p9 = .pointer (some ⟨X, 0, none⟩) ∧ b9 = .bool ((fsO s1 m1 x1 s2 m2 x2 t3.toList).isSome) ∧ Hid (Below w2.heap.size w2 wx) ∧ Hid (Own wx w2.heap.size wx.heap.size 3 1 A (fsN s1 m1 x1 s2 m2 x2 t3.toList) c (fun j => .int .i64 ((fsX s1 m1 x1 s2 m2 x2 t3.toList) j))) ∧ Hid (GC wx X ((fsZ s1 m1 x1 s2 m2 x2 t3.toList)) A (fsN s1 m1 x1 s2 m2 x2 t3.toList) c) ∧ w2.heap.size ≤ X ∧ X < wx.heap.size)
  case first =>
    have HSC : Hid (∀ z : World, Below w2.heap.size w2 z → (Below w2.heap.size w2 z ∧ z.cell? ⟨w.heap.size, 0, none⟩ = some (.int .i64 s1) ∧ z.cell? ⟨w.heap.size, 1, none⟩ = some (.slice A1 m1 c1) ∧ z.cell? ⟨w.heap.size + 1, 0, none⟩ = some (.int .i64 s2) ∧ z.cell? ⟨w.heap.size + 1, 1, none⟩ = some (.slice A2 m2 c2))) := fun z hz => ⟨hz, up_ hz e1a_2, up_ hz e1b_2, up_ hz e2a_2, up_ hz e2b_2⟩
    have HZ1 : Hid (Below w2.heap.size w2 w2.drew) := (Below.refl _ _).drew
    have HZ2 : Hid (Below w2.heap.size w2 ((w2.alloc (Obj.cells #[Value.int IntKind.i64 0, Value.slice none 0 0] 30)).drew)) := ((Below.refl _ _).alloc (Nat.le_refl _) _).drew
    have HN2 : Hid (GC ((w2.alloc (Obj.cells #[Value.int IntKind.i64 0, Value.slice none 0 0] 30)).drew) w2.heap.size 0 none 0 0) := (GC.new _ _ _ _ _).drew
    have KR1 : Hid (∀ z : World, Below w2.heap.size w2 z → _) := fun z hz => toGraph_any s1 A1 m1 c1 x1 z _ (h1.keep (HB.out.trans (hz.mono HB.out.size)) (Nat.le_refl _)) (Nat.le_trans HB.out.size hz.size) (by omega)
    have KR2 : Hid (∀ z : World, Below w2.heap.size w2 z → _) := fun z hz => toGraph_any s2 A2 m2 c2 x2 z _ (h2.keep (HB.out.trans (hz.mono HB.out.size)) (Nat.le_refl _)) (Nat.le_trans HB.out.size hz.size) (by omega)
    have HS1 := Lib.hid (HSC.out _ HZ1.out)
    have HS2 := Lib.hid (HSC.out _ HZ2.out)
    go_wp2
    go_region_held3 (fun z => Below w2.heap.size w2 z ∧ z.cell? ⟨w.heap.size, 0, none⟩ = some (.int .i64 s1) ∧ z.cell? ⟨w.heap.size, 1, none⟩ = some (.slice A1 m1 c1) ∧ z.cell? ⟨w.heap.size + 1, 0, none⟩ = some (.int .i64 s2) ∧ z.cell? ⟨w.heap.size + 1, 1, none⟩ = some (.slice A2 m2 c2))
      (first | exact HS1.out | exact HS2.out | exact HSC.out _ hz1y | exact HSC.out _ (bl_alloc hz1y) | exact HSC.out _ hz2y | exact HSC.out _ (bl_alloc hz2y) | exact HSC.out _ hz5 | exact HSC.out _ (bl_alloc hz5) | exact HSC.out _ (bl_set hz5 hq5) | exact HSC.out _ (bl_set (bl_set hz5 hq5) hq5) | fail)
      (first | (go_at_call 21; ((with_reducible refine (KR1.out _ HZ1.out).mono ?_); rintro e y1 ⟨ky1, hky1, rfl, hoy1, hy1⟩; have hz1y := bl_trans HZ1.out hy1)) | (go_at_call 21; ((with_reducible refine (KR1.out _ HZ2.out).mono ?_); rintro e y1 ⟨ky1, hky1, rfl, hoy1, hy1⟩; have hz1y := bl_trans HZ2.out hy1; have hn5 := HN2.out.keep hy1; have hq5 : w2.heap.size ≤ w2.heap.size := Nat.le_refl _; have hl5 : w2.heap.size + 1 ≤ (w2.alloc (Obj.cells #[Value.int IntKind.i64 0, Value.slice none 0 0] 30)).drew.heap.size := (by show _ ≤ (w2.alloc _).heap.size; simp); replace hl5 := Nat.le_trans hl5 hy1.size)) | (go_at_call 21; ((with_reducible refine (KR2.out _ hz1y).mono ?_); rintro e y2 ⟨ky2, hky2, rfl, hoy2, hy2⟩; have hz2y := bl_trans hz1y hy2; replace hn5 := hn5.keep hy2; replace hl5 := Nat.le_trans hl5 hy2.size)) | (go_at_call 21; ((with_reducible refine (KR2.out _ hz1y).mono ?_); rintro e y2 ⟨ky2, hky2, rfl, hoy2, hy2⟩; have hz2y := bl_trans hz1y hy2)) | (go_at_call 21; ((with_reducible refine (KR2.out _ (bl_alloc hz1y)).mono ?_); rintro e y2 ⟨ky2, hky2, rfl, hoy2, hy2⟩; have hz2y := bl_trans (bl_alloc hz1y) hy2; have hn5 := (GC.new y1 0 none 0 0).keep hy2; have hq5 : w2.heap.size ≤ y1.heap.size := hz1y.size; have hl5 : y1.heap.size + 1 ≤ (y1.alloc (Obj.cells #[Value.int IntKind.i64 0, Value.slice none 0 0] 30)).heap.size := (by simp); replace hl5 := Nat.le_trans hl5 hy2.size)) | (go_at_call 41; ((with_reducible refine (FindSandwich_sL s1 _ m1 m1 x1 s2 _ m2 m2 x2 t3 _ _ (by first|exact hoy1.rd.keep hy2 hy2.size|exact (hoy1.rd.keep hy2 hy2.size).keep ((Below.refl _ _).alloc (Nat.le_refl _) (Obj.cells #[Value.int IntKind.i64 0, Value.slice none 0 0] 30)) (by simp)|exact (hoy1.rd.keep ((Below.refl _ _).alloc (Nat.le_refl _) (Obj.cells #[Value.int IntKind.i64 0, Value.slice none 0 0] 30)) (by simp)).keep hy2 hy2.size) (by first|exact hoy2.rd|exact hoy2.rd.keep ((Below.refl _ _).alloc (Nat.le_refl _) (Obj.cells #[Value.int IntKind.i64 0, Value.slice none 0 0] 30)) (by simp)) (Nat.le_refl _) (by omega) (by omega) (by omega)).mono ?_); rintro e w5 ⟨A5, c5, rfl, hO5, hb5⟩; have hz5 := bl_trans hz2y hb5; replace hn5 := hn5.keep hb5; have n0 := hn5.c0; have n1 := hn5.c1; have n2 := hn5.f0; have n3 := hn5.f1)) | (go_at_call 41; ((with_reducible refine (FindSandwich_sL s1 _ m1 m1 x1 s2 _ m2 m2 x2 t3 _ _ (by first|exact hoy1.rd.keep hy2 hy2.size|exact (hoy1.rd.keep hy2 hy2.size).keep ((Below.refl _ _).alloc (Nat.le_refl _) (Obj.cells #[Value.int IntKind.i64 0, Value.slice none 0 0] 30)) (by simp)|exact (hoy1.rd.keep ((Below.refl _ _).alloc (Nat.le_refl _) (Obj.cells #[Value.int IntKind.i64 0, Value.slice none 0 0] 30)) (by simp)).keep hy2 hy2.size) (by first|exact hoy2.rd|exact hoy2.rd.keep ((Below.refl _ _).alloc (Nat.le_refl _) (Obj.cells #[Value.int IntKind.i64 0, Value.slice none 0 0] 30)) (by simp)) (Nat.le_refl _) (by omega) (by omega) (by omega)).mono ?_); rintro e w5 ⟨A5, c5, rfl, hO5, hb5⟩; have hz5 := bl_trans hz2y hb5)) | (go_at_call 41; ((with_reducible refine (FindSandwich_sL s1 _ m1 m1 x1 s2 _ m2 m2 x2 t3 _ _ (by first|exact hoy1.rd.keep hy2 hy2.size|exact (hoy1.rd.keep hy2 hy2.size).keep ((Below.refl _ _).alloc (Nat.le_refl _) (Obj.cells #[Value.int IntKind.i64 0, Value.slice none 0 0] 30)) (by simp)|exact (hoy1.rd.keep ((Below.refl _ _).alloc (Nat.le_refl _) (Obj.cells #[Value.int IntKind.i64 0, Value.slice none 0 0] 30)) (by simp)).keep hy2 hy2.size) (by first|exact hoy2.rd|exact hoy2.rd.keep ((Below.refl _ _).alloc (Nat.le_refl _) (Obj.cells #[Value.int IntKind.i64 0, Value.slice none 0 0] 30)) (by simp)) (Nat.le_refl _) (by omega) (by omega) (by omega)).mono ?_); rintro e w5 ⟨A5, c5, rfl, hO5, hb5⟩; have hz5 := bl_trans (bl_alloc hz2y) hb5; have hn5 := (GC.new y2 0 none 0 0).keep hb5; have hq5 : w2.heap.size ≤ y2.heap.size := hz2y.size; have hl5 : y2.heap.size + 1 ≤ (y2.alloc (Obj.cells #[Value.int IntKind.i64 0, Value.slice none 0 0] 30)).heap.size := (by simp); have n0 := hn5.c0; have n1 := hn5.c1; have n2 := hn5.f0; have n3 := hn5.f1)))
    all_goals
      first
        | (obtain ⟨W5, hW5⟩ : ∃ W5 : World, W5 = ((w5.setCell ⟨w2.heap.size, 0, none⟩ (.int .i64 ((fsZ s1 m1 x1 s2 m2 x2 t3.toList)))).setCell ⟨w2.heap.size, 1, none⟩ (.slice A5 ((fsN s1 m1 x1 s2 m2 x2 t3.toList)) c5)) := ⟨_, rfl⟩
           rw [← hW5]
           have HQ5 : Hid (GC W5 w2.heap.size ((fsZ s1 m1 x1 s2 m2 x2 t3.toList)) A5 ((fsN s1 m1 x1 s2 m2 x2 t3.toList)) c5) := by rw [hW5]; exact hn5.set
           have HZ5 : Hid (Below w2.heap.size w2 W5) := by rw [hW5]; exact bl_set (bl_set hz5 hq5) hq5
           have HO5 : Hid (Own W5 w2.heap.size W5.heap.size 3 1 A5 ((fsN s1 m1 x1 s2 m2 x2 t3.toList)) c5 (fun j => .int .i64 ((fsX s1 m1 x1 s2 m2 x2 t3.toList) j))) := by
             rw [hW5]
             exact (hO5.keep (fr2 _ w2.heap.size _ _) (.inr hl5)).mono (Nat.le_trans (Nat.le_succ_of_le hq5) hl5) (by simp [World.setCell])
           have HX5 : Hid (w2.heap.size ≤ w2.heap.size) := hq5
           clear hW5 hn5 n0 n1 n2 n3 hO5 hq5 hl5)
        | (obtain ⟨W5, hW5⟩ : ∃ W5 : World, W5 = ((w5.setCell ⟨y1.heap.size, 0, none⟩ (.int .i64 ((fsZ s1 m1 x1 s2 m2 x2 t3.toList)))).setCell ⟨y1.heap.size, 1, none⟩ (.slice A5 ((fsN s1 m1 x1 s2 m2 x2 t3.toList)) c5)) := ⟨_, rfl⟩
           rw [← hW5]
           have HQ5 : Hid (GC W5 y1.heap.size ((fsZ s1 m1 x1 s2 m2 x2 t3.toList)) A5 ((fsN s1 m1 x1 s2 m2 x2 t3.toList)) c5) := by rw [hW5]; exact hn5.set
           have HZ5 : Hid (Below w2.heap.size w2 W5) := by rw [hW5]; exact bl_set (bl_set hz5 hq5) hq5
           have HO5 : Hid (Own W5 w2.heap.size W5.heap.size 3 1 A5 ((fsN s1 m1 x1 s2 m2 x2 t3.toList)) c5 (fun j => .int .i64 ((fsX s1 m1 x1 s2 m2 x2 t3.toList) j))) := by
             rw [hW5]
             exact (hO5.keep (fr2 _ y1.heap.size _ _) (.inr hl5)).mono (Nat.le_trans (Nat.le_succ_of_le hq5) hl5) (by simp [World.setCell])
           have HX5 : Hid (w2.heap.size ≤ y1.heap.size) := hq5
           clear hW5 hn5 n0 n1 n2 n3 hO5 hq5 hl5)
        | (obtain ⟨W5, hW5⟩ : ∃ W5 : World, W5 = ((w5.setCell ⟨y2.heap.size, 0, none⟩ (.int .i64 ((fsZ s1 m1 x1 s2 m2 x2 t3.toList)))).setCell ⟨y2.heap.size, 1, none⟩ (.slice A5 ((fsN s1 m1 x1 s2 m2 x2 t3.toList)) c5)) := ⟨_, rfl⟩
           rw [← hW5]
           have HQ5 : Hid (GC W5 y2.heap.size ((fsZ s1 m1 x1 s2 m2 x2 t3.toList)) A5 ((fsN s1 m1 x1 s2 m2 x2 t3.toList)) c5) := by rw [hW5]; exact hn5.set
           have HZ5 : Hid (Below w2.heap.size w2 W5) := by rw [hW5]; exact bl_set (bl_set hz5 hq5) hq5
           have HO5 : Hid (Own W5 w2.heap.size W5.heap.size 3 1 A5 ((fsN s1 m1 x1 s2 m2 x2 t3.toList)) c5 (fun j => .int .i64 ((fsX s1 m1 x1 s2 m2 x2 t3.toList) j))) := by
             rw [hW5]
             exact (hO5.keep (fr2 _ y2.heap.size _ _) (.inr hl5)).mono (Nat.le_trans (Nat.le_succ_of_le hq5) hl5) (by simp [World.setCell])
           have HX5 : Hid (w2.heap.size ≤ y2.heap.size) := hq5
           clear hW5 hn5 n0 n1 n2 n3 hO5 hq5 hl5)
        | (obtain ⟨W5, hW5⟩ : ∃ W5 : World, W5 = (w5.alloc (Obj.cells #[.int .i64 ((fsZ s1 m1 x1 s2 m2 x2 t3.toList)), .slice A5 ((fsN s1 m1 x1 s2 m2 x2 t3.toList)) c5] 30)) := ⟨_, rfl⟩
           rw [← hW5]
           have HQ5 : Hid (GC W5 w5.heap.size ((fsZ s1 m1 x1 s2 m2 x2 t3.toList)) A5 ((fsN s1 m1 x1 s2 m2 x2 t3.toList)) c5) := by rw [hW5]; exact GC.new _ _ _ _ _
           have HZ5 : Hid (Below w2.heap.size w2 W5) := by rw [hW5]; exact bl_alloc hz5
           have HO5 : Hid (Own W5 w2.heap.size W5.heap.size 3 1 A5 ((fsN s1 m1 x1 s2 m2 x2 t3.toList)) c5 (fun j => .int .i64 ((fsX s1 m1 x1 s2 m2 x2 t3.toList) j))) := by rw [hW5]; exact (hO5.alloc _).mono (by first | exact Nat.le_refl _ | (have := hz2y.size; omega)) (by simp)
           have HX5 : Hid (w2.heap.size ≤ w5.heap.size) := hz5.size
           clear hW5 hO5)
        | fail
    all_goals clear hz5 hb5 HSC HZ1 HZ2 HN2 HS1 HS2 hy1 hz1y hy2 hz2y KR1 KR2
    all_goals (go_wp2_with fail; go_meet; exact ⟨_, A5, c5, rfl, rfl, HZ5, HO5, HQ5, HX5.out, HQ5.out.lt⟩)
  case rest =>
  obtain ⟨Xw0, Aw0, cw0, rfl, rfl, hcb, hco, hcg, hcx, hcl⟩ := hcut
  obtain ⟨w3, hwn⟩ : ∃ z : World, z = wc := ⟨_, rfl⟩
  rw [← hwn] at hcb hco hcg hcl ⊢
  clear hwn
  have hb := hcb.out
  have y0 := hcg.out.c0
  have y1 := hcg.out.c1
  clear hcb hcg
  have zz := hb.size
  have e1a_3 := up hb e1a_2 z0_2
  have e1b_3 := up hb e1b_2 z0_2
  have e2a_3 := up hb e2a_2 z1_2
  have e2b_3 := up hb e2b_2 z1_2
  have z0_3 := Nat.lt_of_lt_of_le z0_2 zz
  have z1_3 := Nat.lt_of_lt_of_le z1_2 zz
  replace HB := Lib.hid (HB.out.trans (hb.mono HB.out.size))
  replace SZ := Lib.hid (And.intro SZ.out zz)
  clear zz hb e1a_2 e1b_2 e2a_2 e2b_2 z0_2 z1_2
  replace SZ := Lib.hid (And.intro SZ.out (And.intro hcx hcl))
  clear hcx
  have bw00_3 := y0
  clear y0
  have bw01_3 := y1
  clear y1
  have zbw0_3 := hcl
  clear hcl
  have Ow0 := hco
  clear hco
  go_wp2_with fail
  refine (toGraph_any s1 A1 m1 c1 x1 _ _ (h1.keep HB.out (Nat.le_refl _)) HB.out.size (by omega)).mono ?_
  rintro e w4 ⟨kx1, hkx1, rfl, hox1, hb⟩
  have Ox1 := Lib.hid hox1
  clear hox1
  have zz := hb.size
  have e1a_4 := up hb e1a_3 z0_3
  have e1b_4 := up hb e1b_3 z0_3
  have e2a_4 := up hb e2a_3 z1_3
  have e2b_4 := up hb e2b_3 z1_3
  have bw00_4 := up hb bw00_3 zbw0_3
  have bw01_4 := up hb bw01_3 zbw0_3
  have z0_4 := Nat.lt_of_lt_of_le z0_3 zz
  have z1_4 := Nat.lt_of_lt_of_le z1_3 zz
  have zbw0_4 := Nat.lt_of_lt_of_le zbw0_3 zz
  replace Ow0 := Lib.hid (Ow0.out.keepB hb (by have := SZ.out; omega))
  replace HB := Lib.hid (HB.out.trans (hb.mono HB.out.size))
  replace SZ := Lib.hid (And.intro SZ.out zz)
  clear zz hb e1a_3 e1b_3 e2a_3 e2b_3 bw00_3 bw01_3 z0_3 z1_3 zbw0_3
  clear hkx1
  obtain ⟨w5, hW⟩ : ∃ W : World, W = w4.alloc (Obj.cells #[.int .i64 s1, .slice (some ⟨kx1, 0, none⟩) m1 m1] 30) := ⟨_, rfl⟩
  obtain ⟨Xx1, hX⟩ : ∃ X : Nat, X = w4.heap.size := ⟨_, rfl⟩
  have hb : Below w4.heap.size w4 w5 := by rw [hW]; exact (Below.refl _ _).alloc (Nat.le_refl _) _
  have y0 : w5.cell? ⟨Xx1, 0, none⟩ = some (.int .i64 s1) := by rw [hW, hX]; simp [go_sem]
  have y1 : w5.cell? ⟨Xx1, 1, none⟩ = some (.slice (some ⟨kx1, 0, none⟩) m1 m1) := by rw [hW, hX]; simp [go_sem]
  have yz : Xx1 < w5.heap.size := by rw [hW, hX]; simp
  have ys : w4.heap.size ≤ Xx1 := by rw [hX]; exact Nat.le_refl _
  have HWx := Lib.hid hW
  have HX := Lib.hid hX
  clear hW hX
  have zz := hb.size
  have e1a_5 := up hb e1a_4 z0_4
  have e1b_5 := up hb e1b_4 z0_4
  have e2a_5 := up hb e2a_4 z1_4
  have e2b_5 := up hb e2b_4 z1_4
  have bw00_5 := up hb bw00_4 zbw0_4
  have bw01_5 := up hb bw01_4 zbw0_4
  have z0_5 := Nat.lt_of_lt_of_le z0_4 zz
  have z1_5 := Nat.lt_of_lt_of_le z1_4 zz
  have zbw0_5 := Nat.lt_of_lt_of_le zbw0_4 zz
  replace Ow0 := Lib.hid (Ow0.out.keepB hb (by have := SZ.out; omega))
  replace Ox1 := Lib.hid (Ox1.out.keepB hb (by have := SZ.out; omega))
  replace HB := Lib.hid (HB.out.trans (hb.mono HB.out.size))
  replace SZ := Lib.hid (And.intro SZ.out zz)
  clear zz hb 
  replace SZ := Lib.hid (And.intro SZ.out (And.intro ys yz))
  clear ys
  have bx10_5 := y0
  clear y0
  have bx11_5 := y1
  clear y1
  have zbx1_5 := yz
  clear yz
  go_wp2_with fail
  rw [← HWx.out, ← HX.out]
  clear HWx HX e1a_4 e1b_4 e2a_4 e2b_4 bw00_4 bw01_4 z0_4 z1_4 zbw0_4
  go_wp2_with fail
  refine (toGraph_any s2 A2 m2 c2 x2 _ _ (h2.keep HB.out (Nat.le_refl _)) HB.out.size (by omega)).mono ?_
  rintro e w6 ⟨kx2, hkx2, rfl, hox2, hb⟩
  have Ox2 := Lib.hid hox2
  clear hox2
  have zz := hb.size
  have e1a_6 := up hb e1a_5 z0_5
  have e1b_6 := up hb e1b_5 z0_5
  have e2a_6 := up hb e2a_5 z1_5
  have e2b_6 := up hb e2b_5 z1_5
  have bw00_6 := up hb bw00_5 zbw0_5
  have bw01_6 := up hb bw01_5 zbw0_5
  have bx10_6 := up hb bx10_5 zbx1_5
  have bx11_6 := up hb bx11_5 zbx1_5
  have z0_6 := Nat.lt_of_lt_of_le z0_5 zz
  have z1_6 := Nat.lt_of_lt_of_le z1_5 zz
  have zbw0_6 := Nat.lt_of_lt_of_le zbw0_5 zz
  have zbx1_6 := Nat.lt_of_lt_of_le zbx1_5 zz
  replace Ow0 := Lib.hid (Ow0.out.keepB hb (by have := SZ.out; omega))
  replace Ox1 := Lib.hid (Ox1.out.keepB hb (by have := SZ.out; omega))
  replace HB := Lib.hid (HB.out.trans (hb.mono HB.out.size))
  replace SZ := Lib.hid (And.intro SZ.out zz)
  clear zz hb e1a_5 e1b_5 e2a_5 e2b_5 bw00_5 bw01_5 bx10_5 bx11_5 z0_5 z1_5 zbw0_5 zbx1_5
  clear hkx2
  obtain ⟨w7, hW⟩ : ∃ W : World, W = w6.alloc (Obj.cells #[.int .i64 s2, .slice (some ⟨kx2, 0, none⟩) m2 m2] 30) := ⟨_, rfl⟩
  obtain ⟨Xx2, hX⟩ : ∃ X : Nat, X = w6.heap.size := ⟨_, rfl⟩
  have hb : Below w6.heap.size w6 w7 := by rw [hW]; exact (Below.refl _ _).alloc (Nat.le_refl _) _
  have y0 : w7.cell? ⟨Xx2, 0, none⟩ = some (.int .i64 s2) := by rw [hW, hX]; simp [go_sem]
  have y1 : w7.cell? ⟨Xx2, 1, none⟩ = some (.slice (some ⟨kx2, 0, none⟩) m2 m2) := by rw [hW, hX]; simp [go_sem]
  have yz : Xx2 < w7.heap.size := by rw [hW, hX]; simp
  have ys : w6.heap.size ≤ Xx2 := by rw [hX]; exact Nat.le_refl _
  have HWx := Lib.hid hW
  have HX := Lib.hid hX
  clear hW hX
  have zz := hb.size
  have e1a_7 := up hb e1a_6 z0_6
  have e1b_7 := up hb e1b_6 z0_6
  have e2a_7 := up hb e2a_6 z1_6
  have e2b_7 := up hb e2b_6 z1_6
  have bw00_7 := up hb bw00_6 zbw0_6
  have bw01_7 := up hb bw01_6 zbw0_6
  have bx10_7 := up hb bx10_6 zbx1_6
  have bx11_7 := up hb bx11_6 zbx1_6
  have z0_7 := Nat.lt_of_lt_of_le z0_6 zz
  have z1_7 := Nat.lt_of_lt_of_le z1_6 zz
  have zbw0_7 := Nat.lt_of_lt_of_le zbw0_6 zz
  have zbx1_7 := Nat.lt_of_lt_of_le zbx1_6 zz
  replace Ow0 := Lib.hid (Ow0.out.keepB hb (by have := SZ.out; omega))
  replace Ox1 := Lib.hid (Ox1.out.keepB hb (by have := SZ.out; omega))
  replace Ox2 := Lib.hid (Ox2.out.keepB hb (by have := SZ.out; omega))
  replace HB := Lib.hid (HB.out.trans (hb.mono HB.out.size))
  replace SZ := Lib.hid (And.intro SZ.out zz)
  clear zz hb 
  replace SZ := Lib.hid (And.intro SZ.out (And.intro ys yz))
  clear ys
  have bx20_7 := y0
  clear y0
  have bx21_7 := y1
  clear y1
  have zbx2_7 := yz
  clear yz
  go_wp2_with fail
  rw [← HWx.out, ← HX.out]
  clear HWx HX e1a_6 e1b_6 e2a_6 e2b_6 bw00_6 bw01_6 bx10_6 bx11_6 z0_6 z1_6 zbw0_6 zbx1_6
  go_wp2_with fail
  refine (FindSandwich_iL s1 _ m1 m1 x1 s2 _ m2 m2 x2 t3 w7 w7.heap.size (Ox1.out.rd.keep (Below.refl _ _) (by have := SZ.out; omega)) (Ox2.out.rd.keep (Below.refl _ _) (by have := SZ.out; omega)) (Nat.le_refl _) (by omega) (by omega) (by omega)).mono ?_
  rintro e w8 ⟨Ag0, cg0, rfl, hog0, hb⟩
  have Og0 := Lib.hid hog0
  clear hog0
  have zz := hb.size
  have e1a_8 := up hb e1a_7 z0_7
  have e1b_8 := up hb e1b_7 z0_7
  have e2a_8 := up hb e2a_7 z1_7
  have e2b_8 := up hb e2b_7 z1_7
  have bw00_8 := up hb bw00_7 zbw0_7
  have bw01_8 := up hb bw01_7 zbw0_7
  have bx10_8 := up hb bx10_7 zbx1_7
  have bx11_8 := up hb bx11_7 zbx1_7
  have bx20_8 := up hb bx20_7 zbx2_7
  have bx21_8 := up hb bx21_7 zbx2_7
  have z0_8 := Nat.lt_of_lt_of_le z0_7 zz
  have z1_8 := Nat.lt_of_lt_of_le z1_7 zz
  have zbw0_8 := Nat.lt_of_lt_of_le zbw0_7 zz
  have zbx1_8 := Nat.lt_of_lt_of_le zbx1_7 zz
  have zbx2_8 := Nat.lt_of_lt_of_le zbx2_7 zz
  replace Ow0 := Lib.hid (Ow0.out.keepB hb (by have := SZ.out; omega))
  replace Ox1 := Lib.hid (Ox1.out.keepB hb (by have := SZ.out; omega))
  replace Ox2 := Lib.hid (Ox2.out.keepB hb (by have := SZ.out; omega))
  replace HB := Lib.hid (HB.out.trans (hb.mono HB.out.size))
  replace SZ := Lib.hid (And.intro SZ.out zz)
  clear zz hb e1a_7 e1b_7 e2a_7 e2b_7 bw00_7 bw01_7 bx10_7 bx11_7 bx20_7 bx21_7 z0_7 z1_7 zbw0_7 zbx1_7 zbx2_7
  obtain ⟨w9, hW⟩ : ∃ W : World, W = w8.alloc (Obj.cells #[.int .i64 ((fsZ s1 m1 x1 s2 m2 x2 t3.toList)), .slice Ag0 ((fsN s1 m1 x1 s2 m2 x2 t3.toList)) cg0] 30) := ⟨_, rfl⟩
  obtain ⟨Xg0, hX⟩ : ∃ X : Nat, X = w8.heap.size := ⟨_, rfl⟩
  have hb : Below w8.heap.size w8 w9 := by rw [hW]; exact (Below.refl _ _).alloc (Nat.le_refl _) _
  have y0 : w9.cell? ⟨Xg0, 0, none⟩ = some (.int .i64 ((fsZ s1 m1 x1 s2 m2 x2 t3.toList))) := by rw [hW, hX]; simp [go_sem]
  have y1 : w9.cell? ⟨Xg0, 1, none⟩ = some (.slice Ag0 ((fsN s1 m1 x1 s2 m2 x2 t3.toList)) cg0) := by rw [hW, hX]; simp [go_sem]
  have yz : Xg0 < w9.heap.size := by rw [hW, hX]; simp
  have ys : w8.heap.size ≤ Xg0 := by rw [hX]; exact Nat.le_refl _
  have HWx := Lib.hid hW
  have HX := Lib.hid hX
  clear hW hX
  have zz := hb.size
  have e1a_9 := up hb e1a_8 z0_8
  have e1b_9 := up hb e1b_8 z0_8
  have e2a_9 := up hb e2a_8 z1_8
  have e2b_9 := up hb e2b_8 z1_8
  have bw00_9 := up hb bw00_8 zbw0_8
  have bw01_9 := up hb bw01_8 zbw0_8
  have bx10_9 := up hb bx10_8 zbx1_8
  have bx11_9 := up hb bx11_8 zbx1_8
  have bx20_9 := up hb bx20_8 zbx2_8
  have bx21_9 := up hb bx21_8 zbx2_8
  have z0_9 := Nat.lt_of_lt_of_le z0_8 zz
  have z1_9 := Nat.lt_of_lt_of_le z1_8 zz
  have zbw0_9 := Nat.lt_of_lt_of_le zbw0_8 zz
  have zbx1_9 := Nat.lt_of_lt_of_le zbx1_8 zz
  have zbx2_9 := Nat.lt_of_lt_of_le zbx2_8 zz
  replace Ow0 := Lib.hid (Ow0.out.keepB hb (by have := SZ.out; omega))
  replace Ox1 := Lib.hid (Ox1.out.keepB hb (by have := SZ.out; omega))
  replace Ox2 := Lib.hid (Ox2.out.keepB hb (by have := SZ.out; omega))
  replace Og0 := Lib.hid (Og0.out.keepB hb (by have := SZ.out; omega))
  replace HB := Lib.hid (HB.out.trans (hb.mono HB.out.size))
  replace SZ := Lib.hid (And.intro SZ.out zz)
  clear zz hb 
  replace SZ := Lib.hid (And.intro SZ.out (And.intro ys yz))
  clear ys
  have bg00_9 := y0
  clear y0
  have bg01_9 := y1
  clear y1
  have zbg0_9 := yz
  clear yz
  go_wp2_with fail
  rw [← HWx.out, ← HX.out]
  clear HWx HX e1a_8 e1b_8 e2a_8 e2b_8 bw00_8 bw01_8 bx10_8 bx11_8 bx20_8 bx21_8 z0_8 z1_8 zbw0_8 zbx1_8 zbx2_8
  go_wp2_with fail
  refine (eqGraph_yes _ _ _ _ _ _ _ w9 w9.heap.size w9.heap.size (Og0.out.rd.keep (Below.refl _ _) (by have := SZ.out; omega)) (Ow0.out.rd.keep (Below.refl _ _) (by have := SZ.out; omega)) (Nat.le_refl _) (Nat.le_refl _) (Nat.le_trans (fsN_le _ _ _ _ _ _ _) (by omega))).mono ?_
  rintro e w10 ⟨rfl, hb⟩
  have zz := hb.size
  have e1a_10 := up hb e1a_9 z0_9
  have e1b_10 := up hb e1b_9 z0_9
  have e2a_10 := up hb e2a_9 z1_9
  have e2b_10 := up hb e2b_9 z1_9
  have bw00_10 := up hb bw00_9 zbw0_9
  have bw01_10 := up hb bw01_9 zbw0_9
  have bx10_10 := up hb bx10_9 zbx1_9
  have bx11_10 := up hb bx11_9 zbx1_9
  have bx20_10 := up hb bx20_9 zbx2_9
  have bx21_10 := up hb bx21_9 zbx2_9
  have bg00_10 := up hb bg00_9 zbg0_9
  have bg01_10 := up hb bg01_9 zbg0_9
  have z0_10 := Nat.lt_of_lt_of_le z0_9 zz
  have z1_10 := Nat.lt_of_lt_of_le z1_9 zz
  have zbw0_10 := Nat.lt_of_lt_of_le zbw0_9 zz
  have zbx1_10 := Nat.lt_of_lt_of_le zbx1_9 zz
  have zbx2_10 := Nat.lt_of_lt_of_le zbx2_9 zz
  have zbg0_10 := Nat.lt_of_lt_of_le zbg0_9 zz
  replace Ow0 := Lib.hid (Ow0.out.keepB hb (by have := SZ.out; omega))
  replace Ox1 := Lib.hid (Ox1.out.keepB hb (by have := SZ.out; omega))
  replace Ox2 := Lib.hid (Ox2.out.keepB hb (by have := SZ.out; omega))
  replace Og0 := Lib.hid (Og0.out.keepB hb (by have := SZ.out; omega))
  replace HB := Lib.hid (HB.out.trans (hb.mono HB.out.size))
  replace SZ := Lib.hid (And.intro SZ.out zz)
  clear zz hb e1a_9 e1b_9 e2a_9 e2b_9 bw00_9 bw01_9 bx10_9 bx11_9 bx20_9 bx21_9 bg00_9 bg01_9 z0_9 z1_9 zbw0_9 zbx1_9 zbx2_9 zbg0_9
  have HK : Hid (∀ a b : World, (w.heap.size < a.heap.size ∧ w.heap.size + 1 < a.heap.size ∧ Xw0 < a.heap.size ∧ Xx1 < a.heap.size ∧ Xx2 < a.heap.size ∧ Xg0 < a.heap.size ∧ a.cell? ⟨w.heap.size, 0, none⟩ = some (.int .i64 s1) ∧ a.cell? ⟨w.heap.size, 1, none⟩ = some (.slice A1 m1 c1) ∧ a.cell? ⟨w.heap.size + 1, 0, none⟩ = some (.int .i64 s2) ∧ a.cell? ⟨w.heap.size + 1, 1, none⟩ = some (.slice A2 m2 c2) ∧ a.cell? ⟨Xw0, 0, none⟩ = some (.int .i64 ((fsZ s1 m1 x1 s2 m2 x2 t3.toList))) ∧ a.cell? ⟨Xw0, 1, none⟩ = some (.slice Aw0 ((fsN s1 m1 x1 s2 m2 x2 t3.toList)) cw0) ∧ a.cell? ⟨Xx1, 0, none⟩ = some (.int .i64 s1) ∧ a.cell? ⟨Xx1, 1, none⟩ = some (.slice (some ⟨kx1, 0, none⟩) m1 m1) ∧ a.cell? ⟨Xx2, 0, none⟩ = some (.int .i64 s2) ∧ a.cell? ⟨Xx2, 1, none⟩ = some (.slice (some ⟨kx2, 0, none⟩) m2 m2) ∧ a.cell? ⟨Xg0, 0, none⟩ = some (.int .i64 ((fsZ s1 m1 x1 s2 m2 x2 t3.toList))) ∧ a.cell? ⟨Xg0, 1, none⟩ = some (.slice Ag0 ((fsN s1 m1 x1 s2 m2 x2 t3.toList)) cg0)) → Below a.heap.size a b → (w.heap.size < b.heap.size ∧ w.heap.size + 1 < b.heap.size ∧ Xw0 < b.heap.size ∧ Xx1 < b.heap.size ∧ Xx2 < b.heap.size ∧ Xg0 < b.heap.size ∧ b.cell? ⟨w.heap.size, 0, none⟩ = some (.int .i64 s1) ∧ b.cell? ⟨w.heap.size, 1, none⟩ = some (.slice A1 m1 c1) ∧ b.cell? ⟨w.heap.size + 1, 0, none⟩ = some (.int .i64 s2) ∧ b.cell? ⟨w.heap.size + 1, 1, none⟩ = some (.slice A2 m2 c2) ∧ b.cell? ⟨Xw0, 0, none⟩ = some (.int .i64 ((fsZ s1 m1 x1 s2 m2 x2 t3.toList))) ∧ b.cell? ⟨Xw0, 1, none⟩ = some (.slice Aw0 ((fsN s1 m1 x1 s2 m2 x2 t3.toList)) cw0) ∧ b.cell? ⟨Xx1, 0, none⟩ = some (.int .i64 s1) ∧ b.cell? ⟨Xx1, 1, none⟩ = some (.slice (some ⟨kx1, 0, none⟩) m1 m1) ∧ b.cell? ⟨Xx2, 0, none⟩ = some (.int .i64 s2) ∧ b.cell? ⟨Xx2, 1, none⟩ = some (.slice (some ⟨kx2, 0, none⟩) m2 m2) ∧ b.cell? ⟨Xg0, 0, none⟩ = some (.int .i64 ((fsZ s1 m1 x1 s2 m2 x2 t3.toList))) ∧ b.cell? ⟨Xg0, 1, none⟩ = some (.slice Ag0 ((fsN s1 m1 x1 s2 m2 x2 t3.toList)) cg0))) := by
    rintro a b ⟨r0, r1, r2, r3, r4, r5, r6, r7, r8, r9, r10, r11, r12, r13, r14, r15, r16, r17⟩ hb
    have := hb.size
    exact ⟨by omega, by omega, by omega, by omega, by omega, by omega, up hb r6 (by omega), up hb r7 (by omega), up hb r8 (by omega), up hb r9 (by omega), up hb r10 (by omega), up hb r11 (by omega), up hb r12 (by omega), up hb r13 (by omega), up hb r14 (by omega), up hb r15 (by omega), up hb r16 (by omega), up hb r17 (by omega)⟩
  go_wp2_with fail
  have H10 : Hid (Below w.heap.size w w10.drew) := HB.out.drew
  go_region_held3 (fun a => w.heap.size < a.heap.size ∧ w.heap.size + 1 < a.heap.size ∧ Xw0 < a.heap.size ∧ Xx1 < a.heap.size ∧ Xx2 < a.heap.size ∧ Xg0 < a.heap.size ∧ a.cell? ⟨w.heap.size, 0, none⟩ = some (.int .i64 s1) ∧ a.cell? ⟨w.heap.size, 1, none⟩ = some (.slice A1 m1 c1) ∧ a.cell? ⟨w.heap.size + 1, 0, none⟩ = some (.int .i64 s2) ∧ a.cell? ⟨w.heap.size + 1, 1, none⟩ = some (.slice A2 m2 c2) ∧ a.cell? ⟨Xw0, 0, none⟩ = some (.int .i64 ((fsZ s1 m1 x1 s2 m2 x2 t3.toList))) ∧ a.cell? ⟨Xw0, 1, none⟩ = some (.slice Aw0 ((fsN s1 m1 x1 s2 m2 x2 t3.toList)) cw0) ∧ a.cell? ⟨Xx1, 0, none⟩ = some (.int .i64 s1) ∧ a.cell? ⟨Xx1, 1, none⟩ = some (.slice (some ⟨kx1, 0, none⟩) m1 m1) ∧ a.cell? ⟨Xx2, 0, none⟩ = some (.int .i64 s2) ∧ a.cell? ⟨Xx2, 1, none⟩ = some (.slice (some ⟨kx2, 0, none⟩) m2 m2) ∧ a.cell? ⟨Xg0, 0, none⟩ = some (.int .i64 ((fsZ s1 m1 x1 s2 m2 x2 t3.toList))) ∧ a.cell? ⟨Xg0, 1, none⟩ = some (.slice Ag0 ((fsN s1 m1 x1 s2 m2 x2 t3.toList)) cg0))
    (first | (refine ⟨?_, ?_, ?_, ?_, ?_, ?_, ?_, ?_, ?_, ?_, ?_, ?_, ?_, ?_, ?_, ?_, ?_, ?_⟩ <;> assumption) | exact HK.out _ _ (by assumption) hb12 | exact HK.out _ _ (by assumption) hb11)
    (first
      | (go_at_call 21; ((with_reducible refine (toGraph_any s1 A1 m1 c1 x1 _ _ (h1.keep H10.out (Nat.le_refl _)) H10.out.size (by omega)).mono ?_); rintro e w11 ⟨kt1, hkt1, rfl, hot1, hb11⟩; have H11 := Lib.hid (H10.out.trans (hb11.mono H10.out.size))))
      | (go_at_call 23; ((with_reducible refine (eqGraph_yes _ _ _ _ _ _ _ w11 w11.heap.size w11.heap.size ((Ox1.out.rd.keep (Below.drew (Below.refl _ w10)) (le_drew (by have := SZ.out; omega))).keep hb11 hb11.size) (hot1.rd) (Nat.le_refl _) (Nat.le_refl _) (by omega)).mono ?_); rintro e w12 ⟨rfl, hb12⟩; have H12 := Lib.hid (H11.out.trans (hb12.mono H11.out.size)))))
  clear H11
  clear H12
  clear HK H10
  replace hb11 := bd hb11
  have Ot1 := Lib.hid hot1
  clear hot1
  have zz := hb11.size
  have e1a_11 := up hb11 e1a_10 z0_10
  have e1b_11 := up hb11 e1b_10 z0_10
  have e2a_11 := up hb11 e2a_10 z1_10
  have e2b_11 := up hb11 e2b_10 z1_10
  have bw00_11 := up hb11 bw00_10 zbw0_10
  have bw01_11 := up hb11 bw01_10 zbw0_10
  have bx10_11 := up hb11 bx10_10 zbx1_10
  have bx11_11 := up hb11 bx11_10 zbx1_10
  have bx20_11 := up hb11 bx20_10 zbx2_10
  have bx21_11 := up hb11 bx21_10 zbx2_10
  have bg00_11 := up hb11 bg00_10 zbg0_10
  have bg01_11 := up hb11 bg01_10 zbg0_10
  have z0_11 := Nat.lt_of_lt_of_le z0_10 zz
  have z1_11 := Nat.lt_of_lt_of_le z1_10 zz
  have zbw0_11 := Nat.lt_of_lt_of_le zbw0_10 zz
  have zbx1_11 := Nat.lt_of_lt_of_le zbx1_10 zz
  have zbx2_11 := Nat.lt_of_lt_of_le zbx2_10 zz
  have zbg0_11 := Nat.lt_of_lt_of_le zbg0_10 zz
  replace Ow0 := Lib.hid (Ow0.out.keepB hb11 (by have := SZ.out; omega))
  replace Ox1 := Lib.hid (Ox1.out.keepB hb11 (by have := SZ.out; omega))
  replace Ox2 := Lib.hid (Ox2.out.keepB hb11 (by have := SZ.out; omega))
  replace Og0 := Lib.hid (Og0.out.keepB hb11 (by have := SZ.out; omega))
  replace HB := Lib.hid (HB.out.trans (hb11.mono HB.out.size))
  replace SZ := Lib.hid (And.intro SZ.out zz)
  clear zz hb11 e1a_10 e1b_10 e2a_10 e2b_10 bw00_10 bw01_10 bx10_10 bx11_10 bx20_10 bx21_10 bg00_10 bg01_10 z0_10 z1_10 zbw0_10 zbx1_10 zbx2_10 zbg0_10
  clear hkt1
  have zz := hb12.size
  have e1a_12 := up hb12 e1a_11 z0_11
  have e1b_12 := up hb12 e1b_11 z0_11
  have e2a_12 := up hb12 e2a_11 z1_11
  have e2b_12 := up hb12 e2b_11 z1_11
  have bw00_12 := up hb12 bw00_11 zbw0_11
  have bw01_12 := up hb12 bw01_11 zbw0_11
  have bx10_12 := up hb12 bx10_11 zbx1_11
  have bx11_12 := up hb12 bx11_11 zbx1_11
  have bx20_12 := up hb12 bx20_11 zbx2_11
  have bx21_12 := up hb12 bx21_11 zbx2_11
  have bg00_12 := up hb12 bg00_11 zbg0_11
  have bg01_12 := up hb12 bg01_11 zbg0_11
  have z0_12 := Nat.lt_of_lt_of_le z0_11 zz
  have z1_12 := Nat.lt_of_lt_of_le z1_11 zz
  have zbw0_12 := Nat.lt_of_lt_of_le zbw0_11 zz
  have zbx1_12 := Nat.lt_of_lt_of_le zbx1_11 zz
  have zbx2_12 := Nat.lt_of_lt_of_le zbx2_11 zz
  have zbg0_12 := Nat.lt_of_lt_of_le zbg0_11 zz
  replace Ow0 := Lib.hid (Ow0.out.keepB hb12 (by have := SZ.out; omega))
  replace Ox1 := Lib.hid (Ox1.out.keepB hb12 (by have := SZ.out; omega))
  replace Ox2 := Lib.hid (Ox2.out.keepB hb12 (by have := SZ.out; omega))
  replace Og0 := Lib.hid (Og0.out.keepB hb12 (by have := SZ.out; omega))
  replace Ot1 := Lib.hid (Ot1.out.keepB hb12 (by have := SZ.out; omega))
  replace HB := Lib.hid (HB.out.trans (hb12.mono HB.out.size))
  replace SZ := Lib.hid (And.intro SZ.out zz)
  clear zz hb12 e1a_11 e1b_11 e2a_11 e2b_11 bw00_11 bw01_11 bx10_11 bx11_11 bx20_11 bx21_11 bg00_11 bg01_11 z0_11 z1_11 zbw0_11 zbx1_11 zbx2_11 zbg0_11
  clear Ot1
  have HK : Hid (∀ a b : World, (w.heap.size < a.heap.size ∧ w.heap.size + 1 < a.heap.size ∧ Xw0 < a.heap.size ∧ Xx1 < a.heap.size ∧ Xx2 < a.heap.size ∧ Xg0 < a.heap.size ∧ a.cell? ⟨w.heap.size, 0, none⟩ = some (.int .i64 s1) ∧ a.cell? ⟨w.heap.size, 1, none⟩ = some (.slice A1 m1 c1) ∧ a.cell? ⟨w.heap.size + 1, 0, none⟩ = some (.int .i64 s2) ∧ a.cell? ⟨w.heap.size + 1, 1, none⟩ = some (.slice A2 m2 c2) ∧ a.cell? ⟨Xw0, 0, none⟩ = some (.int .i64 ((fsZ s1 m1 x1 s2 m2 x2 t3.toList))) ∧ a.cell? ⟨Xw0, 1, none⟩ = some (.slice Aw0 ((fsN s1 m1 x1 s2 m2 x2 t3.toList)) cw0) ∧ a.cell? ⟨Xx1, 0, none⟩ = some (.int .i64 s1) ∧ a.cell? ⟨Xx1, 1, none⟩ = some (.slice (some ⟨kx1, 0, none⟩) m1 m1) ∧ a.cell? ⟨Xx2, 0, none⟩ = some (.int .i64 s2) ∧ a.cell? ⟨Xx2, 1, none⟩ = some (.slice (some ⟨kx2, 0, none⟩) m2 m2) ∧ a.cell? ⟨Xg0, 0, none⟩ = some (.int .i64 ((fsZ s1 m1 x1 s2 m2 x2 t3.toList))) ∧ a.cell? ⟨Xg0, 1, none⟩ = some (.slice Ag0 ((fsN s1 m1 x1 s2 m2 x2 t3.toList)) cg0)) → Below a.heap.size a b → (w.heap.size < b.heap.size ∧ w.heap.size + 1 < b.heap.size ∧ Xw0 < b.heap.size ∧ Xx1 < b.heap.size ∧ Xx2 < b.heap.size ∧ Xg0 < b.heap.size ∧ b.cell? ⟨w.heap.size, 0, none⟩ = some (.int .i64 s1) ∧ b.cell? ⟨w.heap.size, 1, none⟩ = some (.slice A1 m1 c1) ∧ b.cell? ⟨w.heap.size + 1, 0, none⟩ = some (.int .i64 s2) ∧ b.cell? ⟨w.heap.size + 1, 1, none⟩ = some (.slice A2 m2 c2) ∧ b.cell? ⟨Xw0, 0, none⟩ = some (.int .i64 ((fsZ s1 m1 x1 s2 m2 x2 t3.toList))) ∧ b.cell? ⟨Xw0, 1, none⟩ = some (.slice Aw0 ((fsN s1 m1 x1 s2 m2 x2 t3.toList)) cw0) ∧ b.cell? ⟨Xx1, 0, none⟩ = some (.int .i64 s1) ∧ b.cell? ⟨Xx1, 1, none⟩ = some (.slice (some ⟨kx1, 0, none⟩) m1 m1) ∧ b.cell? ⟨Xx2, 0, none⟩ = some (.int .i64 s2) ∧ b.cell? ⟨Xx2, 1, none⟩ = some (.slice (some ⟨kx2, 0, none⟩) m2 m2) ∧ b.cell? ⟨Xg0, 0, none⟩ = some (.int .i64 ((fsZ s1 m1 x1 s2 m2 x2 t3.toList))) ∧ b.cell? ⟨Xg0, 1, none⟩ = some (.slice Ag0 ((fsN s1 m1 x1 s2 m2 x2 t3.toList)) cg0))) := by
    rintro a b ⟨r0, r1, r2, r3, r4, r5, r6, r7, r8, r9, r10, r11, r12, r13, r14, r15, r16, r17⟩ hb
    have := hb.size
    exact ⟨by omega, by omega, by omega, by omega, by omega, by omega, up hb r6 (by omega), up hb r7 (by omega), up hb r8 (by omega), up hb r9 (by omega), up hb r10 (by omega), up hb r11 (by omega), up hb r12 (by omega), up hb r13 (by omega), up hb r14 (by omega), up hb r15 (by omega), up hb r16 (by omega), up hb r17 (by omega)⟩
  go_wp2_with fail
  have H12 : Hid (Below w.heap.size w w12.drew) := HB.out.drew
  go_region_held3 (fun a => w.heap.size < a.heap.size ∧ w.heap.size + 1 < a.heap.size ∧ Xw0 < a.heap.size ∧ Xx1 < a.heap.size ∧ Xx2 < a.heap.size ∧ Xg0 < a.heap.size ∧ a.cell? ⟨w.heap.size, 0, none⟩ = some (.int .i64 s1) ∧ a.cell? ⟨w.heap.size, 1, none⟩ = some (.slice A1 m1 c1) ∧ a.cell? ⟨w.heap.size + 1, 0, none⟩ = some (.int .i64 s2) ∧ a.cell? ⟨w.heap.size + 1, 1, none⟩ = some (.slice A2 m2 c2) ∧ a.cell? ⟨Xw0, 0, none⟩ = some (.int .i64 ((fsZ s1 m1 x1 s2 m2 x2 t3.toList))) ∧ a.cell? ⟨Xw0, 1, none⟩ = some (.slice Aw0 ((fsN s1 m1 x1 s2 m2 x2 t3.toList)) cw0) ∧ a.cell? ⟨Xx1, 0, none⟩ = some (.int .i64 s1) ∧ a.cell? ⟨Xx1, 1, none⟩ = some (.slice (some ⟨kx1, 0, none⟩) m1 m1) ∧ a.cell? ⟨Xx2, 0, none⟩ = some (.int .i64 s2) ∧ a.cell? ⟨Xx2, 1, none⟩ = some (.slice (some ⟨kx2, 0, none⟩) m2 m2) ∧ a.cell? ⟨Xg0, 0, none⟩ = some (.int .i64 ((fsZ s1 m1 x1 s2 m2 x2 t3.toList))) ∧ a.cell? ⟨Xg0, 1, none⟩ = some (.slice Ag0 ((fsN s1 m1 x1 s2 m2 x2 t3.toList)) cg0))
    (first | (refine ⟨?_, ?_, ?_, ?_, ?_, ?_, ?_, ?_, ?_, ?_, ?_, ?_, ?_, ?_, ?_, ?_, ?_, ?_⟩ <;> assumption) | exact HK.out _ _ (by assumption) hb14 | exact HK.out _ _ (by assumption) hb13)
    (first
      | (go_at_call 21; ((with_reducible refine (toGraph_any s2 A2 m2 c2 x2 _ _ (h2.keep H12.out (Nat.le_refl _)) H12.out.size (by omega)).mono ?_); rintro e w13 ⟨kt2, hkt2, rfl, hot2, hb13⟩; have H13 := Lib.hid (H12.out.trans (hb13.mono H12.out.size))))
      | (go_at_call 23; ((with_reducible refine (eqGraph_yes _ _ _ _ _ _ _ w13 w13.heap.size w13.heap.size ((Ox2.out.rd.keep (Below.drew (Below.refl _ w12)) (le_drew (by have := SZ.out; omega))).keep hb13 hb13.size) (hot2.rd) (Nat.le_refl _) (Nat.le_refl _) (by omega)).mono ?_); rintro e w14 ⟨rfl, hb14⟩; have H14 := Lib.hid (H13.out.trans (hb14.mono H13.out.size)))))
  clear H13
  clear H14
  clear HK H12
  replace hb13 := bd hb13
  have Ot2 := Lib.hid hot2
  clear hot2
  have zz := hb13.size
  have e1a_13 := up hb13 e1a_12 z0_12
  have e1b_13 := up hb13 e1b_12 z0_12
  have e2a_13 := up hb13 e2a_12 z1_12
  have e2b_13 := up hb13 e2b_12 z1_12
  have bw00_13 := up hb13 bw00_12 zbw0_12
  have bw01_13 := up hb13 bw01_12 zbw0_12
  have bx10_13 := up hb13 bx10_12 zbx1_12
  have bx11_13 := up hb13 bx11_12 zbx1_12
  have bx20_13 := up hb13 bx20_12 zbx2_12
  have bx21_13 := up hb13 bx21_12 zbx2_12
  have bg00_13 := up hb13 bg00_12 zbg0_12
  have bg01_13 := up hb13 bg01_12 zbg0_12
  have z0_13 := Nat.lt_of_lt_of_le z0_12 zz
  have z1_13 := Nat.lt_of_lt_of_le z1_12 zz
  have zbw0_13 := Nat.lt_of_lt_of_le zbw0_12 zz
  have zbx1_13 := Nat.lt_of_lt_of_le zbx1_12 zz
  have zbx2_13 := Nat.lt_of_lt_of_le zbx2_12 zz
  have zbg0_13 := Nat.lt_of_lt_of_le zbg0_12 zz
  replace Ow0 := Lib.hid (Ow0.out.keepB hb13 (by have := SZ.out; omega))
  replace Ox1 := Lib.hid (Ox1.out.keepB hb13 (by have := SZ.out; omega))
  replace Ox2 := Lib.hid (Ox2.out.keepB hb13 (by have := SZ.out; omega))
  replace Og0 := Lib.hid (Og0.out.keepB hb13 (by have := SZ.out; omega))
  replace HB := Lib.hid (HB.out.trans (hb13.mono HB.out.size))
  replace SZ := Lib.hid (And.intro SZ.out zz)
  clear zz hb13 e1a_12 e1b_12 e2a_12 e2b_12 bw00_12 bw01_12 bx10_12 bx11_12 bx20_12 bx21_12 bg00_12 bg01_12 z0_12 z1_12 zbw0_12 zbx1_12 zbx2_12 zbg0_12
  clear hkt2
  have zz := hb14.size
  have e1a_14 := up hb14 e1a_13 z0_13
  have e1b_14 := up hb14 e1b_13 z0_13
  have e2a_14 := up hb14 e2a_13 z1_13
  have e2b_14 := up hb14 e2b_13 z1_13
  have bw00_14 := up hb14 bw00_13 zbw0_13
  have bw01_14 := up hb14 bw01_13 zbw0_13
  have bx10_14 := up hb14 bx10_13 zbx1_13
  have bx11_14 := up hb14 bx11_13 zbx1_13
  have bx20_14 := up hb14 bx20_13 zbx2_13
  have bx21_14 := up hb14 bx21_13 zbx2_13
  have bg00_14 := up hb14 bg00_13 zbg0_13
  have bg01_14 := up hb14 bg01_13 zbg0_13
  have z0_14 := Nat.lt_of_lt_of_le z0_13 zz
  have z1_14 := Nat.lt_of_lt_of_le z1_13 zz
  have zbw0_14 := Nat.lt_of_lt_of_le zbw0_13 zz
  have zbx1_14 := Nat.lt_of_lt_of_le zbx1_13 zz
  have zbx2_14 := Nat.lt_of_lt_of_le zbx2_13 zz
  have zbg0_14 := Nat.lt_of_lt_of_le zbg0_13 zz
  replace Ow0 := Lib.hid (Ow0.out.keepB hb14 (by have := SZ.out; omega))
  replace Ox1 := Lib.hid (Ox1.out.keepB hb14 (by have := SZ.out; omega))
  replace Ox2 := Lib.hid (Ox2.out.keepB hb14 (by have := SZ.out; omega))
  replace Og0 := Lib.hid (Og0.out.keepB hb14 (by have := SZ.out; omega))
  replace Ot2 := Lib.hid (Ot2.out.keepB hb14 (by have := SZ.out; omega))
  replace HB := Lib.hid (HB.out.trans (hb14.mono HB.out.size))
  replace SZ := Lib.hid (And.intro SZ.out zz)
  clear zz hb14 e1a_13 e1b_13 e2a_13 e2b_13 bw00_13 bw01_13 bx10_13 bx11_13 bx20_13 bx21_13 bg00_13 bg01_13 z0_13 z1_13 zbw0_13 zbx1_13 zbx2_13 zbg0_13
  clear Ot2
  go_wp2_with fail
  refine (markGraph_any _ _ _ _ _ (1 : Int) w14 _ _ Ox1.out (by omega) (by omega) (by omega) (by have := SZ.out; omega)).mono ?_
  rintro e w15 ⟨rfl, ho, hf⟩
  replace Ox1 := Lib.hid (Own.marked ho)
  clear ho
  have zz := hf.size
  have e1a_15 := upFr hf e1a_14 z0_14 (by have := SZ.out; omega)
  have e1b_15 := upFr hf e1b_14 z0_14 (by have := SZ.out; omega)
  have e2a_15 := upFr hf e2a_14 z1_14 (by have := SZ.out; omega)
  have e2b_15 := upFr hf e2b_14 z1_14 (by have := SZ.out; omega)
  have bw00_15 := upFr hf bw00_14 zbw0_14 (by have := SZ.out; omega)
  have bw01_15 := upFr hf bw01_14 zbw0_14 (by have := SZ.out; omega)
  have bx10_15 := upFr hf bx10_14 zbx1_14 (by have := SZ.out; omega)
  have bx11_15 := upFr hf bx11_14 zbx1_14 (by have := SZ.out; omega)
  have bx20_15 := upFr hf bx20_14 zbx2_14 (by have := SZ.out; omega)
  have bx21_15 := upFr hf bx21_14 zbx2_14 (by have := SZ.out; omega)
  have bg00_15 := upFr hf bg00_14 zbg0_14 (by have := SZ.out; omega)
  have bg01_15 := upFr hf bg01_14 zbg0_14 (by have := SZ.out; omega)
  have z0_15 := Nat.lt_of_lt_of_le z0_14 zz
  have z1_15 := Nat.lt_of_lt_of_le z1_14 zz
  have zbw0_15 := Nat.lt_of_lt_of_le zbw0_14 zz
  have zbx1_15 := Nat.lt_of_lt_of_le zbx1_14 zz
  have zbx2_15 := Nat.lt_of_lt_of_le zbx2_14 zz
  have zbg0_15 := Nat.lt_of_lt_of_le zbg0_14 zz
  replace Ow0 := Lib.hid (Ow0.out.keep hf (by have := SZ.out; omega))
  replace Ox2 := Lib.hid (Ox2.out.keep hf (by have := SZ.out; omega))
  replace Og0 := Lib.hid (Og0.out.keep hf (by have := SZ.out; omega))
  replace HB := Lib.hid (HB.out.trans (hf.below (by have := SZ.out; have := HB.out.size; omega) HB.out.size))
  replace SZ := Lib.hid (And.intro SZ.out zz)
  clear zz hf e1a_14 e1b_14 e2a_14 e2b_14 bw00_14 bw01_14 bx10_14 bx11_14 bx20_14 bx21_14 bg00_14 bg01_14 z0_14 z1_14 zbw0_14 zbx1_14 zbx2_14 zbg0_14
  clear Ox1
  go_wp2_with fail
  refine (markGraph_any _ _ _ _ _ ((1 : Int) + m1) w15 _ _ Ox2.out (by omega) (by omega) (by omega) (by have := SZ.out; omega)).mono ?_
  rintro e w16 ⟨rfl, ho, hf⟩
  replace Ox2 := Lib.hid (Own.marked ho)
  clear ho
  have zz := hf.size
  have e1a_16 := upFr hf e1a_15 z0_15 (by have := SZ.out; omega)
  have e1b_16 := upFr hf e1b_15 z0_15 (by have := SZ.out; omega)
  have e2a_16 := upFr hf e2a_15 z1_15 (by have := SZ.out; omega)
  have e2b_16 := upFr hf e2b_15 z1_15 (by have := SZ.out; omega)
  have bw00_16 := upFr hf bw00_15 zbw0_15 (by have := SZ.out; omega)
  have bw01_16 := upFr hf bw01_15 zbw0_15 (by have := SZ.out; omega)
  have bx10_16 := upFr hf bx10_15 zbx1_15 (by have := SZ.out; omega)
  have bx11_16 := upFr hf bx11_15 zbx1_15 (by have := SZ.out; omega)
  have bx20_16 := upFr hf bx20_15 zbx2_15 (by have := SZ.out; omega)
  have bx21_16 := upFr hf bx21_15 zbx2_15 (by have := SZ.out; omega)
  have bg00_16 := upFr hf bg00_15 zbg0_15 (by have := SZ.out; omega)
  have bg01_16 := upFr hf bg01_15 zbg0_15 (by have := SZ.out; omega)
  have z0_16 := Nat.lt_of_lt_of_le z0_15 zz
  have z1_16 := Nat.lt_of_lt_of_le z1_15 zz
  have zbw0_16 := Nat.lt_of_lt_of_le zbw0_15 zz
  have zbx1_16 := Nat.lt_of_lt_of_le zbx1_15 zz
  have zbx2_16 := Nat.lt_of_lt_of_le zbx2_15 zz
  have zbg0_16 := Nat.lt_of_lt_of_le zbg0_15 zz
  replace Ow0 := Lib.hid (Ow0.out.keep hf (by have := SZ.out; omega))
  replace Og0 := Lib.hid (Og0.out.keep hf (by have := SZ.out; omega))
  replace HB := Lib.hid (HB.out.trans (hf.below (by have := SZ.out; have := HB.out.size; omega) HB.out.size))
  replace SZ := Lib.hid (And.intro SZ.out zz)
  clear zz hf e1a_15 e1b_15 e2a_15 e2b_15 bw00_15 bw01_15 bx10_15 bx11_15 bx20_15 bx21_15 bg00_15 bg01_15 z0_15 z1_15 zbw0_15 zbx1_15 zbx2_15 zbg0_15
  clear Ox2
  go_wp2_with fail
  refine (eqGraph_yes _ _ _ _ _ _ _ w16 w16.heap.size w16.heap.size (Og0.out.rd.keep (Below.refl _ _) (by have := SZ.out; omega)) (Ow0.out.rd.keep (Below.refl _ _) (by have := SZ.out; omega)) (Nat.le_refl _) (Nat.le_refl _) (Nat.le_trans (fsN_le _ _ _ _ _ _ _) (by omega))).mono ?_
  rintro e w17 ⟨rfl, hb⟩
  have zz := hb.size
  have e1a_17 := up hb e1a_16 z0_16
  have e1b_17 := up hb e1b_16 z0_16
  have e2a_17 := up hb e2a_16 z1_16
  have e2b_17 := up hb e2b_16 z1_16
  have bw00_17 := up hb bw00_16 zbw0_16
  have bw01_17 := up hb bw01_16 zbw0_16
  have bx10_17 := up hb bx10_16 zbx1_16
  have bx11_17 := up hb bx11_16 zbx1_16
  have bx20_17 := up hb bx20_16 zbx2_16
  have bx21_17 := up hb bx21_16 zbx2_16
  have bg00_17 := up hb bg00_16 zbg0_16
  have bg01_17 := up hb bg01_16 zbg0_16
  have z0_17 := Nat.lt_of_lt_of_le z0_16 zz
  have z1_17 := Nat.lt_of_lt_of_le z1_16 zz
  have zbw0_17 := Nat.lt_of_lt_of_le zbw0_16 zz
  have zbx1_17 := Nat.lt_of_lt_of_le zbx1_16 zz
  have zbx2_17 := Nat.lt_of_lt_of_le zbx2_16 zz
  have zbg0_17 := Nat.lt_of_lt_of_le zbg0_16 zz
  replace Ow0 := Lib.hid (Ow0.out.keepB hb (by have := SZ.out; omega))
  replace Og0 := Lib.hid (Og0.out.keepB hb (by have := SZ.out; omega))
  replace HB := Lib.hid (HB.out.trans (hb.mono HB.out.size))
  replace SZ := Lib.hid (And.intro SZ.out zz)
  clear zz hb e1a_16 e1b_16 e2a_16 e2b_16 bw00_16 bw01_16 bx10_16 bx11_16 bx20_16 bx21_16 bg00_16 bg01_16 z0_16 z1_16 zbw0_16 zbx1_16 zbx2_16 zbg0_16
  go_wp2_with fail
  refine (markGraph_any _ _ _ _ _ (1 : Int) w17 _ _ Og0.out (Nat.le_trans (fsN_le _ _ _ _ _ _ _) (by omega)) (by omega) (by omega) (by have := SZ.out; omega)).mono ?_
  rintro e w18 ⟨rfl, ho, hf⟩
  replace Og0 := Lib.hid (Own.marked ho)
  clear ho
  have zz := hf.size
  have e1a_18 := upFr hf e1a_17 z0_17 (by have := SZ.out; omega)
  have e1b_18 := upFr hf e1b_17 z0_17 (by have := SZ.out; omega)
  have e2a_18 := upFr hf e2a_17 z1_17 (by have := SZ.out; omega)
  have e2b_18 := upFr hf e2b_17 z1_17 (by have := SZ.out; omega)
  have bw00_18 := upFr hf bw00_17 zbw0_17 (by have := SZ.out; omega)
  have bw01_18 := upFr hf bw01_17 zbw0_17 (by have := SZ.out; omega)
  have bx10_18 := upFr hf bx10_17 zbx1_17 (by have := SZ.out; omega)
  have bx11_18 := upFr hf bx11_17 zbx1_17 (by have := SZ.out; omega)
  have bx20_18 := upFr hf bx20_17 zbx2_17 (by have := SZ.out; omega)
  have bx21_18 := upFr hf bx21_17 zbx2_17 (by have := SZ.out; omega)
  have bg00_18 := upFr hf bg00_17 zbg0_17 (by have := SZ.out; omega)
  have bg01_18 := upFr hf bg01_17 zbg0_17 (by have := SZ.out; omega)
  have z0_18 := Nat.lt_of_lt_of_le z0_17 zz
  have z1_18 := Nat.lt_of_lt_of_le z1_17 zz
  have zbw0_18 := Nat.lt_of_lt_of_le zbw0_17 zz
  have zbx1_18 := Nat.lt_of_lt_of_le zbx1_17 zz
  have zbx2_18 := Nat.lt_of_lt_of_le zbx2_17 zz
  have zbg0_18 := Nat.lt_of_lt_of_le zbg0_17 zz
  replace Ow0 := Lib.hid (Ow0.out.keep hf (by have := SZ.out; omega))
  replace HB := Lib.hid (HB.out.trans (hf.below (by have := SZ.out; have := HB.out.size; omega) HB.out.size))
  replace SZ := Lib.hid (And.intro SZ.out zz)
  clear zz hf e1a_17 e1b_17 e2a_17 e2b_17 bw00_17 bw01_17 bx10_17 bx11_17 bx20_17 bx21_17 bg00_17 bg01_17 z0_17 z1_17 zbw0_17 zbx1_17 zbx2_17 zbg0_17
  go_wp2_with fail
  refine (heldGraph_yes _ _ _ _ (1 : Int) w18 _ Og0.out.rd (Nat.le_trans (fsN_le _ _ _ _ _ _ _) (by omega)) (by omega) (by omega) (by have := SZ.out; omega)).mono ?_
  rintro e w19 ⟨rfl, hb⟩
  have zz := hb.size
  have e1a_19 := up hb e1a_18 z0_18
  have e1b_19 := up hb e1b_18 z0_18
  have e2a_19 := up hb e2a_18 z1_18
  have e2b_19 := up hb e2b_18 z1_18
  have bw00_19 := up hb bw00_18 zbw0_18
  have bw01_19 := up hb bw01_18 zbw0_18
  have bx10_19 := up hb bx10_18 zbx1_18
  have bx11_19 := up hb bx11_18 zbx1_18
  have bx20_19 := up hb bx20_18 zbx2_18
  have bx21_19 := up hb bx21_18 zbx2_18
  have bg00_19 := up hb bg00_18 zbg0_18
  have bg01_19 := up hb bg01_18 zbg0_18
  have z0_19 := Nat.lt_of_lt_of_le z0_18 zz
  have z1_19 := Nat.lt_of_lt_of_le z1_18 zz
  have zbw0_19 := Nat.lt_of_lt_of_le zbw0_18 zz
  have zbx1_19 := Nat.lt_of_lt_of_le zbx1_18 zz
  have zbx2_19 := Nat.lt_of_lt_of_le zbx2_18 zz
  have zbg0_19 := Nat.lt_of_lt_of_le zbg0_18 zz
  replace Ow0 := Lib.hid (Ow0.out.keepB hb (by have := SZ.out; omega))
  replace Og0 := Lib.hid (Og0.out.keepB hb (by have := SZ.out; omega))
  replace HB := Lib.hid (HB.out.trans (hb.mono HB.out.size))
  replace SZ := Lib.hid (And.intro SZ.out zz)
  clear zz hb e1a_18 e1b_18 e2a_18 e2b_18 bw00_18 bw01_18 bx10_18 bx11_18 bx20_18 bx21_18 bg00_18 bg01_18 z0_18 z1_18 zbw0_18 zbx1_18 zbx2_18 zbg0_18
  go_upto_region 33 with fail
  go_cut [17, 18] from 101 to 109 (fun p9 b9 wx => ∃ (X : Nat) (A : Option Addr) (c : Nat), p9 = .pointer (some ⟨X, 0, none⟩) ∧ b9 = .bool ((fsO s1 m1 x1 s2 m2 x2 t3.toList).isSome) ∧ Hid (Below w19.heap.size w19 wx) ∧ Hid (Own wx w19.heap.size wx.heap.size 3 1 A (fsN s1 m1 x1 s2 m2 x2 t3.toList) c (fun j => .int .i64 ((fsX s1 m1 x1 s2 m2 x2 t3.toList) j))) ∧ Hid (GC wx X ((fsZ s1 m1 x1 s2 m2 x2 t3.toList)) A (fsN s1 m1 x1 s2 m2 x2 t3.toList) c) ∧ w19.heap.size ≤ X ∧ X < wx.heap.size)
  case first =>
    have HSC : Hid (∀ z : World, Below w19.heap.size w19 z → (Below w19.heap.size w19 z ∧ z.cell? ⟨w.heap.size, 0, none⟩ = some (.int .i64 s1) ∧ z.cell? ⟨w.heap.size, 1, none⟩ = some (.slice A1 m1 c1) ∧ z.cell? ⟨w.heap.size + 1, 0, none⟩ = some (.int .i64 s2) ∧ z.cell? ⟨w.heap.size + 1, 1, none⟩ = some (.slice A2 m2 c2))) := fun z hz => ⟨hz, up_ hz e1a_19, up_ hz e1b_19, up_ hz e2a_19, up_ hz e2b_19⟩
    have HZ1 : Hid (Below w19.heap.size w19 w19.drew) := (Below.refl _ _).drew
    have HZ2 : Hid (Below w19.heap.size w19 ((w19.alloc (Obj.cells #[Value.int IntKind.i64 0, Value.slice none 0 0] 30)).drew)) := ((Below.refl _ _).alloc (Nat.le_refl _) _).drew
    have HN2 : Hid (GC ((w19.alloc (Obj.cells #[Value.int IntKind.i64 0, Value.slice none 0 0] 30)).drew) w19.heap.size 0 none 0 0) := (GC.new _ _ _ _ _).drew
    have KR1 : Hid (∀ z : World, Below w19.heap.size w19 z → _) := fun z hz => toGraph_any s1 A1 m1 c1 x1 z _ (h1.keep (HB.out.trans (hz.mono HB.out.size)) (Nat.le_refl _)) (Nat.le_trans HB.out.size hz.size) (by omega)
    have KR2 : Hid (∀ z : World, Below w19.heap.size w19 z → _) := fun z hz => toGraph_any s2 A2 m2 c2 x2 z _ (h2.keep (HB.out.trans (hz.mono HB.out.size)) (Nat.le_refl _)) (Nat.le_trans HB.out.size hz.size) (by omega)
    have HS1 := Lib.hid (HSC.out _ HZ1.out)
    have HS2 := Lib.hid (HSC.out _ HZ2.out)
    go_wp2
    go_region_held3 (fun z => Below w19.heap.size w19 z ∧ z.cell? ⟨w.heap.size, 0, none⟩ = some (.int .i64 s1) ∧ z.cell? ⟨w.heap.size, 1, none⟩ = some (.slice A1 m1 c1) ∧ z.cell? ⟨w.heap.size + 1, 0, none⟩ = some (.int .i64 s2) ∧ z.cell? ⟨w.heap.size + 1, 1, none⟩ = some (.slice A2 m2 c2))
      (first | exact HS1.out | exact HS2.out | exact HSC.out _ hz1y | exact HSC.out _ (bl_alloc hz1y) | exact HSC.out _ hz2y | exact HSC.out _ (bl_alloc hz2y) | exact HSC.out _ hz5 | exact HSC.out _ (bl_alloc hz5) | exact HSC.out _ (bl_set hz5 hq5) | exact HSC.out _ (bl_set (bl_set hz5 hq5) hq5) | fail)
      (first | (go_at_call 21; ((with_reducible refine (KR1.out _ HZ1.out).mono ?_); rintro e y1 ⟨ky1, hky1, rfl, hoy1, hy1⟩; have hz1y := bl_trans HZ1.out hy1)) | (go_at_call 21; ((with_reducible refine (KR1.out _ HZ2.out).mono ?_); rintro e y1 ⟨ky1, hky1, rfl, hoy1, hy1⟩; have hz1y := bl_trans HZ2.out hy1; have hn5 := HN2.out.keep hy1; have hq5 : w19.heap.size ≤ w19.heap.size := Nat.le_refl _; have hl5 : w19.heap.size + 1 ≤ (w19.alloc (Obj.cells #[Value.int IntKind.i64 0, Value.slice none 0 0] 30)).drew.heap.size := (by show _ ≤ (w19.alloc _).heap.size; simp); replace hl5 := Nat.le_trans hl5 hy1.size)) | (go_at_call 21; ((with_reducible refine (KR2.out _ hz1y).mono ?_); rintro e y2 ⟨ky2, hky2, rfl, hoy2, hy2⟩; have hz2y := bl_trans hz1y hy2; replace hn5 := hn5.keep hy2; replace hl5 := Nat.le_trans hl5 hy2.size)) | (go_at_call 21; ((with_reducible refine (KR2.out _ hz1y).mono ?_); rintro e y2 ⟨ky2, hky2, rfl, hoy2, hy2⟩; have hz2y := bl_trans hz1y hy2)) | (go_at_call 21; ((with_reducible refine (KR2.out _ (bl_alloc hz1y)).mono ?_); rintro e y2 ⟨ky2, hky2, rfl, hoy2, hy2⟩; have hz2y := bl_trans (bl_alloc hz1y) hy2; have hn5 := (GC.new y1 0 none 0 0).keep hy2; have hq5 : w19.heap.size ≤ y1.heap.size := hz1y.size; have hl5 : y1.heap.size + 1 ≤ (y1.alloc (Obj.cells #[Value.int IntKind.i64 0, Value.slice none 0 0] 30)).heap.size := (by simp); replace hl5 := Nat.le_trans hl5 hy2.size)) | (go_at_call 42; ((with_reducible refine (FindSandwich_iL s1 _ m1 m1 x1 s2 _ m2 m2 x2 t3 _ _ (by first|exact hoy1.rd.keep hy2 hy2.size|exact (hoy1.rd.keep hy2 hy2.size).keep ((Below.refl _ _).alloc (Nat.le_refl _) (Obj.cells #[Value.int IntKind.i64 0, Value.slice none 0 0] 30)) (by simp)|exact (hoy1.rd.keep ((Below.refl _ _).alloc (Nat.le_refl _) (Obj.cells #[Value.int IntKind.i64 0, Value.slice none 0 0] 30)) (by simp)).keep hy2 hy2.size) (by first|exact hoy2.rd|exact hoy2.rd.keep ((Below.refl _ _).alloc (Nat.le_refl _) (Obj.cells #[Value.int IntKind.i64 0, Value.slice none 0 0] 30)) (by simp)) (Nat.le_refl _) (by omega) (by omega) (by omega)).mono ?_); rintro e w5 ⟨A5, c5, rfl, hO5, hb5⟩; have hz5 := bl_trans hz2y hb5; replace hn5 := hn5.keep hb5; have n0 := hn5.c0; have n1 := hn5.c1; have n2 := hn5.f0; have n3 := hn5.f1)) | (go_at_call 42; ((with_reducible refine (FindSandwich_iL s1 _ m1 m1 x1 s2 _ m2 m2 x2 t3 _ _ (by first|exact hoy1.rd.keep hy2 hy2.size|exact (hoy1.rd.keep hy2 hy2.size).keep ((Below.refl _ _).alloc (Nat.le_refl _) (Obj.cells #[Value.int IntKind.i64 0, Value.slice none 0 0] 30)) (by simp)|exact (hoy1.rd.keep ((Below.refl _ _).alloc (Nat.le_refl _) (Obj.cells #[Value.int IntKind.i64 0, Value.slice none 0 0] 30)) (by simp)).keep hy2 hy2.size) (by first|exact hoy2.rd|exact hoy2.rd.keep ((Below.refl _ _).alloc (Nat.le_refl _) (Obj.cells #[Value.int IntKind.i64 0, Value.slice none 0 0] 30)) (by simp)) (Nat.le_refl _) (by omega) (by omega) (by omega)).mono ?_); rintro e w5 ⟨A5, c5, rfl, hO5, hb5⟩; have hz5 := bl_trans hz2y hb5)) | (go_at_call 42; ((with_reducible refine (FindSandwich_iL s1 _ m1 m1 x1 s2 _ m2 m2 x2 t3 _ _ (by first|exact hoy1.rd.keep hy2 hy2.size|exact (hoy1.rd.keep hy2 hy2.size).keep ((Below.refl _ _).alloc (Nat.le_refl _) (Obj.cells #[Value.int IntKind.i64 0, Value.slice none 0 0] 30)) (by simp)|exact (hoy1.rd.keep ((Below.refl _ _).alloc (Nat.le_refl _) (Obj.cells #[Value.int IntKind.i64 0, Value.slice none 0 0] 30)) (by simp)).keep hy2 hy2.size) (by first|exact hoy2.rd|exact hoy2.rd.keep ((Below.refl _ _).alloc (Nat.le_refl _) (Obj.cells #[Value.int IntKind.i64 0, Value.slice none 0 0] 30)) (by simp)) (Nat.le_refl _) (by omega) (by omega) (by omega)).mono ?_); rintro e w5 ⟨A5, c5, rfl, hO5, hb5⟩; have hz5 := bl_trans (bl_alloc hz2y) hb5; have hn5 := (GC.new y2 0 none 0 0).keep hb5; have hq5 : w19.heap.size ≤ y2.heap.size := hz2y.size; have hl5 : y2.heap.size + 1 ≤ (y2.alloc (Obj.cells #[Value.int IntKind.i64 0, Value.slice none 0 0] 30)).heap.size := (by simp); have n0 := hn5.c0; have n1 := hn5.c1; have n2 := hn5.f0; have n3 := hn5.f1)))
    all_goals
      first
        | (obtain ⟨W5, hW5⟩ : ∃ W5 : World, W5 = ((w5.setCell ⟨w19.heap.size, 0, none⟩ (.int .i64 ((fsZ s1 m1 x1 s2 m2 x2 t3.toList)))).setCell ⟨w19.heap.size, 1, none⟩ (.slice A5 ((fsN s1 m1 x1 s2 m2 x2 t3.toList)) c5)) := ⟨_, rfl⟩
           rw [← hW5]
           have HQ5 : Hid (GC W5 w19.heap.size ((fsZ s1 m1 x1 s2 m2 x2 t3.toList)) A5 ((fsN s1 m1 x1 s2 m2 x2 t3.toList)) c5) := by rw [hW5]; exact hn5.set
           have HZ5 : Hid (Below w19.heap.size w19 W5) := by rw [hW5]; exact bl_set (bl_set hz5 hq5) hq5
           have HO5 : Hid (Own W5 w19.heap.size W5.heap.size 3 1 A5 ((fsN s1 m1 x1 s2 m2 x2 t3.toList)) c5 (fun j => .int .i64 ((fsX s1 m1 x1 s2 m2 x2 t3.toList) j))) := by
             rw [hW5]
             exact (hO5.keep (fr2 _ w19.heap.size _ _) (.inr hl5)).mono (Nat.le_trans (Nat.le_succ_of_le hq5) hl5) (by simp [World.setCell])
           have HX5 : Hid (w19.heap.size ≤ w19.heap.size) := hq5
           clear hW5 hn5 n0 n1 n2 n3 hO5 hq5 hl5)
        | (obtain ⟨W5, hW5⟩ : ∃ W5 : World, W5 = ((w5.setCell ⟨y1.heap.size, 0, none⟩ (.int .i64 ((fsZ s1 m1 x1 s2 m2 x2 t3.toList)))).setCell ⟨y1.heap.size, 1, none⟩ (.slice A5 ((fsN s1 m1 x1 s2 m2 x2 t3.toList)) c5)) := ⟨_, rfl⟩
           rw [← hW5]
           have HQ5 : Hid (GC W5 y1.heap.size ((fsZ s1 m1 x1 s2 m2 x2 t3.toList)) A5 ((fsN s1 m1 x1 s2 m2 x2 t3.toList)) c5) := by rw [hW5]; exact hn5.set
           have HZ5 : Hid (Below w19.heap.size w19 W5) := by rw [hW5]; exact bl_set (bl_set hz5 hq5) hq5
           have HO5 : Hid (Own W5 w19.heap.size W5.heap.size 3 1 A5 ((fsN s1 m1 x1 s2 m2 x2 t3.toList)) c5 (fun j => .int .i64 ((fsX s1 m1 x1 s2 m2 x2 t3.toList) j))) := by
             rw [hW5]
             exact (hO5.keep (fr2 _ y1.heap.size _ _) (.inr hl5)).mono (Nat.le_trans (Nat.le_succ_of_le hq5) hl5) (by simp [World.setCell])
           have HX5 : Hid (w19.heap.size ≤ y1.heap.size) := hq5
           clear hW5 hn5 n0 n1 n2 n3 hO5 hq5 hl5)
        | (obtain ⟨W5, hW5⟩ : ∃ W5 : World, W5 = ((w5.setCell ⟨y2.heap.size, 0, none⟩ (.int .i64 ((fsZ s1 m1 x1 s2 m2 x2 t3.toList)))).setCell ⟨y2.heap.size, 1, none⟩ (.slice A5 ((fsN s1 m1 x1 s2 m2 x2 t3.toList)) c5)) := ⟨_, rfl⟩
           rw [← hW5]
           have HQ5 : Hid (GC W5 y2.heap.size ((fsZ s1 m1 x1 s2 m2 x2 t3.toList)) A5 ((fsN s1 m1 x1 s2 m2 x2 t3.toList)) c5) := by rw [hW5]; exact hn5.set
           have HZ5 : Hid (Below w19.heap.size w19 W5) := by rw [hW5]; exact bl_set (bl_set hz5 hq5) hq5
           have HO5 : Hid (Own W5 w19.heap.size W5.heap.size 3 1 A5 ((fsN s1 m1 x1 s2 m2 x2 t3.toList)) c5 (fun j => .int .i64 ((fsX s1 m1 x1 s2 m2 x2 t3.toList) j))) := by
             rw [hW5]
             exact (hO5.keep (fr2 _ y2.heap.size _ _) (.inr hl5)).mono (Nat.le_trans (Nat.le_succ_of_le hq5) hl5) (by simp [World.setCell])
           have HX5 : Hid (w19.heap.size ≤ y2.heap.size) := hq5
           clear hW5 hn5 n0 n1 n2 n3 hO5 hq5 hl5)
        | (obtain ⟨W5, hW5⟩ : ∃ W5 : World, W5 = (w5.alloc (Obj.cells #[.int .i64 ((fsZ s1 m1 x1 s2 m2 x2 t3.toList)), .slice A5 ((fsN s1 m1 x1 s2 m2 x2 t3.toList)) c5] 30)) := ⟨_, rfl⟩
           rw [← hW5]
           have HQ5 : Hid (GC W5 w5.heap.size ((fsZ s1 m1 x1 s2 m2 x2 t3.toList)) A5 ((fsN s1 m1 x1 s2 m2 x2 t3.toList)) c5) := by rw [hW5]; exact GC.new _ _ _ _ _
           have HZ5 : Hid (Below w19.heap.size w19 W5) := by rw [hW5]; exact bl_alloc hz5
           have HO5 : Hid (Own W5 w19.heap.size W5.heap.size 3 1 A5 ((fsN s1 m1 x1 s2 m2 x2 t3.toList)) c5 (fun j => .int .i64 ((fsX s1 m1 x1 s2 m2 x2 t3.toList) j))) := by rw [hW5]; exact (hO5.alloc _).mono (by first | exact Nat.le_refl _ | (have := hz2y.size; omega)) (by simp)
           have HX5 : Hid (w19.heap.size ≤ w5.heap.size) := hz5.size
           clear hW5 hO5)
        | fail
    all_goals clear hz5 hb5 HSC HZ1 HZ2 HN2 HS1 HS2 hy1 hz1y hy2 hz2y KR1 KR2
    all_goals (go_wp2_with fail; go_meet; exact ⟨_, A5, c5, rfl, rfl, HZ5, HO5, HQ5, HX5.out, HQ5.out.lt⟩)
  case rest =>
  obtain ⟨Xh0, Ah0, ch0, rfl, rfl, hcb, hco, hcg, hcx, hcl⟩ := hcut
  obtain ⟨w20, hwn⟩ : ∃ z : World, z = wc := ⟨_, rfl⟩
  rw [← hwn] at hcb hco hcg hcl ⊢
  clear hwn
  have hb := hcb.out
  have y0 := hcg.out.c0
  have y1 := hcg.out.c1
  clear hcb hcg
  have zz := hb.size
  have e1a_20 := up hb e1a_19 z0_19
  have e1b_20 := up hb e1b_19 z0_19
  have e2a_20 := up hb e2a_19 z1_19
  have e2b_20 := up hb e2b_19 z1_19
  have bw00_20 := up hb bw00_19 zbw0_19
  have bw01_20 := up hb bw01_19 zbw0_19
  have bx10_20 := up hb bx10_19 zbx1_19
  have bx11_20 := up hb bx11_19 zbx1_19
  have bx20_20 := up hb bx20_19 zbx2_19
  have bx21_20 := up hb bx21_19 zbx2_19
  have bg00_20 := up hb bg00_19 zbg0_19
  have bg01_20 := up hb bg01_19 zbg0_19
  have z0_20 := Nat.lt_of_lt_of_le z0_19 zz
  have z1_20 := Nat.lt_of_lt_of_le z1_19 zz
  have zbw0_20 := Nat.lt_of_lt_of_le zbw0_19 zz
  have zbx1_20 := Nat.lt_of_lt_of_le zbx1_19 zz
  have zbx2_20 := Nat.lt_of_lt_of_le zbx2_19 zz
  have zbg0_20 := Nat.lt_of_lt_of_le zbg0_19 zz
  replace Ow0 := Lib.hid (Ow0.out.keepB hb (by have := SZ.out; omega))
  replace Og0 := Lib.hid (Og0.out.keepB hb (by have := SZ.out; omega))
  replace HB := Lib.hid (HB.out.trans (hb.mono HB.out.size))
  replace SZ := Lib.hid (And.intro SZ.out zz)
  clear zz hb e1a_19 e1b_19 e2a_19 e2b_19 bw00_19 bw01_19 bx10_19 bx11_19 bx20_19 bx21_19 bg00_19 bg01_19 z0_19 z1_19 zbw0_19 zbx1_19 zbx2_19 zbg0_19
  replace SZ := Lib.hid (And.intro SZ.out (And.intro hcx hcl))
  clear hcx
  have bh00_20 := y0
  clear y0
  have bh01_20 := y1
  clear y1
  have zbh0_20 := hcl
  clear hcl
  have Oh0 := hco
  clear hco
  go_wp2_with fail
  refine (eqGraph_yes _ _ _ _ _ _ _ w20 w20.heap.size w20.heap.size (Oh0.out.rd.keep (Below.refl _ _) (by have := SZ.out; omega)) (Ow0.out.rd.keep (Below.refl _ _) (by have := SZ.out; omega)) (Nat.le_refl _) (Nat.le_refl _) (Nat.le_trans (fsN_le _ _ _ _ _ _ _) (by omega))).mono ?_
  rintro e w21 ⟨rfl, hb⟩
  have zz := hb.size
  have e1a_21 := up hb e1a_20 z0_20
  have e1b_21 := up hb e1b_20 z0_20
  have e2a_21 := up hb e2a_20 z1_20
  have e2b_21 := up hb e2b_20 z1_20
  have bw00_21 := up hb bw00_20 zbw0_20
  have bw01_21 := up hb bw01_20 zbw0_20
  have bx10_21 := up hb bx10_20 zbx1_20
  have bx11_21 := up hb bx11_20 zbx1_20
  have bx20_21 := up hb bx20_20 zbx2_20
  have bx21_21 := up hb bx21_20 zbx2_20
  have bg00_21 := up hb bg00_20 zbg0_20
  have bg01_21 := up hb bg01_20 zbg0_20
  have bh00_21 := up hb bh00_20 zbh0_20
  have bh01_21 := up hb bh01_20 zbh0_20
  have z0_21 := Nat.lt_of_lt_of_le z0_20 zz
  have z1_21 := Nat.lt_of_lt_of_le z1_20 zz
  have zbw0_21 := Nat.lt_of_lt_of_le zbw0_20 zz
  have zbx1_21 := Nat.lt_of_lt_of_le zbx1_20 zz
  have zbx2_21 := Nat.lt_of_lt_of_le zbx2_20 zz
  have zbg0_21 := Nat.lt_of_lt_of_le zbg0_20 zz
  have zbh0_21 := Nat.lt_of_lt_of_le zbh0_20 zz
  replace Ow0 := Lib.hid (Ow0.out.keepB hb (by have := SZ.out; omega))
  replace Og0 := Lib.hid (Og0.out.keepB hb (by have := SZ.out; omega))
  replace Oh0 := Lib.hid (Oh0.out.keepB hb (by have := SZ.out; omega))
  replace HB := Lib.hid (HB.out.trans (hb.mono HB.out.size))
  replace SZ := Lib.hid (And.intro SZ.out zz)
  clear zz hb e1a_20 e1b_20 e2a_20 e2b_20 bw00_20 bw01_20 bx10_20 bx11_20 bx20_20 bx21_20 bg00_20 bg01_20 bh00_20 bh01_20 z0_20 z1_20 zbw0_20 zbx1_20 zbx2_20 zbg0_20 zbh0_20
  go_wp2_with fail
  refine (heldGraph_yes _ _ _ _ (1 : Int) w21 _ Og0.out.rd (Nat.le_trans (fsN_le _ _ _ _ _ _ _) (by omega)) (by omega) (by omega) (by have := SZ.out; omega)).mono ?_
  rintro e w22 ⟨rfl, hb⟩
  have zz := hb.size
  have e1a_22 := up hb e1a_21 z0_21
  have e1b_22 := up hb e1b_21 z0_21
  have e2a_22 := up hb e2a_21 z1_21
  have e2b_22 := up hb e2b_21 z1_21
  have bw00_22 := up hb bw00_21 zbw0_21
  have bw01_22 := up hb bw01_21 zbw0_21
  have bx10_22 := up hb bx10_21 zbx1_21
  have bx11_22 := up hb bx11_21 zbx1_21
  have bx20_22 := up hb bx20_21 zbx2_21
  have bx21_22 := up hb bx21_21 zbx2_21
  have bg00_22 := up hb bg00_21 zbg0_21
  have bg01_22 := up hb bg01_21 zbg0_21
  have bh00_22 := up hb bh00_21 zbh0_21
  have bh01_22 := up hb bh01_21 zbh0_21
  have z0_22 := Nat.lt_of_lt_of_le z0_21 zz
  have z1_22 := Nat.lt_of_lt_of_le z1_21 zz
  have zbw0_22 := Nat.lt_of_lt_of_le zbw0_21 zz
  have zbx1_22 := Nat.lt_of_lt_of_le zbx1_21 zz
  have zbx2_22 := Nat.lt_of_lt_of_le zbx2_21 zz
  have zbg0_22 := Nat.lt_of_lt_of_le zbg0_21 zz
  have zbh0_22 := Nat.lt_of_lt_of_le zbh0_21 zz
  replace Ow0 := Lib.hid (Ow0.out.keepB hb (by have := SZ.out; omega))
  replace Og0 := Lib.hid (Og0.out.keepB hb (by have := SZ.out; omega))
  replace Oh0 := Lib.hid (Oh0.out.keepB hb (by have := SZ.out; omega))
  replace HB := Lib.hid (HB.out.trans (hb.mono HB.out.size))
  replace SZ := Lib.hid (And.intro SZ.out zz)
  clear zz hb e1a_21 e1b_21 e2a_21 e2b_21 bw00_21 bw01_21 bx10_21 bx11_21 bx20_21 bx21_21 bg00_21 bg01_21 bh00_21 bh01_21 z0_21 z1_21 zbw0_21 zbx1_21 zbx2_21 zbg0_21 zbh0_21
  go_wp2
  go_ret
  exact ⟨rfl, HB.out⟩

set_option maxRecDepth 100000 in
theorem lifted (os : Os) (started : os.Started) (H : Type) (enc : TypeId × Value → H) :
    ReturnsInHanded {} Tryz.checked os 11 .any (Rows.fnExactFindSandwichSpec.pre6 enc Tryz.prog Tryz.f11 Rows.fnExactFindSandwichRow.domain false) (Rows.fnExactFindSandwichSpec.post enc Tryz.prog Tryz.f11 false true false false) := by
  refine returnsInHanded_of_change (C := Tryz.checked) own started (by kernel_rfl) Tryz.func11
    (ChangeSpec.witness6 (enc := enc) (C := Tryz.checked) false ⟨#[], #[.agg #[.int .i64 0, .slice none 0 0], .agg #[.int .i64 0, .slice none 0 0], .string ⟨#[]⟩], []⟩ 8 (by kernel_rfl) (by kernel_rfl) (by kernel_rfl) (by kernel_rfl)) ?_
  intro W base args ds gs before hval0 hW hcnd _
  have hval : ∀ (j : Nat) t v, Tryz.f11.params[j]? = some t → args[j]? = some v → Value.okWide Tryz.prog W .any base t v := hval0
  have hW' := hW
  obtain ⟨p, q, hA0, hV, rfl, hfz, hnd⟩ := hW
  have hA : DataW.TrodAll enc Tryz.prog W 0 (fun _ => true) true Tryz.f11.params.toList args.toList ds p := hA0
  rw [Tryz.params11] at hA hval
  obtain ⟨v0, vs0, d0, ds0, p0, q0, hargs, rfl, rfl, l0, r0⟩ := trodAll_cons hA
  obtain ⟨v1, vs1, d1, ds1, p1, q1, rfl, rfl, rfl, l1, r1⟩ := trodAll_cons r0
  obtain ⟨v2, vs2, d2, ds2, p2, q2, rfl, rfl, rfl, l2, r2⟩ := trodAll_cons r1
  obtain ⟨rfl, rfl, rfl⟩ := trodAll_nil r2
  obtain rfl : args = #[v0, v1, v2] := by cases args; simp_all
  obtain ⟨rfl, rfl⟩ := trodVars_none hV
  have lt0 := places_lt l0
  obtain ⟨s1, A1, m1, c1, x1, rfl, h1, n1⟩ := open_graph (hval 0 24 v0 rfl rfl) l0
  have lt1 := places_lt l1
  obtain ⟨s2, A2, m2, c2, x2, rfl, h2, n2⟩ := open_graph (hval 1 24 v1 rfl rfl) l1
  have lt2 := places_lt l2
  obtain ⟨t3, rfl, n3⟩ := open_string_arg (hval 2 9 v2 rfl rfl) l2
  clear hA0 hval0
  refine (walk s1 A1 m1 c1 x1 s2 A2 m2 c2 x2 t3 W h1 n1 h2 n2 n3).mono fun e W' ⟨he, bel⟩ => ?_
  subst he
  exact ⟨_, rfl, _, _, _, [], _, [], hW', trodAll_mk1 (shut_bool Tryz.underlying4 _), (trodAll_cons_mk (Below.trod laidOut (by kernel_rfl) (of_decide_eq_true (by kernel_rfl)) l0 bel lt0) (trodAll_cons_mk (Below.trod laidOut (by kernel_rfl) (of_decide_eq_true (by kernel_rfl)) l1 bel lt1) (trodAll_cons_mk (Below.trod laidOut (by kernel_rfl) (of_decide_eq_true (by kernel_rfl)) l2 bel lt2) trodAll_mk0))), rfl, bel.frame _, fun h => by cases h⟩

theorem unf : Tryz.pinned.checked.prog.unfollowed 11 = true := unfollowed_of (closure_step (closure_step (closure_step (closure_step (closure_step (closure_step closure_self (h := 42) (by kernel_rfl)) (h := 116) (by kernel_rfl)) (h := 22) (by kernel_rfl)) (h := 90) (by kernel_rfl)) (h := 198) (by kernel_rfl)) (h := 221) (by kernel_rfl)) (by kernel_rfl)
theorem closed : joinedFacts Tryz.pinned.checked.prog 11 Tryz.f11 Rows.fnExactFindSandwichSpec Rows.fnExactFindSandwichRow = true := by
  unfold joinedFacts
  rw [inPlace_none (f := 11) all_own (by decide) (by decide), varsNamed_none (f := 11) all_own (by decide) (by decide), recurses_of unf, unf]
  kernel_rfl
theorem over : Rows.fnExactFindSandwichRow.holds Tryz.pinned (OpenSpec.ofChange Rows.fnExactFindSandwichSpec) :=
  OpenClaim.holds_of_wide 11 Tryz.f11 rfl rfl rfl rfl rfl rfl rfl ⟨rfl, rfl, rfl, rfl, rfl⟩ rfl rfl rfl rfl rfl (by kernel_rfl) Tryz.func11 closed
    (of_decide_eq_true (by kernel_rfl)) (by unfold Func.isWrapper; first | (rw [if_pos (by decide +kernel)]; kernel_rfl) | (rw [if_neg (by decide +kernel)]; exact ⟨rfl, rfl⟩))
    (fun os started H enc _ => lifted os started H enc)

/-- The statement. -/
theorem proved : Rows.FnExactFindSandwichSaid := over
#print axioms proved
end Go.Proofs.YtmkahbephidmbaaGreat.fnExactFindSandwich
