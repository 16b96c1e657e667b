/-
  The program's SmallestOutside answers as the reference's at every input: the law FnExactSmallestOutside answers true.
  No condition.
-/
import Derived.Test.YtmkahbephidmbaaGreatQhGreat
import Derived.Test.YtmkahbephidmbaaGreatQhSmL
import Derived.Test.YtmkahbephidmbaaGreatQhGA
import Derived.Test.YtmkahbephidmbaaGreatQhOptS
import Derived.Test.YtmkahbephidmbaaGreatQhNms
import Derived.Deep.RegionHeld3
namespace Go.Proofs.YtmkahbephidmbaaGreat.fnExactSmallestOutside
open Go.ChangeShapes Go.WideShapes Go.ChangeAt Go.RowKit

theorem le_drew {a : Nat} {w : World} (h : a ≤ w.heap.size) : a ≤ w.drew.heap.size := h
set_option maxRecDepth 100000 in
set_option maxHeartbeats 1600000 in
theorem walk (t1 : ByteArray) (i2 : Int) (w : World) (_n1 : t1.size ≤ maxLen)  :
    Calls Tryz.prog 9 #[.string t1, .int .i64 i2] w fun e w' => e = .returned (.bool true) ∧ Below w.heap.size w w' := by
  obtain ⟨w0, hW⟩ : ∃ W : World, W = w := ⟨_, rfl⟩
  have HB : Hid (Below w.heap.size w w0) := by rw [hW]; exact (Below.refl _ _)
  have SZ : Hid (w.heap.size + 0 ≤ w0.heap.size) := by rw [hW]; simp [Hid]
  have HW := Lib.hid hW
  clear hW
  go_enter Tryz.func9, Tryz.ntmps9
  unfold maxLen at _n1
  by_cases p1 : (1048576 : Int) < t1.size
  · go_wp2
    go_ret
    exact ⟨rfl, Below.refl _ _⟩
  go_wp2_with fail
  rw [← HW.out]
  clear HW
  refine (SmallestOutside_sL t1 i2 w0).mono ?_
  rintro e w1 ⟨Aw0, cw0, rfl, how0, hb⟩
  have Ow0 := Lib.hid how0
  clear how0
  have zz := hb.size
  replace HB := Lib.hid (HB.out.trans (hb.mono HB.out.size))
  replace SZ := Lib.hid (And.intro SZ.out zz)
  clear zz hb 
  obtain ⟨w2, hW⟩ : ∃ W : World, W = w1.alloc (Obj.cells #[.int .i64 ((smZ t1.toList i2)), .slice Aw0 ((smN t1.toList i2)) cw0] 30) := ⟨_, rfl⟩
  obtain ⟨Xw0, hX⟩ : ∃ X : Nat, X = w1.heap.size := ⟨_, rfl⟩
  have hb : Below w1.heap.size w1 w2 := by rw [hW]; exact (Below.refl _ _).alloc (Nat.le_refl _) _
  have y0 : w2.cell? ⟨Xw0, 0, none⟩ = some (.int .i64 ((smZ t1.toList i2))) := by rw [hW, hX]; simp [go_sem]
  have y1 : w2.cell? ⟨Xw0, 1, none⟩ = some (.slice Aw0 ((smN t1.toList i2)) cw0) := by rw [hW, hX]; simp [go_sem]
  have yz : Xw0 < w2.heap.size := by rw [hW, hX]; simp
  have ys : w1.heap.size ≤ Xw0 := by rw [hX]; exact Nat.le_refl _
  have HWx := Lib.hid hW
  have HX := Lib.hid hX
  clear hW hX
  have zz := hb.size
  replace Ow0 := Lib.hid (Ow0.out.keepB hb (by have := SZ.out; omega))
  replace HB := Lib.hid (HB.out.trans (hb.mono HB.out.size))
  replace SZ := Lib.hid (And.intro SZ.out zz)
  clear zz hb 
  replace SZ := Lib.hid (And.intro SZ.out (And.intro ys yz))
  clear ys
  have bw00_2 := y0
  clear y0
  have bw01_2 := y1
  clear y1
  have zbw0_2 := yz
  clear yz
  go_wp2_with fail
  rw [← HWx.out, ← HX.out]
  clear HWx HX 
  go_wp2_with fail
  refine (SmallestOutside_iL t1 i2 w2).mono ?_
  rintro e w3 ⟨Ag0, cg0, rfl, hog0, hb⟩
  have Og0 := Lib.hid hog0
  clear hog0
  have zz := hb.size
  have bw00_3 := up hb bw00_2 zbw0_2
  have bw01_3 := up hb bw01_2 zbw0_2
  have zbw0_3 := Nat.lt_of_lt_of_le zbw0_2 zz
  replace Ow0 := Lib.hid (Ow0.out.keepB hb (by have := SZ.out; omega))
  replace HB := Lib.hid (HB.out.trans (hb.mono HB.out.size))
  replace SZ := Lib.hid (And.intro SZ.out zz)
  clear zz hb bw00_2 bw01_2 zbw0_2
  obtain ⟨w4, hW⟩ : ∃ W : World, W = w3.alloc (Obj.cells #[.int .i64 ((smZ t1.toList i2)), .slice Ag0 ((smN t1.toList i2)) cg0] 30) := ⟨_, rfl⟩
  obtain ⟨Xg0, hX⟩ : ∃ X : Nat, X = w3.heap.size := ⟨_, rfl⟩
  have hb : Below w3.heap.size w3 w4 := by rw [hW]; exact (Below.refl _ _).alloc (Nat.le_refl _) _
  have y0 : w4.cell? ⟨Xg0, 0, none⟩ = some (.int .i64 ((smZ t1.toList i2))) := by rw [hW, hX]; simp [go_sem]
  have y1 : w4.cell? ⟨Xg0, 1, none⟩ = some (.slice Ag0 ((smN t1.toList i2)) cg0) := by rw [hW, hX]; simp [go_sem]
  have yz : Xg0 < w4.heap.size := by rw [hW, hX]; simp
  have ys : w3.heap.size ≤ Xg0 := by rw [hX]; exact Nat.le_refl _
  have HWx := Lib.hid hW
  have HX := Lib.hid hX
  clear hW hX
  have zz := hb.size
  have bw00_4 := up hb bw00_3 zbw0_3
  have bw01_4 := up hb bw01_3 zbw0_3
  have zbw0_4 := Nat.lt_of_lt_of_le zbw0_3 zz
  replace Ow0 := Lib.hid (Ow0.out.keepB hb (by have := SZ.out; omega))
  replace Og0 := Lib.hid (Og0.out.keepB hb (by have := SZ.out; omega))
  replace HB := Lib.hid (HB.out.trans (hb.mono HB.out.size))
  replace SZ := Lib.hid (And.intro SZ.out zz)
  clear zz hb 
  replace SZ := Lib.hid (And.intro SZ.out (And.intro ys yz))
  clear ys
  have bg00_4 := y0
  clear y0
  have bg01_4 := y1
  clear y1
  have zbg0_4 := yz
  clear yz
  go_wp2_with fail
  rw [← HWx.out, ← HX.out]
  clear HWx HX bw00_3 bw01_3 zbw0_3
  go_wp2_with fail
  refine (eqGraph_yes _ _ _ _ _ _ _ w4 w4.heap.size w4.heap.size (Og0.out.rd.keep (Below.refl _ _) (by have := SZ.out; omega)) (Ow0.out.rd.keep (Below.refl _ _) (by have := SZ.out; omega)) (Nat.le_refl _) (Nat.le_refl _) (Nat.le_trans (smN_le _ _) (by omega))).mono ?_
  rintro e w5 ⟨rfl, hb⟩
  have zz := hb.size
  have bw00_5 := up hb bw00_4 zbw0_4
  have bw01_5 := up hb bw01_4 zbw0_4
  have bg00_5 := up hb bg00_4 zbg0_4
  have bg01_5 := up hb bg01_4 zbg0_4
  have zbw0_5 := Nat.lt_of_lt_of_le zbw0_4 zz
  have zbg0_5 := Nat.lt_of_lt_of_le zbg0_4 zz
  replace Ow0 := Lib.hid (Ow0.out.keepB hb (by have := SZ.out; omega))
  replace Og0 := Lib.hid (Og0.out.keepB hb (by have := SZ.out; omega))
  replace HB := Lib.hid (HB.out.trans (hb.mono HB.out.size))
  replace SZ := Lib.hid (And.intro SZ.out zz)
  clear zz hb bw00_4 bw01_4 bg00_4 bg01_4 zbw0_4 zbg0_4
  go_wp2_with fail
  refine (markGraph_any _ _ _ _ _ (1 : Int) w5 _ _ Og0.out (Nat.le_trans (smN_le _ _) (by omega)) (by omega) (by omega) (by have := SZ.out; omega)).mono ?_
  rintro e w6 ⟨rfl, ho, hf⟩
  replace Og0 := Lib.hid (Own.marked ho)
  clear ho
  have zz := hf.size
  have bw00_6 := upFr hf bw00_5 zbw0_5 (by have := SZ.out; omega)
  have bw01_6 := upFr hf bw01_5 zbw0_5 (by have := SZ.out; omega)
  have bg00_6 := upFr hf bg00_5 zbg0_5 (by have := SZ.out; omega)
  have bg01_6 := upFr hf bg01_5 zbg0_5 (by have := SZ.out; omega)
  have zbw0_6 := Nat.lt_of_lt_of_le zbw0_5 zz
  have zbg0_6 := Nat.lt_of_lt_of_le zbg0_5 zz
  replace Ow0 := Lib.hid (Ow0.out.keep hf (by have := SZ.out; omega))
  replace HB := Lib.hid (HB.out.trans (hf.below (by have := SZ.out; have := HB.out.size; omega) HB.out.size))
  replace SZ := Lib.hid (And.intro SZ.out zz)
  clear zz hf bw00_5 bw01_5 bg00_5 bg01_5 zbw0_5 zbg0_5
  go_wp2_with fail
  refine (heldGraph_yes _ _ _ _ (1 : Int) w6 _ Og0.out.rd (Nat.le_trans (smN_le _ _) (by omega)) (by omega) (by omega) (by have := SZ.out; omega)).mono ?_
  rintro e w7 ⟨rfl, hb⟩
  have zz := hb.size
  have bw00_7 := up hb bw00_6 zbw0_6
  have bw01_7 := up hb bw01_6 zbw0_6
  have bg00_7 := up hb bg00_6 zbg0_6
  have bg01_7 := up hb bg01_6 zbg0_6
  have zbw0_7 := Nat.lt_of_lt_of_le zbw0_6 zz
  have zbg0_7 := Nat.lt_of_lt_of_le zbg0_6 zz
  replace Ow0 := Lib.hid (Ow0.out.keepB hb (by have := SZ.out; omega))
  replace Og0 := Lib.hid (Og0.out.keepB hb (by have := SZ.out; omega))
  replace HB := Lib.hid (HB.out.trans (hb.mono HB.out.size))
  replace SZ := Lib.hid (And.intro SZ.out zz)
  clear zz hb bw00_6 bw01_6 bg00_6 bg01_6 zbw0_6 zbg0_6
  go_wp2_with fail
  refine (SmallestOutside_iL t1 i2 w7).mono ?_
  rintro e w8 ⟨Ah0, ch0, rfl, hoh0, hb⟩
  have Oh0 := Lib.hid hoh0
  clear hoh0
  have zz := hb.size
  have bw00_8 := up hb bw00_7 zbw0_7
  have bw01_8 := up hb bw01_7 zbw0_7
  have bg00_8 := up hb bg00_7 zbg0_7
  have bg01_8 := up hb bg01_7 zbg0_7
  have zbw0_8 := Nat.lt_of_lt_of_le zbw0_7 zz
  have zbg0_8 := Nat.lt_of_lt_of_le zbg0_7 zz
  replace Ow0 := Lib.hid (Ow0.out.keepB hb (by have := SZ.out; omega))
  replace Og0 := Lib.hid (Og0.out.keepB hb (by have := SZ.out; omega))
  replace HB := Lib.hid (HB.out.trans (hb.mono HB.out.size))
  replace SZ := Lib.hid (And.intro SZ.out zz)
  clear zz hb bw00_7 bw01_7 bg00_7 bg01_7 zbw0_7 zbg0_7
  obtain ⟨w9, hW⟩ : ∃ W : World, W = w8.alloc (Obj.cells #[.int .i64 ((smZ t1.toList i2)), .slice Ah0 ((smN t1.toList i2)) ch0] 30) := ⟨_, rfl⟩
  obtain ⟨Xh0, hX⟩ : ∃ X : Nat, X = w8.heap.size := ⟨_, rfl⟩
  have hb : Below w8.heap.size w8 w9 := by rw [hW]; exact (Below.refl _ _).alloc (Nat.le_refl _) _
  have y0 : w9.cell? ⟨Xh0, 0, none⟩ = some (.int .i64 ((smZ t1.toList i2))) := by rw [hW, hX]; simp [go_sem]
  have y1 : w9.cell? ⟨Xh0, 1, none⟩ = some (.slice Ah0 ((smN t1.toList i2)) ch0) := by rw [hW, hX]; simp [go_sem]
  have yz : Xh0 < w9.heap.size := by rw [hW, hX]; simp
  have ys : w8.heap.size ≤ Xh0 := by rw [hX]; exact Nat.le_refl _
  have HWx := Lib.hid hW
  have HX := Lib.hid hX
  clear hW hX
  have zz := hb.size
  have bw00_9 := up hb bw00_8 zbw0_8
  have bw01_9 := up hb bw01_8 zbw0_8
  have bg00_9 := up hb bg00_8 zbg0_8
  have bg01_9 := up hb bg01_8 zbg0_8
  have zbw0_9 := Nat.lt_of_lt_of_le zbw0_8 zz
  have zbg0_9 := Nat.lt_of_lt_of_le zbg0_8 zz
  replace Ow0 := Lib.hid (Ow0.out.keepB hb (by have := SZ.out; omega))
  replace Og0 := Lib.hid (Og0.out.keepB hb (by have := SZ.out; omega))
  replace Oh0 := Lib.hid (Oh0.out.keepB hb (by have := SZ.out; omega))
  replace HB := Lib.hid (HB.out.trans (hb.mono HB.out.size))
  replace SZ := Lib.hid (And.intro SZ.out zz)
  clear zz hb 
  replace SZ := Lib.hid (And.intro SZ.out (And.intro ys yz))
  clear ys
  have bh00_9 := y0
  clear y0
  have bh01_9 := y1
  clear y1
  have zbh0_9 := yz
  clear yz
  go_wp2_with fail
  rw [← HWx.out, ← HX.out]
  clear HWx HX bw00_8 bw01_8 bg00_8 bg01_8 zbw0_8 zbg0_8
  go_wp2_with fail
  refine (eqGraph_yes _ _ _ _ _ _ _ w9 w9.heap.size w9.heap.size (Oh0.out.rd.keep (Below.refl _ _) (by have := SZ.out; omega)) (Ow0.out.rd.keep (Below.refl _ _) (by have := SZ.out; omega)) (Nat.le_refl _) (Nat.le_refl _) (Nat.le_trans (smN_le _ _) (by omega))).mono ?_
  rintro e w10 ⟨rfl, hb⟩
  have zz := hb.size
  have bw00_10 := up hb bw00_9 zbw0_9
  have bw01_10 := up hb bw01_9 zbw0_9
  have bg00_10 := up hb bg00_9 zbg0_9
  have bg01_10 := up hb bg01_9 zbg0_9
  have bh00_10 := up hb bh00_9 zbh0_9
  have bh01_10 := up hb bh01_9 zbh0_9
  have zbw0_10 := Nat.lt_of_lt_of_le zbw0_9 zz
  have zbg0_10 := Nat.lt_of_lt_of_le zbg0_9 zz
  have zbh0_10 := Nat.lt_of_lt_of_le zbh0_9 zz
  replace Ow0 := Lib.hid (Ow0.out.keepB hb (by have := SZ.out; omega))
  replace Og0 := Lib.hid (Og0.out.keepB hb (by have := SZ.out; omega))
  replace Oh0 := Lib.hid (Oh0.out.keepB hb (by have := SZ.out; omega))
  replace HB := Lib.hid (HB.out.trans (hb.mono HB.out.size))
  replace SZ := Lib.hid (And.intro SZ.out zz)
  clear zz hb bw00_9 bw01_9 bg00_9 bg01_9 bh00_9 bh01_9 zbw0_9 zbg0_9 zbh0_9
  go_wp2_with fail
  refine (heldGraph_yes _ _ _ _ (1 : Int) w10 _ Og0.out.rd (Nat.le_trans (smN_le _ _) (by omega)) (by omega) (by omega) (by have := SZ.out; omega)).mono ?_
  rintro e w11 ⟨rfl, hb⟩
  have zz := hb.size
  have bw00_11 := up hb bw00_10 zbw0_10
  have bw01_11 := up hb bw01_10 zbw0_10
  have bg00_11 := up hb bg00_10 zbg0_10
  have bg01_11 := up hb bg01_10 zbg0_10
  have bh00_11 := up hb bh00_10 zbh0_10
  have bh01_11 := up hb bh01_10 zbh0_10
  have zbw0_11 := Nat.lt_of_lt_of_le zbw0_10 zz
  have zbg0_11 := Nat.lt_of_lt_of_le zbg0_10 zz
  have zbh0_11 := Nat.lt_of_lt_of_le zbh0_10 zz
  replace Ow0 := Lib.hid (Ow0.out.keepB hb (by have := SZ.out; omega))
  replace Og0 := Lib.hid (Og0.out.keepB hb (by have := SZ.out; omega))
  replace Oh0 := Lib.hid (Oh0.out.keepB hb (by have := SZ.out; omega))
  replace HB := Lib.hid (HB.out.trans (hb.mono HB.out.size))
  replace SZ := Lib.hid (And.intro SZ.out zz)
  clear zz hb bw00_10 bw01_10 bg00_10 bg01_10 bh00_10 bh01_10 zbw0_10 zbg0_10 zbh0_10
  go_wp2
  go_ret
  exact ⟨rfl, HB.out⟩

set_option maxRecDepth 100000 in
theorem lifted (os : Os) (started : os.Started) (H : Type) (enc : TypeId × Value → H) :
    ReturnsInHanded {} Tryz.checked os 9 .any (Rows.fnExactSmallestOutsideSpec.pre6 enc Tryz.prog Tryz.f9 Rows.fnExactSmallestOutsideRow.domain false) (Rows.fnExactSmallestOutsideSpec.post enc Tryz.prog Tryz.f9 false true false false) := by
  refine returnsInHanded_of_change (C := Tryz.checked) own started (by kernel_rfl) Tryz.func9
    (ChangeSpec.witness6 (enc := enc) (C := Tryz.checked) false ⟨#[], #[.string ⟨#[]⟩, .int .i64 0], []⟩ 8 (by kernel_rfl) (by kernel_rfl) (by kernel_rfl) (by kernel_rfl)) ?_
  intro W base args ds gs before hval0 hW hcnd _
  have hval : ∀ (j : Nat) t v, Tryz.f9.params[j]? = some t → args[j]? = some v → Value.okWide Tryz.prog W .any base t v := hval0
  have hW' := hW
  obtain ⟨p, q, hA0, hV, rfl, hfz, hnd⟩ := hW
  have hA : DataW.TrodAll enc Tryz.prog W 0 (fun _ => true) true Tryz.f9.params.toList args.toList ds p := hA0
  rw [Tryz.params9] at hA hval
  obtain ⟨v0, vs0, d0, ds0, p0, q0, hargs, rfl, rfl, l0, r0⟩ := trodAll_cons hA
  obtain ⟨v1, vs1, d1, ds1, p1, q1, rfl, rfl, rfl, l1, r1⟩ := trodAll_cons r0
  obtain ⟨rfl, rfl, rfl⟩ := trodAll_nil r1
  obtain rfl : args = #[v0, v1] := by cases args; simp_all
  obtain ⟨rfl, rfl⟩ := trodVars_none hV
  have lt0 := places_lt l0
  obtain ⟨t1, rfl, n1⟩ := open_string_arg (hval 0 9 v0 rfl rfl) l0
  have lt1 := places_lt l1
  obtain ⟨i2, rfl⟩ := open_int_arg (hval 1 3 v1 rfl rfl) l1
  clear hA0 hval0
  refine (walk t1 i2 W n1).mono fun e W' ⟨he, bel⟩ => ?_
  subst he
  exact ⟨_, rfl, _, _, _, [], _, [], hW', trodAll_mk1 (shut_bool Tryz.underlying4 _), (trodAll_cons_mk (Below.trod laidOut (by kernel_rfl) (of_decide_eq_true (by kernel_rfl)) l0 bel lt0) (trodAll_cons_mk (Below.trod laidOut (by kernel_rfl) (of_decide_eq_true (by kernel_rfl)) l1 bel lt1) trodAll_mk0)), rfl, bel.frame _, fun h => by cases h⟩

theorem unf : Tryz.pinned.checked.prog.unfollowed 9 = true := unfollowed_of (closure_step (closure_step (closure_step (closure_step (closure_step closure_self (h := 37) (by kernel_rfl)) (h := 22) (by kernel_rfl)) (h := 90) (by kernel_rfl)) (h := 198) (by kernel_rfl)) (h := 221) (by kernel_rfl)) (by kernel_rfl)
theorem closed : joinedFacts Tryz.pinned.checked.prog 9 Tryz.f9 Rows.fnExactSmallestOutsideSpec Rows.fnExactSmallestOutsideRow = true := by
  unfold joinedFacts
  rw [inPlace_none (f := 9) all_own (by decide) (by decide), varsNamed_none (f := 9) all_own (by decide) (by decide), recurses_of unf, unf]
  kernel_rfl
theorem over : Rows.fnExactSmallestOutsideRow.holds Tryz.pinned (OpenSpec.ofChange Rows.fnExactSmallestOutsideSpec) :=
  OpenClaim.holds_of_wide 9 Tryz.f9 rfl rfl rfl rfl rfl rfl rfl ⟨rfl, rfl, rfl, rfl, rfl⟩ rfl rfl rfl rfl rfl (by kernel_rfl) Tryz.func9 closed
    (of_decide_eq_true (by kernel_rfl)) (by unfold Func.isWrapper; first | (rw [if_pos (by decide +kernel)]; kernel_rfl) | (rw [if_neg (by decide +kernel)]; exact ⟨rfl, rfl⟩))
    (fun os started H enc _ => lifted os started H enc)

/-- The statement. -/
theorem proved : Rows.FnExactSmallestOutsideSaid := over
#print axioms proved
end Go.Proofs.YtmkahbephidmbaaGreat.fnExactSmallestOutside
