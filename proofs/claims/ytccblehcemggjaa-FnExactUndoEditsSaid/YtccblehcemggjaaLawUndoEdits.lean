/-
  The program's UndoEdits answers as the reference's at every input: the law FnExactUndoEdits answers true.
  No condition.
-/
import Derived.Test.YtccblehcemggjaaLawEdit
import Derived.Test.YtccblehcemggjaaOpen2
import Derived.Deep.RegionHeld3
namespace Go.Proofs.Ytccblehcemggjaa.fnExactUndoEdits
open Go.ChangeShapes Go.WideShapes Go.ChangeAt Go.RowKit

set_option maxRecDepth 100000 in
set_option maxHeartbeats 1600000 in
theorem walk (A1 : Option Addr) (m1 : Nat) (c1 : Nat) (a1 : Nat → Bool) (v1 : Nat → Int) (u1 : Nat → Int) (w : World) (h1 : RdE w w.heap.size A1 m1 c1 a1 v1 u1) (n1 : m1 ≤ maxLen) :
    Calls Try.prog 5 #[.slice A1 m1 c1] w fun e w' => e = .returned (.bool true) ∧ Below w.heap.size w w' := by
  obtain ⟨w0, hW⟩ : ∃ W : World, W = w := ⟨_, rfl⟩
  have HB : Hid (Below w.heap.size w w0) := by rw [hW]; exact (Below.refl _ _)
  have SZ : Hid (w.heap.size + 0 ≤ w0.heap.size) := by rw [hW]; simp [Hid]
  have HW := Lib.hid hW
  clear hW
  go_enter Try.func5, Try.ntmps5
  go_wp2_with fail
  rw [← HW.out]
  clear HW
  refine (szEditS_max A1 m1 c1 ((1048576 : Int)) w0 n1 (by omega) (by omega)).mono ?_
  rintro e w' ⟨rfl, rfl⟩
  by_cases p1 : (1048576 : Int) < m1
  · have q1 : szl ((1048576 : Int)) m1 < 0 := by unfold szl; rw [if_pos p1]; omega
    clear p1
    go_wp2
    go_ret
    exact ⟨rfl, HB.out⟩
  have q1 : szl ((1048576 : Int)) m1 = (1048576 : Int) - m1 := by unfold szl; rw [if_neg p1]
  rw [q1]
  clear q1 n1
  go_wp2_with fail
  refine (toEditS_any A1 m1 c1 a1 v1 u1 _ _ (h1.keep HB.out (Nat.le_refl _)) HB.out.size (by omega)).mono ?_
  rintro e w1 ⟨ky1, hky1, rfl, hoy1, hb⟩
  have Oy1 := Lib.hid hoy1
  clear hoy1
  have zz := hb.size
  replace HB := Lib.hid (HB.out.trans (hb.mono HB.out.size))
  replace SZ := Lib.hid (And.intro SZ.out zz)
  clear zz hb 
  clear hky1
  go_wp2_with fail
  refine (UndoEdits_s _ m1 m1 a1 v1 u1 w1 w1.heap.size (Oy1.out.rdE.keep (Below.refl _ _) (by have := SZ.out; omega)) (Nat.le_refl _) (by omega) ).mono ?_
  rintro e w2 ⟨Aw0, cw0, rfl, how0, hb⟩
  have Ow0 := Lib.hid how0
  clear how0
  have zz := hb.size
  replace Oy1 := Lib.hid (Oy1.out.keepB hb (by have := SZ.out; omega))
  replace HB := Lib.hid (HB.out.trans (hb.mono HB.out.size))
  replace SZ := Lib.hid (And.intro SZ.out zz)
  clear zz hb 
  clear Oy1
  go_wp2_with fail
  refine (toEditS_any A1 m1 c1 a1 v1 u1 _ _ (h1.keep HB.out (Nat.le_refl _)) HB.out.size (by omega)).mono ?_
  rintro e w3 ⟨kx1, hkx1, rfl, hox1, hb⟩
  have Ox1 := Lib.hid hox1
  clear hox1
  have zz := hb.size
  replace Ow0 := Lib.hid (Ow0.out.keepB hb (by have := SZ.out; omega))
  replace HB := Lib.hid (HB.out.trans (hb.mono HB.out.size))
  replace SZ := Lib.hid (And.intro SZ.out zz)
  clear zz hb 
  clear hkx1
  go_wp2_with fail
  refine (UndoEdits_i _ m1 m1 a1 v1 u1 w3 w3.heap.size (Ox1.out.rdE.keep (Below.refl _ _) (by have := SZ.out; omega)) (Nat.le_refl _) (by omega) ).mono ?_
  rintro e w4 ⟨Ag0, cg0, rfl, hog0, hb⟩
  have Og0 := Lib.hid hog0
  clear hog0
  have zz := hb.size
  replace Ow0 := Lib.hid (Ow0.out.keepB hb (by have := SZ.out; omega))
  replace Ox1 := Lib.hid (Ox1.out.keepB hb (by have := SZ.out; omega))
  replace HB := Lib.hid (HB.out.trans (hb.mono HB.out.size))
  replace SZ := Lib.hid (And.intro SZ.out zz)
  clear zz hb 
  go_wp2_with fail
  refine (eqEditS_yes _ _ _ _ _ _ _ _ w4 w4.heap.size w4.heap.size (Og0.out.rdE.keep (Below.refl _ _) (by have := SZ.out; omega)) (Ow0.out.rdE.keep (Below.refl _ _) (by have := SZ.out; omega)) (Nat.le_refl _) (Nat.le_refl _) (by omega)).mono ?_
  rintro e w5 ⟨rfl, hb⟩
  have zz := hb.size
  replace Ow0 := Lib.hid (Ow0.out.keepB hb (by have := SZ.out; omega))
  replace Ox1 := Lib.hid (Ox1.out.keepB hb (by have := SZ.out; omega))
  replace Og0 := Lib.hid (Og0.out.keepB hb (by have := SZ.out; omega))
  replace HB := Lib.hid (HB.out.trans (hb.mono HB.out.size))
  replace SZ := Lib.hid (And.intro SZ.out zz)
  clear zz hb 
  go_wp2_with fail
  refine (toEditS_any A1 m1 c1 a1 v1 u1 _ _ (h1.keep HB.out (Nat.le_refl _)) HB.out.size (by omega)).mono ?_
  rintro e w6 ⟨kt1, hkt1, rfl, hot1, hb⟩
  have Ot1 := Lib.hid hot1
  clear hot1
  have zz := hb.size
  replace Ow0 := Lib.hid (Ow0.out.keepB hb (by have := SZ.out; omega))
  replace Ox1 := Lib.hid (Ox1.out.keepB hb (by have := SZ.out; omega))
  replace Og0 := Lib.hid (Og0.out.keepB hb (by have := SZ.out; omega))
  replace HB := Lib.hid (HB.out.trans (hb.mono HB.out.size))
  replace SZ := Lib.hid (And.intro SZ.out zz)
  clear zz hb 
  clear hkt1
  go_wp2_with fail
  refine (eqEditS_yes _ _ _ _ _ _ _ _ w6 w6.heap.size w6.heap.size (Ox1.out.rdE.keep (Below.refl _ _) (by have := SZ.out; omega)) (Ot1.out.rdE.keep (Below.refl _ _) (by have := SZ.out; omega)) (Nat.le_refl _) (Nat.le_refl _) (by omega)).mono ?_
  rintro e w7 ⟨rfl, hb⟩
  have zz := hb.size
  replace Ow0 := Lib.hid (Ow0.out.keepB hb (by have := SZ.out; omega))
  replace Ox1 := Lib.hid (Ox1.out.keepB hb (by have := SZ.out; omega))
  replace Og0 := Lib.hid (Og0.out.keepB hb (by have := SZ.out; omega))
  replace Ot1 := Lib.hid (Ot1.out.keepB hb (by have := SZ.out; omega))
  replace HB := Lib.hid (HB.out.trans (hb.mono HB.out.size))
  replace SZ := Lib.hid (And.intro SZ.out zz)
  clear zz hb 
  clear Ot1
  go_wp2_with fail
  refine (markEditS_any _ _ _ _ _ _ (1 : Int) w7 _ _ Ox1.out (by omega) (by omega) (by omega)).mono ?_
  rintro e w8 ⟨rfl, ho, hf⟩
  replace Ox1 := Lib.hid (Own.markedE ho)
  clear ho
  have zz := hf.size
  replace Ow0 := Lib.hid (Ow0.out.keep hf (by have := SZ.out; omega))
  replace Og0 := Lib.hid (Og0.out.keep hf (by have := SZ.out; omega))
  replace HB := Lib.hid (HB.out.trans (hf.below (by have := SZ.out; have := HB.out.size; omega) HB.out.size))
  replace SZ := Lib.hid (And.intro SZ.out zz)
  clear zz hf 
  clear Ox1
  go_wp2_with fail
  refine (eqEditS_yes _ _ _ _ _ _ _ _ w8 w8.heap.size w8.heap.size (Og0.out.rdE.keep (Below.refl _ _) (by have := SZ.out; omega)) (Ow0.out.rdE.keep (Below.refl _ _) (by have := SZ.out; omega)) (Nat.le_refl _) (Nat.le_refl _) (by omega)).mono ?_
  rintro e w9 ⟨rfl, hb⟩
  have zz := hb.size
  replace Ow0 := Lib.hid (Ow0.out.keepB hb (by have := SZ.out; omega))
  replace Og0 := Lib.hid (Og0.out.keepB hb (by have := SZ.out; omega))
  replace HB := Lib.hid (HB.out.trans (hb.mono HB.out.size))
  replace SZ := Lib.hid (And.intro SZ.out zz)
  clear zz hb 
  go_wp2_with fail
  refine (markEditS_any _ _ _ _ _ _ (1 : Int) w9 _ _ Og0.out (by omega) (by omega) (by omega)).mono ?_
  rintro e w10 ⟨rfl, ho, hf⟩
  replace Og0 := Lib.hid (Own.markedE ho)
  clear ho
  have zz := hf.size
  replace Ow0 := Lib.hid (Ow0.out.keep hf (by have := SZ.out; omega))
  replace HB := Lib.hid (HB.out.trans (hf.below (by have := SZ.out; have := HB.out.size; omega) HB.out.size))
  replace SZ := Lib.hid (And.intro SZ.out zz)
  clear zz hf 
  go_wp2_with fail
  refine (heldEditS_yes _ _ _ (1 : Int) w10 _ Og0.out.rdE (by omega) (by omega) (by omega)).mono ?_
  rintro e w' ⟨rfl, rfl⟩
  go_wp2_with fail
  refine (toEditS_any A1 m1 c1 a1 v1 u1 _ _ (h1.keep HB.out (Nat.le_refl _)) HB.out.size (by omega)).mono ?_
  rintro e w11 ⟨ky1, hky1, rfl, hoy1, hb⟩
  have Oy1 := Lib.hid hoy1
  clear hoy1
  have zz := hb.size
  replace Ow0 := Lib.hid (Ow0.out.keepB hb (by have := SZ.out; omega))
  replace Og0 := Lib.hid (Og0.out.keepB hb (by have := SZ.out; omega))
  replace HB := Lib.hid (HB.out.trans (hb.mono HB.out.size))
  replace SZ := Lib.hid (And.intro SZ.out zz)
  clear zz hb 
  clear hky1
  go_wp2_with fail
  refine (UndoEdits_i _ m1 m1 a1 v1 u1 w11 w11.heap.size (Oy1.out.rdE.keep (Below.refl _ _) (by have := SZ.out; omega)) (Nat.le_refl _) (by omega) ).mono ?_
  rintro e w12 ⟨Ah0, ch0, rfl, hoh0, hb⟩
  have Oh0 := Lib.hid hoh0
  clear hoh0
  have zz := hb.size
  replace Ow0 := Lib.hid (Ow0.out.keepB hb (by have := SZ.out; omega))
  replace Og0 := Lib.hid (Og0.out.keepB hb (by have := SZ.out; omega))
  replace Oy1 := Lib.hid (Oy1.out.keepB hb (by have := SZ.out; omega))
  replace HB := Lib.hid (HB.out.trans (hb.mono HB.out.size))
  replace SZ := Lib.hid (And.intro SZ.out zz)
  clear zz hb 
  clear Oy1
  go_wp2_with fail
  refine (eqEditS_yes _ _ _ _ _ _ _ _ w12 w12.heap.size w12.heap.size (Oh0.out.rdE.keep (Below.refl _ _) (by have := SZ.out; omega)) (Ow0.out.rdE.keep (Below.refl _ _) (by have := SZ.out; omega)) (Nat.le_refl _) (Nat.le_refl _) (by omega)).mono ?_
  rintro e w13 ⟨rfl, hb⟩
  have zz := hb.size
  replace Ow0 := Lib.hid (Ow0.out.keepB hb (by have := SZ.out; omega))
  replace Og0 := Lib.hid (Og0.out.keepB hb (by have := SZ.out; omega))
  replace Oh0 := Lib.hid (Oh0.out.keepB hb (by have := SZ.out; omega))
  replace HB := Lib.hid (HB.out.trans (hb.mono HB.out.size))
  replace SZ := Lib.hid (And.intro SZ.out zz)
  clear zz hb 
  go_wp2_with fail
  refine (heldEditS_yes _ _ _ (1 : Int) w13 _ Og0.out.rdE (by omega) (by omega) (by omega)).mono ?_
  rintro e w' ⟨rfl, rfl⟩
  go_wp2
  go_ret
  exact ⟨rfl, HB.out⟩

set_option maxRecDepth 100000 in
theorem lifted (os : Os) (started : os.Started) (H : Type) (enc : TypeId × Value → H) :
    ReturnsInHanded {} Try.checked os 5 .any (Rows.fnExactUndoEditsSpec.pre6 enc Try.prog Try.f5 Rows.fnExactUndoEditsRow.domain false) (Rows.fnExactUndoEditsSpec.post enc Try.prog Try.f5 false true false false) := by
  refine returnsInHanded_of_change (C := Try.checked) own started (by kernel_rfl) Try.func5
    (ChangeSpec.witness6 (enc := enc) (C := Try.checked) false ⟨#[], #[.slice none 0 0], []⟩ 8 (by kernel_rfl) (by kernel_rfl) (by kernel_rfl) (by kernel_rfl)) ?_
  intro W base args ds gs before hval0 hW hcnd _
  have hval : ∀ (j : Nat) t v, Try.f5.params[j]? = some t → args[j]? = some v → Value.okWide Try.prog W .any base t v := hval0
  have hW' := hW
  obtain ⟨p, q, hA0, hV, rfl, hfz, hnd⟩ := hW
  have hA : DataW.TrodAll enc Try.prog W 0 (fun _ => true) true Try.f5.params.toList args.toList ds p := hA0
  rw [Try.params5] at hA hval
  obtain ⟨v0, vs0, d0, ds0, p0, q0, hargs, rfl, rfl, l0, r0⟩ := trodAll_cons hA
  obtain ⟨rfl, rfl, rfl⟩ := trodAll_nil r0
  obtain rfl : args = #[v0] := by cases args; simp_all
  obtain ⟨rfl, rfl⟩ := trodVars_none hV
  have lt0 := places_lt l0
  obtain ⟨A1, m1, c1, a1, v1, u1, rfl, h1, n1⟩ := open_edits (hval 0 29 v0 rfl rfl) l0
  clear hA0 hval0
  refine (walk A1 m1 c1 a1 v1 u1 W h1 n1).mono fun e W' ⟨he, bel⟩ => ?_
  subst he
  exact ⟨_, rfl, _, _, _, [], _, [], hW', trodAll_mk1 (shut_bool Try.underlying4 _), (trodAll_cons_mk (Below.trod laidOut (by kernel_rfl) (of_decide_eq_true (by kernel_rfl)) l0 bel lt0) trodAll_mk0), rfl, bel.frame _, fun h => by cases h⟩

theorem over : Rows.fnExactUndoEditsRow.holds Try.pinned (OpenSpec.ofChange Rows.fnExactUndoEditsSpec) :=
  OpenClaim.holds_of_wide 5 Try.f5 rfl rfl rfl rfl rfl rfl rfl ⟨rfl, rfl, rfl, rfl, rfl⟩ rfl rfl rfl rfl rfl (by kernel_rfl) Try.func5 (by kernel_rfl)
    (of_decide_eq_true (by kernel_rfl)) (by unfold Func.isWrapper; first | (rw [if_pos (by decide +kernel)]; kernel_rfl) | (rw [if_neg (by decide +kernel)]; exact ⟨rfl, rfl⟩))
    (fun os started H enc _ => lifted os started H enc)

/-- The statement. -/
theorem proved : Rows.FnExactUndoEditsSaid := over
#print axioms proved
end Go.Proofs.Ytccblehcemggjaa.fnExactUndoEdits
