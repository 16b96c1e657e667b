/-
  The program's ClassNames answers as the reference's at every input: the law FnExactClassNames answers true.
  No condition.
-/
import Derived.Test.YtccblehcemggjaaNames
import Derived.Test.YtccblehcemggjaaOpen2
import Derived.Deep.RegionHeld3
namespace Go.Proofs.Ytccblehcemggjaa.fnExactClassNames
open Go.ChangeShapes Go.WideShapes Go.ChangeAt Go.RowKit

set_option maxRecDepth 100000 in
set_option maxHeartbeats 1600000 in
theorem walk  (w : World)  :
    Calls Try.prog 4 #[] w fun e w' => e = .returned (.bool true) ∧ Below w.heap.size w w' := by
  obtain ⟨w0, hW⟩ : ∃ W : World, W = w := ⟨_, rfl⟩
  have HB : Hid (Below w.heap.size w w0) := by rw [hW]; exact (Below.refl _ _)
  have SZ : Hid (w.heap.size + 0 ≤ w0.heap.size) := by rw [hW]; simp [Hid]
  have HW := Lib.hid hW
  clear hW
  go_enter Try.func4, Try.ntmps4
  go_wp2_with fail
  rw [← HW.out]
  clear HW
  refine (ClassNames_s  w0).mono ?_
  rintro e w1 ⟨Aw0, cw0, rfl, how0, hb⟩
  have Ow0 := Lib.hid how0
  clear how0
  have zz := hb.size
  replace HB := Lib.hid (HB.out.trans (hb.mono HB.out.size))
  replace SZ := Lib.hid (And.intro SZ.out zz)
  clear zz hb 
  go_wp2_with fail
  refine (ClassNames_i  w1).mono ?_
  rintro e w2 ⟨Ag0, cg0, rfl, hog0, hb⟩
  have Og0 := Lib.hid hog0
  clear hog0
  have zz := hb.size
  replace Ow0 := Lib.hid (Ow0.out.keepB hb (by have := SZ.out; omega))
  replace HB := Lib.hid (HB.out.trans (hb.mono HB.out.size))
  replace SZ := Lib.hid (And.intro SZ.out zz)
  clear zz hb 
  go_wp2_with fail
  refine (eqStringS_yes _ _ _ _ _ _ w2 w2.heap.size w2.heap.size (Og0.out.rdV.keep (Below.refl _ _) (by have := SZ.out; omega)) (Ow0.out.rdV.keep (Below.refl _ _) (by have := SZ.out; omega)) (Nat.le_refl _) (Nat.le_refl _) (by omega)).mono ?_
  rintro e w3 ⟨rfl, hb⟩
  have zz := hb.size
  replace Ow0 := Lib.hid (Ow0.out.keepB hb (by have := SZ.out; omega))
  replace Og0 := Lib.hid (Og0.out.keepB hb (by have := SZ.out; omega))
  replace HB := Lib.hid (HB.out.trans (hb.mono HB.out.size))
  replace SZ := Lib.hid (And.intro SZ.out zz)
  clear zz hb 
  go_wp2_with fail
  refine (markStringS_any _ _ _ _ 1 w3 _ _ Og0.out (by have := SZ.out; omega) (by omega) (by omega)).mono ?_
  rintro e w4 ⟨rfl, ho, hf⟩
  replace Og0 := Lib.hid (Own.markedS ho)
  clear ho
  have zz := hf.size
  replace Ow0 := Lib.hid (Ow0.out.keep hf (by have := SZ.out; omega))
  replace HB := Lib.hid (HB.out.trans (hf.below (by have := SZ.out; have := HB.out.size; omega) HB.out.size))
  replace SZ := Lib.hid (And.intro SZ.out zz)
  clear zz hf 
  go_wp2_with fail
  refine (heldStringS_yes _ _ _ 1 w4 _ Og0.out.rdV (by have := SZ.out; omega) (by omega) (by omega)).mono ?_
  rintro e w5 ⟨rfl, hb⟩
  have zz := hb.size
  replace Ow0 := Lib.hid (Ow0.out.keepB hb (by have := SZ.out; omega))
  replace Og0 := Lib.hid (Og0.out.keepB hb (by have := SZ.out; omega))
  replace HB := Lib.hid (HB.out.trans (hb.mono HB.out.size))
  replace SZ := Lib.hid (And.intro SZ.out zz)
  clear zz hb 
  go_wp2_with fail
  refine (ClassNames_i  w5).mono ?_
  rintro e w6 ⟨Ah0, ch0, rfl, hoh0, hb⟩
  have Oh0 := Lib.hid hoh0
  clear hoh0
  have zz := hb.size
  replace Ow0 := Lib.hid (Ow0.out.keepB hb (by have := SZ.out; omega))
  replace Og0 := Lib.hid (Og0.out.keepB hb (by have := SZ.out; omega))
  replace HB := Lib.hid (HB.out.trans (hb.mono HB.out.size))
  replace SZ := Lib.hid (And.intro SZ.out zz)
  clear zz hb 
  go_wp2_with fail
  refine (eqStringS_yes _ _ _ _ _ _ w6 w6.heap.size w6.heap.size (Oh0.out.rdV.keep (Below.refl _ _) (by have := SZ.out; omega)) (Ow0.out.rdV.keep (Below.refl _ _) (by have := SZ.out; omega)) (Nat.le_refl _) (Nat.le_refl _) (by omega)).mono ?_
  rintro e w7 ⟨rfl, hb⟩
  have zz := hb.size
  replace Ow0 := Lib.hid (Ow0.out.keepB hb (by have := SZ.out; omega))
  replace Og0 := Lib.hid (Og0.out.keepB hb (by have := SZ.out; omega))
  replace Oh0 := Lib.hid (Oh0.out.keepB hb (by have := SZ.out; omega))
  replace HB := Lib.hid (HB.out.trans (hb.mono HB.out.size))
  replace SZ := Lib.hid (And.intro SZ.out zz)
  clear zz hb 
  go_wp2_with fail
  refine (heldStringS_yes _ _ _ 1 w7 _ Og0.out.rdV (by have := SZ.out; omega) (by omega) (by omega)).mono ?_
  rintro e w8 ⟨rfl, hb⟩
  have zz := hb.size
  replace Ow0 := Lib.hid (Ow0.out.keepB hb (by have := SZ.out; omega))
  replace Og0 := Lib.hid (Og0.out.keepB hb (by have := SZ.out; omega))
  replace Oh0 := Lib.hid (Oh0.out.keepB hb (by have := SZ.out; omega))
  replace HB := Lib.hid (HB.out.trans (hb.mono HB.out.size))
  replace SZ := Lib.hid (And.intro SZ.out zz)
  clear zz hb 
  go_wp2
  go_ret
  exact ⟨rfl, HB.out⟩

set_option maxRecDepth 100000 in
theorem lifted (os : Os) (started : os.Started) (H : Type) (enc : TypeId × Value → H) :
    ReturnsInHanded {} Try.checked os 4 .any (Rows.fnExactClassNamesSpec.pre6 enc Try.prog Try.f4 Rows.fnExactClassNamesRow.domain false) (Rows.fnExactClassNamesSpec.post enc Try.prog Try.f4 false true false false) := by
  refine returnsInHanded_of_change (C := Try.checked) own started (by kernel_rfl) Try.func4
    (ChangeSpec.witness6 (enc := enc) (C := Try.checked) false ⟨#[], #[], []⟩ 8 (by kernel_rfl) (by kernel_rfl) (by kernel_rfl) (by kernel_rfl)) ?_
  intro W base args ds gs before hval0 hW hcnd _
  have hval : ∀ (j : Nat) t v, Try.f4.params[j]? = some t → args[j]? = some v → Value.okWide Try.prog W .any base t v := hval0
  have hW' := hW
  obtain ⟨p, q, hA0, hV, rfl, hfz, hnd⟩ := hW
  have hA : DataW.TrodAll enc Try.prog W 0 (fun _ => true) true Try.f4.params.toList args.toList ds p := hA0
  rw [Try.params4] at hA hval
  obtain ⟨hargs, rfl, rfl⟩ := trodAll_nil hA
  obtain rfl : args = #[] := by cases args; simp_all
  obtain ⟨rfl, rfl⟩ := trodVars_none hV
  clear hA0 hval0
  refine (walk  W ).mono fun e W' ⟨he, bel⟩ => ?_
  subst he
  exact ⟨_, rfl, _, _, _, [], _, [], hW', trodAll_mk1 (shut_bool Try.underlying4 _), trodAll_mk0, rfl, bel.frame _, fun h => by cases h⟩

theorem over : Rows.fnExactClassNamesRow.holds Try.pinned (OpenSpec.ofChange Rows.fnExactClassNamesSpec) :=
  OpenClaim.holds_of_wide 4 Try.f4 rfl rfl rfl rfl rfl rfl rfl ⟨rfl, rfl, rfl, rfl, rfl⟩ rfl rfl rfl rfl rfl (by kernel_rfl) Try.func4 (by kernel_rfl)
    (of_decide_eq_true (by kernel_rfl)) (by unfold Func.isWrapper; first | (rw [if_pos (by decide +kernel)]; kernel_rfl) | (rw [if_neg (by decide +kernel)]; exact ⟨rfl, rfl⟩))
    (fun os started H enc _ => lifted os started H enc)

/-- The statement. -/
theorem proved : Rows.FnExactClassNamesSaid := over
#print axioms proved
end Go.Proofs.Ytccblehcemggjaa.fnExactClassNames
