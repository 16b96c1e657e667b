/-
  The program's NumbersLine answers as the reference's at every input: the law FnExactNumbersLine answers true.
  No condition.
-/
import Derived.Test.YtjonhbmgmamchaaGreatDoorRdNulS
import Derived.Test.YtjonhbmgmamchaaGreatDoorRdDoorZ
import Derived.Test.YtjonhbmgmamchaaGreatDoorCards
import Derived.Test.YtjonhbmgmamchaaGreatDoorTie
import Derived.Test.YtjonhbmgmamchaaGreatDoorRdGA
import Derived.Test.YtjonhbmgmamchaaGreatDoorRdUmbI
import Derived.Deep.RegionHeld3
namespace Go.Proofs.YtjonhbmgmamchaaGreatDoor.fnExactNumbersLine
open Go.ChangeShapes Go.WideShapes Go.ChangeAt Go.RowKit

theorem le_drew {a : Nat} {w : World} (h : a ≤ w.heap.size) : a ≤ w.drew.heap.size := h
set_option maxRecDepth 100000 in
set_option maxHeartbeats 1600000 in
theorem walk (s1 : Int) (A1 : Option Addr) (m1 : Nat) (c1 : Nat) (x1 : Nat → Int) (w : World) (h1 : Rd w w.heap.size A1 m1 c1 x1) (n1 : m1 ≤ maxLen) (hT : Tb w) :
    Calls Tryz.prog 3 #[.agg #[.int .i64 s1, .slice A1 m1 c1]] w fun e w' => e = .returned (.bool true) ∧ Below w.heap.size w w' := by
  have HT := Lib.hid hT
  clear hT
  obtain ⟨w0, hW⟩ : ∃ W : World, W = (w.alloc (Obj.cells #[.int .i64 s1, .slice A1 m1 c1] 24)) := ⟨_, rfl⟩
  have HB : Hid (Below w.heap.size w w0) := by rw [hW]; exact ((Below.refl _ _).alloc (by simp) _)
  have z0_0 : w.heap.size < w0.heap.size := by rw [hW]; simp <;> omega
  have e1a_0 : w0.cell? ⟨w.heap.size, 0, none⟩ = some (.int .i64 s1) := by rw [hW]; simp [go_sem]
  have e1b_0 : w0.cell? ⟨w.heap.size, 1, none⟩ = some (.slice A1 m1 c1) := by rw [hW]; simp [go_sem]
  have SZ : Hid (w.heap.size + 1 ≤ w0.heap.size) := by rw [hW]; simp [Hid]
  have HW := Lib.hid hW
  clear hW
  go_enter Tryz.func3, Tryz.ntmps3
  go_wp2_with fail
  rw [← HW.out]
  clear HW
  refine (szGraph_any s1 A1 m1 c1 ((1048576 : Int)) w0 n1 (by omega) (by omega)).mono ?_
  rintro e w1 ⟨rfl, hb⟩
  have zz := hb.size
  have e1a_1 := up hb e1a_0 z0_0
  have e1b_1 := up hb e1b_0 z0_0
  have z0_1 := Nat.lt_of_lt_of_le z0_0 zz
  replace HB := Lib.hid (HB.out.trans (hb.mono HB.out.size))
  replace SZ := Lib.hid (And.intro SZ.out zz)
  clear zz hb e1a_0 e1b_0 z0_0
  by_cases p1 : (1048576 : Int) < m1
  · have q1 : szl ((1048576 : Int)) m1 < 0 := by unfold szl; rw [if_pos p1]; omega
    clear p1
    go_wp2
    go_ret
    exact ⟨rfl, HB.out⟩
  have q1 : szl ((1048576 : Int)) m1 = (1048576 : Int) - m1 := by unfold szl; rw [if_neg p1]
  rw [q1]
  clear q1 n1
  go_wp2_with fail
  refine (toGraph_any s1 A1 m1 c1 x1 _ _ (h1.keep HB.out (Nat.le_refl _)) HB.out.size (by omega)).mono ?_
  rintro e w2 ⟨ky1, hky1, rfl, hoy1, hb⟩
  have Oy1 := Lib.hid hoy1
  clear hoy1
  have zz := hb.size
  have e1a_2 := up hb e1a_1 z0_1
  have e1b_2 := up hb e1b_1 z0_1
  have z0_2 := Nat.lt_of_lt_of_le z0_1 zz
  replace HB := Lib.hid (HB.out.trans (hb.mono HB.out.size))
  replace SZ := Lib.hid (And.intro SZ.out zz)
  clear zz hb e1a_1 e1b_1 z0_1
  clear hky1
  go_wp2_with fail
  refine (NumbersLine_sL s1 _ m1 m1 x1 w2 w2.heap.size (Oy1.out.rd.keep (Below.refl _ _) (by have := SZ.out; omega)) (Nat.le_refl _) (by omega) ).mono ?_
  rintro e w3 ⟨rfl, hb⟩
  have zz := hb.size
  have e1a_3 := up hb e1a_2 z0_2
  have e1b_3 := up hb e1b_2 z0_2
  have z0_3 := Nat.lt_of_lt_of_le z0_2 zz
  replace Oy1 := Lib.hid (Oy1.out.keepB hb (by have := SZ.out; omega))
  replace HB := Lib.hid (HB.out.trans (hb.mono HB.out.size))
  replace SZ := Lib.hid (And.intro SZ.out zz)
  clear zz hb e1a_2 e1b_2 z0_2
  clear Oy1
  go_wp2_with fail
  refine (toGraph_any s1 A1 m1 c1 x1 _ _ (h1.keep HB.out (Nat.le_refl _)) HB.out.size (by omega)).mono ?_
  rintro e w4 ⟨kx1, hkx1, rfl, hox1, hb⟩
  have Ox1 := Lib.hid hox1
  clear hox1
  have zz := hb.size
  have e1a_4 := up hb e1a_3 z0_3
  have e1b_4 := up hb e1b_3 z0_3
  have z0_4 := Nat.lt_of_lt_of_le z0_3 zz
  replace HB := Lib.hid (HB.out.trans (hb.mono HB.out.size))
  replace SZ := Lib.hid (And.intro SZ.out zz)
  clear zz hb e1a_3 e1b_3 z0_3
  clear hkx1
  obtain ⟨w5, hW⟩ : ∃ W : World, W = w4.alloc (Obj.cells #[.int .i64 s1, .slice (some ⟨kx1, 0, none⟩) m1 m1] 27) := ⟨_, rfl⟩
  obtain ⟨Xx1, hX⟩ : ∃ X : Nat, X = w4.heap.size := ⟨_, rfl⟩
  have hb : Below w4.heap.size w4 w5 := by rw [hW]; exact (Below.refl _ _).alloc (Nat.le_refl _) _
  have y0 : w5.cell? ⟨Xx1, 0, none⟩ = some (.int .i64 s1) := by rw [hW, hX]; simp [go_sem]
  have y1 : w5.cell? ⟨Xx1, 1, none⟩ = some (.slice (some ⟨kx1, 0, none⟩) m1 m1) := by rw [hW, hX]; simp [go_sem]
  have yz : Xx1 < w5.heap.size := by rw [hW, hX]; simp
  have ys : w4.heap.size ≤ Xx1 := by rw [hX]; exact Nat.le_refl _
  have HWx := Lib.hid hW
  have HX := Lib.hid hX
  clear hW hX
  have zz := hb.size
  have e1a_5 := up hb e1a_4 z0_4
  have e1b_5 := up hb e1b_4 z0_4
  have z0_5 := Nat.lt_of_lt_of_le z0_4 zz
  replace Ox1 := Lib.hid (Ox1.out.keepB hb (by have := SZ.out; omega))
  replace HB := Lib.hid (HB.out.trans (hb.mono HB.out.size))
  replace SZ := Lib.hid (And.intro SZ.out zz)
  clear zz hb 
  replace SZ := Lib.hid (And.intro SZ.out (And.intro ys yz))
  clear ys
  have bx10_5 := y0
  clear y0
  have bx11_5 := y1
  clear y1
  have zbx1_5 := yz
  clear yz
  go_wp2_with fail
  rw [← HWx.out, ← HX.out]
  clear HWx HX e1a_4 e1b_4 z0_4
  go_wp2_with fail
  refine (NumbersLine_iL s1 _ m1 m1 x1 w5 w5.heap.size (Ox1.out.rd.keep (Below.refl _ _) (by have := SZ.out; omega)) (Nat.le_refl _) (by omega)  (HT.out.keep HB.out)).mono ?_
  rintro e w6 ⟨rfl, hb⟩
  have zz := hb.size
  have e1a_6 := up hb e1a_5 z0_5
  have e1b_6 := up hb e1b_5 z0_5
  have bx10_6 := up hb bx10_5 zbx1_5
  have bx11_6 := up hb bx11_5 zbx1_5
  have z0_6 := Nat.lt_of_lt_of_le z0_5 zz
  have zbx1_6 := Nat.lt_of_lt_of_le zbx1_5 zz
  replace Ox1 := Lib.hid (Ox1.out.keepB hb (by have := SZ.out; omega))
  replace HB := Lib.hid (HB.out.trans (hb.mono HB.out.size))
  replace SZ := Lib.hid (And.intro SZ.out zz)
  clear zz hb e1a_5 e1b_5 bx10_5 bx11_5 z0_5 zbx1_5
  have HK : Hid (∀ a b : World, (w.heap.size < a.heap.size ∧ Xx1 < a.heap.size ∧ a.cell? ⟨w.heap.size, 0, none⟩ = some (.int .i64 s1) ∧ a.cell? ⟨w.heap.size, 1, none⟩ = some (.slice A1 m1 c1) ∧ a.cell? ⟨Xx1, 0, none⟩ = some (.int .i64 s1) ∧ a.cell? ⟨Xx1, 1, none⟩ = some (.slice (some ⟨kx1, 0, none⟩) m1 m1)) → Below a.heap.size a b → (w.heap.size < b.heap.size ∧ Xx1 < b.heap.size ∧ b.cell? ⟨w.heap.size, 0, none⟩ = some (.int .i64 s1) ∧ b.cell? ⟨w.heap.size, 1, none⟩ = some (.slice A1 m1 c1) ∧ b.cell? ⟨Xx1, 0, none⟩ = some (.int .i64 s1) ∧ b.cell? ⟨Xx1, 1, none⟩ = some (.slice (some ⟨kx1, 0, none⟩) m1 m1))) := by
    rintro a b ⟨r0, r1, r2, r3, r4, r5⟩ hb
    have := hb.size
    exact ⟨by omega, by omega, up hb r2 (by omega), up hb r3 (by omega), up hb r4 (by omega), up hb r5 (by omega)⟩
  go_wp2_with fail
  have H6 : Hid (Below w.heap.size w w6.drew) := HB.out.drew
  go_region_held3 (fun a => w.heap.size < a.heap.size ∧ Xx1 < a.heap.size ∧ a.cell? ⟨w.heap.size, 0, none⟩ = some (.int .i64 s1) ∧ a.cell? ⟨w.heap.size, 1, none⟩ = some (.slice A1 m1 c1) ∧ a.cell? ⟨Xx1, 0, none⟩ = some (.int .i64 s1) ∧ a.cell? ⟨Xx1, 1, none⟩ = some (.slice (some ⟨kx1, 0, none⟩) m1 m1))
    (first | (refine ⟨?_, ?_, ?_, ?_, ?_, ?_⟩ <;> assumption) | exact HK.out _ _ (by assumption) hb8 | exact HK.out _ _ (by assumption) hb7)
    (first
      | (go_at_call 6; ((with_reducible refine (toGraph_any s1 A1 m1 c1 x1 _ _ (h1.keep H6.out (Nat.le_refl _)) H6.out.size (by omega)).mono ?_); rintro e w7 ⟨kt1, hkt1, rfl, hot1, hb7⟩; have H7 := Lib.hid (H6.out.trans (hb7.mono H6.out.size))))
      | (go_at_call 8; ((with_reducible refine (eqGraph_yes _ _ _ _ _ _ _ w7 w7.heap.size w7.heap.size ((Ox1.out.rd.keep (Below.drew (Below.refl _ w6)) (le_drew (by have := SZ.out; omega))).keep hb7 hb7.size) (hot1.rd) (Nat.le_refl _) (Nat.le_refl _) (by omega)).mono ?_); rintro e w8 ⟨rfl, hb8⟩; have H8 := Lib.hid (H7.out.trans (hb8.mono H7.out.size)))))
  clear H7
  clear H8
  clear HK H6
  replace hb7 := bd hb7
  have Ot1 := Lib.hid hot1
  clear hot1
  have zz := hb7.size
  have e1a_7 := up hb7 e1a_6 z0_6
  have e1b_7 := up hb7 e1b_6 z0_6
  have bx10_7 := up hb7 bx10_6 zbx1_6
  have bx11_7 := up hb7 bx11_6 zbx1_6
  have z0_7 := Nat.lt_of_lt_of_le z0_6 zz
  have zbx1_7 := Nat.lt_of_lt_of_le zbx1_6 zz
  replace Ox1 := Lib.hid (Ox1.out.keepB hb7 (by have := SZ.out; omega))
  replace HB := Lib.hid (HB.out.trans (hb7.mono HB.out.size))
  replace SZ := Lib.hid (And.intro SZ.out zz)
  clear zz hb7 e1a_6 e1b_6 bx10_6 bx11_6 z0_6 zbx1_6
  clear hkt1
  have zz := hb8.size
  have e1a_8 := up hb8 e1a_7 z0_7
  have e1b_8 := up hb8 e1b_7 z0_7
  have bx10_8 := up hb8 bx10_7 zbx1_7
  have bx11_8 := up hb8 bx11_7 zbx1_7
  have z0_8 := Nat.lt_of_lt_of_le z0_7 zz
  have zbx1_8 := Nat.lt_of_lt_of_le zbx1_7 zz
  replace Ox1 := Lib.hid (Ox1.out.keepB hb8 (by have := SZ.out; omega))
  replace Ot1 := Lib.hid (Ot1.out.keepB hb8 (by have := SZ.out; omega))
  replace HB := Lib.hid (HB.out.trans (hb8.mono HB.out.size))
  replace SZ := Lib.hid (And.intro SZ.out zz)
  clear zz hb8 e1a_7 e1b_7 bx10_7 bx11_7 z0_7 zbx1_7
  clear Ot1
  go_wp2
  go_ret
  exact ⟨rfl, HB.out⟩

/-- The tables that the row lists. -/
def laidL : List (String × DataW Unit) := [("math/bits.deBruijn32tab", Rows.laid_math_bits_deBruijn32tab), ("math/bits.deBruijn64tab", Rows.laid_math_bits_deBruijn64tab), ("internal/strconv.uint64pow10", Rows.laid_internal_strconv_uint64pow10)]
/-- The door's own heap meets the condition. -/
theorem door_met (os : Os) (args : Array Value) : laidMetH Tryz.prog laidL ((World.doorLaid Tryz.prog 400 os).forCall (fun _ _ => 0) ⟨#[], args, []⟩).memory :=
  laidMetH_of_parts3 (fuel := 8) (laidMet_of_run' 8 (by kernel_rfl) (by kernel_rfl)) (by kernel_rfl) (by kernel_rfl)

set_option maxRecDepth 100000 in
theorem lifted (os : Os) (started : os.Started) (H : Type) (enc : TypeId × Value → H) :
    ReturnsInHanded {} Tryz.checked os 3 .any (fun w args => (Rows.fnExactNumbersLineSpec.pre enc Tryz.prog Tryz.f3 [] false w args ∧ laidMetH Tryz.prog laidL w) ∧ sizedMet enc Tryz.prog Tryz.f3 (OpenSpec.ofChange Rows.fnExactNumbersLineSpec) false w args)
      (Rows.fnExactNumbersLineSpec.post enc Tryz.prog Tryz.f3 false true false false) := by
  refine handed_shaped (C := Tryz.checked) (X := fun w _ => laidMetH Tryz.prog laidL w) (fun _ _ _ hh h => h.of_heap hh) own started (by kernel_rfl) Tryz.func3
    (ChangeSpec.witness_shaped (enc := enc) (C := Tryz.checked) (os := os) (X := fun w _ => laidMetH Tryz.prog laidL w) false (World.doorLaid Tryz.prog 400 os) #[.agg #[.int .i64 0, .slice none 0 0]] 8 rfl (World.shaped_of_RefB (by kernel_rfl) (by kernel_rfl)) (by kernel_rfl) (by kernel_rfl) (by kernel_rfl) (door_met os _)) ?_
  intro W base args ds gs before hval0 hW hsh hL _
  have hval : ∀ (j : Nat) t v, Tryz.f3.params[j]? = some t → args[j]? = some v → Value.okWide Tryz.prog W .any base t v := hval0
  have hW' := hW
  obtain ⟨p, q, hA0, hV, rfl, hfz, hnd⟩ := hW
  have hA : DataW.TrodAll enc Tryz.prog W 0 (fun _ => true) true Tryz.f3.params.toList args.toList ds p := hA0
  rw [Tryz.params3] at hA hval
  obtain ⟨fv0, vs0, d0, ds0, p0, q0, hargs, rfl, rfl, l0, r0⟩ := trodAll_cons hA
  obtain ⟨rfl, rfl, rfl⟩ := trodAll_nil r0
  obtain rfl : args = #[fv0] := by cases args; simp_all
  obtain ⟨rfl, rfl⟩ := trodVars_none hV
  have lt0 := places_lt l0
  obtain ⟨s1, A1, m1, c1, x1, rfl, h1, n1⟩ := open_graph (hval 0 24 fv0 rfl rfl) l0
  clear hA0 hval0
  refine (walk s1 A1 m1 c1 x1 W h1 n1 (tb_of hL (by kernel_rfl))).mono fun e W' ⟨he, bel⟩ => ?_
  subst he
  exact ⟨_, rfl, _, _, _, [], _, [], hW', trodAll_mk1 (shut_bool Tryz.underlying4 _), (trodAll_cons_mk (Below.trod laidOut (by kernel_rfl) (of_decide_eq_true (by kernel_rfl)) l0 bel lt0) trodAll_mk0), rfl, bel.frame _, fun h => by cases h⟩

theorem clo : Tryz.prog.closure 3 = cloLNumbersLine := (closure_tab tab_len tab_is 3).trans (by kernel_rfl)
theorem unf : Tryz.pinned.checked.prog.unfollowed 3 = true := by
  show Tryz.prog.unfollowed 3 = true
  unfold Program.unfollowed
  rw [clo]
  kernel_rfl
theorem inp : Tryz.pinned.checked.prog.inPlace 3 = Rows.fnExactNumbersLineRow.inPlace := by
  show Tryz.prog.inPlace 3 = _
  unfold Program.inPlace
  rw [clo]
  kernel_rfl
theorem vns : Tryz.pinned.checked.prog.varsNamed 3 = Rows.fnExactNumbersLineRow.named := by
  show Tryz.prog.varsNamed 3 = _
  unfold Program.varsNamed
  rw [clo]
  kernel_rfl
theorem closed : joinedFacts Tryz.pinned.checked.prog 3 Tryz.f3 Rows.fnExactNumbersLineSpec Rows.fnExactNumbersLineRow = true := by
  unfold joinedFacts
  rw [inp, vns, recurses_of unf, unf]
  kernel_rfl

theorem over : Rows.fnExactNumbersLineRow.holds Tryz.pinned (OpenSpec.ofChange Rows.fnExactNumbersLineSpec) :=
  OpenClaim.holds_of_wide 3 Tryz.f3 rfl rfl rfl rfl rfl rfl rfl ⟨rfl, rfl, rfl, rfl, rfl⟩ rfl rfl rfl rfl rfl (by kernel_rfl) Tryz.func3 closed
    (of_decide_eq_true (by kernel_rfl)) (by unfold Func.isWrapper; first | (rw [if_pos (by decide +kernel)]; kernel_rfl) | (rw [if_neg (by decide +kernel)]; exact ⟨rfl, rfl⟩))
    (fun os started H enc _ => lifted os started H enc)
/-- The statement: the card. -/
theorem proved : Rows.FnExactNumbersLineCardSaid :=
  Claim7.holds_tied_plain_at .later [] [.data, .data, .data] true (true, "034d1ab554d5742ecfa7991399362f0ce67cb55da25c69a1db402b6129db37c8") false
    over (fun _ h => by cases h) (by kernel_rfl) (fun _ h => by cases h) fnExactNumbersLine_row_tie rfl ⟨rfl, rfl⟩ (by kernel_rfl) rfl
    (fun f fn hf hfn => by
      obtain rfl : f = 3 := Option.some.inj ((show Tryz.prog.funcNamed "loop.example/g02081/laws.FnExactNumbersLine" = some 3 by kernel_rfl).symm.trans hf) |>.symm
      obtain rfl : fn = Tryz.f3 := (Option.some.inj (Tryz.func3.symm.trans hfn)).symm
      exact ⟨by kernel_rfl, fun j t ht => by
        rw [Tryz.params3] at ht
        have hm : t ∈ [24] := by simpa using Array.mem_of_getElem? ht
        have hall : ([24].all fun u => !Tryz.prog.wantsStandIn u) = true := by kernel_rfl
        exact (show Tryz.prog.wantsStandIn t = false by simpa using List.all_eq_true.1 hall t hm)⟩)
    (by kernel_rfl)
#print axioms proved
end Go.Proofs.YtjonhbmgmamchaaGreatDoor.fnExactNumbersLine
