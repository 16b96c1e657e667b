/-
  Several texts in one.
-/
import Derived.Test.YtppkokgiojcgbaaGreatDoorQxUmoS
import Derived.Test.YtppkokgiojcgbaaGreatDoorQxJoinS
import Derived.Test.YtppkokgiojcgbaaGreatDoorQxPthS
import Derived.Test.YtppkokgiojcgbaaGreatDoorQxHamT
import Derived.Test.YtppkokgiojcgbaaGreatDoorQxCloS
import Derived.Test.YtppkokgiojcgbaaGreatDoorQxCluS
import Derived.Test.YtppkokgiojcgbaaGreatDoorQxSidS
import Derived.Test.YtppkokgiojcgbaaGreatDoorQxIndI
import Derived.Test.YtppkokgiojcgbaaGreatDoorQxGA
/-
-/
namespace Go.Proofs.YtppkokgiojcgbaaGreatDoor
open Go.RowKit
section
variable (sz : Int) (A : Option Addr) (m c : Nat) (x : Nat → Int) (str : ByteArray) (w : World)
theorem IsChordal_sg (h : GA w A m c x) (hm : m ≤ 1048576) :
 Calls Tryz.prog 73 #[.agg #[.int .i64 sz, .slice A m c]] w fun e w' => e = .returned (.bool (chB sz m x)) ∧ Below w.heap.size w w' := IsChordal_sx sz A m c x w w.heap.size h.rd (Nat.le_refl _) hm
theorem IsStronglyChordal_sg (h : GA w A m c x) (hm : m ≤ 1048576) :
 Calls Tryz.prog 80 #[.agg #[.int .i64 sz, .slice A m c]] w fun e w' => e = .returned (.bool (sgB sz m x)) ∧ Below w.heap.size w w' := IsStronglyChordal_s sz A m c x w w.heap.size h.rd (Nat.le_refl _) hm
set_option maxRecDepth 100000 in
set_option maxHeartbeats 6400000 in
theorem IsIn_s (h : GA w A m c x) (hm : m ≤ 1048576) :
 Calls Tryz.prog 28 #[.agg #[.int .i64 sz, .slice A m c], .string str] w fun e w' => e = .returned (.bool (isB sz m x str.toList)) ∧ Below w.heap.size w w' := by
 obtain ⟨W, hW⟩ : ∃ W : World, W = (w.alloc (Obj.cells #[Value.int IntKind.i64 sz, Value.slice A m c] 29)) := ⟨_, rfl⟩
 have HB : Hid (From w W) := by rw [hW]; exact From.alloc _ _
 have HK := Lib.hid (h.keep HB.out.below)
 have HC : Hid (GC W w.heap.size sz A m c) := by rw [hW]; exact GC.new _ _ _ _ _
 have HW := Lib.hid hW
 have HR : Hid (isB sz m x str.toList = isB sz m x str.toList) := rfl
 clear hW h
 by_cases e0 : str.toList = [99, 104, 111, 114, 100, 97, 108]
 ·have r : Hid (isB sz m x str.toList = chB sz m x) := by show _ = _; unfold isB; rw [if_pos e0]
  have f0 : (str.toList == [99, 104, 111, 114, 100, 97, 108]) = true := by simpa using e0
  clear HR e0
  go_enter Tryz.func28, Tryz.ntmps28
  have e0 := HC.out.c0
  have e1 := HC.out.c1
  go_wp2_with fail
  rw [← HW.out]
  refine (IsChordal_sg sz A m c x W HK.out hm).mono ?_
  rintro e w1 ⟨rfl, hb1⟩
  clear HW
  clear e0 e1
  replace HB := Lib.hid (HB.out.keep hb1)
  replace HK := Lib.hid (HK.out.keep hb1)
  replace HC := Lib.hid (HC.out.keep hb1)
  clear hb1
  have e0 := HC.out.c0
  have e1 := HC.out.c1
  go_wp2
  go_ret
  exact ⟨ret_bool r.out.symm, HB.out.below⟩
 by_cases e1 : str.toList = [105, 110, 116, 101, 114, 118, 97, 108]
 ·have r : Hid (isB sz m x str.toList = ivG sz m x) := by show _ = _; unfold isB; rw [if_neg e0, if_pos e1]
  have f0 : (str.toList == [99, 104, 111, 114, 100, 97, 108]) = false := by simpa using e0
  have f1 : (str.toList == [105, 110, 116, 101, 114, 118, 97, 108]) = true := by simpa using e1
  clear HR e0 e1
  go_enter Tryz.func28, Tryz.ntmps28
  have e0 := HC.out.c0
  have e1 := HC.out.c1
  go_wp2_with fail
  rw [← HW.out]
  refine (IsInterval_s sz A m c x W HK.out hm).mono ?_
  rintro e w2 ⟨rfl, hb2⟩
  clear HW
  clear e0 e1
  replace HB := Lib.hid (HB.out.keep hb2)
  replace HK := Lib.hid (HK.out.keep hb2)
  replace HC := Lib.hid (HC.out.keep hb2)
  clear hb2
  have e0 := HC.out.c0
  have e1 := HC.out.c1
  go_wp2
  go_ret
  exact ⟨ret_bool r.out.symm, HB.out.below⟩
 by_cases e2 : str.toList = [112, 114, 111, 112, 101, 114]
 ·have r : Hid (isB sz m x str.toList = ppB sz m x) := by show _ = _; unfold isB; rw [if_neg e0, if_neg e1, if_pos e2]
  have f0 : (str.toList == [99, 104, 111, 114, 100, 97, 108]) = false := by simpa using e0
  have f1 : (str.toList == [105, 110, 116, 101, 114, 118, 97, 108]) = false := by simpa using e1
  have f2 : (str.toList == [112, 114, 111, 112, 101, 114]) = true := by simpa using e2
  clear HR e0 e1 e2
  go_enter Tryz.func28, Tryz.ntmps28
  have e0 := HC.out.c0
  have e1 := HC.out.c1
  go_wp2_with fail
  rw [← HW.out]
  refine (IsProper_s sz A m c x W HK.out hm).mono ?_
  rintro e w3 ⟨rfl, hb3⟩
  clear HW
  clear e0 e1
  replace HB := Lib.hid (HB.out.keep hb3)
  replace HK := Lib.hid (HK.out.keep hb3)
  replace HC := Lib.hid (HC.out.keep hb3)
  clear hb3
  have e0 := HC.out.c0
  have e1 := HC.out.c1
  go_wp2
  go_ret
  exact ⟨ret_bool r.out.symm, HB.out.below⟩
 by_cases e3 : str.toList = [99, 111, 103, 114, 97, 112, 104]
 ·have r : Hid (isB sz m x str.toList = cgB sz m x) := by show _ = _; unfold isB; rw [if_neg e0, if_neg e1, if_neg e2, if_pos e3]
  have f0 : (str.toList == [99, 104, 111, 114, 100, 97, 108]) = false := by simpa using e0
  have f1 : (str.toList == [105, 110, 116, 101, 114, 118, 97, 108]) = false := by simpa using e1
  have f2 : (str.toList == [112, 114, 111, 112, 101, 114]) = false := by simpa using e2
  have f3 : (str.toList == [99, 111, 103, 114, 97, 112, 104]) = true := by simpa using e3
  clear HR e0 e1 e2 e3
  go_enter Tryz.func28, Tryz.ntmps28
  have e0 := HC.out.c0
  have e1 := HC.out.c1
  go_wp2_with fail
  rw [← HW.out]
  refine (IsCograph_s sz A m c x W HK.out hm).mono ?_
  rintro e w4 ⟨rfl, hb4⟩
  clear HW
  clear e0 e1
  replace HB := Lib.hid (HB.out.keep hb4)
  replace HK := Lib.hid (HK.out.keep hb4)
  replace HC := Lib.hid (HC.out.keep hb4)
  clear hb4
  have e0 := HC.out.c0
  have e1 := HC.out.c1
  go_wp2
  go_ret
  exact ⟨ret_bool r.out.symm, HB.out.below⟩
 by_cases e4 : str.toList = [115, 112, 108, 105, 116]
 ·have r : Hid (isB sz m x str.toList = slB sz m x) := by show _ = _; unfold isB; rw [if_neg e0, if_neg e1, if_neg e2, if_neg e3, if_pos e4]
  have f0 : (str.toList == [99, 104, 111, 114, 100, 97, 108]) = false := by simpa using e0
  have f1 : (str.toList == [105, 110, 116, 101, 114, 118, 97, 108]) = false := by simpa using e1
  have f2 : (str.toList == [112, 114, 111, 112, 101, 114]) = false := by simpa using e2
  have f3 : (str.toList == [99, 111, 103, 114, 97, 112, 104]) = false := by simpa using e3
  have f4 : (str.toList == [115, 112, 108, 105, 116]) = true := by simpa using e4
  clear HR e0 e1 e2 e3 e4
  go_enter Tryz.func28, Tryz.ntmps28
  have e0 := HC.out.c0
  have e1 := HC.out.c1
  go_wp2_with fail
  rw [← HW.out]
  refine (IsSplit_s sz A m c x W HK.out hm).mono ?_
  rintro e w5 ⟨rfl, hb5⟩
  clear HW
  clear e0 e1
  replace HB := Lib.hid (HB.out.keep hb5)
  replace HK := Lib.hid (HK.out.keep hb5)
  replace HC := Lib.hid (HC.out.keep hb5)
  clear hb5
  have e0 := HC.out.c0
  have e1 := HC.out.c1
  go_wp2
  go_ret
  exact ⟨ret_bool r.out.symm, HB.out.below⟩
 by_cases e5 : str.toList = [116, 104, 114, 101, 115, 104, 111, 108, 100]
 ·have r : Hid (isB sz m x str.toList = toB sz m x) := by show _ = _; unfold isB; rw [if_neg e0, if_neg e1, if_neg e2, if_neg e3, if_neg e4, if_pos e5]
  have f0 : (str.toList == [99, 104, 111, 114, 100, 97, 108]) = false := by simpa using e0
  have f1 : (str.toList == [105, 110, 116, 101, 114, 118, 97, 108]) = false := by simpa using e1
  have f2 : (str.toList == [112, 114, 111, 112, 101, 114]) = false := by simpa using e2
  have f3 : (str.toList == [99, 111, 103, 114, 97, 112, 104]) = false := by simpa using e3
  have f4 : (str.toList == [115, 112, 108, 105, 116]) = false := by simpa using e4
  have f5 : (str.toList == [116, 104, 114, 101, 115, 104, 111, 108, 100]) = true := by simpa using e5
  clear HR e0 e1 e2 e3 e4 e5
  go_enter Tryz.func28, Tryz.ntmps28
  have e0 := HC.out.c0
  have e1 := HC.out.c1
  go_wp2_with fail
  rw [← HW.out]
  refine (IsThreshold_s sz A m c x W HK.out hm).mono ?_
  rintro e w6 ⟨rfl, hb6⟩
  clear HW
  clear e0 e1
  replace HB := Lib.hid (HB.out.keep hb6)
  replace HK := Lib.hid (HK.out.keep hb6)
  replace HC := Lib.hid (HC.out.keep hb6)
  clear hb6
  have e0 := HC.out.c0
  have e1 := HC.out.c1
  go_wp2
  go_ret
  exact ⟨ret_bool r.out.symm, HB.out.below⟩
 by_cases e6 : str.toList = [98, 105, 112, 97, 114, 116, 105, 116, 101]
 ·have r : Hid (isB sz m x str.toList = biB sz m x) := by show _ = _; unfold isB; rw [if_neg e0, if_neg e1, if_neg e2, if_neg e3, if_neg e4, if_neg e5, if_pos e6]
  have f0 : (str.toList == [99, 104, 111, 114, 100, 97, 108]) = false := by simpa using e0
  have f1 : (str.toList == [105, 110, 116, 101, 114, 118, 97, 108]) = false := by simpa using e1
  have f2 : (str.toList == [112, 114, 111, 112, 101, 114]) = false := by simpa using e2
  have f3 : (str.toList == [99, 111, 103, 114, 97, 112, 104]) = false := by simpa using e3
  have f4 : (str.toList == [115, 112, 108, 105, 116]) = false := by simpa using e4
  have f5 : (str.toList == [116, 104, 114, 101, 115, 104, 111, 108, 100]) = false := by simpa using e5
  have f6 : (str.toList == [98, 105, 112, 97, 114, 116, 105, 116, 101]) = true := by simpa using e6
  clear HR e0 e1 e2 e3 e4 e5 e6
  go_enter Tryz.func28, Tryz.ntmps28
  have e0 := HC.out.c0
  have e1 := HC.out.c1
  go_wp2_with fail
  rw [← HW.out]
  refine (IsBipartite_s sz A m c x W HK.out hm).mono ?_
  rintro e w7 ⟨rfl, hb7⟩
  clear HW
  clear e0 e1
  replace HB := Lib.hid (HB.out.keep hb7)
  replace HK := Lib.hid (HK.out.keep hb7)
  replace HC := Lib.hid (HC.out.keep hb7)
  clear hb7
  have e0 := HC.out.c0
  have e1 := HC.out.c1
  go_wp2
  go_ret
  exact ⟨ret_bool r.out.symm, HB.out.below⟩
 by_cases e7 : str.toList = [115, 116, 114, 111, 110, 103]
 ·have r : Hid (isB sz m x str.toList = sgB sz m x) := by show _ = _; unfold isB; rw [if_neg e0, if_neg e1, if_neg e2, if_neg e3, if_neg e4, if_neg e5, if_neg e6, if_pos e7]
  have f0 : (str.toList == [99, 104, 111, 114, 100, 97, 108]) = false := by simpa using e0
  have f1 : (str.toList == [105, 110, 116, 101, 114, 118, 97, 108]) = false := by simpa using e1
  have f2 : (str.toList == [112, 114, 111, 112, 101, 114]) = false := by simpa using e2
  have f3 : (str.toList == [99, 111, 103, 114, 97, 112, 104]) = false := by simpa using e3
  have f4 : (str.toList == [115, 112, 108, 105, 116]) = false := by simpa using e4
  have f5 : (str.toList == [116, 104, 114, 101, 115, 104, 111, 108, 100]) = false := by simpa using e5
  have f6 : (str.toList == [98, 105, 112, 97, 114, 116, 105, 116, 101]) = false := by simpa using e6
  have f7 : (str.toList == [115, 116, 114, 111, 110, 103]) = true := by simpa using e7
  clear HR e0 e1 e2 e3 e4 e5 e6 e7
  go_enter Tryz.func28, Tryz.ntmps28
  have e0 := HC.out.c0
  have e1 := HC.out.c1
  go_wp2_with fail
  rw [← HW.out]
  refine (IsStronglyChordal_sg sz A m c x W HK.out hm).mono ?_
  rintro e w8 ⟨rfl, hb8⟩
  clear HW
  clear e0 e1
  replace HB := Lib.hid (HB.out.keep hb8)
  replace HK := Lib.hid (HK.out.keep hb8)
  replace HC := Lib.hid (HC.out.keep hb8)
  clear hb8
  have e0 := HC.out.c0
  have e1 := HC.out.c1
  go_wp2
  go_ret
  exact ⟨ret_bool r.out.symm, HB.out.below⟩
 by_cases e8 : str.toList = [112, 101, 114, 102, 101, 99, 116]
 ·have r : Hid (isB sz m x str.toList = peB sz m x) := by show _ = _; unfold isB; rw [if_neg e0, if_neg e1, if_neg e2, if_neg e3, if_neg e4, if_neg e5, if_neg e6, if_neg e7, if_pos e8]
  have f0 : (str.toList == [99, 104, 111, 114, 100, 97, 108]) = false := by simpa using e0
  have f1 : (str.toList == [105, 110, 116, 101, 114, 118, 97, 108]) = false := by simpa using e1
  have f2 : (str.toList == [112, 114, 111, 112, 101, 114]) = false := by simpa using e2
  have f3 : (str.toList == [99, 111, 103, 114, 97, 112, 104]) = false := by simpa using e3
  have f4 : (str.toList == [115, 112, 108, 105, 116]) = false := by simpa using e4
  have f5 : (str.toList == [116, 104, 114, 101, 115, 104, 111, 108, 100]) = false := by simpa using e5
  have f6 : (str.toList == [98, 105, 112, 97, 114, 116, 105, 116, 101]) = false := by simpa using e6
  have f7 : (str.toList == [115, 116, 114, 111, 110, 103]) = false := by simpa using e7
  have f8 : (str.toList == [112, 101, 114, 102, 101, 99, 116]) = true := by simpa using e8
  clear HR e0 e1 e2 e3 e4 e5 e6 e7 e8
  go_enter Tryz.func28, Tryz.ntmps28
  have e0 := HC.out.c0
  have e1 := HC.out.c1
  go_wp2_with fail
  rw [← HW.out]
  refine (IsPerfect_s sz A m c x W HK.out hm).mono ?_
  rintro e w9 ⟨rfl, hb9⟩
  clear HW
  clear e0 e1
  replace HB := Lib.hid (HB.out.keep hb9)
  replace HK := Lib.hid (HK.out.keep hb9)
  replace HC := Lib.hid (HC.out.keep hb9)
  clear hb9
  have e0 := HC.out.c0
  have e1 := HC.out.c1
  go_wp2
  go_ret
  exact ⟨ret_bool r.out.symm, HB.out.below⟩
 have r : Hid (isB sz m x str.toList = false) := by show _ = _; unfold isB; rw [if_neg e0, if_neg e1, if_neg e2, if_neg e3, if_neg e4, if_neg e5, if_neg e6, if_neg e7, if_neg e8]
 have f0 : (str.toList == [99, 104, 111, 114, 100, 97, 108]) = false := by simpa using e0
 have f1 : (str.toList == [105, 110, 116, 101, 114, 118, 97, 108]) = false := by simpa using e1
 have f2 : (str.toList == [112, 114, 111, 112, 101, 114]) = false := by simpa using e2
 have f3 : (str.toList == [99, 111, 103, 114, 97, 112, 104]) = false := by simpa using e3
 have f4 : (str.toList == [115, 112, 108, 105, 116]) = false := by simpa using e4
 have f5 : (str.toList == [116, 104, 114, 101, 115, 104, 111, 108, 100]) = false := by simpa using e5
 have f6 : (str.toList == [98, 105, 112, 97, 114, 116, 105, 116, 101]) = false := by simpa using e6
 have f7 : (str.toList == [115, 116, 114, 111, 110, 103]) = false := by simpa using e7
 have f8 : (str.toList == [112, 101, 114, 102, 101, 99, 116]) = false := by simpa using e8
 clear e0 e1 e2 e3 e4 e5 e6 e7 e8
 go_enter Tryz.func28, Tryz.ntmps28
 go_wp2
 rw [← HW.out]
 go_ret
 exact ⟨ret_bool r.out.symm, HB.out.below⟩
end
end Go.Proofs.YtppkokgiojcgbaaGreatDoor

/-
-/
namespace Go.Proofs.YtppkokgiojcgbaaGreatDoor
open Go.RowKit
theorem fwK_least {p : Nat → Bool} : ∀ k b, fwK p k = some b → ∀ s, s < k → p s = true → cn b ≤ cn s ∧ (s < b → cn b < cn s) := by
 intro k
 induction k with
 | zero => intro b h; cases h
 | succ k ih =>
   intro b h s hs hps
   by_cases hc : (((fwK p k).all fun b => decide (cn k < cn b)) && p k) = true
   ·rw [fwK, if_pos hc] at h
    injection h with h
    subst h
    rw [Bool.and_eq_true] at hc
    by_cases hsk : s = k
    ·subst hsk; exact ⟨Nat.le_refl _, fun h => absurd h (by omega)⟩
    ·cases e : fwK p k with
     | none => exact absurd e (fwK_some k s (by omega) hps)
     | some b' =>
       have h1 := hc.1
       rw [e] at h1
       have h2 : cn k < cn b' := by simpa using h1
       have h3 := (ih b' e s (by omega) hps).1
       exact ⟨by omega, fun _ => by omega⟩
   ·rw [fwK, if_neg hc] at h
    have hbk := fwK_lt k b h
    by_cases hsk : s = k
    ·subst hsk
     rw [h, hps] at hc
     have h2 : ¬ cn s < cn b := by simpa using hc
     exact ⟨by omega, fun h => by omega⟩
    ·exact ih b h s (by omega) hps
theorem fwK_is {p : Nat → Bool} {n b : Nat} (hb : b < n) (hp : p b = true) (h : ∀ s, s < n → p s = true → cn b ≤ cn s ∧ (s < b → cn b < cn s)) : fwK p n = some b := by
 cases e : fwK p n with
 | none => exact absurd e (fwK_some n b hb hp)
 | some d =>
   obtain ⟨hd, hpd⟩ := fwK_lt n d e
   have h1 := fwK_least n d e b hb hp
   have h2 := h d hd hpd
   rcases Nat.lt_trichotomy b d with h3 | h3 | h3
   ·have := h1.2 h3; omega
   ·rw [h3]
   ·have := h2.2 h3; omega
theorem fwK_none {p : Nat → Bool} {n : Nat} (h : ∀ s, s < n → p s = false) : fwK p n = none := by
 cases e : fwK p n with
 | none => rfl
 | some b => obtain ⟨h1, h2⟩ := fwK_lt n b e; rw [h b h1] at h2; cases h2
theorem cn_full_table : ∀ m, m < 8 → ∀ s, s < 2 ^ m - 1 → cn s < m := by decide +kernel
theorem fw_found {p : Nat → Bool} {m n k : Nat} (hk : k < 2 ^ m - 1) (hn : cn k = n) (hp : p k = true) (hout : ∀ s, s < 2 ^ m - 1 → cn s < n → p s = false) (hin : ∀ s, s < k → cn s = n → p s = false) (hfull : p (2 ^ m - 1) = false) : fwK p (2 ^ m) = some k := by
 refine fwK_is (by omega) hp fun s hs hps => ?_
 have hne : s < 2 ^ m - 1 := by
  rcases (by omega : s < 2 ^ m - 1 ∨ s = 2 ^ m - 1) with h | h
  ·exact h
  ·rw [h, hfull] at hps; cases hps
 have h1 : n ≤ cn s := by
  rcases Nat.lt_or_ge (cn s) n with h | h
  ·rw [hout s hne h] at hps; cases hps
  ·exact h
 refine ⟨by omega, fun hsk => ?_⟩
 rcases (by omega : cn s = n ∨ n < cn s) with h | h
 ·rw [hin s hsk h] at hps; cases hps
 ·omega
theorem fw_never {p : Nat → Bool} {m : Nat} (hm : m ≤ 7) (hout : ∀ s, s < 2 ^ m - 1 → cn s < m → p s = false) (hfull : p (2 ^ m - 1) = false) : fwK p (2 ^ m) = none := by
 refine fwK_none fun s hs => ?_
 rcases (by omega : s < 2 ^ m - 1 ∨ s = 2 ^ m - 1) with h | h
 ·exact hout s h (cn_full_table m (by omega) s h)
 ·rw [h]; exact hfull
end Go.Proofs.YtppkokgiojcgbaaGreatDoor

/-
-/
namespace Go.Proofs.YtppkokgiojcgbaaGreatDoor
open Go.RowKit
noncomputable def isV (r : Nat → Nat) (m : Nat) (s : List UInt8) : Bool := isB (m : Int) m (fun v => (r v : Int)) s
noncomputable def inV (r : Nat → Nat) (s : List UInt8) (t : Nat) : Bool := isV (inR r t) (cn t) s
section
variable {A : Option Addr} {m c : Nat} {r : Nat → Nat} {w : World} {s : Nat}
theorem IsIn_v (h : GV w A m c r) (str : ByteArray) : Calls Tryz.prog 72 #[.agg #[.int .i64 m, .slice A m c], .string str] w fun e w' => e = .returned (.bool (isV r m str.toList)) ∧ Below w.heap.size w w' :=
 IsIn_i m A m c _ str w h.ga (by have := h.vg.n7; omega)
theorem IsIn_sv (h : GV w A m c r) (str : ByteArray) : Calls Tryz.prog 28 #[.agg #[.int .i64 m, .slice A m c], .string str] w fun e w' => e = .returned (.bool (isV r m str.toList)) ∧ Below w.heap.size w w' :=
 IsIn_s m A m c _ str w h.ga (by have := h.vg.n7; omega)
end
end Go.Proofs.YtppkokgiojcgbaaGreatDoor
