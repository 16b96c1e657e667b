/-
  Several texts in one: words for memory, plain laws and contracts that the later texts lean on.
-/
import Derived.Test.YtmkahbephidmbaaGreatQeIsinI
import Derived.Test.YtmkahbephidmbaaGreatQeUmoS
import Derived.Test.YtmkahbephidmbaaGreatQeSmoS
import Derived.Test.YtmkahbephidmbaaGreatQeSplS
import Derived.Test.YtmkahbephidmbaaGreatQePthS
import Derived.Test.YtmkahbephidmbaaGreatQeThoS
import Derived.Test.YtmkahbephidmbaaGreatQePrfS
import Derived.Test.YtmkahbephidmbaaGreatQeCluS
import Derived.Test.YtmkahbephidmbaaGreatQeSidS
import Derived.Test.YtmkahbephidmbaaGreatQeInP
import Derived.Test.YtmkahbephidmbaaGreatQeGA
import Derived.Test.YtmkahbephidmbaaGreatQeHamT
/-
  Contracts: is a graph in a class? The reference's answer.
-/
namespace Go.Proofs.YtmkahbephidmbaaGreat
open Go.RowKit

section
variable (sz : Int) (A : Option Addr) (m c : Nat) (x : Nat → Int) (str : ByteArray) (w : World)
theorem IsChordal_sg (h : GA w A m c x) (hm : m ≤ 1048576) :
    Calls Tryz.prog 79 #[.agg #[.int .i64 sz, .slice A m c]] w fun e w' => e = .returned (.bool (chB sz m x)) ∧ Below w.heap.size w w' := IsChordal_s sz A m c x w w.heap.size h.rd (Nat.le_refl _) hm
theorem IsStronglyChordal_sg (h : GA w A m c x) (hm : m ≤ 1048576) :
    Calls Tryz.prog 86 #[.agg #[.int .i64 sz, .slice A m c]] w fun e w' => e = .returned (.bool (sgB sz m x)) ∧ Below w.heap.size w w' := IsStronglyChordal_s sz A m c x w w.heap.size h.rd (Nat.le_refl _) hm
set_option maxRecDepth 100000 in
set_option maxHeartbeats 6400000 in
theorem IsIn_s (h : GA w A m c x) (hm : m ≤ 1048576) :
    Calls Tryz.prog 20 #[.agg #[.int .i64 sz, .slice A m c], .string str] w fun e w' => e = .returned (.bool (isB sz m x str.toList)) ∧ Below w.heap.size w w' := by
  obtain ⟨W, hW⟩ : ∃ W : World, W = (w.alloc (Obj.cells #[Value.int IntKind.i64 sz, Value.slice A m c] 30)) := ⟨_, rfl⟩
  have HB : Hid (From w W) := by rw [hW]; exact From.alloc _ _
  have HK := Lib.hid (h.keep HB.out.below)
  have HC : Hid (GC W w.heap.size sz A m c) := by rw [hW]; exact GC.new _ _ _ _ _
  have HW := Lib.hid hW
  have HR : Hid (isB sz m x str.toList = isB sz m x str.toList) := rfl
  clear hW h
  by_cases e0 : str.toList = [99, 104, 111, 114, 100, 97, 108]
  · have r : Hid (isB sz m x str.toList = chB sz m x) := by show _ = _; unfold isB; rw [if_pos e0]
    have f0 : (str.toList == [99, 104, 111, 114, 100, 97, 108]) = true := by simpa using e0
    clear HR e0
    go_enter Tryz.func20, Tryz.ntmps20
    have e0 := HC.out.c0
    have e1 := HC.out.c1
    go_wp2_with fail
    rw [← HW.out]
    refine (IsChordal_sg sz A m c x W HK.out hm).mono ?_
    rintro e w1 ⟨rfl, hb1⟩
    clear HW
    clear e0 e1
    replace HB := Lib.hid (HB.out.keep hb1)
    replace HK := Lib.hid (HK.out.keep hb1)
    replace HC := Lib.hid (HC.out.keep hb1)
    clear hb1
    have e0 := HC.out.c0
    have e1 := HC.out.c1
    go_wp2
    go_ret
    exact ⟨ret_bool r.out.symm, HB.out.below⟩
  by_cases e1 : str.toList = [105, 110, 116, 101, 114, 118, 97, 108]
  · have r : Hid (isB sz m x str.toList = ivG sz m x) := by show _ = _; unfold isB; rw [if_neg e0, if_pos e1]
    have f0 : (str.toList == [99, 104, 111, 114, 100, 97, 108]) = false := by simpa using e0
    have f1 : (str.toList == [105, 110, 116, 101, 114, 118, 97, 108]) = true := by simpa using e1
    clear HR e0 e1
    go_enter Tryz.func20, Tryz.ntmps20
    have e0 := HC.out.c0
    have e1 := HC.out.c1
    go_wp2_with fail
    rw [← HW.out]
    refine (IsInterval_s sz A m c x W HK.out hm).mono ?_
    rintro e w2 ⟨rfl, hb2⟩
    clear HW
    clear e0 e1
    replace HB := Lib.hid (HB.out.keep hb2)
    replace HK := Lib.hid (HK.out.keep hb2)
    replace HC := Lib.hid (HC.out.keep hb2)
    clear hb2
    have e0 := HC.out.c0
    have e1 := HC.out.c1
    go_wp2
    go_ret
    exact ⟨ret_bool r.out.symm, HB.out.below⟩
  by_cases e2 : str.toList = [112, 114, 111, 112, 101, 114]
  · have r : Hid (isB sz m x str.toList = ppB sz m x) := by show _ = _; unfold isB; rw [if_neg e0, if_neg e1, if_pos e2]
    have f0 : (str.toList == [99, 104, 111, 114, 100, 97, 108]) = false := by simpa using e0
    have f1 : (str.toList == [105, 110, 116, 101, 114, 118, 97, 108]) = false := by simpa using e1
    have f2 : (str.toList == [112, 114, 111, 112, 101, 114]) = true := by simpa using e2
    clear HR e0 e1 e2
    go_enter Tryz.func20, Tryz.ntmps20
    have e0 := HC.out.c0
    have e1 := HC.out.c1
    go_wp2_with fail
    rw [← HW.out]
    refine (IsProper_s sz A m c x W HK.out hm).mono ?_
    rintro e w3 ⟨rfl, hb3⟩
    clear HW
    clear e0 e1
    replace HB := Lib.hid (HB.out.keep hb3)
    replace HK := Lib.hid (HK.out.keep hb3)
    replace HC := Lib.hid (HC.out.keep hb3)
    clear hb3
    have e0 := HC.out.c0
    have e1 := HC.out.c1
    go_wp2
    go_ret
    exact ⟨ret_bool r.out.symm, HB.out.below⟩
  by_cases e3 : str.toList = [99, 111, 103, 114, 97, 112, 104]
  · have r : Hid (isB sz m x str.toList = cgB sz m x) := by show _ = _; unfold isB; rw [if_neg e0, if_neg e1, if_neg e2, if_pos e3]
    have f0 : (str.toList == [99, 104, 111, 114, 100, 97, 108]) = false := by simpa using e0
    have f1 : (str.toList == [105, 110, 116, 101, 114, 118, 97, 108]) = false := by simpa using e1
    have f2 : (str.toList == [112, 114, 111, 112, 101, 114]) = false := by simpa using e2
    have f3 : (str.toList == [99, 111, 103, 114, 97, 112, 104]) = true := by simpa using e3
    clear HR e0 e1 e2 e3
    go_enter Tryz.func20, Tryz.ntmps20
    have e0 := HC.out.c0
    have e1 := HC.out.c1
    go_wp2_with fail
    rw [← HW.out]
    refine (IsCograph_s sz A m c x W HK.out hm).mono ?_
    rintro e w4 ⟨rfl, hb4⟩
    clear HW
    clear e0 e1
    replace HB := Lib.hid (HB.out.keep hb4)
    replace HK := Lib.hid (HK.out.keep hb4)
    replace HC := Lib.hid (HC.out.keep hb4)
    clear hb4
    have e0 := HC.out.c0
    have e1 := HC.out.c1
    go_wp2
    go_ret
    exact ⟨ret_bool r.out.symm, HB.out.below⟩
  by_cases e4 : str.toList = [115, 112, 108, 105, 116]
  · have r : Hid (isB sz m x str.toList = slB sz m x) := by show _ = _; unfold isB; rw [if_neg e0, if_neg e1, if_neg e2, if_neg e3, if_pos e4]
    have f0 : (str.toList == [99, 104, 111, 114, 100, 97, 108]) = false := by simpa using e0
    have f1 : (str.toList == [105, 110, 116, 101, 114, 118, 97, 108]) = false := by simpa using e1
    have f2 : (str.toList == [112, 114, 111, 112, 101, 114]) = false := by simpa using e2
    have f3 : (str.toList == [99, 111, 103, 114, 97, 112, 104]) = false := by simpa using e3
    have f4 : (str.toList == [115, 112, 108, 105, 116]) = true := by simpa using e4
    clear HR e0 e1 e2 e3 e4
    go_enter Tryz.func20, Tryz.ntmps20
    have e0 := HC.out.c0
    have e1 := HC.out.c1
    go_wp2_with fail
    rw [← HW.out]
    refine (IsSplit_s sz A m c x W HK.out hm).mono ?_
    rintro e w5 ⟨rfl, hb5⟩
    clear HW
    clear e0 e1
    replace HB := Lib.hid (HB.out.keep hb5)
    replace HK := Lib.hid (HK.out.keep hb5)
    replace HC := Lib.hid (HC.out.keep hb5)
    clear hb5
    have e0 := HC.out.c0
    have e1 := HC.out.c1
    go_wp2
    go_ret
    exact ⟨ret_bool r.out.symm, HB.out.below⟩
  by_cases e5 : str.toList = [116, 104, 114, 101, 115, 104, 111, 108, 100]
  · have r : Hid (isB sz m x str.toList = toB sz m x) := by show _ = _; unfold isB; rw [if_neg e0, if_neg e1, if_neg e2, if_neg e3, if_neg e4, if_pos e5]
    have f0 : (str.toList == [99, 104, 111, 114, 100, 97, 108]) = false := by simpa using e0
    have f1 : (str.toList == [105, 110, 116, 101, 114, 118, 97, 108]) = false := by simpa using e1
    have f2 : (str.toList == [112, 114, 111, 112, 101, 114]) = false := by simpa using e2
    have f3 : (str.toList == [99, 111, 103, 114, 97, 112, 104]) = false := by simpa using e3
    have f4 : (str.toList == [115, 112, 108, 105, 116]) = false := by simpa using e4
    have f5 : (str.toList == [116, 104, 114, 101, 115, 104, 111, 108, 100]) = true := by simpa using e5
    clear HR e0 e1 e2 e3 e4 e5
    go_enter Tryz.func20, Tryz.ntmps20
    have e0 := HC.out.c0
    have e1 := HC.out.c1
    go_wp2_with fail
    rw [← HW.out]
    refine (IsThreshold_s sz A m c x W HK.out hm).mono ?_
    rintro e w6 ⟨rfl, hb6⟩
    clear HW
    clear e0 e1
    replace HB := Lib.hid (HB.out.keep hb6)
    replace HK := Lib.hid (HK.out.keep hb6)
    replace HC := Lib.hid (HC.out.keep hb6)
    clear hb6
    have e0 := HC.out.c0
    have e1 := HC.out.c1
    go_wp2
    go_ret
    exact ⟨ret_bool r.out.symm, HB.out.below⟩
  by_cases e6 : str.toList = [98, 105, 112, 97, 114, 116, 105, 116, 101]
  · have r : Hid (isB sz m x str.toList = biB sz m x) := by show _ = _; unfold isB; rw [if_neg e0, if_neg e1, if_neg e2, if_neg e3, if_neg e4, if_neg e5, if_pos e6]
    have f0 : (str.toList == [99, 104, 111, 114, 100, 97, 108]) = false := by simpa using e0
    have f1 : (str.toList == [105, 110, 116, 101, 114, 118, 97, 108]) = false := by simpa using e1
    have f2 : (str.toList == [112, 114, 111, 112, 101, 114]) = false := by simpa using e2
    have f3 : (str.toList == [99, 111, 103, 114, 97, 112, 104]) = false := by simpa using e3
    have f4 : (str.toList == [115, 112, 108, 105, 116]) = false := by simpa using e4
    have f5 : (str.toList == [116, 104, 114, 101, 115, 104, 111, 108, 100]) = false := by simpa using e5
    have f6 : (str.toList == [98, 105, 112, 97, 114, 116, 105, 116, 101]) = true := by simpa using e6
    clear HR e0 e1 e2 e3 e4 e5 e6
    go_enter Tryz.func20, Tryz.ntmps20
    have e0 := HC.out.c0
    have e1 := HC.out.c1
    go_wp2_with fail
    rw [← HW.out]
    refine (IsBipartite_s sz A m c x W HK.out hm).mono ?_
    rintro e w7 ⟨rfl, hb7⟩
    clear HW
    clear e0 e1
    replace HB := Lib.hid (HB.out.keep hb7)
    replace HK := Lib.hid (HK.out.keep hb7)
    replace HC := Lib.hid (HC.out.keep hb7)
    clear hb7
    have e0 := HC.out.c0
    have e1 := HC.out.c1
    go_wp2
    go_ret
    exact ⟨ret_bool r.out.symm, HB.out.below⟩
  by_cases e7 : str.toList = [115, 116, 114, 111, 110, 103]
  · have r : Hid (isB sz m x str.toList = sgB sz m x) := by show _ = _; unfold isB; rw [if_neg e0, if_neg e1, if_neg e2, if_neg e3, if_neg e4, if_neg e5, if_neg e6, if_pos e7]
    have f0 : (str.toList == [99, 104, 111, 114, 100, 97, 108]) = false := by simpa using e0
    have f1 : (str.toList == [105, 110, 116, 101, 114, 118, 97, 108]) = false := by simpa using e1
    have f2 : (str.toList == [112, 114, 111, 112, 101, 114]) = false := by simpa using e2
    have f3 : (str.toList == [99, 111, 103, 114, 97, 112, 104]) = false := by simpa using e3
    have f4 : (str.toList == [115, 112, 108, 105, 116]) = false := by simpa using e4
    have f5 : (str.toList == [116, 104, 114, 101, 115, 104, 111, 108, 100]) = false := by simpa using e5
    have f6 : (str.toList == [98, 105, 112, 97, 114, 116, 105, 116, 101]) = false := by simpa using e6
    have f7 : (str.toList == [115, 116, 114, 111, 110, 103]) = true := by simpa using e7
    clear HR e0 e1 e2 e3 e4 e5 e6 e7
    go_enter Tryz.func20, Tryz.ntmps20
    have e0 := HC.out.c0
    have e1 := HC.out.c1
    go_wp2_with fail
    rw [← HW.out]
    refine (IsStronglyChordal_sg sz A m c x W HK.out hm).mono ?_
    rintro e w8 ⟨rfl, hb8⟩
    clear HW
    clear e0 e1
    replace HB := Lib.hid (HB.out.keep hb8)
    replace HK := Lib.hid (HK.out.keep hb8)
    replace HC := Lib.hid (HC.out.keep hb8)
    clear hb8
    have e0 := HC.out.c0
    have e1 := HC.out.c1
    go_wp2
    go_ret
    exact ⟨ret_bool r.out.symm, HB.out.below⟩
  by_cases e8 : str.toList = [112, 101, 114, 102, 101, 99, 116]
  · have r : Hid (isB sz m x str.toList = peB sz m x) := by show _ = _; unfold isB; rw [if_neg e0, if_neg e1, if_neg e2, if_neg e3, if_neg e4, if_neg e5, if_neg e6, if_neg e7, if_pos e8]
    have f0 : (str.toList == [99, 104, 111, 114, 100, 97, 108]) = false := by simpa using e0
    have f1 : (str.toList == [105, 110, 116, 101, 114, 118, 97, 108]) = false := by simpa using e1
    have f2 : (str.toList == [112, 114, 111, 112, 101, 114]) = false := by simpa using e2
    have f3 : (str.toList == [99, 111, 103, 114, 97, 112, 104]) = false := by simpa using e3
    have f4 : (str.toList == [115, 112, 108, 105, 116]) = false := by simpa using e4
    have f5 : (str.toList == [116, 104, 114, 101, 115, 104, 111, 108, 100]) = false := by simpa using e5
    have f6 : (str.toList == [98, 105, 112, 97, 114, 116, 105, 116, 101]) = false := by simpa using e6
    have f7 : (str.toList == [115, 116, 114, 111, 110, 103]) = false := by simpa using e7
    have f8 : (str.toList == [112, 101, 114, 102, 101, 99, 116]) = true := by simpa using e8
    clear HR e0 e1 e2 e3 e4 e5 e6 e7 e8
    go_enter Tryz.func20, Tryz.ntmps20
    have e0 := HC.out.c0
    have e1 := HC.out.c1
    go_wp2_with fail
    rw [← HW.out]
    refine (IsPerfect_s sz A m c x W HK.out hm).mono ?_
    rintro e w9 ⟨rfl, hb9⟩
    clear HW
    clear e0 e1
    replace HB := Lib.hid (HB.out.keep hb9)
    replace HK := Lib.hid (HK.out.keep hb9)
    replace HC := Lib.hid (HC.out.keep hb9)
    clear hb9
    have e0 := HC.out.c0
    have e1 := HC.out.c1
    go_wp2
    go_ret
    exact ⟨ret_bool r.out.symm, HB.out.below⟩
  have r : Hid (isB sz m x str.toList = false) := by show _ = _; unfold isB; rw [if_neg e0, if_neg e1, if_neg e2, if_neg e3, if_neg e4, if_neg e5, if_neg e6, if_neg e7, if_neg e8]
  have f0 : (str.toList == [99, 104, 111, 114, 100, 97, 108]) = false := by simpa using e0
  have f1 : (str.toList == [105, 110, 116, 101, 114, 118, 97, 108]) = false := by simpa using e1
  have f2 : (str.toList == [112, 114, 111, 112, 101, 114]) = false := by simpa using e2
  have f3 : (str.toList == [99, 111, 103, 114, 97, 112, 104]) = false := by simpa using e3
  have f4 : (str.toList == [115, 112, 108, 105, 116]) = false := by simpa using e4
  have f5 : (str.toList == [116, 104, 114, 101, 115, 104, 111, 108, 100]) = false := by simpa using e5
  have f6 : (str.toList == [98, 105, 112, 97, 114, 116, 105, 116, 101]) = false := by simpa using e6
  have f7 : (str.toList == [115, 116, 114, 111, 110, 103]) = false := by simpa using e7
  have f8 : (str.toList == [112, 101, 114, 102, 101, 99, 116]) = false := by simpa using e8
  clear e0 e1 e2 e3 e4 e5 e6 e7 e8
  go_enter Tryz.func20, Tryz.ntmps20
  go_wp2
  rw [← HW.out]
  go_ret
  exact ⟨ret_bool r.out.symm, HB.out.below⟩
end
end Go.Proofs.YtmkahbephidmbaaGreat

/-
  Plain: the least of the sets with fewest vertices for which something holds, as one who goes by the number of vertices finds it.
-/
namespace Go.Proofs.YtmkahbephidmbaaGreat
open Go.RowKit

theorem fwK_least {p : Nat → Bool} : ∀ k b, fwK p k = some b → ∀ s, s < k → p s = true → cn b ≤ cn s ∧ (s < b → cn b < cn s) := by
  intro k
  induction k with
  | zero => intro b h; cases h
  | succ k ih =>
    intro b h s hs hps
    by_cases hc : (((fwK p k).all fun b => decide (cn k < cn b)) && p k) = true
    · rw [fwK, if_pos hc] at h
      injection h with h
      subst h
      rw [Bool.and_eq_true] at hc
      by_cases hsk : s = k
      · subst hsk; exact ⟨Nat.le_refl _, fun h => absurd h (by omega)⟩
      · cases e : fwK p k with
        | none => exact absurd e (fwK_some k s (by omega) hps)
        | some b' =>
          have h1 := hc.1
          rw [e] at h1
          have h2 : cn k < cn b' := by simpa using h1
          have h3 := (ih b' e s (by omega) hps).1
          exact ⟨by omega, fun _ => by omega⟩
    · rw [fwK, if_neg hc] at h
      have hbk := fwK_lt k b h
      by_cases hsk : s = k
      · subst hsk
        rw [h, hps] at hc
        have h2 : ¬ cn s < cn b := by simpa using hc
        exact ⟨by omega, fun h => by omega⟩
      · exact ih b h s (by omega) hps
theorem fwK_is {p : Nat → Bool} {n b : Nat} (hb : b < n) (hp : p b = true) (h : ∀ s, s < n → p s = true → cn b ≤ cn s ∧ (s < b → cn b < cn s)) : fwK p n = some b := by
  cases e : fwK p n with
  | none => exact absurd e (fwK_some n b hb hp)
  | some d =>
    obtain ⟨hd, hpd⟩ := fwK_lt n d e
    have h1 := fwK_least n d e b hb hp
    have h2 := h d hd hpd
    rcases Nat.lt_trichotomy b d with h3 | h3 | h3
    · have := h1.2 h3; omega
    · rw [h3]
    · have := h2.2 h3; omega
theorem fwK_none {p : Nat → Bool} {n : Nat} (h : ∀ s, s < n → p s = false) : fwK p n = none := by
  cases e : fwK p n with
  | none => rfl
  | some b => obtain ⟨h1, h2⟩ := fwK_lt n b e; rw [h b h1] at h2; cases h2
theorem cn_full_table : ∀ m, m < 8 → ∀ s, s < 2 ^ m - 1 → cn s < m := by decide +kernel
theorem fw_found {p : Nat → Bool} {m n k : Nat} (hk : k < 2 ^ m - 1) (hn : cn k = n) (hp : p k = true) (hout : ∀ s, s < 2 ^ m - 1 → cn s < n → p s = false) (hin : ∀ s, s < k → cn s = n → p s = false) (hfull : p (2 ^ m - 1) = false) : fwK p (2 ^ m) = some k := by
  refine fwK_is (by omega) hp fun s hs hps => ?_
  have hne : s < 2 ^ m - 1 := by
    rcases (by omega : s < 2 ^ m - 1 ∨ s = 2 ^ m - 1) with h | h
    · exact h
    · rw [h, hfull] at hps; cases hps
  have h1 : n ≤ cn s := by
    rcases Nat.lt_or_ge (cn s) n with h | h
    · rw [hout s hne h] at hps; cases hps
    · exact h
  refine ⟨by omega, fun hsk => ?_⟩
  rcases (by omega : cn s = n ∨ n < cn s) with h | h
  · rw [hin s hsk h] at hps; cases hps
  · omega
theorem fw_never {p : Nat → Bool} {m : Nat} (hm : m ≤ 7) (hout : ∀ s, s < 2 ^ m - 1 → cn s < m → p s = false) (hfull : p (2 ^ m - 1) = false) : fwK p (2 ^ m) = none := by
  refine fwK_none fun s hs => ?_
  rcases (by omega : s < 2 ^ m - 1 ∨ s = 2 ^ m - 1) with h | h
  · exact hout s h (cn_full_table m (by omega) s h)
  · rw [h]; exact hfull
end Go.Proofs.YtmkahbephidmbaaGreat

/-
  Contracts over valid graphs: is a graph in a class? The graph of a set, as a valid graph. Both sides.
-/
namespace Go.Proofs.YtmkahbephidmbaaGreat
open Go.RowKit

noncomputable def isV (r : Nat → Nat) (m : Nat) (s : List UInt8) : Bool := isB (m : Int) m (fun v => (r v : Int)) s
noncomputable def inV (r : Nat → Nat) (s : List UInt8) (t : Nat) : Bool := isV (inR r t) (cn t) s
section
variable {A : Option Addr} {m c : Nat} {r : Nat → Nat} {w : World} {s : Nat}
theorem IsIn_v (h : GV w A m c r) (str : ByteArray) : Calls Tryz.prog 22 #[.agg #[.int .i64 m, .slice A m c], .string str] w fun e w' => e = .returned (.bool (isV r m str.toList)) ∧ Below w.heap.size w w' :=
  IsIn_i m A m c _ str w h.ga (by have := h.vg.n7; omega)
theorem IsIn_sv (h : GV w A m c r) (str : ByteArray) : Calls Tryz.prog 20 #[.agg #[.int .i64 m, .slice A m c], .string str] w fun e w' => e = .returned (.bool (isV r m str.toList)) ∧ Below w.heap.size w w' :=
  IsIn_s m A m c _ str w h.ga (by have := h.vg.n7; omega)
theorem induced_g (h : GV w A m c r) (hs : s < 2 ^ m) (h0 : s ≠ 0) :
    Calls Tryz.prog 99 #[.agg #[.int .i64 m, .slice A m c], .int .i64 s] w fun e w' => ∃ A' c', e = .returned (.agg #[.int .i64 (cn s : Nat), .slice A' (cn s) c']) ∧ GV w' A' (cn s) c' (inR r s) ∧ Below w.heap.size w w' :=
  (induced_v h hs h0).mono fun _ _ ⟨A', c', h1, h2, h3⟩ => ⟨A', c', h1, ind_gv h.vg hs h0 h2 (Nat.le_refl _), h3⟩
end
/-- The set without one vertex. -/
def wo1 (m v : Nat) : Nat := (2 ^ m - 1) ^^^ 2 ^ v
theorem wo1_t : ∀ m, m < 8 → ∀ v, v < m → (2 ^ m - 1) ^^^ ((2 ^ m - 1) &&& 2 ^ v) = wo1 m v ∧ 2 ^ m - 1 - 2 ^ v = wo1 m v ∧ wo1 m v < 2 ^ m ∧ 2 ^ v ≤ 2 ^ m - 1 ∧ (1 < m → wo1 m v ≠ 0) := by decide +kernel
noncomputable def heV (r : Nat → Nat) (m : Nat) (s : List UInt8) : Bool := isV r m s && (decide (m ≤ 1) || (List.range m).all fun v => inV r s (wo1 m v))
theorem heV_no {r : Nat → Nat} {m : Nat} {s : List UInt8} (h : isV r m s = false) : heV r m s = false := by unfold heV; rw [h]; rfl
theorem heV_out {r : Nat → Nat} {m v : Nat} {s : List UInt8} (h1 : 1 < m) (hv : v < m) (h : inV r s (wo1 m v) = false) : heV r m s = false := by
  unfold heV
  rw [decide_eq_false (by omega), Bool.false_or]
  have : ((List.range m).all fun v => inV r s (wo1 m v)) = false := by
    rw [List.all_eq_false]
    exact ⟨v, List.mem_range.2 hv, by rw [h]; simp⟩
  rw [this, Bool.and_false]
theorem heV_end {r : Nat → Nat} {m : Nat} {s : List UInt8} (h : m ≤ 1 ∨ ∀ u, u < m → inV r s (wo1 m u) = true) : heV r m s = isV r m s := by
  unfold heV
  have : (decide (m ≤ 1) || (List.range m).all fun v => inV r s (wo1 m v)) = true := by
    rcases h with h | h
    · rw [decide_eq_true h]; rfl
    · rw [Bool.or_eq_true]
      exact .inr (List.all_eq_true.2 fun v hv => h v (List.mem_range.1 hv))
  rw [this, Bool.and_true]
noncomputable def heB (sz : Int) (m : Nat) (x : Nat → Int) (s : List UInt8) : Bool := okB sz m x && heV (rw_ x) m s
theorem heB_no {sz : Int} {m : Nat} {x : Nat → Int} {s : List UInt8} (h : okB sz m x = false) : heB sz m x s = false := by unfold heB; rw [h]; rfl
theorem heB_yes {sz : Int} {m : Nat} {x : Nat → Int} {s : List UInt8} (h : okB sz m x = true) : heB sz m x s = heV (rw_ x) m s := by unfold heB; rw [h]; rfl
end Go.Proofs.YtmkahbephidmbaaGreat
