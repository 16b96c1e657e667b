/-
  Contracts: lists of numbers and of edges as text, the reference's way.
-/
import Derived.Test.YtppkokgiojcgbaaDoorQzDecS
import Derived.Test.YtppkokgiojcgbaaDoorQzDecI
import Derived.Laws.Closers25b
namespace Go.Proofs.YtppkokgiojcgbaaDoor
open Go.RowKit

set_option maxRecDepth 100000 in
set_option maxHeartbeats 3200000 in
theorem l33Numbers_s (A : Option Addr) (n c : Nat) (X : Nat → Int) (w : World) (h : Rd w w.heap.size A n c X) (hI : ∀ j, j < n → I64 (X j)) (hn : n ≤ 1048576) :
    Calls Tryd.prog 12 #[.slice A n c] w fun e w' => e = .returned (.string (nuB X n)) ∧ Below w.heap.size w w' := by
  have HL : Hid (∀ z : World, Below w.heap.size w z → Rd z z.heap.size A n c X) := fun z hz => h.keep hz hz.size
  have HI := Lib.hid hI
  clear h hI
  go_enter Tryd.func12, Tryd.ntmps12
  go_wp2
  go_loopw [3, 4] (fun s i wr => ∃ (k : Nat) (S : ByteArray), k ≤ n ∧ i = .int .i64 k ∧ s = .string S ∧ S.size ≤ 22 * k ∧ Hid (S = cmJ (fun j => itB (X j)) k) ∧ Hid (Below w.heap.size w wr)) (fun _ i _ => n - (intOf i).toNat)
  case atStart => exact ⟨0, _, Nat.zero_le _, rfl, rfl, Nat.zero_le _, rfl, Below.refl _ _⟩
  case round =>
    obtain ⟨k, S, hk, rfl, rfl, hS, HS, HB⟩ := hrel
    by_cases hlt : k < n
    · have i1 : (k : Int) < (n : Int) := by omega
      obtain ⟨b, o, rfl, hb, hc⟩ := (HL.out wr HB.out).2 (by omega)
      have q0 := hc k hlt
      have KF := Lib.hid (FormatInt_sa (X k) (HI.out k hlt) wr)
      have hP := itB_size (HI.out k hlt)
      have H1 : Hid (k = 0 → cmJ (fun j => itB (X j)) (k + 1) = S ++ itB (X k)) := fun h => by rw [cmJ_one _ h, HS.out]
      have H2 : Hid (k ≠ 0 → cmJ (fun j => itB (X j)) (k + 1) = S ++ ⟨#[44]⟩ ++ itB (X k)) := fun h => by rw [cmJ_more _ h, HS.out]
      clear hc HS
      obtain ⟨y, hy⟩ : ∃ y, y = X k := ⟨_, rfl⟩
      rw [← hy] at q0 KF hP H1 H2
      obtain ⟨P, hPP⟩ : ∃ P, P = itB y := ⟨_, rfl⟩
      rw [← hPP] at KF hP H1 H2
      clear hy hPP
      have hs : S.size ≤ 23068672 := by omega
      by_cases h0 : k = 0
      · have i3 : (k : Int) ≤ (0 : Int) := by omega
        have HJ := Lib.hid (H1.out h0)
        have h7 : ¬ 9223372036854775807 < S.size + P.size := by omega
        have Hsz : Hid ((S ++ P).size ≤ 22 * (k + 1)) := by show _ ≤ _; rw [ByteArray.size_append]; omega
        clear H1 H2 h0
        go_wp2_with fail
        refine KF.out.mono ?_
        rintro e w1 ⟨rfl, hb1⟩
        have HB1 : Hid (Below w.heap.size w w1) := HB.out.trans (hb1.mono HB.out.size)
        clear hb1 HB KF q0
        go_wp2
        go_roundw
        case rel => exact ⟨k + 1, _, by omega, by go_num, rfl, Hsz.out, HJ.out.symm, HB1⟩
        case measure => (simp [intOf] <;> omega)
      · have i3 : (0 : Int) < (k : Int) := by omega
        have HJ := Lib.hid (H2.out h0)
        have h7 : ¬ 9223372036854775807 < (S ++ ⟨#[44]⟩).size + P.size := by rw [ByteArray.size_append]; show ¬ _ < S.size + 1 + _; omega
        have Hsz : Hid ((S ++ ⟨#[44]⟩ ++ P).size ≤ 22 * (k + 1)) := by show _ ≤ _; rw [ByteArray.size_append, ByteArray.size_append]; show S.size + 1 + _ ≤ _; omega
        clear H1 H2 h0
        go_wp2_with fail
        refine KF.out.mono ?_
        rintro e w1 ⟨rfl, hb1⟩
        have HB1 : Hid (Below w.heap.size w w1) := HB.out.trans (hb1.mono HB.out.size)
        clear hb1 HB KF q0
        go_wp2
        go_roundw
        case rel => exact ⟨k + 1, _, by omega, by go_num, rfl, Hsz.out, HJ.out.symm, HB1⟩
        case measure => (simp [intOf] <;> omega)
    · have i1 : (n : Int) ≤ (k : Int) := by omega
      obtain rfl : k = n := by omega
      by_cases he : S.toList = []
      · have HO : Hid (nuB X k = ⟨#[110, 111, 110, 101]⟩) := by show noB _ = _; rw [← HS.out]; exact noB_yes he
        have hbe : S.toList.isEmpty = true := by rw [he]; rfl
        clear he
        go_wp2
        go_ret
        exact ⟨by rw [HO.out]; rfl, HB.out⟩
      · have HO : Hid (nuB X k = S) := by show noB _ = _; rw [← HS.out]; exact noB_no he
        have hbe : S.toList.isEmpty = false := by rw [List.isEmpty_eq_false_iff]; exact he
        clear he
        go_wp2
        go_ret
        exact ⟨by rw [HO.out]; rfl, HB.out⟩

end Go.Proofs.YtppkokgiojcgbaaDoor
