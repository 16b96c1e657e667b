/-
  Contracts: FormatSet of both programs.
-/
import Derived.Test.YtppkokgiojcgbaaDoorQzDecR
import Derived.Test.YtppkokgiojcgbaaDoorQzFgI
import Derived.Test.YtppkokgiojcgbaaDoorQzGB
namespace Go.Proofs.YtppkokgiojcgbaaDoor
open Go.RowKit

/-- A set as text. -/
def fsT (s : Nat) : ByteArray := if s = 0 then ⟨#[45]⟩ else dgJ (fun j => (((listN s).getD j 0 : Nat) : Int)) (listN s).length
theorem fsT_zero : fsT 0 = ⟨#[45]⟩ := if_pos rfl
theorem fsT_pos {s : Nat} (h : s ≠ 0) : fsT s = dgJ (fun j => (((listN s).getD j 0 : Nat) : Int)) (listN s).length := if_neg h
theorem lnI {s j : Nat} (h : j < (listN s).length) : (listN s).getD j 0 < 7 := by
  have e : (listN s).getD j 0 = (listN s)[j] := by simp [List.getD, h]
  rw [e]; exact (listN_at h).1
theorem fsT_size (s : Nat) : (fsT s).size ≤ 147 := by
  unfold fsT
  split
  · show 1 ≤ 147; omega
  · have h1 := dgJ_size (X := fun j => (((listN s).getD j 0 : Nat) : Int)) (listN s).length (fun j hj => by have := lnI hj; exact ⟨by omega, by omega⟩)
    have := listN_len s
    omega
theorem listN_some {s : Nat} (h : s ≠ 0) (hs : s < 128) : (listN s).length ≠ 0 := by
  intro h0
  have hall : ∀ j, j < 7 → s.testBit j = false := by
    intro j hj
    cases hb : s.testBit j
    · rfl
    · have hm : j ∈ listN s := mem_listN.2 ⟨hj, hb⟩
      rw [List.length_eq_zero_iff.1 h0] at hm
      cases hm
  refine h (Nat.eq_of_testBit_eq fun j => ?_)
  rw [Nat.zero_testBit]
  by_cases hj : j < 7
  · exact hall j hj
  · exact Nat.testBit_lt_two_pow (Nat.lt_of_lt_of_le hs (Nat.le_trans (show 128 ≤ 2 ^ 7 by decide) (Nat.pow_le_pow_right (by omega) (by omega))))
theorem dgJ_pos {X : Nat → Int} {n : Nat} (h : n ≠ 0) : (dgJ X n).toList.isEmpty = false := by
  obtain ⟨k, rfl⟩ : ∃ k, n = k + 1 := ⟨n - 1, by omega⟩
  have hi : 0 < (itB (X k)).size := by
    show 0 < (Lib.itoa (X k)).toArray.size
    unfold Lib.itoa
    split
    · simp
    · rw [List.size_toArray, Lib.decDigits_length]; exact Lib.nDigits_pos _
  rw [List.isEmpty_eq_false_iff]
  intro h2
  have := congrArg List.length h2
  rw [ByteArray.toList_eq] at this
  have h3 : (dgJ X k ++ itB (X k)).size = 0 := by
    have : (dgJ X (k + 1)).size = 0 := by simpa using this
    exact this
  rw [ByteArray.size_append] at h3
  omega

set_option maxRecDepth 100000 in
set_option maxHeartbeats 2000000 in
theorem FormatSet_i (s : Nat) (hs : s < 128) (w : World) (ht : Tb w) :
    Calls Tryd.prog 49 #[.int .i64 s] w fun e w' => e = .returned (.string (fsT s)) ∧ Below w.heap.size w w' := by
  by_cases h0 : s = 0
  · subst h0
    have HO := Lib.hid fsT_zero
    go_enter Tryd.func49, Tryd.ntmps49
    go_wp2
    go_ret
    exact ⟨by rw [HO.out]; rfl, Below.refl _ _⟩
  · have HO := Lib.hid (fsT_pos h0)
    have hz : ((s : Int) == 0) = false := by rw [beq_eq_false_iff_ne]; omega
    have KL := Lib.hid (ListOf_i s hs w)
    have HT := Lib.hid ht
    have hl := listN_len s
    clear ht
    go_enter Tryd.func49, Tryd.ntmps49
    go_wp2_with fail
    refine KL.out.mono ?_
    rintro e w1 ⟨A, c, rfl, hO, hb1⟩
    have KD := Lib.hid (digits_i A (listN s).length c (fun j => (((listN s).getD j 0 : Nat) : Int)) w1 (Own.rd hO) (fun j hj => by have := lnI hj; exact ⟨by omega, by omega⟩) (by omega) (HT.out.keep hb1))
    have HB := Lib.hid hb1
    clear hO hb1 h0 hl
    go_wp2_with fail
    refine KD.out.mono ?_
    rintro e w2 ⟨rfl, hb2⟩
    have HB2 : Hid (Below w.heap.size w w2) := HB.out.trans (hb2.mono HB.out.size)
    clear hb2
    go_wp2
    go_ret
    exact ⟨by rw [HO.out]; rfl, HB2.out⟩

set_option maxRecDepth 100000 in
set_option maxHeartbeats 3200000 in
theorem FormatSet_s (s : Nat) (hs : s < 128) (w : World) :
    Calls Tryd.prog 36 #[.int .i64 s] w fun e w' => e = .returned (.string (fsT s)) ∧ Below w.heap.size w w' := by
  have KL := Lib.hid (ListOf_s s hs w)
  have h0 : (0 : Int) ≤ s := by omega
  have h1 : (s : Int) ≤ 127 := by omega
  have HI : Hid (∀ j, j < (listN s).length → (listN s).getD j 0 < 7) := fun j hj => lnI hj
  have HO : Hid ((listN s).length = 0 → fsT s = ⟨#[45]⟩) := fun h => by
    by_cases hz : s = 0
    · rw [hz]; exact fsT_zero
    · exact absurd h (listN_some hz hs)
  have HP : Hid ((listN s).length ≠ 0 → fsT s = dgJ (fun j => (((listN s).getD j 0 : Nat) : Int)) (listN s).length) := fun h => by
    by_cases hz : s = 0
    · subst hz; exact absurd rfl h
    · exact fsT_pos hz
  have hl := listN_len s
  clear hs
  go_enter Tryd.func36, Tryd.ntmps36
  go_wp2_with fail
  refine KL.out.mono ?_
  rintro e w1 ⟨A, c, rfl, hO, hb1⟩
  have HL : Hid (∀ z, Below w1.heap.size w1 z → Rd z z.heap.size A (listN s).length c (fun j => (((listN s).getD j 0 : Nat) : Int))) := fun z hz => (Own.rd hO).keep hz hz.size
  have HB := Lib.hid hb1
  obtain ⟨L, hL⟩ : ∃ L, L = listN s := ⟨_, rfl⟩
  obtain ⟨n, hn⟩ : ∃ n, n = L.length := ⟨_, rfl⟩
  rw [← hL] at HL HI HO HP hl ⊢
  rw [← hn] at HL HI HO HP hl ⊢
  clear hO hb1 hL hn KL
  go_wp2
  go_loopw [4, 5] (fun t i wr => ∃ (k : Nat) (S : ByteArray), k ≤ n ∧ i = .int .i64 k ∧ t = .string S ∧ S.size = k ∧ Hid (S = dgJ (fun j => ((L.getD j 0 : Nat) : Int)) k) ∧ Hid (Below w1.heap.size w1 wr)) (fun _ i _ => n - (intOf i).toNat)
  case atStart => exact ⟨0, _, Nat.zero_le _, rfl, rfl, rfl, rfl, Below.refl _ _⟩
  case round =>
    obtain ⟨k, S, hk, rfl, rfl, hS, HS, HB1⟩ := hrel
    by_cases hlt : k < n
    · have i1 : (k : Int) < (n : Int) := by omega
      obtain ⟨b, o, rfl, hb, hc⟩ := (HL.out wr HB1.out).2 (by omega)
      have q0 := hc k hlt
      dsimp only at q0
      have hv := HI.out k hlt
      have HJ : Hid (S ++ itB ((L.getD k 0 : Nat) : Int) = dgJ (fun j => ((L.getD j 0 : Nat) : Int)) (k + 1)) := by show _ = _; rw [HS.out]; rfl
      obtain ⟨v, hvv⟩ : ∃ v, v = L.getD k 0 := ⟨_, rfl⟩
      rw [← hvv] at q0 hv HJ
      have KF := Lib.hid (FormatInt_sb v (by omega) wr)
      have hp := itB_size1 (d := v) (by omega)
      obtain ⟨P, hP⟩ : ∃ P, P = itB (v : Int) := ⟨_, rfl⟩
      rw [← hP] at KF hp HJ
      clear hc hvv hP HS
      have h7 : ¬ 9223372036854775807 < S.size + P.size := by omega
      have Hsz : Hid ((S ++ P).size = k + 1) := by show _ = _; rw [ByteArray.size_append]; omega
      clear hS hp
      go_wp2_with fail
      refine KF.out.mono ?_
      rintro e w2 ⟨rfl, hb2⟩
      have HB2 : Hid (Below w1.heap.size w1 w2) := HB1.out.trans (hb2.mono HB1.out.size)
      clear hb2 HB1 KF q0
      go_wp2
      go_roundw
      case rel => exact ⟨k + 1, _, by omega, by go_num, rfl, Hsz.out, HJ.out, HB2⟩
      case measure => (simp [intOf] <;> omega)
    · have i1 : (n : Int) ≤ (k : Int) := by omega
      obtain rfl : k = n := by omega
      have HBr : Hid (Below w.heap.size w wr) := HB.out.trans (HB1.out.mono HB.out.size)
      by_cases hz : k = 0
      · have HX := Lib.hid (HO.out hz)
        have he : S.toList.isEmpty = true := by
          have hs0 : S = ⟨#[]⟩ := by rw [HS.out, hz]; rfl
          rw [hs0, ByteArray.toList_eq]; rfl
        clear hz hS
        go_wp2_with fail
        refine (l3Fine_yes (s : Int) wr h0 h1).mono ?_
        rintro e w2 ⟨rfl, rfl⟩
        go_wp2
        go_ret
        exact ⟨by rw [HX.out]; rfl, HBr.out⟩
      · have HX := Lib.hid (HP.out hz)
        have he : S.toList.isEmpty = false := by rw [HS.out]; exact dgJ_pos hz
        clear hz hS
        go_wp2
        go_ret
        exact ⟨by rw [HX.out, ← HS.out]; rfl, HBr.out⟩
end Go.Proofs.YtppkokgiojcgbaaDoor
