/-
  Several texts in one.
-/
import Derived.Test.YtjonhbmgmamchaaGreatDoorRdGA
import Derived.Test.YtjonhbmgmamchaaGreatDoorRdNms
import Derived.Test.YtjonhbmgmamchaaGreatDoorRdV
/-
  Contract: a text if something holds, else none (the reference's l34Yes).
-/
namespace Go.Proofs.YtjonhbmgmamchaaGreatDoor
open Go.RowKit
set_option maxRecDepth 100000 in
theorem l34Yes_s (b : Bool) (t : ByteArray) (w : World) :
    Calls Tryz.prog 24 #[.bool b, .string t] w fun e w' => e = .returned (.string (if b = true then t else ⟨#[]⟩)) ∧ Below w.heap.size w w' := by
  cases b
  · go_enter Tryz.func24, Tryz.ntmps24
    go_wp2
    go_ret
    exact ⟨rfl, Below.refl _ _⟩
  · go_enter Tryz.func24, Tryz.ntmps24
    go_wp2
    go_ret
    exact ⟨rfl, Below.refl _ _⟩
end Go.Proofs.YtjonhbmgmamchaaGreatDoor

/-
  Contract: a number as text: the reference's way, at every int.
-/
namespace Go.Proofs.YtjonhbmgmamchaaGreatDoor
open Go.RowKit

/-- The digits that are left ahead of what is written. -/
def dgs (u : Nat) : List UInt8 := if u = 0 then [] else Lib.decDigits u
theorem dgs_zero : dgs 0 = [] := if_pos rfl
theorem dgs_step {u : Nat} (h : u ≠ 0) : dgs u = dgs (u / 10) ++ [UInt8.ofNat (48 + u % 10)] := by
  unfold dgs
  rw [if_neg h]
  by_cases h1 : u < 10
  · rw [if_pos (by omega), Lib.decDigits_one h1, Nat.mod_eq_of_lt h1]; rfl
  · rw [if_neg (by omega), Lib.decDigits, dif_neg h1]
theorem dgs_len {u : Nat} (h : u ≤ 9223372036854775808) : (dgs u).length ≤ 20 := by
  unfold dgs
  split
  · exact Nat.zero_le _
  · rw [Lib.decDigits_length]; exact Lib.nDigits_le20 u (by omega)

set_option maxRecDepth 100000 in
set_option maxHeartbeats 2000000 in
theorem FormatInt_sa (n : Int) (hn : I64 n) (w : World) : Calls Tryz.prog 11 #[.int .i64 n] w fun e w' => e = .returned (.string (itB n)) ∧ Below w.heap.size w w' := by
  have cv := conv1
  by_cases h0 : n = 0
  · subst h0
    have HE : Hid (itB 0 = ⟨#[48]⟩) := by show _ = _; exact (itB_dg (d := 0) (by omega)).trans rfl
    go_enter Tryz.func11, Tryz.ntmps11
    go_wp2
    go_ret
    exact ⟨by rw [HE.out]; rfl, Below.refl _ _⟩
  obtain ⟨N, hN⟩ : ∃ N, N = dgs n.natAbs := ⟨_, rfl⟩
  have HN := Lib.hid hN
  have hNl : N.length ≤ 20 := by rw [hN]; exact dgs_len (by have := hn.1; have := hn.2; omega)
  clear hN
  obtain ⟨n1, n2⟩ := hn
  by_cases hs : n < 0
  · have HE : Hid (itB n = ⟨#[45]⟩ ++ ⟨N.toArray⟩) := by
      show _ = _
      unfold itB Lib.itoa
      rw [if_pos hs, HN.out, dgs, if_neg (by omega)]
      rfl
    go_enter Tryz.func11, Tryz.ntmps11
    go_wp2
    go_loopw [0, 3] (fun i s wr => ∃ (m : Nat) (T : ByteArray), i = .int .i64 (-(m : Int)) ∧ s = .string T ∧ m ≤ 9223372036854775808 ∧ T.size ≤ 20 ∧ Hid (dgs m ++ T.data.toList = N) ∧ Hid (From w wr)) (fun i _ _ => (intOf i).natAbs)
    case atStart => exact ⟨n.natAbs, _, by rw [show -((n.natAbs : Nat) : Int) = n by omega], rfl, by omega, Nat.zero_le _, by show _ = _; rw [HN.out]; exact List.append_nil _, From.refl _⟩
    case round =>
      obtain ⟨m, T, rfl, rfl, hm, hT, HD, HB⟩ := hrel
      by_cases hz : m = 0
      · subst hz
        have HT : Hid (T.data.toList = N) := by show _ = _; rw [← HD.out, dgs_zero]; rfl
        clear HD hm
        have hTT : Hid (T = ⟨N.toArray⟩) := by show _ = _; rw [← HT.out]
        clear HT
        go_wp2
        go_ret
        exact ⟨by rw [HE.out, ← hTT.out]; rfl, HB.out.below⟩
      · have HS : Hid (dgs (m / 10) ++ (UInt8.ofNat (48 + m % 10) :: T.data.toList) = N) := by show _ = _; rw [← HD.out, dgs_step hz]; simp
        have hl : T.size + 1 ≤ 20 := by
          have := congrArg List.length HS.out
          have h2 : T.data.toList.length = T.size := by simp
          rw [List.length_append, List.length_cons] at this
          omega
        clear HD
        go_wp2
        all_goals
          refine ⟨⟨m / 10, _, congrArg (fun z => Value.int .i64 z) (by omega), rfl, by omega, by rw [ByteArray.size_append]; show 1 + T.size ≤ _; omega, ?_, HB.out.alloc_ _⟩, ?_⟩
          · show _ = N
            rw [← HS.out, dataApp]
            refine congrArg (dgs (m / 10) ++ ·) ?_
            first
              | (show [UInt8.ofNat ((48 + -((m : Int) % 10)).toNat)] ++ T.data.toList = _
                 rw [show (48 + -((m : Int) % 10)).toNat = 48 + m % 10 by omega]; rfl)
              | (show [UInt8.ofNat ((48 + (m : Int) % 10).toNat)] ++ T.data.toList = _
                 rw [show (48 + (m : Int) % 10).toNat = 48 + m % 10 by omega]; rfl)
              | (rw [UInt8.ofNat_add]; rfl)
          · show (-((m : Int) / 10)).natAbs < (-(m : Int)).natAbs
            omega
  · have HE : Hid (itB n = ⟨N.toArray⟩) := by
      show _ = _
      unfold itB Lib.itoa
      rw [if_neg hs, HN.out, dgs, if_neg (by omega)]
      rw [show n.natAbs = n.toNat by omega]
    go_enter Tryz.func11, Tryz.ntmps11
    go_wp2
    go_loopw [0, 3] (fun i s wr => ∃ (m : Nat) (T : ByteArray), i = .int .i64 ((m : Int)) ∧ s = .string T ∧ m ≤ 9223372036854775807 ∧ T.size ≤ 20 ∧ Hid (dgs m ++ T.data.toList = N) ∧ Hid (From w wr)) (fun i _ _ => (intOf i).natAbs)
    case atStart => exact ⟨n.natAbs, _, by rw [show ((n.natAbs : Nat) : Int) = n by omega], rfl, by omega, Nat.zero_le _, by show _ = _; rw [HN.out]; exact List.append_nil _, From.refl _⟩
    case round =>
      obtain ⟨m, T, rfl, rfl, hm, hT, HD, HB⟩ := hrel
      by_cases hz : m = 0
      · subst hz
        have HT : Hid (T.data.toList = N) := by show _ = _; rw [← HD.out, dgs_zero]; rfl
        clear HD hm
        have hTT : Hid (T = ⟨N.toArray⟩) := by show _ = _; rw [← HT.out]
        clear HT
        go_wp2
        go_ret
        exact ⟨by rw [HE.out, ← hTT.out]; rfl, HB.out.below⟩
      · have HS : Hid (dgs (m / 10) ++ (UInt8.ofNat (48 + m % 10) :: T.data.toList) = N) := by show _ = _; rw [← HD.out, dgs_step hz]; simp
        have hl : T.size + 1 ≤ 20 := by
          have := congrArg List.length HS.out
          have h2 : T.data.toList.length = T.size := by simp
          rw [List.length_append, List.length_cons] at this
          omega
        clear HD
        go_wp2
        all_goals
          refine ⟨⟨m / 10, _, congrArg (fun z => Value.int .i64 z) (by omega), rfl, by omega, by rw [ByteArray.size_append]; show 1 + T.size ≤ _; omega, ?_, HB.out.alloc_ _⟩, ?_⟩
          · show _ = N
            rw [← HS.out, dataApp]
            refine congrArg (dgs (m / 10) ++ ·) ?_
            first
              | (show [UInt8.ofNat ((48 + -((m : Int) % 10)).toNat)] ++ T.data.toList = _
                 rw [show (48 + -((m : Int) % 10)).toNat = 48 + m % 10 by omega]; rfl)
              | (show [UInt8.ofNat ((48 + (m : Int) % 10).toNat)] ++ T.data.toList = _
                 rw [show (48 + (m : Int) % 10).toNat = 48 + m % 10 by omega]; rfl)
              | (rw [UInt8.ofNat_add]; rfl)
          · show (((m : Int) / 10)).natAbs < ((m : Int)).natAbs
            omega
end Go.Proofs.YtjonhbmgmamchaaGreatDoor
