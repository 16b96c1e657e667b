/-
  Contracts: a set without which more parts are left than it has members: the reference's search.
-/
import Derived.Test.YtnnlmdenffnjbaaTough
import Derived.Test.YtnnlmdenffnjbaaCliqueS
namespace Go.Proofs.Ytnnlmdenffnjbaa
open Go.RowKit

theorem CountSet_s (s : Nat) (hs : s < 128) (w : World) :
    Calls Try.prog 99 #[.int .i64 s] w fun e w' => e = .returned (.int .i64 ((listN s).length : Int)) ∧ Below w.heap.size w w' := by
  go_enter Try.func99, Try.ntmps99
  go_wp2_with fail
  refine (ListOf_s s hs w).mono ?_
  rintro e w1 ⟨A', c', rfl, hO, hb1⟩
  have HB := Lib.hid hb1
  clear hO hb1
  go_wp2
  go_ret
  exact ⟨rfl, HB.out⟩

theorem nbK_end {r : Nat → Nat} {s m : Nat} (hs : s < 2 ^ m) : ∀ k, m ≤ k → nbK r s k = nbK r s m := by
  intro k hk
  induction k with
  | zero => obtain rfl : m = 0 := by omega
            rfl
  | succ k ih =>
    by_cases h : m = k + 1
    · rw [h]
    · rw [nbK_no, ih (by omega)]
      cases hb : s.testBit k
      · rfl
      · have := bit_lt hs hb; omega

set_option maxHeartbeats 1000000 in
theorem AroundSet_s (m : Nat) (A : Option Addr) (c : Nat) (x : Nat → Int) (s : Nat) (w : World) (B : Nat) (h : Rd w B A m c x) (hB : B ≤ w.heap.size) (hok : okB m m x = true) (hs : s < 2 ^ m) :
    Calls Try.prog 207 #[.agg #[.int .i64 m, .slice A m c], .int .i64 s] w fun e w' => e = .returned (.int .i64 ((s ||| nb (rw_ x) s : Nat) : Int)) ∧ Below w.heap.size w w' := by
  obtain ⟨vg, hx⟩ := okB_vg hok
  have hn1 := vg.n1
  have hn7 := vg.n7
  have h128 := two_pow_le hn7
  obtain ⟨W, hW⟩ : ∃ W : World, W = (w.alloc (Obj.cells #[Value.int IntKind.i64 m, Value.slice A m c] 28)) := ⟨_, rfl⟩
  have HB : Hid (Below w.heap.size w W) := by rw [hW]; exact ((Below.refl _ _).alloc (Nat.le_refl _) _)
  have a0 : w.heap.size < W.heap.size := by rw [hW]; simp
  have e0 : W.cell? ⟨w.heap.size, 0, none⟩ = some (.int .i64 m) := by rw [hW]; simp [go_sem]
  have e1 : W.cell? ⟨w.heap.size, 1, none⟩ = some (.slice A m c) := by rw [hW]; simp [go_sem]
  have HK := Lib.hid (h.keep (HB.out.mono hB) (Nat.le_refl _))
  obtain ⟨b, o, rfl, hb, hc⟩ := HK.out.pos (by omega)
  have HC := Lib.hid hc
  have HW := Lib.hid hW
  have HX := Lib.hid hx
  have HV := Lib.hid vg
  have Hok := Lib.hid hok
  clear hW h hc hx vg hok
  go_enter Try.func207, Try.ntmps207
  go_wp2_with fail
  rw [← HW.out]
  clear HW
  refine (IsSet_yes m (some ⟨b, o, none⟩) c x s W B HK.out (by omega) hn7 Hok.out hs).mono ?_
  rintro e w1 ⟨rfl, hb1⟩
  have z1 := hb1.size
  have f0 := up hb1 e0 a0
  have f1 := up hb1 e1 a0
  have HB1 : Hid (Below w.heap.size w w1) := HB.out.trans (hb1.mono (by omega))
  have HC1 : Hid (∀ v, v < m → w1.cell? ⟨b, o + v, none⟩ = some (.int .i64 (x v))) := fun v hv => (hb1.cell (p := ⟨b, o + v, none⟩) (by show b < _; omega)).trans (HC.out v hv)
  clear hb1 e0 e1 HC HB HK
  go_wp2
  go_loop [5, 6] (fun a i => ∃ k : Nat, k ≤ m ∧ i = .int .i64 k ∧ a = .int .i64 ((s ||| nbK (rw_ x) s k : Nat) : Int)) (fun _ i => m - (intOf i).toNat)
  case atStart => exact ⟨0, Nat.zero_le _, rfl, by simp [nbK]⟩
  case round =>
    obtain ⟨k, hk, rfl, rfl⟩ := hrel
    by_cases hlt : k < m
    · have q2 := HC1.out k hlt
      rw [HX.out k hlt] at q2
      have hr128 := HV.out.lt128 hlt
      have hnb := nb_lt (r := rw_ x) (s := s) HV.out.lt hs k
      have hlt1 : s ||| nbK (rw_ x) s k < 2 ^ m := Nat.or_lt_two_pow hs hnb
      have E := i64_or_nat (s ||| nbK (rw_ x) s k) (rw_ x k) (by omega) (by omega)
      have E1 := and_one_i64 (s : Int) k (by omega) (by omega)
      rw [Int.toNat_natCast] at E1
      have i1 : (k : Int) < (m : Int) := by omega
      cases ht : s.testBit k
      · rw [ht] at E1
        have Hs := Lib.hid (nbK_no (r := rw_ x) ht)
        clear ht E
        go_wp2
        go_round
        case rel => exact ⟨k + 1, by omega, by go_num, by rw [Hs.out]⟩
        case measure => simp [intOf] <;> omega
      · rw [ht] at E1
        have Hs := Lib.hid (nbK_yes (r := rw_ x) ht)
        rw [Nat.or_assoc, ← nbK_yes ht] at E
        clear ht
        go_wp2
        go_round
        case rel => exact ⟨k + 1, by omega, by go_num, rfl⟩
        case measure => simp [intOf] <;> omega
    · have hend : Hid (nbK (rw_ x) s k = nb (rw_ x) s) := by show _ = nbK _ _ 7; rw [nbK_end hs k (by omega), nbK_end hs 7 hn7]
      have i1 : (m : Int) ≤ (k : Int) := by omega
      go_wp2
      go_ret
      exact ⟨ret_int (by rw [hend.out]), HB1.out⟩

end Go.Proofs.Ytnnlmdenffnjbaa
