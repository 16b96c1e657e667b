/-
  Contracts: is a set independent, dominating, a packing? the least set with fewest, with most vertices: the reference's.
-/
import Derived.Test.YtnnlmdenffnjbaaSet2I
namespace Go.Proofs.Ytnnlmdenffnjbaa
open Go.RowKit

section
variable {A : Option Addr} {m c : Nat} {r : Nat → Nat}
set_option maxHeartbeats 1000000 in
theorem IsDominating_sv {w : World} (h : GV w A m c r) {s : Nat} (hs : s < 2 ^ m) :
    Calls Try.prog 143 #[.agg #[.int .i64 m, .slice A m c], .int .i64 s] w fun e w' => e = .returned (.bool (domB r m s)) ∧ Below w.heap.size w w' := by
  have hn7 := h.vg.n7
  have hp := two_pow_le hn7
  have p1 := pow_shl m hn7
  have p2 := two_pow_int m hn7
  have p3 : IntKind.i64.wrap ((2 : Int) ^ m - 1) = ((2 ^ m - 1 : Nat) : Int) := by
    have := pow_cast m
    have := Nat.two_pow_pos m
    rw [Go.IntWalk.i64_in _ (by omega)]; omega
  have hd : Hid (decide (((s ||| nb r s : Nat) : Int) = ((2 ^ m - 1 : Nat) : Int)) = domB r m s) := by
    show _ = _
    unfold domB
    rw [Bool.eq_iff_iff]
    simp only [decide_eq_true_eq, beq_iff_eq]
    omega
  obtain ⟨W, hW⟩ : ∃ W : World, W = (w.alloc (Obj.cells #[Value.int IntKind.i64 m, Value.slice A m c] 28)) := ⟨_, rfl⟩
  have HB : Hid (From w W) := by rw [hW]; exact From.alloc _ _
  have HG : Hid (GBox W w.heap.size A m c r) := by rw [hW]; exact h.box
  have HW := Lib.hid hW
  clear hW h
  have e0 := HG.out.c0
  have e1 := HG.out.c1
  go_enter Try.func143, Try.ntmps143
  go_wp2
  rw [← HW.out]
  clear HW
  have HSC : Hid (∀ z : World, Below W.heap.size W z → (Below W.heap.size W z ∧ z.cell? ⟨w.heap.size, 0, none⟩ = some (.int .i64 m) ∧ z.cell? ⟨w.heap.size, 1, none⟩ = some (.slice A m c))) := fun z hz => ⟨hz, up_ hz e0, up_ hz e1⟩
  have HZ0 : Hid (Below W.heap.size W W.drew) := (Below.refl _ _).drew
  have HS1 := Lib.hid (HSC.out _ HZ0.out)
  have KR1 : Hid (∀ z : World, Below W.heap.size W z → _) := fun z hz => IsSet_sv (HG.out.keep hz).gv hs
  have KR2 : Hid (∀ z : World, Below W.heap.size W z → _) := fun z hz => AroundSet_sv (HG.out.keep hz).gv hs
  go_region_held3 (fun z => Below W.heap.size W z ∧ z.cell? ⟨w.heap.size, 0, none⟩ = some (.int .i64 m) ∧ z.cell? ⟨w.heap.size, 1, none⟩ = some (.slice A m c))
    (first | exact HS1.out | assumption | exact HSC.out _ hz2 | exact HSC.out _ hz1 | fail)
    (first | (go_at_call 183; ((with_reducible refine (KR1.out _ HZ0.out).mono ?_); rintro e w1 ⟨rfl, hb1⟩; have hz1 := bl_trans HZ0.out hb1)) | (go_at_call 207; ((with_reducible refine (KR2.out _ hz1).mono ?_); rintro e w2 ⟨rfl, hb2⟩; have hz2 := bl_trans hz1 hb2)))
  clear e0 e1
  replace HB := Lib.hid (HB.out.keep hz2)
  replace HG := Lib.hid (HG.out.keep hz2)
  clear hb1 hz1 hb2 hz2 HSC HZ0 HS1 KR1 KR2
  have e0 := HG.out.c0
  have e1 := HG.out.c1
  go_wp2
  go_ret
  exact ⟨ret_bool (by rw [← hd.out, Bool.eq_iff_iff]; simp), HB.out.below⟩

set_option maxHeartbeats 1000000 in
theorem IsIndependent_sv {w : World} (h : GV w A m c r) {s : Nat} (hs : s < 2 ^ m) :
    Calls Try.prog 114 #[.agg #[.int .i64 m, .slice A m c], .int .i64 s] w fun e w' => e = .returned (.bool (indB r s)) ∧ Below w.heap.size w w' := by
  have hn7 := h.vg.n7
  have hp := two_pow_le hn7
  obtain ⟨b, o, rfl⟩ := h.addr
  have HV := Lib.hid h.vg
  obtain ⟨W, hW⟩ : ∃ W : World, W = (w.alloc (Obj.cells #[Value.int IntKind.i64 m, Value.slice (some ⟨b, o, none⟩) m c] 28)) := ⟨_, rfl⟩
  have HB : Hid (From w W) := by rw [hW]; exact From.alloc _ _
  have HG : Hid (GBox W w.heap.size (some ⟨b, o, none⟩) m c r) := by rw [hW]; exact h.box
  have HW := Lib.hid hW
  clear hW h
  have e0 := HG.out.c0
  have e1 := HG.out.c1
  go_enter Try.func114, Try.ntmps114
  go_wp2_with fail
  rw [← HW.out]
  refine (IsSet_sv HG.out.gv hs).mono ?_
  rintro e w1 ⟨rfl, hb1⟩
  clear HW
  clear e0 e1
  replace HB := Lib.hid (HB.out.keep hb1)
  replace HG := Lib.hid (HG.out.keep hb1)
  clear hb1
  have e0 := HG.out.c0
  have e1 := HG.out.c1
  go_wp2
  go_loopw [5] (fun i wr => ∃ k : Nat, k ≤ m ∧ i = .int .i64 k ∧ Hid (∀ v, v < k → s.testBit v = true → r v &&& s = 0) ∧ Hid (From w1 wr)) (fun i _ => m - (intOf i).toNat)
  case atStart => exact ⟨0, Nat.zero_le _, rfl, (fun v hv => absurd hv (by omega)), From.refl _⟩
  case round =>
    obtain ⟨k, hk, rfl, hall, HR⟩ := hrel
    clear e0 e1
    replace HB := Lib.hid (HB.out.keep HR.out.below)
    replace HG := Lib.hid (HG.out.keep HR.out.below)
    have e0 := HG.out.c0
    have e1 := HG.out.c1
    by_cases hlt : k < m
    · have q0 := HG.out.gv.row hlt
      have hr := HV.out.lt128 hlt
      have E1 := and_one_i64 (s : Int) k (by omega) (by omega)
      rw [Int.toNat_natCast] at E1
      have E2 := i64_and_nat (r k) s (by omega) (by omega)
      have i1 : (k : Int) < (m : Int) := by omega
      cases ht : s.testBit k
      · rw [ht] at E1
        have Ht := Lib.hid ht
        clear ht E2
        go_wp2
        go_roundw
        case rel =>
          refine ⟨k + 1, by omega, by go_num, fun v hv hb => ?_, HR⟩
          by_cases hvk : v < k
          · exact hall.out v hvk hb
          · obtain rfl : v = k := by omega
            rw [Ht.out] at hb; cases hb
        case measure => simp [intOf]; omega
      · rw [ht] at E1
        by_cases hz : r k &&& s = 0
        · have hne : (bits BinOp.and .i64 (r k : Int) (s : Int) != 0) = false := by rw [E2, hz]; rfl
          have Hz := Lib.hid hz
          clear ht hz E2
          go_wp2
          go_roundw
          case rel =>
            refine ⟨k + 1, by omega, by go_num, fun v hv hb => ?_, HR⟩
            by_cases hvk : v < k
            · exact hall.out v hvk hb
            · obtain rfl : v = k := by omega
              exact Hz.out
          case measure => simp [intOf]; omega
        · have hne : (bits BinOp.and .i64 (r k : Int) (s : Int) != 0) = true := by rw [E2, bne_iff_ne]; omega
          have hno : Hid (indB r s = false) := indB_no (by omega) ht hz
          clear ht hz E2
          go_wp2
          go_ret
          exact ⟨ret_bool hno.out.symm, HB.out.below⟩
    · have hyes : Hid (indB r s = true) := indB_yes fun v hv hb => hall.out v (by have := bit_lt hs hb; omega) hb
      have i1 : (m : Int) ≤ (k : Int) := by omega
      go_wp2
      go_ret
      exact ⟨ret_bool hyes.out.symm, HB.out.below⟩

set_option maxHeartbeats 1000000 in
theorem IsPacking_sv {w : World} (h : GV w A m c r) {s : Nat} (hs : s < 2 ^ m) :
    Calls Try.prog 144 #[.agg #[.int .i64 m, .slice A m c], .int .i64 s] w fun e w' => e = .returned (.bool (pakB r m s)) ∧ Below w.heap.size w w' := by
  have hn7 := h.vg.n7
  have hp := two_pow_le hn7
  obtain ⟨b, o, rfl⟩ := h.addr
  have HV := Lib.hid h.vg
  obtain ⟨W, hW⟩ : ∃ W : World, W = (w.alloc (Obj.cells #[Value.int IntKind.i64 m, Value.slice (some ⟨b, o, none⟩) m c] 28)) := ⟨_, rfl⟩
  have HB : Hid (From w W) := by rw [hW]; exact From.alloc _ _
  have HG : Hid (GBox W w.heap.size (some ⟨b, o, none⟩) m c r) := by rw [hW]; exact h.box
  have HW := Lib.hid hW
  clear hW h
  have e0 := HG.out.c0
  have e1 := HG.out.c1
  go_enter Try.func144, Try.ntmps144
  go_wp2
  rw [← HW.out]
  clear HW
  go_loopw [5] (fun i wr => ∃ k : Nat, k ≤ m ∧ i = .int .i64 k ∧ Hid (∀ v, v < k → ¬ 1 < cn ((r v ||| 2 ^ v) &&& s)) ∧ Hid (From W wr)) (fun i _ => m - (intOf i).toNat)
  case atStart => exact ⟨0, Nat.zero_le _, rfl, (fun v hv => absurd hv (by omega)), From.refl _⟩
  case round =>
    obtain ⟨k, hk, rfl, hall, HR⟩ := hrel
    clear e0 e1
    replace HB := Lib.hid (HB.out.keep HR.out.below)
    replace HG := Lib.hid (HG.out.keep HR.out.below)
    have e0 := HG.out.c0
    have e1 := HG.out.c1
    by_cases hlt : k < m
    · have hr := HV.out.lt128 hlt
      have hk2 : 2 ^ k < 128 := Nat.lt_of_lt_of_le (Nat.pow_lt_pow_right (by omega) hlt) hp
      have p1 := pow_shl k (by omega)
      have E1 := i64_or_nat (r k) (2 ^ k) (by omega) (by omega)
      have hor : r k ||| 2 ^ k < 2 ^ 7 := Nat.or_lt_two_pow (by omega) (by omega)
      have E2 := i64_and_nat (r k ||| 2 ^ k) s (by omega) (by omega)
      have hand : (r k ||| 2 ^ k) &&& s < 128 := Nat.lt_of_le_of_lt Nat.and_le_right (by omega)
      rw [pow_cast] at E1
      have i1 : (k : Int) < (m : Int) := by omega
      have i0 : (0 : Int) ≤ (k : Int) := by omega
      obtain ⟨a, ha⟩ : ∃ a, a = (r k ||| 2 ^ k) &&& s := ⟨_, rfl⟩
      rw [← ha] at E2 hand
      have Ha := Lib.hid ha
      clear ha
      go_wp2_with fail
      refine (IsSet_sv HG.out.gv hs).mono ?_
      rintro e w1 ⟨rfl, hb1⟩
      clear e0 e1
      replace HB := Lib.hid (HB.out.keep hb1)
      replace HG := Lib.hid (HG.out.keep hb1)
      replace HR := Lib.hid (HR.out.keep hb1)
      clear hb1
      have e0 := HG.out.c0
      have e1 := HG.out.c1
      have q0 := HG.out.gv.row hlt
      go_wp2
      have HSC : Hid (∀ z : World, Below w1.heap.size w1 z → (Below w1.heap.size w1 z ∧ z.cell? ⟨w.heap.size, 1, none⟩ = some (.slice (some ⟨b, o, none⟩) m c) ∧ z.cell? ⟨b, o + k, none⟩ = some (.int .i64 (r k : Nat)))) := fun z hz => ⟨hz, up_ hz e1, up_ hz q0⟩
      have HZ0 : Hid (Below w1.heap.size w1 w1.drew) := (Below.refl _ _).drew
      have HS1 := Lib.hid (HSC.out _ HZ0.out)
      have KR1 : Hid (∀ z : World, Below w1.heap.size w1 z → _) := fun z hz => CountSet_sv a hand z
      go_region_held3 (fun z => Below w1.heap.size w1 z ∧ z.cell? ⟨w.heap.size, 1, none⟩ = some (.slice (some ⟨b, o, none⟩) m c) ∧ z.cell? ⟨b, o + k, none⟩ = some (.int .i64 (r k : Nat)))
        (first | exact HS1.out | assumption | exact HSC.out _ hz2 | fail)
        (first | (go_at_call 99; ((with_reducible refine (KR1.out _ HZ0.out).mono ?_); rintro e w2 ⟨rfl, hb2⟩; have hz2 := bl_trans HZ0.out hb2)))
      clear e0 e1
      replace HB := Lib.hid (HB.out.keep hz2)
      replace HG := Lib.hid (HG.out.keep hz2)
      replace HR := Lib.hid (HR.out.keep hz2)
      clear hb2 hz2 HSC HZ0 HS1 KR1
      have e0 := HG.out.c0
      have e1 := HG.out.c1
      by_cases hc : 1 < cn a
      · have hno : Hid (pakB r m s = false) := pakB_no hlt (by rw [← Ha.out]; exact hc)
        have i2 : (1 : Int) < (cn a : Int) := by omega
        clear q0
        go_wp2
        go_ret
        exact ⟨ret_bool hno.out.symm, HB.out.below⟩
      · have i2 : (cn a : Int) ≤ 1 := by omega
        have Hc : Hid (¬ 1 < cn a) := hc
        clear q0
        go_wp2
        go_roundw
        case rel =>
          refine ⟨k + 1, by omega, by go_num, fun v hv => ?_, HR⟩
          by_cases hvk : v < k
          · exact hall.out v hvk
          · obtain rfl : v = k := by omega
            rw [← Ha.out]; exact Hc.out
        case measure => simp [intOf]; omega
    · have hyes : Hid (pakB r m s = true) := pakB_yes fun v hv => hall.out v (by omega)
      have i1 : (m : Int) ≤ (k : Int) := by omega
      go_wp2_with fail
      refine (IsSet_sv HG.out.gv hs).mono ?_
      rintro e w3 ⟨rfl, hb3⟩
      clear e0 e1
      replace HB := Lib.hid (HB.out.keep hb3)
      replace HG := Lib.hid (HG.out.keep hb3)
      replace HR := Lib.hid (HR.out.keep hb3)
      clear hb3
      have e0 := HG.out.c0
      have e1 := HG.out.c1
      go_wp2
      go_ret
      exact ⟨ret_bool hyes.out.symm, HB.out.below⟩
end
end Go.Proofs.Ytnnlmdenffnjbaa
