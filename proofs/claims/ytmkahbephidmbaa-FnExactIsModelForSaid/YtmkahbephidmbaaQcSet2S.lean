/-
  Contracts: is a set independent, dominating, a packing? the least set with fewest, with most vertices: the reference's.
-/
import Derived.Test.YtmkahbephidmbaaQcSet2I
namespace Go.Proofs.Ytmkahbephidmbaa
open Go.RowKit

section
variable {A : Option Addr} {m c : Nat} {r : Nat → Nat}
set_option maxHeartbeats 1000000 in
theorem IsIndependent_sv {w : World} (h : GV w A m c r) {s : Nat} (hs : s < 2 ^ m) :
    Calls Try.prog 19 #[.agg #[.int .i64 m, .slice A m c], .int .i64 s] w fun e w' => e = .returned (.bool (indB r s)) ∧ Below w.heap.size w w' := by
  have hn7 := h.vg.n7
  have hp := two_pow_le hn7
  obtain ⟨b, o, rfl⟩ := h.addr
  have HV := Lib.hid h.vg
  obtain ⟨W, hW⟩ : ∃ W : World, W = (w.alloc (Obj.cells #[Value.int IntKind.i64 m, Value.slice (some ⟨b, o, none⟩) m c] 27)) := ⟨_, rfl⟩
  have HB : Hid (From w W) := by rw [hW]; exact From.alloc _ _
  have HG : Hid (GBox W w.heap.size (some ⟨b, o, none⟩) m c r) := by rw [hW]; exact h.box
  have HW := Lib.hid hW
  clear hW h
  have e0 := HG.out.c0
  have e1 := HG.out.c1
  go_enter Try.func19, Try.ntmps19
  go_wp2_with fail
  rw [← HW.out]
  refine (IsSet_sv HG.out.gv hs).mono ?_
  rintro e w1 ⟨rfl, hb1⟩
  clear HW
  clear e0 e1
  replace HB := Lib.hid (HB.out.keep hb1)
  replace HG := Lib.hid (HG.out.keep hb1)
  clear hb1
  have e0 := HG.out.c0
  have e1 := HG.out.c1
  go_wp2
  go_loopw [5] (fun i wr => ∃ k : Nat, k ≤ m ∧ i = .int .i64 k ∧ Hid (∀ v, v < k → s.testBit v = true → r v &&& s = 0) ∧ Hid (From w1 wr)) (fun i _ => m - (intOf i).toNat)
  case atStart => exact ⟨0, Nat.zero_le _, rfl, (fun v hv => absurd hv (by omega)), From.refl _⟩
  case round =>
    obtain ⟨k, hk, rfl, hall, HR⟩ := hrel
    clear e0 e1
    replace HB := Lib.hid (HB.out.keep HR.out.below)
    replace HG := Lib.hid (HG.out.keep HR.out.below)
    have e0 := HG.out.c0
    have e1 := HG.out.c1
    by_cases hlt : k < m
    · have q0 := HG.out.gv.row hlt
      have hr := HV.out.lt128 hlt
      have E1 := and_one_i64 (s : Int) k (by omega) (by omega)
      rw [Int.toNat_natCast] at E1
      have E2 := i64_and_nat (r k) s (by omega) (by omega)
      have i1 : (k : Int) < (m : Int) := by omega
      cases ht : s.testBit k
      · rw [ht] at E1
        have Ht := Lib.hid ht
        clear ht E2
        go_wp2
        go_roundw
        case rel =>
          refine ⟨k + 1, by omega, by go_num, fun v hv hb => ?_, HR⟩
          by_cases hvk : v < k
          · exact hall.out v hvk hb
          · obtain rfl : v = k := by omega
            rw [Ht.out] at hb; cases hb
        case measure => simp [intOf]; omega
      · rw [ht] at E1
        by_cases hz : r k &&& s = 0
        · have hne : (bits BinOp.and .i64 (r k : Int) (s : Int) != 0) = false := by rw [E2, hz]; rfl
          have Hz := Lib.hid hz
          clear ht hz E2
          go_wp2
          go_roundw
          case rel =>
            refine ⟨k + 1, by omega, by go_num, fun v hv hb => ?_, HR⟩
            by_cases hvk : v < k
            · exact hall.out v hvk hb
            · obtain rfl : v = k := by omega
              exact Hz.out
          case measure => simp [intOf]; omega
        · have hne : (bits BinOp.and .i64 (r k : Int) (s : Int) != 0) = true := by rw [E2, bne_iff_ne]; omega
          have hno : Hid (indB r s = false) := indB_no (by omega) ht hz
          clear ht hz E2
          go_wp2
          go_ret
          exact ⟨ret_bool hno.out.symm, HB.out.below⟩
    · have hyes : Hid (indB r s = true) := indB_yes fun v hv hb => hall.out v (by have := bit_lt hs hb; omega) hb
      have i1 : (m : Int) ≤ (k : Int) := by omega
      go_wp2
      go_ret
      exact ⟨ret_bool hyes.out.symm, HB.out.below⟩

end
end Go.Proofs.Ytmkahbephidmbaa
