/-
  Contracts: is a set independent, dominating, a packing? the least set with fewest, with most vertices: the reference's.
-/
import Derived.Test.YtjonhbmgmamchaaGreatDoorRdSet2I
namespace Go.Proofs.YtjonhbmgmamchaaGreatDoor
open Go.RowKit

section
variable {A : Option Addr} {m c : Nat} {r : Nat → Nat}
set_option maxHeartbeats 1000000 in
theorem IsDominating_sv {w : World} (h : GV w A m c r) {s : Nat} (hs : s < 2 ^ m) :
    Calls Tryz.prog 50 #[.agg #[.int .i64 m, .slice A m c], .int .i64 s] w fun e w' => e = .returned (.bool (domB r m s)) ∧ Below w.heap.size w w' := by
  have hn7 := h.vg.n7
  have hp := two_pow_le hn7
  have p1 := pow_shl m hn7
  have p2 := two_pow_int m hn7
  have p3 : IntKind.i64.wrap ((2 : Int) ^ m - 1) = ((2 ^ m - 1 : Nat) : Int) := by
    have := pow_cast m
    have := Nat.two_pow_pos m
    rw [Go.IntWalk.i64_in _ (by omega)]; omega
  have hd : Hid (decide (((s ||| nb r s : Nat) : Int) = ((2 ^ m - 1 : Nat) : Int)) = domB r m s) := by
    show _ = _
    unfold domB
    rw [Bool.eq_iff_iff]
    simp only [decide_eq_true_eq, beq_iff_eq]
    omega
  obtain ⟨W, hW⟩ : ∃ W : World, W = (w.alloc (Obj.cells #[Value.int IntKind.i64 m, Value.slice A m c] 27)) := ⟨_, rfl⟩
  have HB : Hid (From w W) := by rw [hW]; exact From.alloc _ _
  have HG : Hid (GBox W w.heap.size A m c r) := by rw [hW]; exact h.box
  have HW := Lib.hid hW
  clear hW h
  have e0 := HG.out.c0
  have e1 := HG.out.c1
  go_enter Tryz.func50, Tryz.ntmps50
  go_wp2
  rw [← HW.out]
  clear HW
  have HSC : Hid (∀ z : World, Below W.heap.size W z → (Below W.heap.size W z ∧ z.cell? ⟨w.heap.size, 0, none⟩ = some (.int .i64 m) ∧ z.cell? ⟨w.heap.size, 1, none⟩ = some (.slice A m c))) := fun z hz => ⟨hz, up_ hz e0, up_ hz e1⟩
  have HZ0 : Hid (Below W.heap.size W W.drew) := (Below.refl _ _).drew
  have HS1 := Lib.hid (HSC.out _ HZ0.out)
  have KR1 : Hid (∀ z : World, Below W.heap.size W z → _) := fun z hz => IsSet_sv (HG.out.keep hz).gv hs
  have KR2 : Hid (∀ z : World, Below W.heap.size W z → _) := fun z hz => AroundSet_sv (HG.out.keep hz).gv hs
  go_region_held3 (fun z => Below W.heap.size W z ∧ z.cell? ⟨w.heap.size, 0, none⟩ = some (.int .i64 m) ∧ z.cell? ⟨w.heap.size, 1, none⟩ = some (.slice A m c))
    (first | exact HS1.out | assumption | exact HSC.out _ hz2 | exact HSC.out _ hz1 | fail)
    (first | (go_at_call 86; ((with_reducible refine (KR1.out _ HZ0.out).mono ?_); rintro e w1 ⟨rfl, hb1⟩; have hz1 := bl_trans HZ0.out hb1)) | (go_at_call 54; ((with_reducible refine (KR2.out _ hz1).mono ?_); rintro e w2 ⟨rfl, hb2⟩; have hz2 := bl_trans hz1 hb2)))
  clear e0 e1
  replace HB := Lib.hid (HB.out.keep hz2)
  replace HG := Lib.hid (HG.out.keep hz2)
  clear hb1 hz1 hb2 hz2 HSC HZ0 HS1 KR1 KR2
  have e0 := HG.out.c0
  have e1 := HG.out.c1
  go_wp2
  go_ret
  exact ⟨ret_bool (by rw [← hd.out, Bool.eq_iff_iff]; simp), HB.out.below⟩

set_option maxHeartbeats 1000000 in
theorem IsIndependent_sv {w : World} (h : GV w A m c r) {s : Nat} (hs : s < 2 ^ m) :
    Calls Tryz.prog 46 #[.agg #[.int .i64 m, .slice A m c], .int .i64 s] w fun e w' => e = .returned (.bool (indB r s)) ∧ Below w.heap.size w w' := by
  have hn7 := h.vg.n7
  have hp := two_pow_le hn7
  obtain ⟨b, o, rfl⟩ := h.addr
  have HV := Lib.hid h.vg
  obtain ⟨W, hW⟩ : ∃ W : World, W = (w.alloc (Obj.cells #[Value.int IntKind.i64 m, Value.slice (some ⟨b, o, none⟩) m c] 27)) := ⟨_, rfl⟩
  have HB : Hid (From w W) := by rw [hW]; exact From.alloc _ _
  have HG : Hid (GBox W w.heap.size (some ⟨b, o, none⟩) m c r) := by rw [hW]; exact h.box
  have HW := Lib.hid hW
  clear hW h
  have e0 := HG.out.c0
  have e1 := HG.out.c1
  go_enter Tryz.func46, Tryz.ntmps46
  go_wp2_with fail
  rw [← HW.out]
  refine (IsSet_sv HG.out.gv hs).mono ?_
  rintro e w1 ⟨rfl, hb1⟩
  clear HW
  clear e0 e1
  replace HB := Lib.hid (HB.out.keep hb1)
  replace HG := Lib.hid (HG.out.keep hb1)
  clear hb1
  have e0 := HG.out.c0
  have e1 := HG.out.c1
  go_wp2
  go_loopw [5] (fun i wr => ∃ k : Nat, k ≤ m ∧ i = .int .i64 k ∧ Hid (∀ v, v < k → s.testBit v = true → r v &&& s = 0) ∧ Hid (From w1 wr)) (fun i _ => m - (intOf i).toNat)
  case atStart => exact ⟨0, Nat.zero_le _, rfl, (fun v hv => absurd hv (by omega)), From.refl _⟩
  case round =>
    obtain ⟨k, hk, rfl, hall, HR⟩ := hrel
    clear e0 e1
    replace HB := Lib.hid (HB.out.keep HR.out.below)
    replace HG := Lib.hid (HG.out.keep HR.out.below)
    have e0 := HG.out.c0
    have e1 := HG.out.c1
    by_cases hlt : k < m
    · have q0 := HG.out.gv.row hlt
      have hr := HV.out.lt128 hlt
      have E1 := and_one_i64 (s : Int) k (by omega) (by omega)
      rw [Int.toNat_natCast] at E1
      have E2 := i64_and_nat (r k) s (by omega) (by omega)
      have i1 : (k : Int) < (m : Int) := by omega
      cases ht : s.testBit k
      · rw [ht] at E1
        have Ht := Lib.hid ht
        clear ht E2
        go_wp2
        go_roundw
        case rel =>
          refine ⟨k + 1, by omega, by go_num, fun v hv hb => ?_, HR⟩
          by_cases hvk : v < k
          · exact hall.out v hvk hb
          · obtain rfl : v = k := by omega
            rw [Ht.out] at hb; cases hb
        case measure => simp [intOf]; omega
      · rw [ht] at E1
        by_cases hz : r k &&& s = 0
        · have hne : (bits BinOp.and .i64 (r k : Int) (s : Int) != 0) = false := by rw [E2, hz]; rfl
          have Hz := Lib.hid hz
          clear ht hz E2
          go_wp2
          go_roundw
          case rel =>
            refine ⟨k + 1, by omega, by go_num, fun v hv hb => ?_, HR⟩
            by_cases hvk : v < k
            · exact hall.out v hvk hb
            · obtain rfl : v = k := by omega
              exact Hz.out
          case measure => simp [intOf]; omega
        · have hne : (bits BinOp.and .i64 (r k : Int) (s : Int) != 0) = true := by rw [E2, bne_iff_ne]; omega
          have hno : Hid (indB r s = false) := indB_no (by omega) ht hz
          clear ht hz E2
          go_wp2
          go_ret
          exact ⟨ret_bool hno.out.symm, HB.out.below⟩
    · have hyes : Hid (indB r s = true) := indB_yes fun v hv hb => hall.out v (by have := bit_lt hs hb; omega) hb
      have i1 : (m : Int) ≤ (k : Int) := by omega
      go_wp2
      go_ret
      exact ⟨ret_bool hyes.out.symm, HB.out.below⟩

end
end Go.Proofs.YtjonhbmgmamchaaGreatDoor
