/-
  Contracts: is a set a clique? The reference's tests; is a vertex simplicial?
-/
import Derived.Test.YtnnlmdenffnjbaaClique
import Derived.Test.YtnnlmdenffnjbaaWithin
namespace Go.Proofs.Ytnnlmdenffnjbaa
open Go.RowKit

set_option maxHeartbeats 1000000 in
theorem IsSet_yes (m : Nat) (A : Option Addr) (c : Nat) (x : Nat → Int) (s : Nat) (w : World) (B : Nat) (h : Rd w B A m c x) (hB : B ≤ w.heap.size) (hm : m ≤ 7) (hok : okB m m x = true) (hs : s < 2 ^ m) :
    Calls Try.prog 183 #[.agg #[.int .i64 m, .slice A m c], .int .i64 s] w fun e w' => e = .returned (.bool true) ∧ Below w.heap.size w w' := by
  obtain ⟨W, hW⟩ : ∃ W : World, W = (w.alloc (Obj.cells #[Value.int IntKind.i64 m, Value.slice A m c] 28)) := ⟨_, rfl⟩
  have HB : Hid (Below w.heap.size w W) := by rw [hW]; exact ((Below.refl _ _).alloc (Nat.le_refl _) _)
  have a0 : w.heap.size < W.heap.size := by rw [hW]; simp
  have e0 : W.cell? ⟨w.heap.size, 0, none⟩ = some (.int .i64 m) := by rw [hW]; simp [go_sem]
  have e1 : W.cell? ⟨w.heap.size, 1, none⟩ = some (.slice A m c) := by rw [hW]; simp [go_sem]
  have HK := Lib.hid (h.keep (HB.out.mono hB) (Nat.le_refl _))
  have HW := Lib.hid hW
  have Hok := Lib.hid hok
  have p1 := pow_shl m (by omega)
  have p2 : ((2 ^ m : Nat) : Int) = 2 ^ m := by simp
  have p3 : (s : Int) < 2 ^ m := by omega
  have p4 : (0 : Int) ≤ (s : Int) := by omega
  clear hW h hok p2
  go_enter Try.func183, Try.ntmps183
  go_wp2_with fail
  rw [← HW.out]
  refine (IsGraph_sany m A m c x W B HK.out (by omega) (by omega)).mono ?_
  rintro e w1 ⟨rfl, hb1⟩
  rw [Hok.out]
  have f0 := up hb1 e0 a0
  have f1 := up hb1 e1 a0
  have HB1 : Hid (Below w.heap.size w w1) := HB.out.trans (hb1.mono (by omega))
  clear hb1 e0 e1 HW HK HB
  go_wp2
  go_ret
  exact ⟨rfl, HB1.out⟩

set_option maxHeartbeats 1000000 in
theorem IsClique_s (m : Nat) (A : Option Addr) (c : Nat) (x : Nat → Int) (s : Nat) (w : World) (B : Nat) (h : Rd w B A m c x) (hB : B ≤ w.heap.size) (hok : okB m m x = true) (hs : s < 2 ^ m) :
    Calls Try.prog 174 #[.agg #[.int .i64 m, .slice A m c], .int .i64 s] w fun e w' => e = .returned (.bool (cliq (rw_ x) s)) ∧ Below w.heap.size w w' := by
  obtain ⟨vg, hx⟩ := okB_vg hok
  have hn1 := vg.n1
  have hn7 := vg.n7
  have h128 := two_pow_le hn7
  obtain ⟨W, hW⟩ : ∃ W : World, W = (w.alloc (Obj.cells #[Value.int IntKind.i64 m, Value.slice A m c] 28)) := ⟨_, rfl⟩
  have HB : Hid (Below w.heap.size w W) := by rw [hW]; exact ((Below.refl _ _).alloc (Nat.le_refl _) _)
  have a0 : w.heap.size < W.heap.size := by rw [hW]; simp
  have e0 : W.cell? ⟨w.heap.size, 0, none⟩ = some (.int .i64 m) := by rw [hW]; simp [go_sem]
  have e1 : W.cell? ⟨w.heap.size, 1, none⟩ = some (.slice A m c) := by rw [hW]; simp [go_sem]
  have HK := Lib.hid (h.keep (HB.out.mono hB) (Nat.le_refl _))
  obtain ⟨b, o, rfl, hb, hc⟩ := HK.out.pos (by omega)
  have HC := Lib.hid hc
  have HW := Lib.hid hW
  have HX := Lib.hid hx
  have HV := Lib.hid vg
  have Hok := Lib.hid hok
  clear hW h hc hx vg hok
  go_enter Try.func174, Try.ntmps174
  go_wp2_with fail
  rw [← HW.out]
  clear HW
  refine (IsSet_yes m (some ⟨b, o, none⟩) c x s W B HK.out (by omega) hn7 Hok.out hs).mono ?_
  rintro e w1 ⟨rfl, hb1⟩
  have z1 := hb1.size
  have f0 := up hb1 e0 a0
  have f1 := up hb1 e1 a0
  have HB1 : Hid (Below w.heap.size w w1) := HB.out.trans (hb1.mono (by omega))
  have HC1 : Hid (∀ v, v < m → w1.cell? ⟨b, o + v, none⟩ = some (.int .i64 (x v))) := fun v hv => (hb1.cell (p := ⟨b, o + v, none⟩) (by show b < _; omega)).trans (HC.out v hv)
  have a1 : w.heap.size < w1.heap.size := by omega
  clear hb1 e0 e1 HC HB HK
  go_wp2
  go_loopw [5] (fun i wr => ∃ k : Nat, k ≤ m ∧ i = .int .i64 k ∧ Hid (∀ v, v < k → s.testBit v = true → s ^^^ (s &&& rw_ x v) = 2 ^ v) ∧ Hid (Below w1.heap.size w1 wr)) (fun i _ => m - (intOf i).toNat)
  case atStart => exact ⟨0, Nat.zero_le _, rfl, (fun v hv => absurd hv (by omega)), Below.refl _ _⟩
  case round =>
    obtain ⟨v, hk, rfl, hall, hbr⟩ := hrel
    have zr := hbr.out.size
    have q3 := up hbr.out f0 a1
    by_cases hlt : v < m
    · have q1 := up hbr.out f1 a1
      have q2 := (hbr.out.cell (p := ⟨b, o + v, none⟩) (by show b < _; omega)).trans (HC1.out v hlt)
      have hxv := HX.out v hlt
      rw [hxv] at q2
      have hr128 := HV.out.lt128 hlt
      have E := i64_and_nat (rw_ x v) s (by omega) (by omega)
      have E1 := and_one_i64 (s : Int) v (by omega) (by omega)
      rw [Int.toNat_natCast] at E1
      have p1 := pow_shl v (by omega)
      have i2 : (v : Int) < (m : Int) := by omega
      cases ht : s.testBit v
      · rw [ht] at E1
        have Ht := Lib.hid ht
        clear E hxv ht
        go_wp2
        go_quiet (fail)
        go_wp2
        refine ⟨⟨v + 1, by omega, by go_num, fun j hj hb => ?_, below_drewN hbr.out _⟩, by simp [intOf]; omega⟩
        by_cases hjv : j < v
        · exact hall.out j hjv hb
        · obtain rfl : j = v := by omega
          rw [Ht.out] at hb; cases hb
      · rw [ht] at E1
        have Ht := Lib.hid ht
        have hge := bit_ge ht
        have p2 : ((2 ^ v : Nat) : Int) = 2 ^ v := by simp
        have E2 : ((s : Int) - 2 ^ v) = ((s - 2 ^ v : Nat) : Int) := by rw [Int.ofNat_sub hge]; simp
        have E3 : wrap64 ((s : Int) - 2 ^ v) = ((s - 2 ^ v : Nat) : Int) := by
          obtain ⟨d, hd⟩ : ∃ d, d = s - 2 ^ v := ⟨_, rfl⟩
          have hd2 : d ≤ s := by rw [hd]; exact Nat.sub_le _ _
          rw [E2, ← hd]
          exact Go.IntWalk.wrap64_in (d : Int) (by clear hd E2; omega)
        by_cases hq : s ^^^ (s &&& rw_ x v) = 2 ^ v
        · have hc := (clash (r := rw_ x) (by omega : s < 128) ht).2 hq
          have hne : (bits BinOp.and .i64 (rw_ x v : Int) (s : Int) != wrap64 ((s : Int) - 2 ^ v)) = false := by rw [E, E3, hc]; simp
          have Hq := Lib.hid hq
          clear E hq hxv ht hc p2 E2 E3
          go_wp2
          go_quiet (fail)
          go_wp2
          refine ⟨⟨v + 1, by omega, by go_num, fun j hj hb => ?_, below_drewN hbr.out _⟩, by simp [intOf]; omega⟩
          by_cases hjv : j < v
          · exact hall.out j hjv hb
          · obtain rfl : j = v := by omega
            exact Hq.out
        · have hno : Hid (cliq (rw_ x) s = false) := cliq_no (by omega) ht hq
          have hne : (bits BinOp.and .i64 (rw_ x v : Int) (s : Int) != wrap64 ((s : Int) - 2 ^ v)) = true := by
            rw [E, E3, bne_iff_ne]
            intro e
            exact hq ((clash (r := rw_ x) (by omega : s < 128) ht).1 (by omega))
          clear E hq hxv ht p2 E2 E3
          go_wp2
          go_quiet (fail)
          go_wp2
          go_ret
          exact ⟨ret_bool hno.out.symm, HB1.out.trans ((below_drewN hbr.out _).mono (by omega))⟩
    · have hyes : Hid (cliq (rw_ x) s = true) := cliq_yes fun v hv hb => hall.out v (by have := bit_lt hs hb; omega) hb
      have i1 : (m : Int) ≤ (v : Int) := by omega
      go_wp2
      go_ret
      exact ⟨ret_bool hyes.out.symm, HB1.out.trans (hbr.out.mono (by omega))⟩

set_option maxHeartbeats 1000000 in
theorem l6Simplicial_any (m : Nat) (A : Option Addr) (c : Nat) (x : Nat → Int) (v left : Nat) (w : World) (B : Nat) (h : Rd w B A m c x) (hB : B ≤ w.heap.size) (hok : okB m m x = true) (hs : left < 2 ^ m) (hv : v < m) :
    Calls Try.prog 204 #[.agg #[.int .i64 m, .slice A m c], .int .i64 v, .int .i64 left] w fun e w' => e = .returned (.bool (cliq (rw_ x) (rw_ x v &&& left))) ∧ Below w.heap.size w w' := by
  obtain ⟨vg, hx⟩ := okB_vg hok
  have hn7 := vg.n7
  have h128 := two_pow_le hn7
  have hr128 := vg.lt128 hv
  obtain ⟨W, hW⟩ : ∃ W : World, W = (w.alloc (Obj.cells #[Value.int IntKind.i64 m, Value.slice A m c] 28)) := ⟨_, rfl⟩
  have HB : Hid (Below w.heap.size w W) := by rw [hW]; exact ((Below.refl _ _).alloc (Nat.le_refl _) _)
  have a0 : w.heap.size < W.heap.size := by rw [hW]; simp
  have e0 : W.cell? ⟨w.heap.size, 0, none⟩ = some (.int .i64 m) := by rw [hW]; simp [go_sem]
  have e1 : W.cell? ⟨w.heap.size, 1, none⟩ = some (.slice A m c) := by rw [hW]; simp [go_sem]
  have hk := h.keep (HB.out.mono hB) (Nat.le_refl _)
  obtain ⟨b, o, rfl, hb, hc⟩ := hk.pos (by omega)
  have q0 := hc v hv
  rw [hx v hv] at q0
  have E := i64_and_nat (rw_ x v) left (by omega) (by omega)
  have hlt : rw_ x v &&& left < 2 ^ m := Nat.lt_of_le_of_lt Nat.and_le_right hs
  have i1 : (v : Int) < (m : Int) := by omega
  have Hok := Lib.hid hok
  have HR : Hid (Rd W.drew B (some ⟨b, o, none⟩) m c x) := hk
  have HBd : Hid (B ≤ W.drew.heap.size) := by show B ≤ W.heap.size; omega
  have HW := Lib.hid hW
  clear hx vg hc hok h hW hk
  go_enter Try.func204, Try.ntmps204
  go_wp2_with fail
  rw [← HW.out]
  clear HW
  go_region_held3 (fun z => z.cell? ⟨w.heap.size, 0, none⟩ = some (.int .i64 m) ∧ z.cell? ⟨w.heap.size, 1, none⟩ = some (.slice (some ⟨b, o, none⟩) m c) ∧ z.cell? ⟨b, o + v, none⟩ = some (.int .i64 (rw_ x v : Int)))
    (first | (refine ⟨?_, ?_, ?_⟩ <;> assumption) | exact ⟨up hb3 e0 (World.block_lt_of_cell? _ _ e0), up hb3 e1 (World.block_lt_of_cell? _ _ e1), up hb3 q0 (World.block_lt_of_cell? _ _ q0)⟩ | fail)
    (first | (go_at_call 174; ((with_reducible refine (IsClique_s m (some ⟨b, o, none⟩) c x (rw_ x v &&& left) _ _ HR.out HBd.out Hok.out hlt).mono ?_); rintro e w3 ⟨rfl, hb3⟩)))
  have HB2 : Hid (Below w.heap.size w w3) := HB.out.trans (Below.mono (⟨hb3.os, hb3.tape, hb3.output, hb3.size, hb3.block⟩ : Below W.heap.size W w3) (by omega))
  clear hb3
  go_wp2
  go_ret
  exact ⟨rfl, HB2.out⟩
end Go.Proofs.Ytnnlmdenffnjbaa
