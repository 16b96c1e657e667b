/-
  Contract: the reference's IsGraph.
-/
import Derived.Test.YtnnlmdenffnjbaaGraph
namespace Go.Proofs.Ytnnlmdenffnjbaa
open Go.RowKit

/-- What has been looked at for vertex a: its row is a set without a, and whoever stands in it has a valid row with a in it. -/
def Seen (m : Nat) (x : Nat → Int) (a u : Nat) : Prop := ∀ b, b < u → (x a).toNat.testBit b = true → 0 ≤ x b ∧ x b < 2 ^ m ∧ (x b).toNat.testBit a = true

set_option maxRecDepth 100000 in
set_option maxHeartbeats 2000000 in
theorem IsGraph_s (sz : Int) (A : Option Addr) (m c : Nat) (x : Nat → Int) (w : World) (B : Nat) (h : Rd w B A m c x) (hB : B ≤ w.heap.size) (hm : m ≤ 1048576) (h1 : 1 ≤ sz) (h7 : sz ≤ 7) (hs : sz = (m : Int)) :
    Calls Try.prog 50 #[.agg #[.int .i64 sz, .slice A m c]] w fun e w' => e = .returned (.bool (okB sz m x)) ∧ Below w.heap.size w w' := by
  subst hs
  obtain ⟨b, o, rfl, hb, hc⟩ := h.pos (by omega)
  have p1 := two_pow_int m (by omega)
  have p2 := pow_shl m (by omega)
  go_enter Try.func50, Try.ntmps50
  go_wp2_with (first | (go_at_call 132; refine (l1In_yes _ _ _ _ h1 h7).mono ?_; rintro e w' ⟨rfl, rfl⟩))
  obtain ⟨W, hW⟩ : ∃ W : World, W = w.alloc (Obj.cells #[Value.int IntKind.i64 ↑m, Value.slice (some ⟨b, o, none⟩) m c] 28) := ⟨_, rfl⟩
  rw [← hW]
  have e0 : W.cell? ⟨w.heap.size, 0, none⟩ = some (.int .i64 m) := by rw [hW]; simp [go_sem]
  have e1 : W.cell? ⟨w.heap.size, 1, none⟩ = some (.slice (some ⟨b, o, none⟩) m c) := by rw [hW]; simp [go_sem]
  have hcW : ∀ j, j < m → W.cell? ⟨b, o + j, none⟩ = some (.int .i64 (x j)) := fun j hj => by rw [hW]; exact (World.cell?_alloc_lt w _ ⟨b, o + j, none⟩ (by show b < _; omega)).trans (hc j hj)
  have HB : Below w.heap.size w W := by rw [hW]; exact (Below.refl _ _).alloc (Nat.le_refl _) _
  have hsz : w.heap.size < W.heap.size := by rw [hW]; simp
  clear hW hc h
  go_loopw [3] (fun i wr => ∃ v : Nat, v ≤ m ∧ i = .int .i64 v ∧ Hid (∀ a, a < v → (0 ≤ x a ∧ x a < 2 ^ m ∧ (x a).toNat.testBit a = false) ∧ Seen m x a m) ∧ Below W.heap.size W wr) (fun i _ => m - (intOf i).toNat)
  case atStart => exact ⟨0, Nat.zero_le _, rfl, fun a ha => absurd ha (by omega), Below.refl _ _⟩
  case round =>
    obtain ⟨v, hv, rfl, hall, hbr⟩ := hrel
    by_cases hlt : v < m
    · have f1 := (hbr.cell (p := ⟨b, o + v, none⟩) (by show b < _; omega)).trans (hcW v hlt)
      have q0 := (hbr.cell (p := ⟨w.heap.size, 0, none⟩) hsz).trans e0
      have q1 := (hbr.cell (p := ⟨w.heap.size, 1, none⟩) hsz).trans e1
      have i1 : (v : Int) < (m : Int) := by omega
      by_cases hr1 : 0 ≤ x v
      · by_cases hr2 : x v < 2 ^ m
        · cases hbit : (x v).toNat.testBit v
          · have g1 := and_one_i64 (x v) v hr1 (by omega)
            rw [hbit] at g1
            have Hbit := Lib.hid hbit
            clear hbit
            have hd : decide (x v < 0) = false := by simpa using hr1
            have hd2 : decide (2 ^ m ≤ x v) = false := by simpa using hr2
            go_wp2
            go_quiet (fail)
            clear f1 q0 q1 g1 hd hd2
            go_wp2
            obtain ⟨wo, rfl⟩ : ∃ wo : World, wo = wr := ⟨_, rfl⟩
            go_loopw [4] (fun i wr => ∃ u : Nat, u ≤ m ∧ i = .int .i64 u ∧ Hid (Seen m x v u) ∧ Below W.heap.size W wr) (fun i _ => m - (intOf i).toNat)
            case atStart => exact ⟨0, Nat.zero_le _, rfl, fun b hb => absurd hb (by omega), below_drewN hbr _⟩
            case round =>
              obtain ⟨u, hu, rfl, hseen, hbr2⟩ := hrel
              by_cases hlu : u < m
              · have f1 := (hbr2.cell (p := ⟨b, o + v, none⟩) (by show b < _; omega)).trans (hcW v hlt)
                have f2 := (hbr2.cell (p := ⟨b, o + u, none⟩) (by show b < _; omega)).trans (hcW u hlu)
                have q0 := (hbr2.cell (p := ⟨w.heap.size, 0, none⟩) hsz).trans e0
                have q1 := (hbr2.cell (p := ⟨w.heap.size, 1, none⟩) hsz).trans e1
                have i2 : (u : Int) < (m : Int) := by omega
                have g1 := and_one_i64 (x v) u hr1 (by omega)
                clear hcW
                cases hb1 : (x v).toNat.testBit u
                · rw [hb1] at g1
                  have H1 := Lib.hid hb1
                  clear hb1
                  go_wp2
                  go_quiet (fail)
                  go_wp2
                  go_roundw
                  case rel =>
                    refine ⟨u + 1, by omega, by go_num, fun b hb ht => ?_, below_drewN hbr2 _⟩
                    by_cases hbu : b < u
                    · exact hseen.out b hbu ht
                    · obtain rfl : b = u := by omega
                      rw [H1.out] at ht; cases ht
                  case measure => simp [intOf]; omega
                · rw [hb1] at g1
                  have H1 := Lib.hid hb1
                  clear hb1
                  by_cases hu1 : 0 ≤ x u
                  · have hd : decide (x u < 0) = false := by simpa using hu1
                    by_cases hu2 : x u < 2 ^ m
                    · have hd2 : decide (2 ^ m ≤ x u) = false := by simpa using hu2
                      have g2 := and_one_i64' (x u) v hu1 (by omega)
                      cases hb2 : (x u).toNat.testBit v
                      · rw [hb2] at g2
                        have hno : Hid (okB m m x = false) := okB_no (fun hok => by have := hok.sym v u hlt (by omega); rw [H1.out, hb2] at this; cases this)
                        clear hb2
                        go_wp2
                        go_quiet (fail)
                        go_wp2
                        go_ret
                        exact ⟨ret_bool hno.out.symm, HB.trans (below_drewN (hbr2.mono (Nat.le_of_lt hsz)) _)⟩
                      · rw [hb2] at g2
                        have H2 := Lib.hid hb2
                        clear hb2
                        go_wp2
                        go_quiet (fail)
                        go_wp2
                        go_roundw
                        case rel =>
                          refine ⟨u + 1, by omega, by go_num, fun b hb ht => ?_, below_drewN hbr2 _⟩
                          by_cases hbu : b < u
                          · exact hseen.out b hbu ht
                          · obtain rfl : b = u := by omega
                            exact ⟨hu1, hu2, H2.out⟩
                        case measure => simp [intOf]; omega
                    · have hno : Hid (okB m m x = false) := okB_no (fun hok => hu2 (hok.rows u hlu).2.1)
                      have hd2 : decide (2 ^ m ≤ x u) = true := by simp; omega
                      go_wp2
                      go_quiet (fail)
                      go_wp2
                      go_ret
                      exact ⟨ret_bool hno.out.symm, HB.trans (below_drewN (hbr2.mono (Nat.le_of_lt hsz)) _)⟩
                  · have hno : Hid (okB m m x = false) := okB_no (fun hok => hu1 (hok.rows u hlu).1)
                    have hd : decide (x u < 0) = true := by simp; omega
                    go_wp2
                    go_quiet (fail)
                    go_wp2
                    go_ret
                    exact ⟨ret_bool hno.out.symm, HB.trans (below_drewN (hbr2.mono (Nat.le_of_lt hsz)) _)⟩
              · have hge : (m : Int) ≤ (u : Int) := by omega
                have q0 := (hbr2.cell (p := ⟨w.heap.size, 0, none⟩) hsz).trans e0
                clear hcW e0 e1 p2
                go_wp2
                go_roundw
                case rel =>
                  refine ⟨v + 1, by omega, by go_num, fun a ha => ?_, hbr2⟩
                  by_cases hav : a < v
                  · exact hall.out a hav
                  · obtain rfl : a = v := by omega
                    exact ⟨⟨hr1, hr2, Hbit.out⟩, fun b hb => hseen.out b (by omega)⟩
                case measure => simp [intOf]; omega
          · have g1 := and_one_i64 (x v) v hr1 (by omega)
            rw [hbit] at g1
            have hno : Hid (okB m m x = false) := okB_no (fun hok => by have := (hok.rows v hlt).2.2; rw [hbit] at this; cases this)
            have hd : decide (x v < 0) = false := by simpa using hr1
            have hd2 : decide (2 ^ m ≤ x v) = false := by simpa using hr2
            clear hbit hcW
            go_wp2
            go_quiet (fail)
            go_wp2
            go_ret
            exact ⟨ret_bool hno.out.symm, HB.trans (below_drewN (hbr.mono (Nat.le_of_lt hsz)) _)⟩
        · have hno : Hid (okB m m x = false) := okB_no (fun hok => hr2 (hok.rows v hlt).2.1)
          have hd : decide (x v < 0) = false := by simpa using hr1
          have hd2 : decide (2 ^ m ≤ x v) = true := by simp; omega
          clear hcW
          go_wp2
          go_quiet (fail)
          go_wp2
          go_ret
          exact ⟨ret_bool hno.out.symm, HB.trans (below_drewN (hbr.mono (Nat.le_of_lt hsz)) _)⟩
      · have hno : Hid (okB m m x = false) := okB_no (fun hok => hr1 (hok.rows v hlt).1)
        have hd : decide (x v < 0) = true := by simp; omega
        clear hcW
        go_wp2
        go_quiet (fail)
        go_wp2
        go_ret
        exact ⟨ret_bool hno.out.symm, HB.trans (below_drewN (hbr.mono (Nat.le_of_lt hsz)) _)⟩
    · obtain rfl : v = m := by omega
      have hyes : Hid (okB v v x = true) := okB_yes (OkG.mk (by omega) (by omega) (fun a ha => (hall.out a ha).1) (fun a b ha hb => by
        have s1 := (hall.out a ha).2 b (by omega)
        have s2 := (hall.out b (by omega)).2 a ha
        cases ha' : (x a).toNat.testBit b <;> cases hb' : (x b).toNat.testBit a
        · rfl
        · have := (s2 hb').2.2; rw [ha'] at this; cases this
        · have := (s1 ha').2.2; rw [hb'] at this; cases this
        · rfl))
      have q0 := (hbr.cell (p := ⟨w.heap.size, 0, none⟩) hsz).trans e0
      clear hcW
      go_wp2
      go_ret
      exact ⟨ret_bool hyes.out.symm, HB.trans (hbr.mono (Nat.le_of_lt hsz))⟩
end Go.Proofs.Ytnnlmdenffnjbaa
