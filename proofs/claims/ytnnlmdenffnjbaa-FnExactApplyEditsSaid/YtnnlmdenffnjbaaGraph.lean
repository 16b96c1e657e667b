/-
  Contracts: is it a graph? Both programs' tests, and the law's helpers on graphs.
-/
import Derived.Test.YtnnlmdenffnjbaaBase
import Derived.Test.YtnnlmdenffnjbaaLawInt
import Derived.Test.YtnnlmdenffnjbaaPlain
import Derived.Deep.RegionWith
import Derived.Outline
namespace Go.Proofs.Ytnnlmdenffnjbaa
open Go.RowKit

theorem two_pow_int (n : Nat) (h : n ≤ 7) : (1 : Int) ≤ 2 ^ n ∧ (2 : Int) ^ n ≤ 128 := by
  have h2 : ((2 ^ n : Nat) : Int) = 2 ^ n := by simp
  have := two_pow_le h
  have := Nat.two_pow_pos n
  omega
theorem pow_shl (n : Nat) (h : n ≤ 7) : IntKind.i64.wrap (2 ^ n) = 2 ^ n := by
  have := two_pow_int n h
  exact Go.IntWalk.i64_in _ (by omega)

set_option maxHeartbeats 1000000 in
theorem IsGraph_i (sz : Int) (A : Option Addr) (m c : Nat) (x : Nat → Int) (w : World) (B : Nat) (h : Rd w B A m c x) (hB : B ≤ w.heap.size) (hm : m ≤ 1048576) (h1 : 1 ≤ sz) (h7 : sz ≤ 7) (hs : sz = (m : Int)) :
    Calls Try.prog 54 #[.agg #[.int .i64 sz, .slice A m c]] w fun e w' => e = .returned (.bool (okB sz m x)) ∧ Below w.heap.size w w' := by
  subst hs
  obtain ⟨b, o, rfl, hb, hc⟩ := h.pos (by omega)
  have p1 := two_pow_int m (by omega)
  have p2 := pow_shl m (by omega)
  go_enter Try.func54, Try.ntmps54
  go_wp2_with (first | (go_at_call 135; refine (within_yes _ _ _ _ h1 h7).mono ?_; rintro e w' ⟨rfl, rfl⟩))
  go_loop [23] (fun i => ∃ k : Nat, k ≤ m ∧ i = .int .i64 k ∧ Hid (∀ v, v < k → 0 ≤ x v ∧ x v < 2 ^ m ∧ (x v).toNat.testBit v = false)) (fun i => m - (intOf i).toNat)
  case atStart => exact ⟨0, Nat.zero_le _, rfl, fun v hv => absurd hv (by omega)⟩
  case round =>
    obtain ⟨k, hk, rfl, hall⟩ := hrel
    by_cases hlt : k < m
    · have f1 := (World.cell?_alloc_lt w (Obj.cells #[Value.int IntKind.i64 ↑m, Value.slice (some ⟨b, o, none⟩) m c] 28) ⟨b, o + k, none⟩ (by show b < _; omega)).trans (hc k hlt)
      by_cases hr : 0 ≤ x k ∧ x k < 2 ^ m
      · have hbit : (x k).toNat.testBit k = true ∨ (x k).toNat.testBit k = false := by cases (x k).toNat.testBit k <;> simp
        obtain ⟨hr1, hr2⟩ := hr
        rcases hbit with hbit | hbit
        · have hno : Hid (okB m m x = false) := okB_no (fun hok => by have := (hok.rows k hlt).2.2; rw [hbit] at this; cases this)
          have Hbit := Lib.hid hbit
          clear hc h hbit
          go_wp2_with (first | (go_at_call 135; refine (within_yes _ _ _ _ hr1 (by omega)).mono ?_; rintro e w' ⟨rfl, rfl⟩) | (go_at_call 136; refine (has_any _ _ _ hr1 (by omega) (by omega) (by omega)).mono ?_; simp only [Int.toNat_natCast, Hbit.out]; rintro e w' ⟨rfl, rfl⟩))
          go_ret
          exact ⟨ret_bool hno.out.symm, (Below.refl _ _).alloc (Nat.le_refl _) _⟩
        · have Hbit := Lib.hid hbit
          clear hc h hbit
          go_wp2_with (first | (go_at_call 135; refine (within_yes _ _ _ _ hr1 (by omega)).mono ?_; rintro e w' ⟨rfl, rfl⟩) | (go_at_call 136; refine (has_any _ _ _ hr1 (by omega) (by omega) (by omega)).mono ?_; simp only [Int.toNat_natCast, Hbit.out]; rintro e w' ⟨rfl, rfl⟩))
          go_round
          case rel =>
            refine ⟨k + 1, by omega, by go_num, fun v hv => ?_⟩
            by_cases hvk : v < k
            · exact hall.out v hvk
            · obtain rfl : v = k := by omega
              exact ⟨hr1, hr2, Hbit.out⟩
          case measure => simp [intOf]; omega
      · have hno : Hid (okB m m x = false) := okB_no (fun hok => hr ⟨(hok.rows k hlt).1, (hok.rows k hlt).2.1⟩)
        have hr' : x k < 0 ∨ 2 ^ m - 1 < x k := by omega
        have Hr := Lib.hid hr'
        clear hc h hr hr'
        go_wp2_with (first | (go_at_call 135; refine (within_no _ _ _ _ Hr.out).mono ?_; rintro e w' ⟨rfl, rfl⟩))
        go_ret
        exact ⟨ret_bool hno.out.symm, (Below.refl _ _).alloc (Nat.le_refl _) _⟩
    · obtain rfl : k = m := by omega
      go_wp2
      obtain ⟨W, hW⟩ : ∃ W : World, W = w.alloc (Obj.cells #[Value.int IntKind.i64 ↑k, Value.slice (some ⟨b, o, none⟩) k c] 28) := ⟨_, rfl⟩
      rw [← hW]
      have e0 : W.cell? ⟨w.heap.size, 0, none⟩ = some (.int .i64 k) := by rw [hW]; simp [go_sem]
      have e1 : W.cell? ⟨w.heap.size, 1, none⟩ = some (.slice (some ⟨b, o, none⟩) k c) := by rw [hW]; simp [go_sem]
      have hcW : ∀ j, j < k → W.cell? ⟨b, o + j, none⟩ = some (.int .i64 (x j)) := fun j hj => by rw [hW]; exact (World.cell?_alloc_lt w _ ⟨b, o + j, none⟩ (by show b < _; omega)).trans (hc j hj)
      have HB : Below w.heap.size w W := by rw [hW]; exact (Below.refl _ _).alloc (Nat.le_refl _) _
      have hsz : w.heap.size < W.heap.size := by rw [hW]; simp
      clear hW hc h
      go_loopw [44] (fun i wr => ∃ v : Nat, v ≤ k ∧ i = .int .i64 v ∧ Hid (∀ a b, a < v → b < a → (x a).toNat.testBit b = (x b).toNat.testBit a) ∧ Below W.heap.size W wr) (fun i _ => k - (intOf i).toNat)
      case atStart => exact ⟨0, Nat.zero_le _, rfl, fun a b ha => absurd ha (by omega), Below.refl _ _⟩
      case round =>
        obtain ⟨v, hv, rfl, hsym, hbr⟩ := hrel
        by_cases hlt : v < k
        · have f1 := (hbr.cell (p := ⟨b, o + v, none⟩) (by show b < _; omega)).trans (hcW v hlt)
          have r1 := (hall.out v hlt).1
          have r2 := (hall.out v hlt).2.1
          go_wp2
          obtain ⟨wo, rfl⟩ : ∃ wo : World, wo = wr := ⟨_, rfl⟩
          go_loopw [50] (fun i wr => ∃ u : Nat, u ≤ v ∧ i = .int .i64 u ∧ Hid (∀ b, b < u → (x v).toNat.testBit b = (x b).toNat.testBit v) ∧ Below W.heap.size W wr) (fun i _ => v - (intOf i).toNat)
          case atStart => exact ⟨0, Nat.zero_le _, rfl, fun b hb => absurd hb (by omega), hbr⟩
          case round =>
            obtain ⟨u, hu, rfl, hrow, hbr2⟩ := hrel
            by_cases hlu : u < v
            · have f2 := (hbr2.cell (p := ⟨b, o + u, none⟩) (by show b < _; omega)).trans (hcW u (by omega))
              have q1 := (hbr2.cell (p := ⟨w.heap.size, 1, none⟩) hsz).trans e1
              have r3 := (hall.out u (by omega)).1
              have r4 := (hall.out u (by omega)).2.1
              have i1 : (u : Int) < (k : Int) := by omega
              cases hb1 : (x v).toNat.testBit u <;> cases hb2 : (x u).toNat.testBit v
              all_goals
                have H1 := Lib.hid hb1
                have H2 := Lib.hid hb2
                clear hcW hb1 hb2 e0 e1 f1
                go_wp2
                go_quiet (first | (go_at_call 136; exact Calls.quiet_of_same ((has_any _ _ _ (by omega) (by omega) (by omega) (by omega)).mono fun _ _ ⟨h1, h2⟩ => ⟨h1, h2.symm⟩)))
                simp only [Int.toNat_natCast, H1.out, H2.out]
                go_wp2
                first
                  | (go_roundw
                     case rel =>
                       refine ⟨u + 1, by omega, by go_num, fun b hb => ?_, below_drewN hbr2 _⟩
                       by_cases hbu : b < u
                       · exact hrow.out b hbu
                       · obtain rfl : b = u := by omega
                         exact H1.out.trans H2.out.symm
                     case measure => simp [intOf]; omega)
                  | (have hno : Hid (okB k k x = false) := okB_no (fun hok => by have := hok.sym v u hlt (by omega); rw [H1.out, H2.out] at this; cases this)
                     go_ret
                     exact ⟨ret_bool hno.out.symm, HB.trans (below_drewN (hbr2.mono (Nat.le_of_lt hsz)) _)⟩)
            · obtain rfl : u = v := by omega
              clear hcW e0 e1 f1
              go_wp2
              go_roundw
              case rel =>
                refine ⟨u + 1, by omega, by go_num, fun a b ha hb => ?_, hbr2⟩
                by_cases hbu : a < u
                · exact hsym.out a b hbu hb
                · obtain rfl : a = u := by omega
                  exact hrow.out b hb
              case measure => simp [intOf]; omega
        · obtain rfl : v = k := by omega
          have hyes : Hid (okB v v x = true) := okB_yes (OkG.mk (by omega) (by omega) hall.out hsym.out)
          clear hcW e0 e1
          go_wp2
          go_ret
          exact ⟨ret_bool hyes.out.symm, HB.trans (hbr.mono (Nat.le_of_lt hsz))⟩
end Go.Proofs.Ytnnlmdenffnjbaa
