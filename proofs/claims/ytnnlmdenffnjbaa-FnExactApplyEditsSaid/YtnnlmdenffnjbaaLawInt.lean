/-
  Contracts of the law's own helpers on slices of integers: copy, compare, mark, look at the marks, size.
-/
import Derived.Test.YtnnlmdenffnjbaaRows
import Derived.Test.YtnnlmdenffnjbaaMem
import Derived.Deep.QuietTactic
import Derived.BigQuiet
import Derived.Deep.DeepCutAuto
namespace Go.Proofs.Ytnnlmdenffnjbaa
open Go.RowKit

theorem info_int : (Try.prog.info? 3).map (fun i => (i.zero, i.size, i.bytes)) = some (some (.int .i64 0), 1, 8) := by kernel_rfl

/-- What is left of a bound behind n elements. -/
def szl (left : Int) (n : Nat) : Int := if left < n then -1 else left - n

theorem szIntS_any (A : Option Addr) (n c : Nat) (left : Int) (w : World) (hn : n ≤ 140737488355328) (h0 : 0 ≤ left) (h1 : left ≤ 1048576) :
    Calls Try.prog 49 #[.slice A n c, .int .i64 left] w fun e w' => e = .returned (.int .i64 (szl left n)) ∧ w = w' := by
  by_cases h : left < n
  · have h' : left - n < 0 := by omega
    go_enter Try.func49, Try.ntmps49
    go_wp2
    go_ret
    exact ⟨ret_int (by unfold szl; rw [if_pos (by omega)]), rfl⟩
  · have h' : 0 ≤ left - n := by omega
    go_enter Try.func49, Try.ntmps49
    go_wp2
    go_ret
    exact ⟨ret_int (by unfold szl; rw [if_neg (by omega)]), rfl⟩

set_option maxHeartbeats 400000 in
theorem eqIntS_yes (A1 A2 : Option Addr) (n c1 c2 : Nat) (x : Nat → Int) (w : World) (B1 B2 : Nat) (h1 : Rd w B1 A1 n c1 x) (h2 : Rd w B2 A2 n c2 x) (hB1 : B1 ≤ w.heap.size) (hB2 : B2 ≤ w.heap.size) (hn : n ≤ 140737488355328) :
    Calls Try.prog 38 #[.slice A1 n c1, .slice A2 n c2] w fun e w' => e = .returned (.bool true) ∧ Below w.heap.size w w' := by
  go_enter Try.func38, Try.ntmps38
  go_wp2
  go_loopw [5] (fun i wr => ∃ k : Nat, k ≤ n ∧ i = .int .i64 k ∧ Below w.heap.size w wr) (fun i _ => n - (intOf i).toNat)
  case atStart => exact ⟨0, Nat.zero_le _, rfl, Below.refl _ _⟩
  case round =>
    obtain ⟨k, hk, rfl, hbr⟩ := hrel
    by_cases hlt : k < n
    · obtain ⟨b1, o1, rfl, l1, c1'⟩ := h1.pos (by omega)
      obtain ⟨b2, o2, rfl, l2, c2'⟩ := h2.pos (by omega)
      have f1 := (hbr.cell (p := ⟨b1, o1 + k, none⟩) (by show b1 < _; omega)).trans (c1' k hlt)
      have f2 := (hbr.cell (p := ⟨b2, o2 + k, none⟩) (by show b2 < _; omega)).trans (c2' k hlt)
      have hi : (k : Int) < (n : Int) := by omega
      clear c1' c2' h1 h2
      go_wp2
      go_quiet (fail)
      go_wp2
      go_roundw
      case rel => exact ⟨k + 1, by omega, by go_num, below_drewN hbr _⟩
      case measure => simp [intOf]; omega
    · have hge : (n : Int) ≤ (k : Int) := by omega
      go_wp2
      go_ret
      exact ⟨rfl, hbr⟩

/-- What mark writes: k, k + 1, .. -/
def mks (k : Int) (x : Nat → Value) (i : Nat) : Nat → Value := fun j => if j < i then .int .i64 (k + j) else x j
theorem mks_succ (k : Int) (x : Nat → Value) (i : Nat) : (fun j => if j = i then Value.int .i64 (k + i) else mks k x i j) = mks k x (i + 1) := by
  funext j
  unfold mks
  by_cases h : j = i
  · subst h; simp
  · rw [if_neg h]
    by_cases h2 : j < i
    · rw [if_pos h2, if_pos (by omega)]
    · rw [if_neg h2, if_neg (by omega)]

set_option maxHeartbeats 400000 in
theorem markIntS_any (A : Option Addr) (n c : Nat) (x : Nat → Value) (k : Int) (w : World) (lo hi : Nat) (h : Own w lo hi 3 1 A n c x) (hn : n ≤ 140737488355328) (hk0 : 0 ≤ k) (hk1 : k ≤ 140737488355328) :
    Calls Try.prog 58 #[.slice A n c, .int .i64 k] w fun e w' => e = .returned (.int .i64 (k + n)) ∧ Own w' lo hi 3 1 A n c (mks k x n) ∧ Fr lo hi w w' := by
  go_enter Try.func58, Try.ntmps58
  go_wp2
  go_loopw [1, 5] (fun kk i wr => ∃ j : Nat, j ≤ n ∧ i = .int .i64 j ∧ kk = .int .i64 (k + j) ∧ Own wr lo hi 3 1 A n c (mks k x j) ∧ Fr lo hi w wr) (fun _ i _ => n - (intOf i).toNat)
  case atStart => exact ⟨0, Nat.zero_le _, rfl, by go_num, h.congr (fun j _ => by simp [mks]), Fr.refl _ _ _⟩
  case round =>
    obtain ⟨j, hj, rfl, rfl, hown, hfr⟩ := hrel
    by_cases hlt : j < n
    · obtain ⟨g, rfl, g1, g2, g3, hc, hf⟩ := hown.at_ (by omega)
      have f1 := hc j (by omega)
      have f2 := hf j
      have hs := hown.set_ j (.int .i64 (k + j))
      rw [mks_succ] at hs
      have hfr' := hfr.setCell (p := ⟨g, j, none⟩) g1 g2 (.int .i64 (k + j))
      have H1 := Lib.hid hs
      have H2 := Lib.hid hfr'
      clear hc hf hs hfr' h hown hfr
      go_wp2
      go_roundw
      case rel => exact ⟨j + 1, by omega, by go_num, by go_num, H1.out, H2.out⟩
      case measure => simp [intOf]; omega
    · obtain rfl : j = n := by omega
      go_wp2
      go_ret
      exact ⟨rfl, hown, hfr⟩

set_option maxHeartbeats 400000 in
theorem heldIntS_yes (A : Option Addr) (n c : Nat) (k : Int) (w : World) (B : Nat) (h : Rd w B A n c (fun j => k + j)) (hn : n ≤ 140737488355328) (hk0 : 0 ≤ k) (hk1 : k ≤ 140737488355328) :
    Calls Try.prog 59 #[.slice A n c, .int .i64 k] w fun e w' => e = .returned (.int .i64 (k + n)) ∧ w = w' := by
  go_enter Try.func59, Try.ntmps59
  go_wp2
  go_loop [1, 5] (fun kk i => ∃ j : Nat, j ≤ n ∧ i = .int .i64 j ∧ kk = .int .i64 (k + j)) (fun _ i => n - (intOf i).toNat)
  case atStart => exact ⟨0, Nat.zero_le _, rfl, by go_num⟩
  case round =>
    obtain ⟨j, hj, rfl, rfl⟩ := hrel
    by_cases hlt : j < n
    · obtain ⟨b, o, rfl, l, hc⟩ := h.pos (by omega)
      have f1 := hc j hlt
      clear hc h
      go_wp2
      go_round
      case rel => exact ⟨j + 1, by omega, by go_num, by go_num⟩
      case measure => simp [intOf]; omega
    · obtain rfl : j = n := by omega
      go_wp2
      go_ret
      exact ⟨rfl, rfl⟩

/-- The copied cells so far. -/
def cps (x : Nat → Int) (i : Nat) : Nat → Value := fun j => .int .i64 (if j < i then x j else 0)
theorem cps_succ (x : Nat → Int) (i : Nat) : (fun j => if j = i then Value.int .i64 (x i) else cps x i j) = cps x (i + 1) := by
  funext j
  unfold cps
  by_cases h : j = i
  · subst h; simp
  · rw [if_neg h]
    by_cases h2 : j < i
    · rw [if_pos h2, if_pos (by omega)]
    · rw [if_neg h2, if_neg (by omega)]

set_option maxHeartbeats 400000 in
theorem toIntS_any (A : Option Addr) (n c : Nat) (x : Nat → Int) (w : World) (B : Nat) (h : Rd w B A n c x) (hB : B ≤ w.heap.size) (hn : n ≤ 1048576) :
    Calls Try.prog 36 #[.slice A n c] w fun e w' => ∃ g, w.heap.size ≤ g ∧ e = .returned (.slice (some ⟨g, 0, none⟩) n n) ∧ Own w' w.heap.size w'.heap.size 3 1 (some ⟨g, 0, none⟩) n n (fun j => .int .i64 (x j)) ∧ Below w.heap.size w w' := by
  have hmk := fun W => run_make_row' (P := Try.prog) 22 3 (.int .i64 0) 8 Try.underlying22 info_int rfl .i64 .i64 n (by omega) (by omega) W
  go_enter Try.func36, Try.ntmps36
  go_wp2
  clear hmk
  go_loopw [4] (fun i wr => ∃ j : Nat, j ≤ n ∧ i = .int .i64 j ∧ Own wr w.heap.size (w.heap.size + 1) 3 1 (some ⟨w.heap.size, 0, none⟩) n n (cps x j) ∧ Below w.heap.size w wr) (fun i _ => n - (intOf i).toNat)
  case atStart =>
    refine ⟨0, Nat.zero_le _, rfl, ?_, (Below.refl _ _).alloc (Nat.le_refl _) _⟩
    obtain ⟨cc, q1, q2, q3⟩ := World.rowIs_made w (.int .i64 0) n 3
    exact .inr ⟨_, cc, rfl, Nat.le_refl _, Nat.lt_succ_self _, q1, Nat.le_refl _, by unfold maxLen; omega, by omega, fun j hj => by rw [q3 j (by omega)]; simp [cps]⟩
  case round =>
    obtain ⟨j, hj, rfl, hown, hbr⟩ := hrel
    by_cases hlt : j < n
    · obtain ⟨b, o, rfl, l, hc⟩ := h.pos (by omega)
      have f1 := (hbr.cell (p := ⟨b, o + j, none⟩) (by show b < _; omega)).trans (hc j hlt)
      obtain ⟨g, e, g1, g2, g3, hc2, hf2⟩ := hown.at_ (by omega)
      simp only [Option.some.injEq, Addr.mk.injEq, and_true] at e
      subst e
      have f2 := hc2 j (by omega)
      have f3 := hf2 j
      have hs := hown.set_ j (.int .i64 (x j))
      rw [cps_succ] at hs
      have hb' := hbr.setCell (p := ⟨w.heap.size, j, none⟩) (Nat.le_refl _) (.int .i64 (x j))
      have H1 := Lib.hid hs
      have H2 := Lib.hid hb'
      have hne : b ≠ w.heap.size := by omega
      clear hc hc2 hf2 hs hb' h hown hbr
      go_wp2
      go_roundw
      case rel => exact ⟨j + 1, by omega, by go_num, H1.out, H2.out⟩
      case measure => simp [intOf]; omega
    · obtain rfl : j = n := by omega
      have hsz := (hown.at_ (n := j))
      have H := Lib.hid hown
      have Hb := Lib.hid hbr
      clear hown hbr hsz
      go_wp2
      go_ret
      refine ⟨w.heap.size, Nat.le_refl _, rfl, ?_, Hb.out⟩
      have h1 := (H.out.congr (y := fun j => .int .i64 (x j)) (fun i hi => by unfold cps; rw [if_pos (by omega)])).lt
      exact h1.mono (Nat.le_refl _) (Nat.min_le_right _ _)
end Go.Proofs.Ytnnlmdenffnjbaa
