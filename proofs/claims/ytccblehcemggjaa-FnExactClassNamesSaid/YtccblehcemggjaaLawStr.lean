/-
  Contracts of the law's helpers on slices of at most nine strings.
-/
import Derived.Test.YtccblehcemggjaaRows
import Derived.Test.YtccblehcemggjaaMem
import Derived.Deep.RegionHeld3
import Derived.Deep.QuietTactic
import Derived.BigQuiet
namespace Go.Proofs.Ytccblehcemggjaa
open Go.RowKit

theorem info_string : (Try.prog.info? 9).map (fun i => (i.zero, i.size, i.bytes)) = some (some (.string ⟨#[]⟩), 1, 16) := by kernel_rfl

/-- The mark for k from 1 to 9. -/
def mtS (k : Nat) : ByteArray := ⟨#[109, UInt8.ofNat (48 + k)]⟩

theorem conv1 (W : World) (d : Int) : (convert 99 9 (.slice (some ⟨W.heap.size, 0, none⟩) 1 1)).run Try.prog (W.alloc (Obj.cells #[Value.int .u8 d] 5)) = .ok (.string ⟨#[UInt8.ofNat d.toNat]⟩) (W.alloc (Obj.cells #[Value.int .u8 d] 5)) := by
  have h := run_convert_bytes_arg (P := Try.prog) (W.alloc (Obj.cells #[Value.int .u8 d] 5)) 99 5 Try.underlying99 Try.underlying5 W.heap.size 0 1 1 [d] rfl (fun i hi => by
    obtain rfl : i = 0 := by omega
    simp [go_sem]) 9 Try.underlying9
  rw [h]
  rfl

set_option maxRecDepth 100000 in
set_option maxHeartbeats 1000000 in
theorem markText_1 (w : World) : Calls Try.prog 65 #[.int .i64 1] w fun e w' => e = .returned (.string (mtS 1)) ∧ Below w.heap.size w w' := by
  have cv := fun W => conv1 W 49
  go_enter Try.func65, Try.ntmps65
  go_wp2
  refine wp_loop_rounds 2 ?_
  rw [rounds_succ]
  go_wp2
  rw [rounds_succ]
  go_wp2
  go_ret
  exact ⟨rfl, (Below.refl _ _).alloc (Nat.le_refl _) _⟩
set_option maxRecDepth 100000 in
set_option maxHeartbeats 1000000 in
theorem markText_2 (w : World) : Calls Try.prog 65 #[.int .i64 2] w fun e w' => e = .returned (.string (mtS 2)) ∧ Below w.heap.size w w' := by
  have cv := fun W => conv1 W 50
  go_enter Try.func65, Try.ntmps65
  go_wp2
  refine wp_loop_rounds 2 ?_
  rw [rounds_succ]
  go_wp2
  rw [rounds_succ]
  go_wp2
  go_ret
  exact ⟨rfl, (Below.refl _ _).alloc (Nat.le_refl _) _⟩
set_option maxRecDepth 100000 in
set_option maxHeartbeats 1000000 in
theorem markText_3 (w : World) : Calls Try.prog 65 #[.int .i64 3] w fun e w' => e = .returned (.string (mtS 3)) ∧ Below w.heap.size w w' := by
  have cv := fun W => conv1 W 51
  go_enter Try.func65, Try.ntmps65
  go_wp2
  refine wp_loop_rounds 2 ?_
  rw [rounds_succ]
  go_wp2
  rw [rounds_succ]
  go_wp2
  go_ret
  exact ⟨rfl, (Below.refl _ _).alloc (Nat.le_refl _) _⟩
set_option maxRecDepth 100000 in
set_option maxHeartbeats 1000000 in
theorem markText_4 (w : World) : Calls Try.prog 65 #[.int .i64 4] w fun e w' => e = .returned (.string (mtS 4)) ∧ Below w.heap.size w w' := by
  have cv := fun W => conv1 W 52
  go_enter Try.func65, Try.ntmps65
  go_wp2
  refine wp_loop_rounds 2 ?_
  rw [rounds_succ]
  go_wp2
  rw [rounds_succ]
  go_wp2
  go_ret
  exact ⟨rfl, (Below.refl _ _).alloc (Nat.le_refl _) _⟩
set_option maxRecDepth 100000 in
set_option maxHeartbeats 1000000 in
theorem markText_5 (w : World) : Calls Try.prog 65 #[.int .i64 5] w fun e w' => e = .returned (.string (mtS 5)) ∧ Below w.heap.size w w' := by
  have cv := fun W => conv1 W 53
  go_enter Try.func65, Try.ntmps65
  go_wp2
  refine wp_loop_rounds 2 ?_
  rw [rounds_succ]
  go_wp2
  rw [rounds_succ]
  go_wp2
  go_ret
  exact ⟨rfl, (Below.refl _ _).alloc (Nat.le_refl _) _⟩
set_option maxRecDepth 100000 in
set_option maxHeartbeats 1000000 in
theorem markText_6 (w : World) : Calls Try.prog 65 #[.int .i64 6] w fun e w' => e = .returned (.string (mtS 6)) ∧ Below w.heap.size w w' := by
  have cv := fun W => conv1 W 54
  go_enter Try.func65, Try.ntmps65
  go_wp2
  refine wp_loop_rounds 2 ?_
  rw [rounds_succ]
  go_wp2
  rw [rounds_succ]
  go_wp2
  go_ret
  exact ⟨rfl, (Below.refl _ _).alloc (Nat.le_refl _) _⟩
set_option maxRecDepth 100000 in
set_option maxHeartbeats 1000000 in
theorem markText_7 (w : World) : Calls Try.prog 65 #[.int .i64 7] w fun e w' => e = .returned (.string (mtS 7)) ∧ Below w.heap.size w w' := by
  have cv := fun W => conv1 W 55
  go_enter Try.func65, Try.ntmps65
  go_wp2
  refine wp_loop_rounds 2 ?_
  rw [rounds_succ]
  go_wp2
  rw [rounds_succ]
  go_wp2
  go_ret
  exact ⟨rfl, (Below.refl _ _).alloc (Nat.le_refl _) _⟩
set_option maxRecDepth 100000 in
set_option maxHeartbeats 1000000 in
theorem markText_8 (w : World) : Calls Try.prog 65 #[.int .i64 8] w fun e w' => e = .returned (.string (mtS 8)) ∧ Below w.heap.size w w' := by
  have cv := fun W => conv1 W 56
  go_enter Try.func65, Try.ntmps65
  go_wp2
  refine wp_loop_rounds 2 ?_
  rw [rounds_succ]
  go_wp2
  rw [rounds_succ]
  go_wp2
  go_ret
  exact ⟨rfl, (Below.refl _ _).alloc (Nat.le_refl _) _⟩
set_option maxRecDepth 100000 in
set_option maxHeartbeats 1000000 in
theorem markText_9 (w : World) : Calls Try.prog 65 #[.int .i64 9] w fun e w' => e = .returned (.string (mtS 9)) ∧ Below w.heap.size w w' := by
  have cv := fun W => conv1 W 57
  go_enter Try.func65, Try.ntmps65
  go_wp2
  refine wp_loop_rounds 2 ?_
  rw [rounds_succ]
  go_wp2
  rw [rounds_succ]
  go_wp2
  go_ret
  exact ⟨rfl, (Below.refl _ _).alloc (Nat.le_refl _) _⟩
theorem markText_any (k : Nat) (h1 : 1 ≤ k) (h9 : k ≤ 9) (w : World) : Calls Try.prog 65 #[.int .i64 k] w fun e w' => e = .returned (.string (mtS k)) ∧ Below w.heap.size w w' := by
  have hc : k = 1 ∨ k = 2 ∨ k = 3 ∨ k = 4 ∨ k = 5 ∨ k = 6 ∨ k = 7 ∨ k = 8 ∨ k = 9 := by omega
  rcases hc with rfl | rfl | rfl | rfl | rfl | rfl | rfl | rfl | rfl
  · exact markText_1 w
  · exact markText_2 w
  · exact markText_3 w
  · exact markText_4 w
  · exact markText_5 w
  · exact markText_6 w
  · exact markText_7 w
  · exact markText_8 w
  · exact markText_9 w

/-- Strings as cells. -/
def strs (x : Nat → ByteArray) : Nat → Value := fun j => .string (x j)

set_option maxHeartbeats 400000 in
theorem eqStringS_yes (A1 A2 : Option Addr) (n c1 c2 : Nat) (x : Nat → ByteArray) (w : World) (B1 B2 : Nat) (h1 : RdV w B1 A1 n c1 (strs x)) (h2 : RdV w B2 A2 n c2 (strs x)) (hB1 : B1 ≤ w.heap.size) (hB2 : B2 ≤ w.heap.size) (hn : n ≤ 140737488355328) :
    Calls Try.prog 19 #[.slice A1 n c1, .slice A2 n c2] w fun e w' => e = .returned (.bool true) ∧ Below w.heap.size w w' := by
  go_enter Try.func19, Try.ntmps19
  go_wp2
  go_loopw [5] (fun i wr => ∃ k : Nat, k ≤ n ∧ i = .int .i64 k ∧ Below w.heap.size w wr) (fun i _ => n - (intOf i).toNat)
  case atStart => exact ⟨0, Nat.zero_le _, rfl, Below.refl _ _⟩
  case round =>
    obtain ⟨k, hk, rfl, hbr⟩ := hrel
    by_cases hlt : k < n
    · obtain ⟨b1, o1, rfl, l1, c1'⟩ := h1.2 (by omega)
      obtain ⟨b2, o2, rfl, l2, c2'⟩ := h2.2 (by omega)
      have f1 : wr.cell? ⟨b1, o1 + k, none⟩ = some (.string (x k)) := (hbr.cell (p := ⟨b1, o1 + k, none⟩) (by show b1 < _; omega)).trans (c1' k hlt)
      have f2 : wr.cell? ⟨b2, o2 + k, none⟩ = some (.string (x k)) := (hbr.cell (p := ⟨b2, o2 + k, none⟩) (by show b2 < _; omega)).trans (c2' k hlt)
      have hi : (k : Int) < (n : Int) := by omega
      clear c1' c2' h1 h2
      go_wp2
      go_quiet (fail)
      go_wp2
      go_roundw
      case rel => exact ⟨k + 1, by omega, by go_num, below_drewN hbr _⟩
      case measure => simp [intOf]; omega
    · have hge : (n : Int) ≤ (k : Int) := by omega
      go_wp2
      go_ret
      exact ⟨rfl, hbr⟩

/-- What mark writes into strings. -/
def mksS (k : Nat) (x : Nat → ByteArray) (i : Nat) : Nat → Value := strs fun j => if j < i then mtS (k + j) else x j
theorem mksS_succ (k : Nat) (x : Nat → ByteArray) (i : Nat) : (fun j => if j = i then Value.string (mtS (k + i)) else mksS k x i j) = mksS k x (i + 1) := by
  funext j
  unfold mksS strs
  by_cases h : j = i
  · subst h; simp
  · rw [if_neg h]
    dsimp only
    by_cases h2 : j < i
    · rw [if_pos h2, if_pos (by omega)]
    · rw [if_neg h2, if_neg (by omega)]

set_option maxHeartbeats 1000000 in
theorem markStringS_any (A : Option Addr) (n c : Nat) (x : Nat → ByteArray) (k : Nat) (w : World) (lo hi : Nat) (h : Own w lo hi 9 1 A n c (strs x)) (hhi : hi ≤ w.heap.size) (hk0 : 1 ≤ k) (hk1 : k + n ≤ 10) :
    Calls Try.prog 20 #[.slice A n c, .int .i64 k] w fun e w' => e = .returned (.int .i64 (k + n)) ∧ Own w' lo hi 9 1 A n c (mksS k x n) ∧ Fr lo hi w w' := by
  go_enter Try.func20, Try.ntmps20
  go_wp2
  go_loopw [1, 5] (fun kk i wr => ∃ j : Nat, j ≤ n ∧ i = .int .i64 j ∧ kk = .int .i64 (k + j) ∧ Own wr lo hi 9 1 A n c (mksS k x j) ∧ Fr lo hi w wr) (fun _ i _ => n - (intOf i).toNat)
  case atStart => exact ⟨0, Nat.zero_le _, rfl, by go_num, h.congr (fun j _ => by simp [mksS]), Fr.refl _ _ _⟩
  case round =>
    obtain ⟨j, hj, rfl, rfl, hown, hfr⟩ := hrel
    by_cases hlt : j < n
    · obtain ⟨kk, hkk⟩ : ∃ kk : Nat, kk = k + j := ⟨_, rfl⟩
      have ek : (k : Int) + j = (kk : Int) := by omega
      rw [ek]
      have hz := hfr.size
      have HO := Lib.hid hown
      have HF := Lib.hid hfr
      have Hk := Lib.hid hkk
      have k0 : 1 ≤ kk := by omega
      have k1 : kk ≤ 9 := by omega
      clear hown hfr h ek hkk
      go_wp2_with fail
      refine (markText_any kk k0 k1 wr).mono ?_
      rintro e w1 ⟨rfl, hb⟩
      have ho1 := HO.out.keepB hb (by omega)
      obtain ⟨g, rfl, g1, g2, g3, hc, hf⟩ := ho1.at_ (by omega)
      have f1 := hc j (by omega)
      have f2 := hf j
      have hs := ho1.set_ j (.string (mtS (k + j)))
      rw [mksS_succ] at hs
      rw [← Hk.out] at hs
      have hfr' := (HF.out.trans (Fr.of_below hb)).setCell (p := ⟨g, j, none⟩) g1 g2 (.string (mtS kk))
      have H1 := Lib.hid hs
      have H2 := Lib.hid hfr'
      clear hc hf hs hfr' ho1 hb HO HF
      go_wp2
      go_roundw
      case rel => exact ⟨j + 1, by omega, by go_num, congrArg (Value.int .i64) (by have := Hk.out; omega), H1.out, H2.out⟩
      case measure => simp [intOf]; omega
    · obtain rfl : j = n := by omega
      have H1 := Lib.hid hown
      have H2 := Lib.hid hfr
      clear hown hfr h
      go_wp2
      go_ret
      exact ⟨rfl, H1.out, H2.out⟩
theorem Own.markedS {w : World} {lo hi n c : Nat} {e : TypeId} {A : Option Addr} {k : Nat} {x : Nat → ByteArray} (h : Own w lo hi e 1 A n c (mksS k x n)) : Own w lo hi e 1 A n c (strs fun j => mtS (k + j)) :=
  h.congr (fun j hj => by unfold mksS strs; dsimp only; rw [if_pos (by omega)])

set_option maxHeartbeats 1000000 in
theorem heldStringS_yes (A : Option Addr) (n c : Nat) (k : Nat) (w : World) (B : Nat) (h : RdV w B A n c (strs fun j => mtS (k + j))) (hB : B ≤ w.heap.size) (hk0 : 1 ≤ k) (hk1 : k + n ≤ 10) :
    Calls Try.prog 21 #[.slice A n c, .int .i64 k] w fun e w' => e = .returned (.int .i64 (k + n)) ∧ Below w.heap.size w w' := by
  go_enter Try.func21, Try.ntmps21
  go_wp2
  go_loopw [1, 5] (fun kk i wr => ∃ j : Nat, j ≤ n ∧ i = .int .i64 j ∧ kk = .int .i64 (k + j) ∧ Below w.heap.size w wr) (fun _ i _ => n - (intOf i).toNat)
  case atStart => exact ⟨0, Nat.zero_le _, rfl, by go_num, Below.refl _ _⟩
  case round =>
    obtain ⟨j, hj, rfl, rfl, hbr⟩ := hrel
    by_cases hlt : j < n
    · obtain ⟨b, o, rfl, l, hc⟩ := h.2 (by omega)
      have f1 : wr.cell? ⟨b, o + j, none⟩ = some (.string (mtS (k + j))) := (hbr.cell (p := ⟨b, o + j, none⟩) (by show b < _; omega)).trans (hc j hlt)
      obtain ⟨kk, hkk⟩ : ∃ kk : Nat, kk = k + j := ⟨_, rfl⟩
      have ek : (k : Int) + j = (kk : Int) := by omega
      rw [ek]
      rw [← hkk] at f1
      have Hk := Lib.hid hkk
      have k0 : 1 ≤ kk := by omega
      have k1 : kk ≤ 9 := by omega
      have hi : (j : Int) < (n : Int) := by omega
      have hz := hbr.size
      clear hc h ek hkk
      go_wp2_with fail
      go_region_held3 (fun a => a.cell? ⟨b, o + j, none⟩ = some (.string (mtS kk)))
        (first | assumption | (refine (hb.cell (by show b < wr.heap.size; omega)).trans ?_; assumption))
        ((go_at_call 65; (refine (markText_any kk k0 k1 _).mono ?_); rintro e w1 ⟨rfl, hb⟩))
      have HB := Lib.hid (hbr.drew.trans (hb.mono hbr.size))
      clear f1 hb hbr
      go_wp2
      go_roundw
      case rel => exact ⟨j + 1, by omega, by go_num, congrArg (Value.int .i64) (by have := Hk.out; omega), HB.out⟩
      case measure => simp [intOf]; omega
    · obtain rfl : j = n := by omega
      have HB := Lib.hid hbr
      clear hbr h
      go_wp2
      go_ret
      exact ⟨rfl, HB.out⟩
end Go.Proofs.Ytccblehcemggjaa
