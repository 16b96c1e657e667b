/-
  Contracts of the law's own helpers on graphs: size, copy, compare, mark.
-/
import Derived.Test.YtnnlmdenffnjbaaLawInt
namespace Go.Proofs.Ytnnlmdenffnjbaa
open Go.RowKit

theorem szIntS_max (A : Option Addr) (n c : Nat) (left : Int) (w : World) (hn : n ≤ maxLen) (h0 : 0 ≤ left) (h1 : left ≤ 1048576) :
    Calls Try.prog 49 #[.slice A n c, .int .i64 left] w fun e w' => e = .returned (.int .i64 (szl left n)) ∧ w = w' := by
  unfold maxLen at hn
  by_cases h : left < n
  · have h' : left - n < 0 := by omega
    go_enter Try.func49, Try.ntmps49
    go_wp2
    go_ret
    exact ⟨ret_int (by unfold szl; rw [if_pos (by omega)]), rfl⟩
  · have h' : 0 ≤ left - n := by omega
    go_enter Try.func49, Try.ntmps49
    go_wp2
    go_ret
    exact ⟨ret_int (by unfold szl; rw [if_neg (by omega)]), rfl⟩

theorem szGraph_any (sz : Int) (A : Option Addr) (n c : Nat) (left : Int) (w : World) (hn : n ≤ maxLen) (h0 : 0 ≤ left) (h1 : left ≤ 1048576) :
    Calls Try.prog 12 #[.agg #[.int .i64 sz, .slice A n c], .int .i64 left] w fun e w' => e = .returned (.int .i64 (szl left n)) ∧ Below w.heap.size w w' := by
  have Hb : Hid (Below w.heap.size w (w.alloc (Obj.cells #[Value.int IntKind.i64 sz, Value.slice A n c] 24))) := (Below.refl _ _).alloc (Nat.le_refl _) _
  have HC := Lib.hid (fun W => szIntS_max A n c left W hn h0 h1)
  by_cases h : left < n
  · have e0 : szl left n = -1 := by unfold szl; rw [if_pos h]
    rw [e0] at HC ⊢
    clear e0 hn
    go_enter Try.func12, Try.ntmps12
    go_wp2_with (first | (go_at_call 49; refine (HC.out _).mono ?_; rintro e w' ⟨rfl, rfl⟩))
    go_ret
    exact ⟨rfl, Hb.out⟩
  · have e0 : szl left n = left - n := by unfold szl; rw [if_neg h]
    rw [e0] at HC ⊢
    have h' : 0 ≤ left - n := by omega
    clear e0 hn
    go_enter Try.func12, Try.ntmps12
    go_wp2_with (first | (go_at_call 49; refine (HC.out _).mono ?_; rintro e w' ⟨rfl, rfl⟩))
    go_ret
    exact ⟨rfl, Hb.out⟩

set_option maxHeartbeats 400000 in
theorem toGraph_any (sz : Int) (A : Option Addr) (n c : Nat) (x : Nat → Int) (w : World) (B : Nat) (h : Rd w B A n c x) (hB : B ≤ w.heap.size) (hn : n ≤ 1048576) :
    Calls Try.prog 15 #[.agg #[.int .i64 sz, .slice A n c]] w fun e w' => ∃ g, w.heap.size ≤ g ∧ e = .returned (.agg #[.int .i64 sz, .slice (some ⟨g, 0, none⟩) n n]) ∧ Own w' w.heap.size w'.heap.size 3 1 (some ⟨g, 0, none⟩) n n (fun j => .int .i64 (x j)) ∧ Below w.heap.size w w' := by
  go_enter Try.func15, Try.ntmps15
  go_wp2_with fail
  refine (toIntS_any A n c x _ B (h.keep ((((Below.refl B w).alloc hB _).alloc (by simp; omega) _).alloc (by simp; omega) _) (Nat.le_refl _)) (by simp; omega) hn).mono ?_
  rintro e w1 ⟨g, hg, rfl, hown, hb⟩
  obtain ⟨hcx, hfx⟩ := bcell hb
  have hz := hb.size
  simp at hz hg hown
  have HO := Lib.hid hown
  have HB1 := Lib.hid hb
  clear hown hb h
  go_wp2
  have F : Fr w.heap.size (w.heap.size + 1 + 1 + 1) w1 _ := (((Fr.refl _ _ _).setCell (p := ⟨w.heap.size + 1 + 1, 1, none⟩) (by show w.heap.size ≤ w.heap.size + 1 + 1; omega) (by show w.heap.size + 1 + 1 < _; omega) (Value.slice (some ⟨g, 0, none⟩) n n)).setCell (p := ⟨w.heap.size + 1, 0, none⟩) (by show w.heap.size ≤ w.heap.size + 1; omega) (by show w.heap.size + 1 < _; omega) (Value.int IntKind.i64 sz)).setCell (p := ⟨w.heap.size + 1, 1, none⟩) (by show w.heap.size ≤ w.heap.size + 1; omega) (by show w.heap.size + 1 < _; omega) (Value.slice (some ⟨g, 0, none⟩) n n)
  have O1 := (HO.out.keep F (.inr (Nat.le_refl _))).mono (lo' := w.heap.size) (by omega) F.size
  have B1 : Below w.heap.size w _ := (((((Below.refl _ _).alloc (Nat.le_refl _) _).alloc (by simp) _).alloc (by simp; omega) _).trans (HB1.out.mono (by simp; omega))).trans (F.below (Nat.le_refl _) (by omega))
  exact bodyPost_ret (v := .agg #[.int .i64 sz, .slice (some ⟨g, 0, none⟩) n n]) (by simp [results, Try.results15, go_sem, hcx]) rfl ⟨g, by omega, rfl, O1, B1⟩

set_option maxHeartbeats 400000 in
theorem eqGraph_yes (sz : Int) (A1 A2 : Option Addr) (n c1 c2 : Nat) (x : Nat → Int) (w : World) (B1 B2 : Nat) (h1 : Rd w B1 A1 n c1 x) (h2 : Rd w B2 A2 n c2 x) (hB1 : B1 ≤ w.heap.size) (hB2 : B2 ≤ w.heap.size) (hn : n ≤ 1048576) :
    Calls Try.prog 18 #[.agg #[.int .i64 sz, .slice A1 n c1], .agg #[.int .i64 sz, .slice A2 n c2]] w fun e w' => e = .returned (.bool true) ∧ Below w.heap.size w w' := by
  go_enter Try.func18, Try.ntmps18
  go_wp2_with fail
  have b1 : Below w.heap.size w ((w.alloc (Obj.cells #[Value.int IntKind.i64 sz, Value.slice A1 n c1] 28)).alloc (Obj.cells #[Value.int IntKind.i64 sz, Value.slice A2 n c2] 28)) := ((Below.refl _ _).alloc (Nat.le_refl _) _).alloc (by simp) _
  refine (eqIntS_yes A1 A2 n c1 c2 x _ B1 B2 (h1.keep (b1.mono hB1) (Nat.le_refl _)) (h2.keep (b1.mono hB2) (Nat.le_refl _)) (by simp; omega) (by simp; omega) (by omega)).mono ?_
  rintro e w1 ⟨rfl, hb⟩
  have HB := Lib.hid (b1.trans (hb.mono (by simp; omega)))
  clear hb b1 h1 h2
  go_wp2
  go_ret
  exact ⟨rfl, HB.out⟩

set_option maxHeartbeats 400000 in
theorem markGraph_any (sz : Int) (A : Option Addr) (n c : Nat) (x : Nat → Value) (k : Int) (w : World) (lo hi : Nat) (h : Own w lo hi 3 1 A n c x) (hn : n ≤ 1048576) (hk0 : 0 ≤ k) (hk1 : k ≤ 1099511627776) (_hhi : hi ≤ w.heap.size) :
    Calls Try.prog 20 #[.agg #[.int .i64 sz, .slice A n c], .int .i64 k] w fun e w' => e = .returned (.int .i64 (k + n)) ∧ Own w' lo hi 3 1 A n c (mks k x n) ∧ Fr lo hi w w' := by
  have hk2 : 0 ≤ k + n := by omega
  go_enter Try.func20, Try.ntmps20
  go_wp2_with fail
  refine (markIntS_any A n c x k _ lo hi (h.alloc _) (by omega) hk0 (by omega)).mono ?_
  rintro e w1 ⟨rfl, ho, hf⟩
  have HF : Hid (Fr lo hi w w1) := ((Fr.refl lo hi w).alloc _).trans hf
  have HO := Lib.hid ho
  clear ho hf h
  go_wp2
  go_ret
  exact ⟨rfl, HO.out, HF.out⟩
end Go.Proofs.Ytnnlmdenffnjbaa
