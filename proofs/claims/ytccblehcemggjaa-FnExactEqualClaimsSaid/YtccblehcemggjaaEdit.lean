/-
  Slices of edits: what they read as; the law's helpers on them.
-/
import Derived.Test.YtccblehcemggjaaLawGraph
import Derived.Test.YtccblehcemggjaaPush
namespace Go.Proofs.Ytccblehcemggjaa
open Go.RowKit

/-- The cells of a list of edits, one after the other. -/
def eds (a : Nat → Bool) (v u : Nat → Int) : Nat → Value := fun j => if j % 3 = 0 then .bool (a (j / 3)) else if j % 3 = 1 then .int .i64 (v (j / 3)) else .int .i64 (u (j / 3))
theorem eds0 (a : Nat → Bool) (v u : Nat → Int) (k : Nat) : eds a v u (k * 3) = .bool (a k) := by
  unfold eds; rw [if_pos (by omega), show k * 3 / 3 = k by omega]
theorem eds1 (a : Nat → Bool) (v u : Nat → Int) (k : Nat) : eds a v u (k * 3 + 1) = .int .i64 (v k) := by
  unfold eds; rw [if_neg (by omega), if_pos (by omega), show (k * 3 + 1) / 3 = k by omega]
theorem eds2 (a : Nat → Bool) (v u : Nat → Int) (k : Nat) : eds a v u (k * 3 + 2) = .int .i64 (u k) := by
  unfold eds; rw [if_neg (by omega), if_neg (by omega), show (k * 3 + 2) / 3 = k by omega]

theorem eds_news {a : Nat → Bool} {v u : Nat → Int} {k : Nat} {p : Bool} {q r : Int} (h0 : a k = p) (h1 : v k = q) (h2 : u k = r) : ∀ i, i < 3 → (#[Value.bool p, Value.int .i64 q, Value.int .i64 r] : Array Value)[i]? = some (eds a v u (k * 3 + i)) := by
  intro i hi
  have : i = 0 ∨ i = 1 ∨ i = 2 := by omega
  rcases this with rfl | rfl | rfl
  · rw [Nat.add_zero, eds0, h0]; rfl
  · rw [eds1, h1]; rfl
  · rw [eds2, h2]; rfl

/-- The slice value '.slice A n c' reads as n edits, in blocks below B. -/
def RdE (w : World) (B : Nat) (A : Option Addr) (n c : Nat) (a : Nat → Bool) (v u : Nat → Int) : Prop :=
  n ≤ c ∧ (0 < n → ∃ b o, A = some ⟨b, o, none⟩ ∧ b < B ∧ ∀ k, k < n → w.cell? ⟨b, o + k * 3, none⟩ = some (.bool (a k)) ∧ w.cell? ⟨b, o + k * 3 + 1, none⟩ = some (.int .i64 (v k)) ∧ w.cell? ⟨b, o + k * 3 + 2, none⟩ = some (.int .i64 (u k)))
theorem RdE.keep {w w' : World} {B B' : Nat} {A : Option Addr} {n c : Nat} {a : Nat → Bool} {v u : Nat → Int} (h : RdE w B A n c a v u) (hb : Below B w w') (hB : B ≤ B') : RdE w' B' A n c a v u := by
  refine ⟨h.1, fun hn => ?_⟩
  obtain ⟨b, o, e, hlt, hc⟩ := h.2 hn
  exact ⟨b, o, e, by omega, fun k hk => ⟨(hb.cell (p := ⟨b, _, none⟩) hlt).trans (hc k hk).1, (hb.cell (p := ⟨b, _, none⟩) hlt).trans (hc k hk).2.1, (hb.cell (p := ⟨b, _, none⟩) hlt).trans (hc k hk).2.2⟩⟩
theorem Own.rdE {lo hi : Nat} {w : World} {e : TypeId} {n c : Nat} {A : Option Addr} {a : Nat → Bool} {v u : Nat → Int} (h : Own w lo hi e 3 A n c (eds a v u)) : RdE w hi A n c a v u :=
  ⟨h.le, fun hn => by
    obtain ⟨g, e1, _, h2, _, h3, _⟩ := h.at_ hn
    refine ⟨g, 0, e1, h2, fun k hk => ?_⟩
    rw [Nat.zero_add]
    exact ⟨by rw [h3 _ (by omega), eds0], by rw [h3 _ (by omega), eds1], by rw [h3 _ (by omega), eds2]⟩⟩

theorem info_edit : (Try.prog.info? 77).map (fun i => (i.zero, i.size, i.bytes)) = some (some (.agg #[.bool false, .int .i64 0, .int .i64 0]), 3, 24) := by kernel_rfl

set_option maxHeartbeats 1000000 in
theorem UndoEdits_i (A : Option Addr) (n c : Nat) (a : Nat → Bool) (v u : Nat → Int) (w : World) (B : Nat) (h : RdE w B A n c a v u) (hB : B ≤ w.heap.size) (hn : n ≤ 1048576) :
    Calls Try.prog 25 #[.slice A n c] w fun e w' => ∃ A' c', e = .returned (.slice A' n c') ∧ Own w' w.heap.size w'.heap.size 77 3 A' n c' (eds (fun k => !a (n - 1 - k)) (fun k => v (n - 1 - k)) (fun k => u (n - 1 - k))) ∧ Below w.heap.size w w' := by
  go_enter Try.func25, Try.ntmps25
  go_wp2
  go_loopw [3, 4] (fun l i wr => ∃ k A' c', k ≤ n ∧ i = .int .i64 ((n : Int) - 1 - k) ∧ l = .slice A' k c' ∧ Own wr w.heap.size wr.heap.size 77 3 A' k c' (eds (fun k => !a (n - 1 - k)) (fun k => v (n - 1 - k)) (fun k => u (n - 1 - k))) ∧ Below w.heap.size w wr) (fun _ i _ => (intOf i + 1).toNat)
  case atStart =>
    refine ⟨0, some ⟨w.heap.size, 0, none⟩, 0, Nat.zero_le _, by go_num, rfl, ?_, (Below.refl _ _).alloc (Nat.le_refl _) _⟩
    exact .inr ⟨w.heap.size, #[], rfl, Nat.le_refl _, by simp, heap_alloc_new w _, Nat.le_refl _, by unfold maxLen; omega, by simp, fun j hj => absurd hj (by omega)⟩
  case round =>
    obtain ⟨k, A', c', hk, rfl, rfl, hown, hbr⟩ := hrel
    by_cases hlt : k < n
    · obtain ⟨b, o, rfl, hb, hc⟩ := h.2 (by omega)
      obtain ⟨q0, q1, q2⟩ := hc (n - 1 - k) (by omega)
      have ei : ((n : Int) - 1 - k).toNat = n - 1 - k := by omega
      have f0 := (hbr.cell (p := ⟨b, o + (n - 1 - k) * 3, none⟩) (by show b < _; omega)).trans q0
      have f1 := (hbr.cell (p := ⟨b, o + (n - 1 - k) * 3 + 1, none⟩) (by show b < _; omega)).trans q1
      have f2 := (hbr.cell (p := ⟨b, o + (n - 1 - k) * 3 + 2, none⟩) (by show b < _; omega)).trans q2
      obtain ⟨j, hj⟩ : ∃ j : Nat, j = n - 1 - k := ⟨_, rfl⟩
      rw [← hj] at f0 f1 f2
      have ej : ((n : Int) - 1 - k) = (j : Int) := by omega
      rw [ej]
      have i1 : (j : Int) < (n : Int) := by omega
      have Hj := Lib.hid hj
      have hz := hbr.size
      clear hc q0 q1 q2 ei h ej hj
      go_wp2
      go_region_held3 (fun z => z.cell? ⟨b, o + j * 3, none⟩ = some (.bool (a j)) ∧ z.cell? ⟨b, o + j * 3 + 1, none⟩ = some (.int .i64 (v j)) ∧ z.cell? ⟨b, o + j * 3 + 2, none⟩ = some (.int .i64 (u j)))
        (first | (refine ⟨?_, ?_, ?_⟩ <;> assumption) | go_keep | (refine ⟨?_, ?_, ?_⟩ <;> (refine (hp.below.cell (by show b < _; omega)).trans ?_; go_keep)))
        ((refine step_push _ (by rfl) _ _ _ (by rfl) 77 _ 3 24 Try.underlying31 info_edit rfl (by omega) w.heap.size _ A' k c' _ (by rfl) ((hown.alloc _).drew) (by simp; omega) wr.heap.size #[.bool (!a j), .int .i64 (v j), .int .i64 (u j)] 77 (0, 0) 1 (heap_alloc_new wr _) (by rfl) rfl (eds_news (by rw [Hj.out]) (by rw [Hj.out]) (by rw [Hj.out])) (by simp [Value.oneCell']) (by omega) (by omega) ?_; intro g cap w1 hp))
      have HP := Lib.hid hp.own
      have HB : Hid (Below w.heap.size w w1) := ((hbr.alloc hz _).drew).trans hp.below
      clear hp hown hbr f0 f1 f2
      go_wp2
      go_roundw
      case rel => exact ⟨k + 1, _, _, by omega, congrArg (Value.int .i64) (by have := Hj.out; omega), rfl, HP.out, HB.out⟩
      case measure => have := Hj.out; simp [intOf] <;> omega
    · obtain rfl : k = n := by omega
      have hneg : ((k : Int) - 1 - k) < 0 := by omega
      have HO := Lib.hid hown
      have HB := Lib.hid hbr
      clear hown hbr h
      go_wp2
      go_ret
      exact ⟨A', c', rfl, HO.out, HB.out⟩

set_option maxHeartbeats 1000000 in
theorem UndoEdits_s (A : Option Addr) (n c : Nat) (a : Nat → Bool) (v u : Nat → Int) (w : World) (B : Nat) (h : RdE w B A n c a v u) (hB : B ≤ w.heap.size) (hn : n ≤ 1048576) :
    Calls Try.prog 23 #[.slice A n c] w fun e w' => ∃ A' c', e = .returned (.slice A' n c') ∧ Own w' w.heap.size w'.heap.size 77 3 A' n c' (eds (fun k => !a (n - 1 - k)) (fun k => v (n - 1 - k)) (fun k => u (n - 1 - k))) ∧ Below w.heap.size w w' := by
  go_enter Try.func23, Try.ntmps23
  go_wp2
  go_loopw [3, 4] (fun l i wr => ∃ k A' c', k ≤ n ∧ i = .int .i64 ((n : Int) - 1 - k) ∧ l = .slice A' k c' ∧ Own wr w.heap.size wr.heap.size 77 3 A' k c' (eds (fun k => !a (n - 1 - k)) (fun k => v (n - 1 - k)) (fun k => u (n - 1 - k))) ∧ Below w.heap.size w wr) (fun _ i _ => (intOf i + 1).toNat)
  case atStart =>
    refine ⟨0, some ⟨w.heap.size, 0, none⟩, 0, Nat.zero_le _, by go_num, rfl, ?_, (Below.refl _ _).alloc (Nat.le_refl _) _⟩
    exact .inr ⟨w.heap.size, #[], rfl, Nat.le_refl _, by simp, heap_alloc_new w _, Nat.le_refl _, by unfold maxLen; omega, by simp, fun j hj => absurd hj (by omega)⟩
  case round =>
    obtain ⟨k, A', c', hk, rfl, rfl, hown, hbr⟩ := hrel
    by_cases hlt : k < n
    · obtain ⟨b, o, rfl, hb, hc⟩ := h.2 (by omega)
      obtain ⟨q0, q1, q2⟩ := hc (n - 1 - k) (by omega)
      have ei : ((n : Int) - 1 - k).toNat = n - 1 - k := by omega
      have f0 := (hbr.cell (p := ⟨b, o + (n - 1 - k) * 3, none⟩) (by show b < _; omega)).trans q0
      have f1 := (hbr.cell (p := ⟨b, o + (n - 1 - k) * 3 + 1, none⟩) (by show b < _; omega)).trans q1
      have f2 := (hbr.cell (p := ⟨b, o + (n - 1 - k) * 3 + 2, none⟩) (by show b < _; omega)).trans q2
      obtain ⟨j, hj⟩ : ∃ j : Nat, j = n - 1 - k := ⟨_, rfl⟩
      rw [← hj] at f0 f1 f2
      have ej : ((n : Int) - 1 - k) = (j : Int) := by omega
      rw [ej]
      have i1 : (j : Int) < (n : Int) := by omega
      have Hj := Lib.hid hj
      have hz := hbr.size
      clear hc q0 q1 q2 ei h ej hj
      go_wp2
      go_region_held3 (fun z => z.cell? ⟨b, o + j * 3, none⟩ = some (.bool (a j)) ∧ z.cell? ⟨b, o + j * 3 + 1, none⟩ = some (.int .i64 (v j)) ∧ z.cell? ⟨b, o + j * 3 + 2, none⟩ = some (.int .i64 (u j)))
        (first | (refine ⟨?_, ?_, ?_⟩ <;> assumption) | go_keep | (refine ⟨?_, ?_, ?_⟩ <;> (refine (hp.below.cell (by show b < _; omega)).trans ?_; go_keep)))
        ((refine step_push _ (by rfl) _ _ _ (by rfl) 77 _ 3 24 Try.underlying31 info_edit rfl (by omega) w.heap.size _ A' k c' _ (by rfl) ((hown.alloc _).drew) (by simp; omega) wr.heap.size #[.bool (!a j), .int .i64 (v j), .int .i64 (u j)] 77 (0, 0) 1 (heap_alloc_new wr _) (by rfl) rfl (eds_news (by rw [Hj.out]) (by rw [Hj.out]) (by rw [Hj.out])) (by simp [Value.oneCell']) (by omega) (by omega) ?_; intro g cap w1 hp))
      have HP := Lib.hid hp.own
      have HB : Hid (Below w.heap.size w w1) := ((hbr.alloc hz _).drew).trans hp.below
      clear hp hown hbr f0 f1 f2
      go_wp2
      go_roundw
      case rel => exact ⟨k + 1, _, _, by omega, congrArg (Value.int .i64) (by have := Hj.out; omega), rfl, HP.out, HB.out⟩
      case measure => have := Hj.out; simp [intOf] <;> omega
    · obtain rfl : k = n := by omega
      have hneg : ((k : Int) - 1 - k) < 0 := by omega
      have HO := Lib.hid hown
      have HB := Lib.hid hbr
      clear hown hbr h
      go_wp2
      go_ret
      exact ⟨A', c', rfl, HO.out, HB.out⟩
end Go.Proofs.Ytccblehcemggjaa
