/-
  Several texts in one: words for memory, plain laws and contracts that the later texts lean on.
-/
import Derived.Test.YtmkahbephidmbaaGreatQfGB
import Derived.Test.YtmkahbephidmbaaGreatRows
import Derived.Test.YtmkahbephidmbaaGreatQfGA
import Derived.Deep.RegionHeld3
import Derived.Deep.QuietTactic
import Derived.BigQuiet
import Derived.ProofKit
import Derived.OpenShut
import Derived.ShutString
import Derived.Lib.SmallJoins
import Derived.Carry
import Derived.Deep.Slices
import Derived.Deep.Fields
import Derived.ChangeSame
/-
  Several texts in one: words for memory, plain laws and contracts that the later texts lean on.
-/
/-
  Contracts of the law's helpers on slices of edits.
-/
namespace Go.Proofs.YtmkahbephidmbaaGreat
open Go.RowKit

end Go.Proofs.YtmkahbephidmbaaGreat

/-
  Contracts of the law's helpers on slices of at most nine strings.
-/
namespace Go.Proofs.YtmkahbephidmbaaGreat
open Go.RowKit

theorem info_string : (Tryz.prog.info? 9).map (fun i => (i.zero, i.size, i.bytes)) = some (some (.string ⟨#[]⟩), 1, 16) := by kernel_rfl

/-- The mark for k from 1 to 9. -/
def mtS (k : Nat) : ByteArray := ⟨#[109, UInt8.ofNat (48 + k)]⟩

theorem conv1 (W : World) (d : Int) : (convert 105 9 (.slice (some ⟨W.heap.size, 0, none⟩) 1 1)).run Tryz.prog (W.alloc (Obj.cells #[Value.int .u8 d] 5)) = .ok (.string ⟨#[UInt8.ofNat d.toNat]⟩) (W.alloc (Obj.cells #[Value.int .u8 d] 5)) := by
  have h := run_convert_bytes_arg (P := Tryz.prog) (W.alloc (Obj.cells #[Value.int .u8 d] 5)) 105 5 Tryz.underlying105 Tryz.underlying5 W.heap.size 0 1 1 [d] rfl (fun i hi => by
    obtain rfl : i = 0 := by omega
    simp [go_sem]) 9 Tryz.underlying9
  rw [h]
  rfl

set_option maxRecDepth 100000 in
set_option maxHeartbeats 1000000 in
theorem markText_1 (w : World) : Calls Tryz.prog 106 #[.int .i64 1] w fun e w' => e = .returned (.string (mtS 1)) ∧ Below w.heap.size w w' := by
  have cv := fun W => conv1 W 49
  go_enter Tryz.func106, Tryz.ntmps106
  go_wp2
  refine wp_loop_rounds 2 ?_
  rw [rounds_succ]
  go_wp2
  rw [rounds_succ]
  go_wp2
  go_ret
  exact ⟨rfl, (Below.refl _ _).alloc (Nat.le_refl _) _⟩
set_option maxRecDepth 100000 in
set_option maxHeartbeats 1000000 in
theorem markText_2 (w : World) : Calls Tryz.prog 106 #[.int .i64 2] w fun e w' => e = .returned (.string (mtS 2)) ∧ Below w.heap.size w w' := by
  have cv := fun W => conv1 W 50
  go_enter Tryz.func106, Tryz.ntmps106
  go_wp2
  refine wp_loop_rounds 2 ?_
  rw [rounds_succ]
  go_wp2
  rw [rounds_succ]
  go_wp2
  go_ret
  exact ⟨rfl, (Below.refl _ _).alloc (Nat.le_refl _) _⟩
set_option maxRecDepth 100000 in
set_option maxHeartbeats 1000000 in
theorem markText_3 (w : World) : Calls Tryz.prog 106 #[.int .i64 3] w fun e w' => e = .returned (.string (mtS 3)) ∧ Below w.heap.size w w' := by
  have cv := fun W => conv1 W 51
  go_enter Tryz.func106, Tryz.ntmps106
  go_wp2
  refine wp_loop_rounds 2 ?_
  rw [rounds_succ]
  go_wp2
  rw [rounds_succ]
  go_wp2
  go_ret
  exact ⟨rfl, (Below.refl _ _).alloc (Nat.le_refl _) _⟩
set_option maxRecDepth 100000 in
set_option maxHeartbeats 1000000 in
theorem markText_4 (w : World) : Calls Tryz.prog 106 #[.int .i64 4] w fun e w' => e = .returned (.string (mtS 4)) ∧ Below w.heap.size w w' := by
  have cv := fun W => conv1 W 52
  go_enter Tryz.func106, Tryz.ntmps106
  go_wp2
  refine wp_loop_rounds 2 ?_
  rw [rounds_succ]
  go_wp2
  rw [rounds_succ]
  go_wp2
  go_ret
  exact ⟨rfl, (Below.refl _ _).alloc (Nat.le_refl _) _⟩
set_option maxRecDepth 100000 in
set_option maxHeartbeats 1000000 in
theorem markText_5 (w : World) : Calls Tryz.prog 106 #[.int .i64 5] w fun e w' => e = .returned (.string (mtS 5)) ∧ Below w.heap.size w w' := by
  have cv := fun W => conv1 W 53
  go_enter Tryz.func106, Tryz.ntmps106
  go_wp2
  refine wp_loop_rounds 2 ?_
  rw [rounds_succ]
  go_wp2
  rw [rounds_succ]
  go_wp2
  go_ret
  exact ⟨rfl, (Below.refl _ _).alloc (Nat.le_refl _) _⟩
set_option maxRecDepth 100000 in
set_option maxHeartbeats 1000000 in
theorem markText_6 (w : World) : Calls Tryz.prog 106 #[.int .i64 6] w fun e w' => e = .returned (.string (mtS 6)) ∧ Below w.heap.size w w' := by
  have cv := fun W => conv1 W 54
  go_enter Tryz.func106, Tryz.ntmps106
  go_wp2
  refine wp_loop_rounds 2 ?_
  rw [rounds_succ]
  go_wp2
  rw [rounds_succ]
  go_wp2
  go_ret
  exact ⟨rfl, (Below.refl _ _).alloc (Nat.le_refl _) _⟩
set_option maxRecDepth 100000 in
set_option maxHeartbeats 1000000 in
theorem markText_7 (w : World) : Calls Tryz.prog 106 #[.int .i64 7] w fun e w' => e = .returned (.string (mtS 7)) ∧ Below w.heap.size w w' := by
  have cv := fun W => conv1 W 55
  go_enter Tryz.func106, Tryz.ntmps106
  go_wp2
  refine wp_loop_rounds 2 ?_
  rw [rounds_succ]
  go_wp2
  rw [rounds_succ]
  go_wp2
  go_ret
  exact ⟨rfl, (Below.refl _ _).alloc (Nat.le_refl _) _⟩
set_option maxRecDepth 100000 in
set_option maxHeartbeats 1000000 in
theorem markText_8 (w : World) : Calls Tryz.prog 106 #[.int .i64 8] w fun e w' => e = .returned (.string (mtS 8)) ∧ Below w.heap.size w w' := by
  have cv := fun W => conv1 W 56
  go_enter Tryz.func106, Tryz.ntmps106
  go_wp2
  refine wp_loop_rounds 2 ?_
  rw [rounds_succ]
  go_wp2
  rw [rounds_succ]
  go_wp2
  go_ret
  exact ⟨rfl, (Below.refl _ _).alloc (Nat.le_refl _) _⟩
set_option maxRecDepth 100000 in
set_option maxHeartbeats 1000000 in
theorem markText_9 (w : World) : Calls Tryz.prog 106 #[.int .i64 9] w fun e w' => e = .returned (.string (mtS 9)) ∧ Below w.heap.size w w' := by
  have cv := fun W => conv1 W 57
  go_enter Tryz.func106, Tryz.ntmps106
  go_wp2
  refine wp_loop_rounds 2 ?_
  rw [rounds_succ]
  go_wp2
  rw [rounds_succ]
  go_wp2
  go_ret
  exact ⟨rfl, (Below.refl _ _).alloc (Nat.le_refl _) _⟩
theorem markText_any (k : Nat) (h1 : 1 ≤ k) (h9 : k ≤ 9) (w : World) : Calls Tryz.prog 106 #[.int .i64 k] w fun e w' => e = .returned (.string (mtS k)) ∧ Below w.heap.size w w' := by
  have hc : k = 1 ∨ k = 2 ∨ k = 3 ∨ k = 4 ∨ k = 5 ∨ k = 6 ∨ k = 7 ∨ k = 8 ∨ k = 9 := by omega
  rcases hc with rfl | rfl | rfl | rfl | rfl | rfl | rfl | rfl | rfl
  · exact markText_1 w
  · exact markText_2 w
  · exact markText_3 w
  · exact markText_4 w
  · exact markText_5 w
  · exact markText_6 w
  · exact markText_7 w
  · exact markText_8 w
  · exact markText_9 w

/-- Strings as cells. -/
def strs (x : Nat → ByteArray) : Nat → Value := fun j => .string (x j)

set_option maxHeartbeats 400000 in
theorem eqStringS_yes (A1 A2 : Option Addr) (n c1 c2 : Nat) (x : Nat → ByteArray) (w : World) (B1 B2 : Nat) (h1 : RdV w B1 A1 n c1 (strs x)) (h2 : RdV w B2 A2 n c2 (strs x)) (hB1 : B1 ≤ w.heap.size) (hB2 : B2 ≤ w.heap.size) (hn : n ≤ 140737488355328) :
    Calls Tryz.prog 32 #[.slice A1 n c1, .slice A2 n c2] w fun e w' => e = .returned (.bool true) ∧ Below w.heap.size w w' := by
  go_enter Tryz.func32, Tryz.ntmps32
  go_wp2
  go_loopw [5] (fun i wr => ∃ k : Nat, k ≤ n ∧ i = .int .i64 k ∧ Below w.heap.size w wr) (fun i _ => n - (intOf i).toNat)
  case atStart => exact ⟨0, Nat.zero_le _, rfl, Below.refl _ _⟩
  case round =>
    obtain ⟨k, hk, rfl, hbr⟩ := hrel
    by_cases hlt : k < n
    · obtain ⟨b1, o1, rfl, l1, c1'⟩ := h1.2 (by omega)
      obtain ⟨b2, o2, rfl, l2, c2'⟩ := h2.2 (by omega)
      have f1 : wr.cell? ⟨b1, o1 + k, none⟩ = some (.string (x k)) := (hbr.cell (p := ⟨b1, o1 + k, none⟩) (by show b1 < _; omega)).trans (c1' k hlt)
      have f2 : wr.cell? ⟨b2, o2 + k, none⟩ = some (.string (x k)) := (hbr.cell (p := ⟨b2, o2 + k, none⟩) (by show b2 < _; omega)).trans (c2' k hlt)
      have hi : (k : Int) < (n : Int) := by omega
      clear c1' c2' h1 h2
      go_wp2
      go_quiet (fail)
      go_wp2
      go_roundw
      case rel => exact ⟨k + 1, by omega, by go_num, below_drewN hbr _⟩
      case measure => simp [intOf]; omega
    · have hge : (n : Int) ≤ (k : Int) := by omega
      go_wp2
      go_ret
      exact ⟨rfl, hbr⟩

/-- What mark writes into strings. -/
def mksS (k : Nat) (x : Nat → ByteArray) (i : Nat) : Nat → Value := strs fun j => if j < i then mtS (k + j) else x j
theorem mksS_succ (k : Nat) (x : Nat → ByteArray) (i : Nat) : (fun j => if j = i then Value.string (mtS (k + i)) else mksS k x i j) = mksS k x (i + 1) := by
  funext j
  unfold mksS strs
  by_cases h : j = i
  · subst h; simp
  · rw [if_neg h]
    dsimp only
    by_cases h2 : j < i
    · rw [if_pos h2, if_pos (by omega)]
    · rw [if_neg h2, if_neg (by omega)]

set_option maxHeartbeats 1000000 in
theorem markStringS_any (A : Option Addr) (n c : Nat) (x : Nat → ByteArray) (k : Nat) (w : World) (lo hi : Nat) (h : Own w lo hi 9 1 A n c (strs x)) (hhi : hi ≤ w.heap.size) (hk0 : 1 ≤ k) (hk1 : k + n ≤ 10) :
    Calls Tryz.prog 34 #[.slice A n c, .int .i64 k] w fun e w' => e = .returned (.int .i64 (k + n)) ∧ Own w' lo hi 9 1 A n c (mksS k x n) ∧ Fr lo hi w w' := by
  go_enter Tryz.func34, Tryz.ntmps34
  go_wp2
  go_loopw [1, 5] (fun kk i wr => ∃ j : Nat, j ≤ n ∧ i = .int .i64 j ∧ kk = .int .i64 (k + j) ∧ Own wr lo hi 9 1 A n c (mksS k x j) ∧ Fr lo hi w wr) (fun _ i _ => n - (intOf i).toNat)
  case atStart => exact ⟨0, Nat.zero_le _, rfl, by go_num, h.congr (fun j _ => by simp [mksS]), Fr.refl _ _ _⟩
  case round =>
    obtain ⟨j, hj, rfl, rfl, hown, hfr⟩ := hrel
    by_cases hlt : j < n
    · obtain ⟨kk, hkk⟩ : ∃ kk : Nat, kk = k + j := ⟨_, rfl⟩
      have ek : (k : Int) + j = (kk : Int) := by omega
      rw [ek]
      have hz := hfr.size
      have HO := Lib.hid hown
      have HF := Lib.hid hfr
      have Hk := Lib.hid hkk
      have k0 : 1 ≤ kk := by omega
      have k1 : kk ≤ 9 := by omega
      clear hown hfr h ek hkk
      go_wp2_with fail
      refine (markText_any kk k0 k1 wr).mono ?_
      rintro e w1 ⟨rfl, hb⟩
      have ho1 := HO.out.keepB hb (by omega)
      obtain ⟨g, rfl, g1, g2, g3, hc, hf⟩ := ho1.at_ (by omega)
      have f1 := hc j (by omega)
      have f2 := hf j
      have hs := ho1.set_ j (.string (mtS (k + j)))
      rw [mksS_succ] at hs
      rw [← Hk.out] at hs
      have hfr' := (HF.out.trans (Fr.of_below hb)).setCell (p := ⟨g, j, none⟩) g1 g2 (.string (mtS kk))
      have H1 := Lib.hid hs
      have H2 := Lib.hid hfr'
      clear hc hf hs hfr' ho1 hb HO HF
      go_wp2
      go_roundw
      case rel => exact ⟨j + 1, by omega, by go_num, congrArg (Value.int .i64) (by have := Hk.out; omega), H1.out, H2.out⟩
      case measure => simp [intOf]; omega
    · obtain rfl : j = n := by omega
      have H1 := Lib.hid hown
      have H2 := Lib.hid hfr
      clear hown hfr h
      go_wp2
      go_ret
      exact ⟨rfl, H1.out, H2.out⟩
theorem Own.markedS {w : World} {lo hi n c : Nat} {e : TypeId} {A : Option Addr} {k : Nat} {x : Nat → ByteArray} (h : Own w lo hi e 1 A n c (mksS k x n)) : Own w lo hi e 1 A n c (strs fun j => mtS (k + j)) :=
  h.congr (fun j hj => by unfold mksS strs; dsimp only; rw [if_pos (by omega)])

set_option maxHeartbeats 1000000 in
theorem heldStringS_yes (A : Option Addr) (n c : Nat) (k : Nat) (w : World) (B : Nat) (h : RdV w B A n c (strs fun j => mtS (k + j))) (hB : B ≤ w.heap.size) (hk0 : 1 ≤ k) (hk1 : k + n ≤ 10) :
    Calls Tryz.prog 35 #[.slice A n c, .int .i64 k] w fun e w' => e = .returned (.int .i64 (k + n)) ∧ Below w.heap.size w w' := by
  go_enter Tryz.func35, Tryz.ntmps35
  go_wp2
  go_loopw [1, 5] (fun kk i wr => ∃ j : Nat, j ≤ n ∧ i = .int .i64 j ∧ kk = .int .i64 (k + j) ∧ Below w.heap.size w wr) (fun _ i _ => n - (intOf i).toNat)
  case atStart => exact ⟨0, Nat.zero_le _, rfl, by go_num, Below.refl _ _⟩
  case round =>
    obtain ⟨j, hj, rfl, rfl, hbr⟩ := hrel
    by_cases hlt : j < n
    · obtain ⟨b, o, rfl, l, hc⟩ := h.2 (by omega)
      have f1 : wr.cell? ⟨b, o + j, none⟩ = some (.string (mtS (k + j))) := (hbr.cell (p := ⟨b, o + j, none⟩) (by show b < _; omega)).trans (hc j hlt)
      obtain ⟨kk, hkk⟩ : ∃ kk : Nat, kk = k + j := ⟨_, rfl⟩
      have ek : (k : Int) + j = (kk : Int) := by omega
      rw [ek]
      rw [← hkk] at f1
      have Hk := Lib.hid hkk
      have k0 : 1 ≤ kk := by omega
      have k1 : kk ≤ 9 := by omega
      have hi : (j : Int) < (n : Int) := by omega
      have hz := hbr.size
      clear hc h ek hkk
      go_wp2_with fail
      go_region_held3 (fun a => a.cell? ⟨b, o + j, none⟩ = some (.string (mtS kk)))
        (first | assumption | (refine (hb.cell (by show b < wr.heap.size; omega)).trans ?_; assumption))
        ((go_at_call 106; (refine (markText_any kk k0 k1 _).mono ?_); rintro e w1 ⟨rfl, hb⟩))
      have HB := Lib.hid (hbr.drew.trans (hb.mono hbr.size))
      clear f1 hb hbr
      go_wp2
      go_roundw
      case rel => exact ⟨j + 1, by omega, by go_num, congrArg (Value.int .i64) (by have := Hk.out; omega), HB.out⟩
      case measure => simp [intOf]; omega
    · obtain rfl : j = n := by omega
      have HB := Lib.hid hbr
      clear hbr h
      go_wp2
      go_ret
      exact ⟨rfl, HB.out⟩
end Go.Proofs.YtmkahbephidmbaaGreat

/-
  How the laws' arguments read: slices of integers, graphs, integers, strings.
-/
namespace Go.Proofs.YtmkahbephidmbaaGreat
open Go.ChangeShapes Go.WideShapes Go.ChangeAt Go.RowKit

theorem own : ownKnob Tryz.prog.godebug = none := by kernel_rfl
theorem laidOut : laidOutB Tryz.prog = true := by kernel_rfl

section
variable {H : Type} {enc : TypeId × Value → H} {w : World} {base : Nat} {spare : Nat → Bool} {held : Bool}

theorem rd_of_cells {a : Addr} {n c : Nat} {x : Nat → Int} (hl : n ≤ c) (hc : ∀ i, i < n → w.cell? (a.add i) = some (.int .i64 (x i))) : Rd w w.heap.size (some a) n c x := by
  refine ⟨hl, fun hn => ?_⟩
  obtain ⟨b, o, s⟩ := a
  have h0 := hc 0 hn
  have hs : s = none := by simpa [Addr.add] using World.cell?_spot h0
  subst hs
  have hadd : ∀ k, (⟨b, o, none⟩ : Addr).add k = ⟨b, o + k, none⟩ := fun k => by unfold Addr.add; split <;> simp_all
  refine ⟨b, o, rfl, ?_, fun k hk => by rw [← hadd]; exact hc k hk⟩
  have := World.block_lt_of_cell? w _ h0
  rw [hadd] at this
  exact this

theorem open_intS {fuel : Nat} {v : Value} {y : DataW H × List MemPlace} (h : DataW.trod enc Tryz.prog w base spare held fuel 22 [v] = some y) :
    ∃ A n c x, v = .slice A n c ∧ Rd w w.heap.size A n c x ∧ n ≤ maxLen := by
  rcases open_ints Tryz.underlying22 Tryz.underlying3 (by kernel_rfl) h with ⟨hcs, _⟩ | ⟨a, l, c, zs, hcs, _, hl, hm, hz, _, hcell, _⟩
  · simp only [List.cons.injEq, and_true] at hcs
    exact ⟨none, 0, 0, fun _ => 0, hcs, Rd.nil _ _ _ _ _, Nat.zero_le _⟩
  · simp only [List.cons.injEq, and_true] at hcs
    refine ⟨some a, l, c, fun i => zs.getD i 0, hcs, rd_of_cells hl (fun i hi => hcell i ?_), Nat.le_trans hl hm⟩
    rw [hz]; split <;> omega

set_option maxRecDepth 100000 in
theorem open_graph {r : Reach} {b0 : Nat} {v : Value} {d : DataW H} {p : List MemPlace} (hv : Value.okWide Tryz.prog w r b0 24 v)
    (h : DataW.Trod enc Tryz.prog w base spare held 24 v d p) :
    ∃ sz A n c x, v = .agg #[.int .i64 sz, .slice A n c] ∧ Rd w w.heap.size A n c x ∧ n ≤ maxLen := by
  obtain ⟨v0, v1, y0, y1, m, rfl, _, _, h0, h1⟩ := Go.Joins.open_agg2 Tryz.underlying24 (by kernel_rfl) (by kernel_rfl) hv h
  obtain ⟨sz, e0, _, _⟩ := DataW.trod_int Tryz.underlying3 h0
  simp only [List.cons.injEq, and_true] at e0
  subst e0
  obtain ⟨A, n, c, x, rfl, hr, hn⟩ := open_intS h1
  exact ⟨sz, A, n, c, x, rfl, hr, hn⟩

theorem places_lt {t : TypeId} {v : Value} {d : DataW H} {p : List MemPlace} (h : DataW.Trod enc Tryz.prog w base spare held t v d p) : ∀ x ∈ p, x.block < w.heap.size := by
  obtain ⟨m, hm⟩ := h
  exact DataW.trod_lt m _ _ _ hm
end
end Go.Proofs.YtmkahbephidmbaaGreat

/-
  How further arguments read (slices of edits); small laws that the generated walks use.
-/
namespace Go.Proofs.YtmkahbephidmbaaGreat
open Go.ChangeShapes Go.WideShapes Go.ChangeAt Go.RowKit Go.Deep

theorem bd {w w' : World} (h : Below w.drew.heap.size w.drew w') : Below w.heap.size w w' := ⟨h.os, h.tape, h.output, h.size, h.block⟩
theorem upFr {lo hi b o : Nat} {W w1 : World} {v : Value} (hf : Fr lo hi W w1) (e : W.cell? ⟨b, o, none⟩ = some v) (h : b < W.heap.size) (h2 : b < lo ∨ hi ≤ b) : w1.cell? ⟨b, o, none⟩ = some v := (hf.cell (p := ⟨b, o, none⟩) h h2).trans e
theorem Own.marked {w : World} {lo hi n c : Nat} {e : TypeId} {A : Option Addr} {k : Int} {x : Nat → Value} (h : Own w lo hi e 1 A n c (mks k x n)) : Own w lo hi e 1 A n c (fun j => .int .i64 (k + j)) :=
  h.congr (fun j hj => by unfold mks; rw [if_pos (by omega)])
section
variable {H : Type} {enc : TypeId × Value → H} {w : World} {base : Nat} {spare : Nat → Bool} {held : Bool}
end
end Go.Proofs.YtmkahbephidmbaaGreat

/-
  Contract of the law's helper that asks whether a graph holds its marks.
-/
namespace Go.Proofs.YtmkahbephidmbaaGreat
open Go.RowKit

end Go.Proofs.YtmkahbephidmbaaGreat

/-
  How arguments read: slices of slices of integers; integers; strings.
-/
namespace Go.Proofs.YtmkahbephidmbaaGreat
open Go.ChangeShapes Go.WideShapes Go.ChangeAt Go.RowKit Go.Deep

section
variable {H : Type} {enc : TypeId × Value → H} {w : World} {base : Nat} {spare : Nat → Bool} {held : Bool}
end
end Go.Proofs.YtmkahbephidmbaaGreat

/-
  A slice of the call's own, caged in its one block.
-/
namespace Go.Proofs.YtmkahbephidmbaaGreat
open Go.RowKit

theorem Own.cage1 {w : World} {lo hi g n c size : Nat} {e : TypeId} {x : Nat → Value} (h : Own w lo hi e size (some ⟨g, 0, none⟩) n c x) : Own w g (g + 1) e size (some ⟨g, 0, none⟩) n c x := by
  rcases h with ⟨h, _⟩ | ⟨g', cur, h1, h2, h3, h4, r⟩
  · cases h
  · simp only [Option.some.injEq, Addr.mk.injEq, and_true] at h1
    subst h1
    exact .inr ⟨g, cur, rfl, Nat.le_refl _, Nat.lt_succ_self _, h4, r⟩
end Go.Proofs.YtmkahbephidmbaaGreat

/-
  Contracts: the classes' names, of both programs (in other words than text Names); lists of strings.
-/
namespace Go.Proofs.YtmkahbephidmbaaGreat
open Go.RowKit

/-- The names, in order. -/
def nmL : List ByteArray := [⟨#[99, 104, 111, 114, 100, 97, 108]⟩, ⟨#[105, 110, 116, 101, 114, 118, 97, 108]⟩, ⟨#[112, 114, 111, 112, 101, 114]⟩, ⟨#[99, 111, 103, 114, 97, 112, 104]⟩, ⟨#[115, 112, 108, 105, 116]⟩, ⟨#[116, 104, 114, 101, 115, 104, 111, 108, 100]⟩, ⟨#[98, 105, 112, 97, 114, 116, 105, 116, 101]⟩, ⟨#[115, 116, 114, 111, 110, 103]⟩, ⟨#[112, 101, 114, 102, 101, 99, 116]⟩]
def nm (j : Nat) : ByteArray := nmL.getD j ⟨#[]⟩
theorem nm_own (w : World) : Own (w.alloc (Obj.cells #[.string ⟨#[99, 104, 111, 114, 100, 97, 108]⟩, .string ⟨#[105, 110, 116, 101, 114, 118, 97, 108]⟩, .string ⟨#[112, 114, 111, 112, 101, 114]⟩, .string ⟨#[99, 111, 103, 114, 97, 112, 104]⟩, .string ⟨#[115, 112, 108, 105, 116]⟩, .string ⟨#[116, 104, 114, 101, 115, 104, 111, 108, 100]⟩, .string ⟨#[98, 105, 112, 97, 114, 116, 105, 116, 101]⟩, .string ⟨#[115, 116, 114, 111, 110, 103]⟩, .string ⟨#[112, 101, 114, 102, 101, 99, 116]⟩] 9)) w.heap.size (w.heap.size + 1) 9 1 (some ⟨w.heap.size, 0, none⟩) 9 9 (strs nm) :=
  .inr ⟨w.heap.size, _, rfl, Nat.le_refl _, Nat.lt_succ_self _, heap_alloc_new w _, Nat.le_refl _, by unfold maxLen; omega, rfl, fun j hj => by
    have hc : j = 0 ∨ j = 1 ∨ j = 2 ∨ j = 3 ∨ j = 4 ∨ j = 5 ∨ j = 6 ∨ j = 7 ∨ j = 8 := by omega
    rcases hc with rfl | rfl | rfl | rfl | rfl | rfl | rfl | rfl | rfl <;> rfl⟩

set_option maxRecDepth 100000 in
set_option maxHeartbeats 1000000 in
theorem ClassNames_iv (w : World) : Calls Tryz.prog 105 #[] w fun e w' => ∃ A c, e = .returned (.slice A 9 c) ∧ Own w' w.heap.size w'.heap.size 9 1 A 9 c (strs nm) ∧ Below w.heap.size w w' := by
  have H := Lib.hid (nm_own w)
  go_enter Tryz.func105, Tryz.ntmps105
  go_wp2
  go_ret
  exact ⟨_, 9, rfl, H.out.mono (Nat.le_refl _) (by simp), (Below.refl _ _).alloc (Nat.le_refl _) _⟩

set_option maxRecDepth 100000 in
set_option maxHeartbeats 1000000 in
theorem ClassNames_sv (w : World) : Calls Tryz.prog 104 #[] w fun e w' => ∃ A c, e = .returned (.slice A 9 c) ∧ Own w' w.heap.size w'.heap.size 9 1 A 9 c (strs nm) ∧ Below w.heap.size w w' := by
  have H := Lib.hid (nm_own w)
  go_enter Tryz.func104, Tryz.ntmps104
  go_wp2
  go_ret
  exact ⟨_, 9, rfl, H.out.mono (Nat.le_refl _) (by simp), (Below.refl _ _).alloc (Nat.le_refl _) _⟩

/-- A list of strings, place by place. -/
def stL (l : List ByteArray) (j : Nat) : Value := .string (l.getD j ⟨#[]⟩)
theorem stL_left {l : List ByteArray} {k : ByteArray} {j : Nat} (h : j < l.length) : stL (l ++ [k]) j = stL l j := by
  unfold stL
  simp [List.getD, List.getElem?_append_left h]
theorem stL_news {l : List ByteArray} {k : ByteArray} : ∀ i, i < 1 → (#[Value.string k] : Array Value)[i]? = some (stL (l ++ [k]) (l.length * 1 + i)) := by
  intro i hi
  have h0 : i = 0 := by omega
  subst h0
  unfold stL
  simp [List.getD]
/-- A string onto a list in a block of its own. -/
theorem wpList_pushS (W : World) {ops : Array Oper} {rest : List Oper} {o : Oper} {a : Act} {Q : Exit → Act → World → Prop} (hgd : o.guard = none) (s y : Operand)
    (ho : o.op = .call { callee := .builtin .append, args := #[s, y], argTypes := #[44, 44] })
    (g c : Nat) (T : List ByteArray) (h : Own W g (g + 1) 9 1 (some ⟨g, 0, none⟩) T.length c (stL T)) (hg : g < W.heap.size) (k : ByteArray) (hs : a.eval s = .slice (some ⟨g, 0, none⟩) T.length c) (cx H : Nat) (hH : W.heap.size = H) (hy : a.eval y = .slice (some ⟨H, 0, none⟩) 1 cx)
    (hn : T.length ≤ 1073741824)
    (hK : ∀ g' cap w', Own w' g' (g' + 1) 9 1 (some ⟨g', 0, none⟩) (T.length + 1) cap (stL (T ++ [k])) → (g' = g ∨ W.heap.size < g') → g' < w'.heap.size → Fr g (g + 1) W w' → wpList Tryz.prog ops Q rest (a.put o.dst (.slice (some ⟨g', 0, none⟩) (T.length + 1) cap)) w') :
    wpList Tryz.prog ops Q (o :: rest) a (W.alloc (Obj.cells #[.string k] 9)) := by
  subst hH
  have ha := h.alloc (Obj.cells #[.string k] 9)
  refine wpList_push (W.alloc (Obj.cells #[.string k] 9)) hgd s y 44 ho 9 _ 1 16 Tryz.underlying44 info_string rfl (by omega) g (g + 1) (some ⟨g, 0, none⟩) T.length c (stL (T ++ [k])) hs
    (ha.congr (fun j hj => (stL_left (by omega)).symm)) (by simp; omega) W.heap.size #[.string k] 9 (0, 0) cx (heap_alloc_new W _) hy rfl stL_news (by simp [Value.oneCell']) hn (by omega) ?_
  intro g' cap w' hp
  obtain ⟨h1, h2, h3, h4⟩ := hp.caged
  exact hK g' cap w' h1 (h2.imp id (fun h => by rw [h]; simp)) h3 (((Fr.refl g (g + 1) W).alloc _).trans h4)
/-- The names among the first k for which something holds. -/
def nmK (p : ByteArray → Bool) (k : Nat) : List ByteArray := (nmL.take k).filter p
theorem nm_at {k : Nat} (h : k < nmL.length) : nmL[k] = nm k := by unfold nm; simp [List.getD, h]
theorem nmL_len : nmL.length = 9 := rfl
theorem nmK_yes {p : ByteArray → Bool} {k : Nat} (hk : k < 9) (h : p (nm k) = true) : nmK p (k + 1) = nmK p k ++ [nm k] := by
  unfold nmK
  rw [List.take_succ_eq_append_getElem (by rw [nmL_len]; exact hk), List.filter_append, nm_at]
  simp [h]
theorem nmK_no {p : ByteArray → Bool} {k : Nat} (hk : k < 9) (h : p (nm k) = false) : nmK p (k + 1) = nmK p k := by
  unfold nmK
  rw [List.take_succ_eq_append_getElem (by rw [nmL_len]; exact hk), List.filter_append, nm_at]
  simp [h]
theorem nmK_len (p : ByteArray → Bool) (k : Nat) : (nmK p k).length ≤ 9 := by
  unfold nmK
  refine Nat.le_trans (List.length_filter_le _ _) ?_
  rw [List.length_take, nmL_len]; omega
end Go.Proofs.YtmkahbephidmbaaGreat
