/-
  Several texts in one: words for memory, plain laws and contracts that the later texts lean on.
-/
import Derived.Test.YtncjfgebolikoaaDoorQvGB
import Derived.Test.YtncjfgebolikoaaDoorRows
import Derived.Test.YtncjfgebolikoaaDoorQvGA
import Derived.Deep.RegionHeld3
import Derived.Deep.QuietTactic
import Derived.BigQuiet
import Derived.ProofKit
import Derived.OpenShut
import Derived.ShutString
import Derived.Lib.SmallJoins
import Derived.Carry
import Derived.Deep.Slices
import Derived.Deep.Fields
import Derived.ChangeSame
/-
  Contracts of the law's helpers on slices of edits.
-/
namespace Go.Proofs.YtncjfgebolikoaaDoor
open Go.RowKit

set_option maxHeartbeats 400000 in
theorem eqEdit_yes (a : Bool) (v u : Int) (w : World) :
    Calls Tryd.prog 28 #[.agg #[.bool a, .int .i64 v, .int .i64 u], .agg #[.bool a, .int .i64 v, .int .i64 u]] w fun e w' => e = .returned (.bool true) ∧ Below w.heap.size w w' := by
  go_enter Tryd.func28, Tryd.ntmps28
  go_wp2
  go_ret
  exact ⟨rfl, ((Below.refl _ _).alloc (Nat.le_refl _) _).alloc (by simp) _⟩

set_option maxHeartbeats 400000 in
theorem eqEditS_yes (A1 A2 : Option Addr) (n c1 c2 : Nat) (a : Nat → Bool) (v u : Nat → Int) (w : World) (B1 B2 : Nat) (h1 : RdE w B1 A1 n c1 a v u) (h2 : RdE w B2 A2 n c2 a v u) (hB1 : B1 ≤ w.heap.size) (hB2 : B2 ≤ w.heap.size) (hn : n ≤ 1073741824) :
    Calls Tryd.prog 10 #[.slice A1 n c1, .slice A2 n c2] w fun e w' => e = .returned (.bool true) ∧ Below w.heap.size w w' := by
  go_enter Tryd.func10, Tryd.ntmps10
  go_wp2
  go_loopw [5] (fun i wr => ∃ k : Nat, k ≤ n ∧ i = .int .i64 k ∧ Below w.heap.size w wr) (fun i _ => n - (intOf i).toNat)
  case atStart => exact ⟨0, Nat.zero_le _, rfl, Below.refl _ _⟩
  case round =>
    obtain ⟨k, hk, rfl, hbr⟩ := hrel
    by_cases hlt : k < n
    · obtain ⟨b1, o1, rfl, l1, c1'⟩ := h1.2 (by omega)
      obtain ⟨b2, o2, rfl, l2, c2'⟩ := h2.2 (by omega)
      obtain ⟨p0, p1, p2⟩ := c1' k hlt
      obtain ⟨q0, q1, q2⟩ := c2' k hlt
      have f0 := (hbr.cell (p := ⟨b1, _, none⟩) (by show b1 < _; omega)).trans p0
      have f1 := (hbr.cell (p := ⟨b1, _, none⟩) (by show b1 < _; omega)).trans p1
      have f2 := (hbr.cell (p := ⟨b1, _, none⟩) (by show b1 < _; omega)).trans p2
      have g0 := (hbr.cell (p := ⟨b2, _, none⟩) (by show b2 < _; omega)).trans q0
      have g1 := (hbr.cell (p := ⟨b2, _, none⟩) (by show b2 < _; omega)).trans q1
      have g2 := (hbr.cell (p := ⟨b2, _, none⟩) (by show b2 < _; omega)).trans q2
      have i1 : (k : Int) < (n : Int) := by omega
      have hz := hbr.size
      clear c1' c2' h1 h2 p0 p1 p2 q0 q1 q2
      go_wp2_with fail
      go_region_held3 (fun z => z.cell? ⟨b1, o1 + k * 3, none⟩ = some (.bool (a k)) ∧ z.cell? ⟨b1, o1 + k * 3 + 1, none⟩ = some (.int .i64 (v k)) ∧ z.cell? ⟨b1, o1 + k * 3 + 2, none⟩ = some (.int .i64 (u k)) ∧ z.cell? ⟨b2, o2 + k * 3, none⟩ = some (.bool (a k)) ∧ z.cell? ⟨b2, o2 + k * 3 + 1, none⟩ = some (.int .i64 (v k)) ∧ z.cell? ⟨b2, o2 + k * 3 + 2, none⟩ = some (.int .i64 (u k)))
        (first | (refine ⟨?_, ?_, ?_, ?_, ?_, ?_⟩ <;> assumption) | go_keep | (refine ⟨?_, ?_, ?_, ?_, ?_, ?_⟩ <;> (refine (hb.cell (by first | (show b1 < wr.heap.size; omega) | (show b2 < wr.heap.size; omega))).trans ?_; go_keep)))
        ((go_at_call 28; (refine (eqEdit_yes (a k) (v k) (u k) _).mono ?_); rintro e w1 ⟨rfl, hb⟩))
      have HB := Lib.hid (hbr.drew.trans (hb.mono hbr.size))
      clear f0 f1 f2 g0 g1 g2 hb hbr
      go_wp2
      go_roundw
      case rel => exact ⟨k + 1, by omega, by go_num, HB.out⟩
      case measure => simp [intOf]; omega
    · have hge : (n : Int) ≤ (k : Int) := by omega
      have HB := Lib.hid hbr
      clear hbr h1 h2
      go_wp2
      go_ret
      exact ⟨rfl, HB.out⟩

/-- What mark writes into edits: k, k + 1, .. -/
def mke (k : Int) (a : Nat → Bool) (v u : Nat → Int) (i : Nat) : Nat → Value := eds (fun j => if j < i then ((k + 3 * j) % 3 == 0) else a j) (fun j => if j < i then k + 3 * j + 1 else v j) (fun j => if j < i then k + 3 * j + 2 else u j)
theorem mke_succ (k : Int) (a : Nat → Bool) (v u : Nat → Int) (i : Nat) : (fun j => if j = i * 3 + 2 then Value.int .i64 (k + 3 * i + 2) else (fun j => if j = i * 3 + 1 then Value.int .i64 (k + 3 * i + 1) else (fun j => if j = i * 3 then Value.bool ((k + 3 * i) % 3 == 0) else mke k a v u i j) j) j) = mke k a v u (i + 1) := by
  funext j
  have hd : j = j / 3 * 3 ∨ j = j / 3 * 3 + 1 ∨ j = j / 3 * 3 + 2 := by omega
  generalize j / 3 = q at hd
  unfold mke
  rcases hd with rfl | rfl | rfl
  · rw [if_neg (by omega)]; simp only [eds0]
    rw [if_neg (by omega)]
    by_cases h : q = i
    · subst h; simp
    · rw [if_neg (by omega)]
      by_cases h2 : q < i
      · rw [if_pos h2, if_pos (by omega)]
      · rw [if_neg h2, if_neg (by omega)]
  · rw [if_neg (by omega)]; simp only [eds1]
    by_cases h : q = i
    · subst h; simp
    · rw [if_neg (by omega), if_neg (by omega)]
      by_cases h2 : q < i
      · rw [if_pos h2, if_pos (by omega)]
      · rw [if_neg h2, if_neg (by omega)]
  · simp only [eds2]
    by_cases h : q = i
    · subst h; simp
    · rw [if_neg (by omega), if_neg (by omega), if_neg (by omega)]
      by_cases h2 : q < i
      · rw [if_pos h2, if_pos (by omega)]
      · rw [if_neg h2, if_neg (by omega)]

set_option maxHeartbeats 1000000 in
theorem markEditS_any (A : Option Addr) (n c : Nat) (a : Nat → Bool) (v u : Nat → Int) (k : Int) (w : World) (lo hi : Nat) (h : Own w lo hi 49 3 A n c (eds a v u)) (hn : n ≤ 1073741824) (hk0 : 0 ≤ k) (hk1 : k ≤ 1099511627776) :
    Calls Tryd.prog 18 #[.slice A n c, .int .i64 k] w fun e w' => e = .returned (.int .i64 (k + 3 * n)) ∧ Own w' lo hi 49 3 A n c (mke k a v u n) ∧ Fr lo hi w w' := by
  go_enter Tryd.func18, Tryd.ntmps18
  go_wp2
  go_loopw [1, 5] (fun kk i wr => ∃ j : Nat, j ≤ n ∧ i = .int .i64 j ∧ kk = .int .i64 (k + 3 * j) ∧ Own wr lo hi 49 3 A n c (mke k a v u j) ∧ Fr lo hi w wr) (fun _ i _ => n - (intOf i).toNat)
  case atStart => exact ⟨0, Nat.zero_le _, rfl, by go_num, h.congr (fun j _ => by simp [mke]), Fr.refl _ _ _⟩
  case round =>
    obtain ⟨j, hj, rfl, rfl, hown, hfr⟩ := hrel
    by_cases hlt : j < n
    · obtain ⟨g, rfl, g1, g2, g3, hc, hf⟩ := hown.at_ (by omega)
      have t0 := hc (j * 3) (by omega)
      have t1 := hc (j * 3 + 1) (by omega)
      have t2 := hc (j * 3 + 2) (by omega)
      have s0 := hf (j * 3)
      have s1 := hf (j * 3 + 1)
      have s2 := hf (j * 3 + 2)
      have hs := ((hown.set_ (j * 3) (.bool ((k + 3 * j) % 3 == 0))).set_ (j * 3 + 1) (.int .i64 (k + 3 * j + 1))).set_ (j * 3 + 2) (.int .i64 (k + 3 * j + 2))
      rw [mke_succ] at hs
      have hfr' := ((hfr.setCell (p := ⟨g, j * 3, none⟩) g1 g2 (.bool ((k + 3 * j) % 3 == 0))).setCell (p := ⟨g, j * 3 + 1, none⟩) g1 g2 (.int .i64 (k + 3 * j + 1))).setCell (p := ⟨g, j * 3 + 2, none⟩) g1 g2 (.int .i64 (k + 3 * j + 2))
      obtain ⟨kk, hkk⟩ : ∃ kk : Int, kk = k + 3 * j := ⟨_, rfl⟩
      rw [← hkk] at hs hfr' ⊢
      have k0 : 0 ≤ kk := by omega
      have k1 : kk ≤ 8796093022208 := by omega
      rw [show kk + 2 = kk + 1 + 1 by omega] at hs hfr'
      have H0 := Lib.hid hkk
      have H1 := Lib.hid hs
      have H2 := Lib.hid hfr'
      clear hc hf hs hfr' h hown hfr hkk
      go_wp2
      go_roundw
      case rel => exact ⟨j + 1, by omega, by go_num, congrArg (Value.int .i64) (by have := H0.out; omega), H1.out, H2.out⟩
      case measure => simp [intOf]; omega
    · obtain rfl : j = n := by omega
      have H1 := Lib.hid hown
      have H2 := Lib.hid hfr
      clear hown hfr h
      go_wp2
      go_ret
      exact ⟨rfl, H1.out, H2.out⟩

set_option maxHeartbeats 1000000 in
theorem heldEditS_yes (A : Option Addr) (n c : Nat) (k : Int) (w : World) (B : Nat) (h : RdE w B A n c (fun j => (k + 3 * j) % 3 == 0) (fun j => k + 3 * j + 1) (fun j => k + 3 * j + 2)) (hn : n ≤ 1073741824) (hk0 : 0 ≤ k) (hk1 : k ≤ 1099511627776) :
    Calls Tryd.prog 19 #[.slice A n c, .int .i64 k] w fun e w' => e = .returned (.int .i64 (k + 3 * n)) ∧ w = w' := by
  go_enter Tryd.func19, Tryd.ntmps19
  go_wp2
  go_loop [1, 5] (fun kk i => ∃ j : Nat, j ≤ n ∧ i = .int .i64 j ∧ kk = .int .i64 (k + 3 * j)) (fun _ i => n - (intOf i).toNat)
  case atStart => exact ⟨0, Nat.zero_le _, rfl, by go_num⟩
  case round =>
    obtain ⟨j, hj, rfl, rfl⟩ := hrel
    by_cases hlt : j < n
    · obtain ⟨b, o, rfl, l, hc⟩ := h.2 (by omega)
      obtain ⟨f0, f1, f2⟩ := hc j hlt
      clear hc h
      obtain ⟨kk, hkk⟩ : ∃ kk : Int, kk = k + 3 * j := ⟨_, rfl⟩
      simp only [← hkk] at f0 f1 f2 ⊢
      rw [show kk + 2 = kk + 1 + 1 by omega] at f2
      have k0 : 0 ≤ kk := by omega
      have k1 : kk ≤ 8796093022208 := by omega
      have H0 := Lib.hid hkk
      clear hkk
      go_wp2
      go_round
      case rel => exact ⟨j + 1, by omega, by go_num, congrArg (Value.int .i64) (by have := H0.out; omega)⟩
      case measure => simp [intOf]; omega
    · obtain rfl : j = n := by omega
      go_wp2
      go_ret
      exact ⟨rfl, rfl⟩
end Go.Proofs.YtncjfgebolikoaaDoor

/-
  Contracts of the law's helpers on slices of at most nine strings.
-/
namespace Go.Proofs.YtncjfgebolikoaaDoor
open Go.RowKit

theorem info_string : (Tryd.prog.info? 9).map (fun i => (i.zero, i.size, i.bytes)) = some (some (.string ⟨#[]⟩), 1, 16) := by kernel_rfl

theorem conv1 (W : World) (d : Int) : (convert 73 9 (.slice (some ⟨W.heap.size, 0, none⟩) 1 1)).run Tryd.prog (W.alloc (Obj.cells #[Value.int .u8 d] 5)) = .ok (.string ⟨#[UInt8.ofNat d.toNat]⟩) (W.alloc (Obj.cells #[Value.int .u8 d] 5)) := by
  have h := run_convert_bytes_arg (P := Tryd.prog) (W.alloc (Obj.cells #[Value.int .u8 d] 5)) 73 5 Tryd.underlying73 Tryd.underlying5 W.heap.size 0 1 1 [d] rfl (fun i hi => by
    obtain rfl : i = 0 := by omega
    simp [go_sem]) 9 Tryd.underlying9
  rw [h]
  rfl

end Go.Proofs.YtncjfgebolikoaaDoor

/-
  How the laws' arguments read: slices of integers, graphs, integers, strings.
-/
namespace Go.Proofs.YtncjfgebolikoaaDoor
open Go.ChangeShapes Go.WideShapes Go.ChangeAt Go.RowKit

theorem own : ownKnob Tryd.prog.godebug = none := by kernel_rfl
theorem laidOut : laidOutB Tryd.prog = true := by kernel_rfl

section
variable {H : Type} {enc : TypeId × Value → H} {w : World} {base : Nat} {spare : Nat → Bool} {held : Bool}

theorem places_lt {t : TypeId} {v : Value} {d : DataW H} {p : List MemPlace} (h : DataW.Trod enc Tryd.prog w base spare held t v d p) : ∀ x ∈ p, x.block < w.heap.size := by
  obtain ⟨m, hm⟩ := h
  exact DataW.trod_lt m _ _ _ hm
end
end Go.Proofs.YtncjfgebolikoaaDoor

/-
  How further arguments read (slices of edits); small laws that the generated walks use.
-/
namespace Go.Proofs.YtncjfgebolikoaaDoor
open Go.ChangeShapes Go.WideShapes Go.ChangeAt Go.RowKit Go.Deep

theorem Own.markedE {w : World} {lo hi n c : Nat} {e : TypeId} {A : Option Addr} {k : Int} {a : Nat → Bool} {v u : Nat → Int} (h : Own w lo hi e 3 A n c (mke k a v u n)) : Own w lo hi e 3 A n c (eds (fun j => (k + 3 * j) % 3 == 0) (fun j => k + 3 * j + 1) (fun j => k + 3 * j + 2)) :=
  h.congr (fun j hj => by
    have : j / 3 < n := by omega
    unfold mke eds
    simp only [this, if_true])

section
variable {H : Type} {enc : TypeId × Value → H} {w : World} {base : Nat} {spare : Nat → Bool} {held : Bool}
end
end Go.Proofs.YtncjfgebolikoaaDoor

/-
  Contract of the law's helper that asks whether a graph holds its marks.
-/
namespace Go.Proofs.YtncjfgebolikoaaDoor
open Go.RowKit

end Go.Proofs.YtncjfgebolikoaaDoor

/-
  How arguments read: slices of slices of integers; integers; strings.
-/
namespace Go.Proofs.YtncjfgebolikoaaDoor
open Go.ChangeShapes Go.WideShapes Go.ChangeAt Go.RowKit Go.Deep

section
variable {H : Type} {enc : TypeId × Value → H} {w : World} {base : Nat} {spare : Nat → Bool} {held : Bool}
end
end Go.Proofs.YtncjfgebolikoaaDoor
