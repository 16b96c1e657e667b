/-
  Several texts in one: words for memory, plain laws and contracts that the later texts lean on.
-/
import Derived.Test.YtdpkbfiggbcclaaGreatQiJnlS
import Derived.Test.YtdpkbfiggbcclaaGreatQiFillP
import Derived.Test.YtdpkbfiggbcclaaGreatRows
import Derived.Test.YtdpkbfiggbcclaaGreatQiGA
import Derived.Deep.RegionHeld3
import Derived.Deep.QuietTactic
import Derived.BigQuiet
/-
  Contracts: the first edit that leads out of a class (both sides).
-/
namespace Go.Proofs.YtdpkbfiggbcclaaGreat
open Go.RowKit

/-- Is the i-th edit a loss? -/
def flP (l : List Bool) (i : Nat) : Bool := l.getD i false && !l.getD (i + 1) false
def flO (l : List Bool) : Option Nat := lsK (flP l) (l.length - 1)
def flI (l : List Bool) : Int := match flO l with | none => -1 | some k => (k : Int)
theorem flI_some {l : List Bool} {k : Nat} (h : flO l = some k) : flI l = (k : Int) := by unfold flI; rw [h]
theorem flI_none {l : List Bool} (h : flO l = none) : flI l = -1 := by unfold flI; rw [h]
set_option maxRecDepth 100000 in
set_option maxHeartbeats 3200000 in
theorem FirstLoss_i (sz : Int) (A : Option Addr) (m c : Nat) (x : Nat → Int) (Al : Option Addr) (n cl : Nat) (a : Nat → Bool) (v u : Nat → Int) (str : ByteArray) (w : World) (h : GA w A m c x) (hl : ED w Al n cl a v u) (hm : m ≤ 1048576) (hn : n ≤ 1048576) :
    Calls Tryz.prog 23 #[.agg #[.int .i64 sz, .slice A m c], .slice Al n cl, .string str] w fun e w' => e = .returned (.int .i64 (flI (meL sz m x n a v u str.toList))) ∧ Below w.heap.size w w' := by
  obtain ⟨W, hW⟩ : ∃ W : World, W = (w.alloc (Obj.cells #[Value.int IntKind.i64 sz, Value.slice A m c] 28)) := ⟨_, rfl⟩
  have HB : Hid (From w W) := by rw [hW]; exact From.alloc _ _
  have HC : Hid (GC W w.heap.size sz A m c) := by rw [hW]; exact GC.new _ _ _ _ _
  have HW := Lib.hid hW
  have KM := Lib.hid (MembershipOf_i sz A m c x Al n cl a v u str W (h.keep HB.out.below) (hl.keep HB.out.below) hm hn)
  have hl13 := meL_len (sz := sz) (m := m) (x := x) (n := n) (a := a) (v := v) (u := u) (s := str.toList)
  obtain ⟨l, hlq⟩ : ∃ l, l = meL sz m x n a v u str.toList := ⟨_, rfl⟩
  rw [← hlq] at KM hl13 ⊢
  clear hW h hl hlq
  go_enter Tryz.func23, Tryz.ntmps23
  have e0 := HC.out.c0
  have e1 := HC.out.c1
  go_wp2_with fail
  rw [← HW.out]
  clear HW
  refine KM.out.mono ?_
  rintro e w1 ⟨A1, c1, rfl, ho1, hb1⟩
  have HO1 := Lib.hid ho1
  clear e0 e1
  replace HB := Lib.hid (HB.out.keep hb1)
  replace HC := Lib.hid (HC.out.keep hb1)
  clear hb1 ho1 KM
  have e0 := HC.out.c0
  have e1 := HC.out.c1
  go_wp2
  go_loopw [8] (fun i wr => ∃ k : Nat, k ≤ l.length ∧ i = .int .i64 ((k + 1 : Nat) : Int) ∧ Hid (∀ j, j < k → flP l j = false) ∧ wr = w1) (fun i _ => l.length + 3 - (intOf i).toNat)
  case atStart => exact ⟨0, Nat.zero_le _, rfl, (fun j hj => absurd hj (by omega)), by first | rfl | trivial⟩
  case round =>
    obtain ⟨k, hk, rfl, hall, rfl⟩ := hrel
    by_cases hlt : k + 1 < l.length
    · obtain ⟨g, rfl, _, _, _, hc, _⟩ := HO1.out.at_ (by omega)
      have p0 := hc k (by omega)
      have p1 := hc (k + 1) (by omega)
      obtain ⟨b0, hb0⟩ : ∃ b, b = l.getD k false := ⟨_, rfl⟩
      obtain ⟨b1, hb1⟩ : ∃ b, b = l.getD (k + 1) false := ⟨_, rfl⟩
      have q0 : wr.cell? ⟨g, k, none⟩ = some (.bool b0) := by rw [p0, hb0]; rfl
      have q1 : wr.cell? ⟨g, k + 1, none⟩ = some (.bool b1) := by rw [p1, hb1]; rfl
      have Hd : Hid (flP l k = (b0 && !b1)) := by show _ = _; rw [hb0, hb1]; rfl
      have i1 : ((k + 1 : Nat) : Int) < (l.length : Int) := by omega
      have i2 : (k : Int) < (l.length : Int) := by omega
      have i3 : (k : Int) + 1 < (l.length : Int) := by omega
      have w0 : wrap64 (((k + 1 : Nat) : Int) - 1) = (k : Int) := by rw [Go.IntWalk.wrap64_in _ (by omega)]; omega
      have w2 : ((k : Int) + 1).toNat = k + 1 := by omega
      have w3 : (k : Int) + 1 - 1 = (k : Int) := by omega
      clear p0 p1 hc hb0 hb1
      cases b0
      · have Hn := Lib.hid (Hd.out.trans (Bool.false_and _))
        clear Hd
        go_wp2
        go_roundw
        case rel =>
          refine ⟨k + 1, by omega, by go_num, fun j hj => ?_, by first | rfl | trivial⟩
          by_cases hjk : j < k
          · exact hall.out j hjk
          · obtain rfl : j = k := by omega
            exact Hn.out
        case measure => (simp [intOf] <;> omega)
      · cases b1
        · have Hn : Hid (flI l = (k : Int)) := flI_some (lsK_yes (by omega) (Hd.out.trans rfl) hall.out)
          clear Hd
          go_wp2
          go_ret
          exact ⟨ret_int Hn.out.symm, HB.out.below⟩
        · have Hn : Hid (flP l k = false) := Hd.out.trans rfl
          clear Hd
          go_wp2
          go_roundw
          case rel =>
            refine ⟨k + 1, by omega, by go_num, fun j hj => ?_, by first | rfl | trivial⟩
            by_cases hjk : j < k
            · exact hall.out j hjk
            · obtain rfl : j = k := by omega
              exact Hn.out
          case measure => (simp [intOf] <;> omega)
    · have Hn : Hid (flI l = -1) := flI_none (lsK_no fun j hj => hall.out j (by omega))
      have i1 : (l.length : Int) ≤ ((k + 1 : Nat) : Int) := by omega
      have i2 : (l.length : Int) ≤ (k : Int) + 1 := by omega
      go_wp2
      go_ret
      exact ⟨ret_int Hn.out.symm, HB.out.below⟩
set_option maxRecDepth 100000 in
set_option maxHeartbeats 3200000 in
theorem FirstLoss_s (sz : Int) (A : Option Addr) (m c : Nat) (x : Nat → Int) (Al : Option Addr) (n cl : Nat) (a : Nat → Bool) (v u : Nat → Int) (str : ByteArray) (w : World) (h : GA w A m c x) (hl : ED w Al n cl a v u) (hm : m ≤ 1048576) (hn : n ≤ 1048576) :
    Calls Tryz.prog 21 #[.agg #[.int .i64 sz, .slice A m c], .slice Al n cl, .string str] w fun e w' => e = .returned (.int .i64 (flI (meL sz m x n a v u str.toList))) ∧ Below w.heap.size w w' := by
  obtain ⟨W, hW⟩ : ∃ W : World, W = (w.alloc (Obj.cells #[Value.int IntKind.i64 sz, Value.slice A m c] 28)) := ⟨_, rfl⟩
  have HB : Hid (From w W) := by rw [hW]; exact From.alloc _ _
  have HC : Hid (GC W w.heap.size sz A m c) := by rw [hW]; exact GC.new _ _ _ _ _
  have HW := Lib.hid hW
  have KM := Lib.hid (MembershipOf_s sz A m c x Al n cl a v u str W (h.keep HB.out.below) (hl.keep HB.out.below) hm hn)
  have hl13 := meL_len (sz := sz) (m := m) (x := x) (n := n) (a := a) (v := v) (u := u) (s := str.toList)
  obtain ⟨l, hlq⟩ : ∃ l, l = meL sz m x n a v u str.toList := ⟨_, rfl⟩
  rw [← hlq] at KM hl13 ⊢
  clear hW h hl hlq
  go_enter Tryz.func21, Tryz.ntmps21
  have e0 := HC.out.c0
  have e1 := HC.out.c1
  go_wp2_with fail
  rw [← HW.out]
  clear HW
  refine KM.out.mono ?_
  rintro e w1 ⟨A1, c1, rfl, ho1, hb1⟩
  have HO1 := Lib.hid ho1
  clear e0 e1
  replace HB := Lib.hid (HB.out.keep hb1)
  replace HC := Lib.hid (HC.out.keep hb1)
  clear hb1 ho1 KM
  have e0 := HC.out.c0
  have e1 := HC.out.c1
  go_wp2
  go_loopw [8] (fun i wr => ∃ k : Nat, k ≤ l.length ∧ i = .int .i64 ((k + 1 : Nat) : Int) ∧ Hid (∀ j, j < k → flP l j = false) ∧ wr = w1) (fun i _ => l.length + 3 - (intOf i).toNat)
  case atStart => exact ⟨0, Nat.zero_le _, rfl, (fun j hj => absurd hj (by omega)), by first | rfl | trivial⟩
  case round =>
    obtain ⟨k, hk, rfl, hall, rfl⟩ := hrel
    by_cases hlt : k + 1 < l.length
    · obtain ⟨g, rfl, _, _, _, hc, _⟩ := HO1.out.at_ (by omega)
      have p0 := hc k (by omega)
      have p1 := hc (k + 1) (by omega)
      obtain ⟨b0, hb0⟩ : ∃ b, b = l.getD k false := ⟨_, rfl⟩
      obtain ⟨b1, hb1⟩ : ∃ b, b = l.getD (k + 1) false := ⟨_, rfl⟩
      have q0 : wr.cell? ⟨g, k, none⟩ = some (.bool b0) := by rw [p0, hb0]; rfl
      have q1 : wr.cell? ⟨g, k + 1, none⟩ = some (.bool b1) := by rw [p1, hb1]; rfl
      have Hd : Hid (flP l k = (b0 && !b1)) := by show _ = _; rw [hb0, hb1]; rfl
      have i1 : ((k + 1 : Nat) : Int) < (l.length : Int) := by omega
      have i2 : (k : Int) < (l.length : Int) := by omega
      have i3 : (k : Int) + 1 < (l.length : Int) := by omega
      have w0 : wrap64 (((k + 1 : Nat) : Int) - 1) = (k : Int) := by rw [Go.IntWalk.wrap64_in _ (by omega)]; omega
      have w2 : ((k : Int) + 1).toNat = k + 1 := by omega
      have w3 : (k : Int) + 1 - 1 = (k : Int) := by omega
      clear p0 p1 hc hb0 hb1
      cases b0
      · have Hn := Lib.hid (Hd.out.trans (Bool.false_and _))
        clear Hd
        go_wp2
        go_roundw
        case rel =>
          refine ⟨k + 1, by omega, by go_num, fun j hj => ?_, by first | rfl | trivial⟩
          by_cases hjk : j < k
          · exact hall.out j hjk
          · obtain rfl : j = k := by omega
            exact Hn.out
        case measure => (simp [intOf] <;> omega)
      · cases b1
        · have Hn : Hid (flI l = (k : Int)) := flI_some (lsK_yes (by omega) (Hd.out.trans rfl) hall.out)
          clear Hd
          go_wp2
          go_ret
          exact ⟨ret_int Hn.out.symm, HB.out.below⟩
        · have Hn : Hid (flP l k = false) := Hd.out.trans rfl
          clear Hd
          go_wp2
          go_roundw
          case rel =>
            refine ⟨k + 1, by omega, by go_num, fun j hj => ?_, by first | rfl | trivial⟩
            by_cases hjk : j < k
            · exact hall.out j hjk
            · obtain rfl : j = k := by omega
              exact Hn.out
          case measure => (simp [intOf] <;> omega)
    · have Hn : Hid (flI l = -1) := flI_none (lsK_no fun j hj => hall.out j (by omega))
      have i1 : (l.length : Int) ≤ ((k + 1 : Nat) : Int) := by omega
      have i2 : (l.length : Int) ≤ (k : Int) + 1 := by omega
      go_wp2
      go_ret
      exact ⟨ret_int Hn.out.symm, HB.out.below⟩
end Go.Proofs.YtdpkbfiggbcclaaGreat

/-
  Contracts of the law's helpers on slices of bools.
-/
namespace Go.Proofs.YtdpkbfiggbcclaaGreat
open Go.RowKit

/-- Bools as cells. -/
def bols (x : Nat → Bool) : Nat → Value := fun j => .bool (x j)
/-- The mark of number k. -/
def mtB (k : Nat) : Bool := decide (k % 3 = 0)

set_option maxHeartbeats 400000 in
theorem eqBoolS_yes (A1 A2 : Option Addr) (n c1 c2 : Nat) (x : Nat → Bool) (w : World) (B1 B2 : Nat) (h1 : RdV w B1 A1 n c1 (bols x)) (h2 : RdV w B2 A2 n c2 (bols x)) (hB1 : B1 ≤ w.heap.size) (hB2 : B2 ≤ w.heap.size) (hn : n ≤ 140737488355328) :
    Calls Tryz.prog 26 #[.slice A1 n c1, .slice A2 n c2] w fun e w' => e = .returned (.bool true) ∧ Below w.heap.size w w' := by
  go_enter Tryz.func26, Tryz.ntmps26
  go_wp2
  go_loopw [5] (fun i wr => ∃ k : Nat, k ≤ n ∧ i = .int .i64 k ∧ Below w.heap.size w wr) (fun i _ => n - (intOf i).toNat)
  case atStart => exact ⟨0, Nat.zero_le _, rfl, Below.refl _ _⟩
  case round =>
    obtain ⟨k, hk, rfl, hbr⟩ := hrel
    by_cases hlt : k < n
    · obtain ⟨b1, o1, rfl, l1, c1'⟩ := h1.2 (by omega)
      obtain ⟨b2, o2, rfl, l2, c2'⟩ := h2.2 (by omega)
      have f1 : wr.cell? ⟨b1, o1 + k, none⟩ = some (.bool (x k)) := (hbr.cell (p := ⟨b1, o1 + k, none⟩) (by show b1 < _; omega)).trans (c1' k hlt)
      have f2 : wr.cell? ⟨b2, o2 + k, none⟩ = some (.bool (x k)) := (hbr.cell (p := ⟨b2, o2 + k, none⟩) (by show b2 < _; omega)).trans (c2' k hlt)
      have hi : (k : Int) < (n : Int) := by omega
      obtain ⟨t, ht⟩ : ∃ t, t = x k := ⟨_, rfl⟩
      rw [← ht] at f1 f2
      clear c1' c2' h1 h2 ht
      cases t
      all_goals
        go_wp2
        go_quiet (fail)
        go_wp2
        go_roundw
        case rel => exact ⟨k + 1, by omega, by go_num, below_drewN hbr _⟩
        case measure => simp [intOf]; omega
    · have hge : (n : Int) ≤ (k : Int) := by omega
      go_wp2
      go_ret
      exact ⟨rfl, hbr⟩

/-- What mark writes into bools. -/
def mksB (k : Nat) (x : Nat → Bool) (i : Nat) : Nat → Value := bols fun j => if j < i then mtB (k + j) else x j
theorem mksB_succ (k : Nat) (x : Nat → Bool) (i : Nat) : (fun j => if j = i then Value.bool (mtB (k + i)) else mksB k x i j) = mksB k x (i + 1) := by
  funext j
  unfold mksB bols
  by_cases h : j = i
  · subst h; simp
  · rw [if_neg h]
    dsimp only
    by_cases h2 : j < i
    · rw [if_pos h2, if_pos (by omega)]
    · rw [if_neg h2, if_neg (by omega)]

set_option maxHeartbeats 1000000 in
theorem markBoolS_any (A : Option Addr) (n c : Nat) (x : Nat → Bool) (k : Nat) (w : World) (lo hi : Nat) (h : Own w lo hi 4 1 A n c (bols x)) (hk1 : k + n ≤ 1073741824) :
    Calls Tryz.prog 27 #[.slice A n c, .int .i64 k] w fun e w' => e = .returned (.int .i64 (k + n)) ∧ Own w' lo hi 4 1 A n c (mksB k x n) ∧ Fr lo hi w w' := by
  go_enter Tryz.func27, Tryz.ntmps27
  go_wp2
  go_loopw [1, 5] (fun kk i wr => ∃ j : Nat, j ≤ n ∧ i = .int .i64 j ∧ kk = .int .i64 (k + j) ∧ Own wr lo hi 4 1 A n c (mksB k x j) ∧ Fr lo hi w wr) (fun _ i _ => n - (intOf i).toNat)
  case atStart => exact ⟨0, Nat.zero_le _, rfl, by go_num, h.congr (fun j _ => by simp [mksB]), Fr.refl _ _ _⟩
  case round =>
    obtain ⟨j, hj, rfl, rfl, hown, hfr⟩ := hrel
    by_cases hlt : j < n
    · obtain ⟨kk, hkk⟩ : ∃ kk : Nat, kk = k + j := ⟨_, rfl⟩
      have ek : (k : Int) + j = (kk : Int) := by omega
      rw [ek]
      have hz := hfr.size
      have HF := Lib.hid hfr
      have Hk := Lib.hid hkk
      have k1 : kk ≤ 1073741824 := by omega
      have k2 : (j : Int) < (n : Int) := by omega
      obtain ⟨g, rfl, g1, g2, g3, hc, hf⟩ := hown.at_ (by omega)
      have f1 := hc j (by omega)
      have f2 := hf j
      have hs := hown.set_ j (.bool (mtB (k + j)))
      rw [mksB_succ] at hs
      rw [← Hk.out] at hs
      have hfr' := HF.out.setCell (p := ⟨g, j, none⟩) g1 g2 (.bool (mtB kk))
      have H1 := Lib.hid hs
      have H2 := Lib.hid hfr'
      clear hc hf hs hfr' hown hfr HF h ek hkk
      by_cases hm : kk % 3 = 0
      · have e0 : mtB kk = true := by unfold mtB; rw [hm]; rfl
        have e1 : ((kk : Int).tmod 3 == 0) = true := by rw [Int.tmod_eq_emod_of_nonneg (by omega)]; simp; omega
        have e2 : ((kk : Int) % 3 == 0) = true := by simp; omega
        rw [e0] at H1 H2
        clear hm e0
        go_wp2
        go_roundw
        case rel => exact ⟨j + 1, by omega, by go_num, congrArg (Value.int .i64) (by have := Hk.out; omega), H1.out, H2.out⟩
        case measure => simp [intOf]; omega
      · have e0 : mtB kk = false := by unfold mtB; exact decide_eq_false hm
        have e1 : ((kk : Int).tmod 3 == 0) = false := by rw [Int.tmod_eq_emod_of_nonneg (by omega)]; simp; omega
        have e2 : ((kk : Int) % 3 == 0) = false := by simp; omega
        rw [e0] at H1 H2
        clear hm e0
        go_wp2
        go_roundw
        case rel => exact ⟨j + 1, by omega, by go_num, congrArg (Value.int .i64) (by have := Hk.out; omega), H1.out, H2.out⟩
        case measure => simp [intOf]; omega
    · obtain rfl : j = n := by omega
      have H1 := Lib.hid hown
      have H2 := Lib.hid hfr
      clear hown hfr h
      go_wp2
      go_ret
      exact ⟨rfl, H1.out, H2.out⟩
theorem Own.markedB {w : World} {lo hi n c : Nat} {e : TypeId} {A : Option Addr} {k : Nat} {x : Nat → Bool} (h : Own w lo hi e 1 A n c (mksB k x n)) : Own w lo hi e 1 A n c (bols fun j => mtB (k + j)) :=
  h.congr (fun j hj => by unfold mksB bols; dsimp only; rw [if_pos (by omega)])

set_option maxHeartbeats 1000000 in
theorem heldBoolS_yes (A : Option Addr) (n c : Nat) (k : Nat) (w : World) (B : Nat) (h : RdV w B A n c (bols fun j => mtB (k + j))) (hB : B ≤ w.heap.size) (hk1 : k + n ≤ 1073741824) :
    Calls Tryz.prog 28 #[.slice A n c, .int .i64 k] w fun e w' => e = .returned (.int .i64 (k + n)) ∧ Below w.heap.size w w' := by
  go_enter Tryz.func28, Tryz.ntmps28
  go_wp2
  go_loopw [1, 5] (fun kk i wr => ∃ j : Nat, j ≤ n ∧ i = .int .i64 j ∧ kk = .int .i64 (k + j) ∧ Below w.heap.size w wr) (fun _ i _ => n - (intOf i).toNat)
  case atStart => exact ⟨0, Nat.zero_le _, rfl, by go_num, Below.refl _ _⟩
  case round =>
    obtain ⟨j, hj, rfl, rfl, hbr⟩ := hrel
    by_cases hlt : j < n
    · obtain ⟨b, o, rfl, l, hc⟩ := h.2 (by omega)
      have f1 : wr.cell? ⟨b, o + j, none⟩ = some (.bool (mtB (k + j))) := (hbr.cell (p := ⟨b, o + j, none⟩) (by show b < _; omega)).trans (hc j hlt)
      obtain ⟨kk, hkk⟩ : ∃ kk : Nat, kk = k + j := ⟨_, rfl⟩
      have ek : (k : Int) + j = (kk : Int) := by omega
      rw [ek]
      rw [← hkk] at f1
      have Hk := Lib.hid hkk
      have k1 : kk ≤ 1073741824 := by omega
      have hi : (j : Int) < (n : Int) := by omega
      have hz := hbr.size
      clear hc h ek hkk
      by_cases hm : kk % 3 = 0
      · have e0 : mtB kk = true := by unfold mtB; rw [hm]; rfl
        have e1 : ((kk : Int).tmod 3 == 0) = true := by rw [Int.tmod_eq_emod_of_nonneg (by omega)]; simp; omega
        have e2 : ((kk : Int) % 3 == 0) = true := by simp; omega
        rw [e0] at f1
        clear hm e0
        go_wp2
        try go_quiet (fail)
        try go_wp2
        go_roundw
        case rel => exact ⟨j + 1, by omega, by go_num, congrArg (Value.int .i64) (by have := Hk.out; omega), by first | exact hbr | exact below_drewN hbr _⟩
        case measure => simp [intOf]; omega
      · have e0 : mtB kk = false := by unfold mtB; exact decide_eq_false hm
        have e1 : ((kk : Int).tmod 3 == 0) = false := by rw [Int.tmod_eq_emod_of_nonneg (by omega)]; simp; omega
        have e2 : ((kk : Int) % 3 == 0) = false := by simp; omega
        rw [e0] at f1
        clear hm e0
        go_wp2
        try go_quiet (fail)
        try go_wp2
        go_roundw
        case rel => exact ⟨j + 1, by omega, by go_num, congrArg (Value.int .i64) (by have := Hk.out; omega), by first | exact hbr | exact below_drewN hbr _⟩
        case measure => simp [intOf]; omega
    · obtain rfl : j = n := by omega
      have HB := Lib.hid hbr
      clear hbr h
      go_wp2
      go_ret
      exact ⟨rfl, HB.out⟩
end Go.Proofs.YtdpkbfiggbcclaaGreat

/-
  The contracts of MembershipOf and FirstLoss in the words of the law.
-/
namespace Go.Proofs.YtdpkbfiggbcclaaGreat
open Go.RowKit

theorem meL_le (s1 : Int) (m1 : Nat) (x1 : Nat → Int) (m2 : Nat) (a2 : Nat → Bool) (v2 u2 : Nat → Int) (s : List UInt8) : (meL s1 m1 x1 m2 a2 v2 u2 s).length ≤ 13 := meL_len
section
variable (s1 : Int) (A1 : Option Addr) (m1 c1 : Nat) (x1 : Nat → Int) (A2 : Option Addr) (m2 c2 : Nat) (a2 : Nat → Bool) (v2 u2 : Nat → Int) (t3 : ByteArray) (w : World) (B : Nat)
theorem MembershipOf_iL (h1 : Rd w B A1 m1 c1 x1) (h2 : RdE w B A2 m2 c2 a2 v2 u2) (hB : B ≤ w.heap.size) (hm1 : m1 ≤ 1048576) (hm2 : m2 ≤ 1048576) (_ : t3.size ≤ 1048576) :
    Calls Tryz.prog 25 #[.agg #[.int .i64 s1, .slice A1 m1 c1], .slice A2 m2 c2, .string t3] w fun e w' => ∃ A' c', e = .returned (.slice A' (meL s1 m1 x1 m2 a2 v2 u2 t3.toList).length c') ∧ Own w' w.heap.size w'.heap.size 4 1 A' (meL s1 m1 x1 m2 a2 v2 u2 t3.toList).length c' (bols fun j => (meL s1 m1 x1 m2 a2 v2 u2 t3.toList).getD j false) ∧ Below w.heap.size w w' :=
  MembershipOf_i s1 A1 m1 c1 x1 A2 m2 c2 a2 v2 u2 t3 w ⟨h1.keep (Below.refl _ _) hB⟩ ⟨h2.keep (Below.refl _ _) hB⟩ hm1 hm2
theorem FirstLoss_iL (h1 : Rd w B A1 m1 c1 x1) (h2 : RdE w B A2 m2 c2 a2 v2 u2) (hB : B ≤ w.heap.size) (hm1 : m1 ≤ 1048576) (hm2 : m2 ≤ 1048576) (_ : t3.size ≤ 1048576) :
    Calls Tryz.prog 23 #[.agg #[.int .i64 s1, .slice A1 m1 c1], .slice A2 m2 c2, .string t3] w fun e w' => e = .returned (.int .i64 (flI (meL s1 m1 x1 m2 a2 v2 u2 t3.toList))) ∧ Below w.heap.size w w' :=
  FirstLoss_i s1 A1 m1 c1 x1 A2 m2 c2 a2 v2 u2 t3 w ⟨h1.keep (Below.refl _ _) hB⟩ ⟨h2.keep (Below.refl _ _) hB⟩ hm1 hm2
theorem MembershipOf_sL (h1 : Rd w B A1 m1 c1 x1) (h2 : RdE w B A2 m2 c2 a2 v2 u2) (hB : B ≤ w.heap.size) (hm1 : m1 ≤ 1048576) (hm2 : m2 ≤ 1048576) (_ : t3.size ≤ 1048576) :
    Calls Tryz.prog 24 #[.agg #[.int .i64 s1, .slice A1 m1 c1], .slice A2 m2 c2, .string t3] w fun e w' => ∃ A' c', e = .returned (.slice A' (meL s1 m1 x1 m2 a2 v2 u2 t3.toList).length c') ∧ Own w' w.heap.size w'.heap.size 4 1 A' (meL s1 m1 x1 m2 a2 v2 u2 t3.toList).length c' (bols fun j => (meL s1 m1 x1 m2 a2 v2 u2 t3.toList).getD j false) ∧ Below w.heap.size w w' :=
  MembershipOf_s s1 A1 m1 c1 x1 A2 m2 c2 a2 v2 u2 t3 w ⟨h1.keep (Below.refl _ _) hB⟩ ⟨h2.keep (Below.refl _ _) hB⟩ hm1 hm2
theorem FirstLoss_sL (h1 : Rd w B A1 m1 c1 x1) (h2 : RdE w B A2 m2 c2 a2 v2 u2) (hB : B ≤ w.heap.size) (hm1 : m1 ≤ 1048576) (hm2 : m2 ≤ 1048576) (_ : t3.size ≤ 1048576) :
    Calls Tryz.prog 21 #[.agg #[.int .i64 s1, .slice A1 m1 c1], .slice A2 m2 c2, .string t3] w fun e w' => e = .returned (.int .i64 (flI (meL s1 m1 x1 m2 a2 v2 u2 t3.toList))) ∧ Below w.heap.size w w' :=
  FirstLoss_s s1 A1 m1 c1 x1 A2 m2 c2 a2 v2 u2 t3 w ⟨h1.keep (Below.refl _ _) hB⟩ ⟨h2.keep (Below.refl _ _) hB⟩ hm1 hm2
end
end Go.Proofs.YtdpkbfiggbcclaaGreat
