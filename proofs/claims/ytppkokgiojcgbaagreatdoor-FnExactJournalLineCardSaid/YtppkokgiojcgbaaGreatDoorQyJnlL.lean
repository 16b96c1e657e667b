/-
  Several texts in one.
-/
import Derived.Test.YtppkokgiojcgbaaGreatDoorQyJnlS
import Derived.Test.YtppkokgiojcgbaaGreatDoorQyUmbP
import Derived.Test.YtppkokgiojcgbaaGreatDoorRows
import Derived.Test.YtppkokgiojcgbaaGreatDoorQyGA
import Derived.Deep.RegionHeld3
import Derived.Deep.QuietTactic
import Derived.BigQuiet
/-
  Contracts: the first edit that leads out of a class (both sides).
-/
namespace Go.Proofs.YtppkokgiojcgbaaGreatDoor
open Go.RowKit

/-- Is the i-th edit a loss? -/
def flP (l : List Bool) (i : Nat) : Bool := l.getD i false && !l.getD (i + 1) false
def flO (l : List Bool) : Option Nat := lsK (flP l) (l.length - 1)
def flI (l : List Bool) : Int := match flO l with | none => -1 | some k => (k : Int)
theorem flI_some {l : List Bool} {k : Nat} (h : flO l = some k) : flI l = (k : Int) := by unfold flI; rw [h]
theorem flI_none {l : List Bool} (h : flO l = none) : flI l = -1 := by unfold flI; rw [h]
set_option maxRecDepth 100000 in
set_option maxHeartbeats 3200000 in
theorem FirstLoss_i (sz : Int) (A : Option Addr) (m c : Nat) (x : Nat → Int) (Al : Option Addr) (n cl : Nat) (a : Nat → Bool) (v u : Nat → Int) (str : ByteArray) (w : World) (h : GA w A m c x) (hl : ED w Al n cl a v u) (hm : m ≤ 1048576) (hn : n ≤ 1048576) :
    Calls Tryz.prog 29 #[.agg #[.int .i64 sz, .slice A m c], .slice Al n cl, .string str] w fun e w' => e = .returned (.int .i64 (flI (meL sz m x n a v u str.toList))) ∧ Below w.heap.size w w' := by
  obtain ⟨W, hW⟩ : ∃ W : World, W = (w.alloc (Obj.cells #[Value.int IntKind.i64 sz, Value.slice A m c] 29)) := ⟨_, rfl⟩
  have HB : Hid (From w W) := by rw [hW]; exact From.alloc _ _
  have HC : Hid (GC W w.heap.size sz A m c) := by rw [hW]; exact GC.new _ _ _ _ _
  have HW := Lib.hid hW
  have KM := Lib.hid (MembershipOf_i sz A m c x Al n cl a v u str W (h.keep HB.out.below) (hl.keep HB.out.below) hm hn)
  have hl13 := meL_len (sz := sz) (m := m) (x := x) (n := n) (a := a) (v := v) (u := u) (s := str.toList)
  obtain ⟨l, hlq⟩ : ∃ l, l = meL sz m x n a v u str.toList := ⟨_, rfl⟩
  rw [← hlq] at KM hl13 ⊢
  clear hW h hl hlq
  go_enter Tryz.func29, Tryz.ntmps29
  have e0 := HC.out.c0
  have e1 := HC.out.c1
  go_wp2_with fail
  rw [← HW.out]
  clear HW
  refine KM.out.mono ?_
  rintro e w1 ⟨A1, c1, rfl, ho1, hb1⟩
  have HO1 := Lib.hid ho1
  clear e0 e1
  replace HB := Lib.hid (HB.out.keep hb1)
  replace HC := Lib.hid (HC.out.keep hb1)
  clear hb1 ho1 KM
  have e0 := HC.out.c0
  have e1 := HC.out.c1
  go_wp2
  go_loopw [8] (fun i wr => ∃ k : Nat, k ≤ l.length ∧ i = .int .i64 ((k + 1 : Nat) : Int) ∧ Hid (∀ j, j < k → flP l j = false) ∧ wr = w1) (fun i _ => l.length + 3 - (intOf i).toNat)
  case atStart => exact ⟨0, Nat.zero_le _, rfl, (fun j hj => absurd hj (by omega)), by first | rfl | trivial⟩
  case round =>
    obtain ⟨k, hk, rfl, hall, rfl⟩ := hrel
    by_cases hlt : k + 1 < l.length
    · obtain ⟨g, rfl, _, _, _, hc, _⟩ := HO1.out.at_ (by omega)
      have p0 := hc k (by omega)
      have p1 := hc (k + 1) (by omega)
      obtain ⟨b0, hb0⟩ : ∃ b, b = l.getD k false := ⟨_, rfl⟩
      obtain ⟨b1, hb1⟩ : ∃ b, b = l.getD (k + 1) false := ⟨_, rfl⟩
      have q0 : wr.cell? ⟨g, k, none⟩ = some (.bool b0) := by rw [p0, hb0]; rfl
      have q1 : wr.cell? ⟨g, k + 1, none⟩ = some (.bool b1) := by rw [p1, hb1]; rfl
      have Hd : Hid (flP l k = (b0 && !b1)) := by show _ = _; rw [hb0, hb1]; rfl
      have i1 : ((k + 1 : Nat) : Int) < (l.length : Int) := by omega
      have i2 : (k : Int) < (l.length : Int) := by omega
      have i3 : (k : Int) + 1 < (l.length : Int) := by omega
      have w0 : wrap64 (((k + 1 : Nat) : Int) - 1) = (k : Int) := by rw [Go.IntWalk.wrap64_in _ (by omega)]; omega
      have w2 : ((k : Int) + 1).toNat = k + 1 := by omega
      have w3 : (k : Int) + 1 - 1 = (k : Int) := by omega
      clear p0 p1 hc hb0 hb1
      cases b0
      · have Hn := Lib.hid (Hd.out.trans (Bool.false_and _))
        clear Hd
        go_wp2
        go_roundw
        case rel =>
          refine ⟨k + 1, by omega, by go_num, fun j hj => ?_, by first | rfl | trivial⟩
          by_cases hjk : j < k
          · exact hall.out j hjk
          · obtain rfl : j = k := by omega
            exact Hn.out
        case measure => (simp [intOf] <;> omega)
      · cases b1
        · have Hn : Hid (flI l = (k : Int)) := flI_some (lsK_yes (by omega) (Hd.out.trans rfl) hall.out)
          clear Hd
          go_wp2
          go_ret
          exact ⟨ret_int Hn.out.symm, HB.out.below⟩
        · have Hn : Hid (flP l k = false) := Hd.out.trans rfl
          clear Hd
          go_wp2
          go_roundw
          case rel =>
            refine ⟨k + 1, by omega, by go_num, fun j hj => ?_, by first | rfl | trivial⟩
            by_cases hjk : j < k
            · exact hall.out j hjk
            · obtain rfl : j = k := by omega
              exact Hn.out
          case measure => (simp [intOf] <;> omega)
    · have Hn : Hid (flI l = -1) := flI_none (lsK_no fun j hj => hall.out j (by omega))
      have i1 : (l.length : Int) ≤ ((k + 1 : Nat) : Int) := by omega
      have i2 : (l.length : Int) ≤ (k : Int) + 1 := by omega
      go_wp2
      go_ret
      exact ⟨ret_int Hn.out.symm, HB.out.below⟩
set_option maxRecDepth 100000 in
set_option maxHeartbeats 3200000 in
theorem FirstLoss_s (sz : Int) (A : Option Addr) (m c : Nat) (x : Nat → Int) (Al : Option Addr) (n cl : Nat) (a : Nat → Bool) (v u : Nat → Int) (str : ByteArray) (w : World) (h : GA w A m c x) (hl : ED w Al n cl a v u) (hm : m ≤ 1048576) (hn : n ≤ 1048576) :
    Calls Tryz.prog 30 #[.agg #[.int .i64 sz, .slice A m c], .slice Al n cl, .string str] w fun e w' => e = .returned (.int .i64 (flI (meL sz m x n a v u str.toList))) ∧ Below w.heap.size w w' := by
  obtain ⟨W, hW⟩ : ∃ W : World, W = (w.alloc (Obj.cells #[Value.int IntKind.i64 sz, Value.slice A m c] 29)) := ⟨_, rfl⟩
  have HB : Hid (From w W) := by rw [hW]; exact From.alloc _ _
  have HC : Hid (GC W w.heap.size sz A m c) := by rw [hW]; exact GC.new _ _ _ _ _
  have HW := Lib.hid hW
  have KM := Lib.hid (MembershipOf_s sz A m c x Al n cl a v u str W (h.keep HB.out.below) (hl.keep HB.out.below) hm hn)
  have hl13 := meL_len (sz := sz) (m := m) (x := x) (n := n) (a := a) (v := v) (u := u) (s := str.toList)
  obtain ⟨l, hlq⟩ : ∃ l, l = meL sz m x n a v u str.toList := ⟨_, rfl⟩
  rw [← hlq] at KM hl13 ⊢
  clear hW h hl hlq
  go_enter Tryz.func30, Tryz.ntmps30
  have e0 := HC.out.c0
  have e1 := HC.out.c1
  go_wp2_with fail
  rw [← HW.out]
  clear HW
  refine KM.out.mono ?_
  rintro e w1 ⟨A1, c1, rfl, ho1, hb1⟩
  have HO1 := Lib.hid ho1
  clear e0 e1
  replace HB := Lib.hid (HB.out.keep hb1)
  replace HC := Lib.hid (HC.out.keep hb1)
  clear hb1 ho1 KM
  have e0 := HC.out.c0
  have e1 := HC.out.c1
  go_wp2
  go_loopw [8] (fun i wr => ∃ k : Nat, k ≤ l.length ∧ i = .int .i64 ((k + 1 : Nat) : Int) ∧ Hid (∀ j, j < k → flP l j = false) ∧ wr = w1) (fun i _ => l.length + 3 - (intOf i).toNat)
  case atStart => exact ⟨0, Nat.zero_le _, rfl, (fun j hj => absurd hj (by omega)), by first | rfl | trivial⟩
  case round =>
    obtain ⟨k, hk, rfl, hall, rfl⟩ := hrel
    by_cases hlt : k + 1 < l.length
    · obtain ⟨g, rfl, _, _, _, hc, _⟩ := HO1.out.at_ (by omega)
      have p0 := hc k (by omega)
      have p1 := hc (k + 1) (by omega)
      obtain ⟨b0, hb0⟩ : ∃ b, b = l.getD k false := ⟨_, rfl⟩
      obtain ⟨b1, hb1⟩ : ∃ b, b = l.getD (k + 1) false := ⟨_, rfl⟩
      have q0 : wr.cell? ⟨g, k, none⟩ = some (.bool b0) := by rw [p0, hb0]; rfl
      have q1 : wr.cell? ⟨g, k + 1, none⟩ = some (.bool b1) := by rw [p1, hb1]; rfl
      have Hd : Hid (flP l k = (b0 && !b1)) := by show _ = _; rw [hb0, hb1]; rfl
      have i1 : ((k + 1 : Nat) : Int) < (l.length : Int) := by omega
      have i2 : (k : Int) < (l.length : Int) := by omega
      have i3 : (k : Int) + 1 < (l.length : Int) := by omega
      have w0 : wrap64 (((k + 1 : Nat) : Int) - 1) = (k : Int) := by rw [Go.IntWalk.wrap64_in _ (by omega)]; omega
      have w2 : ((k : Int) + 1).toNat = k + 1 := by omega
      have w3 : (k : Int) + 1 - 1 = (k : Int) := by omega
      clear p0 p1 hc hb0 hb1
      cases b0
      · have Hn := Lib.hid (Hd.out.trans (Bool.false_and _))
        clear Hd
        go_wp2
        go_roundw
        case rel =>
          refine ⟨k + 1, by omega, by go_num, fun j hj => ?_, by first | rfl | trivial⟩
          by_cases hjk : j < k
          · exact hall.out j hjk
          · obtain rfl : j = k := by omega
            exact Hn.out
        case measure => (simp [intOf] <;> omega)
      · cases b1
        · have Hn : Hid (flI l = (k : Int)) := flI_some (lsK_yes (by omega) (Hd.out.trans rfl) hall.out)
          clear Hd
          go_wp2
          go_ret
          exact ⟨ret_int Hn.out.symm, HB.out.below⟩
        · have Hn : Hid (flP l k = false) := Hd.out.trans rfl
          clear Hd
          go_wp2
          go_roundw
          case rel =>
            refine ⟨k + 1, by omega, by go_num, fun j hj => ?_, by first | rfl | trivial⟩
            by_cases hjk : j < k
            · exact hall.out j hjk
            · obtain rfl : j = k := by omega
              exact Hn.out
          case measure => (simp [intOf] <;> omega)
    · have Hn : Hid (flI l = -1) := flI_none (lsK_no fun j hj => hall.out j (by omega))
      have i1 : (l.length : Int) ≤ ((k + 1 : Nat) : Int) := by omega
      have i2 : (l.length : Int) ≤ (k : Int) + 1 := by omega
      go_wp2
      go_ret
      exact ⟨ret_int Hn.out.symm, HB.out.below⟩
end Go.Proofs.YtppkokgiojcgbaaGreatDoor

/-
  Contracts of the law's helpers on slices of bools.
-/
namespace Go.Proofs.YtppkokgiojcgbaaGreatDoor
open Go.RowKit

/-- Bools as cells. -/
def bols (x : Nat → Bool) : Nat → Value := fun j => .bool (x j)
end Go.Proofs.YtppkokgiojcgbaaGreatDoor

/-
  The contracts of MembershipOf and FirstLoss in the words of the law.
-/
namespace Go.Proofs.YtppkokgiojcgbaaGreatDoor
open Go.RowKit

section
variable (s1 : Int) (A1 : Option Addr) (m1 c1 : Nat) (x1 : Nat → Int) (A2 : Option Addr) (m2 c2 : Nat) (a2 : Nat → Bool) (v2 u2 : Nat → Int) (t3 : ByteArray) (w : World) (B : Nat)
theorem MembershipOf_iL (h1 : Rd w B A1 m1 c1 x1) (h2 : RdE w B A2 m2 c2 a2 v2 u2) (hB : B ≤ w.heap.size) (hm1 : m1 ≤ 1048576) (hm2 : m2 ≤ 1048576) (_ : t3.size ≤ 1048576) :
    Calls Tryz.prog 26 #[.agg #[.int .i64 s1, .slice A1 m1 c1], .slice A2 m2 c2, .string t3] w fun e w' => ∃ A' c', e = .returned (.slice A' (meL s1 m1 x1 m2 a2 v2 u2 t3.toList).length c') ∧ Own w' w.heap.size w'.heap.size 4 1 A' (meL s1 m1 x1 m2 a2 v2 u2 t3.toList).length c' (bols fun j => (meL s1 m1 x1 m2 a2 v2 u2 t3.toList).getD j false) ∧ Below w.heap.size w w' :=
  MembershipOf_i s1 A1 m1 c1 x1 A2 m2 c2 a2 v2 u2 t3 w ⟨h1.keep (Below.refl _ _) hB⟩ ⟨h2.keep (Below.refl _ _) hB⟩ hm1 hm2
theorem FirstLoss_iL (h1 : Rd w B A1 m1 c1 x1) (h2 : RdE w B A2 m2 c2 a2 v2 u2) (hB : B ≤ w.heap.size) (hm1 : m1 ≤ 1048576) (hm2 : m2 ≤ 1048576) (_ : t3.size ≤ 1048576) :
    Calls Tryz.prog 29 #[.agg #[.int .i64 s1, .slice A1 m1 c1], .slice A2 m2 c2, .string t3] w fun e w' => e = .returned (.int .i64 (flI (meL s1 m1 x1 m2 a2 v2 u2 t3.toList))) ∧ Below w.heap.size w w' :=
  FirstLoss_i s1 A1 m1 c1 x1 A2 m2 c2 a2 v2 u2 t3 w ⟨h1.keep (Below.refl _ _) hB⟩ ⟨h2.keep (Below.refl _ _) hB⟩ hm1 hm2
theorem MembershipOf_sL (h1 : Rd w B A1 m1 c1 x1) (h2 : RdE w B A2 m2 c2 a2 v2 u2) (hB : B ≤ w.heap.size) (hm1 : m1 ≤ 1048576) (hm2 : m2 ≤ 1048576) (_ : t3.size ≤ 1048576) :
    Calls Tryz.prog 27 #[.agg #[.int .i64 s1, .slice A1 m1 c1], .slice A2 m2 c2, .string t3] w fun e w' => ∃ A' c', e = .returned (.slice A' (meL s1 m1 x1 m2 a2 v2 u2 t3.toList).length c') ∧ Own w' w.heap.size w'.heap.size 4 1 A' (meL s1 m1 x1 m2 a2 v2 u2 t3.toList).length c' (bols fun j => (meL s1 m1 x1 m2 a2 v2 u2 t3.toList).getD j false) ∧ Below w.heap.size w w' :=
  MembershipOf_s s1 A1 m1 c1 x1 A2 m2 c2 a2 v2 u2 t3 w ⟨h1.keep (Below.refl _ _) hB⟩ ⟨h2.keep (Below.refl _ _) hB⟩ hm1 hm2
theorem FirstLoss_sL (h1 : Rd w B A1 m1 c1 x1) (h2 : RdE w B A2 m2 c2 a2 v2 u2) (hB : B ≤ w.heap.size) (hm1 : m1 ≤ 1048576) (hm2 : m2 ≤ 1048576) (_ : t3.size ≤ 1048576) :
    Calls Tryz.prog 30 #[.agg #[.int .i64 s1, .slice A1 m1 c1], .slice A2 m2 c2, .string t3] w fun e w' => e = .returned (.int .i64 (flI (meL s1 m1 x1 m2 a2 v2 u2 t3.toList))) ∧ Below w.heap.size w w' :=
  FirstLoss_s s1 A1 m1 c1 x1 A2 m2 c2 a2 v2 u2 t3 w ⟨h1.keep (Below.refl _ _) hB⟩ ⟨h2.keep (Below.refl _ _) hB⟩ hm1 hm2
end
end Go.Proofs.YtppkokgiojcgbaaGreatDoor
