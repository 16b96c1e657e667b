/-
  Several texts in one.
-/
import Derived.Test.YtncjfgebolikoaaQsV
import Derived.Test.YtncjfgebolikoaaQsGivP
import Derived.Test.YtncjfgebolikoaaQsGL
/-
  Contract: has a valid graph an edge between two of its vertices? (the reference's HasEdge)
-/
namespace Go.Proofs.Ytncjfgebolikoaa
open Go.RowKit
section
variable {A : Option Addr} {m c : Nat} {r : Nat → Nat} {w : World}
set_option maxHeartbeats 1000000 in
theorem HasEdge_sv (h : GV w A m c r) {v u : Nat} (hv : v < m) (hu : u < m) :
    Calls Try.prog 14 #[.agg #[.int .i64 m, .slice A m c], .int .i64 v, .int .i64 u] w fun e w' => e = .returned (.bool ((r v).testBit u)) ∧ Below w.heap.size w w' := by
  obtain ⟨t, ht⟩ : ∃ t, t = (r v).testBit u := ⟨_, rfl⟩
  have KE : Hid (∀ z A' c', GV z A' m c' r → Calls Try.prog 43 #[.agg #[.int .i64 m, .slice A' m c'], .int .i64 v, .int .i64 u] z fun e w' => e = .returned (.bool t) ∧ Below z.heap.size z w') := fun z A' c' h => by rw [ht]; exact l2Edge_v h hv hu
  rw [← ht]
  clear ht
  have i1 : (v : Int) < (m : Int) := by omega
  have i2 : (u : Int) < (m : Int) := by omega
  obtain ⟨W, hW⟩ : ∃ W : World, W = (w.alloc (Obj.cells #[Value.int IntKind.i64 m, Value.slice A m c] 26)) := ⟨_, rfl⟩
  have HB : Hid (From w W) := by rw [hW]; exact From.alloc _ _
  have HG : Hid (GBox W w.heap.size A m c r) := by rw [hW]; exact h.box
  have HW := Lib.hid hW
  clear hW h
  have e0 := HG.out.c0
  have e1 := HG.out.c1
  go_enter Try.func14, Try.ntmps14
  go_wp2_with fail
  rw [← HW.out]
  refine (IsGraph_sv HG.out.gv).mono ?_
  rintro e w1 ⟨rfl, hb1⟩
  clear HW
  clear e0 e1
  replace HB := Lib.hid (HB.out.keep hb1)
  replace HG := Lib.hid (HG.out.keep hb1)
  clear hb1
  have e0 := HG.out.c0
  have e1 := HG.out.c1
  go_wp2_with fail
  refine (KE.out _ _ _ HG.out.gv).mono ?_
  rintro e w2 ⟨rfl, hb2⟩
  clear e0 e1
  replace HB := Lib.hid (HB.out.keep hb2)
  replace HG := Lib.hid (HG.out.keep hb2)
  clear hb2
  have e0 := HG.out.c0
  have e1 := HG.out.c1
  go_wp2
  go_ret
  exact ⟨rfl, HB.out.below⟩
end
end Go.Proofs.Ytncjfgebolikoaa

/-
  Contracts: are two lists of integers the same, are two lists of such lists the same? The law file's tests.
-/
namespace Go.Proofs.Ytncjfgebolikoaa
open Go.RowKit

set_option maxHeartbeats 1000000 in
theorem sameInts_any (A1 A2 : Option Addr) (n1 n2 c1 c2 : Nat) (x1 x2 : Nat → Int) (w : World) (B : Nat) (h1 : Rd w B A1 n1 c1 x1) (h2 : Rd w B A2 n2 c2 x2) (hB : B ≤ w.heap.size) (hn1 : n1 ≤ 1073741824) (hn2 : n2 ≤ 1073741824) :
    Calls Try.prog 12 #[.slice A1 n1 c1, .slice A2 n2 c2] w fun e w' => e = .returned (.bool (sl n1 x1 n2 x2)) ∧ Below w.heap.size w w' := by
  by_cases hne : n1 = n2
  rotate_left
  · have e := Lib.hid (sl_len (x := x1) (y := x2) hne)
    have hne' : (n1 : Int) ≠ (n2 : Int) := by omega
    go_enter Try.func12, Try.ntmps12
    go_wp2
    go_ret
    exact ⟨ret_bool e.out.symm, Below.refl _ _⟩
  subst hne
  have H1 := Lib.hid h1
  have H2 := Lib.hid h2
  clear h1 h2
  go_enter Try.func12, Try.ntmps12
  go_wp2
  go_loopw [5] (fun i wr => ∃ k : Nat, k ≤ n1 ∧ i = .int .i64 k ∧ Hid (∀ j, j < k → x1 j = x2 j) ∧ Below w.heap.size w wr) (fun i _ => n1 - (intOf i).toNat)
  case atStart => exact ⟨0, Nat.zero_le _, rfl, (fun j hj => absurd hj (by omega)), Below.refl _ _⟩
  case round =>
    obtain ⟨k, hk, rfl, hall, hbr⟩ := hrel
    by_cases hlt : k < n1
    · obtain ⟨b1, o1, rfl, l1, c1'⟩ := H1.out.pos (by omega)
      obtain ⟨b2, o2, rfl, l2, c2'⟩ := H2.out.pos (by omega)
      have f1 := (hbr.cell (p := ⟨b1, o1 + k, none⟩) (by show b1 < _; omega)).trans (c1' k hlt)
      have f2 := (hbr.cell (p := ⟨b2, o2 + k, none⟩) (by show b2 < _; omega)).trans (c2' k hlt)
      have hi : (k : Int) < (n1 : Int) := by omega
      clear c1' c2'
      by_cases hq : x1 k = x2 k
      · have HB := Lib.hid hbr
        have Hq := Lib.hid hq
        rw [← hq] at f2
        clear hbr hq
        go_wp2
        go_quiet (fail)
        go_wp2
        go_roundw
        case rel =>
          refine ⟨k + 1, by omega, by go_num, fun j hj => ?_, below_drewN HB.out _⟩
          by_cases hjk : j < k
          · exact hall.out j hjk
          · obtain rfl : j = k := by omega
            exact Hq.out
        case measure => simp [intOf]; omega
      · have HB := Lib.hid hbr
        have e := Lib.hid (sl_no hlt hq)
        clear hbr
        go_wp2
        go_quiet (fail)
        go_wp2
        go_ret
        exact ⟨ret_bool e.out.symm, below_drewN HB.out _⟩
    · have hge : (n1 : Int) ≤ (k : Int) := by omega
      have HB := Lib.hid hbr
      have e := Lib.hid (sl_yes (n := n1) (x := x1) (y := x2) fun j hj => hall.out j (by omega))
      clear hbr
      go_wp2
      go_ret
      exact ⟨ret_bool e.out.symm, HB.out⟩

end Go.Proofs.Ytncjfgebolikoaa
