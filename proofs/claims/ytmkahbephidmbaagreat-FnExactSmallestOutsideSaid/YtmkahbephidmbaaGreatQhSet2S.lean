/-
  Several texts in one: words for memory, plain laws and contracts that the later texts lean on.
-/
import Derived.Test.YtmkahbephidmbaaGreatQhRedP
/-
  Contracts: is a number a set of a graph's vertices? is it a clique, independent, dominating, a packing? The program's tests.
-/
namespace Go.Proofs.YtmkahbephidmbaaGreat
open Go.RowKit

/-- A graph argument that may not be valid. -/
structure GA (w : World) (A : Option Addr) (m c : Nat) (x : Nat → Int) : Prop where
  rd : Rd w w.heap.size A m c x
theorem GA.keep {w w' : World} {A : Option Addr} {m c : Nat} {x : Nat → Int} (h : GA w A m c x) (hb : Below w.heap.size w w') : GA w' A m c x := ⟨h.rd.keep hb hb.size⟩
theorem GA.gv {w : World} {A : Option Addr} {m c : Nat} {x : Nat → Int} (h : GA w A m c x) (hok : okB m m x = true) : GV w A m c (rw_ x) := GV.of h.rd (Nat.le_refl _) hok
theorem GV.ga {w : World} {A : Option Addr} {m c : Nat} {r : Nat → Nat} (h : GV w A m c r) : GA w A m c (fun v => (r v : Int)) := ⟨h.rd⟩

set_option maxHeartbeats 1000000 in
theorem IsSet_i (sz : Int) (A : Option Addr) (m c : Nat) (x : Nat → Int) (s : Int) (w : World) (h : GA w A m c x) (hm : m ≤ 1048576) :
    Calls Tryz.prog 181 #[.agg #[.int .i64 sz, .slice A m c], .int .i64 s] w fun e w' => e = .returned (.bool (setB sz m x s)) ∧ Below w.heap.size w w' := by
  obtain ⟨W, hW⟩ : ∃ W : World, W = (w.alloc (Obj.cells #[Value.int IntKind.i64 sz, Value.slice A m c] 30)) := ⟨_, rfl⟩
  have HB : Hid (From w W) := by rw [hW]; exact From.alloc _ _
  have HK := Lib.hid (h.keep HB.out.below)
  have HC : Hid (GC W w.heap.size sz A m c) := by rw [hW]; exact GC.new _ _ _ _ _
  have HW := Lib.hid hW
  clear hW h
  go_enter Tryz.func181, Tryz.ntmps181
  have e0 := HC.out.c0
  have e1 := HC.out.c1
  go_wp2_with fail
  rw [← HW.out]
  refine (IsGraph_any sz A m c x W W.heap.size HK.out.rd (Nat.le_refl _) hm).mono ?_
  rintro e w1 ⟨rfl, hb1⟩
  clear HW
  clear e0 e1
  replace HB := Lib.hid (HB.out.keep hb1)
  replace HK := Lib.hid (HK.out.keep hb1)
  replace HC := Lib.hid (HC.out.keep hb1)
  clear hb1
  have e0 := HC.out.c0
  have e1 := HC.out.c1
  cases ho : okB sz m x
  · have hno : Hid (setB sz m x s = false) := by show _ = _; unfold setB; rw [ho]; rfl
    clear ho
    go_wp2
    go_ret
    exact ⟨ret_bool hno.out.symm, HB.out.below⟩
  · obtain ⟨_, es, vg0, _⟩ := okB_ok' ho
    subst es
    have hn7 := vg0.n7
    have hp := two_pow_le hn7
    have hpos := Nat.two_pow_pos m
    have hpc := pow_cast m
    have Ho := Lib.hid ho
    clear ho vg0
    go_wp2_with fail
    refine (all_any m A c _ hn7).mono ?_
    rintro e w2 ⟨rfl, hb2⟩
    clear e0 e1
    replace HB := Lib.hid (HB.out.keep hb2)
    replace HK := Lib.hid (HK.out.keep hb2)
    replace HC := Lib.hid (HC.out.keep hb2)
    clear hb2
    have e0 := HC.out.c0
    have e1 := HC.out.c1
    by_cases hs : 0 ≤ s ∧ s < 2 ^ m
    · have hyes : Hid (setB (m : Int) m x s = true) := by show _ = _; unfold setB; rw [Ho.out, decide_eq_true hs]; rfl
      obtain ⟨s1, s2⟩ := hs
      go_wp2_with (first | (go_at_call 111; refine (within_yes _ _ _ _ s1 (by omega)).mono ?_; rintro e w' ⟨rfl, rfl⟩))
      go_ret
      exact ⟨ret_bool hyes.out.symm, HB.out.below⟩
    · have hno : Hid (setB (m : Int) m x s = false) := setB_out (by omega)
      have hr : Hid (s < 0 ∨ ((2 ^ m - 1 : Nat) : Int) < s) := by show _ ∨ _; omega
      clear hs
      go_wp2_with (first | (go_at_call 111; refine (within_no _ _ _ _ hr.out).mono ?_; rintro e w' ⟨rfl, rfl⟩))
      go_ret
      exact ⟨ret_bool hno.out.symm, HB.out.below⟩

section
variable {A : Option Addr} {m c : Nat} {r : Nat → Nat}
theorem IsSet_v {w : World} (h : GV w A m c r) {s : Nat} (hs : s < 2 ^ m) :
    Calls Tryz.prog 181 #[.agg #[.int .i64 m, .slice A m c], .int .i64 s] w fun e w' => e = .returned (.bool true) ∧ Below w.heap.size w w' := by
  have := IsSet_i m A m c _ s w h.ga (by have := h.vg.n7; omega)
  rwa [setB_yes h.ok hs] at this

set_option maxHeartbeats 1000000 in
theorem IsClique_v {w : World} (h : GV w A m c r) {s : Nat} (hs : s < 2 ^ m) :
    Calls Tryz.prog 72 #[.agg #[.int .i64 m, .slice A m c], .int .i64 s] w fun e w' => e = .returned (.bool (cliq r s)) ∧ Below w.heap.size w w' := by
  obtain ⟨W, hW⟩ : ∃ W : World, W = (w.alloc (Obj.cells #[Value.int IntKind.i64 m, Value.slice A m c] 30)) := ⟨_, rfl⟩
  have HB : Hid (From w W) := by rw [hW]; exact From.alloc _ _
  have HG : Hid (GBox W w.heap.size A m c r) := by rw [hW]; exact h.box
  have HW := Lib.hid hW
  clear hW h
  have e0 := HG.out.c0
  have e1 := HG.out.c1
  go_enter Tryz.func72, Tryz.ntmps72
  go_wp2_with fail
  rw [← HW.out]
  refine (IsSet_v HG.out.gv hs).mono ?_
  rintro e w1 ⟨rfl, hb1⟩
  clear HW
  clear e0 e1
  replace HB := Lib.hid (HB.out.keep hb1)
  replace HG := Lib.hid (HG.out.keep hb1)
  clear hb1
  have e0 := HG.out.c0
  have e1 := HG.out.c1
  go_wp2_with fail
  refine (isClique_v HG.out.gv hs).mono ?_
  rintro e w2 ⟨rfl, hb2⟩
  clear e0 e1
  replace HB := Lib.hid (HB.out.keep hb2)
  replace HG := Lib.hid (HG.out.keep hb2)
  clear hb2
  have e0 := HG.out.c0
  have e1 := HG.out.c1
  go_wp2
  go_ret
  exact ⟨rfl, HB.out.below⟩

set_option maxHeartbeats 1000000 in
theorem IsIndependent_v {w : World} (h : GV w A m c r) {s : Nat} (hs : s < 2 ^ m) :
    Calls Tryz.prog 76 #[.agg #[.int .i64 m, .slice A m c], .int .i64 s] w fun e w' => e = .returned (.bool (indB r s)) ∧ Below w.heap.size w w' := by
  have hp := two_pow_le h.vg.n7
  have hnb : nb r s < 2 ^ m := nb_lt (r := r) h.vg.lt hs 7
  have E := i64_and_nat (nb r s) s (by omega) (by omega)
  have hd : Hid ((((nb r s &&& s : Nat) : Int) == 0) = indB r s) := by
    show _ = _
    unfold indB
    rw [Bool.eq_iff_iff]
    simp
  obtain ⟨W, hW⟩ : ∃ W : World, W = (w.alloc (Obj.cells #[Value.int IntKind.i64 m, Value.slice A m c] 30)) := ⟨_, rfl⟩
  have HB : Hid (From w W) := by rw [hW]; exact From.alloc _ _
  have HG : Hid (GBox W w.heap.size A m c r) := by rw [hW]; exact h.box
  have HW := Lib.hid hW
  clear hW h
  have e0 := HG.out.c0
  have e1 := HG.out.c1
  go_enter Tryz.func76, Tryz.ntmps76
  go_wp2_with fail
  rw [← HW.out]
  refine (IsSet_v HG.out.gv hs).mono ?_
  rintro e w1 ⟨rfl, hb1⟩
  clear HW
  clear e0 e1
  replace HB := Lib.hid (HB.out.keep hb1)
  replace HG := Lib.hid (HG.out.keep hb1)
  clear hb1
  have e0 := HG.out.c0
  have e1 := HG.out.c1
  go_wp2_with fail
  refine (neighbors_v HG.out.gv hs).mono ?_
  rintro e w2 ⟨rfl, hb2⟩
  clear e0 e1
  replace HB := Lib.hid (HB.out.keep hb2)
  replace HG := Lib.hid (HG.out.keep hb2)
  clear hb2
  have e0 := HG.out.c0
  have e1 := HG.out.c1
  go_wp2
  go_ret
  exact ⟨ret_bool (by rw [← hd.out]), HB.out.below⟩

end
end Go.Proofs.YtmkahbephidmbaaGreat

/-
  Contracts: is a set independent, dominating, a packing? the least set with fewest, with most vertices: the reference's.
-/
namespace Go.Proofs.YtmkahbephidmbaaGreat
open Go.RowKit

section
variable {A : Option Addr} {m c : Nat} {r : Nat → Nat}
set_option maxHeartbeats 1000000 in
theorem IsIndependent_sv {w : World} (h : GV w A m c r) {s : Nat} (hs : s < 2 ^ m) :
    Calls Tryz.prog 62 #[.agg #[.int .i64 m, .slice A m c], .int .i64 s] w fun e w' => e = .returned (.bool (indB r s)) ∧ Below w.heap.size w w' := by
  have hn7 := h.vg.n7
  have hp := two_pow_le hn7
  obtain ⟨b, o, rfl⟩ := h.addr
  have HV := Lib.hid h.vg
  obtain ⟨W, hW⟩ : ∃ W : World, W = (w.alloc (Obj.cells #[Value.int IntKind.i64 m, Value.slice (some ⟨b, o, none⟩) m c] 30)) := ⟨_, rfl⟩
  have HB : Hid (From w W) := by rw [hW]; exact From.alloc _ _
  have HG : Hid (GBox W w.heap.size (some ⟨b, o, none⟩) m c r) := by rw [hW]; exact h.box
  have HW := Lib.hid hW
  clear hW h
  have e0 := HG.out.c0
  have e1 := HG.out.c1
  go_enter Tryz.func62, Tryz.ntmps62
  go_wp2_with fail
  rw [← HW.out]
  refine (IsSet_sv HG.out.gv hs).mono ?_
  rintro e w1 ⟨rfl, hb1⟩
  clear HW
  clear e0 e1
  replace HB := Lib.hid (HB.out.keep hb1)
  replace HG := Lib.hid (HG.out.keep hb1)
  clear hb1
  have e0 := HG.out.c0
  have e1 := HG.out.c1
  go_wp2
  go_loopw [5] (fun i wr => ∃ k : Nat, k ≤ m ∧ i = .int .i64 k ∧ Hid (∀ v, v < k → s.testBit v = true → r v &&& s = 0) ∧ Hid (From w1 wr)) (fun i _ => m - (intOf i).toNat)
  case atStart => exact ⟨0, Nat.zero_le _, rfl, (fun v hv => absurd hv (by omega)), From.refl _⟩
  case round =>
    obtain ⟨k, hk, rfl, hall, HR⟩ := hrel
    clear e0 e1
    replace HB := Lib.hid (HB.out.keep HR.out.below)
    replace HG := Lib.hid (HG.out.keep HR.out.below)
    have e0 := HG.out.c0
    have e1 := HG.out.c1
    by_cases hlt : k < m
    · have q0 := HG.out.gv.row hlt
      have hr := HV.out.lt128 hlt
      have E1 := and_one_i64 (s : Int) k (by omega) (by omega)
      rw [Int.toNat_natCast] at E1
      have E2 := i64_and_nat (r k) s (by omega) (by omega)
      have i1 : (k : Int) < (m : Int) := by omega
      cases ht : s.testBit k
      · rw [ht] at E1
        have Ht := Lib.hid ht
        clear ht E2
        go_wp2
        go_roundw
        case rel =>
          refine ⟨k + 1, by omega, by go_num, fun v hv hb => ?_, HR⟩
          by_cases hvk : v < k
          · exact hall.out v hvk hb
          · obtain rfl : v = k := by omega
            rw [Ht.out] at hb; cases hb
        case measure => simp [intOf]; omega
      · rw [ht] at E1
        by_cases hz : r k &&& s = 0
        · have hne : (bits BinOp.and .i64 (r k : Int) (s : Int) != 0) = false := by rw [E2, hz]; rfl
          have Hz := Lib.hid hz
          clear ht hz E2
          go_wp2
          go_roundw
          case rel =>
            refine ⟨k + 1, by omega, by go_num, fun v hv hb => ?_, HR⟩
            by_cases hvk : v < k
            · exact hall.out v hvk hb
            · obtain rfl : v = k := by omega
              exact Hz.out
          case measure => simp [intOf]; omega
        · have hne : (bits BinOp.and .i64 (r k : Int) (s : Int) != 0) = true := by rw [E2, bne_iff_ne]; omega
          have hno : Hid (indB r s = false) := indB_no (by omega) ht hz
          clear ht hz E2
          go_wp2
          go_ret
          exact ⟨ret_bool hno.out.symm, HB.out.below⟩
    · have hyes : Hid (indB r s = true) := indB_yes fun v hv hb => hall.out v (by have := bit_lt hs hb; omega) hb
      have i1 : (m : Int) ≤ (k : Int) := by omega
      go_wp2
      go_ret
      exact ⟨ret_bool hyes.out.symm, HB.out.below⟩

end
end Go.Proofs.YtmkahbephidmbaaGreat
