/-
  Contracts: has a chordal graph all edges of another one? Both programs' tests.
-/
import Derived.Test.YtccblehcemggjaaElimS
namespace Go.Proofs.Ytccblehcemggjaa
open Go.RowKit

noncomputable def icB (s1 : Int) (m1 : Nat) (x1 : Nat → Int) (s2 : Int) (m2 : Nat) (x2 : Nat → Int) : Bool := wiB s1 m1 x1 s2 m2 x2 && chB s2 m2 x2
theorem icB_eq {s1 s2 : Int} {m1 m2 : Nat} {x1 x2 : Nat → Int} {a b : Bool} (h : wiB s1 m1 x1 s2 m2 x2 = a) (h2 : chB s2 m2 x2 = b) : icB s1 m1 x1 s2 m2 x2 = (a && b) := by unfold icB; rw [h, h2]
theorem chB_ok {sz : Int} {m : Nat} {x : Nat → Int} (h : chB sz m x = true) : okB sz m x = true := by
  unfold chB at h
  cases ho : okB sz m x
  · rw [ho] at h; cases h
  · rfl
theorem okB_OkG {sz : Int} {m : Nat} {x : Nat → Int} (h : okB sz m x = true) : OkG sz m x := by
  refine Classical.byContradiction fun h2 => ?_
  rw [okB_no h2] at h; cases h

set_option maxHeartbeats 1000000 in
theorem IsCompletion_i (s1 : Int) (A1 : Option Addr) (m1 c1 : Nat) (x1 : Nat → Int) (s2 : Int) (A2 : Option Addr) (m2 c2 : Nat) (x2 : Nat → Int) (w : World) (B : Nat) (h1 : Rd w B A1 m1 c1 x1) (h2 : Rd w B A2 m2 c2 x2) (hB : B ≤ w.heap.size) (hm1 : m1 ≤ 1048576) (hm2 : m2 ≤ 1048576) :
    Calls Try.prog 40 #[.agg #[.int .i64 s1, .slice A1 m1 c1], .agg #[.int .i64 s2, .slice A2 m2 c2]] w fun e w' => e = .returned (.bool (icB s1 m1 x1 s2 m2 x2)) ∧ Below w.heap.size w w' := by
  obtain ⟨W, hW⟩ : ∃ W : World, W = ((w.alloc (Obj.cells #[Value.int IntKind.i64 s1, Value.slice A1 m1 c1] 42)).alloc (Obj.cells #[Value.int IntKind.i64 s2, Value.slice A2 m2 c2] 42)) := ⟨_, rfl⟩
  have HB : Hid (Below w.heap.size w W) := by rw [hW]; exact ((Below.refl _ _).alloc (Nat.le_refl _) _).alloc (by simp) _
  have hsz : w.heap.size + 1 < W.heap.size := by rw [hW]; simp
  have e2 : W.cell? ⟨w.heap.size + 1, 0, none⟩ = some (.int .i64 s2) := by rw [hW]; simp [go_sem]
  have e3 : W.cell? ⟨w.heap.size + 1, 1, none⟩ = some (.slice A2 m2 c2) := by rw [hW]; simp [go_sem]
  have k1 := Lib.hid (h1.keep (HB.out.mono hB) (Nat.le_refl _))
  have k2 := Lib.hid (h2.keep (HB.out.mono hB) (Nat.le_refl _))
  have HW := Lib.hid hW
  clear hW h1 h2
  go_enter Try.func40, Try.ntmps40
  go_wp2_with fail
  rw [← HW.out]
  clear HW
  refine (isWithin_any s1 s2 A1 A2 m1 m2 c1 c2 x1 x2 W B k1.out k2.out (by omega) hm1 hm2).mono ?_
  rintro e w1 ⟨rfl, hb1⟩
  have f2 := up hb1 e2 hsz
  have f3 := up hb1 e3 hsz
  have z1 := hb1.size
  have k3 := Lib.hid (k2.out.keep (hb1.mono (by omega)) (Nat.le_refl _))
  have HB1 : Hid (Below w.heap.size w w1) := HB.out.trans (hb1.mono (by omega))
  clear hb1 e2 e3 k1 k2 HB
  cases hw : wiB s1 m1 x1 s2 m2 x2
  · have hno : Hid (icB s1 m1 x1 s2 m2 x2 = false) := icB_eq hw rfl
    clear hw
    go_wp2
    go_ret
    exact ⟨ret_bool hno.out.symm, HB1.out⟩
  · have hch : Hid (icB s1 m1 x1 s2 m2 x2 = chB s2 m2 x2) := (icB_eq hw rfl).trans (Bool.true_and _)
    clear hw
    go_wp2_with fail
    refine (IsChordal_i s2 A2 m2 c2 x2 w1 B k3.out (by omega) hm2).mono ?_
    rintro e w2 ⟨rfl, hb2⟩
    have HB2 : Hid (Below w.heap.size w w2) := HB1.out.trans (hb2.mono (by omega))
    clear hb2 k3
    go_wp2
    go_ret
    exact ⟨ret_bool hch.out.symm, HB2.out⟩

set_option maxRecDepth 100000 in
set_option maxHeartbeats 1600000 in
theorem IsCompletion_s (s1 : Int) (A1 : Option Addr) (m1 c1 : Nat) (x1 : Nat → Int) (s2 : Int) (A2 : Option Addr) (m2 c2 : Nat) (x2 : Nat → Int) (w : World) (B : Nat) (h1 : Rd w B A1 m1 c1 x1) (h2 : Rd w B A2 m2 c2 x2) (hB : B ≤ w.heap.size) (hm1 : m1 ≤ 1048576) (hm2 : m2 ≤ 1048576) :
    Calls Try.prog 39 #[.agg #[.int .i64 s1, .slice A1 m1 c1], .agg #[.int .i64 s2, .slice A2 m2 c2]] w fun e w' => e = .returned (.bool (icB s1 m1 x1 s2 m2 x2)) ∧ Below w.heap.size w w' := by
  obtain ⟨W, hW⟩ : ∃ W : World, W = ((w.alloc (Obj.cells #[Value.int IntKind.i64 s1, Value.slice A1 m1 c1] 42)).alloc (Obj.cells #[Value.int IntKind.i64 s2, Value.slice A2 m2 c2] 42)) := ⟨_, rfl⟩
  have HB : Hid (Below w.heap.size w W) := by rw [hW]; exact ((Below.refl _ _).alloc (Nat.le_refl _) _).alloc (by simp) _
  have hsz : w.heap.size + 1 < W.heap.size := by rw [hW]; simp
  have e0 : W.cell? ⟨w.heap.size, 0, none⟩ = some (.int .i64 s1) := by rw [hW]; simp [go_sem]
  have e1 : W.cell? ⟨w.heap.size, 1, none⟩ = some (.slice A1 m1 c1) := by rw [hW]; simp [go_sem]
  have e2 : W.cell? ⟨w.heap.size + 1, 0, none⟩ = some (.int .i64 s2) := by rw [hW]; simp [go_sem]
  have e3 : W.cell? ⟨w.heap.size + 1, 1, none⟩ = some (.slice A2 m2 c2) := by rw [hW]; simp [go_sem]
  have k1 := h1.keep (HB.out.mono hB) (Nat.le_refl _)
  have k2 := h2.keep (HB.out.mono hB) (Nat.le_refl _)
  have HW := Lib.hid hW
  clear hW h1 h2
  go_enter Try.func39, Try.ntmps39
  go_wp2_with fail
  rw [← HW.out]
  refine (IsGraph_sany s1 A1 m1 c1 x1 W B k1 (by omega) hm1).mono ?_
  rintro e w1 ⟨rfl, hb1⟩
  have f0 := (hb1.cell (p := ⟨w.heap.size, 0, none⟩) (by show w.heap.size < _; omega)).trans e0
  have f1 := (hb1.cell (p := ⟨w.heap.size, 1, none⟩) (by show w.heap.size < _; omega)).trans e1
  have f2 := (hb1.cell (p := ⟨w.heap.size + 1, 0, none⟩) (by show w.heap.size + 1 < _; omega)).trans e2
  have f3 := (hb1.cell (p := ⟨w.heap.size + 1, 1, none⟩) (by show w.heap.size + 1 < _; omega)).trans e3
  have z1 := hb1.size
  have k1' := k1.keep (hb1.mono (by omega)) (Nat.le_refl _)
  have k2' := k2.keep (hb1.mono (by omega)) (Nat.le_refl _)
  have HB1 := Lib.hid (HB.out.trans (hb1.mono (by omega)))
  clear HW HB e0 e1 e2 e3 k1 k2 hb1
  cases ho1 : okB s1 m1 x1
  · have hno : Hid (icB s1 m1 x1 s2 m2 x2 = false) := icB_eq (a := false) (wiB_no (fun h => by rw [okB_yes h.1] at ho1; cases ho1)) rfl
    clear ho1
    go_wp2
    go_ret
    exact ⟨ret_bool hno.out.symm, HB1.out⟩
  · have Ho1 := Lib.hid ho1
    clear ho1
    go_wp2_with fail
    refine (IsChordal_s s2 A2 m2 c2 x2 w1 B k2' (by omega) hm2).mono ?_
    rintro e w2 ⟨rfl, hb2⟩
    have g0 := (hb2.cell (p := ⟨w.heap.size, 0, none⟩) (by show w.heap.size < _; omega)).trans f0
    have g1 := (hb2.cell (p := ⟨w.heap.size, 1, none⟩) (by show w.heap.size < _; omega)).trans f1
    have g2 := (hb2.cell (p := ⟨w.heap.size + 1, 0, none⟩) (by show w.heap.size + 1 < _; omega)).trans f2
    have g3 := (hb2.cell (p := ⟨w.heap.size + 1, 1, none⟩) (by show w.heap.size + 1 < _; omega)).trans f3
    have z2 := hb2.size
    have l1 := k1'.keep (hb2.mono (by omega)) (Nat.le_refl _)
    have l2 := k2'.keep (hb2.mono (by omega)) (Nat.le_refl _)
    have HB2 := Lib.hid (HB1.out.trans (hb2.mono (by omega)))
    clear HB1 f0 f1 f2 f3 k1' k2' hb2
    cases hc2 : chB s2 m2 x2
    · have hno : Hid (icB s1 m1 x1 s2 m2 x2 = false) := (icB_eq rfl hc2).trans (by cases wiB s1 m1 x1 s2 m2 x2 <;> rfl)
      clear hc2
      go_wp2
      go_ret
      exact ⟨ret_bool hno.out.symm, HB2.out⟩
    · have ho2 := chB_ok hc2
      have Hc2 := Lib.hid hc2
      clear hc2
      by_cases hs : s1 = s2
      · have hok1 : OkG s1 m1 x1 := by
          refine Classical.byContradiction fun h => ?_
          have := Ho1.out; rw [okB_no h] at this; cases this
        have hok2 : OkG s2 m2 x2 := by
          refine Classical.byContradiction fun h => ?_
          rw [okB_no h] at ho2; cases ho2
        have Hok1 := Lib.hid hok1
        have Hok2 := Lib.hid hok2
        obtain ⟨r1, rfl, v1, hx1⟩ := hok1
        obtain ⟨r2, rfl, v2, hx2⟩ := hok2
        obtain rfl : m1 = m2 := by omega
        have := v1.n1
        have hm7 := v1.n7
        have HX1 := Lib.hid hx1
        have HX2 := Lib.hid hx2
        clear ho2 Ho1 hs hx1 hx2
        obtain ⟨b1, o1, rfl, l1', c1'⟩ := l1.pos (by omega)
        obtain ⟨b2, o2, rfl, l2', c2'⟩ := l2.pos (by omega)
        clear l1 l2
        go_wp2
        go_loopw [5] (fun i wr => ∃ k : Nat, k ≤ m1 ∧ i = .int .i64 k ∧ Hid (∀ v, v < k → (x1 v).toNat &&& (x2 v).toNat = (x1 v).toNat) ∧ Below w2.heap.size w2 wr) (fun i _ => m1 - (intOf i).toNat)
        case atStart => exact ⟨0, Nat.zero_le _, rfl, fun v hv => absurd hv (by omega), Below.refl _ _⟩
        case round =>
          obtain ⟨k, hk, rfl, hall, hbr⟩ := hrel
          have q0 := (hbr.cell (p := ⟨w.heap.size, 0, none⟩) (by show w.heap.size < _; omega)).trans g0
          by_cases hlt : k < m1
          · have q1 := (hbr.cell (p := ⟨b1, o1 + k, none⟩) (by show b1 < _; omega)).trans (c1' k hlt)
            have q2 := (hbr.cell (p := ⟨b2, o2 + k, none⟩) (by show b2 < _; omega)).trans (c2' k hlt)
            have q8 := (hbr.cell (p := ⟨w.heap.size, 1, none⟩) (by show w.heap.size < _; omega)).trans g1
            have q9 := (hbr.cell (p := ⟨w.heap.size + 1, 1, none⟩) (by show w.heap.size + 1 < _; omega)).trans g3
            have i1 : (k : Int) < (m1 : Int) := by omega
            have q3 := v1.lt128 hlt
            have q4 := v2.lt128 hlt
            have q5 := HX1.out k hlt
            have q6 := HX2.out k hlt
            have q7 := i64_and (x1 k) (x2 k) (by omega) (by omega) (by omega) (by omega)
            by_cases hz : (x1 k).toNat &&& (x2 k).toNat = (x1 k).toNat
            · have hne : (bits BinOp.and .i64 (x1 k) (x2 k) != x1 k) = false := by rw [q7, hz, bne_eq_false_iff_eq]; omega
              clear c1' c2' q5 q6 q3 q4 q7 g0 g1 g2 g3
              have Hz := Lib.hid hz
              clear hz
              go_wp2
              go_quiet (fail)
              go_wp2
              go_roundw
              case rel =>
                refine ⟨k + 1, by omega, by go_num, fun v hv => ?_, below_drewN hbr _⟩
                by_cases hvk : v < k
                · exact hall.out v hvk
                · obtain rfl : v = k := by omega
                  exact Hz.out
              case measure => simp [intOf]; omega
            · have hno : Hid (icB (m1 : Int) m1 x1 (m1 : Int) m1 x2 = false) := icB_eq (a := false) (wiB_no (fun h => hz (h.2.2.2 k hlt))) rfl
              have hne : (bits BinOp.and .i64 (x1 k) (x2 k) != x1 k) = true := by
                rw [q7, bne_iff_ne]
                intro h
                exact hz (by omega)
              clear c1' c2' q5 q6 q3 q4 q7 hz g0 g1 g2 g3
              go_wp2
              go_quiet (fail)
              go_wp2
              go_ret
              exact ⟨ret_bool hno.out.symm, HB2.out.trans (below_drewN (hbr.mono (by omega)) _)⟩
          · have hge : (m1 : Int) ≤ (k : Int) := by omega
            have hyes : Hid (icB (m1 : Int) m1 x1 (m1 : Int) m1 x2 = true) := icB_eq (a := true) (wiB_yes ⟨Hok1.out, Hok2.out, rfl, fun v hv => hall.out v (by omega)⟩) Hc2.out
            clear c1' c2' g0 g1 g2 g3
            go_wp2
            go_ret
            exact ⟨ret_bool hyes.out.symm, HB2.out.trans (hbr.mono (by omega))⟩
      · have hno : Hid (icB s1 m1 x1 s2 m2 x2 = false) := icB_eq (a := false) (wiB_no (fun h => hs h.2.2.1)) rfl
        have hne : (s1 != s2) = true := by simp [hs]
        clear ho2 hs
        go_wp2
        go_ret
        exact ⟨ret_bool hno.out.symm, HB2.out⟩
end Go.Proofs.Ytccblehcemggjaa
