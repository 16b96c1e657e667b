/-
  Contracts: is it a graph (any size); has one graph at most the edges of another; is a graph between two others.
-/
import Derived.Test.YtccblehcemggjaaGraphS
import Derived.Test.YtccblehcemggjaaLawGraph
import Derived.Test.YtccblehcemggjaaBits
namespace Go.Proofs.Ytccblehcemggjaa
open Go.RowKit

theorem okB_far {sz : Int} {m : Nat} {x : Nat → Int} (h : sz < 1 ∨ 7 < sz ∨ sz ≠ m) : okB sz m x = false := okB_no (fun ⟨r, e, hg, _⟩ => by have := hg.n1; have := hg.n7; omega)

set_option maxHeartbeats 400000 in
theorem IsGraph_any (sz : Int) (A : Option Addr) (m c : Nat) (x : Nat → Int) (w : World) (B : Nat) (h : Rd w B A m c x) (hB : B ≤ w.heap.size) (hm : m ≤ 1048576) :
    Calls Try.prog 74 #[.agg #[.int .i64 sz, .slice A m c]] w fun e w' => e = .returned (.bool (okB sz m x)) ∧ Below w.heap.size w w' := by
  by_cases h1 : 1 ≤ sz ∧ sz ≤ 7
  · by_cases hs : sz = (m : Int)
    · exact IsGraph_i sz A m c x w B h hB hm h1.1 h1.2 hs
    · rw [okB_far (.inr (.inr hs))]
      have Hb : Hid (Below w.heap.size w (w.alloc (Obj.cells #[Value.int IntKind.i64 sz, Value.slice A m c] 42))) := (Below.refl _ _).alloc (Nat.le_refl _) _
      have hne : ((m : Int) != sz) = true := by simp; omega
      obtain ⟨ha, hb⟩ := h1
      clear h hs
      go_enter Try.func74, Try.ntmps74
      go_wp2_with (first | (go_at_call 64; refine (within_yes _ _ _ _ ha hb).mono ?_; rintro e w' ⟨rfl, rfl⟩))
      go_ret
      exact ⟨rfl, Hb.out⟩
  · rw [okB_far (by omega)]
    have Hb : Hid (Below w.heap.size w (w.alloc (Obj.cells #[Value.int IntKind.i64 sz, Value.slice A m c] 42))) := (Below.refl _ _).alloc (Nat.le_refl _) _
    have hn : sz < 1 ∨ 7 < sz := by omega
    have Hn := Lib.hid hn
    clear h h1 hn
    go_enter Try.func74, Try.ntmps74
    go_wp2_with (first | (go_at_call 64; refine (within_no _ _ _ _ Hn.out).mono ?_; rintro e w' ⟨rfl, rfl⟩))
    go_ret
    exact ⟨rfl, Hb.out⟩

set_option maxHeartbeats 400000 in
set_option maxRecDepth 100000 in
theorem IsGraph_sany (sz : Int) (A : Option Addr) (m c : Nat) (x : Nat → Int) (w : World) (B : Nat) (h : Rd w B A m c x) (hB : B ≤ w.heap.size) (hm : m ≤ 1048576) :
    Calls Try.prog 72 #[.agg #[.int .i64 sz, .slice A m c]] w fun e w' => e = .returned (.bool (okB sz m x)) ∧ Below w.heap.size w w' := by
  by_cases h1 : 1 ≤ sz ∧ sz ≤ 7
  · by_cases hs : sz = (m : Int)
    · exact IsGraph_s sz A m c x w B h hB hm h1.1 h1.2 hs
    · rw [okB_far (.inr (.inr hs))]
      have Hb : Hid (Below w.heap.size w (w.alloc (Obj.cells #[Value.int IntKind.i64 sz, Value.slice A m c] 42))) := (Below.refl _ _).alloc (Nat.le_refl _) _
      have hne : ((m : Int) != sz) = true := by simp; omega
      obtain ⟨ha, hb⟩ := h1
      clear h hs
      go_enter Try.func72, Try.ntmps72
      go_wp2_with (first | (go_at_call 63; refine (l1In_yes _ _ _ _ ha hb).mono ?_; rintro e w' ⟨rfl, rfl⟩))
      go_ret
      exact ⟨rfl, Hb.out⟩
  · rw [okB_far (by omega)]
    have Hb : Hid (Below w.heap.size w (w.alloc (Obj.cells #[Value.int IntKind.i64 sz, Value.slice A m c] 42))) := (Below.refl _ _).alloc (Nat.le_refl _) _
    have hn : sz < 1 ∨ 7 < sz := by omega
    have Hn := Lib.hid hn
    clear h h1 hn
    go_enter Try.func72, Try.ntmps72
    go_wp2_with (first | (go_at_call 63; refine (l1In_no _ _ _ _ Hn.out).mono ?_; rintro e w' ⟨rfl, rfl⟩))
    go_ret
    exact ⟨rfl, Hb.out⟩

/-- Both are graphs of one size, and the first one's edges are edges of the second. -/
def Wi (s1 : Int) (m1 : Nat) (x1 : Nat → Int) (s2 : Int) (m2 : Nat) (x2 : Nat → Int) : Prop :=
  OkG s1 m1 x1 ∧ OkG s2 m2 x2 ∧ s1 = s2 ∧ ∀ v, v < m1 → (x1 v).toNat &&& (x2 v).toNat = (x1 v).toNat
noncomputable def wiB (s1 : Int) (m1 : Nat) (x1 : Nat → Int) (s2 : Int) (m2 : Nat) (x2 : Nat → Int) : Bool := @decide (Wi s1 m1 x1 s2 m2 x2) (Classical.propDecidable _)
theorem wiB_yes {s1 s2 : Int} {m1 m2 : Nat} {x1 x2 : Nat → Int} (h : Wi s1 m1 x1 s2 m2 x2) : wiB s1 m1 x1 s2 m2 x2 = true := @decide_eq_true _ (Classical.propDecidable _) h
theorem wiB_no {s1 s2 : Int} {m1 m2 : Nat} {x1 x2 : Nat → Int} (h : ¬ Wi s1 m1 x1 s2 m2 x2) : wiB s1 m1 x1 s2 m2 x2 = false := @decide_eq_false _ (Classical.propDecidable _) h

set_option maxHeartbeats 1000000 in
theorem isWithin_any (s1 s2 : Int) (A1 A2 : Option Addr) (m1 m2 c1 c2 : Nat) (x1 x2 : Nat → Int) (w : World) (B : Nat) (h1 : Rd w B A1 m1 c1 x1) (h2 : Rd w B A2 m2 c2 x2) (hB : B ≤ w.heap.size) (hm1 : m1 ≤ 1048576) (hm2 : m2 ≤ 1048576) :
    Calls Try.prog 71 #[.agg #[.int .i64 s1, .slice A1 m1 c1], .agg #[.int .i64 s2, .slice A2 m2 c2]] w fun e w' => e = .returned (.bool (wiB s1 m1 x1 s2 m2 x2)) ∧ Below w.heap.size w w' := by
  obtain ⟨W, hW⟩ : ∃ W : World, W = ((w.alloc (Obj.cells #[Value.int IntKind.i64 s1, Value.slice A1 m1 c1] 42)).alloc (Obj.cells #[Value.int IntKind.i64 s2, Value.slice A2 m2 c2] 42)) := ⟨_, rfl⟩
  have HB : Hid (Below w.heap.size w W) := by rw [hW]; exact ((Below.refl _ _).alloc (Nat.le_refl _) _).alloc (by simp) _
  have hsz : w.heap.size + 1 < W.heap.size := by rw [hW]; simp
  have e0 : W.cell? ⟨w.heap.size, 0, none⟩ = some (.int .i64 s1) := by rw [hW]; simp [go_sem]
  have e1 : W.cell? ⟨w.heap.size, 1, none⟩ = some (.slice A1 m1 c1) := by rw [hW]; simp [go_sem]
  have e2 : W.cell? ⟨w.heap.size + 1, 0, none⟩ = some (.int .i64 s2) := by rw [hW]; simp [go_sem]
  have e3 : W.cell? ⟨w.heap.size + 1, 1, none⟩ = some (.slice A2 m2 c2) := by rw [hW]; simp [go_sem]
  have k1 := h1.keep (HB.out.mono hB) (Nat.le_refl _)
  have k2 := h2.keep (HB.out.mono hB) (Nat.le_refl _)
  have HW := Lib.hid hW
  clear hW h1 h2
  go_enter Try.func71, Try.ntmps71
  go_wp2_with fail
  rw [← HW.out]
  refine (IsGraph_any s1 A1 m1 c1 x1 W B k1 (by omega) hm1).mono ?_
  rintro e w1 ⟨rfl, hb1⟩
  have f0 := (hb1.cell (p := ⟨w.heap.size, 0, none⟩) (by show w.heap.size < _; omega)).trans e0
  have f1 := (hb1.cell (p := ⟨w.heap.size, 1, none⟩) (by show w.heap.size < _; omega)).trans e1
  have f2 := (hb1.cell (p := ⟨w.heap.size + 1, 0, none⟩) (by show w.heap.size + 1 < _; omega)).trans e2
  have f3 := (hb1.cell (p := ⟨w.heap.size + 1, 1, none⟩) (by show w.heap.size + 1 < _; omega)).trans e3
  have z1 := hb1.size
  have k1' := k1.keep (hb1.mono (by omega)) (Nat.le_refl _)
  have k2' := k2.keep (hb1.mono (by omega)) (Nat.le_refl _)
  have HB1 := Lib.hid (HB.out.trans (hb1.mono (by omega)))
  clear HW HB e0 e1 e2 e3 k1 k2 hb1
  cases ho1 : okB s1 m1 x1
  · have hno : Hid (wiB s1 m1 x1 s2 m2 x2 = false) := wiB_no (fun h => by rw [okB_yes h.1] at ho1; cases ho1)
    clear ho1
    go_wp2
    go_ret
    exact ⟨ret_bool hno.out.symm, HB1.out⟩
  · have Ho1 := Lib.hid ho1
    clear ho1
    go_wp2_with fail
    refine (IsGraph_any s2 A2 m2 c2 x2 w1 B k2' (by omega) hm2).mono ?_
    rintro e w2 ⟨rfl, hb2⟩
    have g0 := (hb2.cell (p := ⟨w.heap.size, 0, none⟩) (by show w.heap.size < _; omega)).trans f0
    have g1 := (hb2.cell (p := ⟨w.heap.size, 1, none⟩) (by show w.heap.size < _; omega)).trans f1
    have g2 := (hb2.cell (p := ⟨w.heap.size + 1, 0, none⟩) (by show w.heap.size + 1 < _; omega)).trans f2
    have g3 := (hb2.cell (p := ⟨w.heap.size + 1, 1, none⟩) (by show w.heap.size + 1 < _; omega)).trans f3
    have z2 := hb2.size
    have l1 := k1'.keep (hb2.mono (by omega)) (Nat.le_refl _)
    have l2 := k2'.keep (hb2.mono (by omega)) (Nat.le_refl _)
    have HB2 := Lib.hid (HB1.out.trans (hb2.mono (by omega)))
    clear HB1 f0 f1 f2 f3 k1' k2' hb2
    cases ho2 : okB s2 m2 x2
    · have hno : Hid (wiB s1 m1 x1 s2 m2 x2 = false) := wiB_no (fun h => by rw [okB_yes h.2.1] at ho2; cases ho2)
      clear ho2
      go_wp2
      go_ret
      exact ⟨ret_bool hno.out.symm, HB2.out⟩
    · by_cases hs : s1 = s2
      · have hok1 : OkG s1 m1 x1 := by
          refine Classical.byContradiction fun h => ?_
          have := Ho1.out; rw [okB_no h] at this; cases this
        have hok2 : OkG s2 m2 x2 := by
          refine Classical.byContradiction fun h => ?_
          rw [okB_no h] at ho2; cases ho2
        have Hok1 := Lib.hid hok1
        have Hok2 := Lib.hid hok2
        obtain ⟨r1, rfl, v1, hx1⟩ := hok1
        obtain ⟨r2, rfl, v2, hx2⟩ := hok2
        obtain rfl : m1 = m2 := by omega
        have := v1.n1
        have hm7 := v1.n7
        have HX1 := Lib.hid hx1
        have HX2 := Lib.hid hx2
        clear ho2 Ho1 hs hx1 hx2
        obtain ⟨b1, o1, rfl, l1', c1'⟩ := l1.pos (by omega)
        obtain ⟨b2, o2, rfl, l2', c2'⟩ := l2.pos (by omega)
        clear l1 l2
        go_wp2
        go_loop [25] (fun i => ∃ k : Nat, k ≤ m1 ∧ i = .int .i64 k ∧ Hid (∀ v, v < k → (x1 v).toNat &&& (x2 v).toNat = (x1 v).toNat)) (fun i => m1 - (intOf i).toNat)
        case atStart => exact ⟨0, Nat.zero_le _, rfl, fun v hv => absurd hv (by omega)⟩
        case round =>
          obtain ⟨k, hk, rfl, hall⟩ := hrel
          by_cases hlt : k < m1
          · have q1 := c1' k hlt
            have q2 := c2' k hlt
            have q3 := v1.lt128 hlt
            have q4 := v2.lt128 hlt
            have q5 := HX1.out k hlt
            have q6 := HX2.out k hlt
            have q7 := i64_andNot (x1 k) (x2 k) (by omega) (by omega) (by omega) (by omega)
            by_cases hz : (x1 k).toNat &&& (x2 k).toNat = (x1 k).toNat
            · have hne : (bits BinOp.andNot .i64 (x1 k) (x2 k) != 0) = false := by rw [q7, (andNot_zero _ _).2 hz]; rfl
              clear c1' c2' q5 q6 q3 q4 q7
              have Hz := Lib.hid hz
              clear hz
              go_wp2
              go_round
              case rel =>
                refine ⟨k + 1, by omega, by go_num, fun v hv => ?_⟩
                by_cases hvk : v < k
                · exact hall.out v hvk
                · obtain rfl : v = k := by omega
                  exact Hz.out
              case measure => simp [intOf]; omega
            · have hno : Hid (wiB (m1 : Int) m1 x1 (m1 : Int) m1 x2 = false) := wiB_no (fun h => hz (h.2.2.2 k hlt))
              have hne : (bits BinOp.andNot .i64 (x1 k) (x2 k) != 0) = true := by
                rw [q7, bne_iff_ne]
                intro h
                exact hz ((andNot_zero _ _).1 (by omega))
              clear c1' c2' q5 q6 q3 q4 q7 hz
              go_wp2
              go_ret
              exact ⟨ret_bool hno.out.symm, HB2.out⟩
          · obtain rfl : k = m1 := by omega
            have hyes : Hid (wiB (k : Int) k x1 (k : Int) k x2 = true) := wiB_yes ⟨Hok1.out, Hok2.out, rfl, hall.out⟩
            clear c1' c2'
            go_wp2
            go_ret
            exact ⟨ret_bool hyes.out.symm, HB2.out⟩
      · have hno : Hid (wiB s1 m1 x1 s2 m2 x2 = false) := wiB_no (fun h => hs h.2.2.1)
        have hne : (s1 != s2) = true := by simp [hs]
        clear ho2 hs
        go_wp2
        go_ret
        exact ⟨ret_bool hno.out.symm, HB2.out⟩
set_option maxHeartbeats 1000000 in
theorem l31Within_any (s1 s2 : Int) (A1 A2 : Option Addr) (m1 m2 c1 c2 : Nat) (x1 x2 : Nat → Int) (w : World) (B : Nat) (h1 : Rd w B A1 m1 c1 x1) (h2 : Rd w B A2 m2 c2 x2) (hB : B ≤ w.heap.size) (hm1 : m1 ≤ 1048576) (hm2 : m2 ≤ 1048576) :
    Calls Try.prog 69 #[.agg #[.int .i64 s1, .slice A1 m1 c1], .agg #[.int .i64 s2, .slice A2 m2 c2]] w fun e w' => e = .returned (.bool (wiB s1 m1 x1 s2 m2 x2)) ∧ Below w.heap.size w w' := by
  obtain ⟨W, hW⟩ : ∃ W : World, W = ((w.alloc (Obj.cells #[Value.int IntKind.i64 s1, Value.slice A1 m1 c1] 42)).alloc (Obj.cells #[Value.int IntKind.i64 s2, Value.slice A2 m2 c2] 42)) := ⟨_, rfl⟩
  have HB : Hid (Below w.heap.size w W) := by rw [hW]; exact ((Below.refl _ _).alloc (Nat.le_refl _) _).alloc (by simp) _
  have hsz : w.heap.size + 1 < W.heap.size := by rw [hW]; simp
  have e0 : W.cell? ⟨w.heap.size, 0, none⟩ = some (.int .i64 s1) := by rw [hW]; simp [go_sem]
  have e1 : W.cell? ⟨w.heap.size, 1, none⟩ = some (.slice A1 m1 c1) := by rw [hW]; simp [go_sem]
  have e2 : W.cell? ⟨w.heap.size + 1, 0, none⟩ = some (.int .i64 s2) := by rw [hW]; simp [go_sem]
  have e3 : W.cell? ⟨w.heap.size + 1, 1, none⟩ = some (.slice A2 m2 c2) := by rw [hW]; simp [go_sem]
  have k1 := h1.keep (HB.out.mono hB) (Nat.le_refl _)
  have k2 := h2.keep (HB.out.mono hB) (Nat.le_refl _)
  have HW := Lib.hid hW
  clear hW h1 h2
  go_enter Try.func69, Try.ntmps69
  go_wp2_with fail
  rw [← HW.out]
  refine (IsGraph_sany s1 A1 m1 c1 x1 W B k1 (by omega) hm1).mono ?_
  rintro e w1 ⟨rfl, hb1⟩
  have f0 := (hb1.cell (p := ⟨w.heap.size, 0, none⟩) (by show w.heap.size < _; omega)).trans e0
  have f1 := (hb1.cell (p := ⟨w.heap.size, 1, none⟩) (by show w.heap.size < _; omega)).trans e1
  have f2 := (hb1.cell (p := ⟨w.heap.size + 1, 0, none⟩) (by show w.heap.size + 1 < _; omega)).trans e2
  have f3 := (hb1.cell (p := ⟨w.heap.size + 1, 1, none⟩) (by show w.heap.size + 1 < _; omega)).trans e3
  have z1 := hb1.size
  have k1' := k1.keep (hb1.mono (by omega)) (Nat.le_refl _)
  have k2' := k2.keep (hb1.mono (by omega)) (Nat.le_refl _)
  have HB1 := Lib.hid (HB.out.trans (hb1.mono (by omega)))
  clear HW HB e0 e1 e2 e3 k1 k2 hb1
  cases ho1 : okB s1 m1 x1
  · have hno : Hid (wiB s1 m1 x1 s2 m2 x2 = false) := wiB_no (fun h => by rw [okB_yes h.1] at ho1; cases ho1)
    clear ho1
    go_wp2
    go_ret
    exact ⟨ret_bool hno.out.symm, HB1.out⟩
  · have Ho1 := Lib.hid ho1
    clear ho1
    go_wp2_with fail
    refine (IsGraph_sany s2 A2 m2 c2 x2 w1 B k2' (by omega) hm2).mono ?_
    rintro e w2 ⟨rfl, hb2⟩
    have g0 := (hb2.cell (p := ⟨w.heap.size, 0, none⟩) (by show w.heap.size < _; omega)).trans f0
    have g1 := (hb2.cell (p := ⟨w.heap.size, 1, none⟩) (by show w.heap.size < _; omega)).trans f1
    have g2 := (hb2.cell (p := ⟨w.heap.size + 1, 0, none⟩) (by show w.heap.size + 1 < _; omega)).trans f2
    have g3 := (hb2.cell (p := ⟨w.heap.size + 1, 1, none⟩) (by show w.heap.size + 1 < _; omega)).trans f3
    have z2 := hb2.size
    have l1 := k1'.keep (hb2.mono (by omega)) (Nat.le_refl _)
    have l2 := k2'.keep (hb2.mono (by omega)) (Nat.le_refl _)
    have HB2 := Lib.hid (HB1.out.trans (hb2.mono (by omega)))
    clear HB1 f0 f1 f2 f3 k1' k2' hb2
    cases ho2 : okB s2 m2 x2
    · have hno : Hid (wiB s1 m1 x1 s2 m2 x2 = false) := wiB_no (fun h => by rw [okB_yes h.2.1] at ho2; cases ho2)
      clear ho2
      go_wp2
      go_ret
      exact ⟨ret_bool hno.out.symm, HB2.out⟩
    · by_cases hs : s1 = s2
      · have hok1 : OkG s1 m1 x1 := by
          refine Classical.byContradiction fun h => ?_
          have := Ho1.out; rw [okB_no h] at this; cases this
        have hok2 : OkG s2 m2 x2 := by
          refine Classical.byContradiction fun h => ?_
          rw [okB_no h] at ho2; cases ho2
        have Hok1 := Lib.hid hok1
        have Hok2 := Lib.hid hok2
        obtain ⟨r1, rfl, v1, hx1⟩ := hok1
        obtain ⟨r2, rfl, v2, hx2⟩ := hok2
        obtain rfl : m1 = m2 := by omega
        have := v1.n1
        have hm7 := v1.n7
        have HX1 := Lib.hid hx1
        have HX2 := Lib.hid hx2
        clear ho2 Ho1 hs hx1 hx2
        obtain ⟨b1, o1, rfl, l1', c1'⟩ := l1.pos (by omega)
        obtain ⟨b2, o2, rfl, l2', c2'⟩ := l2.pos (by omega)
        clear l1 l2
        go_wp2
        go_loopw [5] (fun i wr => ∃ k : Nat, k ≤ m1 ∧ i = .int .i64 k ∧ Hid (∀ v, v < k → (x1 v).toNat &&& (x2 v).toNat = (x1 v).toNat) ∧ Below w2.heap.size w2 wr) (fun i _ => m1 - (intOf i).toNat)
        case atStart => exact ⟨0, Nat.zero_le _, rfl, fun v hv => absurd hv (by omega), Below.refl _ _⟩
        case round =>
          obtain ⟨k, hk, rfl, hall, hbr⟩ := hrel
          have q0 := (hbr.cell (p := ⟨w.heap.size, 0, none⟩) (by show w.heap.size < _; omega)).trans g0
          by_cases hlt : k < m1
          · have q1 := (hbr.cell (p := ⟨b1, o1 + k, none⟩) (by show b1 < _; omega)).trans (c1' k hlt)
            have q2 := (hbr.cell (p := ⟨b2, o2 + k, none⟩) (by show b2 < _; omega)).trans (c2' k hlt)
            have q8 := (hbr.cell (p := ⟨w.heap.size, 1, none⟩) (by show w.heap.size < _; omega)).trans g1
            have q9 := (hbr.cell (p := ⟨w.heap.size + 1, 1, none⟩) (by show w.heap.size + 1 < _; omega)).trans g3
            have i1 : (k : Int) < (m1 : Int) := by omega
            have q3 := v1.lt128 hlt
            have q4 := v2.lt128 hlt
            have q5 := HX1.out k hlt
            have q6 := HX2.out k hlt
            have q7 := i64_and (x1 k) (x2 k) (by omega) (by omega) (by omega) (by omega)
            by_cases hz : (x1 k).toNat &&& (x2 k).toNat = (x1 k).toNat
            · have hne : (bits BinOp.and .i64 (x1 k) (x2 k) != x1 k) = false := by rw [q7, hz, bne_eq_false_iff_eq]; omega
              clear c1' c2' q5 q6 q3 q4 q7 g0 g1 g2 g3
              have Hz := Lib.hid hz
              clear hz
              go_wp2
              go_quiet (fail)
              go_wp2
              go_roundw
              case rel =>
                refine ⟨k + 1, by omega, by go_num, fun v hv => ?_, below_drewN hbr _⟩
                by_cases hvk : v < k
                · exact hall.out v hvk
                · obtain rfl : v = k := by omega
                  exact Hz.out
              case measure => simp [intOf]; omega
            · have hno : Hid (wiB (m1 : Int) m1 x1 (m1 : Int) m1 x2 = false) := wiB_no (fun h => hz (h.2.2.2 k hlt))
              have hne : (bits BinOp.and .i64 (x1 k) (x2 k) != x1 k) = true := by
                rw [q7, bne_iff_ne]
                intro h
                exact hz (by omega)
              clear c1' c2' q5 q6 q3 q4 q7 hz g0 g1 g2 g3
              go_wp2
              go_quiet (fail)
              go_wp2
              go_ret
              exact ⟨ret_bool hno.out.symm, HB2.out.trans (below_drewN (hbr.mono (by omega)) _)⟩
          · have hge : (m1 : Int) ≤ (k : Int) := by omega
            have hyes : Hid (wiB (m1 : Int) m1 x1 (m1 : Int) m1 x2 = true) := wiB_yes ⟨Hok1.out, Hok2.out, rfl, fun v hv => hall.out v (by omega)⟩
            clear c1' c2' g0 g1 g2 g3
            go_wp2
            go_ret
            exact ⟨ret_bool hyes.out.symm, HB2.out.trans (hbr.mono (by omega))⟩
      · have hno : Hid (wiB s1 m1 x1 s2 m2 x2 = false) := wiB_no (fun h => hs h.2.2.1)
        have hne : (s1 != s2) = true := by simp [hs]
        clear ho2 hs
        go_wp2
        go_ret
        exact ⟨ret_bool hno.out.symm, HB2.out⟩
end Go.Proofs.Ytccblehcemggjaa
