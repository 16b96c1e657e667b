/-
  Contract: the claim of a fill, of the program.
-/
import Derived.Test.YtnnlmdenffnjbaaMinL
import Derived.Test.YtnnlmdenffnjbaaStore7
namespace Go.Proofs.Ytnnlmdenffnjbaa
open Go.RowKit

/-- The claim of a fill. -/
noncomputable def cfK (sz : Int) (m : Nat) (x : Nat → Int) : Clm := if lxB sz m x 0 = true then { zeroK with K := 5, s := sz, n0 := m, x0 := x, D := (miL sz m x).map fun l => (none, 0, l) } else zeroK
theorem cfK_no {sz : Int} {m : Nat} {x : Nat → Int} (h : lxB sz m x 0 = false) : cfK sz m x = zeroK := by unfold cfK; rw [h]; rfl
theorem cfK_yes {sz : Int} {m : Nat} {x : Nat → Int} (h : lxB sz m x 0 = true) : cfK sz m x = { zeroK with K := 5, s := sz, n0 := m, x0 := x, D := (miL sz m x).map fun l => (none, 0, l) } := by unfold cfK; rw [h]; rfl
theorem lists_none (L : List (List Int)) : lists (L.map fun l => ((none, 0, l) : Dsc)) = L := by unfold lists; rw [List.map_map]; exact List.map_id' L
theorem cfK_small {sz : Int} {m : Nat} {x : Nat → Int} (h : m ≤ 1048576) : SmK (cfK sz m x) := by
  cases hb : lxB sz m x 0
  · rw [cfK_no hb]; exact ⟨by decide, by decide, by decide, by decide, by decide, by decide⟩
  · rw [cfK_yes hb]
    have h2 := miL_two (sz := sz) (m := m) (x := x)
    refine ⟨h, Nat.zero_le _, Nat.zero_le _, Nat.zero_le _, ?_, ?_⟩
    · show ((miL sz m x).map _).length ≤ _; rw [List.length_map]; omega
    · show tot ((miL sz m x).map _) ≤ _
      rw [tot_two (by rw [lists_none]; exact h2.2), List.length_map]; omega

set_option maxRecDepth 100000 in
set_option maxHeartbeats 1600000 in
theorem ClaimOfFill_i (sz : Int) (A : Option Addr) (m c : Nat) (x : Nat → Int) (w : World) (B : Nat) (h : Rd w B A m c x) (hB : B ≤ w.heap.size) (hm : m ≤ 1048576) :
    Calls Try.prog 48 #[.agg #[.int .i64 sz, .slice A m c]] w fun e w' => ∃ k : Clm, e = .returned (.tuple #[.agg #[.int .i64 k.K, .int .i64 k.s, .slice k.A0 k.n0 k.c0, .string k.t, .slice k.A1 k.n1 k.c1, .slice k.A2 k.n2 k.c2, .slice k.A3 k.D.length k.c3], .bool (lxB sz m x 0)]) ∧ SameK k (cfK sz m x) ∧ ApK k ∧ OwnK w' w.heap.size w'.heap.size k ∧ Below w.heap.size w w' := by
  obtain ⟨W, hW⟩ : ∃ W : World, W = ((w.alloc (Obj.cells #[Value.int IntKind.i64 sz, Value.slice A m c] 28)).alloc (Obj.cells #[.int .i64 0, .int .i64 0, .slice none 0 0, .string ⟨#[]⟩, .slice none 0 0, .slice none 0 0, .slice none 0 0] 46)) := ⟨_, rfl⟩
  have HB : Hid (From w W) := by rw [hW]; exact (From.alloc _ _).alloc_ _
  have HK : Hid (GA W A m c x) := ⟨h.keep (HB.out.below.mono hB) (Nat.le_trans hB HB.out.below.size)⟩
  have HC : Hid (GC W w.heap.size sz A m c) := by rw [hW]; exact (GC.new _ _ _ _ _).keep ((Below.refl _ _).alloc (Nat.le_refl _) _)
  have HQ : Hid (KB W (w.heap.size + 1) zeroK) := by
    rw [hW]
    have := KB.new (w.alloc (Obj.cells #[Value.int IntKind.i64 sz, Value.slice A m c] 28))
    have e : (w.alloc (Obj.cells #[Value.int IntKind.i64 sz, Value.slice A m c] 28)).heap.size = w.heap.size + 1 := by simp
    rw [e] at this
    exact this
  have hsW : w.heap.size + 2 = W.heap.size := by rw [hW]; simp
  have HS := Lib.hid hsW
  have HW := Lib.hid hW
  clear hW h hsW
  go_enter Try.func48, Try.ntmps48
  have e0 := HC.out.c0
  have e1 := HC.out.c1
  go_wp2_with fail
  rw [← HW.out]
  refine (MinimalFill_i sz A m c x W HK.out hm).mono ?_
  rintro e w1 ⟨A1, c1, D, rfl, hD, hO, hb1⟩
  clear HW
  clear e0 e1
  replace HB := Lib.hid (HB.out.keep hb1)
  replace HK := Lib.hid (HK.out.keep hb1)
  replace HC := Lib.hid (HC.out.keep hb1)
  replace HQ := Lib.hid (HQ.out.keep hb1)
  clear hb1
  have e0 := HC.out.c0
  have e1 := HC.out.c1
  have HD := Lib.hid hD
  have HO := Lib.hid hO
  clear hD hO
  have q0 := HQ.out.c0
  have q1 := HQ.out.c1
  have q2 := HQ.out.c2
  have q3 := HQ.out.c3
  have q4 := HQ.out.c4
  have q5 := HQ.out.c5
  have q6 := HQ.out.c6
  have g0 := HQ.out.f0
  have g1 := HQ.out.f1
  have g2 := HQ.out.f2
  have g3 := HQ.out.f3
  have g4 := HQ.out.f4
  have g5 := HQ.out.f5
  have g6 := HQ.out.f6
  cases hb : lxB sz m x 0
  · have hz : Hid (cfK sz m x = zeroK) := cfK_no hb
    have Hc := Lib.hid hb
    clear hb HO
    go_wp2
    have HB2 := HB.out.set7 (q := w.heap.size + 1) (by omega) zeroK
    exact bodyPost_ret (v := .tuple #[.agg #[.int .i64 0, .int .i64 0, .slice none 0 0, .string ⟨#[]⟩, .slice none 0 0, .slice none 0 0, .slice none 0 0], .bool false]) (by simp [results, Try.results48, go_sem, *]) rfl ⟨zeroK, by rw [Hc.out]; rfl, by rw [hz.out]; exact ⟨rfl, rfl, rfl, rfl, rfl, rfl, rfl, rfl, rfl, rfl⟩, ApK.zero, OwnK.zero _ _ _, HB2.below⟩
  · have ho : okB sz m x = true := by
      have h := hb
      unfold lxB at h
      rw [Bool.and_eq_true] at h
      exact h.2
    obtain ⟨_, es, vg0, _⟩ := okB_ok' ho
    subst es
    have hz : Hid (cfK (m : Int) m x = _) := cfK_yes hb
    have Hc := Lib.hid hb
    clear hb ho vg0 q0 q1 q2 q3 q4 q5 q6 g0 g1 g2 g3 g4 g5 g6
    go_wp2_with fail
    refine (copyGraph_any (m : Int) A m c x w1 w1.heap.size HK.out.rd (Nat.le_refl _) hm).mono ?_
    rintro e w2 ⟨A2, c2, rfl, hO2, hb2⟩
    have H2 : Hid (Own w2 w1.heap.size w2.heap.size 3 1 A2 m c2 (fun j => .int .i64 (x j))) := hO2.mono (by omega) (Nat.le_refl _)
    have HO2 : Hid (OwnD w2 W.heap.size w1.heap.size A1 c1 D) := HO.out.keepB hb2 (Nat.le_refl _)
    have HB2 := Lib.hid (HB.out.keep hb2)
    have HQ2 := Lib.hid (HQ.out.keep hb2)
    have z12 := hb2.size
    have zW1 : W.heap.size ≤ w1.heap.size := by
      have := HS.out
      have := HQ.out.lt
      have := HB.out.below.size
      rcases HO.out.1 with ⟨h, _⟩ | ⟨g, cur, _, k2, k3, _⟩ <;> omega
    have q0 := HQ2.out.c0
    have q1 := HQ2.out.c1
    have q2 := HQ2.out.c2
    have q3 := HQ2.out.c3
    have q4 := HQ2.out.c4
    have q5 := HQ2.out.c5
    have q6 := HQ2.out.c6
    have g0 := HQ2.out.f0
    have g1 := HQ2.out.f1
    have g2 := HQ2.out.f2
    have g3 := HQ2.out.f3
    have g4 := HQ2.out.f4
    have g5 := HQ2.out.f5
    have g6 := HQ2.out.f6
    clear hO2 hb2 HO HB HK HC e0 e1
    go_wp2
    clear q0 q1 q2 q3 q4 q5 q6 g0 g1 g2 g3 g4 g5 g6
    obtain ⟨Y, hY⟩ : ∃ Y : World, Y = st7 w2 (w.heap.size + 1) (.int .i64 5) (.int .i64 m) (.slice A2 m c2) (.string ⟨#[]⟩) (.slice none 0 0) (.slice none 0 0) (.slice A1 D.length c1) := ⟨_, rfl⟩
    have hKY : KB Y (w.heap.size + 1) ⟨5, m, A2, m, c2, x, ⟨#[]⟩, none, 0, 0, fun _ => 0, none, 0, 0, fun _ => 0, A1, c1, D⟩ := by rw [hY]; exact HQ2.out.st7 ⟨5, m, A2, m, c2, x, ⟨#[]⟩, none, 0, 0, fun _ => 0, none, 0, 0, fun _ => 0, A1, c1, D⟩
    have hFY : Fr (w.heap.size + 1) (w.heap.size + 1 + 1) w2 Y := by rw [hY]; exact fr_st7 ..
    have hYB : Below w.heap.size w Y := HB2.out.below.trans (hFY.below (Nat.le_succ _) HB2.out.below.size)
    have hOY : OwnD Y W.heap.size w1.heap.size A1 c1 D := HO2.out.keep hFY (.inr (by have := HS.out; omega))
    have hRY : Own Y w1.heap.size w2.heap.size 3 1 A2 m c2 (fun j => .int .i64 (x j)) := H2.out.keep hFY (.inr (by have := HS.out; omega))
    have hzY := hFY.size
    unfold st7 at hY
    rw [← hY]
    have q0 : Y.cell? ⟨w.heap.size + 1, 0, none⟩ = some (.int .i64 5) := hKY.c0
    have q1 : Y.cell? ⟨w.heap.size + 1, 1, none⟩ = some (.int .i64 m) := hKY.c1
    have q2 : Y.cell? ⟨w.heap.size + 1, 2, none⟩ = some (.slice A2 m c2) := hKY.c2
    have q3 : Y.cell? ⟨w.heap.size + 1, 3, none⟩ = some (.string ⟨#[]⟩) := hKY.c3
    have q4 : Y.cell? ⟨w.heap.size + 1, 4, none⟩ = some (.slice none 0 0) := hKY.c4
    have q5 : Y.cell? ⟨w.heap.size + 1, 5, none⟩ = some (.slice none 0 0) := hKY.c5
    have q6 : Y.cell? ⟨w.heap.size + 1, 6, none⟩ = some (.slice A1 D.length c1) := hKY.c6
    have hap : ApK ⟨5, m, A2, m, c2, x, ⟨#[]⟩, none, 0, 0, fun _ => 0, none, 0, 0, fun _ => 0, A1, c1, D⟩ := by
      refine ⟨(fun a _ e => by cases e), (fun a _ e => by cases e), (fun a h => by cases h), fun d hd a ha e => ?_, (fun d _ a h => by cases h), (fun d _ a h => by cases h)⟩
      rcases hRY.at_block with h | ⟨g, h, h1, _⟩
      · rw [h] at ha; cases ha
      · rcases (hOY.2.1 d hd).at_block with h' | ⟨g', h', _, h2⟩
        · rw [h'] at e; cases e
        · have e1 : (⟨g, 0, none⟩ : Addr) = a := by rw [h] at ha; injection ha
          have e2 : (⟨g', 0, none⟩ : Addr) = a := by rw [h'] at e; injection e
          rw [← e1] at e2
          injection e2 with e3
          omega
    have zw := HS.out
    exact bodyPost_ret (v := .tuple #[.agg #[.int .i64 5, .int .i64 m, .slice A2 m c2, .string ⟨#[]⟩, .slice none 0 0, .slice none 0 0, .slice A1 D.length c1], .bool true]) (by simp [results, Try.results48, go_sem, q0, q1, q2, q3, q4, q5, q6]) rfl ⟨⟨5, m, A2, m, c2, x, ⟨#[]⟩, none, 0, 0, fun _ => 0, none, 0, 0, fun _ => 0, A1, c1, D⟩, by rw [Hc.out], by rw [hz.out]; exact ⟨rfl, rfl, rfl, rfl, rfl, rfl, rfl, rfl, rfl, by rw [lists_none]; exact HD.out⟩, hap, ⟨hRY.mono (by omega) hzY, Own.nil _ _ _ _ _ _, Own.nil _ _ _ _ _ _, hOY.mono (by omega) (by omega)⟩, hYB⟩
end Go.Proofs.Ytnnlmdenffnjbaa
