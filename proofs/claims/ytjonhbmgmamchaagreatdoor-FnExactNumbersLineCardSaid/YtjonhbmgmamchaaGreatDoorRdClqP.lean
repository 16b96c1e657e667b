/-
  Several texts in one.
-/
import Derived.Test.YtjonhbmgmamchaaGreatDoorRdNumI
import Derived.Test.YtjonhbmgmamchaaGreatDoorRdBarI
import Derived.Test.YtjonhbmgmamchaaGreatDoorRdIdxI
import Derived.Test.YtjonhbmgmamchaaGreatDoorRdUmbI
import Derived.Test.YtjonhbmgmamchaaGreatDoorRdGB
import Derived.Test.YtjonhbmgmamchaaGreatDoorRdListS
/-
  Contracts: a cover by cliques: the program's.
-/
namespace Go.Proofs.YtjonhbmgmamchaaGreatDoor
open Go.RowKit

section
variable {A : Option Addr} {m c : Nat} {r : Nat → Nat}
theorem ComplementOf_v {w : World} (h : GV w A m c r) :
    Calls Tryz.prog 64 #[.agg #[.int .i64 m, .slice A m c]] w fun e w' => ∃ A' c', e = .returned (.tuple #[.agg #[.int .i64 m, .slice A' m c'], .bool true]) ∧ GV w' A' m c' (coR r m) ∧ Below w.heap.size w w' := by
  have hk := ComplementOf_i (m : Int) A m c _ w ⟨h.rd⟩ (by have := h.vg.n7; omega)
  rw [h.ok] at hk
  refine hk.mono ?_
  rintro e w' ⟨sz', A', m', c', rfl, h2, h3⟩
  obtain ⟨rfl, rfl, h4⟩ := h2 rfl
  rw [rw_cast] at h4
  exact ⟨A', c', rfl, h4, h3⟩

theorem made_own (w : World) (n : Nat) (hn : n ≤ 1048576) : ∃ W : World, (Instr.makeSlice 22 (.int .i64 (n : Int)) (.int .i64 (n : Int))).run Tryz.prog w = .ok (.slice (some ⟨w.heap.size, 0, none⟩) n n) W ∧ Own W w.heap.size (w.heap.size + 1) 3 1 (some ⟨w.heap.size, 0, none⟩) n n (fun _ => .int .i64 0) ∧ Below w.heap.size w W := by
  refine ⟨_, run_make_row' (P := Tryz.prog) 22 3 (.int .i64 0) 8 Tryz.underlying22 info_int rfl .i64 .i64 n (by omega) (by omega) w, ?_, (Below.refl _ _).alloc (Nat.le_refl _) _⟩
  obtain ⟨cc, q1, q2, q3⟩ := World.rowIs_made w (.int .i64 0) n 3
  exact .inr ⟨_, cc, rfl, Nat.le_refl _, Nat.lt_succ_self _, q1, Nat.le_refl _, by unfold maxLen; omega, by omega, fun j hj => by rw [q3 j (by omega)]⟩
theorem ccK_step {X : List Nat} {v u j : Nat} (hu : u = ccK X (X.getD v 0) v ||| 2 ^ v) : ccK X j (v + 1) = if j = X.getD v 0 then u else ccK X j v := by
  rw [ccK]
  by_cases h : j = X.getD v 0
  · rw [if_pos h.symm, if_pos h, hu, ← h]
  · rw [if_neg (fun e => h e.symm), if_neg h]
set_option maxRecDepth 100000 in
set_option maxHeartbeats 1600000 in
theorem CliqueCoverOf_v {w : World} (h : GV w A m c r) :
    Calls Tryz.prog 31 #[.agg #[.int .i64 m, .slice A m c]] w fun e w' => ∃ A' c', e = .returned (.slice A' (cvL r m).length c') ∧ ON w.heap.size w' A' c' (cvL r m) ∧ Below w.heap.size w w' := by
  have hn7 := h.vg.n7
  have hn1 := h.vg.n1
  obtain ⟨hcm, _, _⟩ := chN_spec (r := coR r m) hn1
  have hpos := chN_pos (r := coR r m) (m := m)
  have hcol := coL_some (r := coR r m) hn1
  obtain ⟨hx1, hx2⟩ := cOf_len hcol
  obtain ⟨K, hK⟩ : ∃ K, K = chN (coR r m) m := ⟨_, rfl⟩
  have hcvl : (cvL r m).length = K := by rw [cvL_len, hK]
  have HCV : Hid (cvL r m = (List.range K).map fun c => ccK (coL (coR r m) m) c m) := by rw [hK]; exact rfl
  have KC : Hid (∀ {A' : Option Addr} {c' : Nat} {z : World}, GV z A' m c' (coR r m) → Calls Tryz.prog 28 #[.agg #[.int .i64 m, .slice A' m c']] z fun e w' => e = .returned (.int .i64 (K : Nat)) ∧ Below z.heap.size z w') := by rw [hK]; exact fun h => ChromaticNumber_v h
  rw [← hK] at hcm hpos hcol hx2
  have hcolb : cOf (coR r m) m K = some (coL (coR r m) m) := hcol
  obtain ⟨X, hX⟩ : ∃ X, X = coL (coR r m) m := ⟨_, rfl⟩
  rw [← hX] at hx1 hx2 hcolb HCV
  have HX1 := Lib.hid hx1
  have HX2 := Lib.hid hx2
  have HCL := Lib.hid hcvl
  have HC := Lib.hid hcolb
  clear hK hcol hcolb hX hx1 hx2 hcvl
  obtain ⟨W, hW⟩ : ∃ W : World, W = (w.alloc (Obj.cells #[Value.int IntKind.i64 m, Value.slice A m c] 27)) := ⟨_, rfl⟩
  have HB : Hid (From w W) := by rw [hW]; exact From.alloc _ _
  have HG : Hid (GBox W w.heap.size A m c r) := by rw [hW]; exact h.box
  have HW := Lib.hid hW
  clear hW h
  have e0 := HG.out.c0
  have e1 := HG.out.c1
  go_enter Tryz.func31, Tryz.ntmps31
  go_wp2_with fail
  rw [← HW.out]
  refine (IsGraph_v HG.out.gv).mono ?_
  rintro e w1 ⟨rfl, hb1⟩
  clear HW
  clear e0 e1
  replace HB := Lib.hid (HB.out.keep hb1)
  replace HG := Lib.hid (HG.out.keep hb1)
  clear hb1
  have e0 := HG.out.c0
  have e1 := HG.out.c1
  go_wp2_with fail
  refine (ComplementOf_v HG.out.gv).mono ?_
  rintro e w2 ⟨A2, c2, rfl, hG2, hb2⟩
  clear e0 e1
  replace HB := Lib.hid (HB.out.keep hb2)
  replace HG := Lib.hid (HG.out.keep hb2)
  clear hb2
  have e0 := HG.out.c0
  have e1 := HG.out.c1
  obtain ⟨W2, hW2⟩ : ∃ W2 : World, W2 = (w2.alloc (Obj.cells #[Value.int IntKind.i64 m, Value.slice A2 m c2] 27)) := ⟨_, rfl⟩
  have hb2 : Below w2.heap.size w2 W2 := by rw [hW2]; exact (Below.refl _ _).alloc (Nat.le_refl _) _
  have HG2 : Hid (GV W2 A2 m c2 (coR r m)) := hG2.keep hb2
  have HQ : Hid (GC W2 w2.heap.size m A2 m c2) := by rw [hW2]; exact GC.new _ _ _ _ _
  have HB2 : Hid (From w W2) := HB.out.keep hb2
  have HW2 := Lib.hid hW2
  clear hW2 hb2 hG2 HB HG
  go_wp2_with fail
  rw [← HW2.out]
  clear HW2
  clear e0 e1
  have d0 := HQ.out.c0
  have d1 := HQ.out.c1
  refine (KC.out HG2.out).mono ?_
  rintro e w3 ⟨rfl, hb3⟩
  clear d0 d1
  replace HB2 := Lib.hid (HB2.out.keep hb3)
  replace HQ := Lib.hid (HQ.out.keep hb3)
  replace HG2 := Lib.hid (HG2.out.keep hb3)
  clear hb3
  have d0 := HQ.out.c0
  have d1 := HQ.out.c1
  have HBw : Hid (From w w3) := HB2.out
  obtain ⟨W4, hmk, hO4, hb4⟩ := made_own w3 K (by omega)
  have hz4 : w3.heap.size < W4.heap.size := by
    obtain ⟨_, e, _, _, h, _⟩ := hO4.at_ hpos
    injection e with e
    injection e with e
    rw [e]; exact h
  have HO4 := Lib.hid hO4
  have HB4 := Lib.hid hb4
  clear d0 d1
  replace HB2 := Lib.hid (HB2.out.keep hb4)
  replace HQ := Lib.hid (HQ.out.keep hb4)
  replace HG2 := Lib.hid (HG2.out.keep hb4)
  clear hb4 hO4
  have d0 := HQ.out.c0
  have d1 := HQ.out.c1
  go_wp2_with fail
  refine (ColoringWith_v HG2.out hpos (by omega)).mono ?_
  rintro e w5 ⟨A5, n5, c5, rfl, hx5, hb5⟩
  obtain ⟨rfl, hon⟩ := hx5 X HC.out
  have HO5 : Hid (Own w5 w3.heap.size (w3.heap.size + 1) 3 1 (some ⟨w3.heap.size, 0, none⟩) K K (fun j => .int .i64 (ccK X j 0 : Nat))) := (HO4.out.keepB hb5 hz4).congr fun j _ => rfl
  have HX5 : Hid (ON (w3.heap.size + 1) w5 A5 c5 X) := hon.mono hz4
  have HB5 : Hid (Below w3.heap.size w3 w5) := HB4.out.trans (hb5.mono (by omega))
  clear hx5 hon hb5 hmk d0 d1 HO4 HB4 HQ HG2 HB2
  go_wp2
  go_loopw [30] (fun i wr => ∃ v : Nat, v ≤ X.length ∧ i = .int .i64 v ∧ Hid (Own wr w3.heap.size (w3.heap.size + 1) 3 1 (some ⟨w3.heap.size, 0, none⟩) K K (fun j => .int .i64 (ccK X j v : Nat))) ∧ Hid (ON (w3.heap.size + 1) wr A5 c5 X) ∧ Hid (Below w3.heap.size w3 wr)) (fun i _ => X.length - (intOf i).toNat)
  case atStart => exact ⟨0, Nat.zero_le _, rfl, HO5, HX5, HB5⟩
  case round =>
    clear HO5 HX5 HB5 hz4
    obtain ⟨v, hv, rfl, HO, HX, HBr⟩ := hrel
    have hXm := HX1.out
    by_cases hlt : v < X.length
    · obtain ⟨b5, o5, rfl⟩ := HX.out.ln.addr (by omega)
      have p0 := HX.out.ln.at hlt
      obtain ⟨y, hy⟩ : ∃ y, y = X.getD v 0 := ⟨_, rfl⟩
      have hyX : X[v] = y := by rw [hy]; simp [List.getD, hlt]
      rw [hyX] at p0
      have hyK : y < K := HX2.out y (by rw [← hyX]; exact List.getElem_mem hlt)
      obtain ⟨g', e, _, _, _, h1, h2⟩ := HO.out.at_ (by omega)
      simp only [Option.some.injEq, Addr.mk.injEq, and_true] at e
      subst e
      have q0 := h1 y (by omega)
      have f0 := h2 y
      have hcl := ccK_lt (l := X) (c := y) v
      have h2v := two_pow_le (n := v) (by omega)
      obtain ⟨z, hz⟩ : ∃ z, z = 2 ^ v := ⟨_, rfl⟩
      have p1 : IntKind.i64.wrap ((2 : Int) ^ v) = (z : Int) := by rw [pow_shl v (by omega), hz]; simp
      obtain ⟨u, hu⟩ : ∃ u, u = ccK X y v ||| z := ⟨_, rfl⟩
      have E2 : bits .or .i64 (ccK X y v : Int) (z : Int) = (u : Int) := by rw [hu]; exact i64_or_nat _ _ (by omega) (by omega)
      have Hst : Hid (∀ j, ccK X j (v + 1) = if j = y then u else ccK X j v) := fun j => by rw [hy]; exact ccK_step (by rw [hu, hz, hy])
      have i1 : (v : Int) < (X.length : Int) := by omega
      have i2 : (y : Int) < (K : Int) := by omega
      obtain ⟨cc, hcc⟩ : ∃ cc, cc = ccK X y v := ⟨_, rfl⟩
      rw [← hcc] at q0 E2
      clear h1 h2 hy hyX hz hu hcc hcl h2v
      go_wp2
      go_region
      have F : Fr w3.heap.size (w3.heap.size + 1) wr (wr.setCell ⟨w3.heap.size, y, none⟩ (.int .i64 u)).drew := ((Fr.refl _ _ wr).setCell (p := ⟨w3.heap.size, y, none⟩) (Nat.le_refl _) (Nat.lt_succ_self _) _).drew
      have HO6 : Hid (Own (wr.setCell ⟨w3.heap.size, y, none⟩ (.int .i64 u)).drew w3.heap.size (w3.heap.size + 1) 3 1 (some ⟨w3.heap.size, 0, none⟩) K K (fun j => .int .i64 (ccK X j (v + 1) : Nat))) := ((HO.out.set_ y _).drew).congr (fun j _ => by rw [Hst.out]; split <;> rfl)
      have HX6 : Hid (ON (w3.heap.size + 1) (wr.setCell ⟨w3.heap.size, y, none⟩ (.int .i64 u)).drew (some ⟨b5, o5, none⟩) c5 X) := ⟨(HX.out.own.keep F (.inr (Nat.le_refl _))).mono (Nat.le_refl _) F.size⟩
      have HB6 : Hid (Below w3.heap.size w3 (wr.setCell ⟨w3.heap.size, y, none⟩ (.int .i64 u)).drew) := (HBr.out.setCell (p := ⟨w3.heap.size, y, none⟩) (Nat.le_refl _) _).drew
      clear F q0 f0 p0 p1 E2
      go_wp2
      go_roundw
      case rel => exact ⟨v + 1, by omega, by go_num, HO6, HX6, HB6⟩
      case measure => (simp [intOf] <;> omega)
    · obtain rfl : X.length = v := by omega
      have HBz : Hid (Below w.heap.size w wr) := HBw.out.below.trans (HBr.out.mono HBw.out.below.size)
      have HOz : Hid (ON w.heap.size wr (some ⟨w3.heap.size, 0, none⟩) K (cvL r m)) := ⟨by
        rw [HCL.out]
        refine ((HO.out.congr fun j hj => ?_).mono HBw.out.below.size ?_)
        · rw [HCV.out, ni_at (by simp; omega)]; simp [hXm]
        · obtain ⟨_, e, _, _, h, _⟩ := HO.out.at_ hpos
          injection e with e
          injection e with e
          omega⟩
      go_wp2
      go_ret
      exact ⟨some ⟨w3.heap.size, 0, none⟩, K, by rw [HCL.out]; rfl, HOz.out, HBz.out⟩
end
end Go.Proofs.YtjonhbmgmamchaaGreatDoor

/-
  Plain: the largest sets of neighbors of each other; lists of sets in which those with a vertex follow one another; the first such order.
-/
namespace Go.Proofs.YtjonhbmgmamchaaGreatDoor
open Go.RowKit

theorem cn_add_table : ∀ s, s < 128 → ∀ v, v < 7 → s.testBit v = false → cn (s ||| 2 ^ v) = cn s + 1 := by decide +kernel
section
variable {Q l : List Nat} {k i : Nat}
end
end Go.Proofs.YtjonhbmgmamchaaGreatDoor
