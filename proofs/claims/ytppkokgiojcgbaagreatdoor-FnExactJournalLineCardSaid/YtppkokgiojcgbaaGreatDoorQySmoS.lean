/-
  Several texts in one.
-/
import Derived.Test.YtppkokgiojcgbaaGreatDoorQyOrlS
import Derived.Test.YtppkokgiojcgbaaGreatDoorQyPthI
import Derived.Test.YtppkokgiojcgbaaGreatDoorQySmoI
/-
  Contract: is a graph chordal? Out of the very elimination order (the reference's).
-/
namespace Go.Proofs.YtppkokgiojcgbaaGreatDoor
open Go.RowKit

theorem EliminationOf_sx (sz : Int) (A : Option Addr) (m c : Nat) (x : Nat → Int) (w : World) (B : Nat) (h : Rd w B A m c x) (hB : B ≤ w.heap.size) (hm : m ≤ 1048576) :
    Calls Tryz.prog 137 #[.agg #[.int .i64 sz, .slice A m c]] w fun e w' => ∃ A' n' c', e = .returned (.tuple #[.slice A' n' c', .bool (chB sz m x)]) ∧ Below w.heap.size w w' :=
  (EliminationOf_sl sz A m c x w B h hB hm).mono fun e w' ⟨A', c', he, _, hb⟩ => ⟨A', _, c', by rw [← orG_chB]; exact he, hb⟩
set_option maxHeartbeats 1000000 in
theorem IsChordal_sx (sz : Int) (A : Option Addr) (m c : Nat) (x : Nat → Int) (w : World) (B : Nat) (h : Rd w B A m c x) (hB : B ≤ w.heap.size) (hm : m ≤ 1048576) :
    Calls Tryz.prog 73 #[.agg #[.int .i64 sz, .slice A m c]] w fun e w' => e = .returned (.bool (chB sz m x)) ∧ Below w.heap.size w w' := by
  obtain ⟨W, hW⟩ : ∃ W : World, W = (w.alloc (Obj.cells #[Value.int IntKind.i64 sz, Value.slice A m c] 29)) := ⟨_, rfl⟩
  have HB : Hid (Below w.heap.size w W) := by rw [hW]; exact ((Below.refl _ _).alloc (Nat.le_refl _) _)
  have a0 : w.heap.size < W.heap.size := by rw [hW]; simp
  have HK := Lib.hid (h.keep (HB.out.mono hB) (Nat.le_refl _))
  have HW := Lib.hid hW
  clear hW h
  go_enter Tryz.func73, Tryz.ntmps73
  go_wp2_with fail
  rw [← HW.out]
  clear HW
  refine (EliminationOf_sx sz A m c x W B HK.out (by omega) hm).mono ?_
  rintro e w1 ⟨A', n', c', rfl, hb1⟩
  have HB1 : Hid (Below w.heap.size w w1) := HB.out.trans (hb1.mono (by omega))
  clear hb1 HK HB
  go_wp2
  go_ret
  exact ⟨rfl, HB1.out⟩
end Go.Proofs.YtppkokgiojcgbaaGreatDoor

/-
  Contracts: the order in which the least simple vertex is taken away; is a graph strongly chordal? The reference's.
-/
namespace Go.Proofs.YtppkokgiojcgbaaGreatDoor
open Go.RowKit

set_option maxRecDepth 100000 in
set_option maxHeartbeats 1600000 in
theorem SimpleOrder_s (sz : Int) (A : Option Addr) (m c : Nat) (x : Nat → Int) (w : World) (B : Nat) (h : Rd w B A m c x) (hB : B ≤ w.heap.size) (hm : m ≤ 1048576) :
    Calls Tryz.prog 144 #[.agg #[.int .i64 sz, .slice A m c]] w fun e w' => ∃ A' n' c', e = .returned (.tuple #[.slice A' n' c', .bool (sgB sz m x)]) ∧ Below w.heap.size w w' := by
  obtain ⟨W, hW⟩ : ∃ W : World, W = ((w.alloc (Obj.cells #[Value.int IntKind.i64 sz, Value.slice A m c] 29)).alloc (Obj.cells #[] 3)) := ⟨_, rfl⟩
  have HB : Hid (Below w.heap.size w W) := by rw [hW]; exact ((Below.refl _ _).alloc (Nat.le_refl _) _).alloc (by simp) _
  have HZ : Hid (w.heap.size + 2 = W.heap.size) := by rw [hW]; simp [Hid]
  have a0 : w.heap.size < W.heap.size := by have := HZ.out; omega
  have e0 : W.cell? ⟨w.heap.size, 0, none⟩ = some (.int .i64 sz) := by rw [hW]; simp [go_sem]
  have e1 : W.cell? ⟨w.heap.size, 1, none⟩ = some (.slice A m c) := by rw [hW]; simp [go_sem]
  have HG : Hid (W.heap[w.heap.size + 1]? = some (.cells #[] 3 (0, 0))) := by
    rw [hW]
    have := heap_alloc_new (w.alloc (Obj.cells #[Value.int IntKind.i64 sz, Value.slice A m c] 29)) (Obj.cells #[] 3)
    simpa [Hid] using this
  have HK := Lib.hid (h.keep (HB.out.mono hB) (Nat.le_refl _))
  have HW := Lib.hid hW
  clear hW h
  go_enter Tryz.func144, Tryz.ntmps144
  go_wp2_with fail
  rw [← HW.out]
  refine (IsGraph_sany sz A m c x W B HK.out (by omega) hm).mono ?_
  rintro e w1 ⟨rfl, hb1⟩
  have f0 := up hb1 e0 a0
  have f1 := up hb1 e1 a0
  have z1 := hb1.size
  have HB1 : Hid (Below w.heap.size w w1) := HB.out.trans (hb1.mono (by omega))
  have HK1 : Hid (Rd w1 B A m c x) := HK.out.keep (hb1.mono (by omega)) (Nat.le_refl _)
  have HG1 : Hid (w1.heap[w.heap.size + 1]? = some (.cells #[] 3 (0, 0))) := (hb1.block _ (by have := HZ.out; omega)).trans HG.out
  clear hb1 e0 e1 HW HK HB HG
  cases ho : okB sz m x
  · have hno : Hid (sgB sz m x = false) := sgB_no ho
    clear ho
    go_wp2
    go_ret2
    exact ⟨_, _, _, by rw [hno.out]; rfl, HB1.out⟩
  · have hok2 : OkG sz m x := by
      refine Classical.byContradiction fun h2 => ?_
      rw [okB_no h2] at ho; cases ho
    obtain ⟨_, es, vg0, _⟩ := hok2
    subst es
    have hn1 := vg0.n1
    have hn7 := vg0.n7
    have h128 := two_pow_le hn7
    have hpos := Nat.two_pow_pos m
    have Hok := Lib.hid ho
    have p1 := pow_shl m hn7
    have p2 := two_pow_int m hn7
    have hall : (2 : Int) ^ m - 1 = ((2 ^ m - 1 : Nat) : Int) := by rw [Int.ofNat_sub hpos]; simp
    have Hall := Lib.hid hall
    have b1 : w.heap.size < w1.heap.size := by omega
    have HO : Hid (Own w1 (w.heap.size + 1) w1.heap.size 3 1 (some ⟨w.heap.size + 1, 0, none⟩) 0 0 (ni [])) :=
      .inr ⟨w.heap.size + 1, #[], rfl, Nat.le_refl _, by have := HZ.out; omega, HG1.out, Nat.le_refl _, by unfold maxLen; omega, rfl, fun j hj => absurd hj (by omega)⟩
    clear ho vg0 hall HG1
    go_wp2
    rw [Hall.out]
    clear p1 p2
    go_loopw [4, 5] (fun l i wr => ∃ (left : Nat) (A' : Option Addr) (c' : Nat) (T : List Nat), l = .slice A' T.length c' ∧ i = .int .i64 left ∧ T.length + left + 1 ≤ 2 ^ m ∧ Hid (Own wr (w.heap.size + 1) wr.heap.size 3 1 A' T.length c' (ni T)) ∧ Hid (sgE (rw_ x) (2 ^ m - 1) = sgE (rw_ x) left) ∧ Hid (Below (w.heap.size + 1) w1 wr)) (fun _ i _ => (intOf i).toNat)
    case atStart => exact ⟨2 ^ m - 1, _, 0, [], rfl, rfl, by simp; omega, HO, rfl, Below.refl _ _⟩
    case round =>
      obtain ⟨left, A', c', T, rfl, rfl, hkl, HY, HE, hbr⟩ := hrel
      have zr := hbr.out.size
      have j0 := up hbr.out f0 (by omega)
      have j1 := up hbr.out f1 (by omega)
      by_cases hl0 : left = 0
      · have hyes : Hid (sgB (m : Int) m x = true) := sgB_eq Hok.out (HE.out.trans (by rw [hl0]; exact sgE_zero _))
        have hle : (left : Int) ≤ 0 := by omega
        clear hl0
        go_wp2
        go_ret2
        exact ⟨_, _, _, by rw [hyes.out]; rfl, HB1.out.trans (hbr.out.mono (by omega))⟩
      · have hgt : (0 : Int) < (left : Int) := by omega
        have hgd : decide (0 < left) = true := by simp; omega
        have Hl0 := Lib.hid hl0
        clear hl0
        go_wp2
        obtain ⟨wo, rfl⟩ : ∃ wo : World, wo = wr := ⟨_, rfl⟩
        go_loopw [6, 7] (fun b i wr => ∃ (t : Nat), t ≤ m ∧ i = .int .i64 ((t : Int) - 1) ∧ ((b = .int .i64 (-1) ∧ Hid (∀ u, t ≤ u → left.testBit u = true → simB (rw_ x) u left = false)) ∨ ∃ v : Nat, b = .int .i64 v ∧ v < m ∧ Hid (t ≤ v ∧ left.testBit v = true ∧ simB (rw_ x) v left = true ∧ ∀ u, t ≤ u → u < v → left.testBit u = true → simB (rw_ x) u left = false)) ∧ Hid (Below wo.heap.size wo wr)) (fun _ i _ => (intOf i + 1).toNat)
        case atStart => exact ⟨m, Nat.le_refl _, rfl, .inl ⟨rfl, fun u hu hb => by have := bit_lt (by omega : left < 2 ^ m) hb; omega⟩, Below.refl _ _⟩
        case round =>
          obtain ⟨t, htm, rfl, hbest, hbw⟩ := hrel
          have zw := hbw.out.size
          have i0 := up hbw.out j0 (by omega)
          have i1 := up hbw.out j1 (by omega)
          by_cases ht0 : t = 0
          · have hneg : ((t : Int) - 1) < 0 := by omega
            have HYw : Hid (Own wr (w.heap.size + 1) wr.heap.size 3 1 A' T.length c' (ni T)) := (HY.out.keepB hbw.out (Nat.le_refl _)).mono (Nat.le_refl _) zw
            have HBw : Hid (Below (w.heap.size + 1) w1 wr) := hbr.out.trans (hbw.out.mono (by omega))
            rcases hbest with ⟨rfl, hno⟩ | ⟨v, rfl, hvm, hyes⟩
            · have hf : sgF (rw_ x) left = none := sgF_no fun u _ hb => hno.out u (by omega) hb
              have hno2 : Hid (sgB (m : Int) m x = false) := sgB_eq Hok.out (HE.out.trans (sgE_none Hl0.out hf))
              clear hno hf HE ht0
              go_wp2
              go_ret2
              exact ⟨_, _, _, by rw [hno2.out]; rfl, HB1.out.trans ((HBw.out.mono (by omega)).alloc (by omega) _)⟩
            · obtain ⟨_, hbit, hcl, hmin⟩ := hyes.out
              have hf : sgF (rw_ x) left = some v := sgF_least (by omega) hbit hcl (fun u hu hb => hmin u (by omega) hu hb)
              have HE2 : Hid (sgE (rw_ x) (2 ^ m - 1) = sgE (rw_ x) (left ^^^ 2 ^ v)) := HE.out.trans (sgE_some hf)
              have hlt := xor_bit_lt hbit
              have hxs := (xor_bit hbit).2
              have hE3 : Hid ((left : Int) - 2 ^ v = ((left ^^^ 2 ^ v : Nat) : Int)) := by
                show _ = _
                have p3 : ((2 ^ v : Nat) : Int) = 2 ^ v := by simp
                rw [← p3]
                omega
              have p1 := pow_shl v (by omega)
              have p2 := two_pow_int v (by omega)
              have hge0 : (0 : Int) ≤ (v : Int) := by omega
              clear hyes hbit hcl hmin hf HE hxs ht0
              go_wp2_with (first | (at_builtin; (refine wpList_pushN wr rfl _ _ rfl (w.heap.size + 1) wr.heap.size A' c' T HYw.out (by omega) v rfl 1 wr.heap.size rfl rfl (by omega) ?_; intro g cap w3 hO2 hb2)))
              have H4 := Lib.hid hO2
              have H5 : Hid (Below (w.heap.size + 1) w1 w3) := HBw.out.trans hb2
              clear hO2 hb2
              go_roundw
              case rel => exact ⟨left ^^^ 2 ^ v, _, _, T ++ [v], by rw [List.length_append]; rfl, congrArg (Value.int .i64) hE3.out, by rw [List.length_append]; simp; omega, by rw [List.length_append]; exact H4.out, HE2, H5⟩
              case measure => simp [intOf] <;> omega
          · obtain ⟨v, rfl⟩ : ∃ v, t = v + 1 := ⟨t - 1, by omega⟩
            have ev : (((v + 1 : Nat) : Int) - 1) = (v : Int) := by omega
            rw [ev]
            have HBst := Lib.hid hbest
            have hge0 : (0 : Int) ≤ (v : Int) := by omega
            have HK2 : Hid (Rd wr B A m c x) := HK1.out.keep ((hbr.out.trans (hbw.out.mono (by omega))).mono (by omega)) (Nat.le_refl _)
            have hleft : left < 2 ^ m := by omega
            have hBw : B ≤ wr.heap.size := by omega
            have KS := Lib.hid (IsSimple_sv (v := v) (GV.of HK2.out hBw Hok.out) hleft (by omega))
            clear ev ht0 hbest
            go_wp2_with fail
            refine KS.out.mono ?_
            rintro e w3 ⟨rfl, hb3⟩
            have HB3 : Hid (Below wo.heap.size wo w3) := hbw.out.trans (hb3.mono zw)
            clear hb3 i0 i1 HK2 KS
            cases hcl : simB (rw_ x) v left
            · have Hc := Lib.hid hcl
              clear hcl
              go_wp2
              refine ⟨⟨v, by omega, rfl, ?_, HB3⟩, by simp [intOf] <;> omega⟩
              rcases HBst.out with ⟨rfl, hno⟩ | ⟨bv, rfl, hbm, hyes⟩
              · refine .inl ⟨rfl, fun u hu hb => ?_⟩
                by_cases huv : u = v
                · subst huv; exact Hc.out
                · exact hno.out u (by omega) hb
              · refine .inr ⟨bv, rfl, hbm, by have := hyes.out.1; omega, hyes.out.2.1, hyes.out.2.2.1, fun u hu hub hb => ?_⟩
                by_cases huv : u = v
                · subst huv; exact Hc.out
                · exact hyes.out.2.2.2 u (by omega) hub hb
            · have Hc := Lib.hid hcl
              have Hb : Hid (left.testBit v = true) := by
                show _ = _
                cases h : left.testBit v
                · rw [sim_out h] at hcl; cases hcl
                · rfl
              clear hcl
              go_wp2
              refine ⟨⟨v, by omega, rfl, ?_, HB3⟩, by simp [intOf] <;> omega⟩
              exact .inr ⟨v, rfl, by omega, Nat.le_refl _, Hb.out, Hc.out, fun u hu hub _ => by omega⟩

set_option maxHeartbeats 1000000 in
theorem IsStronglyChordal_s (sz : Int) (A : Option Addr) (m c : Nat) (x : Nat → Int) (w : World) (B : Nat) (h : Rd w B A m c x) (hB : B ≤ w.heap.size) (hm : m ≤ 1048576) :
    Calls Tryz.prog 80 #[.agg #[.int .i64 sz, .slice A m c]] w fun e w' => e = .returned (.bool (sgB sz m x)) ∧ Below w.heap.size w w' := by
  obtain ⟨W, hW⟩ : ∃ W : World, W = (w.alloc (Obj.cells #[Value.int IntKind.i64 sz, Value.slice A m c] 29)) := ⟨_, rfl⟩
  have HB : Hid (Below w.heap.size w W) := by rw [hW]; exact ((Below.refl _ _).alloc (Nat.le_refl _) _)
  have a0 : w.heap.size < W.heap.size := by rw [hW]; simp
  have HK := Lib.hid (h.keep (HB.out.mono hB) (Nat.le_refl _))
  have HW := Lib.hid hW
  clear hW h
  go_enter Tryz.func80, Tryz.ntmps80
  go_wp2_with fail
  rw [← HW.out]
  clear HW
  refine (SimpleOrder_s sz A m c x W B HK.out (by omega) hm).mono ?_
  rintro e w1 ⟨A', n', c', rfl, hb1⟩
  have HB1 : Hid (Below w.heap.size w w1) := HB.out.trans (hb1.mono (by omega))
  clear hb1 HK HB
  go_wp2
  go_ret
  exact ⟨rfl, HB1.out⟩
end Go.Proofs.YtppkokgiojcgbaaGreatDoor
