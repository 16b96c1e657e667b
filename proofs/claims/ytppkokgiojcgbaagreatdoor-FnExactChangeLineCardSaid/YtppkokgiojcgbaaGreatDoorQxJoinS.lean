/-
  Several texts in one.
-/
import Derived.Test.YtppkokgiojcgbaaGreatDoorQxOrlS
import Derived.Test.YtppkokgiojcgbaaGreatDoorQxPthI
import Derived.Test.YtppkokgiojcgbaaGreatDoorQxSmoI
import Derived.Test.YtppkokgiojcgbaaGreatDoorQxGB
import Derived.Test.YtppkokgiojcgbaaGreatDoorQxFmS
import Derived.Test.YtppkokgiojcgbaaGreatDoorQxSet2I
import Derived.Test.YtppkokgiojcgbaaGreatDoorQxSet2S
import Derived.Deep.RegionHeld3
import Derived.Test.YtppkokgiojcgbaaGreatDoorQxJoinI
/-
-/
namespace Go.Proofs.YtppkokgiojcgbaaGreatDoor
open Go.RowKit
theorem EliminationOf_sx (sz : Int) (A : Option Addr) (m c : Nat) (x : Nat → Int) (w : World) (B : Nat) (h : Rd w B A m c x) (hB : B ≤ w.heap.size) (hm : m ≤ 1048576) :
 Calls Tryz.prog 137 #[.agg #[.int .i64 sz, .slice A m c]] w fun e w' => ∃ A' n' c', e = .returned (.tuple #[.slice A' n' c', .bool (chB sz m x)]) ∧ Below w.heap.size w w' :=
 (EliminationOf_sl sz A m c x w B h hB hm).mono fun e w' ⟨A', c', he, _, hb⟩ => ⟨A', _, c', by rw [← orG_chB]; exact he, hb⟩
set_option maxHeartbeats 1000000 in
theorem IsChordal_sx (sz : Int) (A : Option Addr) (m c : Nat) (x : Nat → Int) (w : World) (B : Nat) (h : Rd w B A m c x) (hB : B ≤ w.heap.size) (hm : m ≤ 1048576) :
 Calls Tryz.prog 73 #[.agg #[.int .i64 sz, .slice A m c]] w fun e w' => e = .returned (.bool (chB sz m x)) ∧ Below w.heap.size w w' := by
 obtain ⟨W, hW⟩ : ∃ W : World, W = (w.alloc (Obj.cells #[Value.int IntKind.i64 sz, Value.slice A m c] 29)) := ⟨_, rfl⟩
 have HB : Hid (Below w.heap.size w W) := by rw [hW]; exact ((Below.refl _ _).alloc (Nat.le_refl _) _)
 have a0 : w.heap.size < W.heap.size := by rw [hW]; simp
 have HK := Lib.hid (h.keep (HB.out.mono hB) (Nat.le_refl _))
 have HW := Lib.hid hW
 clear hW h
 go_enter Tryz.func73, Tryz.ntmps73
 go_wp2_with fail
 rw [← HW.out]
 clear HW
 refine (EliminationOf_sx sz A m c x W B HK.out (by omega) hm).mono ?_
 rintro e w1 ⟨A', n', c', rfl, hb1⟩
 have HB1 : Hid (Below w.heap.size w w1) := HB.out.trans (hb1.mono (by omega))
 clear hb1 HK HB
 go_wp2
 go_ret
 exact ⟨rfl, HB1.out⟩
end Go.Proofs.YtppkokgiojcgbaaGreatDoor

/-
-/
namespace Go.Proofs.YtppkokgiojcgbaaGreatDoor
open Go.RowKit
set_option maxRecDepth 100000 in
set_option maxHeartbeats 1600000 in
theorem SimpleOrder_s (sz : Int) (A : Option Addr) (m c : Nat) (x : Nat → Int) (w : World) (B : Nat) (h : Rd w B A m c x) (hB : B ≤ w.heap.size) (hm : m ≤ 1048576) :
 Calls Tryz.prog 144 #[.agg #[.int .i64 sz, .slice A m c]] w fun e w' => ∃ A' n' c', e = .returned (.tuple #[.slice A' n' c', .bool (sgB sz m x)]) ∧ Below w.heap.size w w' := by
 obtain ⟨W, hW⟩ : ∃ W : World, W = ((w.alloc (Obj.cells #[Value.int IntKind.i64 sz, Value.slice A m c] 29)).alloc (Obj.cells #[] 3)) := ⟨_, rfl⟩
 have HB : Hid (Below w.heap.size w W) := by rw [hW]; exact ((Below.refl _ _).alloc (Nat.le_refl _) _).alloc (by simp) _
 have HZ : Hid (w.heap.size + 2 = W.heap.size) := by rw [hW]; simp [Hid]
 have a0 : w.heap.size < W.heap.size := by have := HZ.out; omega
 have e0 : W.cell? ⟨w.heap.size, 0, none⟩ = some (.int .i64 sz) := by rw [hW]; simp [go_sem]
 have e1 : W.cell? ⟨w.heap.size, 1, none⟩ = some (.slice A m c) := by rw [hW]; simp [go_sem]
 have HG : Hid (W.heap[w.heap.size + 1]? = some (.cells #[] 3 (0, 0))) := by
  rw [hW]
  have := heap_alloc_new (w.alloc (Obj.cells #[Value.int IntKind.i64 sz, Value.slice A m c] 29)) (Obj.cells #[] 3)
  simpa [Hid] using this
 have HK := Lib.hid (h.keep (HB.out.mono hB) (Nat.le_refl _))
 have HW := Lib.hid hW
 clear hW h
 go_enter Tryz.func144, Tryz.ntmps144
 go_wp2_with fail
 rw [← HW.out]
 refine (IsGraph_sany sz A m c x W B HK.out (by omega) hm).mono ?_
 rintro e w1 ⟨rfl, hb1⟩
 have f0 := up hb1 e0 a0
 have f1 := up hb1 e1 a0
 have z1 := hb1.size
 have HB1 : Hid (Below w.heap.size w w1) := HB.out.trans (hb1.mono (by omega))
 have HK1 : Hid (Rd w1 B A m c x) := HK.out.keep (hb1.mono (by omega)) (Nat.le_refl _)
 have HG1 : Hid (w1.heap[w.heap.size + 1]? = some (.cells #[] 3 (0, 0))) := (hb1.block _ (by have := HZ.out; omega)).trans HG.out
 clear hb1 e0 e1 HW HK HB HG
 cases ho : okB sz m x
 ·have hno : Hid (sgB sz m x = false) := sgB_no ho
  clear ho
  go_wp2
  go_ret2
  exact ⟨_, _, _, by rw [hno.out]; rfl, HB1.out⟩
 ·have hok2 : OkG sz m x := by
   refine Classical.byContradiction fun h2 => ?_
   rw [okB_no h2] at ho; cases ho
  obtain ⟨_, es, vg0, _⟩ := hok2
  subst es
  have hn1 := vg0.n1
  have hn7 := vg0.n7
  have h128 := two_pow_le hn7
  have hpos := Nat.two_pow_pos m
  have Hok := Lib.hid ho
  have p1 := pow_shl m hn7
  have p2 := two_pow_int m hn7
  have hall : (2 : Int) ^ m - 1 = ((2 ^ m - 1 : Nat) : Int) := by rw [Int.ofNat_sub hpos]; simp
  have Hall := Lib.hid hall
  have b1 : w.heap.size < w1.heap.size := by omega
  have HO : Hid (Own w1 (w.heap.size + 1) w1.heap.size 3 1 (some ⟨w.heap.size + 1, 0, none⟩) 0 0 (ni [])) :=
   .inr ⟨w.heap.size + 1, #[], rfl, Nat.le_refl _, by have := HZ.out; omega, HG1.out, Nat.le_refl _, by unfold maxLen; omega, rfl, fun j hj => absurd hj (by omega)⟩
  clear ho vg0 hall HG1
  go_wp2
  rw [Hall.out]
  clear p1 p2
  go_loopw [4, 5] (fun l i wr => ∃ (left : Nat) (A' : Option Addr) (c' : Nat) (T : List Nat), l = .slice A' T.length c' ∧ i = .int .i64 left ∧ T.length + left + 1 ≤ 2 ^ m ∧ Hid (Own wr (w.heap.size + 1) wr.heap.size 3 1 A' T.length c' (ni T)) ∧ Hid (sgE (rw_ x) (2 ^ m - 1) = sgE (rw_ x) left) ∧ Hid (Below (w.heap.size + 1) w1 wr)) (fun _ i _ => (intOf i).toNat)
  case atStart => exact ⟨2 ^ m - 1, _, 0, [], rfl, rfl, by simp; omega, HO, rfl, Below.refl _ _⟩
  case round =>
   obtain ⟨left, A', c', T, rfl, rfl, hkl, HY, HE, hbr⟩ := hrel
   have zr := hbr.out.size
   have j0 := up hbr.out f0 (by omega)
   have j1 := up hbr.out f1 (by omega)
   by_cases hl0 : left = 0
   ·have hyes : Hid (sgB (m : Int) m x = true) := sgB_eq Hok.out (HE.out.trans (by rw [hl0]; exact sgE_zero _))
    have hle : (left : Int) ≤ 0 := by omega
    clear hl0
    go_wp2
    go_ret2
    exact ⟨_, _, _, by rw [hyes.out]; rfl, HB1.out.trans (hbr.out.mono (by omega))⟩
   ·have hgt : (0 : Int) < (left : Int) := by omega
    have hgd : decide (0 < left) = true := by simp; omega
    have Hl0 := Lib.hid hl0
    clear hl0
    go_wp2
    obtain ⟨wo, rfl⟩ : ∃ wo : World, wo = wr := ⟨_, rfl⟩
    go_loopw [6, 7] (fun b i wr => ∃ (t : Nat), t ≤ m ∧ i = .int .i64 ((t : Int) - 1) ∧ ((b = .int .i64 (-1) ∧ Hid (∀ u, t ≤ u → left.testBit u = true → simB (rw_ x) u left = false)) ∨ ∃ v : Nat, b = .int .i64 v ∧ v < m ∧ Hid (t ≤ v ∧ left.testBit v = true ∧ simB (rw_ x) v left = true ∧ ∀ u, t ≤ u → u < v → left.testBit u = true → simB (rw_ x) u left = false)) ∧ Hid (Below wo.heap.size wo wr)) (fun _ i _ => (intOf i + 1).toNat)
    case atStart => exact ⟨m, Nat.le_refl _, rfl, .inl ⟨rfl, fun u hu hb => by have := bit_lt (by omega : left < 2 ^ m) hb; omega⟩, Below.refl _ _⟩
    case round =>
     obtain ⟨t, htm, rfl, hbest, hbw⟩ := hrel
     have zw := hbw.out.size
     have i0 := up hbw.out j0 (by omega)
     have i1 := up hbw.out j1 (by omega)
     by_cases ht0 : t = 0
     ·have hneg : ((t : Int) - 1) < 0 := by omega
      have HYw : Hid (Own wr (w.heap.size + 1) wr.heap.size 3 1 A' T.length c' (ni T)) := (HY.out.keepB hbw.out (Nat.le_refl _)).mono (Nat.le_refl _) zw
      have HBw : Hid (Below (w.heap.size + 1) w1 wr) := hbr.out.trans (hbw.out.mono (by omega))
      rcases hbest with ⟨rfl, hno⟩ | ⟨v, rfl, hvm, hyes⟩
      ·have hf : sgF (rw_ x) left = none := sgF_no fun u _ hb => hno.out u (by omega) hb
       have hno2 : Hid (sgB (m : Int) m x = false) := sgB_eq Hok.out (HE.out.trans (sgE_none Hl0.out hf))
       clear hno hf HE ht0
       go_wp2
       go_ret2
       exact ⟨_, _, _, by rw [hno2.out]; rfl, HB1.out.trans ((HBw.out.mono (by omega)).alloc (by omega) _)⟩
      ·obtain ⟨_, hbit, hcl, hmin⟩ := hyes.out
       have hf : sgF (rw_ x) left = some v := sgF_least (by omega) hbit hcl (fun u hu hb => hmin u (by omega) hu hb)
       have HE2 : Hid (sgE (rw_ x) (2 ^ m - 1) = sgE (rw_ x) (left ^^^ 2 ^ v)) := HE.out.trans (sgE_some hf)
       have hlt := xor_bit_lt hbit
       have hxs := (xor_bit hbit).2
       have hE3 : Hid ((left : Int) - 2 ^ v = ((left ^^^ 2 ^ v : Nat) : Int)) := by
        show _ = _
        have p3 : ((2 ^ v : Nat) : Int) = 2 ^ v := by simp
        rw [← p3]
        omega
       have p1 := pow_shl v (by omega)
       have p2 := two_pow_int v (by omega)
       have hge0 : (0 : Int) ≤ (v : Int) := by omega
       clear hyes hbit hcl hmin hf HE hxs ht0
       go_wp2_with (first | (at_builtin; (refine wpList_pushN wr rfl _ _ rfl (w.heap.size + 1) wr.heap.size A' c' T HYw.out (by omega) v rfl 1 wr.heap.size rfl rfl (by omega) ?_; intro g cap w3 hO2 hb2)))
       have H4 := Lib.hid hO2
       have H5 : Hid (Below (w.heap.size + 1) w1 w3) := HBw.out.trans hb2
       clear hO2 hb2
       go_roundw
       case rel => exact ⟨left ^^^ 2 ^ v, _, _, T ++ [v], by rw [List.length_append]; rfl, congrArg (Value.int .i64) hE3.out, by rw [List.length_append]; simp; omega, by rw [List.length_append]; exact H4.out, HE2, H5⟩
       case measure => simp [intOf] <;> omega
     ·obtain ⟨v, rfl⟩ : ∃ v, t = v + 1 := ⟨t - 1, by omega⟩
      have ev : (((v + 1 : Nat) : Int) - 1) = (v : Int) := by omega
      rw [ev]
      have HBst := Lib.hid hbest
      have hge0 : (0 : Int) ≤ (v : Int) := by omega
      have HK2 : Hid (Rd wr B A m c x) := HK1.out.keep ((hbr.out.trans (hbw.out.mono (by omega))).mono (by omega)) (Nat.le_refl _)
      have hleft : left < 2 ^ m := by omega
      have hBw : B ≤ wr.heap.size := by omega
      have KS := Lib.hid (IsSimple_sv (v := v) (GV.of HK2.out hBw Hok.out) hleft (by omega))
      clear ev ht0 hbest
      go_wp2_with fail
      refine KS.out.mono ?_
      rintro e w3 ⟨rfl, hb3⟩
      have HB3 : Hid (Below wo.heap.size wo w3) := hbw.out.trans (hb3.mono zw)
      clear hb3 i0 i1 HK2 KS
      cases hcl : simB (rw_ x) v left
      ·have Hc := Lib.hid hcl
       clear hcl
       go_wp2
       refine ⟨⟨v, by omega, rfl, ?_, HB3⟩, by simp [intOf] <;> omega⟩
       rcases HBst.out with ⟨rfl, hno⟩ | ⟨bv, rfl, hbm, hyes⟩
       ·refine .inl ⟨rfl, fun u hu hb => ?_⟩
        by_cases huv : u = v
        ·subst huv; exact Hc.out
        ·exact hno.out u (by omega) hb
       ·refine .inr ⟨bv, rfl, hbm, by have := hyes.out.1; omega, hyes.out.2.1, hyes.out.2.2.1, fun u hu hub hb => ?_⟩
        by_cases huv : u = v
        ·subst huv; exact Hc.out
        ·exact hyes.out.2.2.2 u (by omega) hub hb
      ·have Hc := Lib.hid hcl
       have Hb : Hid (left.testBit v = true) := by
        show _ = _
        cases h : left.testBit v
        ·rw [sim_out h] at hcl; cases hcl
        ·rfl
       clear hcl
       go_wp2
       refine ⟨⟨v, by omega, rfl, ?_, HB3⟩, by simp [intOf] <;> omega⟩
       exact .inr ⟨v, rfl, by omega, Nat.le_refl _, Hb.out, Hc.out, fun u hu hub _ => by omega⟩
set_option maxHeartbeats 1000000 in
theorem IsStronglyChordal_s (sz : Int) (A : Option Addr) (m c : Nat) (x : Nat → Int) (w : World) (B : Nat) (h : Rd w B A m c x) (hB : B ≤ w.heap.size) (hm : m ≤ 1048576) :
 Calls Tryz.prog 80 #[.agg #[.int .i64 sz, .slice A m c]] w fun e w' => e = .returned (.bool (sgB sz m x)) ∧ Below w.heap.size w w' := by
 obtain ⟨W, hW⟩ : ∃ W : World, W = (w.alloc (Obj.cells #[Value.int IntKind.i64 sz, Value.slice A m c] 29)) := ⟨_, rfl⟩
 have HB : Hid (Below w.heap.size w W) := by rw [hW]; exact ((Below.refl _ _).alloc (Nat.le_refl _) _)
 have a0 : w.heap.size < W.heap.size := by rw [hW]; simp
 have HK := Lib.hid (h.keep (HB.out.mono hB) (Nat.le_refl _))
 have HW := Lib.hid hW
 clear hW h
 go_enter Tryz.func80, Tryz.ntmps80
 go_wp2_with fail
 rw [← HW.out]
 clear HW
 refine (SimpleOrder_s sz A m c x W B HK.out (by omega) hm).mono ?_
 rintro e w1 ⟨A', n', c', rfl, hb1⟩
 have HB1 : Hid (Below w.heap.size w w1) := HB.out.trans (hb1.mono (by omega))
 clear hb1 HK HB
 go_wp2
 go_ret
 exact ⟨rfl, HB1.out⟩
end Go.Proofs.YtppkokgiojcgbaaGreatDoor

/-
-/
namespace Go.Proofs.YtppkokgiojcgbaaGreatDoor
open Go.RowKit
structure Clm where
 K : Int
 s : Int
 A0 : Option Addr
 n0 : Nat
 c0 : Nat
 x0 : Nat → Int
 t : ByteArray
 A1 : Option Addr
 n1 : Nat
 c1 : Nat
 x1 : Nat → Int
 A2 : Option Addr
 n2 : Nat
 c2 : Nat
 x2 : Nat → Int
 A3 : Option Addr
 c3 : Nat
 D : List Dsc
section
variable {w w' : World} {lo hi lo' hi' B B' : Nat} {k j : Clm}
end
end Go.Proofs.YtppkokgiojcgbaaGreatDoor

/-
-/
namespace Go.Proofs.YtppkokgiojcgbaaGreatDoor
open Go.RowKit
structure KB (w : World) (q : Nat) (k : Clm) : Prop where
 c0 : w.cell? ⟨q, 0, none⟩ = some (.int .i64 k.K)
 c1 : w.cell? ⟨q, 1, none⟩ = some (.int .i64 k.s)
 c2 : w.cell? ⟨q, 2, none⟩ = some (.slice k.A0 k.n0 k.c0)
 c3 : w.cell? ⟨q, 3, none⟩ = some (.string k.t)
 c4 : w.cell? ⟨q, 4, none⟩ = some (.slice k.A1 k.n1 k.c1)
 c5 : w.cell? ⟨q, 5, none⟩ = some (.slice k.A2 k.n2 k.c2)
 c6 : w.cell? ⟨q, 6, none⟩ = some (.slice k.A3 k.D.length k.c3)
 f0 : w.frozen? ⟨q, 0, none⟩ = false
 f1 : w.frozen? ⟨q, 1, none⟩ = false
 f2 : w.frozen? ⟨q, 2, none⟩ = false
 f3 : w.frozen? ⟨q, 3, none⟩ = false
 f4 : w.frozen? ⟨q, 4, none⟩ = false
 f5 : w.frozen? ⟨q, 5, none⟩ = false
 f6 : w.frozen? ⟨q, 6, none⟩ = false
section
variable {w w' : World} {q : Nat} {k j : Clm}
theorem KB.lt (h : KB w q k) : q < w.heap.size := World.block_lt_of_cell? _ _ h.c0
theorem KB.keep (h : KB w q k) (hb : Below w.heap.size w w') : KB w' q k :=
 ⟨up hb h.c0 h.lt, up hb h.c1 h.lt, up hb h.c2 h.lt, up hb h.c3 h.lt, up hb h.c4 h.lt, up hb h.c5 h.lt, up hb h.c6 h.lt, upf hb h.f0 h.lt, upf hb h.f1 h.lt, upf hb h.f2 h.lt, upf hb h.f3 h.lt, upf hb h.f4 h.lt, upf hb h.f5 h.lt, upf hb h.f6 h.lt⟩
end
end Go.Proofs.YtppkokgiojcgbaaGreatDoor

/-
-/
namespace Go.Proofs.YtppkokgiojcgbaaGreatDoor
open Go.RowKit
section
variable {A : Option Addr} {m c : Nat} {r : Nat → Nat}
set_option maxHeartbeats 1000000 in
theorem SplitOf_sv {w : World} (h : GV w A m c r) :
 Calls Tryz.prog 141 #[.agg #[.int .i64 m, .slice A m c]] w fun e w' => e = .returned (lsV (slO r m)) ∧ Below w.heap.size w w' := by
 have hn7 := h.vg.n7
 have h128 := two_pow_le hn7
 have hpos := Nat.two_pow_pos m
 have hpc := pow_cast m
 have p1 := pow_shl m hn7
 obtain ⟨W, hW⟩ : ∃ W : World, W = (w.alloc (Obj.cells #[Value.int IntKind.i64 m, Value.slice A m c] 29)) := ⟨_, rfl⟩
 have HB : Hid (From w W) := by rw [hW]; exact From.alloc _ _
 have HG : Hid (GBox W w.heap.size A m c r) := by rw [hW]; exact h.box
 have HW := Lib.hid hW
 clear hW h
 have e0 := HG.out.c0
 have e1 := HG.out.c1
 go_enter Tryz.func141, Tryz.ntmps141
 go_wp2
 rw [← HW.out]
 clear HW
 go_loopw [4] (fun i wr => ∃ k : Nat, k ≤ 2 ^ m ∧ i = .int .i64 k ∧ Hid (∀ u, u < k → splB r m u = false) ∧ Hid (From W wr)) (fun i _ => 2 ^ m - (intOf i).toNat)
 case atStart => exact ⟨0, Nat.zero_le _, rfl, (fun u hu => absurd hu (by omega)), From.refl _⟩
 case round =>
  obtain ⟨k, hk, rfl, hall, HR⟩ := hrel
  clear e0 e1
  replace HB := Lib.hid (HB.out.keep HR.out.below)
  replace HG := Lib.hid (HG.out.keep HR.out.below)
  have e0 := HG.out.c0
  have e1 := HG.out.c1
  go_wp2_with fail
  refine (IsGraph_sv HG.out.gv).mono ?_
  rintro e w1 ⟨rfl, hb1⟩
  clear e0 e1
  replace HB := Lib.hid (HB.out.keep hb1)
  replace HG := Lib.hid (HG.out.keep hb1)
  replace HR := Lib.hid (HR.out.keep hb1)
  clear hb1
  have e0 := HG.out.c0
  have e1 := HG.out.c1
  by_cases hlt : k < 2 ^ m
  ·have i1 : (k : Int) < 2 ^ m := by omega
   go_wp2_with fail
   refine (IsSplitPartition_sv HG.out.gv hlt).mono ?_
   rintro e w2 ⟨rfl, hb2⟩
   clear e0 e1
   replace HB := Lib.hid (HB.out.keep hb2)
   replace HG := Lib.hid (HG.out.keep hb2)
   replace HR := Lib.hid (HR.out.keep hb2)
   clear hb2
   have e0 := HG.out.c0
   have e1 := HG.out.c1
   cases hp : splB r m k
   ·have Hn : Hid (∀ u, u < k + 1 → splB r m u = false) := fun u hu => by
     by_cases huk : u < k
     ·exact hall.out u huk
     ·obtain rfl : u = k := by omega
      exact hp
    clear hp
    go_wp2
    go_roundw
    case rel => exact ⟨k + 1, by omega, by go_num, Hn, HR⟩
    case measure => simp [intOf]; omega
   ·have Hn : Hid (slO r m = some k) := lsK_yes hlt hp hall.out
    clear hp
    go_wp2
    go_ret2
    exact ⟨by rw [Hn.out]; rfl, HB.out.below⟩
  ·have Hn : Hid (slO r m = none) := lsK_no fun u hu => hall.out u (by omega)
   have i1 : (2 : Int) ^ m ≤ (k : Int) := by omega
   go_wp2
   go_ret2
   exact ⟨by rw [Hn.out]; rfl, HB.out.below⟩
end
section
variable (sz : Int) (A : Option Addr) (m c : Nat) (x : Nat → Int) (w : World)
set_option maxHeartbeats 1000000 in
theorem SplitOf_sno (h : GA w A m c x) (hm : m ≤ 1048576) (hok : okB sz m x = false) :
 Calls Tryz.prog 141 #[.agg #[.int .i64 sz, .slice A m c]] w fun e w' => e = .returned (lsV none) ∧ Below w.heap.size w w' := by
 obtain ⟨W, hW⟩ : ∃ W : World, W = (w.alloc (Obj.cells #[Value.int IntKind.i64 sz, Value.slice A m c] 29)) := ⟨_, rfl⟩
 have HB : Hid (From w W) := by rw [hW]; exact From.alloc _ _
 have HK := Lib.hid (h.keep HB.out.below)
 have HC : Hid (GC W w.heap.size sz A m c) := by rw [hW]; exact GC.new _ _ _ _ _
 have HW := Lib.hid hW
 have Ho := Lib.hid hok
 clear hW h hok
 go_enter Tryz.func141, Tryz.ntmps141
 go_wp2_with fail
 rw [← HW.out]
 clear HW
 go_wp2
 go_loopw [4] (fun i wr => i = .int .i64 0 ∧ wr = W) (fun i _ => 1)
 case atStart => exact ⟨rfl, rfl⟩
 case round =>
  obtain ⟨rfl, rfl⟩ := hrel
  have e0 := HC.out.c0
  have e1 := HC.out.c1
  go_wp2_with fail
  refine (IsGraph_sany sz A m c x wr wr.heap.size HK.out.rd (Nat.le_refl _) hm).mono ?_
  rintro e w1 ⟨rfl, hb1⟩
  rw [Ho.out]
  replace HB := Lib.hid (HB.out.keep hb1)
  clear hb1
  go_wp2
  go_ret2
  exact ⟨rfl, HB.out.below⟩
set_option maxRecDepth 100000 in
set_option maxHeartbeats 1600000 in
theorem IsSplit_s (h : GA w A m c x) (hm : m ≤ 1048576) :
 Calls Tryz.prog 77 #[.agg #[.int .i64 sz, .slice A m c]] w fun e w' => e = .returned (.bool (slB sz m x)) ∧ Below w.heap.size w w' := by
 obtain ⟨W, hW⟩ : ∃ W : World, W = (w.alloc (Obj.cells #[Value.int IntKind.i64 sz, Value.slice A m c] 29)) := ⟨_, rfl⟩
 have HB : Hid (From w W) := by rw [hW]; exact From.alloc _ _
 have HK := Lib.hid (h.keep HB.out.below)
 have HC : Hid (GC W w.heap.size sz A m c) := by rw [hW]; exact GC.new _ _ _ _ _
 have HW := Lib.hid hW
 clear hW h
 go_enter Tryz.func77, Tryz.ntmps77
 cases ho : okB sz m x
 ·have Hn : Hid (slB sz m x = false) := slB_no ho
  have KF := Lib.hid (SplitOf_sno sz A m c x W HK.out hm ho)
  clear ho
  have e0 := HC.out.c0
  have e1 := HC.out.c1
  go_wp2_with fail
  rw [← HW.out]
  refine (KF.out).mono ?_
  rintro e w1 ⟨rfl, hb1⟩
  clear HW
  clear e0 e1
  replace HB := Lib.hid (HB.out.keep hb1)
  replace HK := Lib.hid (HK.out.keep hb1)
  replace HC := Lib.hid (HC.out.keep hb1)
  clear hb1
  have e0 := HC.out.c0
  have e1 := HC.out.c1
  clear KF
  rw [lsV_none]
  go_wp2
  go_ret
  exact ⟨ret_bool Hn.out.symm, HB.out.below⟩
 obtain ⟨_, es, _, _⟩ := okB_ok' ho
 subst es
 have Hn : Hid (slB (m : Int) m x = (slO (rw_ x) m).isSome) := slB_yes ho
 have HG : Hid (GBox W w.heap.size A m c (rw_ x)) := ⟨HK.out.gv ho, HC.out.c0, HC.out.c1, HC.out.lt⟩
 have KF := Lib.hid (SplitOf_sv HG.out.gv)
 obtain ⟨o, ho2⟩ : ∃ o, o = slO (rw_ x) m := ⟨_, rfl⟩
 rw [← ho2] at Hn KF
 clear ho ho2 HC HK
 cases o
 ·skip
  have e0 := HG.out.c0
  have e1 := HG.out.c1
  go_wp2_with fail
  rw [← HW.out]
  refine (KF.out).mono ?_
  rintro e w2 ⟨rfl, hb2⟩
  clear HW
  clear e0 e1
  replace HB := Lib.hid (HB.out.keep hb2)
  replace HG := Lib.hid (HG.out.keep hb2)
  clear hb2
  have e0 := HG.out.c0
  have e1 := HG.out.c1
  clear KF
  rw [lsV_none]
  go_wp2
  go_ret
  exact ⟨ret_bool Hn.out.symm, HB.out.below⟩
 ·skip
  have e0 := HG.out.c0
  have e1 := HG.out.c1
  go_wp2_with fail
  rw [← HW.out]
  refine (KF.out).mono ?_
  rintro e w3 ⟨rfl, hb3⟩
  clear HW
  clear e0 e1
  replace HB := Lib.hid (HB.out.keep hb3)
  replace HG := Lib.hid (HG.out.keep hb3)
  clear hb3
  have e0 := HG.out.c0
  have e1 := HG.out.c1
  clear KF
  rw [lsV_some]
  go_wp2
  go_ret
  exact ⟨ret_bool Hn.out.symm, HB.out.below⟩
end
end Go.Proofs.YtppkokgiojcgbaaGreatDoor

/-
-/
namespace Go.Proofs.YtppkokgiojcgbaaGreatDoor
open Go.RowKit
section
variable (sz : Int) (A : Option Addr) (m c : Nat) (x : Nat → Int) (Al : Option Addr) (n cl : Nat) (l : List Int) (w : World)
set_option maxRecDepth 100000 in
set_option maxHeartbeats 6400000 in
theorem IsInducedPath_s (h : GA w A m c x) (hl : LI w Al n cl l) (hm : m ≤ 1048576) (hn : n ≤ 1048576) :
 Calls Tryz.prog 276 #[.agg #[.int .i64 sz, .slice A m c], .slice Al n cl] w fun e w' => e = .returned (.bool (ipB sz m x l)) ∧ Below w.heap.size w w' := by
 obtain ⟨W, hW⟩ : ∃ W : World, W = (w.alloc (Obj.cells #[Value.int IntKind.i64 sz, Value.slice A m c] 29)) := ⟨_, rfl⟩
 have HB : Hid (From w W) := by rw [hW]; exact From.alloc _ _
 have HK := Lib.hid (h.keep HB.out.below)
 have HL := Lib.hid (hl.keep HB.out.below)
 have HC : Hid (GC W w.heap.size sz A m c) := by rw [hW]; exact GC.new _ _ _ _ _
 have HW := Lib.hid hW
 have HN := Lib.hid hl.len
 clear hW h hl
 go_enter Tryz.func276, Tryz.ntmps276
 have e0 := HC.out.c0
 have e1 := HC.out.c1
 go_wp2_with fail
 rw [← HW.out]
 refine (l4Distinct_z sz A m c x Al n cl l W HK.out HL.out hm hn).mono ?_
 rintro e w1 ⟨rfl, hb1⟩
 clear HW
 clear e0 e1
 replace HB := Lib.hid (HB.out.keep hb1)
 replace HK := Lib.hid (HK.out.keep hb1)
 replace HL := Lib.hid (HL.out.keep hb1)
 replace HC := Lib.hid (HC.out.keep hb1)
 clear hb1
 have e0 := HC.out.c0
 have e1 := HC.out.c1
 cases hv : vrB sz m x l
 ·have hno : Hid (ipB sz m x l = false) := by show _ = _; unfold ipB; rw [ajB_bad hv, Bool.and_false]
  clear hv
  go_wp2
  go_ret
  exact ⟨ret_bool hno.out.symm, HB.out.below⟩
 ·obtain ⟨ho, hV⟩ := vrB_parts hv
  obtain ⟨_, es, vg0, _⟩ := okB_ok' ho
  subst es
  have hn7 := vg0.n7
  have HG : Hid (GV w1 A m c (rw_ x)) := HK.out.gv ho
  have HV := Lib.hid hV
  have Hv := Lib.hid hv
  have hn7' : n ≤ 7 := by rw [HN.out]; have := hV.len; omega
  clear hv ho hV vg0
  by_cases h0 : n = 0
  ·have hno : Hid (ipB (m : Int) m x l = false) := by show _ = _; unfold ipB; rw [decide_eq_false (by rw [← HN.out]; omega)]; rfl
   have i9 : ((n : Int) == 0) = true := by simp; omega
   go_wp2
   go_ret
   exact ⟨ret_bool hno.out.symm, HB.out.below⟩
  have i9 : ((n : Int) == 0) = false := by simp; omega
  have h0p : 0 < n := by omega
  clear h0
  go_wp2
  go_loopw [5] (fun k wr => ∃ K : Nat, K ≤ n ∧ k = .int .i64 K ∧ Hid (∀ k, k < K → ∀ i, i < k → edZ x (l.getD i 0) (l.getD k 0) = pathJ i k) ∧ Hid (From w1 wr)) (fun k _ => n - (intOf k).toNat)
  case atStart => exact ⟨0, Nat.zero_le _, rfl, fun k hk => absurd hk (by omega), From.refl _⟩
  case round =>
   obtain ⟨K, hK, rfl, hall, HR⟩ := hrel
   by_cases hlt : K < n
   ·have i1 : (K : Int) < (n : Int) := by omega
    have HRo := HR
    have Hlt := Lib.hid hlt
    go_wp2
    go_loopw [6] (fun i wz => ∃ j : Nat, j ≤ K ∧ i = .int .i64 j ∧ Hid (∀ i, i < j → edZ x (l.getD i 0) (l.getD K 0) = pathJ i K) ∧ Hid (From w1 wz)) (fun i _ => K - (intOf i).toNat)
    case atStart => exact ⟨0, Nat.zero_le _, rfl, fun i hi => absurd hi (by omega), HRo⟩
    case round =>
     clear HR HRo
     obtain ⟨j, hj, rfl, hin, HR⟩ := hrel
     by_cases hjK : j < K
     ·have i2 : (j : Int) < (K : Int) := by omega
      have HLr := Lib.hid (HL.out.keep HR.out.below)
      have HGr := Lib.hid (HG.out.keep HR.out.below)
      have HCr := Lib.hid (HC.out.keep HR.out.below)
      have HBr := Lib.hid (HB.out.keep HR.out.below)
      obtain ⟨b2, o2, rfl⟩ := HLr.out.addr (by omega)
      have p0 := HLr.out.at (j := j) (by omega)
      have p1 := HLr.out.at (j := K) (by omega)
      have hmj := getD_mem (l := l) (k := j) (by rw [← HN.out]; omega)
      have hmk := getD_mem (l := l) (k := K) (by rw [← HN.out]; omega)
      obtain ⟨a0, a1⟩ := HV.out.2 _ hmj
      obtain ⟨d0, d1⟩ := HV.out.2 _ hmk
      obtain ⟨u, hu⟩ := Int.eq_ofNat_of_zero_le a0
      obtain ⟨v, hvv⟩ := Int.eq_ofNat_of_zero_le d0
      have Hed : Hid (edZ x (l.getD j 0) (l.getD K 0) = (rw_ x u).testBit v) := by show _ = _; unfold edZ; rw [hu, hvv, Int.toNat_natCast, Int.toNat_natCast]
      rw [hu] at p0 a1
      rw [hvv] at p1 d1
      have hum : u < m := by omega
      have hvm : v < m := by omega
      have hsym : (rw_ x v).testBit u = (rw_ x u).testBit v := HGr.out.vg.sym _ _ hvm hum
      obtain ⟨t, ht⟩ : ∃ t, t = (rw_ x u).testBit v := ⟨_, rfl⟩
      rw [← ht] at Hed hsym
      have KE : Hid (∀ z : World, Below wr.heap.size wr z → Calls Tryz.prog 70 #[.agg #[.int .i64 m, .slice A m c], .int .i64 v, .int .i64 u] z fun e w' => e = .returned (.bool t) ∧ Below z.heap.size z w') := fun z hz => by
       have := l2Edge_v (HGr.out.keep hz) hvm hum
       rwa [hsym] at this
      have i3 : (j : Int) < (n : Int) := by omega
      have i4 : (K : Int) < (n : Int) := by omega
      have s1 : IntKind.i64.wrap ((K : Int) - 1) = (K : Int) - 1 := Go.IntWalk.i64_in _ (by omega)
      have s2 : IntKind.i64.wrap ((n : Int) - 1) = (n : Int) - 1 := Go.IntWalk.i64_in _ (by omega)
      clear hmj hmk hu hvv ht a0 d0 hsym
      have e0 := HCr.out.c0
      have e1 := HCr.out.c1
      by_cases h1 : j + 1 = K
      ·have q1 : ((j : Int) == (K : Int) - 1) = true := by simp; omega
       have HJ : Hid (pathJ j K = true) := by show _ = _; unfold pathJ; simp; omega
       go_wp2
       have HSC : Hid (∀ z : World, Below wr.heap.size wr z → (Below wr.heap.size wr z ∧ z.cell? ⟨w.heap.size, 0, none⟩ = some (.int .i64 m) ∧ z.cell? ⟨w.heap.size, 1, none⟩ = some (.slice A m c) ∧ z.cell? ⟨b2, o2 + j, none⟩ = some (.int .i64 u) ∧ z.cell? ⟨b2, o2 + K, none⟩ = some (.int .i64 v))) := fun z hz => ⟨hz, up_ hz e0, up_ hz e1, up_ hz p0, up_ hz p1⟩
       have HZ0 : Hid (Below wr.heap.size wr wr.drew) := (Below.refl _ _).drew
       have HS1 := Lib.hid (HSC.out _ HZ0.out)
       have KR1 : Hid (∀ z : World, Below wr.heap.size wr z → _) := fun z hz => KE.out z hz
       go_region_held3 (fun z => Below wr.heap.size wr z ∧ z.cell? ⟨w.heap.size, 0, none⟩ = some (.int .i64 m) ∧ z.cell? ⟨w.heap.size, 1, none⟩ = some (.slice A m c) ∧ z.cell? ⟨b2, o2 + j, none⟩ = some (.int .i64 u) ∧ z.cell? ⟨b2, o2 + K, none⟩ = some (.int .i64 v))
        (first | exact HS1.out | assumption | exact HSC.out _ hz2 | fail)
        (first | (go_at_call 70; ((with_reducible refine (KR1.out _ HZ0.out).mono ?_); rintro e w2 ⟨rfl, hb2⟩; have hz2 := bl_trans HZ0.out hb2)))
       clear e0 e1
       replace HCr := Lib.hid (HCr.out.keep hz2)
       replace HR := Lib.hid (HR.out.keep hz2)
       replace HBr := Lib.hid (HBr.out.keep hz2)
       clear hb2 hz2 HSC HZ0 HS1 KR1
       have e0 := HCr.out.c0
       have e1 := HCr.out.c1
       cases t
       ·have hno : Hid (ajB (m : Int) m x l pathJ = false) := ajB_no (i := j) (k := K) hjK (by rw [← HN.out]; exact Hlt.out) (by rw [Hed.out, HJ.out]; decide)
        have hno2 : Hid (ipB (m : Int) m x l = false) := by show _ = _; unfold ipB; rw [hno.out, Bool.and_false]
        go_wp2
        go_ret
        exact ⟨ret_bool hno2.out.symm, HBr.out.below⟩
       ·go_wp2
        go_roundw
        case rel =>
         refine ⟨j + 1, by omega, by go_num, fun i hi => ?_, HR⟩
         by_cases hij : i < j
         ·exact hin.out i hij
         ·obtain rfl : i = j := by omega
          rw [Hed.out, HJ.out]
        case measure => (simp [intOf] <;> omega)
      ·have q1 : ((j : Int) == (K : Int) - 1) = false := by simp; omega
       have HJ : Hid (pathJ j K = false) := by show _ = _; unfold pathJ; simp; omega
       go_wp2
       have HSC : Hid (∀ z : World, Below wr.heap.size wr z → (Below wr.heap.size wr z ∧ z.cell? ⟨w.heap.size, 0, none⟩ = some (.int .i64 m) ∧ z.cell? ⟨w.heap.size, 1, none⟩ = some (.slice A m c) ∧ z.cell? ⟨b2, o2 + j, none⟩ = some (.int .i64 u) ∧ z.cell? ⟨b2, o2 + K, none⟩ = some (.int .i64 v))) := fun z hz => ⟨hz, up_ hz e0, up_ hz e1, up_ hz p0, up_ hz p1⟩
       have HZ0 : Hid (Below wr.heap.size wr wr.drew) := (Below.refl _ _).drew
       have HS1 := Lib.hid (HSC.out _ HZ0.out)
       have KR1 : Hid (∀ z : World, Below wr.heap.size wr z → _) := fun z hz => KE.out z hz
       go_region_held3 (fun z => Below wr.heap.size wr z ∧ z.cell? ⟨w.heap.size, 0, none⟩ = some (.int .i64 m) ∧ z.cell? ⟨w.heap.size, 1, none⟩ = some (.slice A m c) ∧ z.cell? ⟨b2, o2 + j, none⟩ = some (.int .i64 u) ∧ z.cell? ⟨b2, o2 + K, none⟩ = some (.int .i64 v))
        (first | exact HS1.out | assumption | exact HSC.out _ hz3 | fail)
        (first | (go_at_call 70; ((with_reducible refine (KR1.out _ HZ0.out).mono ?_); rintro e w3 ⟨rfl, hb3⟩; have hz3 := bl_trans HZ0.out hb3)))
       clear e0 e1
       replace HCr := Lib.hid (HCr.out.keep hz3)
       replace HR := Lib.hid (HR.out.keep hz3)
       replace HBr := Lib.hid (HBr.out.keep hz3)
       clear hb3 hz3 HSC HZ0 HS1 KR1
       have e0 := HCr.out.c0
       have e1 := HCr.out.c1
       cases t
       ·go_wp2
        go_roundw
        case rel =>
         refine ⟨j + 1, by omega, by go_num, fun i hi => ?_, HR⟩
         by_cases hij : i < j
         ·exact hin.out i hij
         ·obtain rfl : i = j := by omega
          rw [Hed.out, HJ.out]
        case measure => (simp [intOf] <;> omega)
       ·have hno : Hid (ajB (m : Int) m x l pathJ = false) := ajB_no (i := j) (k := K) hjK (by rw [← HN.out]; exact Hlt.out) (by rw [Hed.out, HJ.out]; decide)
        have hno2 : Hid (ipB (m : Int) m x l = false) := by show _ = _; unfold ipB; rw [hno.out, Bool.and_false]
        go_wp2
        go_ret
        exact ⟨ret_bool hno2.out.symm, HBr.out.below⟩
     ·obtain rfl : j = K := by omega
      go_wp2
      go_roundw
      case rel =>
       refine ⟨j + 1, by omega, by go_num, fun k hk i hi => ?_, HR⟩
       by_cases hkj : k < j
       ·exact hall.out k hkj i hi
       ·obtain rfl : k = j := by omega
        exact hin.out i hi
      case measure => (simp [intOf] <;> omega)
   ·have hyes : Hid (ajB (m : Int) m x l pathJ = true) := ajB_yes Hv.out fun k hk i hi => hall.out k (by rw [← HN.out] at hk; omega) i hi
    have hyes2 : Hid (ipB (m : Int) m x l = true) := by show _ = _; unfold ipB; rw [hyes.out, decide_eq_true (by rw [← HN.out]; omega)]; rfl
    have i1 : (n : Int) ≤ (K : Int) := by omega
    have HBr := Lib.hid (HB.out.keep HR.out.below)
    go_wp2
    go_ret
    exact ⟨ret_bool hyes2.out.symm, HBr.out.below⟩
end
end Go.Proofs.YtppkokgiojcgbaaGreatDoor
