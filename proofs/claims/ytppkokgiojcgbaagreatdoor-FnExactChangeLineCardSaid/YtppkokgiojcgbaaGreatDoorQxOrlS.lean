/-
  Several texts in one.
-/
import Derived.Test.YtppkokgiojcgbaaGreatDoorQxSimP
import Derived.Test.YtppkokgiojcgbaaGreatDoorQxSet2S
import Derived.Test.YtppkokgiojcgbaaGreatDoorQxOrlI
import Derived.Test.YtppkokgiojcgbaaGreatDoorQxGC
/-
-/
namespace Go.Proofs.YtppkokgiojcgbaaGreatDoor
open Go.RowKit
theorem l1In_ts {n lo hi : Int} (w : World) (h1 : lo ≤ n) (h2 : n ≤ hi) : Calls Tryz.prog 92 #[.int .i64 n, .int .i64 lo, .int .i64 hi] w fun e w' => e = .returned (.bool true) ∧ Below w.heap.size w w' :=
 (l1In_yes n lo hi w h1 h2).mono fun _ _ ⟨h1, h2⟩ => ⟨h1, h2 ▸ Below.refl _ _⟩
theorem sim_no' {r : Nat → Nat} {s v i k : Nat} {T : List Nat} (hT : T = listN (nN r s v)) (hi : i < T.length) (hk : k < i) (h1 : nN r s (T.getD i 0) &&& nN r s (T.getD k 0) ≠ nN r s (T.getD i 0)) (h2 : nN r s (T.getD i 0) &&& nN r s (T.getD k 0) ≠ nN r s (T.getD k 0)) : simB r v s = false :=
 sim_no hT hi hk fun h => by rcases h with h | h <;> contradiction
theorem nN_read {r : Nat → Nat} {m s u : Nat} (hV : VG m r) (hu : u < m) (hs : s < 128) : ∃ y z nu : Nat, y = r u ∧ IntKind.i64.wrap ((2 : Int) ^ u) = (z : Int) ∧ bits .or .i64 (y : Int) (z : Int) = ((y ||| z : Nat) : Int) ∧ bits .and .i64 ((y ||| z : Nat) : Int) (s : Int) = (nu : Int) ∧ nu = nN r s u ∧ nu < 128 := by
 have hn7 := hV.n7
 have hr := hV.lt128 hu
 have h2u := two_pow_le (n := u) (by omega)
 have hor : r u ||| 2 ^ u < 2 ^ 8 := Nat.or_lt_two_pow (by omega) (by omega)
 refine ⟨r u, 2 ^ u, nN r s u, rfl, ?_, i64_or_nat _ _ (by omega) (by omega), i64_and_nat _ _ (by omega) (by omega), rfl, ?_⟩
 ·rw [pow_shl u (by omega)]; simp
 ·exact Nat.lt_of_le_of_lt Nat.and_le_right hs
set_option maxRecDepth 100000 in
set_option maxHeartbeats 6400000 in
theorem IsSimple_sv {A : Option Addr} {m c : Nat} {r : Nat → Nat} {s v : Nat} {w : World} (h : GV w A m c r) (hs : s < 2 ^ m) (hv : v < m) :
 Calls Tryz.prog 200 #[.agg #[.int .i64 m, .slice A m c], .int .i64 v, .int .i64 s] w fun e w' => e = .returned (.bool (simB r v s)) ∧ Below w.heap.size w w' := by
 have hn7 := h.vg.n7
 have h128 := two_pow_le hn7
 have HV := Lib.hid h.vg
 obtain ⟨b0, o0, rfl⟩ := h.addr
 obtain ⟨W, hW⟩ : ∃ W : World, W = (w.alloc (Obj.cells #[Value.int IntKind.i64 m, Value.slice (some ⟨b0, o0, none⟩) m c] 29)) := ⟨_, rfl⟩
 have HB : Hid (From w W) := by rw [hW]; exact From.alloc _ _
 have HG : Hid (GBox W w.heap.size (some ⟨b0, o0, none⟩) m c r) := by rw [hW]; exact h.box
 have HW := Lib.hid hW
 clear hW h
 have e0 := HG.out.c0
 have e1 := HG.out.c1
 go_enter Tryz.func200, Tryz.ntmps200
 go_wp2_with fail
 rw [← HW.out]
 refine (IsSet_sv HG.out.gv hs).mono ?_
 rintro e w1 ⟨rfl, hb1⟩
 clear HW
 clear e0 e1
 replace HB := Lib.hid (HB.out.keep hb1)
 replace HG := Lib.hid (HG.out.keep hb1)
 clear hb1
 have e0 := HG.out.c0
 have e1 := HG.out.c1
 have s1 : wrap64 ((m : Int) - 1) = (m : Int) - 1 := Go.IntWalk.wrap64_in _ (by omega)
 go_wp2_with fail
 refine (l1In_ts (n := (v : Int)) (lo := 0) (hi := (m : Int) - 1) w1 (by omega) (by omega)).mono ?_
 rintro e w2 ⟨rfl, hb2⟩
 clear e0 e1
 replace HB := Lib.hid (HB.out.keep hb2)
 replace HG := Lib.hid (HG.out.keep hb2)
 clear hb2
 have e0 := HG.out.c0
 have e1 := HG.out.c1
 have E0 : (bits .and .i64 ((s : Int) / 2 ^ v) 1 == 0) = !s.testBit v := by
  have := and_one_i64' (s : Int) v (by omega) (by omega)
  simpa using this
 cases hb : s.testBit v
 ·have Hn : Hid (simB r v s = false) := sim_out hb
  rw [hb] at E0
  clear hb
  go_wp2
  go_ret
  exact ⟨ret_bool Hn.out.symm, HB.out.below⟩
 rw [hb] at E0
 have Hb := Lib.hid hb
 clear hb
 have q0 := HG.out.gv.row hv
 obtain ⟨y, z, t, hy, p1, E1, E2, ht, ht7⟩ := nN_read (s := s) HV.out hv (by omega)
 rw [← hy] at q0
 have i1 : (v : Int) < (m : Int) := by omega
 have KL : Hid (∀ z : World, Below w2.heap.size w2 z → Calls Tryz.prog 101 #[.int .i64 (t : Int)] z fun e w' => ∃ A c, e = .returned (.slice A (listN t).length c) ∧ ON w2.heap.size w' A c (listN t) ∧ Below z.heap.size z w') := fun z hz =>
  (ListOf_sv t ht7 z).mono fun _ _ ⟨A, c, h1, h2, h3⟩ => ⟨A, c, h1, h2.mono hz.size, h3⟩
 have hL7 : (listN t).length ≤ 7 := listN_len t
 have htm : t < 2 ^ m := by rw [ht]; exact nN_lt hs
 have HTm : Hid (∀ j, j < (listN t).length → (listN t).getD j 0 < m) := fun j hj => listN_lt htm hj
 obtain ⟨T, hT⟩ : ∃ T, T = listN t := ⟨_, rfl⟩
 rw [← hT] at KL hL7 HTm
 have HT : Hid (T = listN (nN r s v)) := by rw [← ht]; exact hT
 clear ht hT htm s1 hy
 go_wp2
 have HSC : Hid (∀ z : World, Below w2.heap.size w2 z → (Below w2.heap.size w2 z ∧ z.cell? ⟨w.heap.size, 0, none⟩ = some (.int .i64 m) ∧ z.cell? ⟨w.heap.size, 1, none⟩ = some (.slice (some ⟨b0, o0, none⟩) m c) ∧ z.cell? ⟨b0, o0 + v, none⟩ = some (.int .i64 (y : Int)))) := fun z hz => ⟨hz, up_ hz e0, up_ hz e1, up_ hz q0⟩
 have HZ0 : Hid (Below w2.heap.size w2 w2.drew) := (Below.refl _ _).drew
 have HS1 := Lib.hid (HSC.out _ HZ0.out)
 have KR1 : Hid (∀ z : World, Below w2.heap.size w2 z → _) := fun z hz => KL.out _ hz
 go_region_held3 (fun z => Below w2.heap.size w2 z ∧ z.cell? ⟨w.heap.size, 0, none⟩ = some (.int .i64 m) ∧ z.cell? ⟨w.heap.size, 1, none⟩ = some (.slice (some ⟨b0, o0, none⟩) m c) ∧ z.cell? ⟨b0, o0 + v, none⟩ = some (.int .i64 (y : Int)))
  (first | exact HS1.out | assumption | exact HSC.out _ hz3 | fail)
  (first | (go_at_call 101; ((with_reducible refine (KR1.out _ HZ0.out).mono ?_); rintro e w3 ⟨AL, cL, rfl, hOL, hb3⟩; have hz3 := bl_trans HZ0.out hb3)))
 clear e0 e1
 replace HB := Lib.hid (HB.out.keep hz3)
 replace HG := Lib.hid (HG.out.keep hz3)
 clear hb3 hz3 HSC HZ0 HS1 KR1
 have e0 := HG.out.c0
 have e1 := HG.out.c1
 have HOL : Hid (LN w3 AL cL T) := hOL.ln
 have HR0 : Hid (From w3 w3) := From.refl w3
 clear hOL KL p1 E0 E1 E2 q0 e0 e1
 go_wp2
 go_loopw [8] (fun iv wr => ∃ i : Nat, i ≤ T.length ∧ iv = .int .i64 i ∧ Hid (Sm1 r s T i) ∧ Hid (From w3 wr)) (fun iv _ => T.length - (intOf iv).toNat)
 case atStart => exact ⟨0, Nat.zero_le _, rfl, Sm1.zero, HR0⟩
 case round =>
  clear HR0
  obtain ⟨i, hi, rfl, H1, HR⟩ := hrel
  by_cases hiT : i < T.length
  ·have i1 : (i : Int) < (T.length : Int) := by omega
   go_wp2
   go_loopw [9] (fun kv wr => ∃ k : Nat, k ≤ i ∧ kv = .int .i64 k ∧ Hid (∀ j, j < k → Cm (nN r s (T.getD i 0)) (nN r s (T.getD j 0))) ∧ Hid (From w3 wr)) (fun kv _ => i - (intOf kv).toNat)
   case atStart => exact ⟨0, Nat.zero_le _, rfl, (fun j hj => absurd hj (by omega)), HR⟩
   case round =>
    clear HR
    obtain ⟨k, hk, rfl, H2, HR⟩ := hrel
    by_cases hki : k < i
    ·have i2 : (k : Int) < (i : Int) := by omega
     have i3 : (k : Int) < (T.length : Int) := by omega
     have HBr := Lib.hid (HB.out.up HR.out)
     have HLr := Lib.hid (HOL.out.keep HR.out.below)
     have HGr := Lib.hid (HG.out.keep HR.out.below)
     have e0 := HGr.out.c0
     have e1 := HGr.out.c1
     obtain ⟨bl, ol, rfl⟩ := HLr.out.addr (by omega)
     have p0 := HLr.out.cell hiT
     have p1 := HLr.out.cell (show k < T.length by omega)
     have hu := HTm.out i hiT
     have hu2 := HTm.out k (by omega)
     obtain ⟨u, hu'⟩ : ∃ u, u = T.getD i 0 := ⟨_, rfl⟩
     obtain ⟨u2, hu2'⟩ : ∃ u2, u2 = T.getD k 0 := ⟨_, rfl⟩
     rw [← hu'] at p0 hu
     rw [← hu2'] at p1 hu2
     have q0 := HGr.out.gv.row hu
     have q1 := HGr.out.gv.row hu2
     obtain ⟨y1, z1, a, hy1, P1, E1, E2, ha, ha7⟩ := nN_read (s := s) HV.out hu (by omega)
     obtain ⟨y2, z2, b, hy2, P2, E3, E4, hb, hb7⟩ := nN_read (s := s) HV.out hu2 (by omega)
     rw [← hy1] at q0
     rw [← hy2] at q1
     have i4 : (u : Int) < (m : Int) := by omega
     have i5 : (u2 : Int) < (m : Int) := by omega
     have E5 := i64_and_nat a b (by omega) (by omega)
     have Hp : Hid ((a &&& b = a ∨ a &&& b = b) → Cm (nN r s (T.getD i 0)) (nN r s (T.getD k 0))) := fun h => by rw [← hu', ← hu2', ← ha, ← hb]; exact h
     have Hq : Hid (a &&& b ≠ a → a &&& b ≠ b → simB r v s = false) := fun h1 h2 => sim_no' HT.out hiT hki (by rw [← hu', ← hu2', ← ha, ← hb]; exact h1) (by rw [← hu', ← hu2', ← ha, ← hb]; exact h2)
     obtain ⟨ab, hab⟩ : ∃ ab, ab = a &&& b := ⟨_, rfl⟩
     rw [← hab] at E5 Hp Hq
     clear hu' hu2' hy1 hy2 ha hb hab
     by_cases h1 : ab = a
     ·have H2' : Hid (∀ j, j < k + 1 → Cm (nN r s (T.getD i 0)) (nN r s (T.getD j 0))) := fun j hj => by
       by_cases e : j < k
       ·exact H2.out j e
       ·obtain rfl : j = k := by omega
        exact Hp.out (.inl h1)
      have d1 : ((ab : Int) != (a : Int)) = false := by simp; omega
      clear h1 hu hu2
      go_wp2
      go_quiet (fail)
      go_wp2
      go_quiet (fail)
      go_wp2
      go_roundw
      case rel => exact ⟨k + 1, by omega, by go_num, H2', HR.out.drewN _⟩
      case measure => (simp [intOf] <;> omega)
     ·have d1 : ((ab : Int) != (a : Int)) = true := by simp; omega
      by_cases h2 : ab = b
      ·have H2' : Hid (∀ j, j < k + 1 → Cm (nN r s (T.getD i 0)) (nN r s (T.getD j 0))) := fun j hj => by
        by_cases e : j < k
        ·exact H2.out j e
        ·obtain rfl : j = k := by omega
         exact Hp.out (.inr h2)
       have d2 : ((ab : Int) != (b : Int)) = false := by simp; omega
       clear h1 h2 hu hu2
       go_wp2
       go_quiet (fail)
       go_wp2
       go_quiet (fail)
       go_wp2
       go_roundw
       case rel => exact ⟨k + 1, by omega, by go_num, H2', HR.out.drewN _⟩
       case measure => (simp [intOf] <;> omega)
      ·have d2 : ((ab : Int) != (b : Int)) = true := by simp; omega
       have Hn := Lib.hid (Hq.out h1 h2)
       clear h1 h2 hu hu2
       go_wp2
       go_quiet (fail)
       go_wp2
       go_quiet (fail)
       go_wp2
       go_ret
       exact ⟨ret_bool Hn.out.symm, (HBr.out.drewN _).below⟩
    ·have H1' : Hid (Sm1 r s T (i + 1)) := H1.out.step fun j hj => H2.out j (by omega)
     have i2 : (i : Int) ≤ (k : Int) := by omega
     go_wp2
     go_roundw
     case rel => exact ⟨i + 1, by omega, by go_num, H1', HR⟩
     case measure => (simp [intOf] <;> omega)
  ·have Hy : Hid (simB r v s = true) := sim_yes Hb.out (by rw [← HT.out]; exact fun i' hi' => H1.out i' (by omega))
   have HBr := Lib.hid (HB.out.up HR.out)
   have i1 : (T.length : Int) ≤ (i : Int) := by omega
   go_wp2
   go_ret
   exact ⟨ret_bool Hy.out.symm, HBr.out.below⟩
end Go.Proofs.YtppkokgiojcgbaaGreatDoor

/-
-/
namespace Go.Proofs.YtppkokgiojcgbaaGreatDoor
open Go.RowKit
set_option maxRecDepth 100000 in
set_option maxHeartbeats 1600000 in
theorem EliminationOf_sl (sz : Int) (A : Option Addr) (m c : Nat) (x : Nat → Int) (w : World) (B : Nat) (h : Rd w B A m c x) (hB : B ≤ w.heap.size) (hm : m ≤ 1048576) :
 Calls Tryz.prog 137 #[.agg #[.int .i64 sz, .slice A m c]] w (lsQ w (orG firstS sz m x)) := by
 obtain ⟨W, hW⟩ : ∃ W : World, W = ((w.alloc (Obj.cells #[Value.int IntKind.i64 sz, Value.slice A m c] 29)).alloc (Obj.cells #[] 3)) := ⟨_, rfl⟩
 have HB : Hid (Below w.heap.size w W) := by rw [hW]; exact ((Below.refl _ _).alloc (Nat.le_refl _) _).alloc (by simp) _
 have HZ : Hid (w.heap.size + 2 = W.heap.size) := by rw [hW]; simp [Hid]
 have a0 : w.heap.size < W.heap.size := by have := HZ.out; omega
 have e0 : W.cell? ⟨w.heap.size, 0, none⟩ = some (.int .i64 sz) := by rw [hW]; simp [go_sem]
 have e1 : W.cell? ⟨w.heap.size, 1, none⟩ = some (.slice A m c) := by rw [hW]; simp [go_sem]
 have HG : Hid (W.heap[w.heap.size + 1]? = some (.cells #[] 3 (0, 0))) := by
  rw [hW]
  have := heap_alloc_new (w.alloc (Obj.cells #[Value.int IntKind.i64 sz, Value.slice A m c] 29)) (Obj.cells #[] 3)
  simpa [Hid] using this
 have HK := Lib.hid (h.keep (HB.out.mono hB) (Nat.le_refl _))
 have HW := Lib.hid hW
 clear hW h
 go_enter Tryz.func137, Tryz.ntmps137
 go_wp2_with fail
 rw [← HW.out]
 refine (IsGraph_sany sz A m c x W B HK.out (by omega) hm).mono ?_
 rintro e w1 ⟨rfl, hb1⟩
 have f0 := up hb1 e0 a0
 have f1 := up hb1 e1 a0
 have z1 := hb1.size
 have HB1 : Hid (Below w.heap.size w w1) := HB.out.trans (hb1.mono (by omega))
 have HK1 : Hid (Rd w1 B A m c x) := HK.out.keep (hb1.mono (by omega)) (Nat.le_refl _)
 have HG1 : Hid (w1.heap[w.heap.size + 1]? = some (.cells #[] 3 (0, 0))) := (hb1.block _ (by have := HZ.out; omega)).trans HG.out
 clear hb1 e0 e1 HW HK HB HG
 cases ho : okB sz m x
 ·have hno : Hid (orG firstS sz m x = none) := orG_no ho
  have HON : Hid (ON w.heap.size w1 (some ⟨w.heap.size + 1, 0, none⟩) 0 []) := ⟨.inr ⟨w.heap.size + 1, #[], rfl, by omega, by have := HZ.out; omega, HG1.out, Nat.le_refl _, by unfold maxLen; omega, rfl, fun j hj => absurd hj (by simp)⟩⟩
  clear ho
  go_wp2
  go_ret2
  rw [hno.out]
  exact ⟨_, _, rfl, HON.out, HB1.out⟩
 ·have hok2 : OkG sz m x := by
   refine Classical.byContradiction fun h2 => ?_
   rw [okB_no h2] at ho; cases ho
  obtain ⟨_, es, vg0, _⟩ := hok2
  subst es
  have hn1 := vg0.n1
  have hn7 := vg0.n7
  have h128 := two_pow_le hn7
  have hpos := Nat.two_pow_pos m
  have Hok := Lib.hid ho
  have p1 := pow_shl m hn7
  have p2 := two_pow_int m hn7
  have hall : (2 : Int) ^ m - 1 = ((2 ^ m - 1 : Nat) : Int) := by rw [Int.ofNat_sub hpos]; simp
  have Hall := Lib.hid hall
  have b1 : w.heap.size < w1.heap.size := by omega
  have HO : Hid (Own w1 (w.heap.size + 1) w1.heap.size 3 1 (some ⟨w.heap.size + 1, 0, none⟩) 0 0 (ni [])) :=
   .inr ⟨w.heap.size + 1, #[], rfl, Nat.le_refl _, by have := HZ.out; omega, HG1.out, Nat.le_refl _, by unfold maxLen; omega, rfl, fun j hj => absurd hj (by omega)⟩
  clear ho vg0 hall HG1
  go_wp2
  rw [Hall.out]
  clear p1 p2
  go_loopw [4, 5] (fun l i wr => ∃ (left : Nat) (A' : Option Addr) (c' : Nat) (T : List Nat), l = .slice A' T.length c' ∧ i = .int .i64 left ∧ T.length + left + 1 ≤ 2 ^ m ∧ Hid (Own wr (w.heap.size + 1) wr.heap.size 3 1 A' T.length c' (ni T)) ∧ Hid (redL (firstS (rw_ x)) (2 ^ m - 1) = (redL (firstS (rw_ x)) left).map (T ++ ·)) ∧ Hid (Below (w.heap.size + 1) w1 wr)) (fun _ i _ => (intOf i).toNat)
  case atStart => exact ⟨2 ^ m - 1, _, 0, [], rfl, rfl, by simp; omega, HO, redL_start, Below.refl _ _⟩
  case round =>
   obtain ⟨left, A', c', T, rfl, rfl, hkl, HY, HE, hbr⟩ := hrel
   have zr := hbr.out.size
   have j0 := up hbr.out f0 (by omega)
   have j1 := up hbr.out f1 (by omega)
   by_cases hl0 : left = 0
   ·have hyes : Hid (orG firstS (m : Int) m x = some T) := orG_eq Hok.out (redL_end (by rw [← hl0]; exact HE.out))
    have HON : Hid (ON w.heap.size wr A' c' T) := ⟨HY.out.mono (by omega) (Nat.le_refl _)⟩
    have hle : (left : Int) ≤ 0 := by omega
    clear hl0
    go_wp2
    go_ret2
    rw [hyes.out]
    exact lsQ.yes HON.out (HB1.out.trans (hbr.out.mono (by omega)))
   ·have hgt : (0 : Int) < (left : Int) := by omega
    have hgd : decide (0 < left) = true := by simp; omega
    have Hl0 := Lib.hid hl0
    clear hl0
    go_wp2
    obtain ⟨wo, rfl⟩ : ∃ wo : World, wo = wr := ⟨_, rfl⟩
    go_loopw [6, 7] (fun b i wr => ∃ (t : Nat), t ≤ m ∧ i = .int .i64 ((t : Int) - 1) ∧ ((b = .int .i64 (-1) ∧ Hid (∀ u, t ≤ u → left.testBit u = true → cliq (rw_ x) (rw_ x u &&& left) = false)) ∨ ∃ v : Nat, b = .int .i64 v ∧ v < m ∧ Hid (t ≤ v ∧ left.testBit v = true ∧ cliq (rw_ x) (rw_ x v &&& left) = true ∧ ∀ u, t ≤ u → u < v → left.testBit u = true → cliq (rw_ x) (rw_ x u &&& left) = false)) ∧ Hid (Below wo.heap.size wo wr)) (fun _ i _ => (intOf i + 1).toNat)
    case atStart => exact ⟨m, Nat.le_refl _, rfl, .inl ⟨rfl, fun u hu hb => by have := bit_lt (by omega : left < 2 ^ m) hb; omega⟩, Below.refl _ _⟩
    case round =>
     obtain ⟨t, htm, rfl, hbest, hbw⟩ := hrel
     have zw := hbw.out.size
     have i0 := up hbw.out j0 (by omega)
     have i1 := up hbw.out j1 (by omega)
     by_cases ht0 : t = 0
     ·have hneg : ((t : Int) - 1) < 0 := by omega
      have HYw : Hid (Own wr (w.heap.size + 1) wr.heap.size 3 1 A' T.length c' (ni T)) := (HY.out.keepB hbw.out (Nat.le_refl _)).mono (Nat.le_refl _) zw
      have HBw : Hid (Below (w.heap.size + 1) w1 wr) := hbr.out.trans (hbw.out.mono (by omega))
      rcases hbest with ⟨rfl, hno⟩ | ⟨v, rfl, hvm, hyes⟩
      ·have hf : firstS (rw_ x) left = none := firstS_no fun u _ hb => hno.out u (by omega) hb
       have hno2 : Hid (orG firstS (m : Int) m x = none) := orG_eq Hok.out (redL_stuck Hl0.out hf HE.out)
       have HON : Hid (ON w.heap.size (wr.alloc (Obj.cells #[] 3)) (some ⟨wr.heap.size, 0, none⟩) 0 []) := (ON.nil wr).mono (by omega)
       clear hno hf HE ht0
       go_wp2
       go_ret2
       rw [hno2.out]
       exact ⟨_, _, rfl, HON.out, HB1.out.trans ((HBw.out.mono (by omega)).alloc (by omega) _)⟩
      ·obtain ⟨_, hbit, hcl, hmin⟩ := hyes.out
       have hf : firstS (rw_ x) left = some v := firstS_least (by omega) hbit hcl (fun u hu hb => hmin u (by omega) hu hb)
       have HE2 : Hid (redL (firstS (rw_ x)) (2 ^ m - 1) = (redL (firstS (rw_ x)) (left ^^^ 2 ^ v)).map ((T ++ [v]) ++ ·)) := redL_step hbit hf HE.out
       have hlt := xor_bit_lt hbit
       have hxs := (xor_bit hbit).2
       have hE3 : Hid ((left : Int) - 2 ^ v = ((left ^^^ 2 ^ v : Nat) : Int)) := by
        show _ = _
        have p3 : ((2 ^ v : Nat) : Int) = 2 ^ v := by simp
        rw [← p3]
        omega
       have p1 := pow_shl v (by omega)
       have p2 := two_pow_int v (by omega)
       have hge0 : (0 : Int) ≤ (v : Int) := by omega
       clear hyes hbit hcl hmin hf HE hxs ht0
       go_wp2_with (first | (at_builtin; (refine wpList_pushN wr rfl _ _ rfl (w.heap.size + 1) wr.heap.size A' c' T HYw.out (by omega) v rfl 1 wr.heap.size rfl rfl (by omega) ?_; intro g cap w3 hO2 hb2)))
       have H4 := Lib.hid hO2
       have H5 : Hid (Below (w.heap.size + 1) w1 w3) := HBw.out.trans hb2
       clear hO2 hb2
       go_roundw
       case rel => exact ⟨left ^^^ 2 ^ v, _, _, T ++ [v], by rw [List.length_append]; rfl, congrArg (Value.int .i64) hE3.out, by rw [List.length_append]; simp; omega, by rw [List.length_append]; exact H4.out, HE2, H5⟩
       case measure => simp [intOf] <;> omega
     ·obtain ⟨v, rfl⟩ : ∃ v, t = v + 1 := ⟨t - 1, by omega⟩
      have ev : (((v + 1 : Nat) : Int) - 1) = (v : Int) := by omega
      rw [ev]
      have HBst := Lib.hid hbest
      have hge0 : (0 : Int) ≤ (v : Int) := by omega
      have E1 := and_one_i64 (left : Int) v (by omega) (by omega)
      rw [Int.toNat_natCast] at E1
      have HK2 : Hid (Rd wr B A m c x) := HK1.out.keep ((hbr.out.trans (hbw.out.mono (by omega))).mono (by omega)) (Nat.le_refl _)
      have hleft : left < 2 ^ m := by omega
      have hBw : B ≤ wr.heap.size := by omega
      clear ev ht0 hbest
      cases hbit : left.testBit v
      ·rw [hbit] at E1
       have Hb := Lib.hid hbit
       clear hbit
       go_wp2
       go_roundw
       case rel =>
        refine ⟨v, by omega, rfl, ?_, hbw⟩
        rcases HBst.out with ⟨rfl, hno⟩ | ⟨bv, rfl, hbm, hyes⟩
        ·refine .inl ⟨rfl, fun u hu hb => ?_⟩
         by_cases huv : u = v
         ·subst huv; rw [Hb.out] at hb; cases hb
         ·exact hno.out u (by omega) hb
        ·refine .inr ⟨bv, rfl, hbm, by have := hyes.out.1; omega, hyes.out.2.1, hyes.out.2.2.1, fun u hu hub hb => ?_⟩
         by_cases huv : u = v
         ·subst huv; rw [Hb.out] at hb; cases hb
         ·exact hyes.out.2.2.2 u (by omega) hub hb
       case measure => simp [intOf] <;> omega
      ·rw [hbit] at E1
       have Hb := Lib.hid hbit
       clear hbit
       go_wp2_with fail
       refine (l6Simplicial_any m A c x v left wr B HK2.out hBw Hok.out hleft (by omega)).mono ?_
       rintro e w3 ⟨rfl, hb3⟩
       have HB3 : Hid (Below wo.heap.size wo w3) := hbw.out.trans (hb3.mono zw)
       clear hb3 i0 i1 E1 HK2
       cases hcl : cliq (rw_ x) (rw_ x v &&& left)
       ·have Hc := Lib.hid hcl
        clear hcl
        go_wp2
        refine ⟨⟨v, by omega, rfl, ?_, HB3⟩, by simp [intOf] <;> omega⟩
        rcases HBst.out with ⟨rfl, hno⟩ | ⟨bv, rfl, hbm, hyes⟩
        ·refine .inl ⟨rfl, fun u hu hb => ?_⟩
         by_cases huv : u = v
         ·subst huv; exact Hc.out
         ·exact hno.out u (by omega) hb
        ·refine .inr ⟨bv, rfl, hbm, by have := hyes.out.1; omega, hyes.out.2.1, hyes.out.2.2.1, fun u hu hub hb => ?_⟩
         by_cases huv : u = v
         ·subst huv; exact Hc.out
         ·exact hyes.out.2.2.2 u (by omega) hub hb
       ·have Hc := Lib.hid hcl
        clear hcl
        go_wp2
        refine ⟨⟨v, by omega, rfl, ?_, HB3⟩, by simp [intOf] <;> omega⟩
        exact .inr ⟨v, rfl, by omega, Nat.le_refl _, Hb.out, Hc.out, fun u hu hub _ => by omega⟩
end Go.Proofs.YtppkokgiojcgbaaGreatDoor
