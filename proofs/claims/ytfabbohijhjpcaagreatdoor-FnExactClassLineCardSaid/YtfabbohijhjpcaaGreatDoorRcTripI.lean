/-
-/
import Derived.Test.YtfabbohijhjpcaaGreatDoorRcLexI
namespace Go.Proofs.YtfabbohijhjpcaaGreatDoor
open Go.RowKit
theorem has_b {s v : Nat} (w : World) (hs : s < 128) (hv : v < 64) : Calls Tryz.prog 44 #[.int .i64 (s : Int), .int .i64 (v : Int)] w fun e w' => e = .returned (.bool (s.testBit v)) ∧ Below w.heap.size w w' :=
 (has_v w hs hv).mono fun _ _ ⟨h1, h2⟩ => ⟨h1, h2 ▸ Below.refl _ _⟩
def lys (r : Nat → Nat) (set s k : Nat) : List Nat := (List.range (k + 1)).map (lyr r set s)
theorem lys_len {r : Nat → Nat} {set s k : Nat} : (lys r set s k).length = k + 1 := by unfold lys; simp
theorem lys_at {r : Nat → Nat} {set s k j : Nat} (h : j < (lys r set s k).length) : (lys r set s k)[j]'h = lyr r set s j := by simp [lys]
theorem lys_succ {r : Nat → Nat} {set s k : Nat} : lys r set s (k + 1) = lys r set s k ++ [lyr r set s (k + 1)] := by unfold lys; rw [List.range_succ, List.map_append]; rfl
theorem lyr_ne {r : Nat → Nat} {set s k : Nat} (h : Sub s set) (h0 : lyr r set s (k + 1) ≠ 0) : gro r set s (k + 1) ≠ gro r set s k := fun e => by
 obtain ⟨v, hv⟩ := ex_bit h0
 have h1 := lyr_sub h (k + 1) v hv
 rw [e, (lyr_bit.1 hv).2.2] at h1
 cases h1
set_option maxRecDepth 100000 in
set_option maxHeartbeats 6400000 in
theorem shortestWay_i {A : Option Addr} {m c : Nat} {r : Nat → Nat} {w : World} (h : GV w A m c r) {set a b : Nat} (hset : set < 2 ^ m) (ha : a < m) (hb : b < m) :
 Calls Tryz.prog 348 #[.agg #[.int .i64 m, .slice A m c], .int .i64 set, .int .i64 a, .int .i64 b] w fun e w' => ∃ A' n c', e = .returned (.tuple #[.slice A' n c', .bool ((set.testBit a && set.testBit b) && (part r set (2 ^ b)).testBit a)]) ∧ Below w.heap.size w w' := by
 have hn7 := h.vg.n7
 have h128 := two_pow_le hn7
 have HV := Lib.hid h.vg
 obtain ⟨b0, o0, rfl⟩ := h.addr
 obtain ⟨W, hW⟩ : ∃ W : World, W = (w.alloc (Obj.cells #[Value.int IntKind.i64 m, Value.slice (some ⟨b0, o0, none⟩) m c] 26)) := ⟨_, rfl⟩
 have HB : Hid (From w W) := by rw [hW]; exact From.alloc _ _
 have HG : Hid (GV W (some ⟨b0, o0, none⟩) m c r) := h.keep HB.out.below
 have HC : Hid (GC W w.heap.size m (some ⟨b0, o0, none⟩) m c) := by rw [hW]; exact GC.new _ _ _ _ _
 have HW := Lib.hid hW
 clear hW h
 go_enter Tryz.func348, Tryz.ntmps348
 have e0 := HC.out.c0
 have e1 := HC.out.c1
 go_wp2_with fail
 rw [← HW.out]
 refine (has_b (s := set) (v := a) W (by omega) (by omega)).mono ?_
 rintro e w1 ⟨rfl, hb1⟩
 clear HW
 clear e0 e1
 replace HB := Lib.hid (HB.out.keep hb1)
 replace HG := Lib.hid (HG.out.keep hb1)
 replace HC := Lib.hid (HC.out.keep hb1)
 clear hb1
 have e0 := HC.out.c0
 have e1 := HC.out.c1
 cases t1 : set.testBit a
 ·have Hn : Hid (((set.testBit a && set.testBit b) && (part r set (2 ^ b)).testBit a) = false) := by show _ = _; rw [t1]; rfl
  clear t1
  go_wp2
  go_ret2
  exact ⟨none, 0, 0, by rw [Hn.out]; rfl, HB.out.below⟩
 have T1 := Lib.hid t1
 clear t1
 go_wp2_with fail
 refine (has_b (s := set) (v := b) w1 (by omega) (by omega)).mono ?_
 rintro e w2 ⟨rfl, hb2⟩
 clear e0 e1
 replace HB := Lib.hid (HB.out.keep hb2)
 replace HG := Lib.hid (HG.out.keep hb2)
 replace HC := Lib.hid (HC.out.keep hb2)
 clear hb2
 have e0 := HC.out.c0
 have e1 := HC.out.c1
 cases t2 : set.testBit b
 ·have Hn : Hid (((set.testBit a && set.testBit b) && (part r set (2 ^ b)).testBit a) = false) := by show _ = _; rw [T1.out, t2]; rfl
  clear t2
  go_wp2
  go_ret2
  exact ⟨none, 0, 0, by rw [Hn.out]; rfl, HB.out.below⟩
 have Hs : Hid (Sub (2 ^ b) set) := pow_sub t2
 have H0 : Hid (2 ^ b ≠ 0) := by have := Nat.two_pow_pos b; show _ ≠ _; omega
 obtain ⟨s, hs⟩ : ∃ s, s = 2 ^ b := ⟨_, rfl⟩
 have HE : Hid (((set.testBit a && set.testBit b) && (part r set (2 ^ b)).testBit a) = (part r set s).testBit a) := by show _ = _; rw [T1.out, t2, hs]; rfl
 clear t2 T1
 have p1 : IntKind.i64.wrap ((2 : Int) ^ b) = (s : Int) := by rw [pow_shl b (by omega), hs]; simp
 rw [← hs] at Hs H0
 have hb7 := two_pow_le (n := b) (by omega)
 have hs7 : s ≤ 128 := by omega
 obtain ⟨W2, hW2⟩ : ∃ W2 : World, W2 = (w2.alloc (Obj.cells #[Value.int .i64 (s : Int)] 3)) := ⟨_, rfl⟩
 have HO2 : Hid (ON w2.heap.size W2 (some ⟨w2.heap.size, 0, none⟩) 1 (lys r set s 0)) := by rw [hW2]; exact one_on w2 s
 have HR2 : Hid (From w2 W2) := by rw [hW2]; exact From.alloc _ _
 have HW2 := Lib.hid hW2
 clear hW2 hs hb7
 go_wp2_with fail
 rw [← HW2.out]
 clear HW2
 go_loopw [10, 11] (fun ls rc wr => ∃ (k : Nat) (A' : Option Addr) (c' : Nat), ls = .slice A' (lys r set s k).length c' ∧ rc = .int .i64 (gro r set s k : Nat) ∧ Hid (ON w2.heap.size wr A' c' (lys r set s k)) ∧ Hid (∀ j, j < k → (gro r set s j).testBit a = false) ∧ Hid (∀ j, j < k → gro r set s (j + 1) ≠ gro r set s j) ∧ Hid (From w2 wr)) (fun _ rc _ => 128 - (intOf rc).toNat)
 case atStart => exact ⟨0, _, 1, rfl, rfl, HO2, fun j hj => absurd hj (by omega), fun j hj => absurd hj (by omega), HR2⟩
 case round =>
  obtain ⟨k, A', c', rfl, rfl, HO, HN, HD, HR⟩ := hrel
  have hk7 : k + 1 ≤ m := gro_le hn7 hset Hs.out H0.out HD.out
  have hgs := sub_lt (gro_sub (r := r) Hs.out k) hset
  obtain ⟨G0, hG0⟩ : ∃ G0, G0 = gro r set s k := ⟨_, rfl⟩
  have HG0 := Lib.hid hG0
  rw [← hG0] at hgs ⊢
  have HBr := Lib.hid (HB.out.keep HR.out.below)
  have HGr := Lib.hid (HG.out.keep HR.out.below)
  have HCr := Lib.hid (HC.out.keep HR.out.below)
  clear hG0
  have e0 := HCr.out.c0
  have e1 := HCr.out.c1
  go_wp2_with fail
  refine (has_b (s := G0) (v := a) wr (by omega) (by omega)).mono ?_
  rintro e w3 ⟨rfl, hb3⟩
  clear e0 e1
  replace HR := Lib.hid (HR.out.keep hb3)
  replace HO := Lib.hid (HO.out.keep hb3)
  replace HBr := Lib.hid (HBr.out.keep hb3)
  replace HGr := Lib.hid (HGr.out.keep hb3)
  replace HCr := Lib.hid (HCr.out.keep hb3)
  clear hb3
  have e0 := HCr.out.c0
  have e1 := HCr.out.c1
  have hB3 := HR.out.below.size
  have Hgl : ∃ gl, A' = some ⟨gl, 0, none⟩ := by
   obtain ⟨gl, e, _⟩ := HO.out.own.at_ (by rw [lys_len]; omega)
   exact ⟨gl, e⟩
  obtain ⟨gl, rfl⟩ := Hgl
  cases ta : G0.testBit a
  ·have Ta := Lib.hid ta
   clear ta
   have p0 : w3.cell? ⟨gl, k, none⟩ = some (.int .i64 (lyr r set s k : Nat)) := by
    have := HO.out.ln.at (j := k) (by rw [lys_len]; omega)
    rw [lys_at] at this
    simpa using this
   have hLk := sub_lt ((lyr_sub (r := r) Hs.out k).trans (gro_sub (r := r) Hs.out k)) hset
   have hL1 := sub_lt ((lyr_sub (r := r) Hs.out (k + 1)).trans (gro_sub (r := r) Hs.out (k + 1))) hset
   have hstep : lyr r set s (k + 1) = (nb r (lyr r set s k) &&& set) ^^^ ((nb r (lyr r set s k) &&& set) &&& G0) := by rw [HG0.out]; rfl
   have hgo : gro r set s (k + 1) = G0 ||| lyr r set s (k + 1) := by rw [HG0.out]; exact gro_lyr Hs.out k
   have hnb := nb_lt (r := r) (s := lyr r set s k) HV.out.lt hLk 7
   have Hne : Hid (lyr r set s (k + 1) ≠ 0 → gro r set s (k + 1) ≠ G0) := by rw [HG0.out]; exact lyr_ne Hs.out
   have Hze : Hid (lyr r set s (k + 1) = 0 → (part r set s).testBit a = false) := fun e => reach_no Hs.out (lyr_zero Hs.out e) (by rw [← HG0.out]; exact Ta.out) 7
   have Hle : Hid (G0 ≤ gro r set s (k + 1)) := by rw [hgo]; exact Nat.left_le_or
   have hg1 : gro r set s (k + 1) < 2 ^ m := sub_lt (gro_sub (r := r) Hs.out (k + 1)) hset
   obtain ⟨Lk, hLk'⟩ : ∃ Lk, Lk = lyr r set s k := ⟨_, rfl⟩
   obtain ⟨L1, hL1'⟩ : ∃ L1, L1 = lyr r set s (k + 1) := ⟨_, rfl⟩
   obtain ⟨G1, hG1'⟩ : ∃ G1, G1 = gro r set s (k + 1) := ⟨_, rfl⟩
   rw [← hLk'] at p0 hLk hnb hstep
   rw [← hL1'] at hL1 hstep hgo Hne Hze
   rw [← hG1'] at hgo Hne Hle hg1
   have KN : Hid (∀ z : World, Below w3.heap.size w3 z → Calls Tryz.prog 312 #[.agg #[.int .i64 m, .slice (some ⟨b0, o0, none⟩) m c], .int .i64 (Lk : Int)] z fun e w' => e = .returned (.int .i64 (nb r Lk : Nat)) ∧ Below z.heap.size z w') := fun z hz => neighbors_v (HGr.out.keep hz) hLk
   obtain ⟨n1, hn1⟩ : ∃ n1, n1 = nb r Lk := ⟨_, rfl⟩
   have hnb' : n1 < 2 ^ m := by rw [hn1]; exact hnb
   rw [← hn1] at KN hstep
   have E1 := i64_and_nat n1 set (by omega) (by omega)
   have hns : n1 &&& set < 128 := Nat.lt_of_le_of_lt Nat.and_le_left (by omega)
   have E2 := i64_andNot_nat (n1 &&& set) G0 (by omega) (by omega)
   rw [← hstep] at E2
   have E3 := i64_or_nat G0 L1 (by omega) (by omega)
   rw [← hgo] at E3
   have hlen : ((lys r set s k).length : Int) = (k : Int) + 1 := by rw [lys_len]; simp
   have s1 : IntKind.i64.wrap (((lys r set s k).length : Int) - 1) = (k : Int) := by rw [hlen, Go.IntWalk.i64_in _ (by omega)]; omega
   have i1 : (k : Int) < ((lys r set s k).length : Int) := by omega
   have i2 : k < (lys r set s k).length := by rw [lys_len]; omega
   have HL1 := Lib.hid hL1'
   have HG1 := Lib.hid hG1'
   clear hlen hLk' hL1' hG1' hn1 hnb hstep hgo
   go_wp2
   have HSC : Hid (∀ z : World, Below w3.heap.size w3 z → (Below w3.heap.size w3 z ∧ z.cell? ⟨w.heap.size, 0, none⟩ = some (.int .i64 m) ∧ z.cell? ⟨w.heap.size, 1, none⟩ = some (.slice (some ⟨b0, o0, none⟩) m c) ∧ z.cell? ⟨gl, k, none⟩ = some (.int .i64 (Lk : Int)))) := fun z hz => ⟨hz, up_ hz e0, up_ hz e1, up_ hz p0⟩
   have HZ0 : Hid (Below w3.heap.size w3 w3.drew) := (Below.refl _ _).drew
   have HS1 := Lib.hid (HSC.out _ HZ0.out)
   have KR1 : Hid (∀ z : World, Below w3.heap.size w3 z → _) := fun z hz => KN.out z hz
   go_region_held3 (fun z => Below w3.heap.size w3 z ∧ z.cell? ⟨w.heap.size, 0, none⟩ = some (.int .i64 m) ∧ z.cell? ⟨w.heap.size, 1, none⟩ = some (.slice (some ⟨b0, o0, none⟩) m c) ∧ z.cell? ⟨gl, k, none⟩ = some (.int .i64 (Lk : Int)))
    (first | exact HS1.out | assumption | exact HSC.out _ hz4 | fail)
    (first | (go_at_call 312; ((with_reducible refine (KR1.out _ HZ0.out).mono ?_); rintro e w4 ⟨rfl, hb4⟩; have hz4 := bl_trans HZ0.out hb4)))
   clear e0 e1
   replace HR := Lib.hid (HR.out.keep hz4)
   replace HO := Lib.hid (HO.out.keep hz4)
   replace HBr := Lib.hid (HBr.out.keep hz4)
   replace HCr := Lib.hid (HCr.out.keep hz4)
   clear hb4 hz4 HSC HZ0 HS1 KR1
   have e0 := HCr.out.c0
   have e1 := HCr.out.c1
   by_cases hz : L1 = 0
   ·have Hn := Lib.hid (Hze.out hz)
    have q1 : ((L1 : Int) == 0) = true := by simp; omega
    clear hz
    go_wp2
    go_ret2
    exact ⟨none, 0, 0, by rw [HE.out, Hn.out]; rfl, HBr.out.below⟩
   ·have Hn := Lib.hid (Hne.out hz)
    have q1 : ((L1 : Int) == 0) = false := by simp; omega
    have hB4 := HR.out.below.size
    clear hz
    go_wp2_with (first | (at_builtin; (refine wpList_pushN w4 rfl _ _ rfl w2.heap.size w4.heap.size (some ⟨gl, 0, none⟩) c' (lys r set s k) HO.out.own (by omega) L1 rfl 1 w4.heap.size rfl rfl (by rw [lys_len]; omega) ?_; intro g cap w5 hO5 hb5)))
    have H5 : Hid (ON w2.heap.size w5 (some ⟨g, 0, none⟩) cap (lys r set s (k + 1))) := ⟨by rw [lys_succ, List.length_append, ← HL1.out]; exact hO5⟩
    have H6 : Hid (From w2 w5) := ⟨HR.out.below.trans hb5⟩
    clear hO5 hb5
    go_roundw
    case rel =>
     refine ⟨k + 1, some ⟨g, 0, none⟩, cap, by rw [lys_len, lys_len], by rw [HG1.out], H5, ?_, ?_, H6⟩
     ·intro j hj
      by_cases e : j < k
      ·exact HN.out j e
      ·obtain rfl : j = k := by omega
       rw [← HG0.out]; exact Ta.out
     ·intro j hj
      by_cases e : j < k
      ·exact HD.out j e
      ·obtain rfl : j = k := by omega
       rw [← HG0.out, ← HG1.out]; exact Hn.out
    case measure => have h1 := Hle.out; have h2 := Hn.out; simp [intOf]; omega
  ·have Hyes : Hid ((part r set s).testBit a = true) := reach_yes (k := k) hn7 hset Hs.out H0.out (by rw [← HG0.out]; exact ta)
   have Hin : Hid ((lyr r set s k).testBit a = true) := in_lyr Hs.out k (by rw [← HG0.out]; exact ta) HN.out
   clear ta
   obtain ⟨W4, hW4⟩ : ∃ W4 : World, W4 = (w3.alloc (Obj.cells #[Value.int .i64 (a : Int)] 3)) := ⟨_, rfl⟩
   have HO4 : Hid (ON w3.heap.size W4 (some ⟨w3.heap.size, 0, none⟩) 1 [a]) := by rw [hW4]; exact one_on w3 a
   have HR4 : Hid (From w3 W4) := by rw [hW4]; exact From.alloc _ _
   have HW4 := Lib.hid hW4
   have hlen : ((lys r set s k).length : Int) = (k : Int) + 1 := by rw [lys_len]; simp
   have s1 : wrap64 (((lys r set s k).length : Int) - 2) = (k : Int) - 1 := by rw [hlen, Go.IntWalk.wrap64_in _ (by omega)]; omega
   clear hW4 hlen
   go_wp2_with fail
   rw [← HW4.out]
   clear HW4
   go_loopw [2, 13, 14] (fun av out iv wz => ∃ (i a' : Nat) (A5 : Option Addr) (c5 : Nat) (L5 : List Nat), i ≤ k ∧ av = .int .i64 a' ∧ out = .slice A5 L5.length c5 ∧ iv = .int .i64 ((i : Int) - 1) ∧ a' < m ∧ Hid ((lyr r set s i).testBit a' = true) ∧ L5.length + i ≤ 8 ∧ Hid (ON w3.heap.size wz A5 c5 L5) ∧ Hid (From w3 wz)) (fun _ _ iv _ => (intOf iv + 1).toNat)
   case atStart => exact ⟨k, a, _, 1, [a], Nat.le_refl _, rfl, rfl, by rw [s1], ha, Hin, by simp; omega, HO4, HR4⟩
   case round =>
    obtain ⟨i, a', A5, c5, L5, hi, rfl, rfl, rfl, ha', Hbit, hL5, HO5, HR5⟩ := hrel
    clear s1
    by_cases hi0 : i = 0
    ·have i2 : (i : Int) - 1 < 0 := by omega
     have HBz := Lib.hid (HBr.out.keep HR5.out.below)
     clear hi0
     go_wp2
     go_ret2
     exact ⟨A5, L5.length, c5, by rw [HE.out, Hyes.out]; rfl, HBz.out.below⟩
    ·obtain ⟨j, rfl⟩ : ∃ j, i = j + 1 := ⟨i - 1, by omega⟩
     have ej : (((j + 1 : Nat) : Int) - 1) = (j : Int) := by omega
     rw [ej]
     have i2 : 0 ≤ (j : Int) := by omega
     have s5 : wrap64 ((j : Int) - 1) = (j : Int) - 1 := Go.IntWalk.wrap64_in _ (by omega)
     have q0 := (HGr.out.keep HR5.out.below).row ha'
     have e1 := (HCr.out.keep HR5.out.below).c1
     have p0 : wr.cell? ⟨gl, j, none⟩ = some (.int .i64 (lyr r set s j : Nat)) := by
      have := (HO.out.keep HR5.out.below).ln.at (j := j) (by rw [lys_len]; omega)
      rw [lys_at] at this
      simpa using this
     obtain ⟨v1, hv1, hv1b⟩ := lyr_back HV.out hset Hs.out ha' Hbit.out
     have hLj := sub_lt ((lyr_sub (r := r) Hs.out j).trans (gro_sub (r := r) Hs.out j)) hset
     have hra := HV.out.lt128 ha'
     obtain ⟨y, hy⟩ : ∃ y, y = r a' := ⟨_, rfl⟩
     rw [← hy] at q0 hv1b hra
     obtain ⟨Lj, hLj'⟩ : ∃ Lj, Lj = lyr r set s j := ⟨_, rfl⟩
     rw [← hLj'] at p0 hv1b hLj
     have hE := i64_and_nat y Lj (by omega) (by omega)
     have hlt : y &&& Lj < 128 := Nat.lt_of_le_of_lt Nat.and_le_left (by omega)
     obtain ⟨v0, l0, hl0, hv7, hvb⟩ := list_ne hlt (fun e => by rw [e] at hv1b; simp at hv1b)
     rw [Nat.testBit_and, Bool.and_eq_true] at hvb
     have hv0 : v0 < m := bit_lt hLj hvb.2
     have Hb0 : Hid ((lyr r set s j).testBit v0 = true) := by rw [← hLj']; exact hvb.2
     obtain ⟨z0, hz0⟩ : ∃ z0, z0 = y &&& Lj := ⟨_, rfl⟩
     rw [← hz0] at hE hl0 hlt
     have KL : Hid (∀ z : World, Calls Tryz.prog 223 #[.int .i64 (z0 : Int)] z fun e w' => ∃ g7 n7 c7, e = .returned (.slice (some ⟨g7, 0, none⟩) n7 c7) ∧ 0 < n7 ∧ w'.cell? ⟨g7, 0, none⟩ = some (.int .i64 (v0 : Nat)) ∧ Below z.heap.size z w') := fun z => (ListOf_v z0 hlt z).mono fun _ _ ⟨A7, c7, h1, h2, h3⟩ => by
      have hn : 0 < (listN z0).length := by rw [hl0]; simp
      obtain ⟨g7, rfl, _⟩ := h2.own.at_ (by omega)
      have h4 := h2.ln.at hn
      refine ⟨g7, _, c7, h1, hn, ?_, h3⟩
      simpa [hl0] using h4
     have i3 : (j : Int) < ((lys r set s k).length : Int) := by rw [lys_len]; omega
     have i4 : j < (lys r set s k).length := by rw [lys_len]; omega
     have i5 : (a' : Int) < (m : Int) := by omega
     have HBz := Lib.hid (HBr.out.keep HR5.out.below)
     clear hv1b hvb hl0 hlt hy hLj' hz0 hLj ej
     go_wp2
     have HSC : Hid (∀ z : World, Below wr.heap.size wr z → (Below wr.heap.size wr z ∧ z.cell? ⟨w.heap.size, 1, none⟩ = some (.slice (some ⟨b0, o0, none⟩) m c) ∧ z.cell? ⟨b0, o0 + a', none⟩ = some (.int .i64 (y : Int)) ∧ z.cell? ⟨gl, j, none⟩ = some (.int .i64 (Lj : Int)))) := fun z hz => ⟨hz, up_ hz e1, up_ hz q0, up_ hz p0⟩
     have HZ0 : Hid (Below wr.heap.size wr wr.drew) := (Below.refl _ _).drew
     have HS1 := Lib.hid (HSC.out _ HZ0.out)
     have KR1 : Hid (∀ z : World, Below wr.heap.size wr z → _) := fun z hz => KL.out z
     refine wp_region_held_drew (S := fun z => Below wr.heap.size wr z ∧ z.cell? ⟨w.heap.size, 1, none⟩ = some (.slice (some ⟨b0, o0, none⟩) m c) ∧ z.cell? ⟨b0, o0 + a', none⟩ = some (.int .i64 (y : Int)) ∧ z.cell? ⟨gl, j, none⟩ = some (.int .i64 (Lj : Int))) (by kernel_rfl) HS1.out (fun hHeld => ?_)
     refine pcY 0 rfl rfl (by kernel_rfl) (by rfl) (by intro w u; (try dsimp only at u); go_simp <;> with_reducible rfl) ‹_› (fun _ _ _ h => h) ?_; simp only [Act.put, sl0, sl1, sl2]
     iterate 9 (refine ptY rfl rfl (by kernel_rfl) (by rfl) (by intro w u; (try dsimp only at u); go_simp <;> with_reducible rfl) ‹_› (fun _ _ _ h => h) ?_; simp only [Act.put, sl0, sl1, sl2])
     refine wpAnyH_ready (rs := [10]) (by kernel_rfl) (by simp) ?_
     refine AllReadyH.cons rfl (fun K hK => ?_) AllReadyH.nil
     go_simp
     go_at_call 223; refine (KR1.out _ HZ0.out).mono ?_
     rintro e w5 ⟨g7, n7, c7, rfl, h7n, h7c, hb5⟩
     have hz5 := bl_trans HZ0.out hb5
     refine hK.out _ _ (HSC.out _ hz5) (fun hHeld => ?_)
     clear hK K
     try simp only [Act.put, sl0, sl1, sl2]
     refine wpAnyH_ready (rs := [11]) (by kernel_rfl) (by simp) ?_
     refine AllReadyH.cons rfl (fun K hK => ?_) AllReadyH.nil
     go_simp
     refine hK.out _ _ (HSC.out _ hz5) (fun hHeld => ?_)
     clear hK K
     try simp only [Act.put, sl0, sl1, sl2]
     refine wpAnyH_ready (rs := [12]) (by kernel_rfl) (by simp) ?_
     refine AllReadyH.cons rfl (fun K hK => ?_) AllReadyH.nil
     go_simp
     refine hK.out _ _ (HSC.out _ hz5) (fun hHeld => ?_)
     clear hK K
     try simp only [Act.put, sl0, sl1, sl2]
     refine ptY rfl rfl (by kernel_rfl) (by rfl) (by intro w u; (try dsimp only at u); go_simp <;> with_reducible rfl) ‹_› (fun _ _ _ h => h) ?_; simp only [Act.put, sl0, sl1, sl2]
     refine wpAnyH_done (by kernel_rfl) ?_ _
     replace HO5 := Lib.hid (HO5.out.keep hz5)
     replace HR5 := Lib.hid (HR5.out.keep hz5)
     clear hb5 hz5 HSC HZ0 HS1 KR1
     have hB5 := HR5.out.below.size
     go_wp2_with (first | (at_builtin; (refine wpList_pushN w5 rfl _ _ rfl w3.heap.size w5.heap.size A5 c5 L5 HO5.out.own (by omega) v0 rfl 1 w5.heap.size rfl rfl (by omega) ?_; intro g cap w6 hO6 hb6)))
     have H5 : Hid (ON w3.heap.size w6 (some ⟨g, 0, none⟩) cap (L5 ++ [v0])) := ⟨by rw [List.length_append]; exact hO6⟩
     have H6 : Hid (From w3 w6) := ⟨HR5.out.below.trans hb6⟩
     clear hO6 hb6
     go_roundw
     case rel => exact ⟨j, v0, some ⟨g, 0, none⟩, cap, L5 ++ [v0], by omega, rfl, by rw [List.length_append]; rfl, rfl, hv0, Hb0, by rw [List.length_append]; simp; omega, H5, H6⟩
     case measure => (simp [intOf] <;> omega)
end Go.Proofs.YtfabbohijhjpcaaGreatDoor
