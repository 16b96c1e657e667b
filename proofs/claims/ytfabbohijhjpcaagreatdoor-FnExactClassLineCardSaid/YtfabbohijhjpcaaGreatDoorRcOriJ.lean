/-
  Several texts in one.
-/
import Derived.Test.YtfabbohijhjpcaaGreatDoorRcArcN
import Derived.Test.YtfabbohijhjpcaaGreatDoorRcFillP
/-
-/
namespace Go.Proofs.YtfabbohijhjpcaaGreatDoor
open Go.RowKit
theorem listN_all : ∀ m, m < 8 → listN (2 ^ m - 1) = List.range m := by decide +kernel
theorem fv1_list {r : Nat → Nat} {m a b s : Nat} (vg : VG m r) (hs : s < 2 ^ m) (hb : ∀ c, c < m → s.testBit c = ((r a).testBit c && (!(r b).testBit c && !decide (c = b)))) : (listN s).map (fun c => (a, c)) = fv1 r m a b a := by
 rw [fv1_at, listN_filter hs vg.n7]
 congr 1
 apply List.filter_congr
 intro c hc
 exact hb c (List.mem_range.1 hc)
theorem but_bit {x y b : Nat} {c : Nat} : ((x ^^^ (x &&& y)) ^^^ ((x ^^^ (x &&& y)) &&& 2 ^ b)).testBit c = (x.testBit c && (!y.testBit c && !decide (c = b))) := by
 simp only [Nat.testBit_xor, Nat.testBit_and, Nat.testBit_two_pow]
 by_cases h : b = c
 ·subst h
  cases x.testBit b <;> cases y.testBit b <;> simp
 ·have h2 : ¬ c = b := fun e => h e.symm
  simp only [h, h2, decide_false]
  cases x.testBit c <;> cases y.testBit c <;> rfl
theorem range_getD {m k : Nat} (h : k < m) : (List.range m).getD k 0 = k := by simp [List.getD, h]
section
variable {A : Option Addr} {m c : Nat} {r : Nat → Nat} {w : World}
set_option maxRecDepth 100000 in
set_option maxHeartbeats 6400000 in
theorem forces_v (h : GV w A m c r) {a b : Nat} (ha : a < m) (hb : b < m) :
 Calls Tryz.prog 296 #[.agg #[.int .i64 m, .slice A m c], .int .i64 (a : Int), .int .i64 (b : Int)] w fun e w' => ∃ (g c' : Nat), e = .returned (.slice (some ⟨g, 0, none⟩) (fnL r m a b).length c') ∧ OB (fun _ => True) w.heap.size w' g c' (fnL r m a b) ∧ Below w.heap.size w w' := by
 have hm7 := h.vg.n7
 have hm1 := h.vg.n1
 have HV := Lib.hid h.vg
 obtain ⟨W, hW⟩ : ∃ W : World, W = ((w.alloc (Obj.cells #[Value.int IntKind.i64 m, Value.slice A m c] 26)).alloc (Obj.cells #[] 24)) := ⟨_, rfl⟩
 have hz0 : (w.alloc (Obj.cells #[Value.int IntKind.i64 m, Value.slice A m c] 26)).heap.size = w.heap.size + 1 := by simp
 have HB : Hid (From w W) := by rw [hW]; exact (From.alloc _ _).alloc_ _
 have HC : Hid (GC W w.heap.size m A m c) := by rw [hW]; exact (GC.new _ _ _ _ _).keep ((Below.refl _ _).alloc (Nat.le_refl _) _)
 have HGw := Lib.hid h
 have HO : Hid (OB (fun _ => True) (w.heap.size + 1) W (w.heap.size + 1) 0 []) := by
  have := OB.nil (P := fun _ => True) (lo := w.heap.size + 1) (w.alloc (Obj.cells #[Value.int IntKind.i64 m, Value.slice A m c] 26)) (by omega)
  rw [hz0] at this
  rw [hW]; exact this
 have HW := Lib.hid hW
 obtain ⟨F, hF⟩ : ∃ F, F = 2 ^ m - 1 := ⟨_, rfl⟩
 have h128 := two_pow_le hm7
 have hF128 : F < 128 := by omega
 have KA := Lib.hid (all_v (h.keep HB.out.below))
 rw [← hF] at KA
 have HLF : Hid (listN F = List.range m) := by show _ = _; rw [hF]; exact listN_all m (by omega)
 have KL : Hid (∀ z : World, Calls Tryz.prog 223 #[.int .i64 (F : Int)] z fun e w' => ∃ A' c', e = .returned (.slice A' m c') ∧ ON z.heap.size w' A' c' (List.range m) ∧ Below z.heap.size z w') := fun z => by
  have := ListOf_v F hF128 z
  rw [HLF.out, List.length_range] at this
  exact this
 obtain ⟨b0, o0, rfl⟩ := h.addr
 clear hW h hF h128 hz0
 go_enter Tryz.func296, Tryz.ntmps296
 have e0 := HC.out.c0
 have e1 := HC.out.c1
 go_wp2_with fail
 rw [← HW.out]
 refine (KA.out).mono ?_
 rintro e w1 ⟨rfl, hb1⟩
 clear HW
 clear e0 e1
 replace HB := Lib.hid (HB.out.keep hb1)
 replace HC := Lib.hid (HC.out.keep hb1)
 replace HO := Lib.hid (HO.out.keep hb1)
 clear hb1
 have e0 := HC.out.c0
 have e1 := HC.out.c1
 go_wp2_with fail
 refine (KL.out _).mono ?_
 rintro e wa ⟨A2, c2, rfl, ho2, hb2⟩
 have hlw : w.heap.size < w1.heap.size := HC.out.lt
 have HL : Hid (ON w.heap.size wa A2 c2 (List.range m)) := ho2.mono (Nat.le_of_lt hlw)
 clear e0 e1
 replace HB := Lib.hid (HB.out.keep hb2)
 replace HC := Lib.hid (HC.out.keep hb2)
 replace HO := Lib.hid (HO.out.keep hb2)
 clear hb2 ho2 KA KL HLF
 have e0 := HC.out.c0
 have e1 := HC.out.c1
 obtain ⟨g2, hg2, _, _, _, _, _⟩ := HL.out.own.at_ (by rw [List.length_range]; omega)
 obtain rfl := hg2
 clear e0 e1 hlw
 go_wp2
 go_loopw [7, 17] (fun l i wr => ∃ (k g5 c5 : Nat) (L : List (Nat × Nat)), k ≤ m ∧ i = .int .i64 k ∧ l = .slice (some ⟨g5, 0, none⟩) L.length c5 ∧ Hid (L = fnT r m a b k) ∧ Hid (OB (fun _ => True) (w.heap.size + 1) wr g5 c5 L) ∧ Hid (ON w.heap.size wr (some ⟨g2, 0, none⟩) c2 (List.range m)) ∧ Hid (GC wr w.heap.size m (some ⟨b0, o0, none⟩) m c) ∧ Hid (From w wr)) (fun _ i _ => m - (intOf i).toNat)
 case atStart => exact ⟨0, _, 0, [], Nat.zero_le _, rfl, rfl, rfl, HO, HL, HC, HB⟩
 case round =>
  clear HO HL HC HB
  obtain ⟨k, g5, c5, L, hk, rfl, rfl, HT, HO, HL, HC, HB⟩ := hrel
  by_cases hkm : k < m
  rotate_left
  ·obtain rfl : k = m := by omega
   obtain rfl := HT.out
   have hi1 : (k : Int) ≤ (k : Int) := Int.le_refl _
   go_wp2
   go_ret
   exact ⟨g5, c5, rfl, ⟨HO.out.ex.imp fun D ⟨h1, h2, h3⟩ => ⟨h1, h2, fun d hd => (h3 d hd).imp fun k ⟨k1, k2, k3, k4⟩ => ⟨k1, by omega, k3, k4⟩⟩, by have := HO.out.l; omega⟩, HB.out.below⟩
  have hL49 : L.length ≤ 49 := by rw [HT.out]; have := fnT_len (b := b) HV.out ha k; omega
  have i1 : (k : Int) < (m : Int) := by omega
  have p0 : wr.cell? ⟨g2, k, none⟩ = some (.int .i64 (k : Int)) := by
   obtain ⟨g3, e3, _, _, _, hc3, _⟩ := HL.out.own.at_ (by rw [List.length_range]; omega)
   cases e3
   rw [hc3 k (by rw [List.length_range]; omega)]
   unfold ni
   rw [range_getD hkm]
  have HGr := Lib.hid (HGw.out.keep HB.out.below)
  have p1 := HGr.out.row ha
  have p2 := HGr.out.row hb
  have x1 := HV.out.lt128 ha
  have x2 := HV.out.lt128 hb
  obtain ⟨x, hx⟩ : ∃ x, x = r a := ⟨_, rfl⟩
  obtain ⟨y, hy⟩ : ∃ y, y = r b := ⟨_, rfl⟩
  rw [← hx] at p1 x1
  rw [← hy] at p2 x2
  have HX := Lib.hid hx
  have HY := Lib.hid hy
  clear hx hy
  have e0 := HC.out.c0
  have e1 := HC.out.c1
  by_cases hka : k = a
  ·have Hka := Lib.hid hka
   have j1 : ((k : Int) == (a : Int)) = true := by simp [hka]
   obtain ⟨s1, hs1⟩ : ∃ s1, s1 = x ^^^ (x &&& y) := ⟨_, rfl⟩
   have hs1l : s1 < 128 := by rw [hs1]; exact Nat.xor_lt_two_pow (n := 7) x1 (Nat.lt_of_le_of_lt Nat.and_le_left x1)
   have E1 : bits .andNot .i64 (x : Int) (y : Int) = (s1 : Int) := by rw [i64_andNot_nat x y (by omega) (by omega), hs1]
   obtain ⟨s, hs⟩ : ∃ s, s = s1 ^^^ (s1 &&& 2 ^ b) := ⟨_, rfl⟩
   have hsl : s < 128 := by rw [hs]; exact Nat.xor_lt_two_pow (n := 7) hs1l (Nat.lt_of_le_of_lt Nat.and_le_left hs1l)
   have hpb := two_pow_le (n := b) (by omega)
   have E2 : bits .andNot .i64 (s1 : Int) (2 ^ b) = (s : Int) := by
    have := i64_andNot_nat s1 (2 ^ b) (by omega) (by omega)
    rw [hs, ← this]; simp
   have pb := pow_shl b (by omega)
   have hlst : (listN s).map (fun c => (a, c)) = fv1 r m a b a := fv1_list HV.out (by
    have h1 := HV.out.lt a ha
    rw [← HX.out] at h1
    rw [hs, hs1]
    exact Nat.xor_lt_two_pow (Nat.xor_lt_two_pow h1 (Nat.lt_of_le_of_lt Nat.and_le_left h1)) (Nat.lt_of_le_of_lt Nat.and_le_left (Nat.xor_lt_two_pow h1 (Nat.lt_of_le_of_lt Nat.and_le_left h1)))) (fun c _ => by rw [← HX.out, ← HY.out, hs, hs1]; exact but_bit)
   have KS := Lib.hid (ListOf_v s hsl)
   have hl7 := listN_len s
   obtain ⟨lst, hls⟩ : ∃ l, l = listN s := ⟨_, rfl⟩
   rw [← hls] at KS hlst hl7
   have HT2 : Hid (fnT r m a b (k + 1) = L ++ lst.map (fun c => (a, c))) := by show _ = _; rw [fnT_succ, HT.out, hka, hlst]
   clear hs hs1 hlst hls hpb hka
   have HB' := HB
   have HSC : Hid (∀ z : World, Below wr.heap.size wr z → (Below wr.heap.size wr z ∧ z.cell? ⟨w.heap.size, 1, none⟩ = some (.slice (some ⟨b0, o0, none⟩) m c) ∧ z.cell? ⟨b0, o0 + a, none⟩ = some (.int .i64 (x : Nat)) ∧ z.cell? ⟨b0, o0 + b, none⟩ = some (.int .i64 (y : Nat)))) := fun z hz => ⟨hz, up_ hz e1, up_ hz p1, up_ hz p2⟩
   have HZ0 : Hid (Below wr.heap.size wr wr.drew) := (Below.refl _ _).drew
   have HS1 := Lib.hid (HSC.out _ HZ0.out)
   have KR1 : Hid (∀ z : World, Below wr.heap.size wr z → _) := fun z hz => KS.out z
   go_wp2
   go_region_held3 (fun z => Below wr.heap.size wr z ∧ z.cell? ⟨w.heap.size, 1, none⟩ = some (.slice (some ⟨b0, o0, none⟩) m c) ∧ z.cell? ⟨b0, o0 + a, none⟩ = some (.int .i64 (x : Nat)) ∧ z.cell? ⟨b0, o0 + b, none⟩ = some (.int .i64 (y : Nat)))
    (first | exact HS1.out | assumption | exact HSC.out _ hz2 | fail)
    (first | (go_at_call 223; ((with_reducible refine (KR1.out _ HZ0.out).mono ?_); rintro e w2 ⟨A3, c3, rfl, ho3, hb2⟩; have hz2 := bl_trans HZ0.out hb2)))
   clear e0 e1
   replace HB := Lib.hid (HB.out.keep hz2)
   replace HC := Lib.hid (HC.out.keep hz2)
   replace HO := Lib.hid (HO.out.keep hz2)
   replace HL := Lib.hid (HL.out.keep hz2)
   clear hb2 hz2 HSC HZ0 HS1 KR1
   have e0 := HC.out.c0
   have e1 := HC.out.c1
   have HL3 : Hid (ON w.heap.size w2 A3 c3 lst) := ho3.mono (by show w.heap.size ≤ wr.heap.size; exact HB'.out.below.size)
   clear ho3 KS E1 E2 p0 p1 p2 e0 e1 pb HGr
   go_wp2
   obtain ⟨wo, rfl⟩ : ∃ z : World, z = w2 := ⟨_, rfl⟩
   go_loopw [7, 40] (fun l i wz => ∃ (j g6 c6 : Nat) (L6 : List (Nat × Nat)), j ≤ lst.length ∧ i = .int .i64 j ∧ l = .slice (some ⟨g6, 0, none⟩) L6.length c6 ∧ Hid (L6 = L ++ (lst.take j).map (fun c => (a, c))) ∧ Hid (OB (fun _ => True) (w.heap.size + 1) wz g6 c6 L6) ∧ Hid (ON w.heap.size wz (some ⟨g2, 0, none⟩) c2 (List.range m)) ∧ Hid (ON w.heap.size wz A3 c3 lst) ∧ Hid (GC wz w.heap.size m (some ⟨b0, o0, none⟩) m c) ∧ Hid (From w wz)) (fun _ i _ => lst.length - (intOf i).toNat)
   case atStart => exact ⟨0, _, c5, L, Nat.zero_le _, rfl, rfl, by show L = _; simp, HO, HL, HL3, HC, HB⟩
   case round =>
    clear HO HL HL3 HC HB
    obtain ⟨j, g6, c6, L6, hj, rfl, rfl, HT6, HO, HL, HL3, HC, HB⟩ := hrel
    by_cases hjl : j < lst.length
    ·have hl6 : L6.length ≤ 64 := by rw [HT6.out, List.length_append, List.length_map, List.length_take]; omega
     obtain ⟨g3, hg3, _, _, _, hc3, _⟩ := HL3.out.own.at_ (by omega)
     obtain rfl := hg3
     have q0 := hc3 j (by omega)
     obtain ⟨u, hu⟩ : ∃ u, u = lst.getD j 0 := ⟨_, rfl⟩
     have q1 : wr.cell? ⟨g3, j, none⟩ = some (.int .i64 (u : Int)) := by rw [q0, hu]; rfl
     have HT7 : Hid (L6 ++ [(a, u)] = L ++ (lst.take (j + 1)).map (fun c => (a, c))) := by
      show _ = _
      rw [HT6.out, List.take_succ_eq_append_getElem hjl, List.map_append, ← List.append_assoc, hu]
      simp [List.getD, hjl]
     have i2 : (j : Int) < (lst.length : Int) := by omega
     have hlz : w.heap.size < wr.heap.size := HC.out.lt
     have hl6' := HO.out.l
     clear q0 hc3 hu
     go_wp2_with (first | (at_builtin; (refine wpList_pushNa wr rfl _ _ rfl (fun _ => True) (w.heap.size + 1) g6 c6 L6 HO.out a u trivial rfl 1 (wr.heap.size + 1) rfl rfl (by omega) ?_; intro g7 c7 w7 hO7 hg7 hf7)))
     have HO7 := Lib.hid hO7
     have HL7 := Lib.hid (HL.out.keepO HO.out hf7)
     have HL37 := Lib.hid (HL3.out.keepO HO.out hf7)
     have HC7 := Lib.hid (HC.out.keepF hf7 (.inl (by omega)))
     have HB7 : Hid (From w w7) := ⟨HB.out.below.trans (hf7.below (by omega) HB.out.below.size)⟩
     clear hO7 hg7 hf7 q1
     go_wp2
     go_roundw
     case rel => exact ⟨j + 1, g7, c7, L6 ++ [(a, u)], by omega, by go_num, by rw [List.length_append]; rfl, HT7, HO7, HL7, HL37, HC7, HB7⟩
     case measure => (simp [intOf] <;> omega)
    ·obtain rfl : j = lst.length := by omega
     have HT8 : Hid (L6 = fnT r m a b (k + 1)) := by show _ = _; rw [HT6.out, HT2.out, List.take_length]
     have i2 : (lst.length : Int) ≤ (lst.length : Int) := Int.le_refl _
     go_wp2
     go_roundw
     case rel => exact ⟨k + 1, g6, c6, L6, by omega, by go_num, rfl, HT8, HO, HL, HC, HB⟩
     case measure => (simp [intOf] <;> omega)
  ·have Hka := Lib.hid hka
   have j1 : ((k : Int) == (a : Int)) = false := by simp; omega
   obtain ⟨s, hs⟩ : ∃ s, s = y ^^^ (y &&& x) := ⟨_, rfl⟩
   have hsl : s < 128 := by rw [hs]; exact Nat.xor_lt_two_pow (n := 7) x2 (Nat.lt_of_le_of_lt Nat.and_le_left x2)
   have E1 : bits .andNot .i64 (y : Int) (x : Int) = (s : Int) := by rw [i64_andNot_nat y x (by omega) (by omega), hs]
   have hbit : s.testBit k = ((r b).testBit k && !(r a).testBit k) := by
    rw [← HX.out, ← HY.out, hs]
    simp only [Nat.testBit_xor, Nat.testBit_and]
    cases x.testBit k <;> cases y.testBit k <;> rfl
   have KH : Hid (∀ z : World, Calls Tryz.prog 44 #[.int .i64 (s : Int), .int .i64 (k : Int)] z fun e w' => e = .returned (.bool (s.testBit k)) ∧ Below z.heap.size z w') := fun z => (has_v z hsl (by omega)).mono fun e w' ⟨h1, h2⟩ => ⟨h1, by rw [← h2]; exact Below.refl _ _⟩
   obtain ⟨t, ht⟩ : ∃ t, t = s.testBit k := ⟨_, rfl⟩
   rw [← ht] at KH hbit
   have HT2 : Hid (fnT r m a b (k + 1) = L ++ (if t = true then [(k, b)] else [])) := by
    show _ = _
    rw [fnT_succ, HT.out]
    congr 1
    cases t
    ·exact fv1_no hka hbit.symm
    ·exact fv1_yes hka hbit.symm
   clear hs ht hbit hka
   have HSC : Hid (∀ z : World, Below wr.heap.size wr z → (Below wr.heap.size wr z ∧ z.cell? ⟨w.heap.size, 1, none⟩ = some (.slice (some ⟨b0, o0, none⟩) m c) ∧ z.cell? ⟨b0, o0 + a, none⟩ = some (.int .i64 (x : Nat)) ∧ z.cell? ⟨b0, o0 + b, none⟩ = some (.int .i64 (y : Nat)))) := fun z hz => ⟨hz, up_ hz e1, up_ hz p1, up_ hz p2⟩
   have HZ0 : Hid (Below wr.heap.size wr wr.drew) := (Below.refl _ _).drew
   have HS1 := Lib.hid (HSC.out _ HZ0.out)
   have KR1 : Hid (∀ z : World, Below wr.heap.size wr z → _) := fun z hz => KH.out z
   go_wp2
   go_region_held3 (fun z => Below wr.heap.size wr z ∧ z.cell? ⟨w.heap.size, 1, none⟩ = some (.slice (some ⟨b0, o0, none⟩) m c) ∧ z.cell? ⟨b0, o0 + a, none⟩ = some (.int .i64 (x : Nat)) ∧ z.cell? ⟨b0, o0 + b, none⟩ = some (.int .i64 (y : Nat)))
    (first | exact HS1.out | assumption | exact HSC.out _ hz3 | fail)
    (first | (go_at_call 44; ((with_reducible refine (KR1.out _ HZ0.out).mono ?_); rintro e w3 ⟨rfl, hb3⟩; have hz3 := bl_trans HZ0.out hb3)))
   clear e0 e1
   replace HB := Lib.hid (HB.out.keep hz3)
   replace HC := Lib.hid (HC.out.keep hz3)
   replace HO := Lib.hid (HO.out.keep hz3)
   replace HL := Lib.hid (HL.out.keep hz3)
   clear hb3 hz3 HSC HZ0 HS1 KR1
   have e0 := HC.out.c0
   have e1 := HC.out.c1
   clear KH E1 p0 p1 p2 e0 e1 HGr
   cases t
   ·have HT8 : Hid (L = fnT r m a b (k + 1)) := by show _ = _; rw [HT2.out]; simp
    go_wp2
    go_roundw
    case rel => exact ⟨k + 1, g5, c5, L, by omega, by go_num, rfl, HT8, HO, HL, HC, HB⟩
    case measure => (simp [intOf] <;> omega)
   ·have HT8 : Hid (L ++ [(k, b)] = fnT r m a b (k + 1)) := by show _ = _; rw [HT2.out]; rfl
    obtain ⟨wz, hwz⟩ : ∃ z : World, z = w3 := ⟨_, rfl⟩
    rw [← hwz] at HB HC HO HL ⊢
    clear hwz
    have hlz : w.heap.size < wz.heap.size := HC.out.lt
    have hl6' := HO.out.l
    go_wp2_with (first | (at_builtin; (refine wpList_pushNa wz rfl _ _ rfl (fun _ => True) (w.heap.size + 1) g5 c5 L HO.out k b trivial rfl 1 (wz.heap.size + 1) rfl rfl (by omega) ?_; intro g7 c7 w7 hO7 hg7 hf7)))
    have HO7 := Lib.hid hO7
    have HL7 := Lib.hid (HL.out.keepO HO.out hf7)
    have HC7 := Lib.hid (HC.out.keepF hf7 (.inl (by omega)))
    have HB7 : Hid (From w w7) := ⟨HB.out.below.trans (hf7.below (by omega) HB.out.below.size)⟩
    clear hO7 hg7 hf7
    go_wp2
    go_roundw
    case rel => exact ⟨k + 1, g7, c7, L ++ [(k, b)], by omega, by go_num, by rw [List.length_append]; rfl, HT8, HO7, HL7, HC7, HB7⟩
    case measure => (simp [intOf] <;> omega)
end
end Go.Proofs.YtfabbohijhjpcaaGreatDoor

/-
-/
namespace Go.Proofs.YtfabbohijhjpcaaGreatDoor
open Go.RowKit
theorem wpList_pushJ (W : World) {ops : Array Oper} {rest : List Oper} {o : Oper} {a : Act} {Q : Exit → Act → World → Prop} (hgd : o.guard = none) (s y : Operand)
 (ho : o.op = .call { callee := .builtin .append, args := #[s, y], argTypes := #[24, 24] })
 (g n c : Nat) (f : Nat → Int) (h : Own W g (g + 1) 3 1 (some ⟨g, 0, none⟩) n c (fun j => .int .i64 (f j))) (hg : g < W.heap.size) (v : Int) (hs : a.eval s = .slice (some ⟨g, 0, none⟩) n c) (cx H : Nat) (hH : W.heap.size = H) (hy : a.eval y = .slice (some ⟨H, 0, none⟩) 1 cx)
 (hn : n ≤ 1073741824)
 (hK : ∀ (g' cap : Nat) (w' : World) (f' : Nat → Int), Own w' g' (g' + 1) 3 1 (some ⟨g', 0, none⟩) (n + 1) cap (fun j => .int .i64 (f' j)) → (g' = g ∨ W.heap.size < g') → g' < w'.heap.size → Fr g (g + 1) W w' → wpList Tryz.prog ops Q rest (a.put o.dst (.slice (some ⟨g', 0, none⟩) (n + 1) cap)) w') :
 wpList Tryz.prog ops Q (o :: rest) a (W.alloc (Obj.cells #[.int .i64 v] 3)) := by
 subst hH
 have ha := h.alloc (Obj.cells #[.int .i64 v] 3)
 refine wpList_push (W.alloc (Obj.cells #[.int .i64 v] 3)) hgd s y 24 ho 3 _ 1 8 Tryz.underlying24 info_int rfl (by omega) g (g + 1) (some ⟨g, 0, none⟩) n c (fun j => .int .i64 (if j < n then f j else v)) hs
  (ha.congr (fun j hj => by rw [if_pos (by omega)])) (by simp; omega) W.heap.size #[.int .i64 v] 3 (0, 0) cx (heap_alloc_new W _) hy rfl ?_ (by simp [Value.oneCell']) hn (by omega) ?_
 ·intro i hi
  obtain rfl : i = 0 := by omega
  simp
 ·intro g' cap w' hp
  obtain ⟨h1, h2, h3, h4⟩ := hp.caged
  exact hK g' cap w' _ h1 (h2.imp id (fun h => by rw [h]; simp)) h3 (((Fr.refl g (g + 1) W).alloc _).trans h4)
theorem adL_more {L F : List (Nat × Nat)} {k : Nat} (h : k < L.length) : k + 1 ≤ (adL L F).length := by
 obtain ⟨t, ht⟩ := adL_pre F L
 rw [ht, List.length_append]
 omega
section
variable {A : Option Addr} {m c : Nat} {r : Nat → Nat} {w : World}
set_option maxRecDepth 100000 in
set_option maxHeartbeats 6400000 in
theorem forced_v (h : GV w A m c r) {a b : Nat} (ha : a < m) (hb : b < m) (hab : (r a).testBit b = true) :
 Calls Tryz.prog 219 #[.agg #[.int .i64 m, .slice A m c], .int .i64 (a : Int), .int .i64 (b : Int)] w fun e w' => ∃ (g c' gf cf : Nat), e = .returned (.tuple #[.slice (some ⟨g, 0, none⟩) (fcO r m a b).length c', .slice (some ⟨gf, 0, none⟩) (fcO r m a b).length cf]) ∧ OB (fun _ => True) w.heap.size w' g c' (fcO r m a b) ∧ Below w.heap.size w w' := by
 have hm7 := h.vg.n7
 have hm1 := h.vg.n1
 have HV := Lib.hid h.vg
 have HGw := Lib.hid h
 obtain ⟨W, hW⟩ : ∃ W : World, W = ((((w.alloc (Obj.cells #[Value.int IntKind.i64 m, Value.slice A m c] 26)).alloc (Obj.cells #[.int .i64 (a : Int), .int .i64 (b : Int)] 3)).alloc (Obj.cells #[.slice (some ⟨w.heap.size + 1, 0, none⟩) 2 2] 24)).alloc (Obj.cells #[.int .i64 (-1)] 3)) := ⟨_, rfl⟩
 have hz1 : (w.alloc (Obj.cells #[Value.int IntKind.i64 m, Value.slice A m c] 26)).heap.size = w.heap.size + 1 := by simp
 have hz3 : (((w.alloc (Obj.cells #[Value.int IntKind.i64 m, Value.slice A m c] 26)).alloc (Obj.cells #[.int .i64 (a : Int), .int .i64 (b : Int)] 3)).alloc (Obj.cells #[.slice (some ⟨w.heap.size + 1, 0, none⟩) 2 2] 24)).heap.size = w.heap.size + 3 := by simp
 have HB : Hid (From w W) := by rw [hW]; exact (((From.alloc _ _).alloc_ _).alloc_ _).alloc_ _
 have HC : Hid (GC W w.heap.size m A m c) := by
  rw [hW]
  exact (((GC.new _ _ _ _ _).keep ((Below.refl _ _).alloc (Nat.le_refl _) _)).keep ((Below.refl _ _).alloc (Nat.le_refl _) _)).keep ((Below.refl _ _).alloc (Nat.le_refl _) _)
 have HO : Hid (OB (fun k => k ≠ w.heap.size + 3) (w.heap.size + 1) W (w.heap.size + 2) 1 (fcI r m a b 0)) := by
  have := OB.one (P := fun k => k ≠ w.heap.size + 3) (lo := w.heap.size + 1) (w.alloc (Obj.cells #[Value.int IntKind.i64 m, Value.slice A m c] 26)) a b (by omega) (by rw [hz1]; omega)
  rw [hz1] at this
  rw [hW]
  exact this.keep ((Below.refl _ _).alloc (Nat.le_refl _) _)
 have HF : Hid (Own W (w.heap.size + 3) (w.heap.size + 3 + 1) 3 1 (some ⟨w.heap.size + 3, 0, none⟩) 1 1 (fun j => .int .i64 ((fun _ : Nat => (-1 : Int)) j))) := by
  have hn := heap_alloc_new (((w.alloc (Obj.cells #[Value.int IntKind.i64 m, Value.slice A m c] 26)).alloc (Obj.cells #[.int .i64 (a : Int), .int .i64 (b : Int)] 3)).alloc (Obj.cells #[.slice (some ⟨w.heap.size + 1, 0, none⟩) 2 2] 24)) (Obj.cells #[.int .i64 (-1)] 3)
  rw [hz3] at hn
  rw [hW]
  exact .inr ⟨w.heap.size + 3, _, rfl, Nat.le_refl _, Nat.lt_succ_self _, hn, Nat.le_refl _, by unfold maxLen; omega, rfl, fun j hj => by
   obtain rfl : j = 0 := by omega
   rfl⟩
 have hzW : w.heap.size + 3 < W.heap.size := by rw [hW]; simp
 have HW := Lib.hid hW
 clear hW h hz1 hz3
 go_enter Tryz.func219, Tryz.ntmps219
 go_wp2
 rw [← HW.out]
 clear HW
 go_loopw [8, 9, 10] (fun o fl i wr => ∃ (k gO cO gf cf : Nat) (f : Nat → Int) (L : List (Nat × Nat)), k ≤ L.length ∧ k ≤ 64 ∧ i = .int .i64 k ∧ o = .slice (some ⟨gO, 0, none⟩) L.length cO ∧ fl = .slice (some ⟨gf, 0, none⟩) L.length cf ∧ gO ≠ gf ∧ w.heap.size < gf ∧ gf < wr.heap.size ∧ Hid (L = fcI r m a b k) ∧ Hid (OB (fun k => k ≠ gf) (w.heap.size + 1) wr gO cO L) ∧ Hid (Own wr gf (gf + 1) 3 1 (some ⟨gf, 0, none⟩) L.length cf (fun j => .int .i64 (f j))) ∧ Hid (GC wr w.heap.size m A m c) ∧ Hid (From w wr)) (fun _ _ i _ => 64 - (intOf i).toNat)
 case atStart => exact ⟨0, w.heap.size + 2, 1, w.heap.size + 3, 1, _, fcI r m a b 0, Nat.zero_le _, Nat.zero_le _, rfl, rfl, rfl, by omega, by omega, hzW, rfl, HO, HF, HC, HB⟩
 case round =>
  clear HO HF HC HB
  obtain ⟨k, gO, cO, gf, cf, f, L, hkL, hk64, rfl, rfl, rfl, hne, hgf, hgfw, HT, HO, HF, HC, HB⟩ := hrel
  have hL64 : L.length ≤ 64 := by rw [HT.out]; exact fcI_len HV.out ha hb hab k
  by_cases hlt : k < L.length
  rotate_left
  ·obtain rfl : k = L.length := by omega
   have HE : Hid (L = fcO r m a b) := HT.out.trans (fcO_eq hk64 (by rw [← HT.out]; exact Nat.le_refl _)).symm
   have i1 : (L.length : Int) ≤ (L.length : Int) := Int.le_refl _
   have hlo := HO.out.l
   go_wp2
   go_ret2
   rw [← HE.out]
   exact ⟨gO, cO, gf, cf, rfl, ⟨HO.out.ex.imp fun D ⟨h1, h2, h3⟩ => ⟨h1, h2, fun d hd => (h3 d hd).imp fun k ⟨k1, k2, _, k4⟩ => ⟨k1, by omega, trivial, k4⟩⟩, by omega⟩, HB.out.below⟩
  have i1 : (k : Int) < (L.length : Int) := by omega
  have HB' := HB
  have hgOw' := HO.out.lt
  obtain ⟨ga, capa, q0, _, hac⟩ := HO.out.oc.arc hlt
  have q1 := hac.c0
  have q2 := hac.c1
  have hcap := hac.le
  obtain ⟨p, hp⟩ : ∃ p, p = L[k] := ⟨_, rfl⟩
  have hpm : p.1 < m ∧ p.2 < m ∧ (r p.1).testBit p.2 = true := by
   rw [hp]
   have := (fcI_arcs HV.out ha hb hab k).2 L[k] (by rw [← HT.out]; exact List.getElem_mem hlt)
   exact this
  have HT2 : Hid (fcI r m a b (k + 1) = adL L (fnL r m p.1 p.2)) := by
   show _ = _
   rw [HT.out, hp]
   simp only [HT.out]
   exact fcI_go (List.getElem?_eq_getElem _)
  rw [← hp] at q1 q2
  obtain ⟨p1, p2⟩ := p
  obtain ⟨hp1, hp2, _⟩ := hpm
  have e0 := HC.out.c0
  have e1 := HC.out.c1
  have j1 : (1 : Int) < (capa : Int) := by omega
  clear hp hac
  have HSC : Hid (∀ z : World, Below wr.heap.size wr z → (Below wr.heap.size wr z ∧ z.cell? ⟨w.heap.size, 0, none⟩ = some (.int .i64 (m : Nat)) ∧ z.cell? ⟨w.heap.size, 1, none⟩ = some (.slice A m c) ∧ z.cell? ⟨gO, k, none⟩ = some (.slice (some ⟨ga, 0, none⟩) 2 capa) ∧ z.cell? ⟨ga, 0, none⟩ = some (.int .i64 (p1 : Nat)) ∧ z.cell? ⟨ga, 1, none⟩ = some (.int .i64 (p2 : Nat)))) := fun z hz => ⟨hz, up_ hz e0, up_ hz e1, up_ hz q0, up_ hz q1, up_ hz q2⟩
  have HZ0 : Hid (Below wr.heap.size wr wr.drew) := (Below.refl _ _).drew
  have HS1 := Lib.hid (HSC.out _ HZ0.out)
  have KR1 : Hid (∀ z : World, Below wr.heap.size wr z → _) := fun z hz => forces_v (HGw.out.keep (HB'.out.below.trans (hz.mono HB'.out.below.size))) hp1 hp2
  go_wp2
  go_region_held3 (fun z => Below wr.heap.size wr z ∧ z.cell? ⟨w.heap.size, 0, none⟩ = some (.int .i64 (m : Nat)) ∧ z.cell? ⟨w.heap.size, 1, none⟩ = some (.slice A m c) ∧ z.cell? ⟨gO, k, none⟩ = some (.slice (some ⟨ga, 0, none⟩) 2 capa) ∧ z.cell? ⟨ga, 0, none⟩ = some (.int .i64 (p1 : Nat)) ∧ z.cell? ⟨ga, 1, none⟩ = some (.int .i64 (p2 : Nat)))
   (first | exact HS1.out | assumption | exact HSC.out _ hz1 | fail)
   (first | (go_at_call 296; ((with_reducible refine (KR1.out _ HZ0.out).mono ?_); rintro e w1 ⟨g5, c5, rfl, ho5, hb1⟩; have hz1 := bl_trans HZ0.out hb1)))
  clear e0 e1
  replace HB := Lib.hid (HB.out.keep hz1)
  replace HC := Lib.hid (HC.out.keep hz1)
  replace HO := Lib.hid (HO.out.keep hz1)
  clear hz1 HSC HZ0 HS1 KR1
  have e0 := HC.out.c0
  have e1 := HC.out.c1
  have hbq : Below wr.heap.size wr w1 := ⟨hb1.os, hb1.tape, hb1.output, hb1.size, hb1.block⟩
  have HF5 : Hid (Own w1 gf (gf + 1) 3 1 (some ⟨gf, 0, none⟩) L.length cf (fun j => .int .i64 (f j))) := HF.out.keepB hbq (by omega)
  have hsz := hbq.size
  have hO5l := ho5.l
  have H5 : Hid (OC wr.heap.size w1.heap.size w1 (some ⟨g5, 0, none⟩) c5 (fnL r m p1 p2)) := ho5.oc
  have hO5 := HO.out.lt
  have hgOw : gO < wr.heap.size := hgOw'
  obtain ⟨F, hF⟩ : ∃ F, F = fnL r m p1 p2 := ⟨_, rfl⟩
  have hF49 : F.length ≤ 49 := by rw [hF]; exact Nat.le_trans (fnT_len HV.out hp1 m) (by omega)
  rw [← hF] at HT2 H5 ⊢
  clear hF ho5 hb1 hbq HF q0 q1 q2 e0 e1
  go_wp2
  obtain ⟨wo, rfl⟩ : ∃ z : World, z = wr := ⟨_, rfl⟩
  obtain ⟨Z0, hZ0⟩ : ∃ Z, Z = wo.heap.size := ⟨_, rfl⟩
  obtain ⟨Z1, hZ1⟩ : ∃ Z, Z = w1.heap.size := ⟨_, rfl⟩
  have hZ01 : Z0 ≤ Z1 := by omega
  have hwZ0 : w.heap.size + 1 ≤ Z0 := by have := HO.out.l; omega
  have H5Z : Hid (OC Z0 Z1 w1 (some ⟨g5, 0, none⟩) c5 F) := by rw [hZ0, hZ1]; exact H5.out
  clear H5
  go_loopw [8, 9, 39] (fun o fl i wz => ∃ (j gO cO gf cf : Nat) (f : Nat → Int) (L6 : List (Nat × Nat)), j ≤ F.length ∧ i = .int .i64 j ∧ o = .slice (some ⟨gO, 0, none⟩) L6.length cO ∧ fl = .slice (some ⟨gf, 0, none⟩) L6.length cf ∧ gO ≠ gf ∧ w.heap.size < gf ∧ gf < wz.heap.size ∧ (gO < Z0 ∨ Z1 ≤ gO) ∧ (gf < Z0 ∨ Z1 ≤ gf) ∧ Z1 ≤ wz.heap.size ∧ Hid (L6 = adL L (F.take j)) ∧ Hid (OB (fun k => k ≠ gf) (w.heap.size + 1) wz gO cO L6) ∧ Hid (Own wz gf (gf + 1) 3 1 (some ⟨gf, 0, none⟩) L6.length cf (fun j => .int .i64 (f j))) ∧ Hid (OC Z0 Z1 wz (some ⟨g5, 0, none⟩) c5 F) ∧ Hid (GC wz w.heap.size m A m c) ∧ Hid (From w wz)) (fun _ _ i _ => F.length - (intOf i).toNat)
  case atStart => exact ⟨0, gO, cO, gf, cf, f, L, Nat.zero_le _, rfl, rfl, rfl, hne, hgf, by omega, .inl (by omega), .inl (by omega), by omega, rfl, HO, HF5, H5Z, HC, HB⟩
  case round =>
   clear HO HF5 H5Z HC HB hne hgf hgfw hgOw hgOw' HB'
   obtain ⟨j, gO, cO, gf, cf, f, L6, hjF, rfl, rfl, rfl, hne, hgf, hgfw, hcO, hcf, hZw, HT6, HO, HF, H5, HC, HB⟩ := hrel
   have hL6 : L6.length ≤ 128 := by
    rw [HT6.out]
    refine Nat.le_trans (adL_len _ _) ?_
    rw [List.length_take]
    omega
   by_cases hjl : j < F.length
   rotate_left
   ·obtain rfl : j = F.length := by omega
    have HT8 : Hid (L6 = fcI r m a b (k + 1)) := by show _ = _; rw [HT6.out, HT2.out, List.take_length]
    have i2 : (F.length : Int) ≤ (F.length : Int) := Int.le_refl _
    go_wp2
    go_roundw
    case rel => exact ⟨k + 1, gO, cO, gf, cf, f, L6, by rw [HT8.out, HT2.out]; exact adL_more hlt, by omega, by go_num, rfl, rfl, hne, hgf, hgfw, HT8, HO, HF, HC, HB⟩
    case measure => (simp [intOf] <;> omega)
   have i2 : (j : Int) < (F.length : Int) := by omega
   obtain ⟨gb, capb, q0, ⟨hgb1, hgb2⟩, hac⟩ := H5.out.arc hjl
   obtain ⟨p, hp⟩ : ∃ p, p = F[j] := ⟨_, rfl⟩
   rw [← hp] at hac
   have HA : Hid (AC wr gb capb p) := hac
   have HT7 : Hid (adL L (F.take (j + 1)) = if L6.contains p = true then L6 else L6 ++ [p]) := by show _ = _; rw [adL_take hjl, hp, HT6.out]
   have KI := Lib.hid (indexOf_v HO.out.oc hac (by omega))
   obtain ⟨z, hz⟩ : ∃ z, z = ixL L6 p := ⟨_, rfl⟩
   have hzd := ixL_neg (L := L6) (p := p)
   rw [← hz] at KI hzd
   clear hz hp hac
   go_wp2_with fail
   refine KI.out.mono ?_
   rintro e w2 ⟨rfl, hb2⟩
   replace HF := Lib.hid (HF.out.keepB hb2 (by omega))
   have hs2 := hb2.size
   replace HB := Lib.hid (HB.out.keep hb2)
   replace HC := Lib.hid (HC.out.keep hb2)
   replace HO := Lib.hid (HO.out.keep hb2)
   replace H5 := Lib.hid (H5.out.keep hb2)
   replace HA := Lib.hid (HA.out.keep hb2)
   clear hb2 KI q0
   cases hc : L6.contains p
   ·rw [hc] at hzd
    have hz0 : z < 0 := by simpa using hzd
    have HT9 : Hid (L6 ++ [p] = adL L (F.take (j + 1))) := by show _ = _; rw [HT7.out, hc]; rfl
    have hlo := HO.out.l
    have hgO2 := HO.out.lt
    clear hc hzd HT7
    go_wp2_with (first
     | (at_builtin; (refine wpList_pushO w2 rfl _ _ rfl (fun k => k ≠ gf) (w.heap.size + 1) gO cO L6 HO.out p gb capb HA.out (by omega) (by omega) rfl 1 w2.heap.size rfl rfl (by omega) ?_; intro g7 c7 w7 hO7 hg7 hf7; have hs7 := hf7.size; have HF7 := Lib.hid (HF.out.keep hf7 (by omega))))
     | (at_builtin; (refine wpList_pushJ w7 rfl _ _ rfl gf L6.length cf f HF7.out (by omega) (k : Int) rfl 1 w7.heap.size rfl rfl (by omega) ?_; intro g8 c8 w8 f8 hF8 hg8 hl8 hf8)))
    have hs8 := hf8.size
    have hO7l := hO7.l
    have hO7t := hO7.lt
    have HO8 : Hid (OB (fun k => k ≠ g8) (w.heap.size + 1) w8 g7 c7 (L6 ++ [p])) :=
     ((hO7.imp (P' := fun k => k ≠ gf ∧ k < w7.heap.size) (fun k h1 h2 => ⟨h2, h1⟩)).keepF hf8 (by omega) (fun j h => h.1)).imp (fun k _ h => by omega)
    have H58 : Hid (OC Z0 Z1 w8 (some ⟨g5, 0, none⟩) c5 F) := (H5.out.keepF hf7 (by omega)).keepF hf8 (by omega)
    have HC8 : Hid (GC w8 w.heap.size m A m c) := (HC.out.keepF hf7 (.inl (by omega))).keepF hf8 (.inl (by omega))
    have HB8 : Hid (From w w8) := ⟨(HB.out.below.trans (hf7.below (by omega) HB.out.below.size)).trans (hf8.below (by omega) (by have := HB.out.below.size; omega))⟩
    have HF8 : Hid (Own w8 g8 (g8 + 1) 3 1 (some ⟨g8, 0, none⟩) (L6 ++ [p]).length c8 (fun j => .int .i64 (f8 j))) := by rw [List.length_append]; exact hF8
    have hx1 : g7 ≠ g8 := by omega
    have hx2 : w.heap.size < g8 := by omega
    have hx3 : g7 < Z0 ∨ Z1 ≤ g7 := by omega
    have hx4 : g8 < Z0 ∨ Z1 ≤ g8 := by omega
    have hx5 : Z1 ≤ w8.heap.size := by omega
    clear hO7 hf7 hF8 hf8 hg7 hg8 HF7
    go_wp2
    go_roundw
    case rel => exact ⟨j + 1, g7, c7, g8, c8, f8, L6 ++ [p], by omega, by go_num, by rw [List.length_append]; rfl, by rw [List.length_append]; rfl, hx1, hx2, hl8, hx3, hx4, hx5, HT9, HO8, HF8, H58, HC8, HB8⟩
    case measure => (simp [intOf] <;> omega)
   ·rw [hc] at hzd
    have hz0 : ¬ z < 0 := by simpa using hzd
    have HT9 : Hid (L6 = adL L (F.take (j + 1))) := by show _ = _; rw [HT7.out, hc]; rfl
    clear hc hzd HT7 HA
    go_wp2
    go_roundw
    case rel => exact ⟨j + 1, gO, cO, gf, cf, f, L6, by omega, by go_num, rfl, rfl, hne, hgf, by omega, hcO, hcf, by omega, HT9, HO, HF, H5, HC, HB⟩
    case measure => (simp [intOf] <;> omega)
end
end Go.Proofs.YtfabbohijhjpcaaGreatDoor
