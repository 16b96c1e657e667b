/-
-/
import Derived.Test.YtfabbohijhjpcaaGreatDoorRcPrnM
import Derived.Test.YtfabbohijhjpcaaGreatDoorRcListZ
namespace Go.Proofs.YtfabbohijhjpcaaGreatDoor
open Go.RowKit
def prZ (v : Nat) : Option (Nat × Int) → Value
 | none => .tuple #[.agg #[.int .i64 0, .int .i64 0, .int .i64 0], .bool false]
 | some (k, a) => .tuple #[.agg #[.int .i64 (v : Int), .int .i64 (k : Int), .int .i64 a], .bool true]
structure PB (w : World) (q : Nat) : Prop where
 c0 : w.cell? ⟨q, 0, none⟩ = some (.int .i64 0)
 c1 : w.cell? ⟨q, 1, none⟩ = some (.int .i64 0)
 c2 : w.cell? ⟨q, 2, none⟩ = some (.int .i64 0)
 f0 : w.frozen? ⟨q, 0, none⟩ = false
 f1 : w.frozen? ⟨q, 1, none⟩ = false
 f2 : w.frozen? ⟨q, 2, none⟩ = false
theorem PB.lt {w : World} {q : Nat} (h : PB w q) : q < w.heap.size := World.block_lt_of_cell? _ _ h.c0
theorem PB.keep {w w' : World} {q : Nat} (h : PB w q) (hb : Below w.heap.size w w') : PB w' q := ⟨up hb h.c0 h.lt, up hb h.c1 h.lt, up hb h.c2 h.lt, upf hb h.f0 h.lt, upf hb h.f1 h.lt, upf hb h.f2 h.lt⟩
theorem bl_set3 {w z : World} {q : Nat} {x y u : Value} (h : Below w.heap.size w z) (hq : w.heap.size ≤ q) : Below w.heap.size w (((z.setCell ⟨q, 0, none⟩ x).setCell ⟨q, 1, none⟩ y).setCell ⟨q, 2, none⟩ u) := bl_set (bl_set (bl_set h hq) hq) hq
theorem ft_in {r : Nat → Nat} {s v w : Nat} (h : ftB r s v w = true) : s.testBit w = true ∧ (r v).testBit w = false ∧ w ≠ v ∧ r w &&& s = r v &&& s := by
 unfold ftB at h
 simp only [Bool.and_eq_true, Bool.not_eq_true', decide_eq_true_eq, decide_eq_false_iff_not] at h
 exact ⟨h.1, h.2.1, h.2.2.1, h.2.2.2⟩
theorem ft_val {r : Nat → Nat} {s v w : Nat} (h1 : s.testBit w = true) (h2 : (r v).testBit w = false) (h3 : w ≠ v) : ftB r s v w = decide (r w &&& s = r v &&& s) := by
 unfold ftB; rw [h1, h2, decide_eq_false h3]; rfl
theorem tt_in {r : Nat → Nat} {s v w : Nat} (h : ttB r s v w = true) : s.testBit w = true ∧ (r v).testBit w = true := by
 unfold ttB at h
 simp only [Bool.and_eq_true] at h
 exact ⟨h.1, h.2.1⟩
theorem tt_val {r : Nat → Nat} {s v w : Nat} (h1 : s.testBit w = true) (h2 : (r v).testBit w = true) : ttB r s v w = decide ((r w &&& s) ||| 2 ^ w = (r v &&& s) ||| 2 ^ v) := by
 unfold ttB; rw [h1, h2]; rfl
theorem out_bit {s y v j : Nat} : ((s ^^^ (s &&& y)) ^^^ ((s ^^^ (s &&& y)) &&& 2 ^ v)).testBit j = (s.testBit j && (!y.testBit j && !decide (j = v))) := by
 simp only [Nat.testBit_xor, Nat.testBit_and, Nat.testBit_two_pow]
 by_cases h : v = j
 ·subst h
  cases s.testBit v <;> cases y.testBit v <;> simp
 ·have h2 : ¬ j = v := fun e => h e.symm
  simp only [h, h2, decide_false]
  cases s.testBit j <;> cases y.testBit j <;> rfl
theorem cn_pos {s : Nat} (h : s ≠ 0) (hs : s < 128) : cn s ≠ 0 := by
 intro h0
 unfold cn at h0
 apply h
 apply Nat.eq_of_testBit_eq
 intro j
 rw [Nat.zero_testBit]
 cases hb : s.testBit j
 ·rfl
 ·have : j ∈ listN s := mem_listN.2 ⟨bit_lt (n := 7) hs hb, hb⟩
  rw [List.length_eq_zero_iff.1 h0] at this
  cases this
section
variable {A : Option Addr} {m c : Nat} {r : Nat → Nat} {w : World}
set_option maxRecDepth 100000 in
set_option maxHeartbeats 6400000 in
theorem pruneOf_v (h : GV w A m c r) {s v : Nat} (hs : s < 2 ^ m) (hv : v < m) (_ : s.testBit v = true) :
 Calls Tryz.prog 226 #[.agg #[.int .i64 m, .slice A m c], .int .i64 (s : Int), .int .i64 (v : Int)] w fun e w' => e = .returned (prZ v (pnO r m s v)) ∧ Below w.heap.size w w' := by
 have hm7 := h.vg.n7
 have h128 := two_pow_le hm7
 have HV := Lib.hid h.vg
 have HGw := Lib.hid h
 obtain ⟨W, hW⟩ : ∃ W : World, W = ((w.alloc (Obj.cells #[Value.int IntKind.i64 m, Value.slice A m c] 26)).alloc (Obj.cells #[.int .i64 0, .int .i64 0, .int .i64 0] 149)) := ⟨_, rfl⟩
 have HB : Hid (From w W) := by rw [hW]; exact (From.alloc _ _).alloc_ _
 have HC : Hid (GC W w.heap.size m A m c) := by rw [hW]; exact (GC.new _ _ _ _ _).keep ((Below.refl _ _).alloc (Nat.le_refl _) _)
 have HP : Hid (PB W (w.heap.size + 1)) := by rw [hW]; constructor <;> simp [go_sem]
 obtain ⟨b0, o0, rfl⟩ := h.addr
 have HW := Lib.hid hW
 clear hW h
 have p0 := HGw.out.row hv
 have hb0 := HGw.out.bl
 have hb1 : b0 < w.heap.size + 1 := by omega
 have rv := HV.out.lt128 hv
 have hs128 : s < 128 := by omega
 obtain ⟨y, hy⟩ : ∃ y, y = r v &&& s := ⟨_, rfl⟩
 have hy128 : y < 128 := by rw [hy]; exact Nat.lt_of_le_of_lt Nat.and_le_left rv
 have E1 : bits .and .i64 ((r v : Nat) : Int) (s : Int) = (y : Int) := by rw [i64_and_nat _ _ (by omega) (by omega), hy]
 have HY := Lib.hid hy
 obtain ⟨x, hx⟩ : ∃ x, x = r v := ⟨_, rfl⟩
 rw [← hx] at p0 E1
 have KC := Lib.hid (CountSet_v y hy128)
 obtain ⟨N, hN⟩ : ∃ N, N = cn y := ⟨_, rfl⟩
 rw [← hN] at KC
 have hq : w.heap.size ≤ w.heap.size + 1 := by omega
 clear hx hy rv
 go_enter Tryz.func226, Tryz.ntmps226
 go_wp2_with fail
 rw [← HW.out]
 clear HW
 have e0 := HC.out.c0
 have e1 := HC.out.c1
 refine (KC.out _).mono ?_
 rintro e w1 ⟨rfl, hb2⟩
 clear e0 e1
 replace HB := Lib.hid (HB.out.keep hb2)
 replace HC := Lib.hid (HC.out.keep hb2)
 replace HP := Lib.hid (HP.out.keep hb2)
 clear hb2 KC E1 p0 hb0 hb1
 have e0 := HC.out.c0
 have e1 := HC.out.c1
 by_cases h0 : y = 0
 ·obtain rfl : N = 0 := by rw [hN, h0]; exact cn_zero
  have Hp : Hid (pnO r m s v = some (0, -1)) := pnO_alone (by rw [← HY.out]; exact h0)
  have z0 := HP.out.c0
  have z1 := HP.out.c1
  have z2 := HP.out.c2
  have z3 := HP.out.f0
  have z4 := HP.out.f1
  have z5 := HP.out.f2
  clear h0 hN
  go_wp2
  exact bodyPost_ret (v := prZ v (some (0, -1))) (by simp [prZ, results, Tryz.results226, go_sem, *]) rfl ⟨by rw [Hp.out], bl_set3 HB.out.below hq⟩
 have hN0 : N ≠ 0 := by rw [hN]; exact cn_pos h0 hy128
 have H0 := Lib.hid h0
 have HN := Lib.hid hN
 obtain ⟨lst, hls⟩ : ∃ l, l = listN y := ⟨_, rfl⟩
 have hll : lst.length = N := by rw [hls, hN]; rfl
 have KL := Lib.hid (ListOf_v y hy128)
 rw [← hls] at KL
 have HLS := Lib.hid hls
 have hn1 : ((N : Int) == 0) = false := by simp; omega
 clear h0 hN hls
 by_cases h1 : N = 1
 ·subst h1
  have Hp : Hid (pnO r m s v = some (1, ((lst.getD 0 0 : Nat) : Int))) := by
   show _ = _
   have := pnO_pend (r := r) (m := m) (s := s) (v := v) (by rw [← HY.out]; exact H0.out) (by rw [← HY.out, ← HN.out])
   rw [← HY.out, ← HLS.out] at this
   exact this
  rw [hll] at KL
  have HLL := Lib.hid hll
  clear hll
  go_wp2_with fail
  refine (KL.out _).mono ?_
  rintro e w1 ⟨A3, c3, rfl, ho3, hb1⟩
  clear e0 e1
  replace HB := Lib.hid (HB.out.keep hb1)
  replace HC := Lib.hid (HC.out.keep hb1)
  replace HP := Lib.hid (HP.out.keep hb1)
  clear hb1
  have e0 := HC.out.c0
  have e1 := HC.out.c1
  obtain ⟨b5, o5, rfl⟩ := ho3.ln.addr (by rw [HLL.out]; omega)
  have q0 := ho3.ln.at (j := 0) (by rw [HLL.out]; omega)
  obtain ⟨u, hu⟩ : ∃ u, u = lst.getD 0 0 := ⟨_, rfl⟩
  have q1 : w1.cell? ⟨b5, o5, none⟩ = some (.int .i64 (u : Nat)) := by
   rw [Nat.add_zero] at q0
   rw [q0, hu]
   simp [List.getD, HLL.out]
  rw [← hu] at Hp
  have z0 := HP.out.c0
  have z1 := HP.out.c1
  have z2 := HP.out.c2
  have z3 := HP.out.f0
  have z4 := HP.out.f1
  have z5 := HP.out.f2
  clear q0 hu ho3 KL
  go_wp2
  exact bodyPost_ret (v := prZ v (some (1, (u : Int)))) (by simp [prZ, results, Tryz.results226, go_sem, *]) rfl ⟨by rw [Hp.out], bl_set3 HB.out.below hq⟩
 have hn2 : ((N : Int) == 1) = false := by simp; omega
 have H1 : Hid (cn (r v &&& s) ≠ 1) := by rw [← HY.out, ← HN.out]; exact h1
 have H00 : Hid (r v &&& s ≠ 0) := by rw [← HY.out]; exact H0.out
 obtain ⟨s0, hs0⟩ : ∃ s0, s0 = s ^^^ (s &&& y) := ⟨_, rfl⟩
 have hs0l : s0 < 128 := by rw [hs0]; exact Nat.xor_lt_two_pow (n := 7) hs128 (Nat.lt_of_le_of_lt Nat.and_le_left hs128)
 have E2 : bits .andNot .i64 (s : Int) (y : Int) = (s0 : Int) := by rw [i64_andNot_nat s y (by omega) (by omega), hs0]
 obtain ⟨s1, hs1⟩ : ∃ s1, s1 = s0 ^^^ (s0 &&& 2 ^ v) := ⟨_, rfl⟩
 have hs1l : s1 < 128 := by rw [hs1]; exact Nat.xor_lt_two_pow (n := 7) hs0l (Nat.lt_of_le_of_lt Nat.and_le_left hs0l)
 have hpv := two_pow_le (n := v) (by omega)
 have E3 : bits .andNot .i64 (s0 : Int) (2 ^ v) = (s1 : Int) := by
  have := i64_andNot_nat s0 (2 ^ v) (by omega) (by omega)
  rw [hs1, ← this]; simp
 have pv := pow_shl v (by omega)
 have HS1 : Hid (∀ j, s1.testBit j = (s.testBit j && (!(r v).testBit j && !decide (j = v)))) := fun j => by
  rw [hs1, hs0, out_bit]
  have hb : y.testBit j = ((r v).testBit j && s.testBit j) := by rw [HY.out, Nat.testBit_and]
  rw [hb]
  cases s.testBit j <;> cases (r v).testBit j <;> simp
 have HS2 : Hid (s1 < 2 ^ m) := by
  rw [hs1, hs0]
  exact Nat.xor_lt_two_pow (Nat.xor_lt_two_pow hs (Nat.lt_of_le_of_lt Nat.and_le_left hs)) (Nat.lt_of_le_of_lt Nat.and_le_left (Nat.xor_lt_two_pow hs (Nat.lt_of_le_of_lt Nat.and_le_left hs)))
 have KM := Lib.hid (ListOf_v s1 hs1l)
 obtain ⟨l1, hl1⟩ : ∃ l, l = listN s1 := ⟨_, rfl⟩
 rw [← hl1] at KM
 have hl17 : l1.length ≤ 7 := by rw [hl1]; exact listN_len _
 have HL1 := Lib.hid hl1
 clear hs0 hs1 hl1 h1 hN0 hll
 go_wp2_with fail
 refine (KM.out _).mono ?_
 rintro e w3 ⟨A3, c3, rfl, ho3, hb3⟩
 have HO : Hid (ON w.heap.size w3 A3 c3 l1) := ho3.mono HB.out.below.size
 clear e0 e1
 replace HB := Lib.hid (HB.out.keep hb3)
 replace HC := Lib.hid (HC.out.keep hb3)
 replace HP := Lib.hid (HP.out.keep hb3)
 clear hb3 ho3 KM E2 E3 pv
 have e0 := HC.out.c0
 have e1 := HC.out.c1
 go_wp2
 clear e0 e1
 go_loopw [42] (fun i wr => ∃ k : Nat, k ≤ l1.length ∧ i = .int .i64 k ∧ Hid (∀ j (hj : j < l1.length), j < k → ftB r s v l1[j] = false) ∧ Hid (ON w.heap.size wr A3 c3 l1) ∧ Hid (GC wr w.heap.size m (some ⟨b0, o0, none⟩) m c) ∧ Hid (PB wr (w.heap.size + 1)) ∧ Hid (From w wr)) (fun i _ => l1.length - (intOf i).toNat)
 case atStart => exact ⟨0, Nat.zero_le _, rfl, (fun _ _ h => absurd h (by omega)), HO, HC, HP, HB⟩
 case round =>
  clear HO HC HP HB
  obtain ⟨k, hk, rfl, HA, HO, HC, HP, HB⟩ := hrel
  have e0 := HC.out.c0
  have e1 := HC.out.c1
  by_cases hkl : k < l1.length
  ·have i1 : (k : Int) < (l1.length : Int) := by omega
   obtain ⟨b5, o5, rfl⟩ := HO.out.ln.addr (by omega)
   have q0 := HO.out.ln.at hkl
   obtain ⟨u, hu⟩ : ∃ u, u = l1[k] := ⟨_, rfl⟩
   have hub : s1.testBit u = true := by
    rw [hu]
    have : l1[k] ∈ listN s1 := by rw [← HL1.out]; exact List.getElem_mem hkl
    exact (mem_listN.1 this).2
   have hum : u < m := bit_lt HS2.out hub
   have hub2 := HS1.out u
   rw [hub] at hub2
   have hub3 : s.testBit u = true ∧ (r v).testBit u = false ∧ u ≠ v := by
    have h := hub2.symm
    simp only [Bool.and_eq_true, Bool.not_eq_true', decide_eq_false_iff_not] at h
    exact ⟨h.1, h.2.1, h.2.2⟩
   have hft := ft_val hub3.1 hub3.2.1 hub3.2.2
   have q1 := (HGw.out.keep HB.out.below).row hum
   have ru := HV.out.lt128 hum
   obtain ⟨z, hz⟩ : ∃ z, z = r u &&& s := ⟨_, rfl⟩
   have E4 : bits .and .i64 ((r u : Nat) : Int) (s : Int) = (z : Int) := by rw [i64_and_nat _ _ (by omega) (by omega), hz]
   rw [← hz, ← HY.out] at hft
   rw [← hu] at q0
   have Hu := Lib.hid hu
   obtain ⟨x, hx⟩ : ∃ x, x = r u := ⟨_, rfl⟩
   rw [← hx] at q1 E4
   clear hu hz hx hub hub2 hub3 ru
   by_cases hzy : z = y
   ·have j1 : ((z : Int) == (y : Int)) = true := by simp [hzy]
    have Hp : Hid (pnO r m s v = some (2, (u : Int))) := by
     refine pnO_false H00.out H1.out ?_
     have := lsK_list (s := s1) (m := m) (p := ftB r s v) (k := k) HS2.out (fun j hj => by
      obtain ⟨a1, a2, a3, _⟩ := ft_in hj
      rw [HS1.out, a1, a2, decide_eq_false a3]; rfl) (by rw [← HL1.out]; exact hkl) (by
      have e : (listN s1)[k]'(by rw [← HL1.out]; exact hkl) = u := by rw [Hu.out]; simp only [HL1.out]
      rw [e, hft, decide_eq_true hzy]) (fun i hi => by
      have e := HA.out i (by omega) hi
      simp only [HL1.out] at e
      exact e)
     rw [this, Hu.out]
     simp only [HL1.out]
    have z0 := HP.out.c0
    have z1 := HP.out.c1
    have z2 := HP.out.c2
    have z3 := HP.out.f0
    have z4 := HP.out.f1
    have z5 := HP.out.f2
    clear hzy hft
    go_wp2
    exact bodyPost_ret (v := prZ v (some (2, (u : Int)))) (by simp [prZ, results, Tryz.results226, go_sem, *]) rfl ⟨by rw [Hp.out], bl_set3 HB.out.below hq⟩
   ·have j1 : ((z : Int) == (y : Int)) = false := by simp; omega
    have HA2 : Hid (∀ j (hj : j < l1.length), j < k + 1 → ftB r s v l1[j] = false) := fun j hj h => by
     by_cases hjk : j < k
     ·exact HA.out j hj hjk
     ·obtain rfl : j = k := by omega
      rw [← Hu.out, hft, decide_eq_false hzy]
    clear hzy hft
    go_wp2
    go_roundw
    case rel => exact ⟨k + 1, by omega, by go_num, HA2, HO, HC, HP, HB⟩
    case measure => (simp [intOf] <;> omega)
  ·obtain rfl : k = l1.length := by omega
   have i1 : (l1.length : Int) ≤ (l1.length : Int) := Int.le_refl _
   have HF : Hid (lsK (ftB r s v) m = none) := lsK_listn (s := s1) hm7 (fun j hj => by
    obtain ⟨a1, a2, a3, _⟩ := ft_in hj
    rw [HS1.out, a1, a2, decide_eq_false a3]; rfl) (fun i hi => by
    have e := HA.out i (by rw [HL1.out]; exact hi) (by rw [HL1.out]; exact hi)
    simp only [HL1.out] at e
    exact e)
   have hl7 : lst.length ≤ 7 := by rw [HLS.out]; exact listN_len _
   have HY2 : Hid (y < 2 ^ m) := by rw [HY.out]; exact Nat.lt_of_le_of_lt Nat.and_le_left (HV.out.lt v hv)
   have HYB : Hid (∀ j, y.testBit j = ((r v).testBit j && s.testBit j)) := fun j => by rw [HY.out, Nat.testBit_and]
   clear HO HA e0 e1
   go_wp2_with fail
   refine (KL.out _).mono ?_
   rintro e w4 ⟨A4, c4, rfl, ho4, hb4⟩
   have HO : Hid (ON w.heap.size w4 A4 c4 lst) := ho4.mono HB.out.below.size
   replace HB := Lib.hid (HB.out.keep hb4)
   replace HC := Lib.hid (HC.out.keep hb4)
   replace HP := Lib.hid (HP.out.keep hb4)
   clear hb4 ho4 KL
   go_wp2
   go_loopw [62] (fun i wr => ∃ k : Nat, k ≤ lst.length ∧ i = .int .i64 k ∧ Hid (∀ j (hj : j < lst.length), j < k → ttB r s v lst[j] = false) ∧ Hid (ON w.heap.size wr A4 c4 lst) ∧ Hid (GC wr w.heap.size m (some ⟨b0, o0, none⟩) m c) ∧ Hid (PB wr (w.heap.size + 1)) ∧ Hid (From w wr)) (fun i _ => lst.length - (intOf i).toNat)
   case atStart => exact ⟨0, Nat.zero_le _, rfl, (fun _ _ h => absurd h (by omega)), HO, HC, HP, HB⟩
   case round =>
    clear HO HC HP HB
    obtain ⟨k, hk, rfl, HA, HO, HC, HP, HB⟩ := hrel
    have e0 := HC.out.c0
    have e1 := HC.out.c1
    by_cases hkl : k < lst.length
    ·have i2 : (k : Int) < (lst.length : Int) := by omega
     obtain ⟨b5, o5, rfl⟩ := HO.out.ln.addr (by omega)
     have q0 := HO.out.ln.at hkl
     obtain ⟨u, hu⟩ : ∃ u, u = lst[k] := ⟨_, rfl⟩
     have hub : y.testBit u = true := by
      rw [hu]
      have : lst[k] ∈ listN y := by rw [← HLS.out]; exact List.getElem_mem hkl
      exact (mem_listN.1 this).2
     have hum : u < m := bit_lt HY2.out hub
     have hub2 := HYB.out u
     rw [hub] at hub2
     have hub3 : (r v).testBit u = true ∧ s.testBit u = true := by
      have h := hub2.symm
      rwa [Bool.and_eq_true] at h
     have htt := tt_val (v := v) hub3.2 hub3.1
     have q1 := (HGw.out.keep HB.out.below).row hum
     have ru := HV.out.lt128 hum
     obtain ⟨z, hz⟩ : ∃ z, z = r u &&& s := ⟨_, rfl⟩
     have hz128 : z < 128 := by rw [hz]; exact Nat.lt_of_le_of_lt Nat.and_le_left ru
     have E4 : bits .and .i64 ((r u : Nat) : Int) (s : Int) = (z : Int) := by rw [i64_and_nat _ _ (by omega) (by omega), hz]
     have hpu := two_pow_le (n := u) (by omega)
     obtain ⟨f1, hf1⟩ : ∃ f, f = z ||| 2 ^ u := ⟨_, rfl⟩
     obtain ⟨f2, hf2⟩ : ∃ f, f = y ||| 2 ^ v := ⟨_, rfl⟩
     have E5 : bits .or .i64 (z : Int) (2 ^ u) = (f1 : Int) := by
      have := i64_or_nat z (2 ^ u) (by omega) (by omega)
      rw [hf1, ← this]; simp
     have E6 : bits .or .i64 (y : Int) (2 ^ v) = (f2 : Int) := by
      have := i64_or_nat y (2 ^ v) (by omega) (by omega)
      rw [hf2, ← this]; simp
     have pu := pow_shl u (by omega)
     have pv := pow_shl v (by omega)
     rw [← hz, ← HY.out, ← hf1, ← hf2] at htt
     rw [← hu] at q0
     have Hu := Lib.hid hu
     obtain ⟨x, hx⟩ : ∃ x, x = r u := ⟨_, rfl⟩
     rw [← hx] at q1 E4
     clear hu hz hx hub hub2 hub3 ru hf1 hf2
     by_cases hzy : f1 = f2
     ·have j1 : ((f1 : Int) == (f2 : Int)) = true := by simp [hzy]
      have Hp : Hid (pnO r m s v = some (3, (u : Int))) := by
       refine pnO_true H00.out H1.out HF.out ?_
       have := lsK_list (s := y) (m := m) (p := ttB r s v) (k := k) HY2.out (fun j hj => by
        obtain ⟨a1, a2⟩ := tt_in hj
        rw [HYB.out, a1, a2]; rfl) (by rw [← HLS.out]; exact hkl) (by
        have e : (listN y)[k]'(by rw [← HLS.out]; exact hkl) = u := by rw [Hu.out]; simp only [HLS.out]
        rw [e, htt, decide_eq_true hzy]) (fun i hi => by
        have e := HA.out i (by omega) hi
        simp only [HLS.out] at e
        exact e)
       rw [this, Hu.out]
       simp only [HLS.out]
      have z0 := HP.out.c0
      have z1 := HP.out.c1
      have z2 := HP.out.c2
      have z3 := HP.out.f0
      have z4 := HP.out.f1
      have z5 := HP.out.f2
      clear hzy htt
      go_wp2
      go_region
      go_wp2
      exact bodyPost_ret (v := prZ v (some (3, (u : Int)))) (by simp [prZ, results, Tryz.results226, go_sem, *]) rfl ⟨by rw [Hp.out], bl_set3 HB.out.below.drew hq⟩
     ·have j1 : ((f1 : Int) == (f2 : Int)) = false := by simp; omega
      have HA2 : Hid (∀ j (hj : j < lst.length), j < k + 1 → ttB r s v lst[j] = false) := fun j hj h => by
       by_cases hjk : j < k
       ·exact HA.out j hj hjk
       ·obtain rfl : j = k := by omega
        rw [← Hu.out, htt, decide_eq_false hzy]
      clear hzy htt
      go_wp2
      go_region
      go_wp2
      have hbd : Below wr.heap.size wr wr.drew := (Below.refl _ _).drew
      go_roundw
      case rel => exact ⟨k + 1, by omega, by go_num, HA2, HO.out.keep hbd, HC.out.keep hbd, HP.out.keep hbd, HB.out.keep hbd⟩
      case measure => (simp [intOf] <;> omega)
    ·obtain rfl : k = lst.length := by omega
     have i2 : (lst.length : Int) ≤ (lst.length : Int) := Int.le_refl _
     have Hp : Hid (pnO r m s v = none) := pnO_none H00.out H1.out HF.out (lsK_listn (s := y) hm7 (fun j hj => by
      obtain ⟨a1, a2⟩ := tt_in hj
      rw [HYB.out, a1, a2]; rfl) (fun i hi => by
      have e := HA.out i (by rw [HLS.out]; exact hi) (by rw [HLS.out]; exact hi)
      simp only [HLS.out] at e
      exact e))
     have z0 := HP.out.c0
     have z1 := HP.out.c1
     have z2 := HP.out.c2
     have z3 := HP.out.f0
     have z4 := HP.out.f1
     have z5 := HP.out.f2
     go_wp2
     exact bodyPost_ret (v := prZ v none) (by simp [prZ, results, Tryz.results226, go_sem, *]) rfl ⟨by rw [Hp.out], bl_set3 HB.out.below hq⟩
set_option maxRecDepth 100000 in
set_option maxHeartbeats 6400000 in
theorem PruneOrder_v (h : GV w A m c r) :
 Calls Tryz.prog 147 #[.agg #[.int .i64 m, .slice A m c]] w (prQ w (plO r m)) := by
 have hm7 := h.vg.n7
 have h128 := two_pow_le hm7
 have HV := Lib.hid h.vg
 have HGw := Lib.hid h
 obtain ⟨W, hW⟩ : ∃ W : World, W = (w.alloc (Obj.cells #[Value.int IntKind.i64 m, Value.slice A m c] 26)) := ⟨_, rfl⟩
 have HB : Hid (From w W) := by rw [hW]; exact From.alloc _ _
 have HC : Hid (GC W w.heap.size m A m c) := by rw [hW]; exact GC.new _ _ _ _ _
 obtain ⟨F, hF⟩ : ∃ F, F = 2 ^ m - 1 := ⟨_, rfl⟩
 have hFm : F < 2 ^ m := by have := Nat.two_pow_pos m; omega
 have HI0 : Hid ((plF r m 128 F).map (fun l => ([] : List Pr) ++ l) = plO r m) := by
  show _ = _
  rw [hF]
  unfold plO
  cases plF r m 128 (2 ^ m - 1) <;> simp
 have KA : Hid (∀ z : World, From w z → Calls Tryz.prog 225 #[.agg #[.int .i64 m, .slice A m c]] z fun e w' => e = .returned (.int .i64 (F : Int)) ∧ Below z.heap.size z w') := fun z hz => by rw [hF]; exact all_v (HGw.out.keep hz.below)
 have HW := Lib.hid hW
 clear hW h hF
 go_enter Tryz.func147, Tryz.ntmps147
 have e0 := HC.out.c0
 have e1 := HC.out.c1
 go_wp2_with fail
 rw [← HW.out]
 refine (IsGraph_v (HGw.out.keep HB.out.below)).mono ?_
 rintro e w1 ⟨rfl, hb1⟩
 clear HW
 clear e0 e1
 replace HB := Lib.hid (HB.out.keep hb1)
 replace HC := Lib.hid (HC.out.keep hb1)
 clear hb1
 have e0 := HC.out.c0
 have e1 := HC.out.c1
 have HT0 : Hid (PO w1.heap.size (w1.alloc (Obj.cells #[] 149)) (some ⟨w1.heap.size, 0, none⟩) 0 []) := PO.nil w1
 obtain ⟨W2, hW2⟩ : ∃ W2 : World, W2 = (w1.alloc (Obj.cells #[] 149)) := ⟨_, rfl⟩
 have hb2 : Below w1.heap.size w1 W2 := by rw [hW2]; exact (Below.refl _ _).alloc (Nat.le_refl _) _
 rw [← hW2] at HT0
 have hz1 : w.heap.size + 1 ≤ w1.heap.size := HC.out.lt
 have HW2 := Lib.hid hW2
 have HT : Hid (PO (w.heap.size + 1) W2 (some ⟨w1.heap.size, 0, none⟩) 0 []) := HT0.out.mono hz1
 have hlt : w.heap.size < w1.heap.size := HC.out.lt
 clear hW2 HT0
 go_wp2_with fail
 rw [← HW2.out]
 clear HW2 hlt
 clear e0 e1
 replace HB := Lib.hid (HB.out.keep hb2)
 replace HC := Lib.hid (HC.out.keep hb2)
 clear hb2
 have e0 := HC.out.c0
 have e1 := HC.out.c1
 refine (KA.out _ HB.out).mono ?_
 rintro e w3 ⟨rfl, hb3⟩
 clear e0 e1
 replace HB := Lib.hid (HB.out.keep hb3)
 replace HC := Lib.hid (HC.out.keep hb3)
 replace HT := Lib.hid (HT.out.keep hb3)
 clear hb3 KA
 have e0 := HC.out.c0
 have e1 := HC.out.c1
 clear e0 e1
 go_wp2
 go_loopw [4, 5] (fun o l wr => ∃ (s f c' : Nat) (A' : Option Addr) (T : List Pr), s < f ∧ T.length + f ≤ 128 ∧ s < 2 ^ m ∧ l = .int .i64 s ∧ o = .slice A' T.length c' ∧ Hid ((plF r m f s).map (fun l => T ++ l) = plO r m) ∧ Hid (PO (w.heap.size + 1) wr A' c' T) ∧ Hid (GC wr w.heap.size m A m c) ∧ Hid (From w wr)) (fun _ l _ => (intOf l).toNat)
 case atStart => exact ⟨F, 128, 0, _, [], by omega, by simp, hFm, rfl, rfl, HI0, HT, HC, HB⟩
 case round =>
  clear HT HC HB
  obtain ⟨s, f, c', A', T, hsf, hTf, hsm, rfl, rfl, HI, HT, HC, HB⟩ := hrel
  obtain ⟨f, rfl⟩ : ∃ g, f = g + 1 := ⟨f - 1, by omega⟩
  by_cases hs0 : s = 0
  ·subst hs0
   have HE : Hid (plO r m = some T) := plF_all HI.out
   go_wp2
   go_ret2
   rw [HE.out]
   exact ⟨_, _, rfl, HT.out.mono (Nat.le_succ _), HB.out.below⟩
  have j0 : ((s : Int) != 0) = true := by simp; omega
  have hs128 : s < 128 := by omega
  have KL := Lib.hid (ListOf_v s hs128)
  obtain ⟨lst, hls⟩ : ∃ l, l = listN s := ⟨_, rfl⟩
  rw [← hls] at KL
  have hl7 : lst.length ≤ 7 := by rw [hls]; exact listN_len _
  have HLS := Lib.hid hls
  have H0 := Lib.hid hs0
  clear hls hs0
  have hzr : w.heap.size ≤ wr.heap.size := HB.out.below.size
  go_wp2_with fail
  refine (KL.out _).mono ?_
  rintro e w2 ⟨A3, c3, rfl, ho3, hb2⟩
  replace HB := Lib.hid (HB.out.keep hb2)
  replace HC := Lib.hid (HC.out.keep hb2)
  replace HT := Lib.hid (HT.out.keep hb2)
  clear hb2
  have HL : Hid (ON w.heap.size w2 A3 c3 lst) := ho3.mono hzr
  clear ho3 hzr
  go_wp2
  go_loopw [4, 5, 6, 22] (fun o l fd i wz => ∃ k : Nat, k ≤ lst.length ∧ o = .slice A' T.length c' ∧ l = .int .i64 s ∧ fd = .bool false ∧ i = .int .i64 k ∧ Hid (∀ j (hj : j < lst.length), j < k → pvB r m s lst[j] = false) ∧ Hid (PO (w.heap.size + 1) wz A' c' T) ∧ Hid (ON w.heap.size wz A3 c3 lst) ∧ Hid (GC wz w.heap.size m A m c) ∧ Hid (From w wz)) (fun _ _ _ i _ => lst.length - (intOf i).toNat)
  case atStart => exact ⟨0, Nat.zero_le _, rfl, rfl, rfl, rfl, (fun _ _ h => absurd h (by omega)), HT, HL, HC, HB⟩
  case round =>
   clear HT HL HC HB
   obtain ⟨k, hk, rfl, rfl, rfl, rfl, HA, HT, HL, HC, HB⟩ := hrel
   by_cases hkl : k < lst.length
   rotate_left
   ·obtain rfl : k = lst.length := by omega
    have i1 : (lst.length : Int) ≤ (lst.length : Int) := Int.le_refl _
    have HE : Hid (plO r m = none) := plF_stop HI.out H0.out (lsK_listn (s := s) hm7 (fun j hj => by
     unfold pvB at hj
     rw [Bool.and_eq_true] at hj
     exact hj.1) (fun i hi => by
     have e := HA.out i (by rw [HLS.out]; exact hi) (by rw [HLS.out]; exact hi)
     simp only [HLS.out] at e
     exact e))
    go_wp2
    go_ret2
    rw [HE.out]
    exact ⟨none, 0, rfl, PO.none _ _, HB.out.below⟩
   have i1 : (k : Int) < (lst.length : Int) := by omega
   obtain ⟨b5, o5, rfl⟩ := HL.out.ln.addr (by omega)
   have q0 := HL.out.ln.at hkl
   obtain ⟨u, hu⟩ : ∃ u, u = lst[k] := ⟨_, rfl⟩
   have hub : s.testBit u = true := by
    rw [hu]
    have : lst[k] ∈ listN s := by rw [← HLS.out]; exact List.getElem_mem hkl
    exact (mem_listN.1 this).2
   have hum : u < m := bit_lt hsm hub
   rw [← hu] at q0
   have KP : Hid (∀ z : World, From w z → Calls Tryz.prog 226 #[.agg #[.int .i64 m, .slice A m c], .int .i64 (s : Int), .int .i64 (u : Int)] z fun e w' => e = .returned (prZ u (pnO r m s u)) ∧ Below z.heap.size z w') := fun z hz => pruneOf_v (HGw.out.keep hz.below) hsm hum hub
   obtain ⟨o, ho⟩ : ∃ o, o = pnO r m s u := ⟨_, rfl⟩
   rw [← ho] at KP
   have HPV : Hid (pvB r m s u = o.isSome) := by show _ = _; unfold pvB; rw [hub, ho]; rfl
   have Hu := Lib.hid hu
   have Ho := Lib.hid ho
   have e0 := HC.out.c0
   have e1 := HC.out.c1
   clear hu ho
   rcases o with _ | ⟨kk, a⟩
   ·have HA2 : Hid (∀ j (hj : j < lst.length), j < k + 1 → pvB r m s lst[j] = false) := fun j hj h => by
     by_cases hjk : j < k
     ·exact HA.out j hj hjk
     ·obtain rfl : j = k := by omega
      rw [← Hu.out, HPV.out]; rfl
    go_wp2_with fail
    refine (KP.out _ HB.out).mono ?_
    rintro e w5 ⟨rfl, hb5⟩
    unfold prZ
    obtain ⟨W6, hW6⟩ : ∃ W6 : World, W6 = (w5.alloc (Obj.cells #[.int .i64 0, .int .i64 0, .int .i64 0] 149)) := ⟨_, rfl⟩
    have hb6 : Below w5.heap.size w5 W6 := by rw [hW6]; exact (Below.refl _ _).alloc (Nat.le_refl _) _
    have HB6 : Hid (From w W6) := (HB.out.keep hb5).keep hb6
    have HC6 : Hid (GC W6 w.heap.size m A m c) := (HC.out.keep hb5).keep hb6
    have HT6 : Hid (PO (w.heap.size + 1) W6 A' c' T) := (HT.out.keep hb5).keep hb6
    have HL6 : Hid (ON w.heap.size W6 (some ⟨b5, o5, none⟩) c3 lst) := (HL.out.keep hb5).keep hb6
    have HW6 := Lib.hid hW6
    clear hW6 hb5 hb6 HB HC HT HL KP e0 e1 q0 HA
    go_wp2
    rw [← HW6.out]
    go_roundw
    case rel => exact ⟨k + 1, by omega, rfl, rfl, rfl, by go_num, HA2, HT6, HL6, HC6, HB6⟩
    case measure => (simp [intOf] <;> omega)
   ·have HPK : Hid (pvK r m s = some u) := by
     have := lsK_list (s := s) (m := m) (p := pvB r m s) (k := k) hsm (fun j hj => by
      unfold pvB at hj
      rw [Bool.and_eq_true] at hj
      exact hj.1) (by rw [← HLS.out]; exact hkl) (by
      have e : (listN s)[k]'(by rw [← HLS.out]; exact hkl) = u := by rw [Hu.out]; simp only [HLS.out]
      rw [e, HPV.out]; rfl) (fun i hi => by
      have e := HA.out i (by omega) hi
      simp only [HLS.out] at e
      exact e)
     show lsK _ _ = _
     rw [this, Hu.out]
     simp only [HLS.out]
    have HI2 : Hid ((plF r m f (s ^^^ 2 ^ u)).map (fun l => (T ++ [(u, kk, a)]) ++ l) = plO r m) := plF_step HI.out H0.out HPK.out Ho.out.symm
    obtain ⟨hx1, hx2⟩ := xor_less hub
    have hxm : s ^^^ 2 ^ u < 2 ^ m := by omega
    have hpu := two_pow_le (n := u) (by omega)
    obtain ⟨y, hy⟩ : ∃ y, y = s ^^^ 2 ^ u := ⟨_, rfl⟩
    have E1 : bits .andNot .i64 (s : Int) (2 ^ u) = (y : Int) := by
     have h1 := i64_andNot_nat s (2 ^ u) (by omega) (by omega)
     have h2 : s &&& 2 ^ u = 2 ^ u := by
      apply Nat.eq_of_testBit_eq
      intro j
      rw [Nat.testBit_and, Nat.testBit_two_pow]
      by_cases h : u = j
      ·subst h; rw [hub]; simp
      ·simp [h]
     rw [h2] at h1
     rw [hy, ← h1]; simp
    have pu := pow_shl u (by omega)
    rw [← hy] at HI2 hx1 hxm
    have hT7 : T.length ≤ 1048576 := by omega
    clear hy hx2 hpu
    go_wp2_with fail
    refine (KP.out _ HB.out).mono ?_
    rintro e w5 ⟨rfl, hb5⟩
    unfold prZ
    obtain ⟨W6, hW6⟩ : ∃ W6 : World, W6 = (w5.alloc (Obj.cells #[.int .i64 (u : Int), .int .i64 (kk : Int), .int .i64 a] 149)) := ⟨_, rfl⟩
    have hb6 : Below w5.heap.size w5 W6 := by rw [hW6]; exact (Below.refl _ _).alloc (Nat.le_refl _) _
    have HB6 : Hid (From w W6) := (HB.out.keep hb5).keep hb6
    have HC6 : Hid (GC W6 w.heap.size m A m c) := (HC.out.keep hb5).keep hb6
    have HT6 : Hid (PO (w.heap.size + 1) W6 A' c' T) := (HT.out.keep hb5).keep hb6
    have d0 : W6.cell? ⟨w5.heap.size, 0, none⟩ = some (.int .i64 (u : Int)) := by rw [hW6]; simp [go_sem]
    have d1 : W6.cell? ⟨w5.heap.size, 1, none⟩ = some (.int .i64 (kk : Int)) := by rw [hW6]; simp [go_sem]
    have d2 : W6.cell? ⟨w5.heap.size, 2, none⟩ = some (.int .i64 a) := by rw [hW6]; simp [go_sem]
    have hlo6 : w.heap.size + 1 ≤ W6.heap.size := HC6.out.lt
    have HW6 := Lib.hid hW6
    clear hW6 hb5 hb6 HB HC HT HL KP e0 e1 q0 HA
    go_wp2
    rw [← HW6.out]
    clear HW6
    go_region_law
     ((refine step_pushPr W6 (by rfl) _ _ (by rfl) (w.heap.size + 1) A' c' T HT6.out hlo6 u kk a (by rfl) 1 (by rfl) (by omega) ?_; intro g7 c7 w7 hT7' hb7))
    all_goals
     have HB7 : Hid (From w w7) := ⟨HB6.out.below.trans (hb7.mono (Nat.le_succ _))⟩
     have HC7 : Hid (GC w7 w.heap.size m A m c) := ⟨up hb7 HC6.out.c0 (Nat.lt_succ_self _), up hb7 HC6.out.c1 (Nat.lt_succ_self _), upf hb7 HC6.out.f0 (Nat.lt_succ_self _), upf hb7 HC6.out.f1 (Nat.lt_succ_self _)⟩
     have HT7 := Lib.hid hT7'
     clear hT7' hb7 HT6 HC6 HB6 d0 d1 d2
     go_wp2
     go_roundw
     case rel => exact ⟨y, f, c7, some ⟨g7, 0, none⟩, T ++ [(u, kk, a)], by omega, by rw [List.length_append]; simp; omega, hxm, rfl, by rw [List.length_append]; rfl, HI2, HT7, HC7, HB7⟩
     case measure => (simp [intOf] <;> omega)
set_option maxRecDepth 100000 in
set_option maxHeartbeats 1600000 in
theorem IsHereditary_v (h : GV w A m c r) :
 Calls Tryz.prog 84 #[.agg #[.int .i64 m, .slice A m c]] w fun e w' => e = .returned (.bool (plO r m).isSome) ∧ Below w.heap.size w w' := by
 have K1 := Lib.hid (fun z (hz : Below w.heap.size w z) => PruneOrder_v (h.keep hz))
 obtain ⟨o, ho⟩ : ∃ o, o = plO r m := ⟨_, rfl⟩
 rw [← ho] at K1 ⊢
 clear ho
 obtain ⟨W, hW⟩ : ∃ W : World, W = (w.alloc (Obj.cells #[Value.int IntKind.i64 m, Value.slice A m c] 26)) := ⟨_, rfl⟩
 have HB : Hid (From w W) := by rw [hW]; exact From.alloc _ _
 have HG : Hid (GBox W w.heap.size A m c r) := by rw [hW]; exact h.box
 have HW := Lib.hid hW
 clear hW h
 have e0 := HG.out.c0
 have e1 := HG.out.c1
 go_enter Tryz.func84, Tryz.ntmps84
 rcases o with _ | t
 ·go_wp2_with fail
  rw [← HW.out]
  refine (K1.out _ HB.out.below).mono ?_
  rintro e w2 ⟨A1, c1, rfl, _, hb2⟩
  have HB2 := Lib.hid (HB.out.keep hb2)
  clear HB HG hb2 e0 e1
  go_wp2
  go_ret
  exact ⟨rfl, HB2.out.below⟩
 ·go_wp2_with fail
  rw [← HW.out]
  refine (K1.out _ HB.out.below).mono ?_
  rintro e w2 ⟨A1, c1, rfl, _, hb2⟩
  have HB2 := Lib.hid (HB.out.keep hb2)
  clear HB HG hb2 e0 e1
  go_wp2
  go_ret
  exact ⟨rfl, HB2.out.below⟩
end
end Go.Proofs.YtfabbohijhjpcaaGreatDoor
