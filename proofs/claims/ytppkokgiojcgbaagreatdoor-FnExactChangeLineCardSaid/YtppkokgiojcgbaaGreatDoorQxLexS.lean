/-
-/
import Derived.Test.YtppkokgiojcgbaaGreatDoorQxLexI
namespace Go.Proofs.YtppkokgiojcgbaaGreatDoor
open Go.RowKit
def l5K (r : Nat → Nat) (l : List Nat) (v k : Nat) : Nat := labN r (l.take k) v * 2 ^ (k - l.length)
theorem l5K_yes {r : Nat → Nat} {l : List Nat} {v k : Nat} (h : k < l.length) : l5K r l v (k + 1) = l5K r l v k * 2 + (if (r v).testBit l[k] = true then 1 else 0) := by
 unfold l5K
 rw [List.take_succ_eq_append_getElem h, labN_one]
 have e1 : k + 1 - l.length = 0 := by omega
 have e2 : k - l.length = 0 := by omega
 rw [e1, e2]; simp; omega
theorem l5K_no {r : Nat → Nat} {l : List Nat} {v k : Nat} (h : l.length ≤ k) : l5K r l v (k + 1) = l5K r l v k * 2 := by
 unfold l5K
 have e1 : k + 1 - l.length = (k - l.length) + 1 := by omega
 rw [e1, List.take_of_length_le (by omega), List.take_of_length_le h, Nat.pow_succ, Nat.mul_assoc]
theorem l5K_lt (r : Nat → Nat) (l : List Nat) (v : Nat) : ∀ k, l5K r l v k < 2 ^ k := by
 intro k
 unfold l5K
 have h := labN_lt r v (l.take k)
 by_cases hk : k ≤ l.length
 ·have e2 : k - l.length = 0 := by omega
  rw [e2, Nat.pow_zero, Nat.mul_one]
  rw [List.length_take, Nat.min_eq_left hk] at h
  exact h
 ·rw [List.length_take, Nat.min_eq_right (by omega)] at h
  have e : 2 ^ k = 2 ^ l.length * 2 ^ (k - l.length) := by rw [← Nat.pow_add]; congr 1; omega
  rw [e]
  exact Nat.mul_lt_mul_of_lt_of_le h (Nat.le_refl _) (Nat.two_pow_pos _)
theorem l5K_less {r : Nat → Nat} {l : List Nat} {v b : Nat} (hl : l.length ≤ 7) : (l5K r l b 7 < l5K r l v 7) ↔ labN r l b < labN r l v := by
 unfold l5K
 rw [List.take_of_length_le hl]
 exact Nat.mul_lt_mul_right (Nat.two_pow_pos _)
section
variable {A : Option Addr} {m c : Nat} {r : Nat → Nat}
set_option maxRecDepth 100000 in
set_option maxHeartbeats 1600000 in
theorem l5Label_v {w : World} (h : GV w A m c r) {Al : Option Addr} {cl : Nat} {l : List Nat} (hl : LN w Al cl l) (_hlm : l.length ≤ m) (hin : ∀ u ∈ l, u < m) {v : Nat} (hv : v < m) :
 Calls Tryz.prog 154 #[.agg #[.int .i64 m, .slice A m c], .slice Al l.length cl, .int .i64 v] w (fun e w' => e = .returned (.int .i64 (l5K r l v 7 : Nat)) ∧ Below w.heap.size w w') := by
 have hn7 := h.vg.n7
 have HL := Lib.hid hl
 have Hin := Lib.hid hin
 have HV := Lib.hid h.vg
 obtain ⟨W, hW⟩ : ∃ W : World, W = (w.alloc (Obj.cells #[Value.int IntKind.i64 m, Value.slice A m c] 29)) := ⟨_, rfl⟩
 have HB : Hid (From w W) := by rw [hW]; exact From.alloc _ _
 have HG : Hid (GBox W w.heap.size A m c r) := by rw [hW]; exact h.box
 have HL : Hid (LN W Al cl l) := hl.keep HB.out.below
 have HW := Lib.hid hW
 clear hW h hl hin
 go_enter Tryz.func154, Tryz.ntmps154
 go_wp2
 rw [← HW.out]
 clear HW
 go_loopw [7, 8] (fun a i wr => ∃ k : Nat, k ≤ 7 ∧ i = .int .i64 k ∧ a = .int .i64 (l5K r l v k : Nat) ∧ Hid (From W wr)) (fun _ i _ => 7 - (intOf i).toNat)
 case atStart => exact ⟨0, Nat.zero_le _, rfl, (by unfold l5K; simp [labN]), From.refl _⟩
 case round =>
  obtain ⟨k, hk, rfl, rfl, HR⟩ := hrel
  have HBr := Lib.hid (HB.out.keep HR.out.below)
  have hlb := l5K_lt r l v k
  have hp := two_pow_le (n := k) (by omega)
  obtain ⟨a, ha⟩ : ∃ a, a = l5K r l v k := ⟨_, rfl⟩
  have Ha := Lib.hid ha
  rw [← ha] at hlb ⊢
  clear ha
  by_cases hlt : k < 7
  ·have i1 : (k : Int) < 7 := by omega
   have HGr := Lib.hid (HG.out.keep HR.out.below)
   have HLr := Lib.hid (HL.out.keep HR.out.below)
   by_cases hkl : k < l.length
   ·obtain ⟨b2, o2, rfl⟩ := HLr.out.addr (by omega)
    have p0 := HLr.out.at hkl
    have hum := Hin.out _ (List.getElem_mem hkl)
    have hst := l5K_yes (r := r) (v := v) hkl
    have hbit : (r l[k]).testBit v = (r v).testBit l[k] := HV.out.sym _ _ hum hv
    obtain ⟨t, ht⟩ : ∃ t, t = (r v).testBit l[k] := ⟨_, rfl⟩
    rw [← ht] at hst hbit
    obtain ⟨u, hu⟩ : ∃ u, u = l[k] := ⟨_, rfl⟩
    rw [← hu] at p0 hum hbit
    rw [← Ha.out] at hst
    have KE : Hid (∀ z : World, Below wr.heap.size wr z → Calls Tryz.prog 70 #[.agg #[.int .i64 m, .slice A m c], .int .i64 u, .int .i64 v] z fun e w' => e = .returned (.bool t) ∧ Below z.heap.size z w') := fun z hz => by
     have := l2Edge_v (HGr.out.gv.keep hz) hum hv
     rwa [hbit] at this
    have hd : decide ((k : Int) < (l.length : Int)) = true := by simp; omega
    clear ht hu hbit
    have e0 := HGr.out.c0
    have e1 := HGr.out.c1
    go_wp2
    have HSC : Hid (∀ z : World, Below wr.heap.size wr z → (Below wr.heap.size wr z ∧ z.cell? ⟨w.heap.size, 0, none⟩ = some (.int .i64 m) ∧ z.cell? ⟨w.heap.size, 1, none⟩ = some (.slice A m c) ∧ z.cell? ⟨b2, o2 + k, none⟩ = some (.int .i64 u))) := fun z hz => ⟨hz, up_ hz e0, up_ hz e1, up_ hz p0⟩
    have HZ0 : Hid (Below wr.heap.size wr wr.drew) := (Below.refl _ _).drew
    have HS1 := Lib.hid (HSC.out _ HZ0.out)
    have KR1 : Hid (∀ z : World, Below wr.heap.size wr z → _) := fun z hz => KE.out z hz
    go_region_held3 (fun z => Below wr.heap.size wr z ∧ z.cell? ⟨w.heap.size, 0, none⟩ = some (.int .i64 m) ∧ z.cell? ⟨w.heap.size, 1, none⟩ = some (.slice A m c) ∧ z.cell? ⟨b2, o2 + k, none⟩ = some (.int .i64 u))
     (first | exact HS1.out | assumption | exact HSC.out _ hz1 | fail)
     (first | (go_at_call 70; ((with_reducible refine (KR1.out _ HZ0.out).mono ?_); rintro e w1 ⟨rfl, hb1⟩; have hz1 := bl_trans HZ0.out hb1)))
    clear e0 e1
    replace HBr := Lib.hid (HBr.out.keep hz1)
    replace HGr := Lib.hid (HGr.out.keep hz1)
    replace HR := Lib.hid (HR.out.keep hz1)
    clear hb1 hz1 HSC HZ0 HS1 KR1
    have e0 := HGr.out.c0
    have e1 := HGr.out.c1
    cases t
    ·simp only [Bool.false_eq_true, if_false] at hst
     have Hst : Hid ((a : Int) * 2 = (l5K r l v (k + 1) : Nat)) := by show _ = _; omega
     clear hst
     go_wp2
     go_roundw
     case rel => exact ⟨k + 1, by omega, by go_num, by rw [← Hst.out], HR⟩
     case measure => simp [intOf]; omega
    ·simp only [if_true] at hst
     have Hst : Hid ((a : Int) * 2 + 1 = (l5K r l v (k + 1) : Nat)) := by show _ = _; omega
     clear hst
     go_wp2
     go_roundw
     case rel => exact ⟨k + 1, by omega, by go_num, by rw [← Hst.out], HR⟩
     case measure => simp [intOf]; omega
   ·have hst := l5K_no (r := r) (v := v) (l := l) (k := k) (by omega)
    rw [← Ha.out] at hst
    have Hst : Hid ((a : Int) * 2 = (l5K r l v (k + 1) : Nat)) := by show _ = _; omega
    have hd : decide ((k : Int) < (l.length : Int)) = false := by simp; omega
    clear hst
    go_wp2
    go_quiet (fail)
    have HR3 : Hid (From W (wr.drewN nq)) := HR.out.drewN nq
    go_wp2
    go_roundw
    case rel => exact ⟨k + 1, by omega, by go_num, by rw [← Hst.out], HR3⟩
    case measure => simp [intOf]; omega
  ·have hk7 : k = 7 := by omega
   have i1 : (7 : Int) ≤ (k : Int) := by omega
   have Hf : Hid (a = l5K r l v 7) := by rw [Ha.out, hk7]; exact rfl
   clear hk7
   go_wp2
   go_ret
   exact ⟨ret_int (by rw [Hf.out]), HBr.out.below⟩
set_option maxRecDepth 100000 in
set_option maxHeartbeats 3200000 in
theorem LexOrder_sv {w : World} (h : GV w A m c r) {s : Nat} (hs : s < m) :
 Calls Tryz.prog 97 #[.agg #[.int .i64 m, .slice A m c], .int .i64 s] w fun e w' => ∃ A' c', e = .returned (.tuple #[.slice A' (lexN r m s).length c', .bool true]) ∧ ON w.heap.size w' A' c' (lexN r m s) ∧ Below w.heap.size w w' := by
 have hn1 := h.vg.n1
 have hn7 := h.vg.n7
 have p1 := pow_shl s (by omega)
 obtain ⟨W, hW⟩ : ∃ W : World, W = (w.alloc (Obj.cells #[Value.int IntKind.i64 m, Value.slice A m c] 29)) := ⟨_, rfl⟩
 have HB : Hid (From w W) := by rw [hW]; exact From.alloc _ _
 have HG : Hid (GBox W w.heap.size A m c r) := by rw [hW]; exact h.box
 have HW := Lib.hid hW
 clear hW h
 have e0 := HG.out.c0
 have e1 := HG.out.c1
 go_enter Tryz.func97, Tryz.ntmps97
 go_wp2_with fail
 rw [← HW.out]
 refine (IsGraph_sv HG.out.gv).mono ?_
 rintro e w1 ⟨rfl, hb1⟩
 clear HW
 clear e0 e1
 replace HB := Lib.hid (HB.out.keep hb1)
 replace HG := Lib.hid (HG.out.keep hb1)
 clear hb1
 have e0 := HG.out.c0
 have e1 := HG.out.c1
 obtain ⟨W2, hW2⟩ : ∃ W : World, W = w1.alloc (Obj.cells #[Value.int .i64 (s : Int)] 3) := ⟨_, rfl⟩
 have H2 : Hid (From w1 W2) := by rw [hW2]; exact From.alloc _ _
 have z1 := HB.out.below.size
 have HO0 : Hid (ON w1.heap.size W2 (some ⟨w1.heap.size, 0, none⟩) 1 (grN (labN r) m s 0)) := by
  rw [hW2]; exact one_on w1 s
 have HW2 := Lib.hid hW2
 have i1 : (0 : Int) ≤ (s : Int) := by omega
 have i2 : (s : Int) < (m : Int) := by omega
 have hd1 : decide ((s : Int) < 0) = false := by simp
 have hd2 : decide (m ≤ s) = false := by simp; omega
 have hpc := pow_cast s
 have Hu0 : Hid ((2 : Int) ^ s = (stN (ci (grN (labN r) m s 0)) : Nat)) := by show _ = _; simp [grN, ci, stN]
 clear hW2
 go_wp2
 rw [← HW2.out]
 clear HW2
 go_loopw [6, 7] (fun l us wr => ∃ (k : Nat) (A' : Option Addr) (c' : Nat), k < m ∧ l = .slice A' (grN (labN r) m s k).length c' ∧ us = .int .i64 (stN (ci (grN (labN r) m s k)) : Nat) ∧ Hid (ON w1.heap.size wr A' c' (grN (labN r) m s k)) ∧ Hid (From w1 wr)) (fun l _ _ => match l with | .slice _ n _ => m - n | _ => 0)
 case atStart => exact ⟨0, _, 1, by omega, rfl, by rw [Hu0.out], HO0, H2⟩
 case round =>
  clear HO0 H2 Hu0 p1 hpc i1 i2 hd1 hd2
  obtain ⟨k, A', c', hk, rfl, rfl, HO, HR⟩ := hrel
  have hlen := grN_len (labN r) m s k
  by_cases hlt : k + 1 < m
  ·have i1 : ((grN (labN r) m s k).length : Int) < (m : Int) := by omega
   have HBo := Lib.hid (HB.out.keep HR.out.below)
   have HGo := Lib.hid (HG.out.keep HR.out.below)
   have e0 := HGo.out.c0
   obtain ⟨b, hb, hbm, hbn, hgr⟩ := grN_step (f := labN r) (s := s) hlt
   obtain ⟨hnd, hin⟩ := grN_fine (f := labN r) hs k (by omega)
   have Hb := Lib.hid hb
   have Hgr := Lib.hid hgr
   have Hin := Lib.hid hin
   have Hlen := Lib.hid hlen
   have Hbn := Lib.hid hbn
   obtain ⟨L, hL⟩ : ∃ L, L = grN (labN r) m s k := ⟨_, rfl⟩
   rw [← hL] at Hb Hgr Hin Hlen HO i1 Hbn ⊢
   have hl1 : L.length ≤ k + 1 := by rw [Hlen.out]; exact Nat.le_refl _
   have hl2 : k + 1 ≤ L.length := by rw [Hlen.out]; exact Nat.le_refl _
   have hus := stN_ci_lt Hin.out
   have h128 := two_pow_le hn7
   clear hb hgr hin hlen hnd hbn hL
   go_wp2
   go_loopw [8, 9] (fun a i wz => ∃ v : Nat, v ≤ m ∧ i = .int .i64 v ∧ a = .int .i64 (bsI (bestK (labN r L) (fun v => !decide (v ∈ L)) v)) ∧ Hid (From wr wz)) (fun _ i _ => m - (intOf i).toNat)
   case atStart => exact ⟨0, Nat.zero_le _, rfl, rfl, From.refl _⟩
   case round =>
    obtain ⟨v, hv, rfl, rfl, HZ⟩ := hrel
    have HGz := Lib.hid (HGo.out.keep HZ.out.below)
    by_cases hvm : v < m
    ·have i2 : (v : Int) < (m : Int) := by omega
     obtain ⟨o, ho⟩ : ∃ o, o = bestK (labN r L) (fun v => !decide (v ∈ L)) v := ⟨_, rfl⟩
     rw [← ho]
     have Ho := Lib.hid ho
     clear ho
     have E := and_one_i64' (stN (ci L) : Int) v (by omega) (by omega)
     rw [Int.toNat_natCast, stN_ci_bit] at E
     by_cases hin : v ∈ L
     ·have Hno : Hid (bestK (labN r L) (fun v => !decide (v ∈ L)) (v + 1) = o) := by show _ = _; rw [bestK_no (by simpa using hin), Ho.out]
      rw [decide_eq_true hin] at E
      obtain ⟨y, hy⟩ : ∃ y, y = bsI o := ⟨_, rfl⟩
      rw [← hy]
      have Hy := Lib.hid hy
      clear hin hy
      have e0 := HGz.out.c0
      go_wp2
      go_quiet (fail)
      have HZ3 := Lib.hid (HZ.out.drewN nq)
      go_wp2
      go_roundw
      case rel => exact ⟨v + 1, by omega, by go_num, by rw [Hno.out, Hy.out], HZ3⟩
      case measure => simp [intOf]; omega
     ·rw [decide_eq_false hin] at E
      cases o with
      | none =>
        have Hn : Hid (bestK (labN r L) (fun v => !decide (v ∈ L)) (v + 1) = some v) := bestK_first (by simpa using hin) Ho.out.symm
        have hq2 : bsI none = -1 := rfl
        rw [hq2]
        clear hin hq2
        have e0 := HGz.out.c0
        go_wp2
        go_quiet (fail)
        have HZ3 := Lib.hid (HZ.out.drewN nq)
        go_wp2
        go_roundw
        case rel => exact ⟨v + 1, by omega, by go_num, by rw [Hn.out]; rfl, HZ3⟩
        case measure => simp [intOf]; omega
      | some b2 =>
        have hb2m := (bestK_in Ho.out.symm).1
        have hq2 : bsI (some b2) = (b2 : Int) := rfl
        rw [hq2]
        have hcmp := l5K_less (r := r) (l := L) (v := v) (b := b2) (by omega)
        have hy7 := l5K_lt r L v 7
        have ht7 := l5K_lt r L b2 7
        have HOz := Lib.hid (HO.out.keep HZ.out.below)
        have KY : Hid (∀ z : World, Below wr.heap.size wr z → Calls Tryz.prog 154 #[.agg #[.int .i64 m, .slice A m c], .slice A' L.length c', .int .i64 v] z fun e w' => e = .returned (.int .i64 (l5K r L v 7 : Nat)) ∧ Below z.heap.size z w') := fun z hz => l5Label_v (HGz.out.gv.keep hz) (HOz.out.keep hz).ln (by omega) Hin.out hvm
        have KT : Hid (∀ z : World, Below wr.heap.size wr z → Calls Tryz.prog 154 #[.agg #[.int .i64 m, .slice A m c], .slice A' L.length c', .int .i64 b2] z fun e w' => e = .returned (.int .i64 (l5K r L b2 7 : Nat)) ∧ Below z.heap.size z w') := fun z hz => l5Label_v (HGz.out.gv.keep hz) (HOz.out.keep hz).ln (by omega) Hin.out (by omega)
        obtain ⟨y, hy⟩ : ∃ y, y = l5K r L v 7 := ⟨_, rfl⟩
        obtain ⟨t, ht⟩ : ∃ t, t = l5K r L b2 7 := ⟨_, rfl⟩
        rw [← hy] at KY hcmp hy7
        rw [← ht] at KT hcmp ht7
        have Hcmp := Lib.hid hcmp
        have i3 : (0 : Int) ≤ (b2 : Int) := by omega
        have i4 : decide ((b2 : Int) < 0) = false := by simp
        clear hq2 hy ht hcmp
        have e0 := HGz.out.c0
        have e1 := HGz.out.c1
        go_wp2
        have HSC : Hid (∀ z : World, Below wr.heap.size wr z → (Below wr.heap.size wr z ∧ z.cell? ⟨w.heap.size, 0, none⟩ = some (.int .i64 m) ∧ z.cell? ⟨w.heap.size, 1, none⟩ = some (.slice A m c))) := fun z hz => ⟨hz, up_ hz e0, up_ hz e1⟩
        have HZ0 : Hid (Below wr.heap.size wr wr.drew) := (Below.refl _ _).drew
        have HS1 := Lib.hid (HSC.out _ HZ0.out)
        have KR1 : Hid (∀ z : World, Below wr.heap.size wr z → _) := fun z hz => KY.out z hz
        have KR2 : Hid (∀ z : World, Below wr.heap.size wr z → _) := fun z hz => KT.out z hz
        go_region_held3 (fun z => Below wr.heap.size wr z ∧ z.cell? ⟨w.heap.size, 0, none⟩ = some (.int .i64 m) ∧ z.cell? ⟨w.heap.size, 1, none⟩ = some (.slice A m c))
         (first | exact HS1.out | assumption | exact HSC.out _ hz3 | exact HSC.out _ hz2 | fail)
         (first | (go_at_call 154; ((with_reducible refine (KR1.out _ HZ0.out).mono ?_); rintro e w2 ⟨rfl, hb2⟩; have hz2 := bl_trans HZ0.out hb2)) | (go_at_call 154; ((with_reducible refine (KR2.out _ hz2).mono ?_); rintro e w3 ⟨rfl, hb3⟩; have hz3 := bl_trans hz2 hb3)))
        clear e0 e1
        replace HGz := Lib.hid (HGz.out.keep hz3)
        replace HZ := Lib.hid (HZ.out.keep hz3)
        clear hb2 hz2 hb3 hz3 HSC HZ0 HS1 KR1 KR2
        have e0 := HGz.out.c0
        have e1 := HGz.out.c1
        by_cases hf : t < y
        ·have Hn : Hid (bestK (labN r L) (fun v => !decide (v ∈ L)) (v + 1) = some v) := bestK_more (by simpa using hin) Ho.out.symm (Hcmp.out.1 hf)
         have i5 : (t : Int) < (y : Int) := by omega
         clear hin
         go_wp2
         go_roundw
         case rel => exact ⟨v + 1, by omega, by go_num, by rw [Hn.out]; rfl, HZ⟩
         case measure => simp [intOf]; omega
        ·have Hn : Hid (bestK (labN r L) (fun v => !decide (v ∈ L)) (v + 1) = some b2) := bestK_less Ho.out.symm (fun h => hf (Hcmp.out.2 h))
         have i5 : (y : Int) ≤ (t : Int) := by omega
         clear hin
         go_wp2
         go_roundw
         case rel => exact ⟨v + 1, by omega, by go_num, by rw [Hn.out]; rfl, HZ⟩
         case measure => simp [intOf]; omega
    ·have hvm' : v = m := by omega
     have i2 : (m : Int) ≤ (v : Int) := by omega
     have HO3 := Lib.hid (HO.out.keep HZ.out.below)
     have HR3 : Hid (From w1 wr) := HR.out.keep HZ.out.below
     have zz := HR3.out.below.size
     have hq : bsI (bestK (labN r L) (fun v => !decide (v ∈ L)) v) = (b : Int) := by rw [hvm', Hb.out]; rfl
     rw [hq]
     have e0 := HGz.out.c0
     have p1 := pow_shl b (by omega)
     have hb128 : 2 ^ b < 128 := Nat.lt_of_lt_of_le (Nat.pow_lt_pow_right (by omega) hbm) h128
     have hpc := pow_cast b
     have hb0 : (0 : Int) ≤ 2 ^ b := by rw [← hpc]; exact Int.natCast_nonneg _
     have Hu : Hid ((stN (ci L) : Int) + 2 ^ b = (stN (ci (L ++ [b])) : Nat)) := by show _ = _; rw [stN_ci_one Hbn.out]; simp
     clear hq hvm' HZ
     go_wp2_with (first | (at_builtin; (refine wpList_pushN wr rfl _ _ rfl w1.heap.size wr.heap.size A' c' L HO3.out.own (by omega) b rfl 1 wr.heap.size rfl rfl (by omega) ?_; intro g cap w4 hO4 hb4)))
     have H4 : Hid (ON w1.heap.size w4 (some ⟨g, 0, none⟩) cap (L ++ [b])) := ⟨by rw [List.length_append]; exact hO4⟩
     have H5 : Hid (From w1 w4) := ⟨HR3.out.below.trans hb4⟩
     clear hO4 hb4 HO3 HR3
     go_wp2
     go_roundw
     case rel => exact ⟨k + 1, some ⟨g, 0, none⟩, cap, by omega, by rw [Hgr.out, List.length_append]; rfl, by rw [Hgr.out, ← Hu.out], by rw [Hgr.out]; exact H4, H5⟩
     case measure => simp; omega
  ·have hkm : k = m - 1 := by omega
   have i1 : (m : Int) ≤ ((grN (labN r) m s k).length : Int) := by omega
   have HBr := Lib.hid (HB.out.keep HR.out.below)
   have HGr := Lib.hid (HG.out.keep HR.out.below)
   have e0 := HGr.out.c0
   subst hkm
   go_wp2
   go_ret2
   exact ⟨A', c', rfl, HO.out.mono z1, HBr.out.below⟩
end
set_option maxHeartbeats 1600000 in
theorem LexOrder_s (sz : Int) (A : Option Addr) (m c : Nat) (x : Nat → Int) (s : Int) (w : World) (h : GA w A m c x) (hm : m ≤ 1048576) :
 Calls Tryz.prog 97 #[.agg #[.int .i64 sz, .slice A m c], .int .i64 s] w fun e w' => ∃ A' c', e = .returned (.tuple #[.slice A' (lxL sz m x s).length c', .bool (lxB sz m x s)]) ∧ ON w.heap.size w' A' c' (lxL sz m x s) ∧ Below w.heap.size w w' := by
 cases hb : lxB sz m x s
 ·rw [lxL_no hb]
  obtain ⟨W, hW⟩ : ∃ W : World, W = (w.alloc (Obj.cells #[Value.int IntKind.i64 sz, Value.slice A m c] 29)) := ⟨_, rfl⟩
  have HB : Hid (From w W) := by rw [hW]; exact From.alloc _ _
  have HK := Lib.hid (h.keep HB.out.below)
  have HC : Hid (GC W w.heap.size sz A m c) := by rw [hW]; exact GC.new _ _ _ _ _
  have HW := Lib.hid hW
  clear hW h
  cases ho : okB sz m x
  ·have Ho := Lib.hid ho
   clear ho hb
   go_enter Tryz.func97, Tryz.ntmps97
   have e0 := HC.out.c0
   have e1 := HC.out.c1
   go_wp2_with fail
   rw [← HW.out]
   refine (IsGraph_sany sz A m c x W W.heap.size HK.out.rd (Nat.le_refl _) hm).mono ?_
   rintro e w1 ⟨rfl, hb1⟩
   clear HW
   clear e0 e1
   replace HB := Lib.hid (HB.out.keep hb1)
   replace HC := Lib.hid (HC.out.keep hb1)
   clear hb1
   have e0 := HC.out.c0
   have e1 := HC.out.c1
   rw [Ho.out]
   go_wp2
   go_ret2
   exact ⟨_, 0, rfl, (ON.nil _).mono HB.out.below.size, (HB.out.alloc_ _).below⟩
  ·have hs : ¬(0 ≤ s ∧ s < sz) := fun hs => by unfold lxB at hb; rw [ho, decide_eq_true hs] at hb; cases hb
   have Ho := Lib.hid ho
   clear ho hb
   by_cases hs0 : s < 0
   ·clear hs
    go_enter Tryz.func97, Tryz.ntmps97
    have e0 := HC.out.c0
    have e1 := HC.out.c1
    go_wp2_with fail
    rw [← HW.out]
    refine (IsGraph_sany sz A m c x W W.heap.size HK.out.rd (Nat.le_refl _) hm).mono ?_
    rintro e w2 ⟨rfl, hb2⟩
    clear HW
    clear e0 e1
    replace HB := Lib.hid (HB.out.keep hb2)
    replace HC := Lib.hid (HC.out.keep hb2)
    clear hb2
    have e0 := HC.out.c0
    have e1 := HC.out.c1
    rw [Ho.out]
    go_wp2
    go_ret2
    exact ⟨_, 0, rfl, (ON.nil _).mono HB.out.below.size, (HB.out.alloc_ _).below⟩
   ·have i1 : 0 ≤ s := by omega
    have i2 : sz ≤ s := by omega
    clear hs hs0
    go_enter Tryz.func97, Tryz.ntmps97
    have e0 := HC.out.c0
    have e1 := HC.out.c1
    go_wp2_with fail
    rw [← HW.out]
    refine (IsGraph_sany sz A m c x W W.heap.size HK.out.rd (Nat.le_refl _) hm).mono ?_
    rintro e w3 ⟨rfl, hb3⟩
    clear HW
    clear e0 e1
    replace HB := Lib.hid (HB.out.keep hb3)
    replace HC := Lib.hid (HC.out.keep hb3)
    clear hb3
    have e0 := HC.out.c0
    have e1 := HC.out.c1
    rw [Ho.out]
    go_wp2
    go_ret2
    exact ⟨_, 0, rfl, (ON.nil _).mono HB.out.below.size, (HB.out.alloc_ _).below⟩
 ·rw [lxL_yes hb]
  unfold lxB at hb
  rw [Bool.and_eq_true, decide_eq_true_eq] at hb
  obtain ⟨⟨s0, s1⟩, ho⟩ := hb
  obtain ⟨_, es, vg0, _⟩ := okB_ok' ho
  subst es
  obtain ⟨v, rfl⟩ := Int.eq_ofNat_of_zero_le s0
  rw [Int.toNat_natCast]
  exact LexOrder_sv (h.gv ho) (by omega)
end Go.Proofs.YtppkokgiojcgbaaGreatDoor
