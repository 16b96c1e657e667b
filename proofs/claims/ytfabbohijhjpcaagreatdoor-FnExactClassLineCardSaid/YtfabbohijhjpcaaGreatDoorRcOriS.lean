/-
-/
import Derived.Test.YtfabbohijhjpcaaGreatDoorRcOriJ
import Derived.Deep.CutRange
namespace Go.Proofs.YtfabbohijhjpcaaGreatDoor
open Go.RowKit
section
variable {A : Option Addr} {m c : Nat} {r : Nat → Nat} {w : World}
set_option maxRecDepth 100000 in
set_option maxHeartbeats 6400000 in
theorem l13Next_v (h : GV w A m c r) {a b : Nat} (ha : a < m) (hb : b < m) :
 Calls Tryz.prog 279 #[.agg #[.int .i64 m, .slice A m c], .int .i64 (a : Int), .int .i64 (b : Int)] w fun e w' => ∃ (g c' : Nat), e = .returned (.slice (some ⟨g, 0, none⟩) (fnL r m a b).length c') ∧ OB (fun _ => True) w.heap.size w' g c' (fnL r m a b) ∧ Below w.heap.size w w' := by
 have hm7 := h.vg.n7
 have hm1 := h.vg.n1
 have HV := Lib.hid h.vg
 have HGw := Lib.hid h
 obtain ⟨W, hW⟩ : ∃ W : World, W = ((w.alloc (Obj.cells #[Value.int IntKind.i64 m, Value.slice A m c] 26)).alloc (Obj.cells #[] 24)) := ⟨_, rfl⟩
 have hz0 : (w.alloc (Obj.cells #[Value.int IntKind.i64 m, Value.slice A m c] 26)).heap.size = w.heap.size + 1 := by simp
 have HB : Hid (From w W) := by rw [hW]; exact (From.alloc _ _).alloc_ _
 have HC : Hid (GC W w.heap.size m A m c) := by rw [hW]; exact (GC.new _ _ _ _ _).keep ((Below.refl _ _).alloc (Nat.le_refl _) _)
 have HO : Hid (OB (fun _ => True) (w.heap.size + 1) W (w.heap.size + 1) 0 []) := by
  have := OB.nil (P := fun _ => True) (lo := w.heap.size + 1) (w.alloc (Obj.cells #[Value.int IntKind.i64 m, Value.slice A m c] 26)) (by omega)
  rw [hz0] at this
  rw [hW]; exact this
 have HW := Lib.hid hW
 clear hW h hz0
 go_enter Tryz.func279, Tryz.ntmps279
 go_wp2
 rw [← HW.out]
 clear HW
 go_loopw [7, 8] (fun l i wr => ∃ (v g5 c5 : Nat) (L : List (Nat × Nat)), v ≤ m ∧ i = .int .i64 v ∧ l = .slice (some ⟨g5, 0, none⟩) L.length c5 ∧ Hid (L = fnT r m a b v) ∧ Hid (OB (fun _ => True) (w.heap.size + 1) wr g5 c5 L) ∧ Hid (GC wr w.heap.size m A m c) ∧ Hid (From w wr)) (fun _ i _ => m - (intOf i).toNat)
 case atStart => exact ⟨0, _, 0, [], Nat.zero_le _, rfl, rfl, rfl, HO, HC, HB⟩
 case round =>
  clear HO HC HB
  obtain ⟨v, g5, c5, L, hv, rfl, rfl, HT, HO, HC, HB⟩ := hrel
  have e0 := HC.out.c0
  by_cases hvm : v < m
  rotate_left
  ·obtain rfl : v = m := by omega
   obtain rfl := HT.out
   have hi1 : (v : Int) ≤ (v : Int) := Int.le_refl _
   have hlo := HO.out.l
   go_wp2
   go_ret
   exact ⟨g5, c5, rfl, ⟨HO.out.ex.imp fun D ⟨h1, h2, h3⟩ => ⟨h1, h2, fun d hd => (h3 d hd).imp fun k ⟨k1, k2, k3, k4⟩ => ⟨k1, by omega, k3, k4⟩⟩, by omega⟩, HB.out.below⟩
  have i1 : (v : Int) < (m : Int) := by omega
  have hL49 : L.length ≤ 49 := by rw [HT.out]; have := fnT_len (b := b) HV.out ha v; omega
  clear e0
  have e0 := HC.out.c0
  go_wp2
  clear e0
  obtain ⟨wo, rfl⟩ : ∃ z : World, z = wr := ⟨_, rfl⟩
  go_loopw [7, 9] (fun l i wz => ∃ (u g6 c6 : Nat) (L6 : List (Nat × Nat)), u ≤ m ∧ i = .int .i64 u ∧ l = .slice (some ⟨g6, 0, none⟩) L6.length c6 ∧ Hid (L6 = L ++ fqK r a b v u) ∧ Hid (OB (fun _ => True) (w.heap.size + 1) wz g6 c6 L6) ∧ Hid (GC wz w.heap.size m A m c) ∧ Hid (From w wz)) (fun _ i _ => m - (intOf i).toNat)
  case atStart => exact ⟨0, _, c5, L, Nat.zero_le _, rfl, rfl, by show L = _; unfold fqK; simp, HO, HC, HB⟩
  case round =>
   clear HO HC HB
   obtain ⟨u, g6, c6, L6, hu, rfl, rfl, HT6, HO, HC, HB⟩ := hrel
   have e0 := HC.out.c0
   have e1 := HC.out.c1
   by_cases hum : u < m
   rotate_left
   ·obtain rfl : u = m := by omega
    have hi1 : (u : Int) ≤ (u : Int) := Int.le_refl _
    have HT8 : Hid (L6 = fnT r u a b (v + 1)) := by show _ = _; rw [HT6.out, fqK_all HV.out ha hb hvm, fnT_succ, HT.out]
    go_wp2
    go_roundw
    case rel => exact ⟨v + 1, g6, c6, L6, by omega, by go_num, rfl, HT8, HO, HC, HB⟩
    case measure => (simp [intOf] <;> omega)
   have i2 : (u : Int) < (m : Int) := by omega
   have hL6 : L6.length ≤ 64 := by
    rw [HT6.out, List.length_append]
    have : (fqK r a b v u).length ≤ u := by
     unfold fqK; rw [List.length_map]
     have := List.length_filter_le (fq r a b v) (List.range u)
     rwa [List.length_range] at this
    omega
   obtain ⟨E, hE⟩ : ∃ E, E = (r v).testBit u := ⟨_, rfl⟩
   obtain ⟨F, hF⟩ : ∃ F, F = (r u).testBit b := ⟨_, rfl⟩
   obtain ⟨G, hG⟩ : ∃ G, G = (r v).testBit a := ⟨_, rfl⟩
   have HQ : Hid (fq r a b v u = (E && (decide (v = a) && !decide (u = b) && !F || decide (u = b) && !decide (v = a) && !G))) := by show _ = _; unfold fq; rw [hE, hF, hG]
   have KE : Hid (∀ z : World, From w z → Calls Tryz.prog 45 #[.agg #[.int .i64 m, .slice A m c], .int .i64 (v : Int), .int .i64 (u : Int)] z fun e w' => e = .returned (.bool E) ∧ Below z.heap.size z w') := fun z hz => by rw [hE]; exact l2Edge_v (HGw.out.keep hz.below) hvm hum
   have KF : Hid (∀ z : World, From w z → Calls Tryz.prog 45 #[.agg #[.int .i64 m, .slice A m c], .int .i64 (u : Int), .int .i64 (b : Int)] z fun e w' => e = .returned (.bool F) ∧ Below z.heap.size z w') := fun z hz => by rw [hF]; exact l2Edge_v (HGw.out.keep hz.below) hum hb
   have KG : Hid (∀ z : World, From w z → Calls Tryz.prog 45 #[.agg #[.int .i64 m, .slice A m c], .int .i64 (v : Int), .int .i64 (a : Int)] z fun e w' => e = .returned (.bool G) ∧ Below z.heap.size z w') := fun z hz => by rw [hG]; exact l2Edge_v (HGw.out.keep hz.below) hvm ha
   clear hE hF hG
   cases E
   ·skip
    go_wp2_with fail
    refine (KE.out _ HB.out).mono ?_
    rintro e w1 ⟨rfl, hb1⟩
    clear e0 e1
    replace HB := Lib.hid (HB.out.keep hb1)
    replace HC := Lib.hid (HC.out.keep hb1)
    replace HO := Lib.hid (HO.out.keep hb1)
    clear hb1
    have e0 := HC.out.c0
    have e1 := HC.out.c1
    have Hq : Hid (fq r a b v u = false) := by show _ = _; rw [HQ.out]; rfl
    have HT9 : Hid (L6 = L ++ fqK r a b v (u + 1)) := by show _ = _; rw [fqK_succ, Hq.out]; simpa using HT6.out
    clear KE KF KG
    go_wp2
    go_roundw
    case rel => exact ⟨u + 1, g6, c6, L6, by omega, by go_num, rfl, HT9, HO, HC, HB⟩
    case measure => (simp [intOf] <;> omega)
   by_cases hva : v = a
   ·have j1 : ((v : Int) == (a : Int)) = true := by simp [hva]
    have j4 : ((v : Int) != (a : Int)) = false := by simp [hva]
    have d1 : decide (v = a) = true := decide_eq_true hva
    clear hva
    by_cases hub : u = b
    ·have j2 : ((u : Int) == (b : Int)) = true := by simp [hub]
     have j3 : ((u : Int) != (b : Int)) = false := by simp [hub]
     have d2 : decide (u = b) = true := decide_eq_true hub
     clear hub
     go_wp2_with fail
     refine (KE.out _ HB.out).mono ?_
     rintro e w2 ⟨rfl, hb2⟩
     clear e0 e1
     replace HB := Lib.hid (HB.out.keep hb2)
     replace HC := Lib.hid (HC.out.keep hb2)
     replace HO := Lib.hid (HO.out.keep hb2)
     clear hb2
     have e0 := HC.out.c0
     have e1 := HC.out.c1
     have Hq : Hid (fq r a b v u = false) := by show _ = _; rw [HQ.out]; rw [d1, d2]; rfl
     have HT9 : Hid (L6 = L ++ fqK r a b v (u + 1)) := by show _ = _; rw [fqK_succ, Hq.out]; simpa using HT6.out
     clear KE KF KG
     go_wp2
     go_roundw
     case rel => exact ⟨u + 1, g6, c6, L6, by omega, by go_num, rfl, HT9, HO, HC, HB⟩
     case measure => (simp [intOf] <;> omega)
    ·have j2 : ((u : Int) == (b : Int)) = false := by simp; omega
     have j3 : ((u : Int) != (b : Int)) = true := by simp; omega
     have d2 : decide (u = b) = false := decide_eq_false hub
     clear hub
     cases F
     ·skip
      go_wp2_with fail
      refine (KE.out _ HB.out).mono ?_
      rintro e w3 ⟨rfl, hb3⟩
      clear e0 e1
      replace HB := Lib.hid (HB.out.keep hb3)
      replace HC := Lib.hid (HC.out.keep hb3)
      replace HO := Lib.hid (HO.out.keep hb3)
      clear hb3
      have e0 := HC.out.c0
      have e1 := HC.out.c1
      go_wp2_with fail
      refine (KF.out _ HB.out).mono ?_
      rintro e w4 ⟨rfl, hb4⟩
      clear e0 e1
      replace HB := Lib.hid (HB.out.keep hb4)
      replace HC := Lib.hid (HC.out.keep hb4)
      replace HO := Lib.hid (HO.out.keep hb4)
      clear hb4
      have e0 := HC.out.c0
      have e1 := HC.out.c1
      have Hq : Hid (fq r a b v u = true) := by show _ = _; rw [HQ.out]; rw [d1, d2]; rfl
      have HT9 : Hid (L6 ++ [(v, u)] = L ++ fqK r a b v (u + 1)) := by show _ = _; rw [fqK_succ, Hq.out, HT6.out]; simp
      obtain ⟨wq, hwq⟩ : ∃ z : World, z = w4 := ⟨_, rfl⟩
      rw [← hwq] at HB HC HO ⊢
      clear hwq KE KF KG
      have hlz : w.heap.size < wq.heap.size := HC.out.lt
      have hl6 := HO.out.l
      go_wp2_with (first | (at_builtin; (refine wpList_pushNa wq rfl _ _ rfl (fun _ => True) (w.heap.size + 1) g6 c6 L6 HO.out v u trivial rfl 1 (wq.heap.size + 1) rfl rfl (by omega) ?_; intro g7 c7 w7 hO7 hg7 hf7)))
      have HO7 := Lib.hid hO7
      have HC7 := Lib.hid (HC.out.keepF hf7 (.inl (by omega)))
      have HB7 : Hid (From w w7) := ⟨HB.out.below.trans (hf7.below (by omega) HB.out.below.size)⟩
      clear hO7 hg7 hf7
      go_wp2
      go_roundw
      case rel => exact ⟨u + 1, g7, c7, L6 ++ [(v, u)], by omega, by go_num, by rw [List.length_append]; rfl, HT9, HO7, HC7, HB7⟩
      case measure => (simp [intOf] <;> omega)
     ·skip
      go_wp2_with fail
      refine (KE.out _ HB.out).mono ?_
      rintro e w5 ⟨rfl, hb5⟩
      clear e0 e1
      replace HB := Lib.hid (HB.out.keep hb5)
      replace HC := Lib.hid (HC.out.keep hb5)
      replace HO := Lib.hid (HO.out.keep hb5)
      clear hb5
      have e0 := HC.out.c0
      have e1 := HC.out.c1
      go_wp2_with fail
      refine (KF.out _ HB.out).mono ?_
      rintro e w6 ⟨rfl, hb6⟩
      clear e0 e1
      replace HB := Lib.hid (HB.out.keep hb6)
      replace HC := Lib.hid (HC.out.keep hb6)
      replace HO := Lib.hid (HO.out.keep hb6)
      clear hb6
      have e0 := HC.out.c0
      have e1 := HC.out.c1
      have Hq : Hid (fq r a b v u = false) := by show _ = _; rw [HQ.out]; rw [d1, d2]; rfl
      have HT9 : Hid (L6 = L ++ fqK r a b v (u + 1)) := by show _ = _; rw [fqK_succ, Hq.out]; simpa using HT6.out
      clear KE KF KG
      go_wp2
      go_roundw
      case rel => exact ⟨u + 1, g6, c6, L6, by omega, by go_num, rfl, HT9, HO, HC, HB⟩
      case measure => (simp [intOf] <;> omega)
   ·have j1 : ((v : Int) == (a : Int)) = false := by simp; omega
    have j4 : ((v : Int) != (a : Int)) = true := by simp; omega
    have d1 : decide (v = a) = false := decide_eq_false hva
    clear hva
    by_cases hub : u = b
    ·have j2 : ((u : Int) == (b : Int)) = true := by simp [hub]
     have d2 : decide (u = b) = true := decide_eq_true hub
     clear hub
     cases G
     ·skip
      go_wp2_with fail
      refine (KE.out _ HB.out).mono ?_
      rintro e w7 ⟨rfl, hb7⟩
      clear e0 e1
      replace HB := Lib.hid (HB.out.keep hb7)
      replace HC := Lib.hid (HC.out.keep hb7)
      replace HO := Lib.hid (HO.out.keep hb7)
      clear hb7
      have e0 := HC.out.c0
      have e1 := HC.out.c1
      go_wp2_with fail
      refine (KG.out _ HB.out).mono ?_
      rintro e w8 ⟨rfl, hb8⟩
      clear e0 e1
      replace HB := Lib.hid (HB.out.keep hb8)
      replace HC := Lib.hid (HC.out.keep hb8)
      replace HO := Lib.hid (HO.out.keep hb8)
      clear hb8
      have e0 := HC.out.c0
      have e1 := HC.out.c1
      have Hq : Hid (fq r a b v u = true) := by show _ = _; rw [HQ.out]; rw [d1, d2]; rfl
      have HT9 : Hid (L6 ++ [(v, u)] = L ++ fqK r a b v (u + 1)) := by show _ = _; rw [fqK_succ, Hq.out, HT6.out]; simp
      obtain ⟨wq, hwq⟩ : ∃ z : World, z = w8 := ⟨_, rfl⟩
      rw [← hwq] at HB HC HO ⊢
      clear hwq KE KF KG
      have hlz : w.heap.size < wq.heap.size := HC.out.lt
      have hl6 := HO.out.l
      go_wp2_with (first | (at_builtin; (refine wpList_pushNa wq rfl _ _ rfl (fun _ => True) (w.heap.size + 1) g6 c6 L6 HO.out v u trivial rfl 1 (wq.heap.size + 1) rfl rfl (by omega) ?_; intro g7 c7 w7 hO7 hg7 hf7)))
      have HO7 := Lib.hid hO7
      have HC7 := Lib.hid (HC.out.keepF hf7 (.inl (by omega)))
      have HB7 : Hid (From w w7) := ⟨HB.out.below.trans (hf7.below (by omega) HB.out.below.size)⟩
      clear hO7 hg7 hf7
      go_wp2
      go_roundw
      case rel => exact ⟨u + 1, g7, c7, L6 ++ [(v, u)], by omega, by go_num, by rw [List.length_append]; rfl, HT9, HO7, HC7, HB7⟩
      case measure => (simp [intOf] <;> omega)
     ·skip
      go_wp2_with fail
      refine (KE.out _ HB.out).mono ?_
      rintro e w9 ⟨rfl, hb9⟩
      clear e0 e1
      replace HB := Lib.hid (HB.out.keep hb9)
      replace HC := Lib.hid (HC.out.keep hb9)
      replace HO := Lib.hid (HO.out.keep hb9)
      clear hb9
      have e0 := HC.out.c0
      have e1 := HC.out.c1
      go_wp2_with fail
      refine (KG.out _ HB.out).mono ?_
      rintro e w10 ⟨rfl, hb10⟩
      clear e0 e1
      replace HB := Lib.hid (HB.out.keep hb10)
      replace HC := Lib.hid (HC.out.keep hb10)
      replace HO := Lib.hid (HO.out.keep hb10)
      clear hb10
      have e0 := HC.out.c0
      have e1 := HC.out.c1
      have Hq : Hid (fq r a b v u = false) := by show _ = _; rw [HQ.out]; rw [d1, d2]; rfl
      have HT9 : Hid (L6 = L ++ fqK r a b v (u + 1)) := by show _ = _; rw [fqK_succ, Hq.out]; simpa using HT6.out
      clear KE KF KG
      go_wp2
      go_roundw
      case rel => exact ⟨u + 1, g6, c6, L6, by omega, by go_num, rfl, HT9, HO, HC, HB⟩
      case measure => (simp [intOf] <;> omega)
    ·have j2 : ((u : Int) == (b : Int)) = false := by simp; omega
     have d2 : decide (u = b) = false := decide_eq_false hub
     clear hub
     go_wp2_with fail
     refine (KE.out _ HB.out).mono ?_
     rintro e w11 ⟨rfl, hb11⟩
     clear e0 e1
     replace HB := Lib.hid (HB.out.keep hb11)
     replace HC := Lib.hid (HC.out.keep hb11)
     replace HO := Lib.hid (HO.out.keep hb11)
     clear hb11
     have e0 := HC.out.c0
     have e1 := HC.out.c1
     have Hq : Hid (fq r a b v u = false) := by show _ = _; rw [HQ.out]; rw [d1, d2]; rfl
     have HT9 : Hid (L6 = L ++ fqK r a b v (u + 1)) := by show _ = _; rw [fqK_succ, Hq.out]; simpa using HT6.out
     clear KE KF KG
     go_wp2
     go_roundw
     case rel => exact ⟨u + 1, g6, c6, L6, by omega, by go_num, rfl, HT9, HO, HC, HB⟩
     case measure => (simp [intOf] <;> omega)
end
end Go.Proofs.YtfabbohijhjpcaaGreatDoor
