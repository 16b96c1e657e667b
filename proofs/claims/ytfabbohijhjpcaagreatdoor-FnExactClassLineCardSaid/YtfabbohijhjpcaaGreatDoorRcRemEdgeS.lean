/-
  Several texts in one.
-/
import Derived.Test.YtfabbohijhjpcaaGreatDoorRcListZ
import Derived.Test.YtfabbohijhjpcaaGreatDoorRcOriS
import Derived.Test.YtfabbohijhjpcaaGreatDoorRcOrnQ
import Derived.Test.YtfabbohijhjpcaaGreatDoorRcGC
/-
-/
namespace Go.Proofs.YtfabbohijhjpcaaGreatDoor
open Go.RowKit
section
variable {A : Option Addr} {m c : Nat} {r : Nat → Nat} {w : World}
set_option maxHeartbeats 1000000 in
theorem HasEdge_sv (h : GV w A m c r) {v u : Nat} (hv : v < m) (hu : u < m) :
 Calls Tryz.prog 278 #[.agg #[.int .i64 m, .slice A m c], .int .i64 v, .int .i64 u] w fun e w' => e = .returned (.bool ((r v).testBit u)) ∧ Below w.heap.size w w' := by
 obtain ⟨t, ht⟩ : ∃ t, t = (r v).testBit u := ⟨_, rfl⟩
 have KE : Hid (∀ z A' c', GV z A' m c' r → Calls Tryz.prog 45 #[.agg #[.int .i64 m, .slice A' m c'], .int .i64 v, .int .i64 u] z fun e w' => e = .returned (.bool t) ∧ Below z.heap.size z w') := fun z A' c' h => by rw [ht]; exact l2Edge_v h hv hu
 rw [← ht]
 clear ht
 have i1 : (v : Int) < (m : Int) := by omega
 have i2 : (u : Int) < (m : Int) := by omega
 obtain ⟨W, hW⟩ : ∃ W : World, W = (w.alloc (Obj.cells #[Value.int IntKind.i64 m, Value.slice A m c] 26)) := ⟨_, rfl⟩
 have HB : Hid (From w W) := by rw [hW]; exact From.alloc _ _
 have HG : Hid (GBox W w.heap.size A m c r) := by rw [hW]; exact h.box
 have HW := Lib.hid hW
 clear hW h
 have e0 := HG.out.c0
 have e1 := HG.out.c1
 go_enter Tryz.func278, Tryz.ntmps278
 go_wp2_with fail
 rw [← HW.out]
 refine (IsGraph_sv HG.out.gv).mono ?_
 rintro e w1 ⟨rfl, hb1⟩
 clear HW
 clear e0 e1
 replace HB := Lib.hid (HB.out.keep hb1)
 replace HG := Lib.hid (HG.out.keep hb1)
 clear hb1
 have e0 := HG.out.c0
 have e1 := HG.out.c1
 go_wp2_with fail
 refine (KE.out _ _ _ HG.out.gv).mono ?_
 rintro e w2 ⟨rfl, hb2⟩
 clear e0 e1
 replace HB := Lib.hid (HB.out.keep hb2)
 replace HG := Lib.hid (HG.out.keep hb2)
 clear hb2
 have e0 := HG.out.c0
 have e1 := HG.out.c1
 go_wp2
 go_ret
 exact ⟨rfl, HB.out.below⟩
end
end Go.Proofs.YtfabbohijhjpcaaGreatDoor

/-
-/
namespace Go.Proofs.YtfabbohijhjpcaaGreatDoor
open Go.RowKit
section
variable {A : Option Addr} {m c : Nat} {r : Nat → Nat} {w : World}
set_option maxRecDepth 100000 in
set_option maxHeartbeats 6400000 in
theorem ForcedArcs_v (h : GV w A m c r) {a b : Nat} (ha : a < m) (hb : b < m) (hab : (r a).testBit b = true) :
 Calls Tryz.prog 197 #[.agg #[.int .i64 m, .slice A m c], .int .i64 (a : Int), .int .i64 (b : Int)] w fun e w' => ∃ (g c' : Nat), e = .returned (.slice (some ⟨g, 0, none⟩) (fcO r m a b).length c') ∧ OB (fun _ => True) w.heap.size w' g c' (fcO r m a b) ∧ Below w.heap.size w w' := by
 have hm7 := h.vg.n7
 have hm1 := h.vg.n1
 have HV := Lib.hid h.vg
 have HGw := Lib.hid h
 obtain ⟨W, hW⟩ : ∃ W : World, W = (w.alloc (Obj.cells #[Value.int IntKind.i64 m, Value.slice A m c] 26)) := ⟨_, rfl⟩
 have HB : Hid (From w W) := by rw [hW]; exact From.alloc _ _
 have HC : Hid (GC W w.heap.size m A m c) := by rw [hW]; exact GC.new _ _ _ _ _
 have KE : Hid (∀ z : World, From w z → Calls Tryz.prog 278 #[.agg #[.int .i64 m, .slice A m c], .int .i64 (a : Int), .int .i64 (b : Int)] z fun e w' => e = .returned (.bool true) ∧ Below z.heap.size z w') := fun z hz => by
  have := HasEdge_sv (HGw.out.keep hz.below) ha hb
  rwa [hab] at this
 have HW := Lib.hid hW
 clear hW h
 go_enter Tryz.func197, Tryz.ntmps197
 have e0 := HC.out.c0
 have e1 := HC.out.c1
 go_wp2_with fail
 rw [← HW.out]
 refine (KE.out _ HB.out).mono ?_
 rintro e w1 ⟨rfl, hb1⟩
 clear HW
 clear e0 e1
 replace HB := Lib.hid (HB.out.keep hb1)
 replace HC := Lib.hid (HC.out.keep hb1)
 clear hb1
 have e0 := HC.out.c0
 have e1 := HC.out.c1
 clear KE
 obtain ⟨W2, hW2⟩ : ∃ W2 : World, W2 = ((w1.alloc (Obj.cells #[.int .i64 (a : Int), .int .i64 (b : Int)] 3)).alloc (Obj.cells #[.slice (some ⟨w1.heap.size, 0, none⟩) 2 2] 24)) := ⟨_, rfl⟩
 have hlw : w.heap.size < w1.heap.size := HC.out.lt
 have HO : Hid (OB (fun _ => True) (w.heap.size + 1) W2 (w1.heap.size + 1) 1 (fcI r m a b 0)) := by
  rw [hW2]
  exact OB.one (P := fun _ => True) (lo := w.heap.size + 1) w1 a b (by omega) trivial
 have hbW : Below w1.heap.size w1 W2 := by rw [hW2]; exact bl_alloc ((Below.refl _ _).alloc (Nat.le_refl _) _)
 have HW2 := Lib.hid hW2
 clear e0 e1
 replace HB := Lib.hid (HB.out.keep hbW)
 replace HC := Lib.hid (HC.out.keep hbW)
 clear hbW hW2
 have e0 := HC.out.c0
 have e1 := HC.out.c1
 go_wp2
 rw [← HW2.out]
 clear HW2 hlw
 go_loopw [7, 8] (fun o i wr => ∃ (k gO cO : Nat) (L : List (Nat × Nat)), k ≤ L.length ∧ k ≤ 64 ∧ i = .int .i64 k ∧ o = .slice (some ⟨gO, 0, none⟩) L.length cO ∧ Hid (L = fcI r m a b k) ∧ Hid (OB (fun _ => True) (w.heap.size + 1) wr gO cO L) ∧ Hid (GC wr w.heap.size m A m c) ∧ Hid (From w wr)) (fun _ i _ => 64 - (intOf i).toNat)
 case atStart => exact ⟨0, w1.heap.size + 1, 1, fcI r m a b 0, Nat.zero_le _, Nat.zero_le _, rfl, rfl, rfl, HO, HC, HB⟩
 case round =>
  clear HO HC HB e0 e1
  obtain ⟨k, gO, cO, L, hkL, hk64, rfl, rfl, HT, HO, HC, HB⟩ := hrel
  have hL64 : L.length ≤ 64 := by rw [HT.out]; exact fcI_len HV.out ha hb hab k
  by_cases hlt : k < L.length
  rotate_left
  ·obtain rfl : k = L.length := by omega
   have HE : Hid (L = fcO r m a b) := HT.out.trans (fcO_eq hk64 (by rw [← HT.out]; exact Nat.le_refl _)).symm
   have i1 : (L.length : Int) ≤ (L.length : Int) := Int.le_refl _
   have hlo := HO.out.l
   go_wp2
   go_ret
   rw [← HE.out]
   exact ⟨gO, cO, rfl, ⟨HO.out.ex.imp fun D ⟨h1, h2, h3⟩ => ⟨h1, h2, fun d hd => (h3 d hd).imp fun k ⟨k1, k2, _, k4⟩ => ⟨k1, by omega, trivial, k4⟩⟩, by omega⟩, HB.out.below⟩
  have i1 : (k : Int) < (L.length : Int) := by omega
  have HB' := HB
  have HO' := HO
  obtain ⟨ga, capa, q0, _, hac⟩ := HO.out.oc.arc hlt
  have q1 := hac.c0
  have q2 := hac.c1
  have hcap := hac.le
  obtain ⟨p, hp⟩ : ∃ p, p = L[k] := ⟨_, rfl⟩
  have hpm : p.1 < m ∧ p.2 < m ∧ (r p.1).testBit p.2 = true := by
   rw [hp]
   exact (fcI_arcs HV.out ha hb hab k).2 L[k] (by rw [← HT.out]; exact List.getElem_mem hlt)
  have HT2 : Hid (fcI r m a b (k + 1) = adL L (fnL r m p.1 p.2)) := by
   show _ = _
   rw [HT.out, hp]
   simp only [HT.out]
   exact fcI_go (List.getElem?_eq_getElem _)
  rw [← hp] at q1 q2
  obtain ⟨p1, p2⟩ := p
  obtain ⟨hp1, hp2, _⟩ := hpm
  have e0 := HC.out.c0
  have e1 := HC.out.c1
  have j1 : (1 : Int) < (capa : Int) := by omega
  clear hp hac
  have HSC : Hid (∀ z : World, Below wr.heap.size wr z → (Below wr.heap.size wr z ∧ z.cell? ⟨w.heap.size, 0, none⟩ = some (.int .i64 (m : Nat)) ∧ z.cell? ⟨w.heap.size, 1, none⟩ = some (.slice A m c) ∧ z.cell? ⟨gO, k, none⟩ = some (.slice (some ⟨ga, 0, none⟩) 2 capa) ∧ z.cell? ⟨ga, 0, none⟩ = some (.int .i64 (p1 : Nat)) ∧ z.cell? ⟨ga, 1, none⟩ = some (.int .i64 (p2 : Nat)))) := fun z hz => ⟨hz, up_ hz e0, up_ hz e1, up_ hz q0, up_ hz q1, up_ hz q2⟩
  have HZ0 : Hid (Below wr.heap.size wr wr.drew) := (Below.refl _ _).drew
  have HS1 := Lib.hid (HSC.out _ HZ0.out)
  have KR1 : Hid (∀ z : World, Below wr.heap.size wr z → _) := fun z hz => l13Next_v (HGw.out.keep (HB'.out.below.trans (hz.mono HB'.out.below.size))) hp1 hp2
  go_wp2
  go_region_held3 (fun z => Below wr.heap.size wr z ∧ z.cell? ⟨w.heap.size, 0, none⟩ = some (.int .i64 (m : Nat)) ∧ z.cell? ⟨w.heap.size, 1, none⟩ = some (.slice A m c) ∧ z.cell? ⟨gO, k, none⟩ = some (.slice (some ⟨ga, 0, none⟩) 2 capa) ∧ z.cell? ⟨ga, 0, none⟩ = some (.int .i64 (p1 : Nat)) ∧ z.cell? ⟨ga, 1, none⟩ = some (.int .i64 (p2 : Nat)))
   (first | exact HS1.out | assumption | exact HSC.out _ hz2 | fail)
   (first | (go_at_call 279; ((with_reducible refine (KR1.out _ HZ0.out).mono ?_); rintro e w2 ⟨g5, c5, rfl, ho5, hb2⟩; have hz2 := bl_trans HZ0.out hb2)))
  clear e0 e1
  replace HB := Lib.hid (HB.out.keep hz2)
  replace HC := Lib.hid (HC.out.keep hz2)
  replace HO := Lib.hid (HO.out.keep hz2)
  clear hz2 HSC HZ0 HS1 KR1
  have e0 := HC.out.c0
  have e1 := HC.out.c1
  have hsz : wr.heap.size ≤ w2.heap.size := hb2.size
  have hO5l := ho5.l
  have H5 : Hid (OC wr.heap.size w2.heap.size w2 (some ⟨g5, 0, none⟩) c5 (fnL r m p1 p2)) := ho5.oc
  have hgOw : gO < wr.heap.size := HO'.out.lt
  obtain ⟨F, hF⟩ : ∃ F, F = fnL r m p1 p2 := ⟨_, rfl⟩
  have hF49 : F.length ≤ 49 := by rw [hF]; exact Nat.le_trans (fnT_len HV.out hp1 m) (by omega)
  rw [← hF] at HT2 H5 ⊢
  clear hF ho5 hb2 q0 q1 q2 e0 e1
  go_wp2
  obtain ⟨wo, rfl⟩ : ∃ z : World, z = wr := ⟨_, rfl⟩
  obtain ⟨Z0, hZ0⟩ : ∃ Z, Z = wo.heap.size := ⟨_, rfl⟩
  obtain ⟨Z1, hZ1⟩ : ∃ Z, Z = w2.heap.size := ⟨_, rfl⟩
  have hZ01 : Z0 ≤ Z1 := by omega
  have hwZ0 : w.heap.size + 1 ≤ Z0 := by have := HO.out.l; omega
  have H5Z : Hid (OC Z0 Z1 w2 (some ⟨g5, 0, none⟩) c5 F) := by rw [hZ0, hZ1]; exact H5.out
  clear H5
  go_loopw [7, 10] (fun o i wz => ∃ (j gO cO : Nat) (L6 : List (Nat × Nat)), j ≤ F.length ∧ i = .int .i64 j ∧ o = .slice (some ⟨gO, 0, none⟩) L6.length cO ∧ (gO < Z0 ∨ Z1 ≤ gO) ∧ Z1 ≤ wz.heap.size ∧ Hid (L6 = adL L (F.take j)) ∧ Hid (OB (fun _ => True) (w.heap.size + 1) wz gO cO L6) ∧ Hid (OC Z0 Z1 wz (some ⟨g5, 0, none⟩) c5 F) ∧ Hid (GC wz w.heap.size m A m c) ∧ Hid (From w wz)) (fun _ i _ => F.length - (intOf i).toNat)
  case atStart => exact ⟨0, gO, cO, L, Nat.zero_le _, rfl, rfl, .inl (by omega), by omega, rfl, HO, H5Z, HC, HB⟩
  case round =>
   clear HO H5Z HC HB hgOw HB' HO'
   obtain ⟨j, gO, cO, L6, hjF, rfl, rfl, hcO, hZw, HT6, HO, H5, HC, HB⟩ := hrel
   have hL6 : L6.length ≤ 128 := by
    rw [HT6.out]
    refine Nat.le_trans (adL_len _ _) ?_
    rw [List.length_take]
    omega
   by_cases hjl : j < F.length
   rotate_left
   ·obtain rfl : j = F.length := by omega
    have HT8 : Hid (L6 = fcI r m a b (k + 1)) := by show _ = _; rw [HT6.out, HT2.out, List.take_length]
    have i2 : (F.length : Int) ≤ (F.length : Int) := Int.le_refl _
    go_wp2
    go_roundw
    case rel => exact ⟨k + 1, gO, cO, L6, by rw [HT8.out, HT2.out]; exact adL_more hlt, by omega, by go_num, rfl, HT8, HO, HC, HB⟩
    case measure => (simp [intOf] <;> omega)
   have i2 : (j : Int) < (F.length : Int) := by omega
   obtain ⟨gb, capb, q0, ⟨hgb1, hgb2⟩, hac⟩ := H5.out.arc hjl
   obtain ⟨p, hp⟩ : ∃ p, p = F[j] := ⟨_, rfl⟩
   rw [← hp] at hac
   have HA : Hid (AC wr gb capb p) := hac
   have HT7 : Hid (adL L (F.take (j + 1)) = if L6.contains p = true then L6 else L6 ++ [p]) := by show _ = _; rw [adL_take hjl, hp, HT6.out]
   have q1 := hac.c0
   have q2 := hac.c1
   have hcapb := hac.le
   have j2 : (1 : Int) < (capb : Int) := by omega
   have HOr := HO
   have KI : Hid (∀ z : World, Below wr.heap.size wr z → Calls Tryz.prog 198 #[.slice (some ⟨gO, 0, none⟩) L6.length cO, .int .i64 (p.1 : Int), .int .i64 (p.2 : Int)] z fun e w' => e = .returned (.int .i64 (ixL L6 p)) ∧ Below z.heap.size z w') := fun z hz => l13Find_v (a := p.1) (b := p.2) (HOr.out.oc.keep hz) (by omega)
   obtain ⟨z, hz⟩ : ∃ z, z = ixL L6 p := ⟨_, rfl⟩
   have hzd := ixL_neg (L := L6) (p := p)
   rw [← hz] at KI hzd
   clear hz hp hac
   cases hc : L6.contains p
   ·rw [hc] at hzd
    have hz0 : z < 0 := by simpa using hzd
    have HT9 : Hid (L6 ++ [p] = adL L (F.take (j + 1))) := by show _ = _; rw [HT7.out, hc]; rfl
    have HSC : Hid (∀ z : World, Below wr.heap.size wr z → (Below wr.heap.size wr z ∧ z.cell? ⟨gb, 0, none⟩ = some (.int .i64 (p.1 : Nat)) ∧ z.cell? ⟨gb, 1, none⟩ = some (.int .i64 (p.2 : Nat)) ∧ z.cell? ⟨g5, j, none⟩ = some (.slice (some ⟨gb, 0, none⟩) 2 capb))) := fun z hz => ⟨hz, up_ hz q1, up_ hz q2, up_ hz q0⟩
    have HZ0 : Hid (Below wr.heap.size wr wr.drew) := (Below.refl _ _).drew
    have HS1 := Lib.hid (HSC.out _ HZ0.out)
    have KR1 : Hid (∀ z : World, Below wr.heap.size wr z → _) := fun z hz => KI.out z hz
    go_wp2
    go_region_held3 (fun z => Below wr.heap.size wr z ∧ z.cell? ⟨gb, 0, none⟩ = some (.int .i64 (p.1 : Nat)) ∧ z.cell? ⟨gb, 1, none⟩ = some (.int .i64 (p.2 : Nat)) ∧ z.cell? ⟨g5, j, none⟩ = some (.slice (some ⟨gb, 0, none⟩) 2 capb))
     (first | exact HS1.out | assumption | exact HSC.out _ hz3 | fail)
     (first | (go_at_call 198; ((with_reducible refine (KR1.out _ HZ0.out).mono ?_); rintro e w3 ⟨rfl, hb3⟩; have hz3 := bl_trans HZ0.out hb3)))
    replace HB := Lib.hid (HB.out.keep hz3)
    replace HC := Lib.hid (HC.out.keep hz3)
    replace HO := Lib.hid (HO.out.keep hz3)
    replace H5 := Lib.hid (H5.out.keep hz3)
    replace HA := Lib.hid (HA.out.keep hz3)
    clear hz3 HSC HZ0 HS1 KR1
    have hs3 : wr.heap.size ≤ w3.heap.size := hb3.size
    have hbq : Below wr.heap.size wr w3 := ⟨hb3.os, hb3.tape, hb3.output, hb3.size, hb3.block⟩
    have q0' : w3.cell? ⟨g5, j, none⟩ = some (.slice (some ⟨gb, 0, none⟩) 2 capb) := up_ hbq q0
    clear KI q0 q1 q2 hb3 hbq HOr
    have hlo := HO.out.l
    have hgO2 := HO.out.lt
    clear hc hzd HT7
    go_wp2_with (first
     | (at_builtin; (refine wpList_pushO w3 rfl _ _ rfl (fun _ => True) (w.heap.size + 1) gO cO L6 HO.out p gb capb HA.out (by omega) trivial rfl 1 w3.heap.size rfl rfl (by omega) ?_; intro g7 c7 w7 hO7 hg7 hf7)))
    have hs7 := hf7.size
    have HO7 := Lib.hid hO7
    have H57 : Hid (OC Z0 Z1 w7 (some ⟨g5, 0, none⟩) c5 F) := H5.out.keepF hf7 (by omega)
    have HC7 : Hid (GC w7 w.heap.size m A m c) := HC.out.keepF hf7 (.inl (by omega))
    have HB7 : Hid (From w w7) := ⟨HB.out.below.trans (hf7.below (by omega) HB.out.below.size)⟩
    have hx3 : g7 < Z0 ∨ Z1 ≤ g7 := by omega
    have hx5 : Z1 ≤ w7.heap.size := by omega
    clear hO7 hf7 hg7
    go_wp2
    go_roundw
    case rel => exact ⟨j + 1, g7, c7, L6 ++ [p], by omega, by go_num, by rw [List.length_append]; rfl, hx3, hx5, HT9, HO7, H57, HC7, HB7⟩
    case measure => (simp [intOf] <;> omega)
   ·rw [hc] at hzd
    have hz0 : ¬ z < 0 := by simpa using hzd
    have hz2 : decide (z < 0) = false := decide_eq_false hz0
    have HT9 : Hid (L6 = adL L (F.take (j + 1))) := by show _ = _; rw [HT7.out, hc]; rfl
    clear hc hzd HT7
    have HSC : Hid (∀ z : World, Below wr.heap.size wr z → (Below wr.heap.size wr z ∧ z.cell? ⟨gb, 0, none⟩ = some (.int .i64 (p.1 : Nat)) ∧ z.cell? ⟨gb, 1, none⟩ = some (.int .i64 (p.2 : Nat)) ∧ z.cell? ⟨g5, j, none⟩ = some (.slice (some ⟨gb, 0, none⟩) 2 capb))) := fun z hz => ⟨hz, up_ hz q1, up_ hz q2, up_ hz q0⟩
    have HZ0 : Hid (Below wr.heap.size wr wr.drew) := (Below.refl _ _).drew
    have HS1 := Lib.hid (HSC.out _ HZ0.out)
    have KR1 : Hid (∀ z : World, Below wr.heap.size wr z → _) := fun z hz => KI.out z hz
    go_wp2
    go_region_held3 (fun z => Below wr.heap.size wr z ∧ z.cell? ⟨gb, 0, none⟩ = some (.int .i64 (p.1 : Nat)) ∧ z.cell? ⟨gb, 1, none⟩ = some (.int .i64 (p.2 : Nat)) ∧ z.cell? ⟨g5, j, none⟩ = some (.slice (some ⟨gb, 0, none⟩) 2 capb))
     (first | exact HS1.out | assumption | exact HSC.out _ hz4 | fail)
     (first | (go_at_call 198; ((with_reducible refine (KR1.out _ HZ0.out).mono ?_); rintro e w4 ⟨rfl, hb4⟩; have hz4 := bl_trans HZ0.out hb4)))
    replace HB := Lib.hid (HB.out.keep hz4)
    replace HC := Lib.hid (HC.out.keep hz4)
    replace HO := Lib.hid (HO.out.keep hz4)
    replace H5 := Lib.hid (H5.out.keep hz4)
    replace HA := Lib.hid (HA.out.keep hz4)
    clear hz4 HSC HZ0 HS1 KR1
    have hs4 : wr.heap.size ≤ w4.heap.size := hb4.size
    have hbq : Below wr.heap.size wr w4 := ⟨hb4.os, hb4.tape, hb4.output, hb4.size, hb4.block⟩
    have q0' : w4.cell? ⟨g5, j, none⟩ = some (.slice (some ⟨gb, 0, none⟩) 2 capb) := up_ hbq q0
    clear KI q0 q1 q2 hb4 hbq HOr
    clear HA
    go_wp2
    go_roundw
    case rel => exact ⟨j + 1, gO, cO, L6, by omega, by go_num, rfl, hcO, by omega, HT9, HO, H5, HC, HB⟩
    case measure => (simp [intOf] <;> omega)
end
end Go.Proofs.YtfabbohijhjpcaaGreatDoor

/-
-/
namespace Go.Proofs.YtfabbohijhjpcaaGreatDoor
open Go.RowKit
set_option maxRecDepth 100000 in
set_option maxHeartbeats 1600000 in
theorem RemoveEdge_s (sz : Int) (A : Option Addr) (m c : Nat) (x : Nat → Int) (v u : Int) (w : World) (B : Nat) (h : Rd w B A m c x) (hB : B ≤ w.heap.size) (hm : m ≤ 1048576) :
 Calls Tryz.prog 92 #[.agg #[.int .i64 sz, .slice A m c], .int .i64 v, .int .i64 u] w fun e w' => ∃ A' c', e = .returned (.tuple #[.agg #[.int .i64 sz, .slice A' m c'], .bool (reB sz m x v u)]) ∧ Own w' (w.heap.size + 2) w'.heap.size 3 1 A' m c' (fun j => .int .i64 (reX sz m x v u j)) ∧ Below w.heap.size w w' := by
 obtain ⟨W, hW⟩ : ∃ W : World, W = ((w.alloc (Obj.cells #[Value.int IntKind.i64 sz, Value.slice A m c] 26)).alloc (Obj.cells #[Value.int IntKind.i64 0, Value.slice none 0 0] 26)) := ⟨_, rfl⟩
 have HB : Hid (Below w.heap.size w W) := by rw [hW]; exact ((Below.refl _ _).alloc (Nat.le_refl _) _).alloc (by simp) _
 have HZ : Hid (w.heap.size + 2 = W.heap.size) := by rw [hW]; simp [Hid]
 have e0 : W.cell? ⟨w.heap.size, 0, none⟩ = some (.int .i64 sz) := by rw [hW]; simp [go_sem]
 have e1 : W.cell? ⟨w.heap.size, 1, none⟩ = some (.slice A m c) := by rw [hW]; simp [go_sem]
 have e2 : W.cell? ⟨w.heap.size + 1, 0, none⟩ = some (.int .i64 0) := by rw [hW]; simp [go_sem]
 have e3 : W.cell? ⟨w.heap.size + 1, 1, none⟩ = some (.slice none 0 0) := by rw [hW]; simp [go_sem]
 have e4 : W.frozen? ⟨w.heap.size + 1, 0, none⟩ = false := by rw [hW]; simp [go_sem]
 have e5 : W.frozen? ⟨w.heap.size + 1, 1, none⟩ = false := by rw [hW]; simp [go_sem]
 have HK := Lib.hid (h.keep (HB.out.mono hB) (Nat.le_refl _))
 have HW := Lib.hid hW
 clear hW h
 go_enter Tryz.func92, Tryz.ntmps92
 go_wp2_with fail
 rw [← HW.out]
 refine (l2Copy_any sz A m c x W B HK.out (by have := HZ.out; omega) hm).mono ?_
 rintro e w1 ⟨A', c', rfl, hO, hb1⟩
 have f0 := up hb1 e0 (by have := HZ.out; omega)
 have f1 := up hb1 e1 (by have := HZ.out; omega)
 have f2 := up hb1 e2 (by have := HZ.out; omega)
 have f3 := up hb1 e3 (by have := HZ.out; omega)
 have f4 := upf hb1 e4 (by have := HZ.out; omega)
 have f5 := upf hb1 e5 (by have := HZ.out; omega)
 have z1 := hb1.size
 have zz0 : w.heap.size < w1.heap.size := by have := HZ.out; omega
 have zz1 : w.heap.size + 1 < w1.heap.size := by have := HZ.out; omega
 have HO1 := Lib.hid hO
 have HB1 := Lib.hid hb1
 obtain ⟨W2, hW2⟩ : ∃ W2 : World, W2 = (w1.alloc (Obj.cells #[Value.int IntKind.i64 sz, Value.slice A' m c'] 26)) := ⟨_, rfl⟩
 have hb2 : Below w1.heap.size w1 W2 := by rw [hW2]; exact ((Below.refl _ _).alloc (Nat.le_refl _) _)
 have z2 : w1.heap.size < W2.heap.size := by rw [hW2]; simp
 have g0 := up hb2 f0 zz0
 have g1 := up hb2 f1 zz0
 have g2 := up hb2 f2 zz1
 have g3 := up hb2 f3 zz1
 have g4 := upf hb2 f4 zz1
 have g5 := upf hb2 f5 zz1
 have g6 : W2.cell? ⟨w1.heap.size, 0, none⟩ = some (.int .i64 sz) := by rw [hW2]; simp [go_sem]
 have g7 : W2.cell? ⟨w1.heap.size, 1, none⟩ = some (.slice A' m c') := by rw [hW2]; simp [go_sem]
 have HB2 := Lib.hid hb2
 have HW2 := Lib.hid hW2
 have HK2 : Hid (Rd W2 W2.heap.size A m c x) := HK.out.keep ((HB1.out.trans (HB2.out.mono z1)).mono (by have := HZ.out; omega)) (by have := HZ.out; omega)
 have HO2 : Hid (Own W2 (W.heap.size + 2) w1.heap.size 3 1 A' m c' (fun j => .int .i64 (x j))) := HO1.out.keepB HB2.out (Nat.le_refl _)
 clear hO hb1 HW e0 e1 e2 e3 e4 e5 hb2 hW2
 go_wp2_with fail
 rw [← HW2.out]
 clear HW2 f0 f1 f2 f3 f4 f5
 refine (l2Pair_any sz A m c x v u W2 W2.heap.size HK2.out (Nat.le_refl _) hm).mono ?_
 rintro e w3 ⟨rfl, hb3⟩
 have z3 := hb3.size
 have yy0 : w.heap.size < W2.heap.size := by omega
 have yy1 : w.heap.size + 1 < W2.heap.size := by omega
 have i0 := up hb3 g0 yy0
 have i1 := up hb3 g1 yy0
 have i2 := up hb3 g2 yy1
 have i3 := up hb3 g3 yy1
 have i4 := upf hb3 g4 yy1
 have i5 := upf hb3 g5 yy1
 have i6 := up hb3 g6 z2
 have i7 := up hb3 g7 z2
 have HO3 : Hid (Own w3 (W.heap.size + 2) w1.heap.size 3 1 A' m c' (fun j => .int .i64 (x j))) := HO2.out.keepB hb3 (by omega)
 have HK3 : Hid (Rd w3 w3.heap.size A m c x) := HK2.out.keep hb3 z3
 have HB3 : Hid (Below w.heap.size w w3) := HB.out.trans ((HB1.out.trans ((HB2.out.trans (hb3.mono (by omega))).mono z1)).mono (by have := HZ.out; omega))
 have xx0 : w.heap.size < w3.heap.size := by omega
 have xx1 : w.heap.size + 1 < w3.heap.size := by omega
 have xx2 : w1.heap.size < w3.heap.size := by omega
 clear g0 g1 g2 g3 g4 g5 g6 g7 hb3 HO1 HO2 HK HK2 HB1 HB2 HB yy0 yy1
 obtain ⟨t, ht⟩ : ∃ t, t = prB sz m x v u := ⟨_, rfl⟩
 rw [← ht]
 have Ht := Lib.hid ht
 clear ht
 cases t
 ·have hno : Hid (reB sz m x v u = false) := by
   show _ = _
   cases hb : reB sz m x v u
   ·rfl
   ·obtain ⟨ho, ⟨h1, h2, h3, h4, h5⟩, h6⟩ := reB_parts hb
    have := Ht.out
    unfold prB at this
    rw [ho, decide_eq_true (⟨h1, h3, h2, h4, h5⟩ : 0 ≤ v ∧ 0 ≤ u ∧ v < sz ∧ u < sz ∧ v ≠ u)] at this
    cases this
  clear Ht
  go_wp2
  have F : Fr (w.heap.size + 1) (w.heap.size + 2) w3 _ := ((Fr.refl _ _ w3).setCell (p := ⟨w.heap.size + 1, 0, none⟩) (Nat.le_refl _) (Nat.lt_succ_self _) (Value.int IntKind.i64 sz)).setCell (p := ⟨w.heap.size + 1, 1, none⟩) (Nat.le_refl _) (Nat.lt_succ_self _) (Value.slice A' m c')
  have O1 := ((HO3.out.keep F (.inr (by have := HZ.out; omega))).mono (lo' := w.heap.size + 2) (by have := HZ.out; omega) (Nat.le_trans (by omega) F.size))
  exact bodyPost_ret (v := .tuple #[.agg #[.int .i64 sz, .slice A' m c'], .bool false]) (by simp [results, Tryz.results92, go_sem, *]) rfl ⟨A', c', by rw [hno.out], O1.congr (fun j hj => by rw [reX_no hno.out]), HB3.out.trans (F.below (by omega) (by omega))⟩
 ·have Hok : Hid (okB sz m x = true) := by
   show _ = _
   have := Ht.out
   unfold prB at this
   cases ho : okB sz m x
   ·rw [ho] at this; cases this
   ·rfl
  obtain ⟨h1, h3, h2, h4, h5⟩ : 0 ≤ v ∧ 0 ≤ u ∧ v < sz ∧ u < sz ∧ v ≠ u := by
   have := Ht.out
   unfold prB at this
   rw [Hok.out] at this
   simpa using this
  obtain ⟨n, rfl⟩ := Int.eq_ofNat_of_zero_le h1
  obtain ⟨k, rfl⟩ := Int.eq_ofNat_of_zero_le h3
  obtain ⟨r, es, vg, hx⟩ := okB_ok' Hok.out
  subst es
  have hn1 := vg.n1
  have hn7 := vg.n7
  have HX := Lib.hid hx
  have HV := Lib.hid vg
  have Hne : Hid (n ≠ k) := by show n ≠ k; omega
  obtain ⟨b, o, rfl, hb, hc⟩ := HK3.out.pos (by omega)
  have q0 := hc n (by omega)
  have q1 : 0 ≤ x n := by have := HX.out n (by omega); omega
  have q2 : x n < 16777216 := by have := HX.out n (by omega); have := HV.out.lt128 (v := n) (by omega); omega
  clear hx vg hc Ht h5
  go_wp2_with fail
  refine (l2Edge_any (m : Int) b o m c w3 n k (x n) q0 hb (by omega) q1 q2 (by omega)).mono ?_
  rintro e w4 ⟨rfl, hb4⟩
  have z4 := hb4.size
  have j2 := up hb4 i2 xx1
  have j3 := up hb4 i3 xx1
  have j4 := upf hb4 i4 xx1
  have j5 := upf hb4 i5 xx1
  have j6 := up hb4 i6 xx2
  have j7 := up hb4 i7 xx2
  have HO4 : Hid (Own w4 (W.heap.size + 2) w1.heap.size 3 1 A' m c' (fun j => .int .i64 (x j))) := HO3.out.keepB hb4 (by omega)
  have HB4 : Hid (Below w.heap.size w w4) := HB3.out.trans (hb4.mono (by omega))
  have ww1 : w.heap.size + 1 < w4.heap.size := by omega
  have ww2 : w1.heap.size < w4.heap.size := by omega
  clear i0 i1 i2 i3 i4 i5 i6 i7 HO3 HB3 HK3 hb4 q0 hb
  by_cases ht : (x n).toNat.testBit k = true
  ·rw [ht]
   have hyes : Hid (reB (m : Int) m x n k = true) := by
    show _ = _
    unfold reB
    rw [Hok.out, decide_eq_true (⟨by omega, by omega, by omega, by omega, by have := Hne.out; omega⟩ : 0 ≤ (n : Int) ∧ (n : Int) < m ∧ 0 ≤ (k : Int) ∧ (k : Int) < m ∧ (n : Int) ≠ k)]
    simp [ht]
   have ht1 : (r n).testBit k = true := by rw [HX.out n (by omega), Int.toNat_natCast] at ht; exact ht
   have ht2 : (r k).testBit n = true := by rw [← HV.out.sym n k (by omega) (by omega)]; exact ht1
   have hx128 : ∀ j, j < m → r j < 128 := fun j hj => HV.out.lt128 hj
   obtain ⟨g, rfl, hg1, hg2, hOc⟩ := HO4.out.only (by omega)
   have HO5 : Hid (Own w4 g (g + 1) 3 1 (some ⟨g, 0, none⟩) m c' (fun j => .int .i64 (r j : Int))) := hOc.congr (fun j hj => by rw [HX.out j (by omega)])
   obtain ⟨g', e1, _, _, hg3, hcg, hfg⟩ := HO5.out.at_ (by omega)
   simp only [Option.some.injEq, Addr.mk.injEq, and_true] at e1
   subst e1
   have c1 := hcg n (by omega)
   have c2 := hcg k (by omega)
   have s1 : wrap64 ((r n : Int) - 2 ^ k) = ((r n ^^^ 2 ^ k : Nat) : Int) := by
    obtain ⟨e, e0⟩ := sub_pow_bit ht1
    have h2 := two_pow_int k (by omega)
    have h3 := hx128 n (by omega)
    rw [← e]
    have e2 : ((r n - 2 ^ k : Nat) : Int) = (r n : Int) - 2 ^ k := by rw [Int.ofNat_sub e0]; simp
    rw [e2]
    have e4 : ((2 ^ k : Nat) : Int) ≤ (r n : Int) := Int.ofNat_le.2 e0
    have e3 : ((2 ^ k : Nat) : Int) = 2 ^ k := by simp
    exact Go.IntWalk.wrap64_in ((r n : Int) - 2 ^ k) (by omega)
   have s2 : wrap64 ((r k : Int) - 2 ^ n) = ((r k ^^^ 2 ^ n : Nat) : Int) := by
    obtain ⟨e, e0⟩ := sub_pow_bit ht2
    have h2 := two_pow_int n (by omega)
    have h3 := hx128 k (by omega)
    rw [← e]
    have e2 : ((r k - 2 ^ n : Nat) : Int) = (r k : Int) - 2 ^ n := by rw [Int.ofNat_sub e0]; simp
    rw [e2]
    have e4 : ((2 ^ n : Nat) : Int) ≤ (r k : Int) := Int.ofNat_le.2 e0
    have e3 : ((2 ^ n : Nat) : Int) = 2 ^ n := by simp
    exact Go.IntWalk.wrap64_in ((r k : Int) - 2 ^ n) (by omega)
   have f1 := hfg n
   have f2 := hfg k
   have p1 := pow_shl n (by omega)
   have p2 := pow_shl k (by omega)
   have i1 : (n : Int) < (m : Int) := by omega
   have i2 : (k : Int) < (m : Int) := by omega
   have HX128 := Lib.hid hx128
   have HXK : Hid (∀ j, j < m → x j = (r j : Int)) := HX.out
   clear HO4 hOc hcg hfg HX HV hx128 ht ht1 ht2 q1 q2
   go_wp2
   go_region
   have hgn : g ≠ w1.heap.size := by omega
   have hgm : g ≠ w.heap.size + 1 := by have := HZ.out; omega
   have hne2 : (k = n) = False := by have := Hne.out; simp; omega
   have hne3 : (n = k) = False := by have := Hne.out; simp; omega
   go_wp2
   go_region
   obtain ⟨W5, hW5⟩ : ∃ W5 : World, W5 = ((w4.setCell ⟨g, n, none⟩ (.int .i64 ((r n ^^^ 2 ^ k : Nat) : Int))).setCell ⟨g, k, none⟩ (.int .i64 ((r k ^^^ 2 ^ n : Nat) : Int))).drew.drew := ⟨_, rfl⟩
   have O5 : Hid (Own W5 g (g + 1) 3 1 (some ⟨g, 0, none⟩) m c' (fun j => .int .i64 (addN r n k j))) := by
    rw [hW5]
    refine ((((HO5.out.set_ n _).set_ k _).drew).drew).congr (fun j hj => ?_)
    have hne := Hne.out
    unfold addN
    by_cases h1 : j = k
    ·subst h1; rw [if_pos rfl, if_neg (fun e => hne e.symm), if_pos rfl]
    ·rw [if_neg h1]
     by_cases h2 : j = n
     ·subst h2; rw [if_pos rfl, if_pos rfl]
     ·rw [if_neg h2, if_neg h2, if_neg h1]
   have F5 : Fr g (g + 1) w4 W5 := by rw [hW5]; exact (((Fr.refl _ _ w4).setCell (p := ⟨g, n, none⟩) (Nat.le_refl _) (Nat.lt_succ_self _) _).setCell (p := ⟨g, k, none⟩) (Nat.le_refl _) (Nat.lt_succ_self _) _).drew.drew
   have hgl : g < w1.heap.size := hg2
   have hgh : w.heap.size + 2 ≤ g := by have := HZ.out; omega
   have l2 := frC F5 j2 ww1 (by omega)
   have l3 := frC F5 j3 ww1 (by omega)
   have l4 := frZ F5 j4 ww1 (by omega)
   have l5 := frZ F5 j5 ww1 (by omega)
   have l6 := frC F5 j6 ww2 (by omega)
   have l7 := frC F5 j7 ww2 (by omega)
   have z5 := F5.size
   have HB5 : Hid (Below w.heap.size w W5) := HB4.out.trans (F5.below (by omega) (by omega))
   rw [← hW5]
   have HXr : Hid (∀ j, j < m → reX (m : Int) m x n k j = (addN r n k j : Int)) := by
    intro j hj
    unfold reX
    rw [hyes.out]
    simp only [if_true]
    unfold addN
    simp only [Int.toNat_natCast, HXK.out j hj]
   clear hW5 F5 j2 j3 j4 j5 j6 j7 c1 c2 s1 s2 f1 f2 p1 p2 HB4 HO5 hne2 hne3 hgn hgm
   go_wp2
   have F : Fr (w.heap.size + 1) (w.heap.size + 2) W5 _ := ((Fr.refl _ _ W5).setCell (p := ⟨w.heap.size + 1, 0, none⟩) (Nat.le_refl _) (Nat.lt_succ_self _) (Value.int IntKind.i64 m)).setCell (p := ⟨w.heap.size + 1, 1, none⟩) (Nat.le_refl _) (Nat.lt_succ_self _) (Value.slice (some ⟨g, 0, none⟩) m c')
   have O1 := ((O5.out.keep F (.inr hgh)).mono (lo' := w.heap.size + 2) hgh (Nat.le_trans (by omega) F.size))
   exact bodyPost_ret (v := .tuple #[.agg #[.int .i64 m, .slice (some ⟨g, 0, none⟩) m c'], .bool true]) (by simp [results, Tryz.results92, go_sem, *]) rfl ⟨some ⟨g, 0, none⟩, c', by rw [hyes.out], O1.congr (fun j hj => by rw [HXr.out j (by omega)]), HB5.out.trans (F.below (by omega) (by omega))⟩
  ·rw [Bool.not_eq_true] at ht
   rw [ht]
   have hno : Hid (reB (m : Int) m x n k = false) := by
    show _ = _
    cases hb : reB (m : Int) m x n k
    ·rfl
    ·have := (reB_parts hb).2.2; simp [ht] at this
   clear ht
   go_wp2
   have F : Fr (w.heap.size + 1) (w.heap.size + 2) w4 _ := ((Fr.refl _ _ w4).setCell (p := ⟨w.heap.size + 1, 0, none⟩) (Nat.le_refl _) (Nat.lt_succ_self _) (Value.int IntKind.i64 m)).setCell (p := ⟨w.heap.size + 1, 1, none⟩) (Nat.le_refl _) (Nat.lt_succ_self _) (Value.slice A' m c')
   have O1 := ((HO4.out.keep F (.inr (by have := HZ.out; omega))).mono (lo' := w.heap.size + 2) (by have := HZ.out; omega) (Nat.le_trans (by omega) F.size))
   exact bodyPost_ret (v := .tuple #[.agg #[.int .i64 m, .slice A' m c'], .bool false]) (by simp [results, Tryz.results92, go_sem, *]) rfl ⟨A', c', by rw [hno.out], O1.congr (fun j hj => by rw [reX_no hno.out]), HB4.out.trans (F.below (by omega) (by omega))⟩
end Go.Proofs.YtfabbohijhjpcaaGreatDoor
