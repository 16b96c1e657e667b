/-
-/
import Derived.Test.YtfabbohijhjpcaaGreatDoorRcOrnQ
import Derived.Test.YtfabbohijhjpcaaGreatDoorRcRemEdgeS
import Derived.Test.YtfabbohijhjpcaaGreatDoorRcAntI
import Derived.Test.YtfabbohijhjpcaaGreatDoorRcGB
import Derived.BigRegion
namespace Go.Proofs.YtfabbohijhjpcaaGreatDoor
open Go.RowKit
section
variable {A : Option Addr} {m c : Nat} {r : Nat → Nat} {w : World}
theorem otF_fuel {f k : Nat} (h : k < f) : ∃ g, f = g + 1 := ⟨f - 1, by omega⟩
set_option maxRecDepth 100000 in
set_option maxHeartbeats 6400000 in
theorem OrientationOf_sv (h : GV w A m c r) :
 Calls Tryz.prog 132 #[.agg #[.int .i64 m, .slice A m c]] w (orQ w m (otO r m)) := by
 have hm7 := h.vg.n7
 have hm1 := h.vg.n1
 have HV := Lib.hid h.vg
 have HGw := Lib.hid h
 obtain ⟨W, hW⟩ : ∃ W : World, W = ((w.alloc (Obj.cells #[Value.int IntKind.i64 m, Value.slice A m c] 26)).alloc (Obj.cells #[Value.slice none 0 0] 115)) := ⟨_, rfl⟩
 have HB : Hid (From w W) := by rw [hW]; exact (From.alloc _ _).alloc_ _
 have HC : Hid (GC W w.heap.size m A m c) := by rw [hW]; exact (GC.new _ _ _ _ _).keep ((Below.refl _ _).alloc (Nat.le_refl _) _)
 have HZ : Hid (QB W (w.heap.size + 1) (.slice none 0 0)) := by rw [hW]; constructor <;> simp [go_sem]
 have HW := Lib.hid hW
 clear hW h
 go_enter Tryz.func132, Tryz.ntmps132
 have e0 := HC.out.c0
 have e1 := HC.out.c1
 go_wp2_with fail
 rw [← HW.out]
 refine (IsGraph_sv (HGw.out.keep HB.out.below)).mono ?_
 rintro e w1 ⟨rfl, hb1⟩
 clear HW
 clear e0 e1
 replace HB := Lib.hid (HB.out.keep hb1)
 replace HC := Lib.hid (HC.out.keep hb1)
 replace HZ := Lib.hid (HZ.out.keep hb1)
 clear hb1
 have e0 := HC.out.c0
 have e1 := HC.out.c1
 obtain ⟨W4, hmk, hO4, hb4⟩ := made_own w1 m (by omega)
 have HT : Hid (RW W4 w1.heap.size m m (fun _ => 0)) := ⟨hO4.congr (fun j _ => rfl), by omega⟩
 have hzw : w.heap.size + 1 < w1.heap.size := HZ.out.lt
 have hz4 : w1.heap.size < W4.heap.size := HT.out.lt
 obtain ⟨W5, hW5⟩ : ∃ W5 : World, W5 = (W4.alloc (Obj.cells #[Value.slice (some ⟨w1.heap.size, 0, none⟩) m m] 115)) := ⟨_, rfl⟩
 have hb5 : Below W4.heap.size W4 W5 := by rw [hW5]; exact (Below.refl _ _).alloc (Nat.le_refl _) _
 have HO : Hid (QB W5 W4.heap.size (.slice (some ⟨w1.heap.size, 0, none⟩) m m)) := by rw [hW5]; constructor <;> simp [go_sem]
 have HT5 : Hid (RW W5 w1.heap.size m m (fun _ => 0)) := HT.out.keep hb5
 have HZ5 : Hid (QB W5 (w.heap.size + 1) (.slice none 0 0)) := (HZ.out.keep hb4).keep hb5
 have HC5 : Hid (GC W5 w.heap.size m A m c) := (HC.out.keep hb4).keep hb5
 have HB5 : Hid (From w W5) := (HB.out.keep hb4).keep hb5
 have hz5 : W4.heap.size < W5.heap.size := HO.out.lt
 have d0 := (HC.out.keep hb4).c0
 have d1 := (HC.out.keep hb4).c1
 have hz6 : w.heap.size < W4.heap.size := by omega
 have HW5 := Lib.hid hW5
 clear hO4 hb4 hW5 hb5 HT HB HC HZ
 go_wp2_with fail
 rw [← HW5.out]
 clear HW5 hmk e0 e1 d0 d1 hz6
 refine (l2Copy_any (m : Int) A m c (fun v => (r v : Int)) W5 W5.heap.size (HGw.out.keep HB5.out.below).rd (Nat.le_refl _) (by omega)).mono ?_
 rintro e w6 ⟨A6, c6, rfl, ho6, hb6⟩
 obtain ⟨gl, rfl, hgl, _, hR6⟩ := RW.of ho6 (by omega)
 obtain ⟨W7, hW7⟩ : ∃ W7 : World, W7 = (w6.alloc (Obj.cells #[Value.int IntKind.i64 m, Value.slice (some ⟨gl, 0, none⟩) m c6] 26)) := ⟨_, rfl⟩
 have hb7 : Below w6.heap.size w6 W7 := by rw [hW7]; exact (Below.refl _ _).alloc (Nat.le_refl _) _
 have hgl6 := hR6.lt
 have hs6 := hb6.size
 have HS : Hid (OSt w W7 m w1.heap.size gl c6 W4.heap.size w6.heap.size (w.heap.size + 1) r (fun _ => 0)) :=
  ⟨(HB5.out.keep hb6).keep hb7, by rw [hW7]; exact GC.new _ _ _ _ _, hR6.keep hb7, (HT5.out.keep hb6).keep hb7, (HO.out.keep hb6).keep hb7, (HZ5.out.keep hb6).keep hb7, by omega⟩
 obtain ⟨go, hgo⟩ : ∃ go, go = w1.heap.size := ⟨_, rfl⟩
 obtain ⟨q4, hq4⟩ : ∃ q4, q4 = W4.heap.size := ⟨_, rfl⟩
 obtain ⟨q5, hq5⟩ : ∃ q5, q5 = w6.heap.size := ⟨_, rfl⟩
 obtain ⟨qz, hqz⟩ : ∃ qz, qz = w.heap.size + 1 := ⟨_, rfl⟩
 have HW7 := Lib.hid hW7
 clear hW7 hb7 hb6 ho6 hR6 HB5 HT5 HO HZ5 HC5
 go_wp2
 rw [← HW7.out]
 rw [← hgo, ← hq4, ← hq5, ← hqz] at HS
 rw [← hgo, ← hq4, ← hq5, ← hqz]
 clear HW7 hgo hq4 hq5 hqz hzw hz4 hz5 hgl hgl6 hs6
 go_loopw [6] (fun _ wr => ∃ (gl cl f : Nat) (rr tt : Nat → Nat), (edN rr m).length < f ∧ Hid (otF m f rr tt = otO r m) ∧ Hid (VG m rr) ∧ Hid (tIn m r tt) ∧ Hid (∀ i j, (rr i).testBit j = true → (r i).testBit j = true) ∧ Hid (OSt w wr m go gl cl q4 q5 qz rr tt)) (fun _ wr => mE m q5 wr)
 case atStart => exact ⟨gl, c6, 22, r, fun _ => 0, by have := edN_len (r := r) hm7; omega, rfl, HV, (fun v _ u hu => by rw [Nat.zero_testBit] at hu; cases hu), (fun _ _ h => h), HS⟩
 case round =>
  clear HS
  obtain ⟨gl, cl, f, rr, tt, hf, HF, HVr, HTI, HSub, HS⟩ := hrel
  obtain ⟨f, rfl⟩ := otF_fuel hf
  have HS0 := HS
  obtain ⟨wo, hwo⟩ : ∃ z : World, z = wr := ⟨_, rfl⟩
  rw [← hwo] at HS0
  have HWO := Lib.hid hwo
  clear hwo
  have e0 := HS.out.L.c0
  have e1 := HS.out.L.c1
  have KG : Hid (∀ z : World, Below wr.heap.size wr z → GV z (some ⟨gl, 0, none⟩) m cl rr) := fun z hz => (HS0.out.R.gv HVr.out).keep (by rw [HWO.out]; exact hz)
  have HB0 : Hid (Below wr.heap.size wr wr) := Below.refl _ _
  obtain ⟨n, hn⟩ : ∃ n, n = (edN rr m).length := ⟨_, rfl⟩
  have hn21 : n ≤ 21 := by rw [hn]; exact edN_len hm7
  have HN := Lib.hid hn
  clear hn
  have KE : Hid (∀ z : World, Below wr.heap.size wr z → Calls Tryz.prog 95 #[.agg #[.int .i64 m, .slice (some ⟨gl, 0, none⟩) m cl]] z fun e w' => ∃ A' c', e = .returned (.slice A' n c') ∧ OC z.heap.size w'.heap.size w' A' c' (edN rr m) ∧ Below z.heap.size z w') := fun z hz => by rw [HN.out]; exact EdgesOf_sv (KG.out z hz)
  cases he : edN rr m with
  | nil =>
    have h0 : n = 0 := by rw [HN.out, he]; rfl
    subst h0
    have HE : Hid (otO r m = some tt) := by show _ = _; rw [← HF.out]; exact otF_nil he
    clear he
    go_wp2_with fail
    refine (KE.out _ HB0.out).mono ?_
    rintro e w2 ⟨A8, c8, rfl, _, hb2⟩
    clear e0 e1
    replace HS := Lib.hid (HS.out.keep hb2)
    clear hb2
    have e0 := HS.out.L.c0
    have e1 := HS.out.L.c1
    have z0 := HS.out.Z.c
    have z1 := HS.out.Z.f
    have z2 := HS.out.O.c
    go_wp2
    exact bodyPost_ret (v := .tuple #[.agg #[.slice (some ⟨go, 0, none⟩) m m], .bool true]) (by simp [results, Tryz.results132, go_sem, *]) rfl (by rw [HE.out]; exact HS.out.done)
  | cons p l =>
    have hpm : p ∈ edN rr m := by rw [he]; exact List.mem_cons_self
    obtain ⟨⟨hp12, hp2⟩, hpb⟩ := mem_edN.1 hpm
    have hp1 : p.1 < m := by omega
    have hn0 : 0 < n := by rw [HN.out, he]; simp
    have i1 : (0 : Int) < (n : Int) := by omega
    obtain ⟨k1, k2, k3⟩ := fcO_arcs HVr.out hpm
    have HE0 : Hid ((edN rr m)[0]? = some p) := by show _ = _; rw [he]; rfl
    have HL3 := Lib.hid k3
    have HL2 := Lib.hid k2
    have HHe := Lib.hid he
    have HPM := Lib.hid hpm
    clear k1 k2 k3 he
    go_wp2_with fail
    refine (KE.out _ HB0.out).mono ?_
    rintro e x2 ⟨A8, c8, rfl, _, hb8⟩
    have HB2 : Hid (Below wr.heap.size wr x2) := hb8
    clear e0 e1
    replace HS := Lib.hid (HS.out.keep hb8)
    clear hb8
    have e0 := HS.out.L.c0
    have e1 := HS.out.L.c1
    go_wp2_with fail
    refine (KE.out _ HB2.out).mono ?_
    rintro e x3 ⟨A9, c9, rfl, ho9, hb9⟩
    have HB3 : Hid (Below wr.heap.size wr x3) := bl_trans HB2.out hb9
    clear e0 e1
    replace HS := Lib.hid (HS.out.keep hb9)
    clear hb9
    have e0 := HS.out.L.c0
    have e1 := HS.out.L.c1
    obtain ⟨b9, rfl⟩ := ho9.addr (by rw [← HN.out]; exact hn0)
    obtain ⟨ga, capa, q0, _, hac⟩ := ho9.arc (k := 0) (by rw [← HN.out]; exact hn0)
    have hp0 : (edN rr m)[0]'(by rw [← HN.out]; exact hn0) = p := by
     have := List.getElem?_eq_getElem (l := edN rr m) (i := 0) (by rw [← HN.out]; exact hn0)
     rw [HE0.out] at this
     exact (Option.some.inj this).symm
    rw [hp0] at hac
    have HA := Lib.hid hac
    have q1 := hac.c0
    have q2 := hac.c1
    have hcap := hac.le
    have j2 : (1 : Int) < (capa : Int) := by omega
    clear ho9 hac hp0 HE0 HN HB2
    have KF : Hid (∀ z : World, Below x3.heap.size x3 z → Calls Tryz.prog 197 #[.agg #[.int .i64 m, .slice (some ⟨gl, 0, none⟩) m cl], .int .i64 (p.1 : Int), .int .i64 (p.2 : Int)] z fun e w' => ∃ (g c' : Nat), e = .returned (.slice (some ⟨g, 0, none⟩) (fcO rr m p.1 p.2).length c') ∧ OB (fun _ => True) z.heap.size w' g c' (fcO rr m p.1 p.2) ∧ Below z.heap.size z w') := fun z hz => ForcedArcs_v (KG.out z (bl_trans HB3.out hz)) hp1 hp2 hpb
    obtain ⟨L, hL⟩ : ∃ L, L = fcO rr m p.1 p.2 := ⟨_, rfl⟩
    have hL64 : L.length ≤ 64 := by rw [hL]; exact fcI_len HVr.out hp1 hp2 hpb 64
    rw [← hL] at KF HL3 HL2
    have HL := Lib.hid hL
    obtain ⟨p1, p2⟩ := p
    dsimp only at q1 q2 KF hp1 hp2 hp12 hpb
    clear hL
    go_wp2
    have HSC : Hid (∀ z : World, Below x3.heap.size x3 z → (Below x3.heap.size x3 z ∧ z.cell? ⟨q5, 0, none⟩ = some (.int .i64 (m : Nat)) ∧ z.cell? ⟨q5, 1, none⟩ = some (.slice (some ⟨gl, 0, none⟩) m cl) ∧ z.cell? ⟨ga, 0, none⟩ = some (.int .i64 (p1 : Nat)) ∧ z.cell? ⟨ga, 1, none⟩ = some (.int .i64 (p2 : Nat)))) := fun z hz => ⟨hz, up_ hz e0, up_ hz e1, up_ hz q1, up_ hz q2⟩
    have HZ0 : Hid (Below x3.heap.size x3 x3.drew) := (Below.refl _ _).drew
    have HS1 := Lib.hid (HSC.out _ HZ0.out)
    have KR1 : Hid (∀ z : World, Below x3.heap.size x3 z → _) := fun z hz => KF.out z hz
    go_region_held3 (fun z => Below x3.heap.size x3 z ∧ z.cell? ⟨q5, 0, none⟩ = some (.int .i64 (m : Nat)) ∧ z.cell? ⟨q5, 1, none⟩ = some (.slice (some ⟨gl, 0, none⟩) m cl) ∧ z.cell? ⟨ga, 0, none⟩ = some (.int .i64 (p1 : Nat)) ∧ z.cell? ⟨ga, 1, none⟩ = some (.int .i64 (p2 : Nat)))
     (first | exact HS1.out | assumption | exact HSC.out _ hz3 | fail)
     (first | (go_at_call 197; ((with_reducible refine (KR1.out _ HZ0.out).mono ?_); rintro e w3 ⟨g7, c7, rfl, ho7, hb3⟩; have hz3 := bl_trans HZ0.out hb3)))
    clear e0 e1 q1 q2
    replace HS := Lib.hid (HS.out.keep hz3)
    replace HA := Lib.hid (HA.out.keep hz3)
    clear hz3 HSC HZ0 HS1 KR1
    have e0 := HS.out.L.c0
    have e1 := HS.out.L.c1
    have q1 := HA.out.c0
    have q2 := HA.out.c1
    have hbq4 : Below x3.heap.size x3 w3 := ⟨hb3.os, hb3.tape, hb3.output, hb3.size, hb3.block⟩
    have HB4 : Hid (Below wr.heap.size wr w3) := bl_trans HB3.out hbq4
    have h7l : x3.heap.size ≤ g7 := ho7.l
    have H7 : Hid (OC x3.heap.size w3.heap.size w3 (some ⟨g7, 0, none⟩) c7 L) := ho7.oc
    have hS3 : go < x3.heap.size ∧ gl < x3.heap.size ∧ q4 < x3.heap.size ∧ q5 < x3.heap.size ∧ qz < x3.heap.size := by
     have h1 := HS0.out.blocks
     rw [HWO.out] at h1
     have h2 := HB3.out.size
     omega
    have KI : Hid (∀ z : World, Below w3.heap.size w3 z → Calls Tryz.prog 198 #[.slice (some ⟨g7, 0, none⟩) L.length c7, .int .i64 (p2 : Int), .int .i64 (p1 : Int)] z fun e w' => e = .returned (.int .i64 (ixL L (p2, p1))) ∧ Below z.heap.size z w') := fun z hz => l13Find_v (a := p2) (b := p1) (H7.out.keep hz) (by omega)
    obtain ⟨z, hz⟩ : ∃ z, z = ixL L (p2, p1) := ⟨_, rfl⟩
    have hzd := ixL_neg (L := L) (p := (p2, p1))
    rw [← hz] at KI hzd
    have hb3s := hbq4.size
    clear hz ho7 hb3 hbq4 KF KE
    obtain ⟨Z0, hZ0⟩ : ∃ Z, Z = x3.heap.size := ⟨_, rfl⟩
    obtain ⟨Z1, hZ1⟩ : ∃ Z, Z = w3.heap.size := ⟨_, rfl⟩
    rw [← hZ0] at hS3 h7l
    rw [← hZ0, ← hZ1] at H7
    have hZ01 : Z0 ≤ Z1 := by rw [hZ0, hZ1]; exact hb3s
    cases hc : L.contains (p2, p1)
    rotate_left
    ·rw [hc] at hzd
     have hz0 : ¬ z < 0 := by simpa using hzd
     have hz1 : 0 ≤ z := by omega
     have HE : Hid (otO r m = none) := by show _ = _; rw [← HF.out]; exact otF_bad HHe.out (by rw [← HL.out]; exact hc)
     clear hc hzd
     have HSC : Hid (∀ z : World, Below w3.heap.size w3 z → (Below w3.heap.size w3 z ∧ z.cell? ⟨ga, 0, none⟩ = some (.int .i64 (p1 : Nat)) ∧ z.cell? ⟨ga, 1, none⟩ = some (.int .i64 (p2 : Nat)))) := fun z hz => ⟨hz, up_ hz q1, up_ hz q2⟩
     have HZ0 : Hid (Below w3.heap.size w3 w3.drew) := (Below.refl _ _).drew
     have HS1 := Lib.hid (HSC.out _ HZ0.out)
     have KR1 : Hid (∀ z : World, Below w3.heap.size w3 z → _) := fun z hz => KI.out z hz
     go_wp2
     go_region_held3 (fun z => Below w3.heap.size w3 z ∧ z.cell? ⟨ga, 0, none⟩ = some (.int .i64 (p1 : Nat)) ∧ z.cell? ⟨ga, 1, none⟩ = some (.int .i64 (p2 : Nat)))
      (first | exact HS1.out | assumption | exact HSC.out _ hz4 | fail)
      (first | (go_at_call 198; ((with_reducible refine (KR1.out _ HZ0.out).mono ?_); rintro e w4 ⟨rfl, hb4⟩; have hz4 := bl_trans HZ0.out hb4)))
     clear q1 q2
     replace HS := Lib.hid (HS.out.keep hz4)
     replace HA := Lib.hid (HA.out.keep hz4)
     replace H7 := Lib.hid (H7.out.keep hz4)
     clear hz4 HSC HZ0 HS1 KR1
     have q1 := HA.out.c0
     have q2 := HA.out.c1
     have hb4s : w3.heap.size ≤ w4.heap.size := hb4.size
     clear KI q1 q2 hb4
     have z0 := HS.out.Z.c
     have z1 := HS.out.Z.f
     go_wp2
     exact bodyPost_ret (v := .tuple #[.agg #[.slice none 0 0], .bool false]) (by simp [results, Tryz.results132, go_sem, *]) rfl (by rw [HE.out]; exact HS.out.stop)
    rw [hc] at hzd
    have hz0 : z < 0 := by simpa using hzd
    have hz1 : ¬ 0 ≤ z := by omega
    have HFn : Hid (otF m f (rmL rr L) (orL tt L) = otO r m) := by show _ = _; rw [← HF.out, HL.out]; exact (otF_go HHe.out (by rw [← HL.out]; exact hc)).symm
    have HArc : Hid (∀ q ∈ L, q.1 < m ∧ q.2 < m ∧ q.1 ≠ q.2) := fun q hq => ⟨(HL3.out q hq).1, (HL3.out q hq).2.1, arc_ne HVr.out (HL3.out q hq).1 (HL3.out q hq).2.2⟩
    clear hc hzd HHe HF
    have HSC : Hid (∀ z : World, Below w3.heap.size w3 z → (Below w3.heap.size w3 z ∧ z.cell? ⟨ga, 0, none⟩ = some (.int .i64 (p1 : Nat)) ∧ z.cell? ⟨ga, 1, none⟩ = some (.int .i64 (p2 : Nat)))) := fun z hz => ⟨hz, up_ hz q1, up_ hz q2⟩
    have HZ0 : Hid (Below w3.heap.size w3 w3.drew) := (Below.refl _ _).drew
    have HS1 := Lib.hid (HSC.out _ HZ0.out)
    have KR1 : Hid (∀ z : World, Below w3.heap.size w3 z → _) := fun z hz => KI.out z hz
    go_wp2
    go_region_held3 (fun z => Below w3.heap.size w3 z ∧ z.cell? ⟨ga, 0, none⟩ = some (.int .i64 (p1 : Nat)) ∧ z.cell? ⟨ga, 1, none⟩ = some (.int .i64 (p2 : Nat)))
     (first | exact HS1.out | assumption | exact HSC.out _ hz5 | fail)
     (first | (go_at_call 198; ((with_reducible refine (KR1.out _ HZ0.out).mono ?_); rintro e w5 ⟨rfl, hb5⟩; have hz5 := bl_trans HZ0.out hb5)))
    clear q1 q2
    replace HS := Lib.hid (HS.out.keep hz5)
    replace HA := Lib.hid (HA.out.keep hz5)
    replace H7 := Lib.hid (H7.out.keep hz5)
    clear hz5 HSC HZ0 HS1 KR1
    have q1 := HA.out.c0
    have q2 := HA.out.c1
    have hb5s : w3.heap.size ≤ w5.heap.size := hb5.size
    clear KI q1 q2 hb5
    have hw5 : Z1 ≤ w5.heap.size := by rw [hZ1]; exact hb5s
    have HSc : Hid (OSt w w5 m go gl cl q4 q5 qz (rmL rr (L.take 0)) (orL tt (L.take 0))) := HS.out
    go_wp2
    go_loopw [8] (fun i wz => ∃ (k gl cl : Nat), k ≤ L.length ∧ i = .int .i64 k ∧ (gl < Z0 ∨ Z1 ≤ gl) ∧ Z1 ≤ wz.heap.size ∧ Hid (OSt w wz m go gl cl q4 q5 qz (rmL rr (L.take k)) (orL tt (L.take k))) ∧ Hid (OC Z0 Z1 wz (some ⟨g7, 0, none⟩) c7 L)) (fun i _ => L.length - (intOf i).toNat)
    case atStart => exact ⟨0, gl, cl, Nat.zero_le _, rfl, .inl (by omega), hw5, HSc, H7⟩
    case round =>
     clear HSc HS H7 hw5
     obtain ⟨k, gl, cl, hk, rfl, hcl, hZw, HS, H7⟩ := hrel
     by_cases hkl : k < L.length
     rotate_left
     ·obtain rfl : k = L.length := by omega
      have i2 : (L.length : Int) ≤ (L.length : Int) := Int.le_refl _
      rw [List.take_length] at HS
      obtain ⟨g1, g2⟩ := rmL_vg L rr HVr.out HArc.out
      have hlt : (edN (rmL rr L) m).length < (edN rr m).length := edN_less g2 HPM.out HL2.out
      have G1 := Lib.hid g1
      have G2 := Lib.hid g2
      clear g1 g2
      go_wp2
      go_roundw
      case rel => exact ⟨gl, cl, f, rmL rr L, orL tt L, by omega, HFn, G1, orL_in _ _ HTI.out (fun q hq => ⟨(HL3.out q hq).2.1, HSub.out _ _ (HL3.out q hq).2.2⟩), (fun i j hb => HSub.out i j (G2.out i j hb).1), HS⟩
      case measure => rw [HS.out.edges, ← HWO.out, HS0.out.edges]; exact hlt
     have i2 : (k : Int) < (L.length : Int) := by omega
     obtain ⟨gb, capb, q0, ⟨hgb1, hgb2⟩, hac⟩ := H7.out.arc hkl
     obtain ⟨a, ha⟩ : ∃ a, a = L[k] := ⟨_, rfl⟩
     rw [← ha] at hac
     have haL : a ∈ L := by rw [ha]; exact List.getElem_mem hkl
     obtain ⟨ha1, ha2, ha3⟩ := HArc.out a haL
     have HT1 : Hid (orL tt (L.take (k + 1)) = oaP (orL tt (L.take k)) a) := by show _ = _; rw [orL_take hkl, ha]
     have HT2 : Hid (rmL rr (L.take (k + 1)) = rmP (rmL rr (L.take k)) a) := by show _ = _; rw [rmL_take hkl, ha]
     have HTk : Hid (tIn m r (orL tt (L.take k))) := orL_in _ _ HTI.out (fun q hq => by have := HL3.out q (List.mem_of_mem_take hq); exact ⟨this.2.1, HSub.out _ _ this.2.2⟩)
     have HVk : Hid (VG m (rmL rr (L.take k))) := (rmL_vg (L.take k) rr HVr.out (fun q hq => HArc.out q (List.mem_of_mem_take hq))).1
     obtain ⟨t1, ht1⟩ : ∃ t1, t1 = orL tt (L.take k) := ⟨_, rfl⟩
     obtain ⟨r1, hr1⟩ : ∃ r1, r1 = rmL rr (L.take k) := ⟨_, rfl⟩
     rw [← ht1] at HT1 HTk HS
     rw [← hr1] at HT2 HVk HS
     have hx128 : t1 a.1 < 128 := by have h1 := HTk.out.lt ha1; have h2 := two_pow_le hm7; omega
     obtain ⟨a1, a2⟩ := a
     dsimp only at ha1 ha2 ha3 hx128
     have q1 := hac.c0
     have q2 := hac.c1
     have hcapb := hac.le
     have HA : Hid (AC wr gb capb (a1, a2)) := hac
     dsimp only at q1 q2
     have j1 : (1 : Int) < (capb : Int) := by omega
     have o0 := HS.out.O.c
     have t0 := HS.out.T.cell ha1
     have f0 := HS.out.T.froz a1
     have h2v := two_pow_le (n := a2) (by omega)
     obtain ⟨y, hy⟩ : ∃ y, y = 2 ^ a2 := ⟨_, rfl⟩
     have p1w : IntKind.i64.wrap ((2 : Int) ^ a2) = (y : Int) := by rw [pow_shl a2 (by omega), hy]; simp
     obtain ⟨u, hu⟩ : ∃ u, u = t1 a1 ||| y := ⟨_, rfl⟩
     have E2 : bits .or .i64 (t1 a1 : Int) (y : Int) = (u : Int) := by rw [hu]; exact i64_or_nat _ _ (by omega) (by omega)
     have Hst : Hid (∀ j, oaP t1 (a1, a2) j = if j = a1 then u else t1 j) := fun j => by
      unfold oaP
      dsimp only
      by_cases h : j = a1
      ·rw [if_pos h, if_pos h, hu, hy, h]
      ·rw [if_neg h, if_neg h]
     obtain ⟨xx, hxx⟩ : ∃ xx, xx = t1 a1 := ⟨_, rfl⟩
     rw [← hxx] at t0 E2
     have m1 : (a1 : Int) < (m : Int) := by omega
     clear ha ht1 hr1 hy hu hxx h2v hx128 hac
     have hdo := HS.out.d
     have hbo := HS.out.blocks
     have hgbw : gb < wr.heap.size := World.block_lt_of_cell? _ _ q1
     have hg7r : g7 < wr.heap.size := World.block_lt_of_cell? _ _ q0
     have F0 : Fr go (go + 1) wr (wr.drew.setCell ⟨go, a1, none⟩ (.int .i64 (u : Nat))) := (Fr.refl _ _ wr).drew.setCell (p := ⟨go, a1, none⟩) (Nat.le_refl _) (Nat.lt_succ_self _) _
     go_wp2
     refine wp_region_held_drew (S := fun z => z.cell? ⟨q4, 0, none⟩ = some (.slice (some ⟨go, 0, none⟩) m m) ∧ z.cell? ⟨g7, k, none⟩ = some (.slice (some ⟨gb, 0, none⟩) 2 capb) ∧ z.cell? ⟨gb, 0, none⟩ = some (.int .i64 (a1 : Nat)) ∧ z.cell? ⟨gb, 1, none⟩ = some (.int .i64 (a2 : Nat))) (by kernel_rfl) ⟨o0, q0, q1, q2⟩ (fun hHeld => ?_)
     refine pcY 0 rfl rfl (by kernel_rfl) (by rfl) (by intro w u; (try dsimp only at u); go_simp <;> with_reducible rfl) ‹_› (fun _ _ _ h => h) ?_; simp only [Act.put, sl0, sl1, sl2]
     iterate 16 (refine ptY rfl rfl (by kernel_rfl) (by rfl) (by intro w u; (try dsimp only at u); go_simp <;> with_reducible rfl) ‹_› (fun _ _ _ h => h) ?_; simp only [Act.put, sl0, sl1, sl2])
     refine pcY 18 rfl rfl (by kernel_rfl) (by rfl) (by intro w u; (try dsimp only at u); go_simp <;> with_reducible rfl) ‹_› (fun _ _ _ h => h) ?_; simp only [Act.put, sl0, sl1, sl2]
     iterate 6 (refine ptY rfl rfl (by kernel_rfl) (by rfl) (by intro w u; (try dsimp only at u); go_simp <;> with_reducible rfl) ‹_› (fun _ _ _ h => h) ?_; simp only [Act.put, sl0, sl1, sl2])
     refine wpAnyH_ready (rs := [17]) (by kernel_rfl) (by simp) ?_
     refine AllReadyH.cons rfl (fun K hK => ?_) AllReadyH.nil
     go_simp
     refine hK.out _ _ ⟨o0, q0, q1, q2⟩ (fun hHeld => ?_)
     clear hK K
     try simp only [Act.put, sl0, sl1, sl2]
     refine pcY 25 rfl rfl (by kernel_rfl) (by rfl) (by intro w u; (try dsimp only at u); go_simp <;> with_reducible rfl) ‹_› (fun _ _ _ h => h) ?_; simp only [Act.put, sl0, sl1, sl2]
     refine ptY rfl rfl (by kernel_rfl) (by rfl) (by intro w u; (try dsimp only at u); go_simp <;> with_reducible rfl) ‹_› (fun _ _ _ h => h) ?_; simp only [Act.put, sl0, sl1, sl2]
     refine wpAnyH_ready (rs := [27]) (by kernel_rfl) (by simp) ?_
     refine AllReadyH.cons rfl (fun K hK => ?_) AllReadyH.nil
     go_simp
     refine hK.out _ _ ⟨frC_ F0 o0 (by omega) (by omega), frC_ F0 q0 (by omega) (by omega), frC_ F0 q1 (by omega) (by omega), frC_ F0 q2 (by omega) (by omega)⟩ (fun hHeld => ?_)
     clear hK K
     try simp only [Act.put, sl0, sl1, sl2]
     refine wpAnyH_done (by kernel_rfl) ?_ _
     obtain ⟨wq, hwq⟩ : ∃ z : World, z = (wr.setCell ⟨go, a1, none⟩ (.int .i64 (u : Nat))).drew := ⟨_, rfl⟩
     have F : Fr go (go + 1) wr wq := by rw [hwq]; exact (fr_set wr).drew
     have HSq : Hid (OSt w wq m go gl cl q4 q5 qz r1 (oaP t1 (a1, a2))) := by rw [hwq]; exact (HS.out.setT Hst.out).drew
     have H7q : Hid (OC Z0 Z1 wq (some ⟨g7, 0, none⟩) c7 L) := H7.out.keepF F (.inl (by omega))
     have hg7w : g7 < wr.heap.size := World.block_lt_of_cell? _ _ q0
     have HAq : Hid (AC wq gb capb (a1, a2)) := ⟨HA.out.own.keep F (.inr (by omega))⟩
     have q0' := frC_ F q0 hg7w (.inr (by omega))
     have q1' := HAq.out.c0
     have q2' := HAq.out.c1
     have hZq : Z1 ≤ wq.heap.size := Nat.le_trans hZw F.size
     have hg7q : g7 < wq.heap.size := Nat.lt_of_lt_of_le hg7w F.size
     have hgbq : gb < wq.heap.size := HAq.out.lt
     dsimp only at q1' q2'
     rw [← hwq]
     clear hwq F F0 HS H7 HA q0 q1 q2 o0 t0 f0 E2 p1w Hst hZw hg7w hdo hbo hgbw hg7r
     have e0 := HSq.out.L.c0
     have e1 := HSq.out.L.c1
     have KD : Hid (Calls Tryz.prog 92 #[.agg #[.int .i64 (m : Int), .slice (some ⟨gl, 0, none⟩) m cl], .int .i64 (a1 : Int), .int .i64 (a2 : Int)] wq.drew fun e w' => ∃ (g2 c2 : Nat) (t2 : Bool), e = .returned (.tuple #[.agg #[.int .i64 (m : Int), .slice (some ⟨g2, 0, none⟩) m c2], .bool t2]) ∧ RW w' g2 m c2 (rmP r1 (a1, a2)) ∧ wq.heap.size ≤ g2 ∧ Below wq.heap.size wq.drew w') := by
      refine (RemoveEdge_s (m : Int) (some ⟨gl, 0, none⟩) m cl (fun v => (r1 v : Int)) a1 a2 wq.drew wq.drew.heap.size (HSq.out.drew.R.gv HVk.out).rd (Nat.le_refl _) (by omega)).mono ?_
      rintro e w' ⟨A', c', rfl, ho, hb⟩
      rw [reX_rmP (p := (a1, a2)) HVk.out ha1 ha2 ha3] at ho
      obtain ⟨g2, rfl, h2, _, hR⟩ := RW.of ho (by omega)
      exact ⟨g2, c', _, rfl, hR, Nat.le_trans (Nat.le_add_right _ 2) h2, hb⟩
     have hbl := HSq.out.blocks
     have hdd := HSq.out.d
     go_wp2
     refine wp_region_held_drew (S := fun z => z.cell? ⟨g7, k, none⟩ = some (.slice (some ⟨gb, 0, none⟩) 2 capb) ∧ z.cell? ⟨gb, 0, none⟩ = some (.int .i64 (a1 : Nat)) ∧ z.cell? ⟨gb, 1, none⟩ = some (.int .i64 (a2 : Nat))) (by kernel_rfl) ⟨q0', q1', q2'⟩ (fun hHeld => ?_)
     refine pcY 1 rfl rfl (by kernel_rfl) (by rfl) (by intro w u; (try dsimp only at u); go_simp <;> with_reducible rfl) ‹_› (fun _ _ _ h => h) ?_; simp only [Act.put, sl0, sl1, sl2]
     iterate 11 (refine ptY rfl rfl (by kernel_rfl) (by rfl) (by intro w u; (try dsimp only at u); go_simp <;> with_reducible rfl) ‹_› (fun _ _ _ h => h) ?_; simp only [Act.put, sl0, sl1, sl2])
     refine wpAnyH_ready (rs := [0]) (by kernel_rfl) (by simp) ?_
     refine AllReadyH.cons rfl (fun K hK => ?_) AllReadyH.nil
     go_simp
     refine hK.out _ _ ⟨q0', q1', q2'⟩ (fun hHeld => ?_)
     clear hK K
     try simp only [Act.put, sl0, sl1, sl2]
     refine wpAnyH_ready (rs := [13]) (by kernel_rfl) (by simp) ?_
     refine AllReadyH.cons rfl (fun K hK => ?_) AllReadyH.nil
     go_simp
     go_at_call 92; refine (KD.out).mono ?_
     rintro e w8 ⟨g8, c8, t8, rfl, hR8, hg8, hb8⟩
     have HS8 := Lib.hid (HSq.out.drew.keep hb8)
     have e4 := HS8.out.L.c0
     have e5 := HS8.out.L.c1
     have e2 := HS8.out.L.f0
     have e3 := HS8.out.L.f1
     have F8 := fr2 w8 q5 (.int .i64 (m : Int)) (.slice (some ⟨g8, 0, none⟩) m c8)
     have S8 : w8.cell? ⟨g7, k, none⟩ = some (.slice (some ⟨gb, 0, none⟩) 2 capb) ∧ w8.cell? ⟨gb, 0, none⟩ = some (.int .i64 (a1 : Nat)) ∧ w8.cell? ⟨gb, 1, none⟩ = some (.int .i64 (a2 : Nat)) := ⟨up hb8 q0' hg7q, up hb8 q1' hgbq, up hb8 q2' hgbq⟩
     have hz8 : wq.heap.size ≤ w8.heap.size := hb8.size
     refine hK.out _ _ S8 (fun hHeld => ?_)
     clear hK K
     try simp only [Act.put, sl0, sl1, sl2]
     iterate 3 (refine ptY rfl rfl (by kernel_rfl) (by rfl) (by intro w u; (try dsimp only at u); go_simp <;> with_reducible rfl) ‹_› (fun _ _ _ h => h) ?_; simp only [Act.put, sl0, sl1, sl2])
     refine wpAnyH_ready (rs := [17]) (by kernel_rfl) (by simp) ?_
     refine AllReadyH.cons rfl (fun K hK => ?_) AllReadyH.nil
     go_simp
     refine hK.out _ _ ⟨frC_ F8 S8.1 (by omega) (.inr (by omega)), frC_ F8 S8.2.1 (by omega) (.inr (by omega)), frC_ F8 S8.2.2 (by omega) (.inr (by omega))⟩ (fun hHeld => ?_)
     clear hK K
     try simp only [Act.put, sl0, sl1, sl2]
     refine wpAnyH_done (by kernel_rfl) ?_ _
     have hb8' : Below wq.heap.size wq w8 := ⟨hb8.os, hb8.tape, hb8.output, hb8.size, hb8.block⟩
     obtain ⟨w9, hw9⟩ : ∃ z : World, z = ((w8.setCell ⟨q5, 0, none⟩ (.int .i64 (m : Int))).setCell ⟨q5, 1, none⟩ (.slice (some ⟨g8, 0, none⟩) m c8)) := ⟨_, rfl⟩
     have HS9 : Hid (OSt w w9 m go g8 c8 q4 q5 qz (rmL rr (L.take (k + 1))) (orL tt (L.take (k + 1)))) := by
      show OSt _ _ _ _ _ _ _ _ _ _ _
      rw [HT1.out, HT2.out, hw9]
      exact HS8.out.left hR8 (by omega)
     have H79 : Hid (OC Z0 Z1 w9 (some ⟨g7, 0, none⟩) c7 L) := by rw [hw9]; exact (H7q.out.keep hb8').keepF F8 (.inl (by omega))
     have hZ9 : Z1 ≤ w9.heap.size := by rw [hw9]; have := F8.size; omega
     have hg8Z : Z1 ≤ g8 := by omega
     rw [← hw9]
     clear hw9 hb8 hb8' HS8 e0 e1 e2 e3 e4 e5 F8 S8 KD HSq H7q HAq q0' q1' q2' hR8
     go_wp2
     go_roundw
     case rel => exact ⟨k + 1, g8, c8, by omega, by go_num, .inr hg8Z, hZ9, HS9, H79⟩
     case measure => (simp [intOf] <;> omega)
end
end Go.Proofs.YtfabbohijhjpcaaGreatDoor
