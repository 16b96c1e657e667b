/-
-/
import Derived.Test.YtfabbohijhjpcaaGreatDoorRcPruI
import Derived.Deep.CutRange
namespace Go.Proofs.YtfabbohijhjpcaaGreatDoor
open Go.RowKit
section
variable {A : Option Addr} {m c : Nat} {r : Nat → Nat} {w : World}
theorem ft_self {s v : Nat} : ftB r s v v = false := by unfold ftB; simp
theorem tt_self (vg : VG m r) {s v : Nat} (hv : v < m) : ttB r s v v = false := by unfold ttB; rw [vg.irr v hv]; simp
theorem ft_out {s v u : Nat} (h : s.testBit u = false) : ftB r s v u = false := by unfold ftB; rw [h]; rfl
theorem tt_out {s v u : Nat} (h : s.testBit u = false) : ttB r s v u = false := by unfold ttB; rw [h]; rfl
theorem ft_edge {s v u : Nat} (h : (r v).testBit u = true) : ftB r s v u = false := by unfold ftB; rw [h]; simp
theorem tt_edge {s v u : Nat} (h : (r v).testBit u = false) : ttB r s v u = false := by unfold ttB; rw [h]; simp
set_option maxRecDepth 100000 in
set_option maxHeartbeats 6400000 in
theorem l21Prune_sv (h : GV w A m c r) {s v : Nat} (hs : s < 2 ^ m) (hv : v < m) (hsv : s.testBit v = true) :
 Calls Tryz.prog 200 #[.agg #[.int .i64 m, .slice A m c], .int .i64 (v : Int), .int .i64 (s : Int)] w fun e w' => e = .returned (prZ v (pnO r m s v)) ∧ Below w.heap.size w w' := by
 have hm7 := h.vg.n7
 have h128 := two_pow_le hm7
 have HV := Lib.hid h.vg
 have HGw := Lib.hid h
 obtain ⟨W, hW⟩ : ∃ W : World, W = ((w.alloc (Obj.cells #[Value.int IntKind.i64 m, Value.slice A m c] 26)).alloc (Obj.cells #[.int .i64 0, .int .i64 0, .int .i64 0] 149)) := ⟨_, rfl⟩
 have HB : Hid (From w W) := by rw [hW]; exact (From.alloc _ _).alloc_ _
 have HC : Hid (GC W w.heap.size m A m c) := by rw [hW]; exact (GC.new _ _ _ _ _).keep ((Below.refl _ _).alloc (Nat.le_refl _) _)
 have HP : Hid (PB W (w.heap.size + 1)) := by rw [hW]; constructor <;> simp [go_sem]
 obtain ⟨b0, o0, rfl⟩ := h.addr
 have HW := Lib.hid hW
 clear hW h
 have p0 := HGw.out.row hv
 have hb0 := HGw.out.bl
 have hb1 : b0 < w.heap.size + 1 := by omega
 have rv := HV.out.lt128 hv
 have hs128 : s < 128 := by omega
 obtain ⟨y, hy⟩ : ∃ y, y = r v &&& s := ⟨_, rfl⟩
 have hy128 : y < 128 := by rw [hy]; exact Nat.lt_of_le_of_lt Nat.and_le_left rv
 have E1 : bits .and .i64 ((r v : Nat) : Int) (s : Int) = (y : Int) := by rw [i64_and_nat _ _ (by omega) (by omega), hy]
 have HY := Lib.hid hy
 obtain ⟨x, hx⟩ : ∃ x, x = r v := ⟨_, rfl⟩
 rw [← hx] at p0 E1
 have KC := Lib.hid (CountSet_sv y hy128)
 obtain ⟨N, hN⟩ : ∃ N, N = cn y := ⟨_, rfl⟩
 rw [← hN] at KC
 have hq : w.heap.size ≤ w.heap.size + 1 := by omega
 clear hx hy rv
 go_enter Tryz.func200, Tryz.ntmps200
 by_cases h0 : y = 0
 ·have Hp : Hid (pnO r m s v = some (0, -1)) := pnO_alone (by rw [← HY.out]; exact h0)
  have z0 := HP.out.c0
  have z1 := HP.out.c1
  have z2 := HP.out.c2
  have z3 := HP.out.f0
  have z4 := HP.out.f1
  have z5 := HP.out.f2
  subst h0
  go_wp2
  exact bodyPost_ret (v := prZ v (some (0, -1))) (by simp [prZ, results, Tryz.results200, go_sem, *]) rfl ⟨by rw [Hp.out], ((From.alloc _ _).alloc_ _).below⟩
 have hN0 : N ≠ 0 := by rw [hN]; exact cn_pos h0 hy128
 have H0 := Lib.hid h0
 have HN := Lib.hid hN
 obtain ⟨lst, hls⟩ : ∃ l, l = listN y := ⟨_, rfl⟩
 have hll : lst.length = N := by rw [hls, hN]; rfl
 have KL := Lib.hid (ListOf_sv y hy128)
 rw [← hls] at KL
 have HLS := Lib.hid hls
 have hn1 : ((y : Int) == 0) = false := by simp; omega
 clear h0 hN hls
 go_wp2_with fail
 rw [← HW.out]
 clear HW
 refine (KC.out _).mono ?_
 rintro e w1 ⟨rfl, hb2⟩
 replace HB := Lib.hid (HB.out.keep hb2)
 replace HC := Lib.hid (HC.out.keep hb2)
 replace HP := Lib.hid (HP.out.keep hb2)
 clear hb2 KC E1 p0 hb0 hb1 hn1
 by_cases h1 : N = 1
 ·subst h1
  have Hp : Hid (pnO r m s v = some (1, ((lst.getD 0 0 : Nat) : Int))) := by
   show _ = _
   have := pnO_pend (r := r) (m := m) (s := s) (v := v) (by rw [← HY.out]; exact H0.out) (by rw [← HY.out, ← HN.out])
   rw [← HY.out, ← HLS.out] at this
   exact this
  rw [hll] at KL
  have HLL := Lib.hid hll
  clear hll
  go_wp2_with fail
  refine (KL.out _).mono ?_
  rintro e w1 ⟨A3, c3, rfl, ho3, hb1⟩
  replace HB := Lib.hid (HB.out.keep hb1)
  replace HC := Lib.hid (HC.out.keep hb1)
  replace HP := Lib.hid (HP.out.keep hb1)
  clear hb1
  obtain ⟨b5, o5, rfl⟩ := ho3.ln.addr (by rw [HLL.out]; omega)
  have q0 := ho3.ln.at (j := 0) (by rw [HLL.out]; omega)
  obtain ⟨u, hu⟩ : ∃ u, u = lst.getD 0 0 := ⟨_, rfl⟩
  have q1 : w1.cell? ⟨b5, o5, none⟩ = some (.int .i64 (u : Nat)) := by
   rw [Nat.add_zero] at q0
   rw [q0, hu]
   simp [List.getD, HLL.out]
  rw [← hu] at Hp
  have z0 := HP.out.c0
  have z1 := HP.out.c1
  have z2 := HP.out.c2
  have z3 := HP.out.f0
  have z4 := HP.out.f1
  have z5 := HP.out.f2
  clear q0 hu ho3 KL
  go_wp2
  exact bodyPost_ret (v := prZ v (some (1, (u : Int)))) (by simp [prZ, results, Tryz.results200, go_sem, *]) rfl ⟨by rw [Hp.out], bl_set3 HB.out.below hq⟩
 have hn2 : ((N : Int) == 1) = false := by simp; omega
 have H1 : Hid (cn (r v &&& s) ≠ 1) := by rw [← HY.out, ← HN.out]; exact h1
 have H00 : Hid (r v &&& s ≠ 0) := by rw [← HY.out]; exact H0.out
 clear h1 hN0 hll KL
 go_wp2
 clear hn2
 go_loopw [9] (fun i wr => ∃ K : Nat, 2 ≤ K ∧ K ≤ 4 ∧ i = .int .i64 K ∧ Hid (3 ≤ K → lsK (ftB r s v) m = none) ∧ Hid (4 ≤ K → lsK (ttB r s v) m = none) ∧ Hid (GC wr w.heap.size m (some ⟨b0, o0, none⟩) m c) ∧ Hid (PB wr (w.heap.size + 1)) ∧ Hid (From w wr)) (fun i _ => 4 - (intOf i).toNat)
 case atStart => exact ⟨2, by omega, by omega, rfl, (fun h => by omega), (fun h => by omega), HC, HP, HB⟩
 case round =>
  clear HC HP HB
  obtain ⟨K, hK2, hK4, rfl, HF2, HF3, HC, HP, HB⟩ := hrel
  have hc : K = 4 ∨ K = 2 ∨ K = 3 := by omega
  rcases hc with rfl | rfl | rfl
  ·have Hp : Hid (pnO r m s v = none) := pnO_none H00.out H1.out (HF2.out (by omega)) (HF3.out (by omega))
   have z0 := HP.out.c0
   have z1 := HP.out.c1
   have z2 := HP.out.c2
   have z3 := HP.out.f0
   have z4 := HP.out.f1
   have z5 := HP.out.f2
   go_wp2
   exact bodyPost_ret (v := prZ v none) (by simp [prZ, results, Tryz.results200, go_sem, *]) rfl ⟨by rw [Hp.out], bl_set3 HB.out.below hq⟩
  ·clear hK2 hK4
   rw [show ((2 : Nat) : Int) = 2 from rfl]
   go_wp2
   go_loopw [10, 11] (fun i _ wr => ∃ u : Nat, u ≤ m ∧ i = .int .i64 u ∧ Hid (∀ j, j < u → ftB r s v j = false) ∧ Hid (GC wr w.heap.size m (some ⟨b0, o0, none⟩) m c) ∧ Hid (PB wr (w.heap.size + 1)) ∧ Hid (From w wr)) (fun i _ _ => m - (intOf i).toNat)
   case atStart => exact ⟨0, Nat.zero_le _, rfl, (fun _ h => absurd h (by omega)), HC, HP, HB⟩
   case round =>
    clear HC HP HB
    obtain ⟨u, hu, rfl, HA, HC, HP, HB⟩ := hrel
    have e0 := HC.out.c0
    have e1 := HC.out.c1
    by_cases hum : u < m
    rotate_left
    ·obtain rfl : u = m := by omega
     have i1 : (u : Int) ≤ (u : Int) := Int.le_refl _
     have HN : Hid (lsK (ftB r s v) u = none) := lsK_no HA.out
     go_wp2
     go_roundw
     case rel => exact ⟨3, by omega, by omega, rfl, (fun _ => HN.out), (fun h => by omega), HC, HP, HB⟩
     case measure => (simp [intOf] <;> omega)
    have i1 : (u : Int) < (m : Int) := by omega
    have hpu := two_pow_le (n := u) (by omega)
    have hpv := two_pow_le (n := v) (by omega)
    obtain ⟨P, hP⟩ : ∃ P, P = 2 ^ v ||| 2 ^ u := ⟨_, rfl⟩
    have hP256 : P < 256 := by rw [hP]; exact Nat.or_lt_two_pow (n := 8) (by omega) (by omega)
    have E2 : bits .or .i64 (2 ^ v) (2 ^ u) = (P : Int) := by
     have := i64_or_nat (2 ^ v) (2 ^ u) (by omega) (by omega)
     rw [hP, ← this]; simp
    have pu := pow_shl u (by omega)
    have pv := pow_shl v (by omega)
    have E3 : (bits .and .i64 ((s : Int) / 2 ^ u) 1 == 1) = s.testBit u := by simpa using and_one_i64 (s : Int) u (by omega) (by omega)
    have q1 := (HGw.out.keep HB.out.below).row hum
    have hbd : Below wr.heap.size wr wr.drew := (Below.refl _ _).drew
    by_cases huv : u = v
    ·have j1 : ((u : Int) != (v : Int)) = false := by simp [huv]
     have HA2 : Hid (∀ j, j < u + 1 → ftB r s v j = false) := fun j h => by
      by_cases hjk : j < u
      ·exact HA.out j hjk
      ·obtain rfl : j = u := by omega
       exact (by rw [huv]; exact ft_self)
     clear huv
     go_wp2
     go_region
     go_wp2
     go_roundw
     case rel => exact ⟨u + 1, by omega, by go_num, HA2, HC.out.keep hbd, HP.out.keep hbd, HB.out.keep hbd⟩
     case measure => (simp [intOf] <;> omega)
    have j1 : ((u : Int) != (v : Int)) = true := by simp; omega
    cases hsu : s.testBit u
    ·rw [hsu] at E3
     have HA2 : Hid (∀ j, j < u + 1 → ftB r s v j = false) := fun j h => by
      by_cases hjk : j < u
      ·exact HA.out j hjk
      ·obtain rfl : j = u := by omega
       exact ft_out hsu
     clear hsu huv
     go_wp2
     go_region
     go_wp2
     go_roundw
     case rel => exact ⟨u + 1, by omega, by go_num, HA2, HC.out.keep hbd, HP.out.keep hbd, HB.out.keep hbd⟩
     case measure => (simp [intOf] <;> omega)
    rw [hsu] at E3
    obtain ⟨hps, hPs⟩ := pair_sub (v := v) (w := u) hs128 hsv hsu
    rw [← hP] at hps hPs
    obtain ⟨d, hd⟩ : ∃ d, d = s ^^^ P := ⟨_, rfl⟩
    rw [← hd] at hps
    have F1 : wrap64 ((s : Int) - (P : Int)) = (d : Int) := by rw [Go.IntWalk.wrap64_in _ (by omega)]; omega
    have F2 : IntKind.i64.wrap ((s : Int) - (P : Int)) = (d : Int) := by rw [Go.IntWalk.i64_in _ (by omega)]; omega
    have ru := HV.out.lt128 hum
    obtain ⟨a1, ha1⟩ : ∃ a1, a1 = y &&& d := ⟨_, rfl⟩
    obtain ⟨a2, ha2⟩ : ∃ a2, a2 = r u &&& d := ⟨_, rfl⟩
    have E4 : bits .and .i64 (y : Int) (d : Int) = (a1 : Int) := by rw [i64_and_nat _ _ (by omega) (by omega), ha1]
    have E5 : bits .and .i64 ((r u : Nat) : Int) (d : Int) = (a2 : Int) := by rw [i64_and_nat _ _ (by omega) (by omega), ha2]
    have KE : Hid (∀ z : World, From w z → Calls Tryz.prog 45 #[.agg #[.int .i64 m, .slice (some ⟨b0, o0, none⟩) m c], .int .i64 (v : Int), .int .i64 (u : Int)] z fun e w' => e = .returned (.bool ((r v).testBit u)) ∧ Below z.heap.size z w') := fun z hz => l2Edge_v (HGw.out.keep hz.below) hv hum
    obtain ⟨E, hE⟩ : ∃ E, E = (r v).testBit u := ⟨_, rfl⟩
    rw [← hE] at KE
    have HIf : Hid (E = false → (a1 = a2 ↔ r u &&& s = y)) := fun hEh => by
     have := ft_iff HV.out hv hum hsv hsu (by rw [← hE]; exact hEh)
     rw [← hP, ← hd, ← HY.out, ← ha1, ← ha2] at this
     exact this
    have HVal : Hid (E = false → ftB r s v u = decide (r u &&& s = y)) := fun hEh => by rw [ft_val hsu (by rw [← hE]; exact hEh) huv, HY.out]
    have HEd : Hid (E = true → ftB r s v u = false) := fun hEh => ft_edge (by rw [← hE]; exact hEh)
    obtain ⟨x, hx⟩ : ∃ x, x = r u := ⟨_, rfl⟩
    rw [← hx] at q1 E5
    have gd1 : b0 < wr.heap.size := World.block_lt_of_cell? _ _ q1
    clear hP hd ha1 ha2 hE hx hsu huv hps ru
    replace HB := Lib.hid (HB.out.keep hbd)
    replace HC := Lib.hid (HC.out.keep hbd)
    replace HP := Lib.hid (HP.out.keep hbd)
    have q2 : wr.drew.cell? ⟨b0, o0 + u, none⟩ = some (.int .i64 (x : Nat)) := q1
    cases E
    ·skip
     by_cases ha : a1 = a2
     ·have j2 : ((a1 : Int) == (a2 : Int)) = true := by simp [ha]
      have Hp : Hid (pnO r m s v = some (2, (u : Int))) := pnO_false H00.out H1.out (lsK_yes hum (by rw [HVal.out rfl]; exact decide_eq_true ((HIf.out rfl).1 ha)) HA.out)
      clear ha
      go_wp2
      go_region
      go_wp2_with fail
      refine (KE.out _ HB.out).mono ?_
      rintro e w5 ⟨rfl, hb5⟩
      replace HB := Lib.hid (HB.out.keep hb5)
      replace HC := Lib.hid (HC.out.keep hb5)
      replace HP := Lib.hid (HP.out.keep hb5)
      have q3 := up hb5 q2 gd1
      have e2 := HC.out.c1
      have z0 := HP.out.c0
      have z1 := HP.out.c1
      have z2 := HP.out.c2
      have z3 := HP.out.f0
      have z4 := HP.out.f1
      have z5 := HP.out.f2
      clear hb5 q2 q1 e0 e1
      go_wp2
      exact bodyPost_ret (v := prZ v (some (2, (u : Int)))) (by simp [prZ, results, Tryz.results200, go_sem, *]) rfl ⟨by rw [Hp.out], bl_set3 HB.out.below hq⟩
     ·have j2 : ((a1 : Int) == (a2 : Int)) = false := by simp; omega
      have HA2 : Hid (∀ j, j < u + 1 → ftB r s v j = false) := fun j h => by
       by_cases hjk : j < u
       ·exact HA.out j hjk
       ·obtain rfl : j = u := by omega
        exact (by rw [HVal.out rfl]; exact decide_eq_false (fun h => ha ((HIf.out rfl).2 h)))
      clear ha
      go_wp2
      go_region
      go_wp2_with fail
      refine (KE.out _ HB.out).mono ?_
      rintro e w5 ⟨rfl, hb5⟩
      have e2 := (HC.out.keep hb5).c1
      have q3 := up hb5 q2 gd1
      clear q2 q1 e0 e1
      go_wp2
      go_roundw
      case rel => exact ⟨u + 1, by omega, by go_num, HA2, HC.out.keep hb5, HP.out.keep hb5, HB.out.keep hb5⟩
      case measure => (simp [intOf] <;> omega)
    ·skip
     have HA2 : Hid (∀ j, j < u + 1 → ftB r s v j = false) := fun j h => by
      by_cases hjk : j < u
      ·exact HA.out j hjk
      ·obtain rfl : j = u := by omega
       exact HEd.out rfl
     go_wp2
     go_region
     go_wp2_with fail
     refine (KE.out _ HB.out).mono ?_
     rintro e w5 ⟨rfl, hb5⟩
     clear q2 q1 e0 e1
     go_wp2
     go_roundw
     case rel => exact ⟨u + 1, by omega, by go_num, HA2, HC.out.keep hb5, HP.out.keep hb5, HB.out.keep hb5⟩
     case measure => (simp [intOf] <;> omega)
  ·clear hK2 hK4
   rw [show ((3 : Nat) : Int) = 3 from rfl]
   go_wp2
   go_loopw [10, 11] (fun i _ wr => ∃ u : Nat, u ≤ m ∧ i = .int .i64 u ∧ Hid (∀ j, j < u → ttB r s v j = false) ∧ Hid (GC wr w.heap.size m (some ⟨b0, o0, none⟩) m c) ∧ Hid (PB wr (w.heap.size + 1)) ∧ Hid (From w wr)) (fun i _ _ => m - (intOf i).toNat)
   case atStart => exact ⟨0, Nat.zero_le _, rfl, (fun _ h => absurd h (by omega)), HC, HP, HB⟩
   case round =>
    clear HC HP HB
    obtain ⟨u, hu, rfl, HA, HC, HP, HB⟩ := hrel
    have e0 := HC.out.c0
    have e1 := HC.out.c1
    by_cases hum : u < m
    rotate_left
    ·obtain rfl : u = m := by omega
     have i1 : (u : Int) ≤ (u : Int) := Int.le_refl _
     have HN : Hid (lsK (ttB r s v) u = none) := lsK_no HA.out
     go_wp2
     go_roundw
     case rel => exact ⟨4, by omega, by omega, rfl, (fun _ => HF2.out (by omega)), (fun _ => HN.out), HC, HP, HB⟩
     case measure => (simp [intOf] <;> omega)
    have i1 : (u : Int) < (m : Int) := by omega
    have hpu := two_pow_le (n := u) (by omega)
    have hpv := two_pow_le (n := v) (by omega)
    obtain ⟨P, hP⟩ : ∃ P, P = 2 ^ v ||| 2 ^ u := ⟨_, rfl⟩
    have hP256 : P < 256 := by rw [hP]; exact Nat.or_lt_two_pow (n := 8) (by omega) (by omega)
    have E2 : bits .or .i64 (2 ^ v) (2 ^ u) = (P : Int) := by
     have := i64_or_nat (2 ^ v) (2 ^ u) (by omega) (by omega)
     rw [hP, ← this]; simp
    have pu := pow_shl u (by omega)
    have pv := pow_shl v (by omega)
    have E3 : (bits .and .i64 ((s : Int) / 2 ^ u) 1 == 1) = s.testBit u := by simpa using and_one_i64 (s : Int) u (by omega) (by omega)
    have q1 := (HGw.out.keep HB.out.below).row hum
    have hbd : Below wr.heap.size wr wr.drew := (Below.refl _ _).drew
    by_cases huv : u = v
    ·have j1 : ((u : Int) != (v : Int)) = false := by simp [huv]
     have HA2 : Hid (∀ j, j < u + 1 → ttB r s v j = false) := fun j h => by
      by_cases hjk : j < u
      ·exact HA.out j hjk
      ·obtain rfl : j = u := by omega
       exact (by rw [huv]; exact tt_self HV.out hv)
     clear huv
     go_wp2
     go_region
     go_wp2
     go_roundw
     case rel => exact ⟨u + 1, by omega, by go_num, HA2, HC.out.keep hbd, HP.out.keep hbd, HB.out.keep hbd⟩
     case measure => (simp [intOf] <;> omega)
    have j1 : ((u : Int) != (v : Int)) = true := by simp; omega
    cases hsu : s.testBit u
    ·rw [hsu] at E3
     have HA2 : Hid (∀ j, j < u + 1 → ttB r s v j = false) := fun j h => by
      by_cases hjk : j < u
      ·exact HA.out j hjk
      ·obtain rfl : j = u := by omega
       exact tt_out hsu
     clear hsu huv
     go_wp2
     go_region
     go_wp2
     go_roundw
     case rel => exact ⟨u + 1, by omega, by go_num, HA2, HC.out.keep hbd, HP.out.keep hbd, HB.out.keep hbd⟩
     case measure => (simp [intOf] <;> omega)
    rw [hsu] at E3
    obtain ⟨hps, hPs⟩ := pair_sub (v := v) (w := u) hs128 hsv hsu
    rw [← hP] at hps hPs
    obtain ⟨d, hd⟩ : ∃ d, d = s ^^^ P := ⟨_, rfl⟩
    rw [← hd] at hps
    have F1 : wrap64 ((s : Int) - (P : Int)) = (d : Int) := by rw [Go.IntWalk.wrap64_in _ (by omega)]; omega
    have F2 : IntKind.i64.wrap ((s : Int) - (P : Int)) = (d : Int) := by rw [Go.IntWalk.i64_in _ (by omega)]; omega
    have ru := HV.out.lt128 hum
    obtain ⟨a1, ha1⟩ : ∃ a1, a1 = y &&& d := ⟨_, rfl⟩
    obtain ⟨a2, ha2⟩ : ∃ a2, a2 = r u &&& d := ⟨_, rfl⟩
    have E4 : bits .and .i64 (y : Int) (d : Int) = (a1 : Int) := by rw [i64_and_nat _ _ (by omega) (by omega), ha1]
    have E5 : bits .and .i64 ((r u : Nat) : Int) (d : Int) = (a2 : Int) := by rw [i64_and_nat _ _ (by omega) (by omega), ha2]
    have KE : Hid (∀ z : World, From w z → Calls Tryz.prog 45 #[.agg #[.int .i64 m, .slice (some ⟨b0, o0, none⟩) m c], .int .i64 (v : Int), .int .i64 (u : Int)] z fun e w' => e = .returned (.bool ((r v).testBit u)) ∧ Below z.heap.size z w') := fun z hz => l2Edge_v (HGw.out.keep hz.below) hv hum
    obtain ⟨E, hE⟩ : ∃ E, E = (r v).testBit u := ⟨_, rfl⟩
    rw [← hE] at KE
    have HIf : Hid (E = true → (a1 = a2 ↔ (r u &&& s) ||| 2 ^ u = y ||| 2 ^ v)) := fun hEh => by
     have := tt_iff HV.out hv hum hsv hsu (by rw [← hE]; exact hEh)
     rw [← hP, ← hd, ← HY.out, ← ha1, ← ha2] at this
     exact this
    have HVal : Hid (E = true → ttB r s v u = decide ((r u &&& s) ||| 2 ^ u = y ||| 2 ^ v)) := fun hEh => by rw [tt_val hsu (by rw [← hE]; exact hEh), HY.out]
    have HEd : Hid (E = false → ttB r s v u = false) := fun hEh => tt_edge (by rw [← hE]; exact hEh)
    obtain ⟨x, hx⟩ : ∃ x, x = r u := ⟨_, rfl⟩
    rw [← hx] at q1 E5
    have gd1 : b0 < wr.heap.size := World.block_lt_of_cell? _ _ q1
    clear hP hd ha1 ha2 hE hx hsu huv hps ru
    replace HB := Lib.hid (HB.out.keep hbd)
    replace HC := Lib.hid (HC.out.keep hbd)
    replace HP := Lib.hid (HP.out.keep hbd)
    have q2 : wr.drew.cell? ⟨b0, o0 + u, none⟩ = some (.int .i64 (x : Nat)) := q1
    cases E
    ·skip
     have HA2 : Hid (∀ j, j < u + 1 → ttB r s v j = false) := fun j h => by
      by_cases hjk : j < u
      ·exact HA.out j hjk
      ·obtain rfl : j = u := by omega
       exact HEd.out rfl
     go_wp2
     go_region
     go_wp2_with fail
     refine (KE.out _ HB.out).mono ?_
     rintro e w5 ⟨rfl, hb5⟩
     clear q2 q1 e0 e1
     go_wp2
     go_roundw
     case rel => exact ⟨u + 1, by omega, by go_num, HA2, HC.out.keep hb5, HP.out.keep hb5, HB.out.keep hb5⟩
     case measure => (simp [intOf] <;> omega)
    ·skip
     by_cases ha : a1 = a2
     ·have j2 : ((a1 : Int) == (a2 : Int)) = true := by simp [ha]
      have Hp : Hid (pnO r m s v = some (3, (u : Int))) := pnO_true H00.out H1.out (HF2.out (by omega)) (lsK_yes hum (by rw [HVal.out rfl]; exact decide_eq_true ((HIf.out rfl).1 ha)) HA.out)
      clear ha
      go_wp2
      go_region
      go_wp2_with fail
      refine (KE.out _ HB.out).mono ?_
      rintro e w5 ⟨rfl, hb5⟩
      replace HB := Lib.hid (HB.out.keep hb5)
      replace HC := Lib.hid (HC.out.keep hb5)
      replace HP := Lib.hid (HP.out.keep hb5)
      have q3 := up hb5 q2 gd1
      have e2 := HC.out.c1
      have z0 := HP.out.c0
      have z1 := HP.out.c1
      have z2 := HP.out.c2
      have z3 := HP.out.f0
      have z4 := HP.out.f1
      have z5 := HP.out.f2
      clear hb5 q2 q1 e0 e1
      go_wp2
      exact bodyPost_ret (v := prZ v (some (3, (u : Int)))) (by simp [prZ, results, Tryz.results200, go_sem, *]) rfl ⟨by rw [Hp.out], bl_set3 HB.out.below hq⟩
     ·have j2 : ((a1 : Int) == (a2 : Int)) = false := by simp; omega
      have HA2 : Hid (∀ j, j < u + 1 → ttB r s v j = false) := fun j h => by
       by_cases hjk : j < u
       ·exact HA.out j hjk
       ·obtain rfl : j = u := by omega
        exact (by rw [HVal.out rfl]; exact decide_eq_false (fun h => ha ((HIf.out rfl).2 h)))
      clear ha
      go_wp2
      go_region
      go_wp2_with fail
      refine (KE.out _ HB.out).mono ?_
      rintro e w5 ⟨rfl, hb5⟩
      have e2 := (HC.out.keep hb5).c1
      have q3 := up hb5 q2 gd1
      clear q2 q1 e0 e1
      go_wp2
      go_roundw
      case rel => exact ⟨u + 1, by omega, by go_num, HA2, HC.out.keep hb5, HP.out.keep hb5, HB.out.keep hb5⟩
      case measure => (simp [intOf] <;> omega)
set_option maxRecDepth 100000 in
set_option maxHeartbeats 6400000 in
theorem PruneOrder_sv (h : GV w A m c r) :
 Calls Tryz.prog 134 #[.agg #[.int .i64 m, .slice A m c]] w (prQ w (plO r m)) := by
 have hm7 := h.vg.n7
 have h128 := two_pow_le hm7
 have HV := Lib.hid h.vg
 have HGw := Lib.hid h
 obtain ⟨W, hW⟩ : ∃ W : World, W = ((w.alloc (Obj.cells #[Value.int IntKind.i64 m, Value.slice A m c] 26)).alloc (Obj.cells #[] 149)) := ⟨_, rfl⟩
 have hz0 : (w.alloc (Obj.cells #[Value.int IntKind.i64 m, Value.slice A m c] 26)).heap.size = w.heap.size + 1 := by simp
 have HB : Hid (From w W) := by rw [hW]; exact (From.alloc _ _).alloc_ _
 have HC : Hid (GC W w.heap.size m A m c) := by rw [hW]; exact (GC.new _ _ _ _ _).keep ((Below.refl _ _).alloc (Nat.le_refl _) _)
 have HT : Hid (PO (w.heap.size + 1) W (some ⟨w.heap.size + 1, 0, none⟩) 0 []) := by
  have := PO.nil (w.alloc (Obj.cells #[Value.int IntKind.i64 m, Value.slice A m c] 26))
  rw [hz0] at this
  rw [hW]; exact this
 obtain ⟨F, hF⟩ : ∃ F, F = 2 ^ m - 1 := ⟨_, rfl⟩
 have hpos := Nat.two_pow_pos m
 have hFm : F < 2 ^ m := by omega
 have HI0 : Hid ((plF r m 128 F).map (fun l => ([] : List Pr) ++ l) = plO r m) := by
  show _ = _
  rw [hF]
  unfold plO
  cases plF r m 128 (2 ^ m - 1) <;> simp
 have pm := pow_shl m hm7
 have pc : (2 : Int) ^ m = ((2 ^ m : Nat) : Int) := by simp
 have pe : (2 : Int) ^ m - 1 = (F : Int) := by rw [pc, hF]; omega
 have E1 : IntKind.i64.wrap ((2 : Int) ^ m - 1) = (F : Int) := by rw [pe]; exact Go.IntWalk.i64_in (F : Int) (by rw [hF]; omega)
 have E2 : wrap64 ((2 : Int) ^ m - 1) = (F : Int) := by rw [pe]; exact Go.IntWalk.wrap64_in (F : Int) (by rw [hF]; omega)
 have HW := Lib.hid hW
 clear hW h hF hz0 pc pe hpos
 go_enter Tryz.func134, Tryz.ntmps134
 have e0 := HC.out.c0
 have e1 := HC.out.c1
 go_wp2_with fail
 rw [← HW.out]
 refine (IsGraph_sv (HGw.out.keep HB.out.below)).mono ?_
 rintro e w1 ⟨rfl, hb1⟩
 clear HW
 clear e0 e1
 replace HB := Lib.hid (HB.out.keep hb1)
 replace HC := Lib.hid (HC.out.keep hb1)
 replace HT := Lib.hid (HT.out.keep hb1)
 clear hb1
 have e0 := HC.out.c0
 have e1 := HC.out.c1
 go_wp2
 clear e0 e1 E1 E2 pm
 go_loopw [4, 5] (fun o l wr => ∃ (s f c' : Nat) (A' : Option Addr) (T : List Pr), s < f ∧ T.length + f ≤ 128 ∧ s < 2 ^ m ∧ l = .int .i64 s ∧ o = .slice A' T.length c' ∧ Hid ((plF r m f s).map (fun l => T ++ l) = plO r m) ∧ Hid (PO (w.heap.size + 1) wr A' c' T) ∧ Hid (GC wr w.heap.size m A m c) ∧ Hid (From w wr)) (fun _ l _ => (intOf l).toNat)
 case atStart => exact ⟨F, 128, 0, _, [], by omega, by simp, hFm, rfl, rfl, HI0, HT, HC, HB⟩
 case round =>
  clear HT HC HB
  obtain ⟨s, f, c', A', T, hsf, hTf, hsm, rfl, rfl, HI, HT, HC, HB⟩ := hrel
  obtain ⟨f, rfl⟩ : ∃ g, f = g + 1 := ⟨f - 1, by omega⟩
  by_cases hs0 : s = 0
  ·subst hs0
   have HE : Hid (plO r m = some T) := plF_all HI.out
   go_wp2
   go_ret2
   rw [HE.out]
   exact ⟨_, _, rfl, HT.out.mono (Nat.le_succ _), HB.out.below⟩
  have j0 : (0 : Int) < (s : Int) := by omega
  have jn : 0 < s := by omega
  have hs128 : s < 128 := by omega
  have H0 := Lib.hid hs0
  clear hs0
  go_wp2
  go_loopw [4, 5, 6, 7] (fun o l fd i wz => ∃ (u s2 c2 : Nat) (b : Bool) (A2 : Option Addr) (T2 : List Pr), u ≤ m ∧ o = .slice A2 T2.length c2 ∧ l = .int .i64 s2 ∧ fd = .bool b ∧ i = .int .i64 u ∧ Hid ((b = false → A2 = A' ∧ c2 = c' ∧ T2 = T ∧ s2 = s ∧ ∀ j, j < u → pvB r m s j = false) ∧ (b = true → (plF r m f s2).map (fun l => T2 ++ l) = plO r m ∧ s2 < s ∧ T2.length = T.length + 1)) ∧ Hid (PO (w.heap.size + 1) wz A2 c2 T2) ∧ Hid (GC wz w.heap.size m A m c) ∧ Hid (From w wz)) (fun _ _ _ i _ => m - (intOf i).toNat)
  case atStart => exact ⟨0, s, c', false, A', T, Nat.zero_le _, rfl, rfl, rfl, rfl, ⟨fun _ => ⟨rfl, rfl, rfl, rfl, fun _ h => absurd h (by omega)⟩, fun h => by cases h⟩, HT, HC, HB⟩
  case round =>
   clear HT HC HB
   obtain ⟨u, s2, c2, b, A2, T2, hu, rfl, rfl, rfl, rfl, HS, HT, HC, HB⟩ := hrel
   have e0 := HC.out.c0
   cases b
   rotate_left
   ·obtain ⟨g1, g2, g3⟩ := HS.out.2 rfl
    have G1 := Lib.hid g1
    clear g1
    by_cases hum : u < m
    ·have i1 : (u : Int) < (m : Int) := by omega
     go_wp2
     go_roundw
     case rel => exact ⟨s2, f, c2, A2, T2, by omega, by omega, by omega, rfl, rfl, G1, HT, HC, HB⟩
     case measure => (simp [intOf] <;> omega)
    ·obtain rfl : u = m := by omega
     have i1 : (u : Int) ≤ (u : Int) := Int.le_refl _
     go_wp2
     go_roundw
     case rel => exact ⟨s2, f, c2, A2, T2, by omega, by omega, by omega, rfl, rfl, G1, HT, HC, HB⟩
     case measure => (simp [intOf] <;> omega)
   obtain ⟨rfl, rfl, rfl, rfl, hall⟩ := HS.out.1 rfl
   have HA := Lib.hid hall
   clear hall HS
   by_cases hum : u < m
   rotate_left
   ·obtain rfl : u = m := by omega
    have i1 : (u : Int) ≤ (u : Int) := Int.le_refl _
    have HE : Hid (plO r u = none) := plF_stop HI.out H0.out (lsK_no HA.out)
    have HN : Hid (prQ w none (.returned (.tuple #[.slice (some ⟨wr.heap.size, 0, none⟩) 0 0, .bool false])) (wr.alloc (Obj.cells #[] 149))) := ⟨_, 0, rfl, (PO.nil wr).mono HB.out.below.size, bl_alloc HB.out.below⟩
    go_wp2
    exact bodyPost_ret (v := .tuple #[.slice (some ⟨wr.heap.size, 0, none⟩) 0 0, .bool false]) (by simp [results, Tryz.results134, go_sem, *]) rfl (by rw [HE.out]; exact HN.out)
   have i1 : (u : Int) < (m : Int) := by omega
   have E3 : (bits .and .i64 ((s2 : Int) / 2 ^ u) 1 == 0) = !s2.testBit u := by simpa using and_one_i64' (s2 : Int) u (by omega) (by omega)
   cases hub : s2.testBit u
   ·have E4 : (bits .and .i64 ((s2 : Int) / 2 ^ u) 1 == 0) = true := by rw [E3, hub]; rfl
    clear E3
    have HA2 : Hid (∀ j, j < u + 1 → pvB r m s2 j = false) := fun j h => by
     by_cases hjk : j < u
     ·exact HA.out j hjk
     ·obtain rfl : j = u := by omega
      unfold pvB; rw [hub]; rfl
    clear hub
    go_wp2
    go_roundw
    case rel => exact ⟨u + 1, s2, c2, false, A2, T2, by omega, rfl, rfl, rfl, by go_num, ⟨fun _ => ⟨rfl, rfl, rfl, rfl, HA2.out⟩, fun h => by cases h⟩, HT, HC, HB⟩
    case measure => (simp [intOf] <;> omega)
   have E4 : (bits .and .i64 ((s2 : Int) / 2 ^ u) 1 == 0) = false := by rw [E3, hub]; rfl
   clear E3
   have KP : Hid (∀ z : World, From w z → Calls Tryz.prog 200 #[.agg #[.int .i64 m, .slice A m c], .int .i64 (u : Int), .int .i64 (s2 : Int)] z fun e w' => e = .returned (prZ u (pnO r m s2 u)) ∧ Below z.heap.size z w') := fun z hz => l21Prune_sv (HGw.out.keep hz.below) hsm hum hub
   obtain ⟨o, ho⟩ : ∃ o, o = pnO r m s2 u := ⟨_, rfl⟩
   rw [← ho] at KP
   have HPV : Hid (pvB r m s2 u = o.isSome) := by show _ = _; unfold pvB; rw [hub, ho]; rfl
   have Ho := Lib.hid ho
   have e1 := HC.out.c1
   clear ho
   rcases o with _ | ⟨kk, a⟩
   ·have HA2 : Hid (∀ j, j < u + 1 → pvB r m s2 j = false) := fun j h => by
     by_cases hjk : j < u
     ·exact HA.out j hjk
     ·obtain rfl : j = u := by omega
      rw [HPV.out]; rfl
    clear hub
    go_wp2_with fail
    refine (KP.out _ HB.out).mono ?_
    rintro e w5 ⟨rfl, hb5⟩
    unfold prZ
    obtain ⟨W6, hW6⟩ : ∃ W6 : World, W6 = (w5.alloc (Obj.cells #[.int .i64 0, .int .i64 0, .int .i64 0] 149)) := ⟨_, rfl⟩
    have hb6 : Below w5.heap.size w5 W6 := by rw [hW6]; exact (Below.refl _ _).alloc (Nat.le_refl _) _
    have HB6 : Hid (From w W6) := (HB.out.keep hb5).keep hb6
    have HC6 : Hid (GC W6 w.heap.size m A m c) := (HC.out.keep hb5).keep hb6
    have HT6 : Hid (PO (w.heap.size + 1) W6 A2 c2 T2) := (HT.out.keep hb5).keep hb6
    have HW6 := Lib.hid hW6
    clear hW6 hb5 hb6 HB HC HT KP e0 e1 HA E4
    go_wp2
    rw [← HW6.out]
    go_roundw
    case rel => exact ⟨u + 1, s2, c2, false, A2, T2, by omega, rfl, rfl, rfl, by go_num, ⟨fun _ => ⟨rfl, rfl, rfl, rfl, HA2.out⟩, fun h => by cases h⟩, HT6, HC6, HB6⟩
    case measure => (simp [intOf] <;> omega)
   ·have HPK : Hid (pvK r m s2 = some u) := lsK_yes hum (by rw [HPV.out]; rfl) HA.out
    have HI2 : Hid ((plF r m f (s2 ^^^ 2 ^ u)).map (fun l => (T2 ++ [(u, kk, a)]) ++ l) = plO r m) := plF_step HI.out H0.out HPK.out Ho.out.symm
    obtain ⟨hx1, hx2⟩ := xor_less hub
    have hpu := two_pow_le (n := u) (by omega)
    obtain ⟨y, hy⟩ : ∃ y, y = s2 ^^^ 2 ^ u := ⟨_, rfl⟩
    rw [← hy] at HI2 hx1 hx2
    have pc : (2 : Int) ^ u = ((2 ^ u : Nat) : Int) := by simp
    have F1 : wrap64 ((s2 : Int) - 2 ^ u) = (y : Int) := by
     rw [pc, Go.IntWalk.wrap64_in _ (by omega)]; omega
    have F2 : IntKind.i64.wrap ((s2 : Int) - 2 ^ u) = (y : Int) := by
     rw [pc, Go.IntWalk.i64_in _ (by omega)]; omega
    have pu := pow_shl u (by omega)
    have hT7 : T2.length ≤ 1048576 := by omega
    have HS2 : Hid ((true = false → some ⟨0, 0, none⟩ = A2 ∧ False) ∧ True) := ⟨fun h => (by cases h), trivial⟩
    clear hy hx2 hpu pc hub HS2
    go_wp2_with fail
    refine (KP.out _ HB.out).mono ?_
    rintro e w5 ⟨rfl, hb5⟩
    unfold prZ
    have hb6 : Below w5.heap.size w5 (w5.alloc (Obj.cells #[.int .i64 (u : Int), .int .i64 (kk : Int), .int .i64 a] 149)) := (Below.refl _ _).alloc (Nat.le_refl _) _
    have HB6 : Hid (From w (w5.alloc (Obj.cells #[.int .i64 (u : Int), .int .i64 (kk : Int), .int .i64 a] 149))) := (HB.out.keep hb5).keep hb6
    have HC6 : Hid (GC (w5.alloc (Obj.cells #[.int .i64 (u : Int), .int .i64 (kk : Int), .int .i64 a] 149)) w.heap.size m A m c) := (HC.out.keep hb5).keep hb6
    have HT6 : Hid (PO (w.heap.size + 1) (w5.alloc (Obj.cells #[.int .i64 (u : Int), .int .i64 (kk : Int), .int .i64 a] 149)) A2 c2 T2) := (HT.out.keep hb5).keep hb6
    have HL6 : Hid (w.heap.size + 1 ≤ (w5.alloc (Obj.cells #[.int .i64 (u : Int), .int .i64 (kk : Int), .int .i64 a] 149)).heap.size) := HC6.out.lt
    clear hb5 hb6 HB HC HT KP e0 e1 HA E4
    go_wp2_with (first | (at_builtin; (refine wpList_pushPr (w5.alloc (Obj.cells #[.int .i64 (u : Int), .int .i64 (kk : Int), .int .i64 a] 149)) rfl _ _ rfl (w.heap.size + 1) A2 c2 T2 HT6.out HL6.out u kk a rfl 1 (w5.heap.size + 1) (by simp) rfl (by omega) ?_; intro g7 c7 w7 hT7' hb7)))
    have HB7 : Hid (From w w7) := ⟨HB6.out.below.trans (hb7.mono (Nat.le_succ _))⟩
    have HC7 : Hid (GC w7 w.heap.size m A m c) := ⟨up hb7 HC6.out.c0 (Nat.lt_succ_self _), up hb7 HC6.out.c1 (Nat.lt_succ_self _), upf hb7 HC6.out.f0 (Nat.lt_succ_self _), upf hb7 HC6.out.f1 (Nat.lt_succ_self _)⟩
    have HT7 := Lib.hid hT7'
    clear hT7' hb7 HT6 HC6 HB6 HL6
    go_wp2
    go_roundw
    case rel => exact ⟨u + 1, y, c7, true, some ⟨g7, 0, none⟩, T2 ++ [(u, kk, a)], by omega, by rw [List.length_append]; rfl, rfl, rfl, by go_num, ⟨fun h => (by cases h), fun _ => ⟨HI2.out, hx1, by rw [List.length_append]; rfl⟩⟩, HT7, HC7, HB7⟩
    case measure => (simp [intOf] <;> omega)
set_option maxRecDepth 100000 in
set_option maxHeartbeats 1600000 in
theorem IsHereditary_sv (h : GV w A m c r) :
 Calls Tryz.prog 77 #[.agg #[.int .i64 m, .slice A m c]] w fun e w' => e = .returned (.bool (plO r m).isSome) ∧ Below w.heap.size w w' := by
 have K1 := Lib.hid (fun z (hz : Below w.heap.size w z) => PruneOrder_sv (h.keep hz))
 obtain ⟨o, ho⟩ : ∃ o, o = plO r m := ⟨_, rfl⟩
 rw [← ho] at K1 ⊢
 clear ho
 obtain ⟨W, hW⟩ : ∃ W : World, W = (w.alloc (Obj.cells #[Value.int IntKind.i64 m, Value.slice A m c] 26)) := ⟨_, rfl⟩
 have HB : Hid (From w W) := by rw [hW]; exact From.alloc _ _
 have HG : Hid (GBox W w.heap.size A m c r) := by rw [hW]; exact h.box
 have HW := Lib.hid hW
 clear hW h
 have e0 := HG.out.c0
 have e1 := HG.out.c1
 go_enter Tryz.func77, Tryz.ntmps77
 rcases o with _ | t
 ·go_wp2_with fail
  rw [← HW.out]
  refine (K1.out _ HB.out.below).mono ?_
  rintro e w2 ⟨A1, c1, rfl, _, hb2⟩
  have HB2 := Lib.hid (HB.out.keep hb2)
  clear HB HG hb2 e0 e1
  go_wp2
  go_ret
  exact ⟨rfl, HB2.out.below⟩
 ·go_wp2_with fail
  rw [← HW.out]
  refine (K1.out _ HB.out.below).mono ?_
  rintro e w2 ⟨A1, c1, rfl, _, hb2⟩
  have HB2 := Lib.hid (HB.out.keep hb2)
  clear HB HG hb2 e0 e1
  go_wp2
  go_ret
  exact ⟨rfl, HB2.out.below⟩
end
end Go.Proofs.YtfabbohijhjpcaaGreatDoor
