/-
  Several texts in one.
-/
import Derived.Test.YtdpkbfiggbcclaaGreatQkSimP
import Derived.Test.YtdpkbfiggbcclaaGreatQkSet2S
/-
-/
namespace Go.Proofs.YtdpkbfiggbcclaaGreat
open Go.RowKit
theorem l1In_ts {n lo hi : Int} (w : World) (h1 : lo ≤ n) (h2 : n ≤ hi) : Calls Tryz.prog 191 #[.int .i64 n, .int .i64 lo, .int .i64 hi] w fun e w' => e = .returned (.bool true) ∧ Below w.heap.size w w' :=
 (l1In_yes n lo hi w h1 h2).mono fun _ _ ⟨h1, h2⟩ => ⟨h1, h2 ▸ Below.refl _ _⟩
theorem sim_no' {r : Nat → Nat} {s v i k : Nat} {T : List Nat} (hT : T = listN (nN r s v)) (hi : i < T.length) (hk : k < i) (h1 : nN r s (T.getD i 0) &&& nN r s (T.getD k 0) ≠ nN r s (T.getD i 0)) (h2 : nN r s (T.getD i 0) &&& nN r s (T.getD k 0) ≠ nN r s (T.getD k 0)) : simB r v s = false :=
 sim_no hT hi hk fun h => by rcases h with h | h <;> contradiction
theorem nN_read {r : Nat → Nat} {m s u : Nat} (hV : VG m r) (hu : u < m) (hs : s < 128) : ∃ y z nu : Nat, y = r u ∧ IntKind.i64.wrap ((2 : Int) ^ u) = (z : Int) ∧ bits .or .i64 (y : Int) (z : Int) = ((y ||| z : Nat) : Int) ∧ bits .and .i64 ((y ||| z : Nat) : Int) (s : Int) = (nu : Int) ∧ nu = nN r s u ∧ nu < 128 := by
 have hn7 := hV.n7
 have hr := hV.lt128 hu
 have h2u := two_pow_le (n := u) (by omega)
 have hor : r u ||| 2 ^ u < 2 ^ 8 := Nat.or_lt_two_pow (by omega) (by omega)
 refine ⟨r u, 2 ^ u, nN r s u, rfl, ?_, i64_or_nat _ _ (by omega) (by omega), i64_and_nat _ _ (by omega) (by omega), rfl, ?_⟩
 ·rw [pow_shl u (by omega)]; simp
 ·exact Nat.lt_of_le_of_lt Nat.and_le_right hs
set_option maxRecDepth 100000 in
set_option maxHeartbeats 6400000 in
theorem IsSimple_sv {A : Option Addr} {m c : Nat} {r : Nat → Nat} {s v : Nat} {w : World} (h : GV w A m c r) (hs : s < 2 ^ m) (hv : v < m) :
 Calls Tryz.prog 340 #[.agg #[.int .i64 m, .slice A m c], .int .i64 v, .int .i64 s] w fun e w' => e = .returned (.bool (simB r v s)) ∧ Below w.heap.size w w' := by
 have hn7 := h.vg.n7
 have h128 := two_pow_le hn7
 have HV := Lib.hid h.vg
 obtain ⟨b0, o0, rfl⟩ := h.addr
 obtain ⟨W, hW⟩ : ∃ W : World, W = (w.alloc (Obj.cells #[Value.int IntKind.i64 m, Value.slice (some ⟨b0, o0, none⟩) m c] 28)) := ⟨_, rfl⟩
 have HB : Hid (From w W) := by rw [hW]; exact From.alloc _ _
 have HG : Hid (GBox W w.heap.size (some ⟨b0, o0, none⟩) m c r) := by rw [hW]; exact h.box
 have HW := Lib.hid hW
 clear hW h
 have e0 := HG.out.c0
 have e1 := HG.out.c1
 go_enter Tryz.func340, Tryz.ntmps340
 go_wp2_with fail
 rw [← HW.out]
 refine (IsSet_sv HG.out.gv hs).mono ?_
 rintro e w1 ⟨rfl, hb1⟩
 clear HW
 clear e0 e1
 replace HB := Lib.hid (HB.out.keep hb1)
 replace HG := Lib.hid (HG.out.keep hb1)
 clear hb1
 have e0 := HG.out.c0
 have e1 := HG.out.c1
 have s1 : wrap64 ((m : Int) - 1) = (m : Int) - 1 := Go.IntWalk.wrap64_in _ (by omega)
 go_wp2_with fail
 refine (l1In_ts (n := (v : Int)) (lo := 0) (hi := (m : Int) - 1) w1 (by omega) (by omega)).mono ?_
 rintro e w2 ⟨rfl, hb2⟩
 clear e0 e1
 replace HB := Lib.hid (HB.out.keep hb2)
 replace HG := Lib.hid (HG.out.keep hb2)
 clear hb2
 have e0 := HG.out.c0
 have e1 := HG.out.c1
 have E0 : (bits .and .i64 ((s : Int) / 2 ^ v) 1 == 0) = !s.testBit v := by
  have := and_one_i64' (s : Int) v (by omega) (by omega)
  simpa using this
 cases hb : s.testBit v
 ·have Hn : Hid (simB r v s = false) := sim_out hb
  rw [hb] at E0
  clear hb
  go_wp2
  go_ret
  exact ⟨ret_bool Hn.out.symm, HB.out.below⟩
 rw [hb] at E0
 have Hb := Lib.hid hb
 clear hb
 have q0 := HG.out.gv.row hv
 obtain ⟨y, z, t, hy, p1, E1, E2, ht, ht7⟩ := nN_read (s := s) HV.out hv (by omega)
 rw [← hy] at q0
 have i1 : (v : Int) < (m : Int) := by omega
 have KL : Hid (∀ z : World, Below w2.heap.size w2 z → Calls Tryz.prog 187 #[.int .i64 (t : Int)] z fun e w' => ∃ A c, e = .returned (.slice A (listN t).length c) ∧ ON w2.heap.size w' A c (listN t) ∧ Below z.heap.size z w') := fun z hz =>
  (ListOf_sv t ht7 z).mono fun _ _ ⟨A, c, h1, h2, h3⟩ => ⟨A, c, h1, h2.mono hz.size, h3⟩
 have hL7 : (listN t).length ≤ 7 := listN_len t
 have htm : t < 2 ^ m := by rw [ht]; exact nN_lt hs
 have HTm : Hid (∀ j, j < (listN t).length → (listN t).getD j 0 < m) := fun j hj => listN_lt htm hj
 obtain ⟨T, hT⟩ : ∃ T, T = listN t := ⟨_, rfl⟩
 rw [← hT] at KL hL7 HTm
 have HT : Hid (T = listN (nN r s v)) := by rw [← ht]; exact hT
 clear ht hT htm s1 hy
 go_wp2
 have HSC : Hid (∀ z : World, Below w2.heap.size w2 z → (Below w2.heap.size w2 z ∧ z.cell? ⟨w.heap.size, 0, none⟩ = some (.int .i64 m) ∧ z.cell? ⟨w.heap.size, 1, none⟩ = some (.slice (some ⟨b0, o0, none⟩) m c) ∧ z.cell? ⟨b0, o0 + v, none⟩ = some (.int .i64 (y : Int)))) := fun z hz => ⟨hz, up_ hz e0, up_ hz e1, up_ hz q0⟩
 have HZ0 : Hid (Below w2.heap.size w2 w2.drew) := (Below.refl _ _).drew
 have HS1 := Lib.hid (HSC.out _ HZ0.out)
 have KR1 : Hid (∀ z : World, Below w2.heap.size w2 z → _) := fun z hz => KL.out _ hz
 go_region_held3 (fun z => Below w2.heap.size w2 z ∧ z.cell? ⟨w.heap.size, 0, none⟩ = some (.int .i64 m) ∧ z.cell? ⟨w.heap.size, 1, none⟩ = some (.slice (some ⟨b0, o0, none⟩) m c) ∧ z.cell? ⟨b0, o0 + v, none⟩ = some (.int .i64 (y : Int)))
  (first | exact HS1.out | assumption | exact HSC.out _ hz3 | fail)
  (first | (go_at_call 187; ((with_reducible refine (KR1.out _ HZ0.out).mono ?_); rintro e w3 ⟨AL, cL, rfl, hOL, hb3⟩; have hz3 := bl_trans HZ0.out hb3)))
 clear e0 e1
 replace HB := Lib.hid (HB.out.keep hz3)
 replace HG := Lib.hid (HG.out.keep hz3)
 clear hb3 hz3 HSC HZ0 HS1 KR1
 have e0 := HG.out.c0
 have e1 := HG.out.c1
 have HOL : Hid (LN w3 AL cL T) := hOL.ln
 have HR0 : Hid (From w3 w3) := From.refl w3
 clear hOL KL p1 E0 E1 E2 q0 e0 e1
 go_wp2
 go_loopw [8] (fun iv wr => ∃ i : Nat, i ≤ T.length ∧ iv = .int .i64 i ∧ Hid (Sm1 r s T i) ∧ Hid (From w3 wr)) (fun iv _ => T.length - (intOf iv).toNat)
 case atStart => exact ⟨0, Nat.zero_le _, rfl, Sm1.zero, HR0⟩
 case round =>
  clear HR0
  obtain ⟨i, hi, rfl, H1, HR⟩ := hrel
  by_cases hiT : i < T.length
  ·have i1 : (i : Int) < (T.length : Int) := by omega
   go_wp2
   go_loopw [9] (fun kv wr => ∃ k : Nat, k ≤ i ∧ kv = .int .i64 k ∧ Hid (∀ j, j < k → Cm (nN r s (T.getD i 0)) (nN r s (T.getD j 0))) ∧ Hid (From w3 wr)) (fun kv _ => i - (intOf kv).toNat)
   case atStart => exact ⟨0, Nat.zero_le _, rfl, (fun j hj => absurd hj (by omega)), HR⟩
   case round =>
    clear HR
    obtain ⟨k, hk, rfl, H2, HR⟩ := hrel
    by_cases hki : k < i
    ·have i2 : (k : Int) < (i : Int) := by omega
     have i3 : (k : Int) < (T.length : Int) := by omega
     have HBr := Lib.hid (HB.out.up HR.out)
     have HLr := Lib.hid (HOL.out.keep HR.out.below)
     have HGr := Lib.hid (HG.out.keep HR.out.below)
     have e0 := HGr.out.c0
     have e1 := HGr.out.c1
     obtain ⟨bl, ol, rfl⟩ := HLr.out.addr (by omega)
     have p0 := HLr.out.cell hiT
     have p1 := HLr.out.cell (show k < T.length by omega)
     have hu := HTm.out i hiT
     have hu2 := HTm.out k (by omega)
     obtain ⟨u, hu'⟩ : ∃ u, u = T.getD i 0 := ⟨_, rfl⟩
     obtain ⟨u2, hu2'⟩ : ∃ u2, u2 = T.getD k 0 := ⟨_, rfl⟩
     rw [← hu'] at p0 hu
     rw [← hu2'] at p1 hu2
     have q0 := HGr.out.gv.row hu
     have q1 := HGr.out.gv.row hu2
     obtain ⟨y1, z1, a, hy1, P1, E1, E2, ha, ha7⟩ := nN_read (s := s) HV.out hu (by omega)
     obtain ⟨y2, z2, b, hy2, P2, E3, E4, hb, hb7⟩ := nN_read (s := s) HV.out hu2 (by omega)
     rw [← hy1] at q0
     rw [← hy2] at q1
     have i4 : (u : Int) < (m : Int) := by omega
     have i5 : (u2 : Int) < (m : Int) := by omega
     have E5 := i64_and_nat a b (by omega) (by omega)
     have Hp : Hid ((a &&& b = a ∨ a &&& b = b) → Cm (nN r s (T.getD i 0)) (nN r s (T.getD k 0))) := fun h => by rw [← hu', ← hu2', ← ha, ← hb]; exact h
     have Hq : Hid (a &&& b ≠ a → a &&& b ≠ b → simB r v s = false) := fun h1 h2 => sim_no' HT.out hiT hki (by rw [← hu', ← hu2', ← ha, ← hb]; exact h1) (by rw [← hu', ← hu2', ← ha, ← hb]; exact h2)
     obtain ⟨ab, hab⟩ : ∃ ab, ab = a &&& b := ⟨_, rfl⟩
     rw [← hab] at E5 Hp Hq
     clear hu' hu2' hy1 hy2 ha hb hab
     by_cases h1 : ab = a
     ·have H2' : Hid (∀ j, j < k + 1 → Cm (nN r s (T.getD i 0)) (nN r s (T.getD j 0))) := fun j hj => by
       by_cases e : j < k
       ·exact H2.out j e
       ·obtain rfl : j = k := by omega
        exact Hp.out (.inl h1)
      have d1 : ((ab : Int) != (a : Int)) = false := by simp; omega
      clear h1 hu hu2
      go_wp2
      go_quiet (fail)
      go_wp2
      go_quiet (fail)
      go_wp2
      go_roundw
      case rel => exact ⟨k + 1, by omega, by go_num, H2', HR.out.drewN _⟩
      case measure => (simp [intOf] <;> omega)
     ·have d1 : ((ab : Int) != (a : Int)) = true := by simp; omega
      by_cases h2 : ab = b
      ·have H2' : Hid (∀ j, j < k + 1 → Cm (nN r s (T.getD i 0)) (nN r s (T.getD j 0))) := fun j hj => by
        by_cases e : j < k
        ·exact H2.out j e
        ·obtain rfl : j = k := by omega
         exact Hp.out (.inr h2)
       have d2 : ((ab : Int) != (b : Int)) = false := by simp; omega
       clear h1 h2 hu hu2
       go_wp2
       go_quiet (fail)
       go_wp2
       go_quiet (fail)
       go_wp2
       go_roundw
       case rel => exact ⟨k + 1, by omega, by go_num, H2', HR.out.drewN _⟩
       case measure => (simp [intOf] <;> omega)
      ·have d2 : ((ab : Int) != (b : Int)) = true := by simp; omega
       have Hn := Lib.hid (Hq.out h1 h2)
       clear h1 h2 hu hu2
       go_wp2
       go_quiet (fail)
       go_wp2
       go_quiet (fail)
       go_wp2
       go_ret
       exact ⟨ret_bool Hn.out.symm, (HBr.out.drewN _).below⟩
    ·have H1' : Hid (Sm1 r s T (i + 1)) := H1.out.step fun j hj => H2.out j (by omega)
     have i2 : (i : Int) ≤ (k : Int) := by omega
     go_wp2
     go_roundw
     case rel => exact ⟨i + 1, by omega, by go_num, H1', HR⟩
     case measure => (simp [intOf] <;> omega)
  ·have Hy : Hid (simB r v s = true) := sim_yes Hb.out (by rw [← HT.out]; exact fun i' hi' => H1.out i' (by omega))
   have HBr := Lib.hid (HB.out.up HR.out)
   have i1 : (T.length : Int) ≤ (i : Int) := by omega
   go_wp2
   go_ret
   exact ⟨ret_bool Hy.out.symm, HBr.out.below⟩
end Go.Proofs.YtdpkbfiggbcclaaGreat

/-
-/
namespace Go.Proofs.YtdpkbfiggbcclaaGreat
open Go.RowKit
set_option maxRecDepth 100000 in
set_option maxHeartbeats 3200000 in
theorem l33Simple_v {A : Option Addr} {m c : Nat} {r : Nat → Nat} {Al : Option Addr} {n cl : Nat} {l : List Int} {w : World} (h : GV w A m c r) (hl : LI w Al n cl l) (hV : VZ m l) (hlen : l.length = m) :
 Calls Tryz.prog 237 #[.agg #[.int .i64 m, .slice A m c], .slice Al n cl] w fun e w' => e = .returned (.bool ((List.range l.length).all fun j => simB r (l.getD j 0).toNat (lfN l j))) ∧ Below w.heap.size w w' := by
 have hn7 := h.vg.n7
 have h128 := two_pow_le hn7
 have hpos := Nat.two_pow_pos m
 have HL := Lib.hid hl
 have HN := Lib.hid hl.len
 have HV := Lib.hid hV
 obtain ⟨F, hF⟩ : ∃ F, F = 2 ^ m := ⟨_, rfl⟩
 have p0 : IntKind.i64.wrap ((2 : Int) ^ m) = (F : Int) := by rw [pow_shl m hn7, hF]; simp
 have s0 : wrap64 ((F : Int) - 1) = (lfN l 0 : Nat) := by rw [lf_zero hV hlen, ← hF, Go.IntWalk.wrap64_in _ (by omega)]; omega
 have hn8 : n ≤ 7 := by rw [hl.len, hlen]; exact hn7
 clear hl hV hlen hF hpos
 obtain ⟨W, hW⟩ : ∃ W : World, W = (w.alloc (Obj.cells #[Value.int IntKind.i64 m, Value.slice A m c] 28)) := ⟨_, rfl⟩
 have HB : Hid (From w W) := by rw [hW]; exact From.alloc _ _
 have HG : Hid (GBox W w.heap.size A m c r) := by rw [hW]; exact h.box
 have HW := Lib.hid hW
 clear hW h
 have e0 := HG.out.c0
 have e1 := HG.out.c1
 replace HL := Lib.hid (HL.out.keep HB.out.below)
 have HR0 : Hid (From W W) := From.refl W
 have hlt0 := HG.out.lt
 go_enter Tryz.func237, Tryz.ntmps237
 go_wp2_with fail
 rw [← HW.out]
 clear HW
 go_wp2
 clear e0 e1
 go_loopw [5, 6] (fun sv iv wr => ∃ k : Nat, k ≤ n ∧ sv = .int .i64 (lfN l k : Nat) ∧ iv = .int .i64 k ∧ Hid (∀ j, j < k → simB r (l.getD j 0).toNat (lfN l j) = true) ∧ Hid (From W wr)) (fun _ iv _ => n - (intOf iv).toNat)
 case atStart => exact ⟨0, Nat.zero_le _, by first | rfl | exact congrArg (Value.int .i64) s0 | (rw [s0]), rfl, (fun j hj => absurd hj (by omega)), HR0⟩
 case round =>
  clear HR0 p0 s0
  obtain ⟨k, hk, rfl, rfl, H1, HR⟩ := hrel
  have HBr := Lib.hid (HB.out.up HR.out)
  by_cases hkn : k < n
  ·have i1 : (k : Int) < (n : Int) := by omega
   have HLr := Lib.hid (HL.out.keep HR.out.below)
   have HGr := Lib.hid (HG.out.keep HR.out.below)
   have e0 := HGr.out.c0
   have e1 := HGr.out.c1
   obtain ⟨bl, ol, rfl⟩ := HLr.out.addr (by omega)
   have p0 := HLr.out.at hkn
   have hkl : k < l.length := by rw [← HN.out]; exact hkn
   obtain ⟨d, hd, hdm, hbit, hsub, _⟩ := lf_at HV.out hkl
   rw [hd] at p0
   have hs := lf_lt (k := k) HV.out
   have Hd := Lib.hid hd
   obtain ⟨s, hs'⟩ : ∃ s, s = lfN l k := ⟨_, rfl⟩
   rw [← hs'] at hs hsub ⊢
   have Hs := Lib.hid hs'
   have KF : Hid (∀ z : World, Below wr.heap.size wr z → Calls Tryz.prog 340 #[.agg #[.int .i64 m, .slice A m c], .int .i64 (d : Int), .int .i64 (s : Int)] z fun e w' => e = .returned (.bool (simB r d s)) ∧ Below z.heap.size z w') := fun z hz => IsSimple_sv (HGr.out.gv.keep hz) hs hdm
   have h2d := two_pow_le (n := d) (by omega)
   obtain ⟨z, hz⟩ : ∃ z, z = 2 ^ d := ⟨_, rfl⟩
   have p1 : IntKind.i64.wrap ((2 : Int) ^ d) = (z : Int) := by rw [pow_shl d (by omega), hz]; simp
   rw [← hz] at hsub h2d
   obtain ⟨s2, hs2⟩ : ∃ s2, s2 = lfN l (k + 1) := ⟨_, rfl⟩
   rw [← hs2] at hsub
   have Hs2 := Lib.hid hs2
   have s3 : wrap64 ((s : Int) - (z : Int)) = (s2 : Int) := by rw [Go.IntWalk.wrap64_in _ (by omega)]; omega
   clear hd hs' hz hsub hs2 h2d hbit
   cases hp : simB r d s
   ·rw [hp] at KF
    have Hn : Hid (((List.range l.length).all fun j => simB r (l.getD j 0).toNat (lfN l j)) = false) := all_snoc (p := fun j => simB r (l.getD j 0).toNat (lfN l j)) hkl (by show simB r (l.getD k 0).toNat (lfN l k) = _; rw [Hd.out, Int.toNat_natCast, ← Hs.out]; exact hp)
    clear hp
    go_wp2
    have HSC : Hid (∀ z : World, Below wr.heap.size wr z → (Below wr.heap.size wr z ∧ z.cell? ⟨w.heap.size, 0, none⟩ = some (.int .i64 m) ∧ z.cell? ⟨w.heap.size, 1, none⟩ = some (.slice A m c) ∧ z.cell? ⟨bl, ol + k, none⟩ = some (.int .i64 (d : Int)))) := fun z hz => ⟨hz, up_ hz e0, up_ hz e1, up_ hz p0⟩
    have HZ0 : Hid (Below wr.heap.size wr wr.drew) := (Below.refl _ _).drew
    have HS1 := Lib.hid (HSC.out _ HZ0.out)
    have KR1 : Hid (∀ z : World, Below wr.heap.size wr z → _) := fun z hz => KF.out _ hz
    go_region_held3 (fun z => Below wr.heap.size wr z ∧ z.cell? ⟨w.heap.size, 0, none⟩ = some (.int .i64 m) ∧ z.cell? ⟨w.heap.size, 1, none⟩ = some (.slice A m c) ∧ z.cell? ⟨bl, ol + k, none⟩ = some (.int .i64 (d : Int)))
     (first | exact HS1.out | assumption | exact HSC.out _ hz1 | fail)
     (first | (go_at_call 340; ((with_reducible refine (KR1.out _ HZ0.out).mono ?_); rintro e w1 ⟨rfl, hb1⟩; have hz1 := bl_trans HZ0.out hb1)))
    replace HR := Lib.hid (HR.out.keep hz1)
    replace HBr := Lib.hid (HBr.out.keep hz1)
    replace HLr := Lib.hid (HLr.out.keep hz1)
    clear hb1 hz1 HSC HZ0 HS1 KR1
    go_wp2
    go_ret
    exact ⟨ret_bool Hn.out.symm, HBr.out.below⟩
   ·rw [hp] at KF
    have Hp : Hid (simB r (l.getD k 0).toNat (lfN l k) = true) := by show _ = _; rw [Hd.out, Int.toNat_natCast, ← Hs.out]; exact hp
    clear hp
    go_wp2
    have HSC : Hid (∀ z : World, Below wr.heap.size wr z → (Below wr.heap.size wr z ∧ z.cell? ⟨w.heap.size, 0, none⟩ = some (.int .i64 m) ∧ z.cell? ⟨w.heap.size, 1, none⟩ = some (.slice A m c) ∧ z.cell? ⟨bl, ol + k, none⟩ = some (.int .i64 (d : Int)))) := fun z hz => ⟨hz, up_ hz e0, up_ hz e1, up_ hz p0⟩
    have HZ0 : Hid (Below wr.heap.size wr wr.drew) := (Below.refl _ _).drew
    have HS1 := Lib.hid (HSC.out _ HZ0.out)
    have KR1 : Hid (∀ z : World, Below wr.heap.size wr z → _) := fun z hz => KF.out _ hz
    go_region_held3 (fun z => Below wr.heap.size wr z ∧ z.cell? ⟨w.heap.size, 0, none⟩ = some (.int .i64 m) ∧ z.cell? ⟨w.heap.size, 1, none⟩ = some (.slice A m c) ∧ z.cell? ⟨bl, ol + k, none⟩ = some (.int .i64 (d : Int)))
     (first | exact HS1.out | assumption | exact HSC.out _ hz2 | fail)
     (first | (go_at_call 340; ((with_reducible refine (KR1.out _ HZ0.out).mono ?_); rintro e w2 ⟨rfl, hb2⟩; have hz2 := bl_trans HZ0.out hb2)))
    replace HR := Lib.hid (HR.out.keep hz2)
    replace HBr := Lib.hid (HBr.out.keep hz2)
    replace HLr := Lib.hid (HLr.out.keep hz2)
    clear hb2 hz2 HSC HZ0 HS1 KR1
    clear p0
    have p0 := HLr.out.at hkn
    rw [Hd.out] at p0
    go_wp2
    go_roundw
    case rel =>
     refine ⟨k + 1, by omega, by rw [s3, Hs2.out], by go_num, fun j hj => ?_, HR⟩
     by_cases e : j < k
     ·exact H1.out j e
     ·obtain rfl : j = k := by omega
      exact Hp.out
    case measure => (simp [intOf] <;> omega)
  ·obtain rfl : n = k := by omega
   have Hn : Hid (((List.range l.length).all fun j => simB r (l.getD j 0).toNat (lfN l j)) = true) := all_yes (p := fun j => simB r (l.getD j 0).toNat (lfN l j)) fun j hj => H1.out j (by rw [HN.out]; exact hj)
   go_wp2
   go_ret
   exact ⟨ret_bool Hn.out.symm, HBr.out.below⟩
end Go.Proofs.YtdpkbfiggbcclaaGreat
