/-
  Contract: the least width of all orders (the reference's).
-/
import Derived.Test.YtjonhbmgmamchaaGreatDoorRdPwtS
import Derived.Test.YtjonhbmgmamchaaGreatDoorRdGC
import Derived.Test.YtjonhbmgmamchaaGreatDoorRdBest
namespace Go.Proofs.YtjonhbmgmamchaaGreatDoor
open Go.RowKit

section
variable {A : Option Addr} {m c S v : Nat} {r : Nat → Nat} {w : World}
theorem sub_pow (hb : S.testBit v = true) : Sub (2 ^ v) S := fun u hu => by
  rw [Nat.testBit_two_pow] at hu
  obtain rfl := of_decide_eq_true hu
  exact hb
theorem l3Grow_gv (h : GV w A m c r) (hS : S < 2 ^ m) (hb : S.testBit v = true) :
    Calls Tryz.prog 55 #[.agg #[.int .i64 m, .slice A m c], .int .i64 ((2 ^ v : Nat) : Int), .int .i64 (S : Nat)] w fun e w' => e = .returned (.int .i64 (part r S (2 ^ v) : Nat)) ∧ Below w.heap.size w w' := by
  have := l3Grow_s m A c (fun v => (r v : Int)) (2 ^ v) S w w.heap.size h.rd (Nat.le_refl _) h.ok hS (sub_pow hb) (by have := Nat.two_pow_pos v; omega)
  rwa [rw_cast] at this
theorem part_ltS (hS : S < 2 ^ m) (hb : S.testBit v = true) : part r S (2 ^ v) < 2 ^ m := sub_lt (gro_sub (r := r) (sub_pow hb) 7) hS
set_option maxRecDepth 100000 in
set_option maxHeartbeats 3200000 in
theorem TreewidthOf_sv (h : GV w A m c r) :
    Calls Tryz.prog 21 #[.agg #[.int .i64 m, .slice A m c]] w fun e w' => e = .returned (.int .i64 (trI r m)) ∧ Below w.heap.size w w' := by
  have hm7 := h.vg.n7
  have hm1 := h.vg.n1
  have h128 := two_pow_le hm7
  have hpos := Nat.two_pow_pos m
  have h2m : 1 < 2 ^ m := Nat.one_lt_two_pow (by omega)
  have HP : Hid (trI r m = ((wdF (fun S v => cn (rchN r m S v)) m (2 ^ m - 1) : Nat) : Int)) := trI_is h.vg
  have HST : Hid (∀ S, S ≠ 0 → wdK (fun S v => cn (rchN r m S v)) m (wdF (fun S v => cn (rchN r m S v)) m) S m = wdF (fun S v => cn (rchN r m S v)) m S) := fun S h0 => (wdF_pos h0).symm
  have HTP : Hid (∀ S, wdF (fun S v => cn (rchN r m S v)) m S ≤ m) := fun S => wdF_top
  obtain ⟨T, hT⟩ : ∃ T : Nat → Nat, T = wdF (fun S v => cn (rchN r m S v)) m := ⟨_, rfl⟩
  obtain ⟨L, hL⟩ : ∃ L : Nat → List Nat, L = wdL (fun S v => cn (rchN r m S v)) m := ⟨_, rfl⟩
  have HLz : Hid (L 0 = [0]) := by show _ = _; rw [hL]; rfl
  have HLs : Hid (∀ n, L (n + 1) = L n ++ [T (n + 1)]) := fun n => by rw [hL, hT]; exact wdL_succ
  have HLl : Hid (∀ n, (L n).length = n + 1) := fun n => by rw [hL]; exact wdL_len
  have HLa : Hid (∀ n j, j ≤ n → (L n).getD j 0 = T j) := fun n j hj => by rw [hL, hT]; exact wdL_at hj
  rw [← hT] at HP HST HTP
  obtain ⟨F, hF⟩ : ∃ F, F = 2 ^ m := ⟨_, rfl⟩
  have p1 : IntKind.i64.wrap ((2 : Int) ^ m) = (F : Int) := by rw [pow_shl m hm7, hF]; simp
  have HFe := Lib.hid hF
  rw [← hF] at h128 hpos h2m
  clear hT hL hF
  obtain ⟨W, hW⟩ : ∃ W : World, W = (w.alloc (Obj.cells #[Value.int IntKind.i64 m, Value.slice A m c] 27)) := ⟨_, rfl⟩
  have HB : Hid (From w W) := by rw [hW]; exact From.alloc _ _
  have HG : Hid (GBox W w.heap.size A m c r) := by rw [hW]; exact h.box
  have HW := Lib.hid hW
  clear hW h
  have e0 := HG.out.c0
  have e1 := HG.out.c1
  go_enter Tryz.func21, Tryz.ntmps21
  go_wp2_with fail
  rw [← HW.out]
  refine (IsGraph_sv HG.out.gv).mono ?_
  rintro e w1 ⟨rfl, hb1⟩
  clear HW
  clear e0 e1
  replace HB := Lib.hid (HB.out.keep hb1)
  replace HG := Lib.hid (HG.out.keep hb1)
  clear hb1
  have e0 := HG.out.c0
  have e1 := HG.out.c1
  obtain ⟨W2, hW2⟩ : ∃ W2 : World, W2 = w1.alloc (Obj.cells #[.int .i64 0] 3) := ⟨_, rfl⟩
  have hb2 : Below w1.heap.size w1 W2 := by rw [hW2]; exact (Below.refl _ _).alloc (Nat.le_refl _) _
  have HO2 : Hid (ON w1.heap.size W2 (some ⟨w1.heap.size, 0, none⟩) 1 (L 0)) := by rw [hW2, HLz.out]; exact zero_on w1
  have HLz1 : Hid ((L 0).length = 1) := HLl.out 0
  have HR0 : Hid (From w1 W2) := ⟨hb2⟩
  have hzq := HG.out.lt
  have HW2 := Lib.hid hW2
  clear hW2 hb2 e0 e1
  go_wp2_with fail
  rw [← HW2.out]
  clear HW2
  go_loopw [3, 4] (fun l i wr => ∃ (n S : Nat) (A5 : Option Addr) (c5 : Nat), S ≤ F ∧ Hid (S = n + 1) ∧ i = .int .i64 S ∧ l = .slice A5 (L n).length c5 ∧ Hid (ON w1.heap.size wr A5 c5 (L n)) ∧ Hid (From w1 wr)) (fun _ i _ => F - (intOf i).toNat)
  case atStart => exact ⟨0, 1, _, 1, by omega, rfl, rfl, by rw [HLz1.out], HO2, HR0⟩
  case round =>
    clear HR0 HO2 HLz1 HLz
    obtain ⟨n, S, A5, c5, hS, HSn, rfl, rfl, HO, HR⟩ := hrel
    have HGr := Lib.hid (HG.out.keep HR.out.below)
    have e0 := HGr.out.c0
    have hn : n < S := by have := HSn.out; omega
    have hSn : S ≤ n + 1 := by have := HSn.out; omega
    have HLn := Lib.hid (HLl.out n)
    have hLn : n < (L n).length := by have := HLl.out n; omega
    have hL128 : (L n).length ≤ 128 := by have := HLl.out n; omega
    obtain ⟨b5, o5, rfl⟩ := HO.out.ln.addr (by omega)
    obtain ⟨P, hP⟩ : ∃ P, P = L n := ⟨_, rfl⟩
    have HPe := Lib.hid hP
    rw [← hP] at HO hLn hL128 HLn ⊢
    clear hP
    by_cases hlt : S < F
    · have i1 : (S : Int) < (F : Int) := by omega
      have hS2m : S < 2 ^ m := by have := HFe.out; omega
      have HS2m := Lib.hid hS2m
      have HZ : Hid ((2 ^ m - 1) ^^^ S = F - 1 - S) := by show _ = _; rw [full_sub hm7 hS2m, HFe.out]
      obtain ⟨Z, hZ⟩ : ∃ Z, Z = F - 1 - S := ⟨_, rfl⟩
      have s2 : IntKind.i64.wrap ((F : Int) - 1) = (F : Int) - 1 := Go.IntWalk.i64_in _ (by omega)
      have s3 : IntKind.i64.wrap ((F : Int) - 1 - (S : Int)) = (Z : Int) := by rw [Go.IntWalk.i64_in _ (by omega)]; omega
      have hZ128 : Z < 128 := by omega
      rw [← hZ] at HZ
      have HD0 : Hid (wdK (fun S v => cn (rchN r m S v)) m T S 0 = m) := rfl
      have e1 := HGr.out.c1
      clear hZ hS2m
      go_wp2
      go_loopw [5, 6] (fun a i wr => ∃ v D : Nat, v ≤ m ∧ i = .int .i64 v ∧ a = .int .i64 D ∧ D ≤ m ∧ Hid (wdK (fun S v => cn (rchN r m S v)) m T S v = D) ∧ Hid (ON w1.heap.size wr (some ⟨b5, o5, none⟩) c5 P) ∧ Hid (From w1 wr)) (fun _ i _ => m - (intOf i).toNat)
      case atStart => exact ⟨0, m, Nat.zero_le _, rfl, rfl, Nat.le_refl _, HD0, HO, HR⟩
      case round =>
        clear HD0 HO HR HGr e0 e1
        obtain ⟨v, D, hv, rfl, rfl, hD, HD, HO, HR⟩ := hrel
        have HGr := Lib.hid (HG.out.keep HR.out.below)
        have e0 := HGr.out.c0
        by_cases hvm : v < m
        · have i2 : (v : Int) < (m : Int) := by omega
          have E1 := and_one_i64 (S : Int) v (by omega) (by omega)
          rw [Int.toNat_natCast] at E1
          cases hb : S.testBit v
          · have Hs : Hid (wdK (fun S v => cn (rchN r m S v)) m T S (v + 1) = D) := by show _ = _; rw [wdK_no hb, HD.out]
            rw [hb] at E1
            clear hb HD s2 s3
            go_wp2
            go_roundw
            case rel => exact ⟨v + 1, D, by omega, by go_num, rfl, hD, Hs, HO, HR⟩
            case measure => (simp [intOf] <;> omega)
          · have e1 := HGr.out.c1
            obtain ⟨y, hy⟩ : ∃ y, y = S ^^^ 2 ^ v := ⟨_, rfl⟩
            have hyS : y < S := by rw [hy]; exact xor_bit_lt hb
            have hy2 : y + 2 ^ v = S := by rw [hy]; exact (xor_bit hb).2
            have hyl : y < P.length := by omega
            have p0 := HO.out.ln.at hyl
            have hyd : P[y] = T y := by
              have := HLa.out n y (by omega)
              rw [← HPe.out, List.getD_eq_getElem?_getD, List.getElem?_eq_getElem hyl] at this
              exact this
            obtain ⟨d, hd⟩ : ∃ d, d = T y := ⟨_, rfl⟩
            rw [hyd, ← hd] at p0
            have hd7 : d ≤ m := by rw [hd]; exact HTP.out y
            have Hyd : Hid (∀ h : y < P.length, P[y]'h = d) := fun _ => by rw [hyd, hd]
            have HLn0 : Hid (LN wr (some ⟨b5, o5, none⟩) c5 P) := HO.out.ln
            obtain ⟨g1, hg1⟩ : ∃ g1, g1 = part r S (2 ^ v) := ⟨_, rfl⟩
            have hg1m : g1 < 2 ^ m := by rw [hg1]; exact part_ltS HS2m.out hb
            obtain ⟨R, hR⟩ : ∃ R, R = g1 ||| nb r g1 := ⟨_, rfl⟩
            have hR128 : R < 128 := by rw [hR]; exact Nat.lt_of_lt_of_le (Nat.or_lt_two_pow hg1m (nb_lt HGr.out.gv.vg.lt hg1m 7)) (two_pow_le hm7)
            obtain ⟨U, hU⟩ : ∃ U, U = R &&& Z := ⟨_, rfl⟩
            have hU128 : U < 128 := by rw [hU]; exact Nat.lt_of_le_of_lt Nat.and_le_left hR128
            obtain ⟨f, hf⟩ : ∃ f, f = cn U := ⟨_, rfl⟩
            have hf7 : f ≤ 7 := by rw [hf]; exact listN_len U
            have hrch : rchN r m S v = U := by unfold rchN; rw [← hg1, ← hR, HZ.out, ← hU]
            obtain ⟨M, hM⟩ : ∃ M, M = min D (max d f) := ⟨_, rfl⟩
            have Hs : Hid (wdK (fun S v => cn (rchN r m S v)) m T S (v + 1) = M) := by
              show _ = _
              rw [wdK_yes hb, HD.out, ← hy, ← hd]
              show min D (max d (cn (rchN r m S v))) = M
              rw [hrch, ← hf, hM]
            have hMm : M ≤ m := by omega
            have HM := Lib.hid hM
            obtain ⟨pc, hpc⟩ : ∃ pc, pc = 2 ^ v := ⟨_, rfl⟩
            have p2 : IntKind.i64.wrap ((2 : Int) ^ v) = (pc : Int) := by rw [pow_shl v (by omega), hpc]; simp
            rw [← hpc] at hy2
            have s1 : wrap64 ((S : Int) - (pc : Int)) = (y : Int) := by rw [Go.IntWalk.wrap64_in _ (by omega)]; omega
            have i3 : (y : Int) < (P.length : Int) := by omega
            have a1 : bits .and .i64 (R : Int) (Z : Int) = (U : Int) := by rw [hU]; exact i64_and_nat _ _ (by omega) (by omega)
            have K1 : Hid (∀ z : World, Below wr.heap.size wr z → Calls Tryz.prog 55 #[.agg #[.int .i64 m, .slice A m c], .int .i64 (pc : Int), .int .i64 (S : Nat)] z fun e w' => e = .returned (.int .i64 (g1 : Nat)) ∧ Below z.heap.size z w') := fun z hz => by
              rw [hpc, hg1]; exact l3Grow_gv (HGr.out.gv.keep hz) HS2m.out hb
            have K2 : Hid (∀ z : World, Below wr.heap.size wr z → Calls Tryz.prog 54 #[.agg #[.int .i64 m, .slice A m c], .int .i64 (g1 : Nat)] z fun e w' => e = .returned (.int .i64 (R : Nat)) ∧ Below z.heap.size z w') := fun z hz => by
              rw [hR]; exact AroundSet_sv (HGr.out.gv.keep hz) hg1m
            have K3 : Hid (∀ z : World, Calls Tryz.prog 14 #[.int .i64 (U : Nat)] z fun e w' => e = .returned (.int .i64 (f : Nat)) ∧ Below z.heap.size z w') := fun z => by rw [hf]; exact CountSet_sv U hU128 z
            rw [hb] at E1
            clear hb HD hy hd hM hyd hy2 hg1 hg1m hR hU hf hrch hpc hyl
            clear p0
            go_wp2
            have HSC : Hid (∀ z : World, Below wr.heap.size wr z → (Below wr.heap.size wr z ∧ z.cell? ⟨w.heap.size, 0, none⟩ = some (.int .i64 (m : Nat)) ∧ z.cell? ⟨w.heap.size, 1, none⟩ = some (.slice A m c))) := fun z hz => ⟨hz, up_ hz e0, up_ hz e1⟩
            have HZ0 : Hid (Below wr.heap.size wr wr.drew) := (Below.refl _ _).drew
            have HS1 := Lib.hid (HSC.out _ HZ0.out)
            have KR1 : Hid (∀ z : World, Below wr.heap.size wr z → _) := fun z hz => K1.out z hz
            have KR2 : Hid (∀ z : World, Below wr.heap.size wr z → _) := fun z hz => K2.out z hz
            go_region_held3 (fun z => Below wr.heap.size wr z ∧ z.cell? ⟨w.heap.size, 0, none⟩ = some (.int .i64 (m : Nat)) ∧ z.cell? ⟨w.heap.size, 1, none⟩ = some (.slice A m c))
              (first | exact HS1.out | assumption | exact HSC.out _ hz3 | exact HSC.out _ hz2 | fail)
              (first | (go_at_call 55; ((with_reducible refine (KR1.out _ HZ0.out).mono ?_); rintro e w2 ⟨rfl, hb2⟩; have hz2 := bl_trans HZ0.out hb2)) | (go_at_call 54; ((with_reducible refine (KR2.out _ hz2).mono ?_); rintro e w3 ⟨rfl, hb3⟩; have hz3 := bl_trans hz2 hb3)))
            clear e0 e1
            replace HR := Lib.hid (HR.out.keep hz3)
            replace HO := Lib.hid (HO.out.keep hz3)
            replace HLn0 := Lib.hid (HLn0.out.keep hz3)
            replace HGr := Lib.hid (HGr.out.keep hz3)
            clear hb2 hz2 hb3 hz3 HSC HZ0 HS1 KR1 KR2
            have e0 := HGr.out.c0
            have e1 := HGr.out.c1
            have hyl : y < P.length := by omega
            have p0 : w3.cell? ⟨b5, o5 + y, none⟩ = some (.int .i64 (d : Nat)) := by
              have := HLn0.out.at hyl
              rwa [Hyd.out hyl] at this
            have HSC : Hid (∀ z : World, Below w3.heap.size w3 z → (Below w3.heap.size w3 z ∧ z.cell? ⟨w.heap.size, 0, none⟩ = some (.int .i64 (m : Nat)) ∧ z.cell? ⟨b5, o5 + y, none⟩ = some (.int .i64 (d : Nat)))) := fun z hz => ⟨hz, up_ hz e0, up_ hz p0⟩
            have HZ0 : Hid (Below w3.heap.size w3 w3.drew) := (Below.refl _ _).drew
            have HS1 := Lib.hid (HSC.out _ HZ0.out)
            have KR1 : Hid (∀ z : World, Below w3.heap.size w3 z → _) := fun z hz => K3.out z
            go_wp2
            go_region_held3 (fun z => Below w3.heap.size w3 z ∧ z.cell? ⟨w.heap.size, 0, none⟩ = some (.int .i64 (m : Nat)) ∧ z.cell? ⟨b5, o5 + y, none⟩ = some (.int .i64 (d : Nat)))
              (first | exact HS1.out | assumption | exact HSC.out _ hz4 | fail)
              (first | (go_at_call 14; ((with_reducible refine (KR1.out _ HZ0.out).mono ?_); rintro e w4 ⟨rfl, hb4⟩; have hz4 := bl_trans HZ0.out hb4)))
            clear e0 e1
            replace HR := Lib.hid (HR.out.keep hz4)
            replace HO := Lib.hid (HO.out.keep hz4)
            replace HGr := Lib.hid (HGr.out.keep hz4)
            clear hb4 hz4 HSC HZ0 HS1 KR1
            have e0 := HGr.out.c0
            have e1 := HGr.out.c1
            go_wp2
            go_roundw
            case rel => exact ⟨v + 1, M, by omega, by go_num, by have := HM.out; congr 1; split <;> (try split) <;> omega, hMm, Hs, HO, HR⟩
            case measure => (simp [intOf] <;> omega)
        · obtain rfl : v = m := by omega
          have hTD : T S = D := by rw [← HD.out]; exact (HST.out S (by omega)).symm
          have HT : Hid (L (n + 1) = P ++ [D]) := by show _ = _; rw [HLs.out, ← HPe.out, ← hTD, HSn.out]
          have hzr := HR.out.below.size
          clear hTD HD s2 s3
          go_wp2_with (first | (at_builtin; (refine wpList_pushN wr rfl _ _ rfl w1.heap.size wr.heap.size (some ⟨b5, o5, none⟩) c5 P HO.out.own hzr D rfl 1 wr.heap.size rfl rfl (by omega) ?_; intro g cap w3 hO3 hb3)))
          have HO3 : Hid (ON w1.heap.size w3 (some ⟨g, 0, none⟩) cap (L (n + 1))) := by rw [HT.out]; exact ⟨by rw [List.length_append]; exact hO3⟩
          have HR3 : Hid (From w1 w3) := ⟨HR.out.below.trans hb3⟩
          clear hO3 hb3 HO HR
          go_wp2
          go_roundw
          case rel => exact ⟨n + 1, S + 1, _, cap, by omega, by show _ = _; rw [HSn.out], by go_num, by rw [HT.out, List.length_append]; rfl, HO3, HR3⟩
          case measure => (simp [intOf] <;> omega)
    · have hS2 : S = F := by omega
      have i1 : (F : Int) ≤ (S : Int) := by omega
      have hnl : n < P.length := hLn
      have p0 := HO.out.ln.at hnl
      have hyd : P[n] = T n := by
        have := HLa.out n n (Nat.le_refl _)
        rw [← HPe.out, List.getD_eq_getElem?_getD, List.getElem?_eq_getElem hnl] at this
        exact this
      rw [hyd] at p0
      have hfin : Hid (((T n : Nat) : Int) = trI r m) := by show _ = _; rw [HP.out, show 2 ^ m - 1 = n by have := HSn.out; have := HFe.out; omega]
      obtain ⟨d, hd⟩ : ∃ d, d = T n := ⟨_, rfl⟩
      rw [← hd] at p0 hfin
      have hpl : P.length - 1 = n := by have := HLn.out; omega
      rw [← hpl] at p0
      have hP1 : 0 < P.length := by omega
      have HBr := Lib.hid (HB.out.up HR.out)
      clear hyd hd hS2 HLn hpl hnl hLn hn hSn
      go_wp2
      go_ret
      exact ⟨ret_int hfin.out, HBr.out.below⟩
end
end Go.Proofs.YtjonhbmgmamchaaGreatDoor
