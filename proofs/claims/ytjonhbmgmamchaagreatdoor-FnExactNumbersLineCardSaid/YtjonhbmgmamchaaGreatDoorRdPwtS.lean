/-
  Contracts: the front of a set and the least greatest front of all orders (the reference's).
-/
import Derived.Test.YtjonhbmgmamchaaGreatDoorRdCtwI
import Derived.Test.YtjonhbmgmamchaaGreatDoorRdGB
import Derived.Test.YtjonhbmgmamchaaGreatDoorRdSet2P
namespace Go.Proofs.YtjonhbmgmamchaaGreatDoor
open Go.RowKit

/-- A list that begins with a nought. -/
theorem zero_on (w : World) : ON w.heap.size (w.alloc (Obj.cells #[.int .i64 0] 3)) (some ⟨w.heap.size, 0, none⟩) 1 [0] :=
  ⟨.inr ⟨w.heap.size, #[.int .i64 0], rfl, Nat.le_refl _, by simp, heap_alloc_new w _, Nat.le_refl _, by unfold maxLen; omega, rfl, fun j hj => by
    obtain rfl : j = 0 := by simp at hj; omega
    rfl⟩⟩
section
variable {A : Option Addr} {m c S : Nat} {r : Nat → Nat} {w : World}
set_option maxRecDepth 100000 in
set_option maxHeartbeats 3200000 in
theorem l27Front_sv (h : GV w A m c r) (hS : S < 2 ^ m) :
    Calls Tryz.prog 53 #[.agg #[.int .i64 m, .slice A m c], .int .i64 (S : Nat)] w fun e w' => e = .returned (.int .i64 (fwN r S : Nat)) ∧ Below w.heap.size w w' := by
  have hm7 := h.vg.n7
  have h2m := two_pow_le hm7
  have HF : Hid (ftK r S m = fwN r S) := ftK_all hm7 hS
  obtain ⟨Y, hY⟩ : ∃ Y, Y = fwN r S := ⟨_, rfl⟩
  rw [← hY] at HF ⊢
  have hS128 : S < 128 := by omega
  obtain ⟨b, o, rfl⟩ := h.addr
  clear hY hS h2m
  obtain ⟨A, hA⟩ : ∃ A : Option Addr, A = some ⟨b, o, none⟩ := ⟨_, rfl⟩
  rw [← hA] at h
  obtain ⟨W, hW⟩ : ∃ W : World, W = (w.alloc (Obj.cells #[Value.int IntKind.i64 m, Value.slice A m c] 27)) := ⟨_, rfl⟩
  have HB : Hid (From w W) := by rw [hW]; exact From.alloc _ _
  have HG : Hid (GBox W w.heap.size A m c r) := by rw [hW]; exact h.box
  have HW := Lib.hid hW
  clear hW h
  have e0 := HG.out.c0
  have e1 := HG.out.c1
  subst hA
  have HR0 : Hid (From W W) := From.refl W
  go_enter Tryz.func53, Tryz.ntmps53
  go_wp2_with fail
  rw [← HW.out]
  clear e0 e1
  go_loopw [5, 6] (fun n i wr => ∃ v C : Nat, v ≤ m ∧ i = .int .i64 v ∧ n = .int .i64 C ∧ C ≤ v ∧ Hid (ftK r S v = C) ∧ Hid (From W wr)) (fun _ i _ => m - (intOf i).toNat)
  case atStart => exact ⟨0, 0, Nat.zero_le _, rfl, rfl, Nat.le_refl _, rfl, HR0⟩
  case round =>
    clear HR0
    obtain ⟨v, C, hv, rfl, rfl, hC, HC, HR⟩ := hrel
    have HGr := Lib.hid (HG.out.keep HR.out.below)
    have e0 := HGr.out.c0
    by_cases hvm : v < m
    · have i1 : (v : Int) < (m : Int) := by omega
      have e1 := HGr.out.c1
      have p2 := HGr.out.gv.row hvm
      have hr := HGr.out.gv.vg.lt128 hvm
      obtain ⟨x, hx⟩ : ∃ x, x = r v := ⟨_, rfl⟩
      rw [← hx] at p2 hr
      have E1 := and_one_i64 (S : Int) v (by omega) (by omega)
      rw [Int.toNat_natCast] at E1
      have E2 := i64_and_nat x S (by omega) (by omega)
      cases hb : S.testBit v
      · have Hs : Hid (ftK r S (v + 1) = C) := by show _ = _; rw [ftK_out hb, HC.out]
        rw [hb] at E1
        clear hb hx HC E2
        go_wp2
        go_quiet (fail)
        go_wp2
        go_roundw
        case rel => exact ⟨v + 1, C, by omega, by go_num, rfl, by omega, Hs, HR.out.drewN _⟩
        case measure => (simp [intOf] <;> omega)
      · rw [hb] at E1
        by_cases hc : x &&& S = x
        · have Hs : Hid (ftK r S (v + 1) = C) := by show _ = _; rw [ftK_no (by rw [← hx]; exact hc), HC.out]
          rw [hc] at E2
          clear hb hx HC hc
          go_wp2
          go_quiet (fail)
          go_wp2
          go_roundw
          case rel => exact ⟨v + 1, C, by omega, by go_num, rfl, by omega, Hs, HR.out.drewN _⟩
          case measure => (simp [intOf] <;> omega)
        · have Hs : Hid (ftK r S (v + 1) = C + 1) := by show _ = _; rw [ftK_yes hb (by rw [← hx]; exact hc), HC.out]
          obtain ⟨y, hy⟩ : ∃ y, y = x &&& S := ⟨_, rfl⟩
          rw [← hy] at E2 hc
          have d1 : ((y : Int) != (x : Int)) = true := by simp; omega
          have d2 : (y = x) = False := by simp; omega
          clear hb hx HC hc hy
          go_wp2
          go_quiet (fail)
          go_wp2
          go_roundw
          case rel => exact ⟨v + 1, C + 1, by omega, by go_num, by go_num, by omega, Hs, HR.out.drewN _⟩
          case measure => (simp [intOf] <;> omega)
    · obtain rfl : v = m := by omega
      have HBr := Lib.hid (HB.out.up HR.out)
      have hfin : Hid ((C : Int) = (Y : Int)) := by show _ = _; rw [← HF.out, HC.out]
      go_wp2
      go_ret
      exact ⟨ret_int hfin.out, HBr.out.below⟩
set_option maxRecDepth 100000 in
set_option maxHeartbeats 3200000 in
theorem PathwidthOf_sv (h : GV w A m c r) :
    Calls Tryz.prog 20 #[.agg #[.int .i64 m, .slice A m c]] w fun e w' => e = .returned (.int .i64 (pwI r m)) ∧ Below w.heap.size w w' := by
  have hm7 := h.vg.n7
  have hm1 := h.vg.n1
  have h128 := two_pow_le hm7
  have hpos := Nat.two_pow_pos m
  have hpc := pow_cast m
  have p1 := pow_shl m hm7
  have h2m : 1 < 2 ^ m := Nat.one_lt_two_pow (by omega)
  have HP : Hid (pwI r m = ((wdF (fun S _ => fwN r S) m (2 ^ m - 1) : Nat) : Int)) := pwI_is h.vg
  have HST : Hid (∀ S, S ≠ 0 → S < 2 ^ m → max (wdK (fun _ _ => 0) m (wdF (fun S _ => fwN r S) m) S m) (fwN r S) = wdF (fun S _ => fwN r S) m S) := fun S h0 hS => pw_step h0 hm7 hS
  have HTP : Hid (∀ S, wdF (fun S _ => fwN r S) m S ≤ m) := fun S => wdF_top
  have HF7 : Hid (∀ S, S < 2 ^ m → fwN r S ≤ m) := fun S hS => fwN_le hm7 hS
  obtain ⟨T, hT⟩ : ∃ T : Nat → Nat, T = wdF (fun S _ => fwN r S) m := ⟨_, rfl⟩
  obtain ⟨L, hL⟩ : ∃ L : Nat → List Nat, L = wdL (fun S _ => fwN r S) m := ⟨_, rfl⟩
  have HLz : Hid (L 0 = [0]) := by show _ = _; rw [hL]; rfl
  have HLs : Hid (∀ n, L (n + 1) = L n ++ [T (n + 1)]) := fun n => by rw [hL, hT]; exact wdL_succ
  have HLl : Hid (∀ n, (L n).length = n + 1) := fun n => by rw [hL]; exact wdL_len
  have HLa : Hid (∀ n j, j ≤ n → (L n).getD j 0 = T j) := fun n j hj => by rw [hL, hT]; exact wdL_at hj
  rw [← hT] at HP HST HTP
  clear hT hL
  obtain ⟨W, hW⟩ : ∃ W : World, W = (w.alloc (Obj.cells #[Value.int IntKind.i64 m, Value.slice A m c] 27)) := ⟨_, rfl⟩
  have HB : Hid (From w W) := by rw [hW]; exact From.alloc _ _
  have HG : Hid (GBox W w.heap.size A m c r) := by rw [hW]; exact h.box
  have HW := Lib.hid hW
  clear hW h
  have e0 := HG.out.c0
  have e1 := HG.out.c1
  go_enter Tryz.func20, Tryz.ntmps20
  go_wp2_with fail
  rw [← HW.out]
  refine (IsGraph_sv HG.out.gv).mono ?_
  rintro e w1 ⟨rfl, hb1⟩
  clear HW
  clear e0 e1
  replace HB := Lib.hid (HB.out.keep hb1)
  replace HG := Lib.hid (HG.out.keep hb1)
  clear hb1
  have e0 := HG.out.c0
  have e1 := HG.out.c1
  obtain ⟨W2, hW2⟩ : ∃ W2 : World, W2 = w1.alloc (Obj.cells #[.int .i64 0] 3) := ⟨_, rfl⟩
  have hb2 : Below w1.heap.size w1 W2 := by rw [hW2]; exact (Below.refl _ _).alloc (Nat.le_refl _) _
  have HO2 : Hid (ON w1.heap.size W2 (some ⟨w1.heap.size, 0, none⟩) 1 (L 0)) := by rw [hW2, HLz.out]; exact zero_on w1
  have HLz1 : Hid ((L 0).length = 1) := HLl.out 0
  have HR0 : Hid (From w1 W2) := ⟨hb2⟩
  have hzq := HG.out.lt
  have HW2 := Lib.hid hW2
  clear hW2 hb2 e0 e1
  go_wp2_with fail
  rw [← HW2.out]
  clear HW2
  go_loopw [3, 4] (fun l i wr => ∃ (n S : Nat) (A5 : Option Addr) (c5 : Nat), S ≤ 2 ^ m ∧ Hid (S = n + 1) ∧ i = .int .i64 S ∧ l = .slice A5 (L n).length c5 ∧ Hid (ON w1.heap.size wr A5 c5 (L n)) ∧ Hid (From w1 wr)) (fun _ i _ => 2 ^ m - (intOf i).toNat)
  case atStart => exact ⟨0, 1, _, 1, by omega, rfl, rfl, by rw [HLz1.out], HO2, HR0⟩
  case round =>
    clear HR0 HO2 HLz1 HLz
    obtain ⟨n, S, A5, c5, hS, HSn, rfl, rfl, HO, HR⟩ := hrel
    have HGr := Lib.hid (HG.out.keep HR.out.below)
    have e0 := HGr.out.c0
    have hn : n < S := by have := HSn.out; omega
    have hSn : S ≤ n + 1 := by have := HSn.out; omega
    have HLn := Lib.hid (HLl.out n)
    have hLn : n < (L n).length := by have := HLl.out n; omega
    have hL128 : (L n).length ≤ 128 := by have := HLl.out n; omega
    obtain ⟨b5, o5, rfl⟩ := HO.out.ln.addr (by omega)
    obtain ⟨P, hP⟩ : ∃ P, P = L n := ⟨_, rfl⟩
    have HPe := Lib.hid hP
    rw [← hP] at HO hLn hL128 HLn ⊢
    clear hP
    by_cases hlt : S < 2 ^ m
    · have i1 : (S : Int) < 2 ^ m := by omega
      have HD0 : Hid (wdK (fun _ _ => 0) m T S 0 = m) := rfl
      have e1 := HGr.out.c1
      go_wp2
      go_loop [5, 6] (fun a i => ∃ v D : Nat, v ≤ m ∧ i = .int .i64 v ∧ a = .int .i64 D ∧ D ≤ m ∧ Hid (wdK (fun _ _ => 0) m T S v = D)) (fun _ i => m - (intOf i).toNat)
      case atStart => exact ⟨0, m, Nat.zero_le _, rfl, rfl, Nat.le_refl _, HD0⟩
      case round =>
        clear HD0
        obtain ⟨v, D, hv, rfl, rfl, hD, HD⟩ := hrel
        by_cases hvm : v < m
        · have i2 : (v : Int) < (m : Int) := by omega
          have E1 := and_one_i64 (S : Int) v (by omega) (by omega)
          rw [Int.toNat_natCast] at E1
          cases hb : S.testBit v
          · have Hs : Hid (wdK (fun _ _ => 0) m T S (v + 1) = D) := by show _ = _; rw [wdK_no hb, HD.out]
            rw [hb] at E1
            clear hb HD
            go_wp2
            go_round
            case rel => exact ⟨v + 1, D, by omega, by go_num, rfl, hD, Hs⟩
            case measure => simp [intOf]; omega
          · obtain ⟨y, hy⟩ : ∃ y, y = S ^^^ 2 ^ v := ⟨_, rfl⟩
            have hyS : y < S := by rw [hy]; exact xor_bit_lt hb
            have hy2 : y + 2 ^ v = S := by rw [hy]; exact (xor_bit hb).2
            have hyl : y < P.length := by omega
            have p0 := HO.out.ln.at hyl
            have hyd : P[y] = T y := by
              have := HLa.out n y (by omega)
              rw [← HPe.out, List.getD_eq_getElem?_getD, List.getElem?_eq_getElem hyl] at this
              exact this
            obtain ⟨d, hd⟩ : ∃ d, d = T y := ⟨_, rfl⟩
            rw [hyd, ← hd] at p0
            obtain ⟨M, hM⟩ : ∃ M, M = min D d := ⟨_, rfl⟩
            have Hs : Hid (wdK (fun _ _ => 0) m T S (v + 1) = M) := by
              show _ = _
              rw [wdK_yes hb, HD.out, ← hy, ← hd, hM]
              show min D (max d 0) = min D d
              rw [Nat.max_eq_left (Nat.zero_le _)]
            have hMm : M ≤ m := by omega
            have HM := Lib.hid hM
            have p2 := pow_shl v (by omega)
            have hpv := pow_cast v
            have s1 : wrap64 ((S : Int) - 2 ^ v) = (y : Int) := by rw [Go.IntWalk.wrap64_in _ (by omega)]; omega
            have i3 : (y : Int) < (P.length : Int) := by omega
            rw [hb] at E1
            clear hb HD hy hd hM hyd hy2 hpv
            go_wp2
            go_round
            case rel => exact ⟨v + 1, M, by omega, by go_num, by have := HM.out; congr 1; split <;> omega, hMm, Hs⟩
            case measure => simp [intOf]; omega
        · obtain rfl : v = m := by omega
          have HPf := Lib.hid (HST.out S (by omega) hlt)
          have hf7 := HF7.out S hlt
          rw [HD.out] at HPf
          have KF : Hid (Calls Tryz.prog 53 #[.agg #[.int .i64 (v : Nat), .slice A v c], .int .i64 (S : Nat)] wr fun e w' => e = .returned (.int .i64 (fwN r S : Nat)) ∧ Below wr.heap.size wr w') := l27Front_sv HGr.out.gv hlt
          obtain ⟨f, hf⟩ : ∃ f, f = fwN r S := ⟨_, rfl⟩
          rw [← hf] at KF HPf hf7
          clear hf HD
          go_wp2_with fail
          refine (KF.out).mono ?_
          rintro e w2 ⟨rfl, hb2⟩
          clear e0 e1
          replace HR := Lib.hid (HR.out.keep hb2)
          replace HO := Lib.hid (HO.out.keep hb2)
          replace HGr := Lib.hid (HGr.out.keep hb2)
          clear hb2
          have e0 := HGr.out.c0
          have e1 := HGr.out.c1
          clear KF
          have hT : L (n + 1) = P ++ [max D f] := by rw [HLs.out, ← HPe.out, HPf.out, HSn.out]
          have hzr := HR.out.below.size
          clear HPf
          by_cases hdf : D < f
          · have i4 : (D : Int) < (f : Int) := by omega
            rw [Nat.max_eq_right (by omega)] at hT
            have HT := Lib.hid hT
            clear hT hdf
            go_wp2_with (first | (at_builtin; (refine wpList_pushN w2 rfl _ _ rfl w1.heap.size w2.heap.size (some ⟨b5, o5, none⟩) c5 P HO.out.own hzr f rfl 1 w2.heap.size rfl rfl (by omega) ?_; intro g cap w3 hO3 hb3)))
            have HO3 : Hid (ON w1.heap.size w3 (some ⟨g, 0, none⟩) cap (L (n + 1))) := by rw [HT.out]; exact ⟨by rw [List.length_append]; exact hO3⟩
            have HR3 : Hid (From w1 w3) := ⟨HR.out.below.trans hb3⟩
            clear hO3 hb3 HO HR
            go_wp2
            go_roundw
            case rel => exact ⟨n + 1, S + 1, _, cap, by omega, by show _ = _; rw [HSn.out], by go_num, by rw [HT.out, List.length_append]; rfl, HO3, HR3⟩
            case measure => (simp [intOf] <;> omega)
          · have i4 : (f : Int) ≤ (D : Int) := by omega
            rw [Nat.max_eq_left (by omega)] at hT
            have HT := Lib.hid hT
            clear hT hdf
            go_wp2_with (first | (at_builtin; (refine wpList_pushN w2 rfl _ _ rfl w1.heap.size w2.heap.size (some ⟨b5, o5, none⟩) c5 P HO.out.own hzr D rfl 1 w2.heap.size rfl rfl (by omega) ?_; intro g cap w3 hO3 hb3)))
            have HO3 : Hid (ON w1.heap.size w3 (some ⟨g, 0, none⟩) cap (L (n + 1))) := by rw [HT.out]; exact ⟨by rw [List.length_append]; exact hO3⟩
            have HR3 : Hid (From w1 w3) := ⟨HR.out.below.trans hb3⟩
            clear hO3 hb3 HO HR
            go_wp2
            go_roundw
            case rel => exact ⟨n + 1, S + 1, _, cap, by omega, by show _ = _; rw [HSn.out], by go_num, by rw [HT.out, List.length_append]; rfl, HO3, HR3⟩
            case measure => (simp [intOf] <;> omega)
    · have hS2 : S = 2 ^ m := by omega
      have i1 : (2 : Int) ^ m ≤ (S : Int) := by omega
      have hnl : n < P.length := hLn
      have p0 := HO.out.ln.at hnl
      have hyd : P[n] = T n := by
        have := HLa.out n n (Nat.le_refl _)
        rw [← HPe.out, List.getD_eq_getElem?_getD, List.getElem?_eq_getElem hnl] at this
        exact this
      rw [hyd] at p0
      have hfin : Hid (((T n : Nat) : Int) = pwI r m) := by show _ = _; rw [HP.out, show 2 ^ m - 1 = n by have := HSn.out; omega]
      obtain ⟨d, hd⟩ : ∃ d, d = T n := ⟨_, rfl⟩
      rw [← hd] at p0 hfin
      have hpl : P.length - 1 = n := by have := HLn.out; omega
      rw [← hpl] at p0
      have hP1 : 0 < P.length := by omega
      have HBr := Lib.hid (HB.out.up HR.out)
      clear hyd hd hS2 HLn hpl hnl hLn hn hSn
      go_wp2
      go_ret
      exact ⟨ret_int hfin.out, HBr.out.below⟩
end
end Go.Proofs.YtjonhbmgmamchaaGreatDoor
