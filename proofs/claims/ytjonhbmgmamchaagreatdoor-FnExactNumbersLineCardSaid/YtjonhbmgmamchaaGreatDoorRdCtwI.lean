/-
  Several texts in one.
-/
import Derived.Test.YtjonhbmgmamchaaGreatDoorRdBndP
import Derived.Test.YtjonhbmgmamchaaGreatDoorRdPackP
import Derived.Test.YtjonhbmgmamchaaGreatDoorRdBndI
/-
  Plain: the front of a set, counted over all vertices or over the list of the set.
-/
namespace Go.Proofs.YtjonhbmgmamchaaGreatDoor

/-- The count after the first vertices. -/
def ftK (r : Nat → Nat) (S : Nat) : Nat → Nat
  | 0 => 0
  | v + 1 => if S.testBit v = true ∧ r v &&& S ≠ r v then ftK r S v + 1 else ftK r S v
/-- The count after the first places of the list of the set. -/
def ftJ (r : Nat → Nat) (S : Nat) (l : List Nat) : Nat → Nat
  | 0 => 0
  | j + 1 => if r (l.getD j 0) &&& S ≠ r (l.getD j 0) then ftJ r S l j + 1 else ftJ r S l j
section
variable {r : Nat → Nat} {m S v j : Nat} {l : List Nat}
theorem ftK_yes (h : S.testBit v = true) (h2 : r v &&& S ≠ r v) : ftK r S (v + 1) = ftK r S v + 1 := by rw [ftK, if_pos ⟨h, h2⟩]
theorem ftK_out (h : S.testBit v = false) : ftK r S (v + 1) = ftK r S v := by rw [ftK, if_neg (by rw [h]; simp)]
theorem ftK_no (h2 : r v &&& S = r v) : ftK r S (v + 1) = ftK r S v := by rw [ftK, if_neg (fun h => h.2 h2)]
theorem ftJ_yes (h : r (l.getD j 0) &&& S ≠ r (l.getD j 0)) : ftJ r S l (j + 1) = ftJ r S l j + 1 := by rw [ftJ, if_pos h]
theorem ftJ_no (h : r (l.getD j 0) &&& S = r (l.getD j 0)) : ftJ r S l (j + 1) = ftJ r S l j := by rw [ftJ, if_neg (fun h2 => h2 h)]
theorem ftK_list : ∀ n, (((List.range n).filter fun c => S.testBit c).filter fun w => decide (r w &&& S ≠ r w)).length = ftK r S n
  | 0 => rfl
  | n + 1 => by
    rw [List.range_succ, List.filter_append, List.filter_append, List.length_append, ftK_list n]
    cases h : S.testBit n with
    | false => rw [ftK_out h]; simp [h]
    | true =>
      by_cases h2 : r n &&& S = r n
      · rw [ftK_no h2]; simp [h, h2]
      · rw [ftK_yes h h2]; simp [h, h2]
theorem ftK_all (hm : m ≤ 7) (hS : S < 2 ^ m) : ftK r S m = fwN r S := by
  unfold fwN
  rw [listN_filter hS hm, ftK_list]
theorem ftJ_take : ∀ j, j ≤ l.length → ftJ r S l j = ((l.take j).filter fun w => decide (r w &&& S ≠ r w)).length
  | 0, _ => rfl
  | j + 1, hj => by
    have e : l.take (j + 1) = l.take j ++ [l[j]'(by omega)] := by rw [List.take_add_one, List.getElem?_eq_getElem (by omega)]; rfl
    have e2 : l.getD j 0 = l[j]'(by omega) := by rw [List.getD_eq_getElem?_getD, List.getElem?_eq_getElem (by omega)]; rfl
    rw [e, List.filter_append, List.length_append, ← ftJ_take j (by omega)]
    by_cases h : r (l.getD j 0) &&& S = r (l.getD j 0)
    · rw [ftJ_no h]; rw [e2] at h; simp [h]
    · rw [ftJ_yes h]; rw [e2] at h; simp [h]
theorem ftJ_all : ftJ r S (listN S) (listN S).length = fwN r S := by rw [ftJ_take _ (Nat.le_refl _), List.take_length]; rfl
end
end Go.Proofs.YtjonhbmgmamchaaGreatDoor

/-
  Contracts: the greatest front of an order's beginnings and the least one of all orders (the program's).
-/
namespace Go.Proofs.YtjonhbmgmamchaaGreatDoor
open Go.RowKit

theorem take_oneN {q : List Nat} {k : Nat} (hk : k < q.length) : q.take (k + 1) = q.take k ++ [q.getD k 0] := by
  rw [List.take_add_one, List.getD_eq_getElem?_getD, List.getElem?_eq_getElem hk]; rfl
section
variable {A Al : Option Addr} {m c cl : Nat} {r : Nat → Nat} {q : List Nat} {w : World}
set_option maxRecDepth 100000 in
set_option maxHeartbeats 3200000 in
theorem CutOf_v (h : GV w A m c r) (hl : LN w Al cl q) (hlen : q.length = m) (hq : ∀ v ∈ q, v < m) (hn : q.Nodup) :
    Calls Tryz.prog 71 #[.agg #[.int .i64 m, .slice A m c], .slice Al q.length cl] w fun e w' => e = .returned (.int .i64 (cuP r m q)) ∧ Below w.heap.size w w' := by
  have hm1 := h.vg.n1
  have hm7 := h.vg.n7
  have h2m := two_pow_le hm7
  obtain ⟨b, o, rfl⟩ := h.addr
  obtain ⟨bl, ol, rfl⟩ := hl.addr (by omega)
  have KO : Hid (∀ z : World, GV z (some ⟨b, o, none⟩) m c r → LN z (some ⟨bl, ol, none⟩) cl q → Calls Tryz.prog 100 #[.agg #[.int .i64 m, .slice (some ⟨b, o, none⟩) m c], .slice (some ⟨bl, ol, none⟩) q.length cl] z fun e w' => e = .returned (.bool true) ∧ Below z.heap.size z w') := fun z hz hl => IsOrder_v hz hl hlen hq hn
  have HQ : Hid (∀ k, k < q.length → q.getD k 0 < m ∧ stM (q.take k) < 2 ^ m ∧ stM (q.take (k + 1)) < 2 ^ m ∧ stM (q.take (k + 1)) = stM (q.take k) ||| 2 ^ q.getD k 0) := fun k hk => by
    refine ⟨?_, stM_lt fun v hv => hq v (List.mem_of_mem_take hv), stM_lt fun v hv => hq v (List.mem_of_mem_take hv), ?_⟩
    · rw [List.getD_eq_getElem?_getD, List.getElem?_eq_getElem hk]; exact hq _ (List.getElem_mem hk)
    · rw [take_oneN hk, stM_snoc]
  have Hlen := Lib.hid hlen
  have hq7 : q.length ≤ 7 := by omega
  clear hq hn hlen
  obtain ⟨A, hA⟩ : ∃ A : Option Addr, A = some ⟨b, o, none⟩ := ⟨_, rfl⟩
  rw [← hA] at h
  obtain ⟨W, hW⟩ : ∃ W : World, W = (w.alloc (Obj.cells #[Value.int IntKind.i64 m, Value.slice A m c] 27)) := ⟨_, rfl⟩
  have HB : Hid (From w W) := by rw [hW]; exact From.alloc _ _
  have HG : Hid (GBox W w.heap.size A m c r) := by rw [hW]; exact h.box
  have HW := Lib.hid hW
  clear hW h
  have e0 := HG.out.c0
  have e1 := HG.out.c1
  have HL := Lib.hid (hl.keep HB.out.below)
  clear hl
  subst hA
  go_enter Tryz.func71, Tryz.ntmps71
  go_wp2_with fail
  rw [← HW.out]
  refine (KO.out W HG.out.gv HL.out).mono ?_
  rintro e w1 ⟨rfl, hb1⟩
  clear HW
  clear e0 e1
  replace HB := Lib.hid (HB.out.keep hb1)
  replace HL := Lib.hid (HL.out.keep hb1)
  replace HG := Lib.hid (HG.out.keep hb1)
  clear hb1
  have e0 := HG.out.c0
  have e1 := HG.out.c1
  have HR0 : Hid (From w1 w1) := From.refl _
  clear KO e0 e1
  go_wp2
  go_loopw [5, 6, 18] (fun a f i wr => ∃ k M F : Nat, k ≤ q.length ∧ i = .int .i64 k ∧ a = .int .i64 M ∧ f = .int .i64 F ∧ M ≤ 7 ∧ F < 128 ∧ Hid (F = stM (q.take k)) ∧ Hid (csW (fun S _ => fwN r S) q k = M) ∧ Hid (From w1 wr)) (fun _ _ i _ => q.length - (intOf i).toNat)
  case atStart => exact ⟨0, 0, 0, Nat.zero_le _, rfl, rfl, rfl, by omega, by omega, rfl, rfl, HR0⟩
  case round =>
    clear HR0
    obtain ⟨k, M, F, hk, rfl, rfl, rfl, hM, hF, HF, HM, HR⟩ := hrel
    by_cases hlt : k < q.length
    · have HLr := Lib.hid (HL.out.keep HR.out.below)
      have p0 := HLr.out.at hlt
      obtain ⟨hvm, hF1, hF2, hF3⟩ := HQ.out k hlt
      obtain ⟨v, hv⟩ : ∃ v, v = q.getD k 0 := ⟨_, rfl⟩
      have hqv : q[k] = v := by rw [hv, List.getD_eq_getElem?_getD, List.getElem?_eq_getElem hlt]; rfl
      rw [hqv] at p0
      rw [← hv] at hvm hF3
      obtain ⟨G, hG⟩ : ∃ G, G = stM (q.take (k + 1)) := ⟨_, rfl⟩
      have hst : csW (fun S _ => fwN r S) q (k + 1) = max (csW (fun S _ => fwN r S) q k) (fwN r G) := by rw [hG]; rfl
      rw [HM.out] at hst
      rw [← hG] at hF2 hF3
      have hf7 : fwN r G ≤ 7 := Nat.le_trans (fwN_le hm7 hF2) hm7
      have HG2 := Lib.hid hG
      have HST := Lib.hid hst
      have E1 : bits .or .i64 (F : Int) (2 ^ v) = (G : Int) := by
        have h2v := two_pow_le (n := v) (by omega)
        have := i64_or_nat F (2 ^ v) (by omega) (by omega)
        rw [hF3, HF.out, ← HF.out, ← this]; simp
      have p1 := pow_shl v (by omega)
      have i1 : (k : Int) < (q.length : Int) := by omega
      have hG128 : G < 128 := by omega
      have HGm := Lib.hid hF2
      obtain ⟨L, hL⟩ : ∃ L, L = listN G := ⟨_, rfl⟩
      have HLL := Lib.hid hL
      have hL7 : L.length ≤ 7 := by rw [hL]; exact listN_len G
      have HFJ : Hid (ftJ r G L L.length = fwN r G) := by show _ = _; rw [hL]; exact ftJ_all
      obtain ⟨y, hy⟩ : ∃ y, y = fwN r G := ⟨_, rfl⟩
      rw [← hy] at HFJ HST hf7
      have KL : Hid (∀ z : World, Calls Tryz.prog 61 #[.int .i64 G] z fun e w' => ∃ A c, e = .returned (.slice A L.length c) ∧ ON 0 w' A c L ∧ Below z.heap.size z w') := fun z => by
        rw [hL]
        exact (ListOf_v G hG128 z).mono fun _ _ ⟨A, c, h1, h2, h3⟩ => ⟨A, c, h1, h2.mono (Nat.zero_le _), h3⟩
      clear hv hqv hG hF1 hF2 hF3 hst hL hy HF HM
      go_wp2_with fail
      refine (KL.out _).mono ?_
      rintro e w2 ⟨A5, c5, rfl, ho5, hb2⟩
      have HO5 := Lib.hid ho5
      replace HR := Lib.hid (HR.out.keep hb2)
      clear hb2 ho5
      have HR0 : Hid (From w2 w2) := From.refl _
      clear p0 E1 p1 KL HLr
      go_wp2
      go_loopw [9, 29] (fun n i wr => ∃ j C : Nat, j ≤ L.length ∧ i = .int .i64 j ∧ n = .int .i64 C ∧ C ≤ j ∧ Hid (ftJ r G L j = C) ∧ Hid (From w2 wr)) (fun _ i _ => L.length - (intOf i).toNat)
      case atStart => exact ⟨0, 0, Nat.zero_le _, rfl, rfl, Nat.le_refl _, rfl, HR0⟩
      case round =>
        clear HR0
        obtain ⟨j, C, hj, rfl, rfl, hC, HC, HRj⟩ := hrel
        have HRr := Lib.hid (HR.out.up HRj.out)
        by_cases hjl : j < L.length
        · have HOr := Lib.hid (HO5.out.keep HRj.out.below)
          have HGr := Lib.hid (HG.out.keep HRr.out.below)
          obtain ⟨b5, o5, rfl⟩ := HOr.out.ln.addr (by omega)
          have p0 := HOr.out.ln.at hjl
          obtain ⟨t, ht⟩ : ∃ t, t = L[j] := ⟨_, rfl⟩
          have htD : L.getD j 0 = t := by rw [ht, List.getD_eq_getElem?_getD, List.getElem?_eq_getElem hjl]; rfl
          have htm : t < m := by
            have hj2 : j < (listN G).length := by rw [← HLL.out]; exact hjl
            have := listN_lt HGm.out hj2
            rwa [← HLL.out, htD] at this
          rw [← ht] at p0
          have e1 := HGr.out.c1
          have p2 := HGr.out.gv.row htm
          have hrt := HGr.out.gv.vg.lt128 htm
          obtain ⟨x, hx⟩ : ∃ x, x = r t := ⟨_, rfl⟩
          rw [← hx] at p2 hrt
          have i2 : (j : Int) < (L.length : Int) := by omega
          have i3 : (t : Int) < (m : Int) := by omega
          have hE := i64_andNot_nat x G (by omega) (by omega)
          by_cases hc : x &&& G = x
          · have Hs : Hid (ftJ r G L (j + 1) = C) := by show _ = _; rw [ftJ_no (by rw [htD, ← hx]; exact hc), HC.out]
            have E1 : bits .andNot .i64 (x : Int) (G : Int) = 0 := by rw [hE, hc, Nat.xor_self]; rfl
            clear hE hc ht htD hx HC HG2
            go_wp2
            go_roundw
            case rel => exact ⟨j + 1, C, by omega, by go_num, rfl, by omega, Hs, HRj⟩
            case measure => (simp [intOf] <;> omega)
          · have Hs : Hid (ftJ r G L (j + 1) = C + 1) := by show _ = _; rw [ftJ_yes (by rw [htD, ← hx]; exact hc), HC.out]
            obtain ⟨y2, hy2⟩ : ∃ y2, y2 = x ^^^ (x &&& G) := ⟨_, rfl⟩
            have hy0 : y2 ≠ 0 := by
              intro e
              rw [hy2] at e
              apply hc
              apply Nat.eq_of_testBit_eq
              intro i
              have := congrArg (fun z => z.testBit i) e
              simp only [Nat.testBit_xor, Nat.zero_testBit] at this
              revert this
              cases x.testBit i <;> cases (x &&& G).testBit i <;> simp
            rw [← hy2] at hE
            have d1 : ((y2 : Int) != 0) = true := by simp; omega
            have d2 : ((y2 : Int) = 0) = False := by simp; omega
            clear hc ht htD hx HC HG2 hy2
            go_wp2
            go_roundw
            case rel => exact ⟨j + 1, C + 1, by omega, by go_num, by go_num, by omega, Hs, HRj⟩
            case measure => (simp [intOf] <;> omega)
        · obtain rfl : j = L.length := by omega
          have hCy : C = y := by rw [← HC.out, ← HFJ.out]
          subst hCy
          obtain ⟨N, hN⟩ : ∃ N, N = max M C := ⟨_, rfl⟩
          have hN7 : N ≤ 7 := by omega
          have Hs : Hid (csW (fun S _ => fwN r S) q (k + 1) = N) := by show _ = _; rw [HST.out, hN]
          have HN := Lib.hid hN
          clear hN
          go_wp2
          go_roundw
          case rel => exact ⟨k + 1, N, G, by omega, by go_num, by have := HN.out; congr 1; split <;> omega, rfl, hN7, hG128, HG2, Hs, HRr⟩
          case measure => (simp [intOf] <;> omega)
    · obtain rfl : k = q.length := by omega
      have HBr := Lib.hid (HB.out.up HR.out)
      have hfin : Hid ((M : Int) = cuP r m q) := by show _ = _; unfold cuP; rw [← HM.out, Hlen.out]
      go_wp2
      go_ret
      exact ⟨ret_int hfin.out, HBr.out.below⟩
set_option maxRecDepth 100000 in
theorem PathwidthOf_v (h : GV w A m c r) :
    Calls Tryz.prog 35 #[.agg #[.int .i64 m, .slice A m c]] w fun e w' => e = .returned (.int .i64 (pwI r m)) ∧ Below w.heap.size w w' := by
  obtain ⟨W, hW⟩ : ∃ W : World, W = (w.alloc (Obj.cells #[Value.int IntKind.i64 m, Value.slice A m c] 27)) := ⟨_, rfl⟩
  have HB : Hid (From w W) := by rw [hW]; exact From.alloc _ _
  have HG : Hid (GBox W w.heap.size A m c r) := by rw [hW]; exact h.box
  have HW := Lib.hid hW
  clear hW h
  have e0 := HG.out.c0
  have e1 := HG.out.c1
  have KB := Lib.hid (bestOrder_g (fn := 71) (caps := #[]) (p := cuP r m) (ent_of Tryz.func71 (by kernel_rfl) rfl) W HG.out.gv (fun l A' c' z hb hl hlen hv hn => CutOf_v (HG.out.gv.keep hb) hl hlen hv hn))
  go_enter Tryz.func35, Tryz.ntmps35
  go_wp2_with fail
  rw [← HW.out]
  refine (KB.out).mono ?_
  rintro e w1 ⟨Ab, cb, rfl, ho, hb1⟩
  clear HW
  clear e0 e1
  replace HB := Lib.hid (HB.out.keep hb1)
  replace HG := Lib.hid (HG.out.keep hb1)
  clear hb1
  have e0 := HG.out.c0
  have e1 := HG.out.c1
  clear ho KB
  go_wp2
  go_ret
  exact ⟨rfl, HB.out.below⟩
end
end Go.Proofs.YtjonhbmgmamchaaGreatDoor
