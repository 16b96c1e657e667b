/-
  Contracts: the width of an order and the least width (the program's).
-/
import Derived.Test.YtjonhbmgmamchaaGreatDoorRdBndI
import Derived.Test.YtjonhbmgmamchaaGreatDoorRdWdoP
import Derived.Test.YtjonhbmgmamchaaGreatDoorRdFillOI
import Derived.Test.YtjonhbmgmamchaaGreatDoorRdGB
import Derived.Test.YtjonhbmgmamchaaGreatDoorRdBest
namespace Go.Proofs.YtjonhbmgmamchaaGreatDoor
open Go.RowKit

section
variable {A Al : Option Addr} {m c cl : Nat} {r : Nat → Nat} {q : List Nat} {w : World}
theorem FillOf_v (h : GV w A m c r) (hl : LN w Al cl q) (hlen : q.length = m) (hq : ∀ v ∈ q, v < m) (hn : q.Nodup) :
    Calls Tryz.prog 102 #[.agg #[.int .i64 m, .slice A m c], .slice Al q.length cl] w fun e w' => ∃ A' c', e = .returned (.tuple #[.slice A' (wdE r (fl r (q.map fun v : Nat => (v : Int)) m) m).length c', .bool true]) ∧ OC w.heap.size w'.heap.size w' A' c' (wdE r (fl r (q.map fun v : Nat => (v : Int)) m) m) ∧ Below w.heap.size w w' := by
  have hm7 := h.vg.n7
  have hV := vz_nat hn hq
  have hL : (q.map fun v : Nat => (v : Int)).length = m := by rw [List.length_map, hlen]
  refine (FillOf_i (m : Int) A m c _ Al q.length cl _ w h.ga hl.li (by omega) (by omega)).mono ?_
  rintro e w' ⟨A', c', D, rfl, hD, ho, hb⟩
  have hD2 : lists D = arI (wdE r (fl r (q.map fun v : Nat => (v : Int)) m) m) := by rw [hD, fof_wd h.ok hV hL, rw_cast]
  exact ⟨A', c', by rw [arI_len hD2, orB_yes h.ok hV hL], ⟨⟨D, ho.e, hD2⟩, Nat.le_refl _⟩, hb⟩
set_option maxRecDepth 100000 in
set_option maxHeartbeats 6400000 in
theorem WidthOfOrder_v (h : GV w A m c r) (hl : LN w Al cl q) (hlen : q.length = m) (hq : ∀ v ∈ q, v < m) (hn : q.Nodup) :
    Calls Tryz.prog 72 #[.agg #[.int .i64 m, .slice A m c], .slice Al q.length cl] w fun e w' => e = .returned (.int .i64 (wiP r m q)) ∧ Below w.heap.size w w' := by
  have hm7 := h.vg.n7
  have hm1 := h.vg.n1
  have HV : Hid (VZ m (q.map fun v : Nat => (v : Int))) := vz_nat hn hq
  have HL : Hid ((q.map fun v : Nat => (v : Int)).length = m) := by show _ = _; rw [List.length_map, hlen]
  have HQ : Hid (∀ k (hk : k < q.length), q[k] < m ∧ ((q[k] : Nat) : Int) ∈ (q.map fun v : Nat => (v : Int)) ∧ (q.map fun v : Nat => (v : Int)).getD k 0 = ((q[k] : Nat) : Int)) := fun k hk => ⟨hq _ (List.getElem_mem hk), mem_cast.2 (List.getElem_mem hk), by rw [getD_nat, List.getD_eq_getElem?_getD, List.getElem?_eq_getElem hk]; rfl⟩
  have HVF : Hid (VG m (fl r (q.map fun v : Nat => (v : Int)) m)) := h.vg.fl HV.out m (by rw [HL.out]; exact Nat.le_refl _)
  have HFE : Hid (∀ v, v < m → wdR r (fl r (q.map fun v : Nat => (v : Int)) m) m (wdE r (fl r (q.map fun v : Nat => (v : Int)) m) m).length v = fl r (q.map fun v : Nat => (v : Int)) m v) := fun v hv => wd_fl h.vg HV.out HL.out hv
  have HRV : Hid (∀ k, VG m (wdR r (fl r (q.map fun v : Nat => (v : Int)) m) m k)) := fun k => wdR_vg h.vg
  have hwi : wiP r m q = ((mwK (fl r (q.map fun v : Nat => (v : Int)) m) (q.map fun v : Nat => (v : Int)) m : Nat) : Int) := rfl
  have KF : Hid (∀ z : World, GV z A m c r → LN z Al cl q → Calls Tryz.prog 102 #[.agg #[.int .i64 m, .slice A m c], .slice Al q.length cl] z fun e w' => ∃ A' c', e = .returned (.tuple #[.slice A' (wdE r (fl r (q.map fun v : Nat => (v : Int)) m) m).length c', .bool true]) ∧ OC z.heap.size w'.heap.size w' A' c' (wdE r (fl r (q.map fun v : Nat => (v : Int)) m) m) ∧ Below z.heap.size z w') := fun z hz hl => FillOf_v hz hl hlen hq hn
  rw [hwi]
  obtain ⟨F, hF⟩ : ∃ F, F = fl r (q.map fun v : Nat => (v : Int)) m := ⟨_, rfl⟩
  rw [← hF] at HVF HFE HRV KF ⊢
  have HE : Hid (∀ k (hk : k < (wdE r F m).length), wdR r F m (k + 1) = addN (wdR r F m k) ((wdE r F m)[k]).1 ((wdE r F m)[k]).2 ∧ ((wdE r F m)[k]).1 < ((wdE r F m)[k]).2 ∧ ((wdE r F m)[k]).2 < m) := fun k hk => ⟨wdR_step h.vg hk, (mem_wdE.1 (List.getElem_mem hk)).1, (mem_wdE.1 (List.getElem_mem hk)).2.1⟩
  have hE21 : (wdE r F m).length ≤ 21 := wdE_len hm7
  obtain ⟨R, hR⟩ : ∃ R, R = wdR r F m := ⟨_, rfl⟩
  have HR0 : Hid (R 0 = r) := by rw [hR]; rfl
  rw [← hR] at HFE HRV HE
  obtain ⟨E, hE⟩ : ∃ E, E = wdE r F m := ⟨_, rfl⟩
  rw [← hE] at HFE KF HE hE21
  have hq7 : q.length ≤ 7 := by omega
  have Hlen := Lib.hid hlen
  have hq1 : 0 < q.length := by omega
  clear hE hR hF hq hn hlen hwi
  obtain ⟨W, hW⟩ : ∃ W : World, W = (w.alloc (Obj.cells #[Value.int IntKind.i64 m, Value.slice A m c] 27)) := ⟨_, rfl⟩
  have HB : Hid (From w W) := by rw [hW]; exact From.alloc _ _
  have HG : Hid (GBox W w.heap.size A m c r) := by rw [hW]; exact h.box
  have HW := Lib.hid hW
  clear hW h
  have e0 := HG.out.c0
  have e1 := HG.out.c1
  have HLW : Hid (LN w Al cl q) := hl
  have HLN := Lib.hid (hl.keep HB.out.below)
  clear hl
  go_enter Tryz.func72, Tryz.ntmps72
  go_wp2_with fail
  rw [← HW.out]
  refine (KF.out W HG.out.gv HLN.out).mono ?_
  rintro e w1 ⟨A5, c5, rfl, ho5, hb1⟩
  clear HW
  clear e0 e1
  replace HB := Lib.hid (HB.out.keep hb1)
  replace HLN := Lib.hid (HLN.out.keep hb1)
  replace HG := Lib.hid (HG.out.keep hb1)
  clear hb1
  have e0 := HG.out.c0
  have e1 := HG.out.c1
  have HOC : Hid (OC 0 w1.heap.size w1 A5 c5 E) := ho5.mono (Nat.zero_le _)
  have hz1 := HG.out.lt
  have hzB := HB.out.below.size
  clear KF ho5
  go_wp2_with fail
  refine (copyGraph_any m A m c _ w1 w1.heap.size HG.out.gv.rd (Nat.le_refl _) (by omega)).mono ?_
  rintro e wc ⟨A3, c3, rfl, hO3, hb2⟩
  have z2 := hb2.size
  obtain ⟨g, rfl, hg1, hg2, hO4⟩ := hO3.only (by omega)
  have HRW : Hid (RW wc g m c3 (R 0)) := by rw [HR0.out]; exact ⟨hO4, hm1⟩
  replace HOC := Lib.hid (HOC.out.keep hb2)
  clear e0 e1
  replace HB := Lib.hid (HB.out.keep hb2)
  replace HLN := Lib.hid (HLN.out.keep hb2)
  replace HG := Lib.hid (HG.out.keep hb2)
  clear hb2 hO3 hO4
  have e0 := HG.out.c0
  have e1 := HG.out.c1
  obtain ⟨W3, hW3⟩ : ∃ W3 : World, W3 = wc.alloc (Obj.cells #[Value.int IntKind.i64 m, Value.slice (some ⟨g, 0, none⟩) m c3] 27) := ⟨_, rfl⟩
  have hb3 : Below wc.heap.size wc W3 := by rw [hW3]; exact (Below.refl _ _).alloc (Nat.le_refl _) _
  have HQ3 : Hid (GC W3 wc.heap.size m (some ⟨g, 0, none⟩) m c3) := by rw [hW3]; exact GC.new _ _ _ _ _
  replace HOC := Lib.hid (HOC.out.keep hb3)
  replace HRW := Lib.hid (HRW.out.keep hb3)
  have HB3 : Hid (From w W3) := HB.out.keep hb3
  have HLN3 : Hid (LN W3 Al cl q) := HLN.out.keep hb3
  have HW3 := Lib.hid hW3
  clear hW3 hb3 e0 e1 HG HLN HB
  go_wp2
  rw [← HW3.out]
  clear HW3
  go_loopw [25] (fun i wr => ∃ k : Nat, k ≤ E.length ∧ i = .int .i64 k ∧ Hid (RW wr g m c3 (R k)) ∧ Hid (GC wr wc.heap.size m (some ⟨g, 0, none⟩) m c3) ∧ Hid (OC 0 w1.heap.size wr A5 c5 E) ∧ Hid (From w wr) ∧ Hid (LN wr Al cl q)) (fun i _ => E.length - (intOf i).toNat)
  case atStart => exact ⟨0, Nat.zero_le _, rfl, HRW, HQ3, HOC, HB3, HLN3⟩
  case round =>
    clear HRW HQ3 HOC HB3 HLN3
    obtain ⟨k, hk, rfl, HRW, HQ3, HOC, HB, HLN⟩ := hrel
    by_cases hlt : k < E.length
    · obtain ⟨b5, rfl⟩ := HOC.out.addr (by omega)
      obtain ⟨gd, cap, q0, hgd, hac⟩ := HOC.out.arc hlt
      obtain ⟨hst, huv, hvm⟩ := HE.out k hlt
      have p1 := hac.c0
      have p2 := hac.c1
      have hcap := hac.le
      obtain ⟨u, hu⟩ : ∃ u, u = (E[k]).1 := ⟨_, rfl⟩
      obtain ⟨v, hv⟩ : ∃ v, v = (E[k]).2 := ⟨_, rfl⟩
      rw [← hu] at p1 hst huv
      rw [← hv] at p2 hst huv hvm
      have HX : Hid (∀ j, j < m → R k j < 128) := fun j hj => (HRV.out k).lt128 hj
      have HST := Lib.hid hst
      have hgr := HRW.out.lt
      have hqr := HQ3.out.lt
      have e0 := HQ3.out.c0
      have e1 := HQ3.out.c1
      have i1 : (k : Int) < (E.length : Int) := by omega
      have KF := Lib.hid (flip_any m g m c3 (R k) u v wr.drew g (g + 1) HRW.out.drew.own (by show g + 1 ≤ wr.heap.size; omega) hm7 (by omega) hvm (by omega) HX.out)
      have hgl := World.block_lt_of_cell? _ _ p1
      have hne : gd < g ∨ g + 1 ≤ gd := .inl (by omega)
      have hwg : w.heap.size ≤ g := by omega
      clear hst hu hv hac
      go_wp2
      refine wp_region_held_drew (S := fun z => z.cell? ⟨wc.heap.size, 0, none⟩ = some (.int .i64 m) ∧ z.cell? ⟨wc.heap.size, 1, none⟩ = some (.slice (some ⟨g, 0, none⟩) m c3) ∧ z.cell? ⟨gd, 0, none⟩ = some (.int .i64 u) ∧ z.cell? ⟨gd, 1, none⟩ = some (.int .i64 v)) (by kernel_rfl) ⟨e0, e1, p1, p2⟩ (fun hHeld => ?_)
      refine take_yes (i := 0) (d := 29) (v := ?v1) rfl rfl (by kernel_rfl) (by kernel_rfl) (by kernel_rfl) (fun _ _ _ h => h) (by rfl) ?y1 (by assumption) ?r1
      case y1 => (intro w hSw; (try dsimp only at hSw); go_simp <;> with_reducible rfl)
      simp only [Act.put, List.setIfInBounds_toArray, List.set_cons_zero, List.set_cons_succ]
      refine take_yes (i := 1) (d := 30) (v := ?v2) rfl rfl (by kernel_rfl) (by kernel_rfl) (by kernel_rfl) (fun _ _ _ h => h) (by rfl) ?y2 (by assumption) ?r2
      case y2 => (intro w hSw; (try dsimp only at hSw); go_simp <;> with_reducible rfl)
      simp only [Act.put, List.setIfInBounds_toArray, List.set_cons_zero, List.set_cons_succ]
      refine take_yes (i := 2) (d := 31) (v := ?v3) rfl rfl (by kernel_rfl) (by kernel_rfl) (by kernel_rfl) (fun _ _ _ h => h) (by rfl) ?y3 (by assumption) ?r3
      case y3 => (intro w hSw; (try dsimp only at hSw); go_simp <;> with_reducible rfl)
      simp only [Act.put, List.setIfInBounds_toArray, List.set_cons_zero, List.set_cons_succ]
      refine take_yes (i := 3) (d := 32) (v := ?v4) rfl rfl (by kernel_rfl) (by kernel_rfl) (by kernel_rfl) (fun _ _ _ h => h) (by rfl) ?y4 (by assumption) ?r4
      case y4 => (intro w hSw; (try dsimp only at hSw); go_simp <;> with_reducible rfl)
      simp only [Act.put, List.setIfInBounds_toArray, List.set_cons_zero, List.set_cons_succ]
      refine take_yes (i := 4) (d := 33) (v := ?v5) rfl rfl (by kernel_rfl) (by kernel_rfl) (by kernel_rfl) (fun _ _ _ h => h) (by rfl) ?y5 (by assumption) ?r5
      case y5 => (intro w hSw; (try dsimp only at hSw); go_simp <;> with_reducible rfl)
      simp only [Act.put, List.setIfInBounds_toArray, List.set_cons_zero, List.set_cons_succ]
      refine take_yes (i := 5) (d := 34) (v := ?v6) rfl rfl (by kernel_rfl) (by kernel_rfl) (by kernel_rfl) (fun _ _ _ h => h) (by rfl) ?y6 (by assumption) ?r6
      case y6 => (intro w hSw; (try dsimp only at hSw); go_simp <;> with_reducible rfl)
      simp only [Act.put, List.setIfInBounds_toArray, List.set_cons_zero, List.set_cons_succ]
      refine take_yes (i := 6) (d := 35) (v := ?v7) rfl rfl (by kernel_rfl) (by kernel_rfl) (by kernel_rfl) (fun _ _ _ h => h) (by rfl) ?y7 (by assumption) ?r7
      case y7 => (intro w hSw; (try dsimp only at hSw); go_simp <;> with_reducible rfl)
      simp only [Act.put, List.setIfInBounds_toArray, List.set_cons_zero, List.set_cons_succ]
      refine wpAnyH_ready (rs := [7]) (by kernel_rfl) (by simp) ?_
      refine AllReadyH.cons rfl (fun K hK => ?_) AllReadyH.nil
      go_simp
      go_at_call 103; refine (KF.out).mono ?_
      rintro e w5 ⟨rfl, ho5, hf5⟩
      refine hK.out _ _ ⟨frC_ hf5 e0 hqr (.inr (by omega)), frC_ hf5 e1 hqr (.inr (by omega)), frC_ hf5 p1 hgl hne, frC_ hf5 p2 hgl hne⟩ (fun hHeld => ?_)
      clear hK K
      try simp only [Act.put, List.setIfInBounds_toArray, List.set_cons_zero, List.set_cons_succ]
      refine wpAnyH_done (by kernel_rfl) ?_ _
      have HRW5 : Hid (RW w5 g m c3 (R (k + 1))) := by rw [HST.out]; exact ⟨ho5, HRW.out.pos⟩
      have HQ5 : Hid (GC w5 wc.heap.size m (some ⟨g, 0, none⟩) m c3) := HQ3.out.drew.keepF hf5 (.inr (by show g + 1 ≤ wc.heap.size; omega))
      have HOC5 : Hid (OC 0 w1.heap.size w5 (some ⟨b5, 0, none⟩) c5 E) := (HOC.out.keep (Below.refl _ _).drew).keepF hf5 (.inr (by omega))
      have HB5 : Hid (From w w5) := ⟨HB.out.drew.below.trans (hf5.below hwg HB.out.drew.below.size)⟩
      have HLN5 : Hid (LN w5 Al cl q) := HLW.out.keep HB5.out.below
      clear ho5 hf5 KF e0 e1 p1 p2 q0 HRW HQ3 HOC HB HLN hgr hqr hgl
      go_wp2
      go_roundw
      case rel => exact ⟨k + 1, by omega, by go_num, HRW5, HQ5, HOC5, HB5, HLN5⟩
      case measure => (simp [intOf] <;> omega)
    · obtain rfl : k = E.length := by omega
      have HRF : Hid (RW wr g m c3 F) := ⟨HRW.out.own.congr (fun j hj => by rw [HFE.out j (by omega)]), HRW.out.pos⟩
      have HGF : Hid (GV wr (some ⟨g, 0, none⟩) m c3 F) := HRF.out.gv HVF.out
      have HM0 : Hid (mwK F (q.map fun v : Nat => (v : Int)) 0 = 0) := rfl
      have HR0' : Hid (From wr wr) := From.refl _
      clear HOC HRW HRF
      obtain ⟨ws, hws⟩ : ∃ ws : World, ws = wr := ⟨_, rfl⟩
      rw [← hws] at HQ3 HB HLN HGF HR0' ⊢
      clear hws
      go_wp2
      go_loopw [8, 40] (fun a i wr => ∃ k M : Nat, k ≤ q.length ∧ i = .int .i64 k ∧ a = .int .i64 M ∧ M ≤ 7 ∧ Hid (mwK F (q.map fun v : Nat => (v : Int)) k = M) ∧ Hid (From ws wr)) (fun _ i _ => q.length - (intOf i).toNat)
      case atStart => exact ⟨0, 0, Nat.zero_le _, rfl, rfl, by omega, HM0, HR0'⟩
      case round =>
        clear HR0' HM0
        obtain ⟨k, M, hk, rfl, rfl, hM, HM, HR⟩ := hrel
        have HLr := Lib.hid (HLN.out.keep HR.out.below)
        have HGr := Lib.hid (HGF.out.keep HR.out.below)
        have HQr := Lib.hid (HQ3.out.keep HR.out.below)
        have HBr := Lib.hid (HB.out.up HR.out)
        by_cases hlt : k < q.length
        · obtain ⟨bl, ol, rfl⟩ := HLr.out.addr hq1
          have p0 := HLr.out.at hlt
          obtain ⟨hvm, hvl, hvd⟩ := HQ.out k hlt
          have hs : ltN F (q.map fun v : Nat => (v : Int)) ((q[k] : Nat) : Int) < 2 ^ m := ltN_lt HVF.out (by omega) (by omega)
          have KL : Hid (∀ z : World, Below wr.heap.size wr z → Calls Tryz.prog 104 #[.agg #[.int .i64 m, .slice (some ⟨g, 0, none⟩) m c3], .slice (some ⟨bl, ol, none⟩) q.length cl, .int .i64 ((q[k] : Nat) : Int)] z fun e w' => e = .returned (.int .i64 (ltN F (q.map fun v : Nat => (v : Int)) ((q[k] : Nat) : Int) : Nat)) ∧ Below z.heap.size z w') := fun z hz => LaterNeighbours_iv (HGr.out.keep hz) (HLr.out.keep hz).li HV.out HL.out hvl
          have hst : mwK F (q.map fun v : Nat => (v : Int)) (k + 1) = max (mwK F (q.map fun v : Nat => (v : Int)) k) (cn (ltN F (q.map fun v : Nat => (v : Int)) ((q[k] : Nat) : Int))) := by rw [mwK, hvd]
          rw [HM.out] at hst
          have h128 := two_pow_le hm7
          obtain ⟨v, hv⟩ : ∃ v, v = q[k] := ⟨_, rfl⟩
          rw [← hv] at p0 KL hst hs
          obtain ⟨s, hse⟩ : ∃ s, s = ltN F (q.map fun v : Nat => (v : Int)) ((v : Nat) : Int) := ⟨_, rfl⟩
          rw [← hse] at KL hst hs
          have hf7 : cn s ≤ 7 := listN_len s
          obtain ⟨N, hN⟩ : ∃ N, N = max M (cn s) := ⟨_, rfl⟩
          rw [← hN] at hst
          have hN7 : N ≤ 7 := by omega
          have HN := Lib.hid hN
          have HST := Lib.hid hst
          have hs128 : s < 128 := by omega
          have e0 := HQr.out.c0
          have e1 := HQr.out.c1
          have i1 : (k : Int) < (q.length : Int) := by omega
          clear hst hv hse hN hvl hvd hvm h128 HM
          go_wp2_with fail
          refine (KL.out _ (Below.refl _ _)).mono ?_
          rintro e w2 ⟨rfl, hb2⟩
          replace HR := Lib.hid (HR.out.keep hb2)
          replace HBr := Lib.hid (HBr.out.keep hb2)
          clear hb2
          go_wp2_with fail
          refine (CountSet_v s hs128 _).mono ?_
          rintro e w3 ⟨rfl, hb3⟩
          replace HR := Lib.hid (HR.out.keep hb3)
          replace HBr := Lib.hid (HBr.out.keep hb3)
          clear hb3
          go_wp2
          go_roundw
          case rel => exact ⟨k + 1, N, by omega, by go_num, by have := HN.out; congr 1; split <;> omega, hN7, HST, HR⟩
          case measure => (simp [intOf] <;> omega)
        · obtain rfl : k = q.length := by omega
          have hfin : Hid ((M : Int) = ((mwK F (q.map fun v : Nat => (v : Int)) m : Nat) : Int)) := by show _ = _; rw [← HM.out, Hlen.out]
          go_wp2
          go_ret
          exact ⟨ret_int hfin.out, HBr.out.below⟩
set_option maxRecDepth 100000 in
theorem TreewidthOf_v (h : GV w A m c r) :
    Calls Tryz.prog 36 #[.agg #[.int .i64 m, .slice A m c]] w fun e w' => e = .returned (.int .i64 (trI r m)) ∧ Below w.heap.size w w' := by
  obtain ⟨W, hW⟩ : ∃ W : World, W = (w.alloc (Obj.cells #[Value.int IntKind.i64 m, Value.slice A m c] 27)) := ⟨_, rfl⟩
  have HB : Hid (From w W) := by rw [hW]; exact From.alloc _ _
  have HG : Hid (GBox W w.heap.size A m c r) := by rw [hW]; exact h.box
  have HW := Lib.hid hW
  clear hW h
  have e0 := HG.out.c0
  have e1 := HG.out.c1
  have KB := Lib.hid (bestOrder_g (fn := 72) (caps := #[]) (p := wiP r m) (ent_of Tryz.func72 (by kernel_rfl) rfl) W HG.out.gv (fun l A' c' z hb hl hlen hv hn => WidthOfOrder_v (HG.out.gv.keep hb) hl hlen hv hn))
  go_enter Tryz.func36, Tryz.ntmps36
  go_wp2_with fail
  rw [← HW.out]
  refine (KB.out).mono ?_
  rintro e w1 ⟨Ab, cb, rfl, ho, hb1⟩
  clear HW
  clear e0 e1
  replace HB := Lib.hid (HB.out.keep hb1)
  replace HG := Lib.hid (HG.out.keep hb1)
  clear hb1
  have e0 := HG.out.c0
  have e1 := HG.out.c1
  clear ho KB
  go_wp2
  go_ret
  exact ⟨rfl, HB.out.below⟩
end
end Go.Proofs.YtjonhbmgmamchaaGreatDoor
