/-
  Contracts: the band of an order and the least band (the program's).
-/
import Derived.Test.YtjonhbmgmamchaaGreatDoorRdBestOrd
import Derived.Test.YtjonhbmgmamchaaGreatDoorRdIdxI
import Derived.Test.YtjonhbmgmamchaaGreatDoorRdLater
import Derived.Test.YtjonhbmgmamchaaGreatDoorRdBndQ
import Derived.Test.YtjonhbmgmamchaaGreatDoorRdPackP
namespace Go.Proofs.YtjonhbmgmamchaaGreatDoor
open Go.RowKit

/-- A number's place in a list. -/
def ixQ (q : List Nat) (v : Nat) : Nat := ixN (q.map fun v : Nat => (v : Int)) (v : Int)
section
variable {A Al : Option Addr} {m c cl : Nat} {r : Nat → Nat} {q : List Nat} {w : World}
theorem mem_cast {v : Nat} : (v : Int) ∈ q.map (fun v : Nat => (v : Int)) ↔ v ∈ q := by
  rw [List.mem_map]
  exact ⟨fun ⟨u, h, e⟩ => by obtain rfl : u = v := by omega
                             exact h, fun h => ⟨v, h, rfl⟩⟩
theorem ixQ_lt {v : Nat} (h : v ∈ q) : ixQ q v < q.length := by
  have := (ixN_in (mem_cast.2 h)).1
  rwa [List.length_map] at this
theorem ixQ_at (hn : q.Nodup) {i : Nat} (hi : i < q.length) : ixQ q (q.getD i 0) = i := by
  have h := ixN_atT (l := q.map fun v : Nat => (v : Int)) (List.pairwise_map.2 (hn.imp fun h e => h (by omega))) (k := i) (by rw [List.length_map]; exact hi)
  rw [getD_nat] at h
  exact h
theorem Index_q (hl : LN w Al cl q) {v : Nat} (hv : v ∈ q) (hlen : q.length ≤ 1048576) :
    Calls Tryz.prog 101 #[.slice Al q.length cl, .int .i64 (v : Int)] w fun e w' => e = .returned (.int .i64 (ixQ q v : Nat)) ∧ Below w.heap.size w w' := by
  refine (Index_z Al q.length cl _ v w hl.li hlen).mono ?_
  rintro e w' ⟨rfl, rfl⟩
  exact ⟨by rw [(ixN_in (mem_cast.2 hv)).2.1]; rfl, Below.refl _ _⟩
theorem IsOrder_v (h : GV w A m c r) (hl : LN w Al cl q) (hlen : q.length = m) (hq : ∀ v ∈ q, v < m) (hn : q.Nodup) :
    Calls Tryz.prog 100 #[.agg #[.int .i64 m, .slice A m c], .slice Al q.length cl] w fun e w' => e = .returned (.bool true) ∧ Below w.heap.size w w' := by
  have hm7 := h.vg.n7
  have := IsOrder_z (m : Int) A m c _ Al q.length cl _ w h.ga hl.li (by omega) (by omega)
  rwa [orB_yes h.ok (vz_nat hn hq) (by rw [List.length_map, hlen])] at this
set_option maxRecDepth 100000 in
set_option maxHeartbeats 3200000 in
theorem BandOf_v (h : GV w A m c r) (hl : LN w Al cl q) (hlen : q.length = m) (hq : ∀ v ∈ q, v < m) (hn : q.Nodup) :
    Calls Tryz.prog 70 #[.agg #[.int .i64 m, .slice A m c], .slice Al q.length cl] w fun e w' => e = .returned (.int .i64 (bdP r q)) ∧ Below w.heap.size w w' := by
  have hm7 := h.vg.n7
  have hall : ∀ v, v < m → v ∈ q := fun v hv => all_in hn hq hlen hv
  have HF : Hid (beK (ixQ q) (edN r m) (edN r m).length = bdV r q) := beK_bd h.vg hq hall (fun i hi => ixQ_at hn hi)
  have HI : Hid (∀ v, v < m → v ∈ q ∧ ixQ q v ≤ 6) := fun v hv => ⟨hall v hv, by have := ixQ_lt (hall v hv); omega⟩
  have HEM : Hid (∀ p ∈ edN r m, p.1 < m ∧ p.2 < m) := fun p hp => by have := mem_edN.1 hp; omega
  have hE21 : (edN r m).length ≤ 21 := edN_len hm7
  obtain ⟨E, hE⟩ : ∃ E, E = edN r m := ⟨_, rfl⟩
  have KE : Hid (∀ z : World, GV z A m c r → Calls Tryz.prog 66 #[.agg #[.int .i64 m, .slice A m c]] z fun e w' => ∃ A' c', e = .returned (.slice A' E.length c') ∧ OC z.heap.size w'.heap.size w' A' c' E ∧ Below z.heap.size z w') := fun z hz => by rw [hE]; exact EdgesOf_v hz
  rw [← hE] at HF HEM hE21
  have hq7 : q.length ≤ 7 := by omega
  have KO : Hid (∀ z : World, GV z A m c r → LN z Al cl q → Calls Tryz.prog 100 #[.agg #[.int .i64 m, .slice A m c], .slice Al q.length cl] z fun e w' => e = .returned (.bool true) ∧ Below z.heap.size z w') := fun z hz hl => IsOrder_v hz hl hlen hq hn
  obtain ⟨Y, hY⟩ : ∃ Y, Y = bdV r q := ⟨_, rfl⟩
  rw [← hY] at HF
  have HYB : Hid (bdP r q = (Y : Int)) := by show _ = _; rw [hY]; rfl
  rw [HYB.out]
  clear hE hY hall hq hn hlen HYB
  obtain ⟨W, hW⟩ : ∃ W : World, W = (w.alloc (Obj.cells #[Value.int IntKind.i64 m, Value.slice A m c] 27)) := ⟨_, rfl⟩
  have HB : Hid (From w W) := by rw [hW]; exact From.alloc _ _
  have HG : Hid (GBox W w.heap.size A m c r) := by rw [hW]; exact h.box
  have HW := Lib.hid hW
  clear hW h
  have e0 := HG.out.c0
  have e1 := HG.out.c1
  have HL := Lib.hid (hl.keep HB.out.below)
  clear hl
  go_enter Tryz.func70, Tryz.ntmps70
  go_wp2_with fail
  rw [← HW.out]
  refine (KO.out W HG.out.gv HL.out).mono ?_
  rintro e w1 ⟨rfl, hb1⟩
  clear HW
  clear e0 e1
  replace HB := Lib.hid (HB.out.keep hb1)
  replace HL := Lib.hid (HL.out.keep hb1)
  replace HG := Lib.hid (HG.out.keep hb1)
  clear hb1
  have e0 := HG.out.c0
  have e1 := HG.out.c1
  go_wp2_with fail
  refine (KE.out w1 HG.out.gv).mono ?_
  rintro e w2 ⟨A5, c5, rfl, ho5, hb2⟩
  clear e0 e1
  replace HB := Lib.hid (HB.out.keep hb2)
  replace HL := Lib.hid (HL.out.keep hb2)
  replace HG := Lib.hid (HG.out.keep hb2)
  clear hb2
  have e0 := HG.out.c0
  have e1 := HG.out.c1
  have HOC : Hid (OC 0 w2.heap.size w2 A5 c5 E) := ho5.mono (Nat.zero_le _)
  have HR0 : Hid (From w2 w2) := From.refl _
  clear ho5 KO KE e0 e1
  go_wp2
  go_loopw [5, 17] (fun a i wr => ∃ k M : Nat, k ≤ E.length ∧ i = .int .i64 k ∧ a = .int .i64 M ∧ M ≤ 6 ∧ Hid (beK (ixQ q) E k = M) ∧ Hid (From w2 wr)) (fun _ i _ => E.length - (intOf i).toNat)
  case atStart => exact ⟨0, 0, Nat.zero_le _, rfl, rfl, by omega, rfl, HR0⟩
  case round =>
    clear HR0
    obtain ⟨k, M, hk, rfl, rfl, hM, HM, HR⟩ := hrel
    by_cases hlt : k < E.length
    · have HBr := Lib.hid (HB.out.up HR.out)
      have HLr := Lib.hid (HL.out.keep HR.out.below)
      have HOr := Lib.hid (HOC.out.keep HR.out.below)
      obtain ⟨b5, rfl⟩ := HOr.out.addr (by omega)
      obtain ⟨g, cap, q0, hgr, hac⟩ := HOr.out.arc hlt
      have HAC := Lib.hid hac
      have hpm := HEM.out E[k] (List.getElem_mem hlt)
      obtain ⟨hi1, hx1⟩ := HI.out _ hpm.1
      obtain ⟨hi2, hx2⟩ := HI.out _ hpm.2
      have hst : beK (ixQ q) E (k + 1) = max (beK (ixQ q) E k) (max (ixQ q (E[k]).1 - ixQ q (E[k]).2) (ixQ q (E[k]).2 - ixQ q (E[k]).1)) := by
        have e : E.getD k (0, 0) = E[k] := by rw [List.getD_eq_getElem?_getD, List.getElem?_eq_getElem hlt]; rfl
        rw [beK, e]
      rw [HM.out] at hst
      have d0 := HAC.out.c0
      have d1 := HAC.out.c1
      have hcap := HAC.out.le
      have KI1 : Hid (∀ z : World, Below wr.heap.size wr z → Calls Tryz.prog 101 #[.slice Al q.length cl, .int .i64 ((E[k]).1 : Nat)] z fun e w' => e = .returned (.int .i64 (ixQ q (E[k]).1 : Nat)) ∧ Below z.heap.size z w') := fun z hz => Index_q (HLr.out.keep hz) hi1 (by omega)
      have KI2 : Hid (∀ z : World, Below wr.heap.size wr z → Calls Tryz.prog 101 #[.slice Al q.length cl, .int .i64 ((E[k]).2 : Nat)] z fun e w' => e = .returned (.int .i64 (ixQ q (E[k]).2 : Nat)) ∧ Below z.heap.size z w') := fun z hz => Index_q (HLr.out.keep hz) hi2 (by omega)
      obtain ⟨u, hu⟩ : ∃ u, u = (E[k]).1 := ⟨_, rfl⟩
      obtain ⟨v, hv⟩ : ∃ v, v = (E[k]).2 := ⟨_, rfl⟩
      rw [← hu] at d0 KI1 hx1 hst
      rw [← hv] at d1 KI2 hx2 hst
      obtain ⟨a, ha⟩ : ∃ a, a = ixQ q u := ⟨_, rfl⟩
      obtain ⟨b, hb⟩ : ∃ b, b = ixQ q v := ⟨_, rfl⟩
      rw [← ha] at KI1 hx1 hst
      rw [← hb] at KI2 hx2 hst
      have i1 : (k : Int) < (E.length : Int) := by omega
      have HST := Lib.hid hst
      clear hst hu hv ha hb hi1 hi2 hpm HAC hac
      obtain ⟨N, hN⟩ : ∃ N, N = max M (max (a - b) (b - a)) := ⟨_, rfl⟩
      have hN6 : N ≤ 6 := by omega
      have HN := Lib.hid hN
      clear hN
      have HSC : Hid (∀ z : World, Below wr.heap.size wr z → (Below wr.heap.size wr z ∧ z.cell? ⟨g, 0, none⟩ = some (.int .i64 (u : Nat)) ∧ z.cell? ⟨g, 1, none⟩ = some (.int .i64 (v : Nat)))) := fun z hz => ⟨hz, up_ hz d0, up_ hz d1⟩
      have HZ0 : Hid (Below wr.heap.size wr wr.drew) := (Below.refl _ _).drew
      have HS1 := Lib.hid (HSC.out _ HZ0.out)
      have KR1 : Hid (∀ z : World, Below wr.heap.size wr z → _) := fun z hz => KI1.out z hz
      have KR2 : Hid (∀ z : World, Below wr.heap.size wr z → _) := fun z hz => KI2.out z hz
      go_wp2
      go_region_held3 (fun z => Below wr.heap.size wr z ∧ z.cell? ⟨g, 0, none⟩ = some (.int .i64 (u : Nat)) ∧ z.cell? ⟨g, 1, none⟩ = some (.int .i64 (v : Nat)))
        (first | exact HS1.out | assumption | exact HSC.out _ hz4 | exact HSC.out _ hz3 | fail)
        (first | (go_at_call 101; ((with_reducible refine (KR1.out _ HZ0.out).mono ?_); rintro e w3 ⟨rfl, hb3⟩; have hz3 := bl_trans HZ0.out hb3)) | (go_at_call 101; ((with_reducible refine (KR2.out _ hz3).mono ?_); rintro e w4 ⟨rfl, hb4⟩; have hz4 := bl_trans hz3 hb4)))
      replace HBr := Lib.hid (HBr.out.keep hz4)
      replace HR := Lib.hid (HR.out.keep hz4)
      clear hb3 hz3 hb4 hz4 HSC HZ0 HS1 KR1 KR2
      go_wp2
      go_roundw
      case rel => exact ⟨k + 1, N, by omega, by go_num, by have := HN.out; congr 1; split <;> (try split) <;> omega, hN6, by show _ = _; rw [HST.out, HN.out], HR⟩
      case measure => (simp [intOf] <;> omega)
    · obtain rfl : k = E.length := by omega
      have HBr := Lib.hid (HB.out.up HR.out)
      have hfin : Hid ((M : Int) = (Y : Int)) := by show _ = _; rw [← HF.out, HM.out]
      go_wp2
      go_ret
      exact ⟨ret_int hfin.out, HBr.out.below⟩
set_option maxRecDepth 100000 in
theorem BandwidthOf_v (h : GV w A m c r) :
    Calls Tryz.prog 34 #[.agg #[.int .i64 m, .slice A m c]] w fun e w' => e = .returned (.int .i64 (bwI r m)) ∧ Below w.heap.size w w' := by
  obtain ⟨W, hW⟩ : ∃ W : World, W = (w.alloc (Obj.cells #[Value.int IntKind.i64 m, Value.slice A m c] 27)) := ⟨_, rfl⟩
  have HB : Hid (From w W) := by rw [hW]; exact From.alloc _ _
  have HG : Hid (GBox W w.heap.size A m c r) := by rw [hW]; exact h.box
  have HW := Lib.hid hW
  clear hW h
  have e0 := HG.out.c0
  have e1 := HG.out.c1
  have KB := Lib.hid (bestOrder_g (fn := 70) (caps := #[]) (p := bdP r) (ent_of Tryz.func70 (by kernel_rfl) rfl) W HG.out.gv (fun l A' c' z hb hl hlen hv hn => BandOf_v (HG.out.gv.keep hb) hl hlen hv hn))
  go_enter Tryz.func34, Tryz.ntmps34
  go_wp2_with fail
  rw [← HW.out]
  refine (KB.out).mono ?_
  rintro e w1 ⟨Ab, cb, rfl, ho, hb1⟩
  clear HW
  clear e0 e1
  replace HB := Lib.hid (HB.out.keep hb1)
  replace HG := Lib.hid (HG.out.keep hb1)
  clear hb1
  have e0 := HG.out.c0
  have e1 := HG.out.c1
  clear ho KB
  go_wp2
  go_ret
  exact ⟨rfl, HB.out.below⟩
end
end Go.Proofs.YtjonhbmgmamchaaGreatDoor
