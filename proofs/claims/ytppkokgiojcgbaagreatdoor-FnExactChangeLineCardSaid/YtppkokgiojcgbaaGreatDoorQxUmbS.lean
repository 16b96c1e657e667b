/-
-/
import Derived.Test.YtppkokgiojcgbaaGreatDoorQxSimP
import Derived.Test.YtppkokgiojcgbaaGreatDoorQxJoinI
namespace Go.Proofs.YtppkokgiojcgbaaGreatDoor
open Go.RowKit
theorem edge_b {A : Option Addr} {m c : Nat} {r : Nat → Nat} {W : World} (h : GV W A m c r) {v u : Nat} (hv : v < m) (hu : u < m) {b : Bool} (hb : (r v).testBit u = b) : ∀ z : World, Below W.heap.size W z → Calls Tryz.prog 70 #[.agg #[.int .i64 m, .slice A m c], .int .i64 v, .int .i64 u] z fun e w' => e = .returned (.bool b) ∧ Below z.heap.size z w' := fun z hz => by
 have := l2Edge_v (h.keep hz) hv hu
 rwa [hb] at this
set_option maxRecDepth 100000 in
set_option maxHeartbeats 3200000 in
theorem l12Umbrella_v {A : Option Addr} {m c : Nat} {r : Nat → Nat} {Al : Option Addr} {cl : Nat} {l : List Nat} {w : World} (h : GV w A m c r) (hl : LN w Al cl l) (hlt : ∀ v ∈ l, v < m) (hlen : l.length ≤ 7) :
 Calls Tryz.prog 245 #[.agg #[.int .i64 m, .slice A m c], .slice Al l.length cl] w fun e w' => e = .returned (.bool (umB r l)) ∧ Below w.heap.size w w' := by
 have hn7 := h.vg.n7
 have HL := Lib.hid hl
 have Hlt := Lib.hid hlt
 have HV := Lib.hid h.vg
 clear hl hlt
 obtain ⟨W, hW⟩ : ∃ W : World, W = (w.alloc (Obj.cells #[Value.int IntKind.i64 m, Value.slice A m c] 29)) := ⟨_, rfl⟩
 have HB : Hid (From w W) := by rw [hW]; exact From.alloc _ _
 have HG : Hid (GBox W w.heap.size A m c r) := by rw [hW]; exact h.box
 have HW := Lib.hid hW
 clear hW h
 have e0 := HG.out.c0
 have e1 := HG.out.c1
 replace HL := Lib.hid (HL.out.keep HB.out.below)
 have HR0 : Hid (From W W) := From.refl W
 go_enter Tryz.func245, Tryz.ntmps245
 go_wp2_with fail
 rw [← HW.out]
 clear HW e0 e1
 go_wp2
 go_loopw [5] (fun i wr => ∃ k : Nat, k ≤ l.length ∧ i = .int .i64 k ∧ Hid (Um1 r l k) ∧ Hid (From W wr)) (fun i _ => l.length - (intOf i).toNat)
 case atStart => exact ⟨0, Nat.zero_le _, rfl, Um1.zero, HR0⟩
 case round =>
  clear HR0
  obtain ⟨i, hi, rfl, H1, HR⟩ := hrel
  by_cases hil : i < l.length
  ·have i1 : (i : Int) < (l.length : Int) := by omega
   have s1 : wrap64 ((i : Int) + 2) = ((i + 2 : Nat) : Int) := by rw [Go.IntWalk.wrap64_in _ (by omega)]; simp
   go_wp2
   go_loopw [6] (fun j wr => ∃ k : Nat, i + 2 ≤ k ∧ k ≤ l.length + 1 ∧ j = .int .i64 k ∧ Hid (Um2 r l i k) ∧ Hid (From W wr)) (fun j _ => l.length + 1 - (intOf j).toNat)
   case atStart => exact ⟨i + 2, Nat.le_refl _, by omega, by first | rfl | exact congrArg (Value.int .i64) s1 | simp, Um2.zero, HR⟩
   case round =>
    clear HR s1
    obtain ⟨k, hk2, hk, rfl, H2, HR⟩ := hrel
    by_cases hkl : k < l.length
    ·have i2 : (k : Int) < (l.length : Int) := by omega
     have s1 : wrap64 ((i : Int) + 1) = ((i + 1 : Nat) : Int) := by rw [Go.IntWalk.wrap64_in _ (by omega)]; simp
     go_wp2
     go_loopw [7] (fun j wr => ∃ t : Nat, i + 1 ≤ t ∧ t ≤ k ∧ j = .int .i64 t ∧ Hid (Um3 r l i k t) ∧ Hid (From W wr)) (fun j _ => k - (intOf j).toNat)
     case atStart => exact ⟨i + 1, Nat.le_refl _, by omega, by first | rfl | exact congrArg (Value.int .i64) s1 | simp, Um3.zero, HR⟩
     case round =>
      clear HR s1
      obtain ⟨j, hij, hjk, rfl, H3, HR⟩ := hrel
      by_cases hlt : j < k
      ·have i4 : (j : Int) < (k : Int) := by omega
       have i5 : (j : Int) < (l.length : Int) := by omega
       have HGr := Lib.hid (HG.out.keep HR.out.below)
       have HLr := Lib.hid (HL.out.keep HR.out.below)
       obtain ⟨bl, ol, rfl⟩ := HLr.out.addr (by omega)
       have e0 := HGr.out.c0
       have e1 := HGr.out.c1
       have p0 := HLr.out.cell hil
       have p1 := HLr.out.cell hkl
       have hjl : j < l.length := by omega
       have p2 := HLr.out.cell hjl
       have hu := getD_lt Hlt.out hil
       have hv := getD_lt Hlt.out hkl
       have hy := getD_lt Hlt.out hjl
       have Hub : Hid (Ub r l i k j ↔ ((r (l.getD i 0)).testBit (l.getD k 0) = true → (r (l.getD i 0)).testBit (l.getD j 0) = true ∧ (r (l.getD j 0)).testBit (l.getD k 0) = true)) := by
        show _ ↔ _
        unfold Ub
        rw [HV.out.sym _ _ hy hv]
       obtain ⟨u, hu'⟩ : ∃ u, u = l.getD i 0 := ⟨_, rfl⟩
       obtain ⟨v, hv'⟩ : ∃ v, v = l.getD k 0 := ⟨_, rfl⟩
       obtain ⟨y, hy'⟩ : ∃ y, y = l.getD j 0 := ⟨_, rfl⟩
       rw [← hu', ← hv', ← hy'] at Hub
       rw [← hu'] at p0 hu
       rw [← hv'] at p1 hv
       rw [← hy'] at p2 hy
       have HBr := Lib.hid (HB.out.up HR.out)
       have HG0 := HGr
       clear hu' hv' hy'
       cases b1 : (r u).testBit v
       ·have K1 := Lib.hid (edge_b HG0.out.gv hu hv b1)
        have H3' : Hid (Um3 r l i k (j + 1)) := H3.out.step (Hub.out.2 fun hb => by rw [b1] at hb; cases hb)
        clear b1
        go_wp2
        have HSC : Hid (∀ z : World, Below wr.heap.size wr z → (Below wr.heap.size wr z ∧ z.cell? ⟨w.heap.size, 0, none⟩ = some (.int .i64 m) ∧ z.cell? ⟨w.heap.size, 1, none⟩ = some (.slice A m c) ∧ z.cell? ⟨bl, ol + i, none⟩ = some (.int .i64 (u : Int)) ∧ z.cell? ⟨bl, ol + k, none⟩ = some (.int .i64 (v : Int)) ∧ z.cell? ⟨bl, ol + j, none⟩ = some (.int .i64 (y : Int)))) := fun z hz => ⟨hz, up_ hz e0, up_ hz e1, up_ hz p0, up_ hz p1, up_ hz p2⟩
        have HZ0 : Hid (Below wr.heap.size wr wr.drew) := (Below.refl _ _).drew
        have HS1 := Lib.hid (HSC.out _ HZ0.out)
        have KR1 : Hid (∀ z : World, Below wr.heap.size wr z → _) := fun z hz => K1.out _ hz
        refine wp_region_held_drew (S := fun z => Below wr.heap.size wr z ∧ z.cell? ⟨w.heap.size, 0, none⟩ = some (.int .i64 m) ∧ z.cell? ⟨w.heap.size, 1, none⟩ = some (.slice A m c) ∧ z.cell? ⟨bl, ol + i, none⟩ = some (.int .i64 (u : Int)) ∧ z.cell? ⟨bl, ol + k, none⟩ = some (.int .i64 (v : Int)) ∧ z.cell? ⟨bl, ol + j, none⟩ = some (.int .i64 (y : Int))) (by kernel_rfl) HS1.out (fun hHeld => ?_)
        refine pcY 0 rfl rfl (by kernel_rfl) (by rfl) (by intro w u; (try dsimp only at u); go_simp <;> with_reducible rfl) ‹_› (fun _ _ _ h => h) ?_; simp only [Act.put, sl0, sl1, sl2]
        iterate 8 (refine ptY rfl rfl (by kernel_rfl) (by rfl) (by intro w u; (try dsimp only at u); go_simp <;> with_reducible rfl) ‹_› (fun _ _ _ h => h) ?_; simp only [Act.put, sl0, sl1, sl2])
        refine wpAnyH_ready (rs := [9]) (by kernel_rfl) (by simp) ?_
        refine AllReadyH.cons rfl (fun K hK => ?_) AllReadyH.nil
        go_simp
        go_at_call 70; refine (KR1.out _ HZ0.out).mono ?_
        rintro e w1 ⟨rfl, hb1⟩
        have hz1 := bl_trans HZ0.out hb1
        refine hK.out _ _ (HSC.out _ hz1) (fun hHeld => ?_)
        clear hK K
        try simp only [Act.put, sl0, sl1, sl2]
        refine ptY rfl rfl (by kernel_rfl) (by rfl) (by intro w u; (try dsimp only at u); go_simp <;> with_reducible rfl) ‹_› (fun _ _ _ h => h) ?_; simp only [Act.put, sl0, sl1, sl2]
        iterate 24 (refine ptN rfl rfl (by kernel_rfl) (by rfl) ‹_› (fun _ _ _ h => h) ?_; simp only [Act.put, sl0, sl1, sl2])
        refine ptY rfl rfl (by kernel_rfl) (by rfl) (by intro w u; (try dsimp only at u); go_simp <;> with_reducible rfl) ‹_› (fun _ _ _ h => h) ?_; simp only [Act.put, sl0, sl1, sl2]
        refine wpAnyH_done (by kernel_rfl) ?_ _
        replace HR := Lib.hid (HR.out.keep hz1)
        replace HBr := Lib.hid (HBr.out.keep hz1)
        clear hb1 hz1 HSC HZ0 HS1 KR1
        go_wp2
        go_roundw
        case rel => exact ⟨j + 1, by omega, by omega, by go_num, H3', HR⟩
        case measure => (simp [intOf] <;> omega)
       ·have K1 := Lib.hid (edge_b HG0.out.gv hu hv b1)
        have B1 := Lib.hid b1
        clear b1
        cases b2 : (r u).testBit y
        ·have K2 := Lib.hid (edge_b HG0.out.gv hu hy b2)
         have Hn : Hid (umB r l = false) := um_bad (i := i) (k := k) (j := j) (by omega) hlt hkl fun hb => by
          have := (Hub.out.1 hb B1.out).1
          rw [b2] at this; cases this
         clear b2
         go_wp2
         have HSC : Hid (∀ z : World, Below wr.heap.size wr z → (Below wr.heap.size wr z ∧ z.cell? ⟨w.heap.size, 0, none⟩ = some (.int .i64 m) ∧ z.cell? ⟨w.heap.size, 1, none⟩ = some (.slice A m c) ∧ z.cell? ⟨bl, ol + i, none⟩ = some (.int .i64 (u : Int)) ∧ z.cell? ⟨bl, ol + k, none⟩ = some (.int .i64 (v : Int)) ∧ z.cell? ⟨bl, ol + j, none⟩ = some (.int .i64 (y : Int)))) := fun z hz => ⟨hz, up_ hz e0, up_ hz e1, up_ hz p0, up_ hz p1, up_ hz p2⟩
         have HZ0 : Hid (Below wr.heap.size wr wr.drew) := (Below.refl _ _).drew
         have HS1 := Lib.hid (HSC.out _ HZ0.out)
         have KR1 : Hid (∀ z : World, Below wr.heap.size wr z → _) := fun z hz => K1.out _ hz
         have KR2 : Hid (∀ z : World, Below wr.heap.size wr z → _) := fun z hz => K2.out _ hz
         refine wp_region_held_drew (S := fun z => Below wr.heap.size wr z ∧ z.cell? ⟨w.heap.size, 0, none⟩ = some (.int .i64 m) ∧ z.cell? ⟨w.heap.size, 1, none⟩ = some (.slice A m c) ∧ z.cell? ⟨bl, ol + i, none⟩ = some (.int .i64 (u : Int)) ∧ z.cell? ⟨bl, ol + k, none⟩ = some (.int .i64 (v : Int)) ∧ z.cell? ⟨bl, ol + j, none⟩ = some (.int .i64 (y : Int))) (by kernel_rfl) HS1.out (fun hHeld => ?_)
         refine pcY 0 rfl rfl (by kernel_rfl) (by rfl) (by intro w u; (try dsimp only at u); go_simp <;> with_reducible rfl) ‹_› (fun _ _ _ h => h) ?_; simp only [Act.put, sl0, sl1, sl2]
         iterate 8 (refine ptY rfl rfl (by kernel_rfl) (by rfl) (by intro w u; (try dsimp only at u); go_simp <;> with_reducible rfl) ‹_› (fun _ _ _ h => h) ?_; simp only [Act.put, sl0, sl1, sl2])
         refine wpAnyH_ready (rs := [9]) (by kernel_rfl) (by simp) ?_
         refine AllReadyH.cons rfl (fun K hK => ?_) AllReadyH.nil
         go_simp
         go_at_call 70; refine (KR1.out _ HZ0.out).mono ?_
         rintro e w2 ⟨rfl, hb2⟩
         have hz2 := bl_trans HZ0.out hb2
         refine hK.out _ _ (HSC.out _ hz2) (fun hHeld => ?_)
         clear hK K
         try simp only [Act.put, sl0, sl1, sl2]
         iterate 10 (refine ptY rfl rfl (by kernel_rfl) (by rfl) (by intro w u; (try dsimp only at u); go_simp <;> with_reducible rfl) ‹_› (fun _ _ _ h => h) ?_; simp only [Act.put, sl0, sl1, sl2])
         refine wpAnyH_ready (rs := [20]) (by kernel_rfl) (by simp) ?_
         refine AllReadyH.cons rfl (fun K hK => ?_) AllReadyH.nil
         go_simp
         go_at_call 70; refine (KR2.out _ hz2).mono ?_
         rintro e w3 ⟨rfl, hb3⟩
         have hz3 := bl_trans hz2 hb3
         refine hK.out _ _ (HSC.out _ hz3) (fun hHeld => ?_)
         clear hK K
         try simp only [Act.put, sl0, sl1, sl2]
         iterate 2 (refine ptY rfl rfl (by kernel_rfl) (by rfl) (by intro w u; (try dsimp only at u); go_simp <;> with_reducible rfl) ‹_› (fun _ _ _ h => h) ?_; simp only [Act.put, sl0, sl1, sl2])
         iterate 11 (refine ptN rfl rfl (by kernel_rfl) (by rfl) ‹_› (fun _ _ _ h => h) ?_; simp only [Act.put, sl0, sl1, sl2])
         iterate 2 (refine ptY rfl rfl (by kernel_rfl) (by rfl) (by intro w u; (try dsimp only at u); go_simp <;> with_reducible rfl) ‹_› (fun _ _ _ h => h) ?_; simp only [Act.put, sl0, sl1, sl2])
         refine wpAnyH_done (by kernel_rfl) ?_ _
         replace HR := Lib.hid (HR.out.keep hz3)
         replace HBr := Lib.hid (HBr.out.keep hz3)
         clear hb2 hz2 hb3 hz3 HSC HZ0 HS1 KR1 KR2
         go_wp2
         go_ret
         exact ⟨ret_bool Hn.out.symm, HBr.out.below⟩
        ·have K2 := Lib.hid (edge_b HG0.out.gv hu hy b2)
         have B2 := Lib.hid b2
         clear b2
         cases b3 : (r y).testBit v
         ·have K3 := Lib.hid (edge_b HG0.out.gv hy hv b3)
          have Hn : Hid (umB r l = false) := um_bad (i := i) (k := k) (j := j) (by omega) hlt hkl fun hb => by
           have := (Hub.out.1 hb B1.out).2
           rw [b3] at this; cases this
          clear b3
          go_wp2
          have HSC : Hid (∀ z : World, Below wr.heap.size wr z → (Below wr.heap.size wr z ∧ z.cell? ⟨w.heap.size, 0, none⟩ = some (.int .i64 m) ∧ z.cell? ⟨w.heap.size, 1, none⟩ = some (.slice A m c) ∧ z.cell? ⟨bl, ol + i, none⟩ = some (.int .i64 (u : Int)) ∧ z.cell? ⟨bl, ol + k, none⟩ = some (.int .i64 (v : Int)) ∧ z.cell? ⟨bl, ol + j, none⟩ = some (.int .i64 (y : Int)))) := fun z hz => ⟨hz, up_ hz e0, up_ hz e1, up_ hz p0, up_ hz p1, up_ hz p2⟩
          have HZ0 : Hid (Below wr.heap.size wr wr.drew) := (Below.refl _ _).drew
          have HS1 := Lib.hid (HSC.out _ HZ0.out)
          have KR1 : Hid (∀ z : World, Below wr.heap.size wr z → _) := fun z hz => K1.out _ hz
          have KR2 : Hid (∀ z : World, Below wr.heap.size wr z → _) := fun z hz => K2.out _ hz
          have KR3 : Hid (∀ z : World, Below wr.heap.size wr z → _) := fun z hz => K3.out _ hz
          refine wp_region_held_drew (S := fun z => Below wr.heap.size wr z ∧ z.cell? ⟨w.heap.size, 0, none⟩ = some (.int .i64 m) ∧ z.cell? ⟨w.heap.size, 1, none⟩ = some (.slice A m c) ∧ z.cell? ⟨bl, ol + i, none⟩ = some (.int .i64 (u : Int)) ∧ z.cell? ⟨bl, ol + k, none⟩ = some (.int .i64 (v : Int)) ∧ z.cell? ⟨bl, ol + j, none⟩ = some (.int .i64 (y : Int))) (by kernel_rfl) HS1.out (fun hHeld => ?_)
          refine pcY 0 rfl rfl (by kernel_rfl) (by rfl) (by intro w u; (try dsimp only at u); go_simp <;> with_reducible rfl) ‹_› (fun _ _ _ h => h) ?_; simp only [Act.put, sl0, sl1, sl2]
          iterate 8 (refine ptY rfl rfl (by kernel_rfl) (by rfl) (by intro w u; (try dsimp only at u); go_simp <;> with_reducible rfl) ‹_› (fun _ _ _ h => h) ?_; simp only [Act.put, sl0, sl1, sl2])
          refine wpAnyH_ready (rs := [9]) (by kernel_rfl) (by simp) ?_
          refine AllReadyH.cons rfl (fun K hK => ?_) AllReadyH.nil
          go_simp
          go_at_call 70; refine (KR1.out _ HZ0.out).mono ?_
          rintro e w4 ⟨rfl, hb4⟩
          have hz4 := bl_trans HZ0.out hb4
          refine hK.out _ _ (HSC.out _ hz4) (fun hHeld => ?_)
          clear hK K
          try simp only [Act.put, sl0, sl1, sl2]
          iterate 10 (refine ptY rfl rfl (by kernel_rfl) (by rfl) (by intro w u; (try dsimp only at u); go_simp <;> with_reducible rfl) ‹_› (fun _ _ _ h => h) ?_; simp only [Act.put, sl0, sl1, sl2])
          refine wpAnyH_ready (rs := [20]) (by kernel_rfl) (by simp) ?_
          refine AllReadyH.cons rfl (fun K hK => ?_) AllReadyH.nil
          go_simp
          go_at_call 70; refine (KR2.out _ hz4).mono ?_
          rintro e w5 ⟨rfl, hb5⟩
          have hz5 := bl_trans hz4 hb5
          refine hK.out _ _ (HSC.out _ hz5) (fun hHeld => ?_)
          clear hK K
          try simp only [Act.put, sl0, sl1, sl2]
          iterate 11 (refine ptY rfl rfl (by kernel_rfl) (by rfl) (by intro w u; (try dsimp only at u); go_simp <;> with_reducible rfl) ‹_› (fun _ _ _ h => h) ?_; simp only [Act.put, sl0, sl1, sl2])
          refine wpAnyH_ready (rs := [32]) (by kernel_rfl) (by simp) ?_
          refine AllReadyH.cons rfl (fun K hK => ?_) AllReadyH.nil
          go_simp
          go_at_call 70; refine (KR3.out _ hz5).mono ?_
          rintro e w6 ⟨rfl, hb6⟩
          have hz6 := bl_trans hz5 hb6
          refine hK.out _ _ (HSC.out _ hz6) (fun hHeld => ?_)
          clear hK K
          try simp only [Act.put, sl0, sl1, sl2]
          iterate 3 (refine ptY rfl rfl (by kernel_rfl) (by rfl) (by intro w u; (try dsimp only at u); go_simp <;> with_reducible rfl) ‹_› (fun _ _ _ h => h) ?_; simp only [Act.put, sl0, sl1, sl2])
          refine wpAnyH_done (by kernel_rfl) ?_ _
          replace HR := Lib.hid (HR.out.keep hz6)
          replace HBr := Lib.hid (HBr.out.keep hz6)
          clear hb4 hz4 hb5 hz5 hb6 hz6 HSC HZ0 HS1 KR1 KR2 KR3
          go_wp2
          go_ret
          exact ⟨ret_bool Hn.out.symm, HBr.out.below⟩
         ·have K3 := Lib.hid (edge_b HG0.out.gv hy hv b3)
          have H3' : Hid (Um3 r l i k (j + 1)) := H3.out.step (Hub.out.2 fun _ => ⟨B2.out, b3⟩)
          clear b3
          go_wp2
          have HSC : Hid (∀ z : World, Below wr.heap.size wr z → (Below wr.heap.size wr z ∧ z.cell? ⟨w.heap.size, 0, none⟩ = some (.int .i64 m) ∧ z.cell? ⟨w.heap.size, 1, none⟩ = some (.slice A m c) ∧ z.cell? ⟨bl, ol + i, none⟩ = some (.int .i64 (u : Int)) ∧ z.cell? ⟨bl, ol + k, none⟩ = some (.int .i64 (v : Int)) ∧ z.cell? ⟨bl, ol + j, none⟩ = some (.int .i64 (y : Int)))) := fun z hz => ⟨hz, up_ hz e0, up_ hz e1, up_ hz p0, up_ hz p1, up_ hz p2⟩
          have HZ0 : Hid (Below wr.heap.size wr wr.drew) := (Below.refl _ _).drew
          have HS1 := Lib.hid (HSC.out _ HZ0.out)
          have KR1 : Hid (∀ z : World, Below wr.heap.size wr z → _) := fun z hz => K1.out _ hz
          have KR2 : Hid (∀ z : World, Below wr.heap.size wr z → _) := fun z hz => K2.out _ hz
          have KR3 : Hid (∀ z : World, Below wr.heap.size wr z → _) := fun z hz => K3.out _ hz
          refine wp_region_held_drew (S := fun z => Below wr.heap.size wr z ∧ z.cell? ⟨w.heap.size, 0, none⟩ = some (.int .i64 m) ∧ z.cell? ⟨w.heap.size, 1, none⟩ = some (.slice A m c) ∧ z.cell? ⟨bl, ol + i, none⟩ = some (.int .i64 (u : Int)) ∧ z.cell? ⟨bl, ol + k, none⟩ = some (.int .i64 (v : Int)) ∧ z.cell? ⟨bl, ol + j, none⟩ = some (.int .i64 (y : Int))) (by kernel_rfl) HS1.out (fun hHeld => ?_)
          refine pcY 0 rfl rfl (by kernel_rfl) (by rfl) (by intro w u; (try dsimp only at u); go_simp <;> with_reducible rfl) ‹_› (fun _ _ _ h => h) ?_; simp only [Act.put, sl0, sl1, sl2]
          iterate 8 (refine ptY rfl rfl (by kernel_rfl) (by rfl) (by intro w u; (try dsimp only at u); go_simp <;> with_reducible rfl) ‹_› (fun _ _ _ h => h) ?_; simp only [Act.put, sl0, sl1, sl2])
          refine wpAnyH_ready (rs := [9]) (by kernel_rfl) (by simp) ?_
          refine AllReadyH.cons rfl (fun K hK => ?_) AllReadyH.nil
          go_simp
          go_at_call 70; refine (KR1.out _ HZ0.out).mono ?_
          rintro e w7 ⟨rfl, hb7⟩
          have hz7 := bl_trans HZ0.out hb7
          refine hK.out _ _ (HSC.out _ hz7) (fun hHeld => ?_)
          clear hK K
          try simp only [Act.put, sl0, sl1, sl2]
          iterate 10 (refine ptY rfl rfl (by kernel_rfl) (by rfl) (by intro w u; (try dsimp only at u); go_simp <;> with_reducible rfl) ‹_› (fun _ _ _ h => h) ?_; simp only [Act.put, sl0, sl1, sl2])
          refine wpAnyH_ready (rs := [20]) (by kernel_rfl) (by simp) ?_
          refine AllReadyH.cons rfl (fun K hK => ?_) AllReadyH.nil
          go_simp
          go_at_call 70; refine (KR2.out _ hz7).mono ?_
          rintro e w8 ⟨rfl, hb8⟩
          have hz8 := bl_trans hz7 hb8
          refine hK.out _ _ (HSC.out _ hz8) (fun hHeld => ?_)
          clear hK K
          try simp only [Act.put, sl0, sl1, sl2]
          iterate 11 (refine ptY rfl rfl (by kernel_rfl) (by rfl) (by intro w u; (try dsimp only at u); go_simp <;> with_reducible rfl) ‹_› (fun _ _ _ h => h) ?_; simp only [Act.put, sl0, sl1, sl2])
          refine wpAnyH_ready (rs := [32]) (by kernel_rfl) (by simp) ?_
          refine AllReadyH.cons rfl (fun K hK => ?_) AllReadyH.nil
          go_simp
          go_at_call 70; refine (KR3.out _ hz8).mono ?_
          rintro e w9 ⟨rfl, hb9⟩
          have hz9 := bl_trans hz8 hb9
          refine hK.out _ _ (HSC.out _ hz9) (fun hHeld => ?_)
          clear hK K
          try simp only [Act.put, sl0, sl1, sl2]
          iterate 3 (refine ptY rfl rfl (by kernel_rfl) (by rfl) (by intro w u; (try dsimp only at u); go_simp <;> with_reducible rfl) ‹_› (fun _ _ _ h => h) ?_; simp only [Act.put, sl0, sl1, sl2])
          refine wpAnyH_done (by kernel_rfl) ?_ _
          replace HR := Lib.hid (HR.out.keep hz9)
          replace HBr := Lib.hid (HBr.out.keep hz9)
          clear hb7 hz7 hb8 hz8 hb9 hz9 HSC HZ0 HS1 KR1 KR2 KR3
          go_wp2
          go_roundw
          case rel => exact ⟨j + 1, by omega, by omega, by go_num, H3', HR⟩
          case measure => (simp [intOf] <;> omega)
      ·have H2' : Hid (Um2 r l i (k + 1)) := H2.out.step fun j' h1 h2 => H3.out j' h1 (by omega)
       have i4 : (k : Int) ≤ (j : Int) := by omega
       go_wp2
       go_roundw
       case rel => exact ⟨k + 1, by omega, by omega, by go_num, H2', HR⟩
       case measure => (simp [intOf] <;> omega)
    ·have H1' : Hid (Um1 r l (i + 1)) := H1.out.step H2.out (by omega)
     have i2 : (l.length : Int) ≤ (k : Int) := by omega
     go_wp2
     go_roundw
     case rel => exact ⟨i + 1, by omega, by go_num, H1', HR⟩
     case measure => (simp [intOf] <;> omega)
  ·have Hy : Hid (umB r l = true) := um_yes (H1.out.all (by omega))
   have HBr := Lib.hid (HB.out.up HR.out)
   have i1 : (l.length : Int) ≤ (i : Int) := by omega
   go_wp2
   go_ret
   exact ⟨ret_bool Hy.out.symm, HBr.out.below⟩
end Go.Proofs.YtppkokgiojcgbaaGreatDoor
