/-
  Contracts: orders in which all between two neighbors are neighbors of both: the reference's test.
-/
import Derived.Test.YtppkokgiojcgbaaGreatDoorQySimP
import Derived.Test.YtppkokgiojcgbaaGreatDoorQyJoinI
namespace Go.Proofs.YtppkokgiojcgbaaGreatDoor
open Go.RowKit

theorem edge_b {A : Option Addr} {m c : Nat} {r : Nat → Nat} {W : World} (h : GV W A m c r) {v u : Nat} (hv : v < m) (hu : u < m) {b : Bool} (hb : (r v).testBit u = b) : ∀ z : World, Below W.heap.size W z → Calls Tryz.prog 70 #[.agg #[.int .i64 m, .slice A m c], .int .i64 v, .int .i64 u] z fun e w' => e = .returned (.bool b) ∧ Below z.heap.size z w' := fun z hz => by
  have := l2Edge_v (h.keep hz) hv hu
  rwa [hb] at this
set_option maxRecDepth 100000 in
set_option maxHeartbeats 3200000 in
theorem l12Umbrella_v {A : Option Addr} {m c : Nat} {r : Nat → Nat} {Al : Option Addr} {cl : Nat} {l : List Nat} {w : World} (h : GV w A m c r) (hl : LN w Al cl l) (hlt : ∀ v ∈ l, v < m) (hlen : l.length ≤ 7) :
    Calls Tryz.prog 245 #[.agg #[.int .i64 m, .slice A m c], .slice Al l.length cl] w fun e w' => e = .returned (.bool (umB r l)) ∧ Below w.heap.size w w' := by
  have hn7 := h.vg.n7
  have HL := Lib.hid hl
  have Hlt := Lib.hid hlt
  have HV := Lib.hid h.vg
  clear hl hlt
  obtain ⟨W, hW⟩ : ∃ W : World, W = (w.alloc (Obj.cells #[Value.int IntKind.i64 m, Value.slice A m c] 29)) := ⟨_, rfl⟩
  have HB : Hid (From w W) := by rw [hW]; exact From.alloc _ _
  have HG : Hid (GBox W w.heap.size A m c r) := by rw [hW]; exact h.box
  have HW := Lib.hid hW
  clear hW h
  have e0 := HG.out.c0
  have e1 := HG.out.c1
  replace HL := Lib.hid (HL.out.keep HB.out.below)
  have HR0 : Hid (From W W) := From.refl W
  go_enter Tryz.func245, Tryz.ntmps245
  go_wp2_with fail
  rw [← HW.out]
  clear HW e0 e1
  go_wp2
  go_loopw [5] (fun i wr => ∃ k : Nat, k ≤ l.length ∧ i = .int .i64 k ∧ Hid (Um1 r l k) ∧ Hid (From W wr)) (fun i _ => l.length - (intOf i).toNat)
  case atStart => exact ⟨0, Nat.zero_le _, rfl, Um1.zero, HR0⟩
  case round =>
    clear HR0
    obtain ⟨i, hi, rfl, H1, HR⟩ := hrel
    by_cases hil : i < l.length
    · have i1 : (i : Int) < (l.length : Int) := by omega
      have s1 : wrap64 ((i : Int) + 2) = ((i + 2 : Nat) : Int) := by rw [Go.IntWalk.wrap64_in _ (by omega)]; simp
      go_wp2
      go_loopw [6] (fun j wr => ∃ k : Nat, i + 2 ≤ k ∧ k ≤ l.length + 1 ∧ j = .int .i64 k ∧ Hid (Um2 r l i k) ∧ Hid (From W wr)) (fun j _ => l.length + 1 - (intOf j).toNat)
      case atStart => exact ⟨i + 2, Nat.le_refl _, by omega, by first | rfl | exact congrArg (Value.int .i64) s1 | simp, Um2.zero, HR⟩
      case round =>
        clear HR s1
        obtain ⟨k, hk2, hk, rfl, H2, HR⟩ := hrel
        by_cases hkl : k < l.length
        · have i2 : (k : Int) < (l.length : Int) := by omega
          have s1 : wrap64 ((i : Int) + 1) = ((i + 1 : Nat) : Int) := by rw [Go.IntWalk.wrap64_in _ (by omega)]; simp
          go_wp2
          go_loopw [7] (fun j wr => ∃ t : Nat, i + 1 ≤ t ∧ t ≤ k ∧ j = .int .i64 t ∧ Hid (Um3 r l i k t) ∧ Hid (From W wr)) (fun j _ => k - (intOf j).toNat)
          case atStart => exact ⟨i + 1, Nat.le_refl _, by omega, by first | rfl | exact congrArg (Value.int .i64) s1 | simp, Um3.zero, HR⟩
          case round =>
            clear HR s1
            obtain ⟨j, hij, hjk, rfl, H3, HR⟩ := hrel
            by_cases hlt : j < k
            · have i4 : (j : Int) < (k : Int) := by omega
              have i5 : (j : Int) < (l.length : Int) := by omega
              have HGr := Lib.hid (HG.out.keep HR.out.below)
              have HLr := Lib.hid (HL.out.keep HR.out.below)
              obtain ⟨bl, ol, rfl⟩ := HLr.out.addr (by omega)
              have e0 := HGr.out.c0
              have e1 := HGr.out.c1
              have p0 := HLr.out.cell hil
              have p1 := HLr.out.cell hkl
              have hjl : j < l.length := by omega
              have p2 := HLr.out.cell hjl
              have hu := getD_lt Hlt.out hil
              have hv := getD_lt Hlt.out hkl
              have hy := getD_lt Hlt.out hjl
              have Hub : Hid (Ub r l i k j ↔ ((r (l.getD i 0)).testBit (l.getD k 0) = true → (r (l.getD i 0)).testBit (l.getD j 0) = true ∧ (r (l.getD j 0)).testBit (l.getD k 0) = true)) := by
                show _ ↔ _
                unfold Ub
                rw [HV.out.sym _ _ hy hv]
              obtain ⟨u, hu'⟩ : ∃ u, u = l.getD i 0 := ⟨_, rfl⟩
              obtain ⟨v, hv'⟩ : ∃ v, v = l.getD k 0 := ⟨_, rfl⟩
              obtain ⟨y, hy'⟩ : ∃ y, y = l.getD j 0 := ⟨_, rfl⟩
              rw [← hu', ← hv', ← hy'] at Hub
              rw [← hu'] at p0 hu
              rw [← hv'] at p1 hv
              rw [← hy'] at p2 hy
              have HBr := Lib.hid (HB.out.up HR.out)
              have HG0 := HGr
              clear hu' hv' hy'
              cases b1 : (r u).testBit v
              · have K1 := Lib.hid (edge_b HG0.out.gv hu hv b1)
                have H3' : Hid (Um3 r l i k (j + 1)) := H3.out.step (Hub.out.2 fun hb => by rw [b1] at hb; cases hb)
                clear b1
                go_wp2
                have HSC : Hid (∀ z : World, Below wr.heap.size wr z → (Below wr.heap.size wr z ∧ z.cell? ⟨w.heap.size, 0, none⟩ = some (.int .i64 m) ∧ z.cell? ⟨w.heap.size, 1, none⟩ = some (.slice A m c) ∧ z.cell? ⟨bl, ol + i, none⟩ = some (.int .i64 (u : Int)) ∧ z.cell? ⟨bl, ol + k, none⟩ = some (.int .i64 (v : Int)) ∧ z.cell? ⟨bl, ol + j, none⟩ = some (.int .i64 (y : Int)))) := fun z hz => ⟨hz, up_ hz e0, up_ hz e1, up_ hz p0, up_ hz p1, up_ hz p2⟩
                have HZ0 : Hid (Below wr.heap.size wr wr.drew) := (Below.refl _ _).drew
                have HS1 := Lib.hid (HSC.out _ HZ0.out)
                have KR1 : Hid (∀ z : World, Below wr.heap.size wr z → _) := fun z hz => K1.out _ hz
                refine wp_region_held_drew (S := fun z => Below wr.heap.size wr z ∧ z.cell? ⟨w.heap.size, 0, none⟩ = some (.int .i64 m) ∧ z.cell? ⟨w.heap.size, 1, none⟩ = some (.slice A m c) ∧ z.cell? ⟨bl, ol + i, none⟩ = some (.int .i64 (u : Int)) ∧ z.cell? ⟨bl, ol + k, none⟩ = some (.int .i64 (v : Int)) ∧ z.cell? ⟨bl, ol + j, none⟩ = some (.int .i64 (y : Int))) (by kernel_rfl) HS1.out (fun hHeld => ?_)
                refine take_yes (i := 0) (d := 29) (v := ?v1) rfl rfl (by kernel_rfl) (by kernel_rfl) (by kernel_rfl) (fun _ _ _ h => h) (by rfl) ?y1 (by assumption) ?r1
                case y1 => (intro w hSw; (try dsimp only at hSw); go_simp <;> with_reducible rfl)
                simp only [Act.put, sl0, sl1, sl2]
                refine take_yes (i := 1) (d := 30) (v := ?v2) rfl rfl (by kernel_rfl) (by kernel_rfl) (by kernel_rfl) (fun _ _ _ h => h) (by rfl) ?y2 (by assumption) ?r2
                case y2 => (intro w hSw; (try dsimp only at hSw); go_simp <;> with_reducible rfl)
                simp only [Act.put, sl0, sl1, sl2]
                refine take_yes (i := 2) (d := 31) (v := ?v3) rfl rfl (by kernel_rfl) (by kernel_rfl) (by kernel_rfl) (fun _ _ _ h => h) (by rfl) ?y3 (by assumption) ?r3
                case y3 => (intro w hSw; (try dsimp only at hSw); go_simp <;> with_reducible rfl)
                simp only [Act.put, sl0, sl1, sl2]
                refine take_yes (i := 3) (d := 32) (v := ?v4) rfl rfl (by kernel_rfl) (by kernel_rfl) (by kernel_rfl) (fun _ _ _ h => h) (by rfl) ?y4 (by assumption) ?r4
                case y4 => (intro w hSw; (try dsimp only at hSw); go_simp <;> with_reducible rfl)
                simp only [Act.put, sl0, sl1, sl2]
                refine take_yes (i := 4) (d := 33) (v := ?v5) rfl rfl (by kernel_rfl) (by kernel_rfl) (by kernel_rfl) (fun _ _ _ h => h) (by rfl) ?y5 (by assumption) ?r5
                case y5 => (intro w hSw; (try dsimp only at hSw); go_simp <;> with_reducible rfl)
                simp only [Act.put, sl0, sl1, sl2]
                refine take_yes (i := 5) (d := 34) (v := ?v6) rfl rfl (by kernel_rfl) (by kernel_rfl) (by kernel_rfl) (fun _ _ _ h => h) (by rfl) ?y6 (by assumption) ?r6
                case y6 => (intro w hSw; (try dsimp only at hSw); go_simp <;> with_reducible rfl)
                simp only [Act.put, sl0, sl1, sl2]
                refine take_yes (i := 6) (d := 35) (v := ?v7) rfl rfl (by kernel_rfl) (by kernel_rfl) (by kernel_rfl) (fun _ _ _ h => h) (by rfl) ?y7 (by assumption) ?r7
                case y7 => (intro w hSw; (try dsimp only at hSw); go_simp <;> with_reducible rfl)
                simp only [Act.put, sl0, sl1, sl2]
                refine take_yes (i := 7) (d := 36) (v := ?v8) rfl rfl (by kernel_rfl) (by kernel_rfl) (by kernel_rfl) (fun _ _ _ h => h) (by rfl) ?y8 (by assumption) ?r8
                case y8 => (intro w hSw; (try dsimp only at hSw); go_simp <;> with_reducible rfl)
                simp only [Act.put, sl0, sl1, sl2]
                refine take_yes (i := 8) (d := 37) (v := ?v9) rfl rfl (by kernel_rfl) (by kernel_rfl) (by kernel_rfl) (fun _ _ _ h => h) (by rfl) ?y9 (by assumption) ?r9
                case y9 => (intro w hSw; (try dsimp only at hSw); go_simp <;> with_reducible rfl)
                simp only [Act.put, sl0, sl1, sl2]
                refine wpAnyH_ready (rs := [9]) (by kernel_rfl) (by simp) ?_
                refine AllReadyH.cons rfl (fun K hK => ?_) AllReadyH.nil
                go_simp
                go_at_call 70; refine (KR1.out _ HZ0.out).mono ?_
                rintro e w1 ⟨rfl, hb1⟩
                have hz1 := bl_trans HZ0.out hb1
                refine hK.out _ _ (HSC.out _ hz1) (fun hHeld => ?_)
                clear hK K
                try simp only [Act.put, sl0, sl1, sl2]
                refine take_yes (i := 10) (d := 39) (v := ?v10) rfl rfl (by kernel_rfl) (by kernel_rfl) (by kernel_rfl) (fun _ _ _ h => h) (by rfl) ?y10 (by assumption) ?r10
                case y10 => (intro w hSw; (try dsimp only at hSw); go_simp <;> with_reducible rfl)
                simp only [Act.put, sl0, sl1, sl2]
                refine take_no (i := 11) (d := 40) rfl rfl (by kernel_rfl) (by kernel_rfl) (by kernel_rfl) (fun _ _ _ h => h) (by rfl) (by assumption) ?_
                simp only [Act.put, sl0, sl1, sl2]
                refine take_no (i := 12) (d := 41) rfl rfl (by kernel_rfl) (by kernel_rfl) (by kernel_rfl) (fun _ _ _ h => h) (by rfl) (by assumption) ?_
                simp only [Act.put, sl0, sl1, sl2]
                refine take_no (i := 13) (d := 42) rfl rfl (by kernel_rfl) (by kernel_rfl) (by kernel_rfl) (fun _ _ _ h => h) (by rfl) (by assumption) ?_
                simp only [Act.put, sl0, sl1, sl2]
                refine take_no (i := 14) (d := 43) rfl rfl (by kernel_rfl) (by kernel_rfl) (by kernel_rfl) (fun _ _ _ h => h) (by rfl) (by assumption) ?_
                simp only [Act.put, sl0, sl1, sl2]
                refine take_no (i := 15) (d := 44) rfl rfl (by kernel_rfl) (by kernel_rfl) (by kernel_rfl) (fun _ _ _ h => h) (by rfl) (by assumption) ?_
                simp only [Act.put, sl0, sl1, sl2]
                refine take_no (i := 16) (d := 45) rfl rfl (by kernel_rfl) (by kernel_rfl) (by kernel_rfl) (fun _ _ _ h => h) (by rfl) (by assumption) ?_
                simp only [Act.put, sl0, sl1, sl2]
                refine take_no (i := 17) (d := 46) rfl rfl (by kernel_rfl) (by kernel_rfl) (by kernel_rfl) (fun _ _ _ h => h) (by rfl) (by assumption) ?_
                simp only [Act.put, sl0, sl1, sl2]
                refine take_no (i := 18) (d := 47) rfl rfl (by kernel_rfl) (by kernel_rfl) (by kernel_rfl) (fun _ _ _ h => h) (by rfl) (by assumption) ?_
                simp only [Act.put, sl0, sl1, sl2]
                refine take_no (i := 19) (d := 48) rfl rfl (by kernel_rfl) (by kernel_rfl) (by kernel_rfl) (fun _ _ _ h => h) (by rfl) (by assumption) ?_
                simp only [Act.put, sl0, sl1, sl2]
                refine take_no (i := 20) (d := 49) rfl rfl (by kernel_rfl) (by kernel_rfl) (by kernel_rfl) (fun _ _ _ h => h) (by rfl) (by assumption) ?_
                simp only [Act.put, sl0, sl1, sl2]
                refine take_no (i := 21) (d := 50) rfl rfl (by kernel_rfl) (by kernel_rfl) (by kernel_rfl) (fun _ _ _ h => h) (by rfl) (by assumption) ?_
                simp only [Act.put, sl0, sl1, sl2]
                refine take_no (i := 22) (d := 51) rfl rfl (by kernel_rfl) (by kernel_rfl) (by kernel_rfl) (fun _ _ _ h => h) (by rfl) (by assumption) ?_
                simp only [Act.put, sl0, sl1, sl2]
                refine take_no (i := 23) (d := 52) rfl rfl (by kernel_rfl) (by kernel_rfl) (by kernel_rfl) (fun _ _ _ h => h) (by rfl) (by assumption) ?_
                simp only [Act.put, sl0, sl1, sl2]
                refine take_no (i := 24) (d := 53) rfl rfl (by kernel_rfl) (by kernel_rfl) (by kernel_rfl) (fun _ _ _ h => h) (by rfl) (by assumption) ?_
                simp only [Act.put, sl0, sl1, sl2]
                refine take_no (i := 25) (d := 54) rfl rfl (by kernel_rfl) (by kernel_rfl) (by kernel_rfl) (fun _ _ _ h => h) (by rfl) (by assumption) ?_
                simp only [Act.put, sl0, sl1, sl2]
                refine take_no (i := 26) (d := 55) rfl rfl (by kernel_rfl) (by kernel_rfl) (by kernel_rfl) (fun _ _ _ h => h) (by rfl) (by assumption) ?_
                simp only [Act.put, sl0, sl1, sl2]
                refine take_no (i := 27) (d := 56) rfl rfl (by kernel_rfl) (by kernel_rfl) (by kernel_rfl) (fun _ _ _ h => h) (by rfl) (by assumption) ?_
                simp only [Act.put, sl0, sl1, sl2]
                refine take_no (i := 28) (d := 57) rfl rfl (by kernel_rfl) (by kernel_rfl) (by kernel_rfl) (fun _ _ _ h => h) (by rfl) (by assumption) ?_
                simp only [Act.put, sl0, sl1, sl2]
                refine take_no (i := 29) (d := 58) rfl rfl (by kernel_rfl) (by kernel_rfl) (by kernel_rfl) (fun _ _ _ h => h) (by rfl) (by assumption) ?_
                simp only [Act.put, sl0, sl1, sl2]
                refine take_no (i := 30) (d := 59) rfl rfl (by kernel_rfl) (by kernel_rfl) (by kernel_rfl) (fun _ _ _ h => h) (by rfl) (by assumption) ?_
                simp only [Act.put, sl0, sl1, sl2]
                refine take_no (i := 31) (d := 60) rfl rfl (by kernel_rfl) (by kernel_rfl) (by kernel_rfl) (fun _ _ _ h => h) (by rfl) (by assumption) ?_
                simp only [Act.put, sl0, sl1, sl2]
                refine take_no (i := 32) (d := 61) rfl rfl (by kernel_rfl) (by kernel_rfl) (by kernel_rfl) (fun _ _ _ h => h) (by rfl) (by assumption) ?_
                simp only [Act.put, sl0, sl1, sl2]
                refine take_no (i := 33) (d := 62) rfl rfl (by kernel_rfl) (by kernel_rfl) (by kernel_rfl) (fun _ _ _ h => h) (by rfl) (by assumption) ?_
                simp only [Act.put, sl0, sl1, sl2]
                refine take_no (i := 34) (d := 63) rfl rfl (by kernel_rfl) (by kernel_rfl) (by kernel_rfl) (fun _ _ _ h => h) (by rfl) (by assumption) ?_
                simp only [Act.put, sl0, sl1, sl2]
                refine take_yes (i := 35) (d := 64) (v := ?v11) rfl rfl (by kernel_rfl) (by kernel_rfl) (by kernel_rfl) (fun _ _ _ h => h) (by rfl) ?y11 (by assumption) ?r11
                case y11 => (intro w hSw; (try dsimp only at hSw); go_simp <;> with_reducible rfl)
                simp only [Act.put, sl0, sl1, sl2]
                refine wpAnyH_done (by kernel_rfl) ?_ _
                replace HR := Lib.hid (HR.out.keep hz1)
                replace HBr := Lib.hid (HBr.out.keep hz1)
                clear hb1 hz1 HSC HZ0 HS1 KR1
                go_wp2
                go_roundw
                case rel => exact ⟨j + 1, by omega, by omega, by go_num, H3', HR⟩
                case measure => (simp [intOf] <;> omega)
              · have K1 := Lib.hid (edge_b HG0.out.gv hu hv b1)
                have B1 := Lib.hid b1
                clear b1
                cases b2 : (r u).testBit y
                · have K2 := Lib.hid (edge_b HG0.out.gv hu hy b2)
                  have Hn : Hid (umB r l = false) := um_bad (i := i) (k := k) (j := j) (by omega) hlt hkl fun hb => by
                    have := (Hub.out.1 hb B1.out).1
                    rw [b2] at this; cases this
                  clear b2
                  go_wp2
                  have HSC : Hid (∀ z : World, Below wr.heap.size wr z → (Below wr.heap.size wr z ∧ z.cell? ⟨w.heap.size, 0, none⟩ = some (.int .i64 m) ∧ z.cell? ⟨w.heap.size, 1, none⟩ = some (.slice A m c) ∧ z.cell? ⟨bl, ol + i, none⟩ = some (.int .i64 (u : Int)) ∧ z.cell? ⟨bl, ol + k, none⟩ = some (.int .i64 (v : Int)) ∧ z.cell? ⟨bl, ol + j, none⟩ = some (.int .i64 (y : Int)))) := fun z hz => ⟨hz, up_ hz e0, up_ hz e1, up_ hz p0, up_ hz p1, up_ hz p2⟩
                  have HZ0 : Hid (Below wr.heap.size wr wr.drew) := (Below.refl _ _).drew
                  have HS1 := Lib.hid (HSC.out _ HZ0.out)
                  have KR1 : Hid (∀ z : World, Below wr.heap.size wr z → _) := fun z hz => K1.out _ hz
                  have KR2 : Hid (∀ z : World, Below wr.heap.size wr z → _) := fun z hz => K2.out _ hz
                  refine wp_region_held_drew (S := fun z => Below wr.heap.size wr z ∧ z.cell? ⟨w.heap.size, 0, none⟩ = some (.int .i64 m) ∧ z.cell? ⟨w.heap.size, 1, none⟩ = some (.slice A m c) ∧ z.cell? ⟨bl, ol + i, none⟩ = some (.int .i64 (u : Int)) ∧ z.cell? ⟨bl, ol + k, none⟩ = some (.int .i64 (v : Int)) ∧ z.cell? ⟨bl, ol + j, none⟩ = some (.int .i64 (y : Int))) (by kernel_rfl) HS1.out (fun hHeld => ?_)
                  refine take_yes (i := 0) (d := 29) (v := ?v12) rfl rfl (by kernel_rfl) (by kernel_rfl) (by kernel_rfl) (fun _ _ _ h => h) (by rfl) ?y12 (by assumption) ?r12
                  case y12 => (intro w hSw; (try dsimp only at hSw); go_simp <;> with_reducible rfl)
                  simp only [Act.put, sl0, sl1, sl2]
                  refine take_yes (i := 1) (d := 30) (v := ?v13) rfl rfl (by kernel_rfl) (by kernel_rfl) (by kernel_rfl) (fun _ _ _ h => h) (by rfl) ?y13 (by assumption) ?r13
                  case y13 => (intro w hSw; (try dsimp only at hSw); go_simp <;> with_reducible rfl)
                  simp only [Act.put, sl0, sl1, sl2]
                  refine take_yes (i := 2) (d := 31) (v := ?v14) rfl rfl (by kernel_rfl) (by kernel_rfl) (by kernel_rfl) (fun _ _ _ h => h) (by rfl) ?y14 (by assumption) ?r14
                  case y14 => (intro w hSw; (try dsimp only at hSw); go_simp <;> with_reducible rfl)
                  simp only [Act.put, sl0, sl1, sl2]
                  refine take_yes (i := 3) (d := 32) (v := ?v15) rfl rfl (by kernel_rfl) (by kernel_rfl) (by kernel_rfl) (fun _ _ _ h => h) (by rfl) ?y15 (by assumption) ?r15
                  case y15 => (intro w hSw; (try dsimp only at hSw); go_simp <;> with_reducible rfl)
                  simp only [Act.put, sl0, sl1, sl2]
                  refine take_yes (i := 4) (d := 33) (v := ?v16) rfl rfl (by kernel_rfl) (by kernel_rfl) (by kernel_rfl) (fun _ _ _ h => h) (by rfl) ?y16 (by assumption) ?r16
                  case y16 => (intro w hSw; (try dsimp only at hSw); go_simp <;> with_reducible rfl)
                  simp only [Act.put, sl0, sl1, sl2]
                  refine take_yes (i := 5) (d := 34) (v := ?v17) rfl rfl (by kernel_rfl) (by kernel_rfl) (by kernel_rfl) (fun _ _ _ h => h) (by rfl) ?y17 (by assumption) ?r17
                  case y17 => (intro w hSw; (try dsimp only at hSw); go_simp <;> with_reducible rfl)
                  simp only [Act.put, sl0, sl1, sl2]
                  refine take_yes (i := 6) (d := 35) (v := ?v18) rfl rfl (by kernel_rfl) (by kernel_rfl) (by kernel_rfl) (fun _ _ _ h => h) (by rfl) ?y18 (by assumption) ?r18
                  case y18 => (intro w hSw; (try dsimp only at hSw); go_simp <;> with_reducible rfl)
                  simp only [Act.put, sl0, sl1, sl2]
                  refine take_yes (i := 7) (d := 36) (v := ?v19) rfl rfl (by kernel_rfl) (by kernel_rfl) (by kernel_rfl) (fun _ _ _ h => h) (by rfl) ?y19 (by assumption) ?r19
                  case y19 => (intro w hSw; (try dsimp only at hSw); go_simp <;> with_reducible rfl)
                  simp only [Act.put, sl0, sl1, sl2]
                  refine take_yes (i := 8) (d := 37) (v := ?v20) rfl rfl (by kernel_rfl) (by kernel_rfl) (by kernel_rfl) (fun _ _ _ h => h) (by rfl) ?y20 (by assumption) ?r20
                  case y20 => (intro w hSw; (try dsimp only at hSw); go_simp <;> with_reducible rfl)
                  simp only [Act.put, sl0, sl1, sl2]
                  refine wpAnyH_ready (rs := [9]) (by kernel_rfl) (by simp) ?_
                  refine AllReadyH.cons rfl (fun K hK => ?_) AllReadyH.nil
                  go_simp
                  go_at_call 70; refine (KR1.out _ HZ0.out).mono ?_
                  rintro e w2 ⟨rfl, hb2⟩
                  have hz2 := bl_trans HZ0.out hb2
                  refine hK.out _ _ (HSC.out _ hz2) (fun hHeld => ?_)
                  clear hK K
                  try simp only [Act.put, sl0, sl1, sl2]
                  refine take_yes (i := 10) (d := 39) (v := ?v21) rfl rfl (by kernel_rfl) (by kernel_rfl) (by kernel_rfl) (fun _ _ _ h => h) (by rfl) ?y21 (by assumption) ?r21
                  case y21 => (intro w hSw; (try dsimp only at hSw); go_simp <;> with_reducible rfl)
                  simp only [Act.put, sl0, sl1, sl2]
                  refine take_yes (i := 11) (d := 40) (v := ?v22) rfl rfl (by kernel_rfl) (by kernel_rfl) (by kernel_rfl) (fun _ _ _ h => h) (by rfl) ?y22 (by assumption) ?r22
                  case y22 => (intro w hSw; (try dsimp only at hSw); go_simp <;> with_reducible rfl)
                  simp only [Act.put, sl0, sl1, sl2]
                  refine take_yes (i := 12) (d := 41) (v := ?v23) rfl rfl (by kernel_rfl) (by kernel_rfl) (by kernel_rfl) (fun _ _ _ h => h) (by rfl) ?y23 (by assumption) ?r23
                  case y23 => (intro w hSw; (try dsimp only at hSw); go_simp <;> with_reducible rfl)
                  simp only [Act.put, sl0, sl1, sl2]
                  refine take_yes (i := 13) (d := 42) (v := ?v24) rfl rfl (by kernel_rfl) (by kernel_rfl) (by kernel_rfl) (fun _ _ _ h => h) (by rfl) ?y24 (by assumption) ?r24
                  case y24 => (intro w hSw; (try dsimp only at hSw); go_simp <;> with_reducible rfl)
                  simp only [Act.put, sl0, sl1, sl2]
                  refine take_yes (i := 14) (d := 43) (v := ?v25) rfl rfl (by kernel_rfl) (by kernel_rfl) (by kernel_rfl) (fun _ _ _ h => h) (by rfl) ?y25 (by assumption) ?r25
                  case y25 => (intro w hSw; (try dsimp only at hSw); go_simp <;> with_reducible rfl)
                  simp only [Act.put, sl0, sl1, sl2]
                  refine take_yes (i := 15) (d := 44) (v := ?v26) rfl rfl (by kernel_rfl) (by kernel_rfl) (by kernel_rfl) (fun _ _ _ h => h) (by rfl) ?y26 (by assumption) ?r26
                  case y26 => (intro w hSw; (try dsimp only at hSw); go_simp <;> with_reducible rfl)
                  simp only [Act.put, sl0, sl1, sl2]
                  refine take_yes (i := 16) (d := 45) (v := ?v27) rfl rfl (by kernel_rfl) (by kernel_rfl) (by kernel_rfl) (fun _ _ _ h => h) (by rfl) ?y27 (by assumption) ?r27
                  case y27 => (intro w hSw; (try dsimp only at hSw); go_simp <;> with_reducible rfl)
                  simp only [Act.put, sl0, sl1, sl2]
                  refine take_yes (i := 17) (d := 46) (v := ?v28) rfl rfl (by kernel_rfl) (by kernel_rfl) (by kernel_rfl) (fun _ _ _ h => h) (by rfl) ?y28 (by assumption) ?r28
                  case y28 => (intro w hSw; (try dsimp only at hSw); go_simp <;> with_reducible rfl)
                  simp only [Act.put, sl0, sl1, sl2]
                  refine take_yes (i := 18) (d := 47) (v := ?v29) rfl rfl (by kernel_rfl) (by kernel_rfl) (by kernel_rfl) (fun _ _ _ h => h) (by rfl) ?y29 (by assumption) ?r29
                  case y29 => (intro w hSw; (try dsimp only at hSw); go_simp <;> with_reducible rfl)
                  simp only [Act.put, sl0, sl1, sl2]
                  refine take_yes (i := 19) (d := 48) (v := ?v30) rfl rfl (by kernel_rfl) (by kernel_rfl) (by kernel_rfl) (fun _ _ _ h => h) (by rfl) ?y30 (by assumption) ?r30
                  case y30 => (intro w hSw; (try dsimp only at hSw); go_simp <;> with_reducible rfl)
                  simp only [Act.put, sl0, sl1, sl2]
                  refine wpAnyH_ready (rs := [20]) (by kernel_rfl) (by simp) ?_
                  refine AllReadyH.cons rfl (fun K hK => ?_) AllReadyH.nil
                  go_simp
                  go_at_call 70; refine (KR2.out _ hz2).mono ?_
                  rintro e w3 ⟨rfl, hb3⟩
                  have hz3 := bl_trans hz2 hb3
                  refine hK.out _ _ (HSC.out _ hz3) (fun hHeld => ?_)
                  clear hK K
                  try simp only [Act.put, sl0, sl1, sl2]
                  refine take_yes (i := 21) (d := 50) (v := ?v31) rfl rfl (by kernel_rfl) (by kernel_rfl) (by kernel_rfl) (fun _ _ _ h => h) (by rfl) ?y31 (by assumption) ?r31
                  case y31 => (intro w hSw; (try dsimp only at hSw); go_simp <;> with_reducible rfl)
                  simp only [Act.put, sl0, sl1, sl2]
                  refine take_yes (i := 22) (d := 51) (v := ?v32) rfl rfl (by kernel_rfl) (by kernel_rfl) (by kernel_rfl) (fun _ _ _ h => h) (by rfl) ?y32 (by assumption) ?r32
                  case y32 => (intro w hSw; (try dsimp only at hSw); go_simp <;> with_reducible rfl)
                  simp only [Act.put, sl0, sl1, sl2]
                  refine take_no (i := 23) (d := 52) rfl rfl (by kernel_rfl) (by kernel_rfl) (by kernel_rfl) (fun _ _ _ h => h) (by rfl) (by assumption) ?_
                  simp only [Act.put, sl0, sl1, sl2]
                  refine take_no (i := 24) (d := 53) rfl rfl (by kernel_rfl) (by kernel_rfl) (by kernel_rfl) (fun _ _ _ h => h) (by rfl) (by assumption) ?_
                  simp only [Act.put, sl0, sl1, sl2]
                  refine take_no (i := 25) (d := 54) rfl rfl (by kernel_rfl) (by kernel_rfl) (by kernel_rfl) (fun _ _ _ h => h) (by rfl) (by assumption) ?_
                  simp only [Act.put, sl0, sl1, sl2]
                  refine take_no (i := 26) (d := 55) rfl rfl (by kernel_rfl) (by kernel_rfl) (by kernel_rfl) (fun _ _ _ h => h) (by rfl) (by assumption) ?_
                  simp only [Act.put, sl0, sl1, sl2]
                  refine take_no (i := 27) (d := 56) rfl rfl (by kernel_rfl) (by kernel_rfl) (by kernel_rfl) (fun _ _ _ h => h) (by rfl) (by assumption) ?_
                  simp only [Act.put, sl0, sl1, sl2]
                  refine take_no (i := 28) (d := 57) rfl rfl (by kernel_rfl) (by kernel_rfl) (by kernel_rfl) (fun _ _ _ h => h) (by rfl) (by assumption) ?_
                  simp only [Act.put, sl0, sl1, sl2]
                  refine take_no (i := 29) (d := 58) rfl rfl (by kernel_rfl) (by kernel_rfl) (by kernel_rfl) (fun _ _ _ h => h) (by rfl) (by assumption) ?_
                  simp only [Act.put, sl0, sl1, sl2]
                  refine take_no (i := 30) (d := 59) rfl rfl (by kernel_rfl) (by kernel_rfl) (by kernel_rfl) (fun _ _ _ h => h) (by rfl) (by assumption) ?_
                  simp only [Act.put, sl0, sl1, sl2]
                  refine take_no (i := 31) (d := 60) rfl rfl (by kernel_rfl) (by kernel_rfl) (by kernel_rfl) (fun _ _ _ h => h) (by rfl) (by assumption) ?_
                  simp only [Act.put, sl0, sl1, sl2]
                  refine take_no (i := 32) (d := 61) rfl rfl (by kernel_rfl) (by kernel_rfl) (by kernel_rfl) (fun _ _ _ h => h) (by rfl) (by assumption) ?_
                  simp only [Act.put, sl0, sl1, sl2]
                  refine take_no (i := 33) (d := 62) rfl rfl (by kernel_rfl) (by kernel_rfl) (by kernel_rfl) (fun _ _ _ h => h) (by rfl) (by assumption) ?_
                  simp only [Act.put, sl0, sl1, sl2]
                  refine take_yes (i := 34) (d := 63) (v := ?v33) rfl rfl (by kernel_rfl) (by kernel_rfl) (by kernel_rfl) (fun _ _ _ h => h) (by rfl) ?y33 (by assumption) ?r33
                  case y33 => (intro w hSw; (try dsimp only at hSw); go_simp <;> with_reducible rfl)
                  simp only [Act.put, sl0, sl1, sl2]
                  refine take_yes (i := 35) (d := 64) (v := ?v34) rfl rfl (by kernel_rfl) (by kernel_rfl) (by kernel_rfl) (fun _ _ _ h => h) (by rfl) ?y34 (by assumption) ?r34
                  case y34 => (intro w hSw; (try dsimp only at hSw); go_simp <;> with_reducible rfl)
                  simp only [Act.put, sl0, sl1, sl2]
                  refine wpAnyH_done (by kernel_rfl) ?_ _
                  replace HR := Lib.hid (HR.out.keep hz3)
                  replace HBr := Lib.hid (HBr.out.keep hz3)
                  clear hb2 hz2 hb3 hz3 HSC HZ0 HS1 KR1 KR2
                  go_wp2
                  go_ret
                  exact ⟨ret_bool Hn.out.symm, HBr.out.below⟩
                · have K2 := Lib.hid (edge_b HG0.out.gv hu hy b2)
                  have B2 := Lib.hid b2
                  clear b2
                  cases b3 : (r y).testBit v
                  · have K3 := Lib.hid (edge_b HG0.out.gv hy hv b3)
                    have Hn : Hid (umB r l = false) := um_bad (i := i) (k := k) (j := j) (by omega) hlt hkl fun hb => by
                      have := (Hub.out.1 hb B1.out).2
                      rw [b3] at this; cases this
                    clear b3
                    go_wp2
                    have HSC : Hid (∀ z : World, Below wr.heap.size wr z → (Below wr.heap.size wr z ∧ z.cell? ⟨w.heap.size, 0, none⟩ = some (.int .i64 m) ∧ z.cell? ⟨w.heap.size, 1, none⟩ = some (.slice A m c) ∧ z.cell? ⟨bl, ol + i, none⟩ = some (.int .i64 (u : Int)) ∧ z.cell? ⟨bl, ol + k, none⟩ = some (.int .i64 (v : Int)) ∧ z.cell? ⟨bl, ol + j, none⟩ = some (.int .i64 (y : Int)))) := fun z hz => ⟨hz, up_ hz e0, up_ hz e1, up_ hz p0, up_ hz p1, up_ hz p2⟩
                    have HZ0 : Hid (Below wr.heap.size wr wr.drew) := (Below.refl _ _).drew
                    have HS1 := Lib.hid (HSC.out _ HZ0.out)
                    have KR1 : Hid (∀ z : World, Below wr.heap.size wr z → _) := fun z hz => K1.out _ hz
                    have KR2 : Hid (∀ z : World, Below wr.heap.size wr z → _) := fun z hz => K2.out _ hz
                    have KR3 : Hid (∀ z : World, Below wr.heap.size wr z → _) := fun z hz => K3.out _ hz
                    refine wp_region_held_drew (S := fun z => Below wr.heap.size wr z ∧ z.cell? ⟨w.heap.size, 0, none⟩ = some (.int .i64 m) ∧ z.cell? ⟨w.heap.size, 1, none⟩ = some (.slice A m c) ∧ z.cell? ⟨bl, ol + i, none⟩ = some (.int .i64 (u : Int)) ∧ z.cell? ⟨bl, ol + k, none⟩ = some (.int .i64 (v : Int)) ∧ z.cell? ⟨bl, ol + j, none⟩ = some (.int .i64 (y : Int))) (by kernel_rfl) HS1.out (fun hHeld => ?_)
                    refine take_yes (i := 0) (d := 29) (v := ?v35) rfl rfl (by kernel_rfl) (by kernel_rfl) (by kernel_rfl) (fun _ _ _ h => h) (by rfl) ?y35 (by assumption) ?r35
                    case y35 => (intro w hSw; (try dsimp only at hSw); go_simp <;> with_reducible rfl)
                    simp only [Act.put, sl0, sl1, sl2]
                    refine take_yes (i := 1) (d := 30) (v := ?v36) rfl rfl (by kernel_rfl) (by kernel_rfl) (by kernel_rfl) (fun _ _ _ h => h) (by rfl) ?y36 (by assumption) ?r36
                    case y36 => (intro w hSw; (try dsimp only at hSw); go_simp <;> with_reducible rfl)
                    simp only [Act.put, sl0, sl1, sl2]
                    refine take_yes (i := 2) (d := 31) (v := ?v37) rfl rfl (by kernel_rfl) (by kernel_rfl) (by kernel_rfl) (fun _ _ _ h => h) (by rfl) ?y37 (by assumption) ?r37
                    case y37 => (intro w hSw; (try dsimp only at hSw); go_simp <;> with_reducible rfl)
                    simp only [Act.put, sl0, sl1, sl2]
                    refine take_yes (i := 3) (d := 32) (v := ?v38) rfl rfl (by kernel_rfl) (by kernel_rfl) (by kernel_rfl) (fun _ _ _ h => h) (by rfl) ?y38 (by assumption) ?r38
                    case y38 => (intro w hSw; (try dsimp only at hSw); go_simp <;> with_reducible rfl)
                    simp only [Act.put, sl0, sl1, sl2]
                    refine take_yes (i := 4) (d := 33) (v := ?v39) rfl rfl (by kernel_rfl) (by kernel_rfl) (by kernel_rfl) (fun _ _ _ h => h) (by rfl) ?y39 (by assumption) ?r39
                    case y39 => (intro w hSw; (try dsimp only at hSw); go_simp <;> with_reducible rfl)
                    simp only [Act.put, sl0, sl1, sl2]
                    refine take_yes (i := 5) (d := 34) (v := ?v40) rfl rfl (by kernel_rfl) (by kernel_rfl) (by kernel_rfl) (fun _ _ _ h => h) (by rfl) ?y40 (by assumption) ?r40
                    case y40 => (intro w hSw; (try dsimp only at hSw); go_simp <;> with_reducible rfl)
                    simp only [Act.put, sl0, sl1, sl2]
                    refine take_yes (i := 6) (d := 35) (v := ?v41) rfl rfl (by kernel_rfl) (by kernel_rfl) (by kernel_rfl) (fun _ _ _ h => h) (by rfl) ?y41 (by assumption) ?r41
                    case y41 => (intro w hSw; (try dsimp only at hSw); go_simp <;> with_reducible rfl)
                    simp only [Act.put, sl0, sl1, sl2]
                    refine take_yes (i := 7) (d := 36) (v := ?v42) rfl rfl (by kernel_rfl) (by kernel_rfl) (by kernel_rfl) (fun _ _ _ h => h) (by rfl) ?y42 (by assumption) ?r42
                    case y42 => (intro w hSw; (try dsimp only at hSw); go_simp <;> with_reducible rfl)
                    simp only [Act.put, sl0, sl1, sl2]
                    refine take_yes (i := 8) (d := 37) (v := ?v43) rfl rfl (by kernel_rfl) (by kernel_rfl) (by kernel_rfl) (fun _ _ _ h => h) (by rfl) ?y43 (by assumption) ?r43
                    case y43 => (intro w hSw; (try dsimp only at hSw); go_simp <;> with_reducible rfl)
                    simp only [Act.put, sl0, sl1, sl2]
                    refine wpAnyH_ready (rs := [9]) (by kernel_rfl) (by simp) ?_
                    refine AllReadyH.cons rfl (fun K hK => ?_) AllReadyH.nil
                    go_simp
                    go_at_call 70; refine (KR1.out _ HZ0.out).mono ?_
                    rintro e w4 ⟨rfl, hb4⟩
                    have hz4 := bl_trans HZ0.out hb4
                    refine hK.out _ _ (HSC.out _ hz4) (fun hHeld => ?_)
                    clear hK K
                    try simp only [Act.put, sl0, sl1, sl2]
                    refine take_yes (i := 10) (d := 39) (v := ?v44) rfl rfl (by kernel_rfl) (by kernel_rfl) (by kernel_rfl) (fun _ _ _ h => h) (by rfl) ?y44 (by assumption) ?r44
                    case y44 => (intro w hSw; (try dsimp only at hSw); go_simp <;> with_reducible rfl)
                    simp only [Act.put, sl0, sl1, sl2]
                    refine take_yes (i := 11) (d := 40) (v := ?v45) rfl rfl (by kernel_rfl) (by kernel_rfl) (by kernel_rfl) (fun _ _ _ h => h) (by rfl) ?y45 (by assumption) ?r45
                    case y45 => (intro w hSw; (try dsimp only at hSw); go_simp <;> with_reducible rfl)
                    simp only [Act.put, sl0, sl1, sl2]
                    refine take_yes (i := 12) (d := 41) (v := ?v46) rfl rfl (by kernel_rfl) (by kernel_rfl) (by kernel_rfl) (fun _ _ _ h => h) (by rfl) ?y46 (by assumption) ?r46
                    case y46 => (intro w hSw; (try dsimp only at hSw); go_simp <;> with_reducible rfl)
                    simp only [Act.put, sl0, sl1, sl2]
                    refine take_yes (i := 13) (d := 42) (v := ?v47) rfl rfl (by kernel_rfl) (by kernel_rfl) (by kernel_rfl) (fun _ _ _ h => h) (by rfl) ?y47 (by assumption) ?r47
                    case y47 => (intro w hSw; (try dsimp only at hSw); go_simp <;> with_reducible rfl)
                    simp only [Act.put, sl0, sl1, sl2]
                    refine take_yes (i := 14) (d := 43) (v := ?v48) rfl rfl (by kernel_rfl) (by kernel_rfl) (by kernel_rfl) (fun _ _ _ h => h) (by rfl) ?y48 (by assumption) ?r48
                    case y48 => (intro w hSw; (try dsimp only at hSw); go_simp <;> with_reducible rfl)
                    simp only [Act.put, sl0, sl1, sl2]
                    refine take_yes (i := 15) (d := 44) (v := ?v49) rfl rfl (by kernel_rfl) (by kernel_rfl) (by kernel_rfl) (fun _ _ _ h => h) (by rfl) ?y49 (by assumption) ?r49
                    case y49 => (intro w hSw; (try dsimp only at hSw); go_simp <;> with_reducible rfl)
                    simp only [Act.put, sl0, sl1, sl2]
                    refine take_yes (i := 16) (d := 45) (v := ?v50) rfl rfl (by kernel_rfl) (by kernel_rfl) (by kernel_rfl) (fun _ _ _ h => h) (by rfl) ?y50 (by assumption) ?r50
                    case y50 => (intro w hSw; (try dsimp only at hSw); go_simp <;> with_reducible rfl)
                    simp only [Act.put, sl0, sl1, sl2]
                    refine take_yes (i := 17) (d := 46) (v := ?v51) rfl rfl (by kernel_rfl) (by kernel_rfl) (by kernel_rfl) (fun _ _ _ h => h) (by rfl) ?y51 (by assumption) ?r51
                    case y51 => (intro w hSw; (try dsimp only at hSw); go_simp <;> with_reducible rfl)
                    simp only [Act.put, sl0, sl1, sl2]
                    refine take_yes (i := 18) (d := 47) (v := ?v52) rfl rfl (by kernel_rfl) (by kernel_rfl) (by kernel_rfl) (fun _ _ _ h => h) (by rfl) ?y52 (by assumption) ?r52
                    case y52 => (intro w hSw; (try dsimp only at hSw); go_simp <;> with_reducible rfl)
                    simp only [Act.put, sl0, sl1, sl2]
                    refine take_yes (i := 19) (d := 48) (v := ?v53) rfl rfl (by kernel_rfl) (by kernel_rfl) (by kernel_rfl) (fun _ _ _ h => h) (by rfl) ?y53 (by assumption) ?r53
                    case y53 => (intro w hSw; (try dsimp only at hSw); go_simp <;> with_reducible rfl)
                    simp only [Act.put, sl0, sl1, sl2]
                    refine wpAnyH_ready (rs := [20]) (by kernel_rfl) (by simp) ?_
                    refine AllReadyH.cons rfl (fun K hK => ?_) AllReadyH.nil
                    go_simp
                    go_at_call 70; refine (KR2.out _ hz4).mono ?_
                    rintro e w5 ⟨rfl, hb5⟩
                    have hz5 := bl_trans hz4 hb5
                    refine hK.out _ _ (HSC.out _ hz5) (fun hHeld => ?_)
                    clear hK K
                    try simp only [Act.put, sl0, sl1, sl2]
                    refine take_yes (i := 21) (d := 50) (v := ?v54) rfl rfl (by kernel_rfl) (by kernel_rfl) (by kernel_rfl) (fun _ _ _ h => h) (by rfl) ?y54 (by assumption) ?r54
                    case y54 => (intro w hSw; (try dsimp only at hSw); go_simp <;> with_reducible rfl)
                    simp only [Act.put, sl0, sl1, sl2]
                    refine take_yes (i := 22) (d := 51) (v := ?v55) rfl rfl (by kernel_rfl) (by kernel_rfl) (by kernel_rfl) (fun _ _ _ h => h) (by rfl) ?y55 (by assumption) ?r55
                    case y55 => (intro w hSw; (try dsimp only at hSw); go_simp <;> with_reducible rfl)
                    simp only [Act.put, sl0, sl1, sl2]
                    refine take_yes (i := 23) (d := 52) (v := ?v56) rfl rfl (by kernel_rfl) (by kernel_rfl) (by kernel_rfl) (fun _ _ _ h => h) (by rfl) ?y56 (by assumption) ?r56
                    case y56 => (intro w hSw; (try dsimp only at hSw); go_simp <;> with_reducible rfl)
                    simp only [Act.put, sl0, sl1, sl2]
                    refine take_yes (i := 24) (d := 53) (v := ?v57) rfl rfl (by kernel_rfl) (by kernel_rfl) (by kernel_rfl) (fun _ _ _ h => h) (by rfl) ?y57 (by assumption) ?r57
                    case y57 => (intro w hSw; (try dsimp only at hSw); go_simp <;> with_reducible rfl)
                    simp only [Act.put, sl0, sl1, sl2]
                    refine take_yes (i := 25) (d := 54) (v := ?v58) rfl rfl (by kernel_rfl) (by kernel_rfl) (by kernel_rfl) (fun _ _ _ h => h) (by rfl) ?y58 (by assumption) ?r58
                    case y58 => (intro w hSw; (try dsimp only at hSw); go_simp <;> with_reducible rfl)
                    simp only [Act.put, sl0, sl1, sl2]
                    refine take_yes (i := 26) (d := 55) (v := ?v59) rfl rfl (by kernel_rfl) (by kernel_rfl) (by kernel_rfl) (fun _ _ _ h => h) (by rfl) ?y59 (by assumption) ?r59
                    case y59 => (intro w hSw; (try dsimp only at hSw); go_simp <;> with_reducible rfl)
                    simp only [Act.put, sl0, sl1, sl2]
                    refine take_yes (i := 27) (d := 56) (v := ?v60) rfl rfl (by kernel_rfl) (by kernel_rfl) (by kernel_rfl) (fun _ _ _ h => h) (by rfl) ?y60 (by assumption) ?r60
                    case y60 => (intro w hSw; (try dsimp only at hSw); go_simp <;> with_reducible rfl)
                    simp only [Act.put, sl0, sl1, sl2]
                    refine take_yes (i := 28) (d := 57) (v := ?v61) rfl rfl (by kernel_rfl) (by kernel_rfl) (by kernel_rfl) (fun _ _ _ h => h) (by rfl) ?y61 (by assumption) ?r61
                    case y61 => (intro w hSw; (try dsimp only at hSw); go_simp <;> with_reducible rfl)
                    simp only [Act.put, sl0, sl1, sl2]
                    refine take_yes (i := 29) (d := 58) (v := ?v62) rfl rfl (by kernel_rfl) (by kernel_rfl) (by kernel_rfl) (fun _ _ _ h => h) (by rfl) ?y62 (by assumption) ?r62
                    case y62 => (intro w hSw; (try dsimp only at hSw); go_simp <;> with_reducible rfl)
                    simp only [Act.put, sl0, sl1, sl2]
                    refine take_yes (i := 30) (d := 59) (v := ?v63) rfl rfl (by kernel_rfl) (by kernel_rfl) (by kernel_rfl) (fun _ _ _ h => h) (by rfl) ?y63 (by assumption) ?r63
                    case y63 => (intro w hSw; (try dsimp only at hSw); go_simp <;> with_reducible rfl)
                    simp only [Act.put, sl0, sl1, sl2]
                    refine take_yes (i := 31) (d := 60) (v := ?v64) rfl rfl (by kernel_rfl) (by kernel_rfl) (by kernel_rfl) (fun _ _ _ h => h) (by rfl) ?y64 (by assumption) ?r64
                    case y64 => (intro w hSw; (try dsimp only at hSw); go_simp <;> with_reducible rfl)
                    simp only [Act.put, sl0, sl1, sl2]
                    refine wpAnyH_ready (rs := [32]) (by kernel_rfl) (by simp) ?_
                    refine AllReadyH.cons rfl (fun K hK => ?_) AllReadyH.nil
                    go_simp
                    go_at_call 70; refine (KR3.out _ hz5).mono ?_
                    rintro e w6 ⟨rfl, hb6⟩
                    have hz6 := bl_trans hz5 hb6
                    refine hK.out _ _ (HSC.out _ hz6) (fun hHeld => ?_)
                    clear hK K
                    try simp only [Act.put, sl0, sl1, sl2]
                    refine take_yes (i := 33) (d := 62) (v := ?v65) rfl rfl (by kernel_rfl) (by kernel_rfl) (by kernel_rfl) (fun _ _ _ h => h) (by rfl) ?y65 (by assumption) ?r65
                    case y65 => (intro w hSw; (try dsimp only at hSw); go_simp <;> with_reducible rfl)
                    simp only [Act.put, sl0, sl1, sl2]
                    refine take_yes (i := 34) (d := 63) (v := ?v66) rfl rfl (by kernel_rfl) (by kernel_rfl) (by kernel_rfl) (fun _ _ _ h => h) (by rfl) ?y66 (by assumption) ?r66
                    case y66 => (intro w hSw; (try dsimp only at hSw); go_simp <;> with_reducible rfl)
                    simp only [Act.put, sl0, sl1, sl2]
                    refine take_yes (i := 35) (d := 64) (v := ?v67) rfl rfl (by kernel_rfl) (by kernel_rfl) (by kernel_rfl) (fun _ _ _ h => h) (by rfl) ?y67 (by assumption) ?r67
                    case y67 => (intro w hSw; (try dsimp only at hSw); go_simp <;> with_reducible rfl)
                    simp only [Act.put, sl0, sl1, sl2]
                    refine wpAnyH_done (by kernel_rfl) ?_ _
                    replace HR := Lib.hid (HR.out.keep hz6)
                    replace HBr := Lib.hid (HBr.out.keep hz6)
                    clear hb4 hz4 hb5 hz5 hb6 hz6 HSC HZ0 HS1 KR1 KR2 KR3
                    go_wp2
                    go_ret
                    exact ⟨ret_bool Hn.out.symm, HBr.out.below⟩
                  · have K3 := Lib.hid (edge_b HG0.out.gv hy hv b3)
                    have H3' : Hid (Um3 r l i k (j + 1)) := H3.out.step (Hub.out.2 fun _ => ⟨B2.out, b3⟩)
                    clear b3
                    go_wp2
                    have HSC : Hid (∀ z : World, Below wr.heap.size wr z → (Below wr.heap.size wr z ∧ z.cell? ⟨w.heap.size, 0, none⟩ = some (.int .i64 m) ∧ z.cell? ⟨w.heap.size, 1, none⟩ = some (.slice A m c) ∧ z.cell? ⟨bl, ol + i, none⟩ = some (.int .i64 (u : Int)) ∧ z.cell? ⟨bl, ol + k, none⟩ = some (.int .i64 (v : Int)) ∧ z.cell? ⟨bl, ol + j, none⟩ = some (.int .i64 (y : Int)))) := fun z hz => ⟨hz, up_ hz e0, up_ hz e1, up_ hz p0, up_ hz p1, up_ hz p2⟩
                    have HZ0 : Hid (Below wr.heap.size wr wr.drew) := (Below.refl _ _).drew
                    have HS1 := Lib.hid (HSC.out _ HZ0.out)
                    have KR1 : Hid (∀ z : World, Below wr.heap.size wr z → _) := fun z hz => K1.out _ hz
                    have KR2 : Hid (∀ z : World, Below wr.heap.size wr z → _) := fun z hz => K2.out _ hz
                    have KR3 : Hid (∀ z : World, Below wr.heap.size wr z → _) := fun z hz => K3.out _ hz
                    refine wp_region_held_drew (S := fun z => Below wr.heap.size wr z ∧ z.cell? ⟨w.heap.size, 0, none⟩ = some (.int .i64 m) ∧ z.cell? ⟨w.heap.size, 1, none⟩ = some (.slice A m c) ∧ z.cell? ⟨bl, ol + i, none⟩ = some (.int .i64 (u : Int)) ∧ z.cell? ⟨bl, ol + k, none⟩ = some (.int .i64 (v : Int)) ∧ z.cell? ⟨bl, ol + j, none⟩ = some (.int .i64 (y : Int))) (by kernel_rfl) HS1.out (fun hHeld => ?_)
                    refine take_yes (i := 0) (d := 29) (v := ?v68) rfl rfl (by kernel_rfl) (by kernel_rfl) (by kernel_rfl) (fun _ _ _ h => h) (by rfl) ?y68 (by assumption) ?r68
                    case y68 => (intro w hSw; (try dsimp only at hSw); go_simp <;> with_reducible rfl)
                    simp only [Act.put, sl0, sl1, sl2]
                    refine take_yes (i := 1) (d := 30) (v := ?v69) rfl rfl (by kernel_rfl) (by kernel_rfl) (by kernel_rfl) (fun _ _ _ h => h) (by rfl) ?y69 (by assumption) ?r69
                    case y69 => (intro w hSw; (try dsimp only at hSw); go_simp <;> with_reducible rfl)
                    simp only [Act.put, sl0, sl1, sl2]
                    refine take_yes (i := 2) (d := 31) (v := ?v70) rfl rfl (by kernel_rfl) (by kernel_rfl) (by kernel_rfl) (fun _ _ _ h => h) (by rfl) ?y70 (by assumption) ?r70
                    case y70 => (intro w hSw; (try dsimp only at hSw); go_simp <;> with_reducible rfl)
                    simp only [Act.put, sl0, sl1, sl2]
                    refine take_yes (i := 3) (d := 32) (v := ?v71) rfl rfl (by kernel_rfl) (by kernel_rfl) (by kernel_rfl) (fun _ _ _ h => h) (by rfl) ?y71 (by assumption) ?r71
                    case y71 => (intro w hSw; (try dsimp only at hSw); go_simp <;> with_reducible rfl)
                    simp only [Act.put, sl0, sl1, sl2]
                    refine take_yes (i := 4) (d := 33) (v := ?v72) rfl rfl (by kernel_rfl) (by kernel_rfl) (by kernel_rfl) (fun _ _ _ h => h) (by rfl) ?y72 (by assumption) ?r72
                    case y72 => (intro w hSw; (try dsimp only at hSw); go_simp <;> with_reducible rfl)
                    simp only [Act.put, sl0, sl1, sl2]
                    refine take_yes (i := 5) (d := 34) (v := ?v73) rfl rfl (by kernel_rfl) (by kernel_rfl) (by kernel_rfl) (fun _ _ _ h => h) (by rfl) ?y73 (by assumption) ?r73
                    case y73 => (intro w hSw; (try dsimp only at hSw); go_simp <;> with_reducible rfl)
                    simp only [Act.put, sl0, sl1, sl2]
                    refine take_yes (i := 6) (d := 35) (v := ?v74) rfl rfl (by kernel_rfl) (by kernel_rfl) (by kernel_rfl) (fun _ _ _ h => h) (by rfl) ?y74 (by assumption) ?r74
                    case y74 => (intro w hSw; (try dsimp only at hSw); go_simp <;> with_reducible rfl)
                    simp only [Act.put, sl0, sl1, sl2]
                    refine take_yes (i := 7) (d := 36) (v := ?v75) rfl rfl (by kernel_rfl) (by kernel_rfl) (by kernel_rfl) (fun _ _ _ h => h) (by rfl) ?y75 (by assumption) ?r75
                    case y75 => (intro w hSw; (try dsimp only at hSw); go_simp <;> with_reducible rfl)
                    simp only [Act.put, sl0, sl1, sl2]
                    refine take_yes (i := 8) (d := 37) (v := ?v76) rfl rfl (by kernel_rfl) (by kernel_rfl) (by kernel_rfl) (fun _ _ _ h => h) (by rfl) ?y76 (by assumption) ?r76
                    case y76 => (intro w hSw; (try dsimp only at hSw); go_simp <;> with_reducible rfl)
                    simp only [Act.put, sl0, sl1, sl2]
                    refine wpAnyH_ready (rs := [9]) (by kernel_rfl) (by simp) ?_
                    refine AllReadyH.cons rfl (fun K hK => ?_) AllReadyH.nil
                    go_simp
                    go_at_call 70; refine (KR1.out _ HZ0.out).mono ?_
                    rintro e w7 ⟨rfl, hb7⟩
                    have hz7 := bl_trans HZ0.out hb7
                    refine hK.out _ _ (HSC.out _ hz7) (fun hHeld => ?_)
                    clear hK K
                    try simp only [Act.put, sl0, sl1, sl2]
                    refine take_yes (i := 10) (d := 39) (v := ?v77) rfl rfl (by kernel_rfl) (by kernel_rfl) (by kernel_rfl) (fun _ _ _ h => h) (by rfl) ?y77 (by assumption) ?r77
                    case y77 => (intro w hSw; (try dsimp only at hSw); go_simp <;> with_reducible rfl)
                    simp only [Act.put, sl0, sl1, sl2]
                    refine take_yes (i := 11) (d := 40) (v := ?v78) rfl rfl (by kernel_rfl) (by kernel_rfl) (by kernel_rfl) (fun _ _ _ h => h) (by rfl) ?y78 (by assumption) ?r78
                    case y78 => (intro w hSw; (try dsimp only at hSw); go_simp <;> with_reducible rfl)
                    simp only [Act.put, sl0, sl1, sl2]
                    refine take_yes (i := 12) (d := 41) (v := ?v79) rfl rfl (by kernel_rfl) (by kernel_rfl) (by kernel_rfl) (fun _ _ _ h => h) (by rfl) ?y79 (by assumption) ?r79
                    case y79 => (intro w hSw; (try dsimp only at hSw); go_simp <;> with_reducible rfl)
                    simp only [Act.put, sl0, sl1, sl2]
                    refine take_yes (i := 13) (d := 42) (v := ?v80) rfl rfl (by kernel_rfl) (by kernel_rfl) (by kernel_rfl) (fun _ _ _ h => h) (by rfl) ?y80 (by assumption) ?r80
                    case y80 => (intro w hSw; (try dsimp only at hSw); go_simp <;> with_reducible rfl)
                    simp only [Act.put, sl0, sl1, sl2]
                    refine take_yes (i := 14) (d := 43) (v := ?v81) rfl rfl (by kernel_rfl) (by kernel_rfl) (by kernel_rfl) (fun _ _ _ h => h) (by rfl) ?y81 (by assumption) ?r81
                    case y81 => (intro w hSw; (try dsimp only at hSw); go_simp <;> with_reducible rfl)
                    simp only [Act.put, sl0, sl1, sl2]
                    refine take_yes (i := 15) (d := 44) (v := ?v82) rfl rfl (by kernel_rfl) (by kernel_rfl) (by kernel_rfl) (fun _ _ _ h => h) (by rfl) ?y82 (by assumption) ?r82
                    case y82 => (intro w hSw; (try dsimp only at hSw); go_simp <;> with_reducible rfl)
                    simp only [Act.put, sl0, sl1, sl2]
                    refine take_yes (i := 16) (d := 45) (v := ?v83) rfl rfl (by kernel_rfl) (by kernel_rfl) (by kernel_rfl) (fun _ _ _ h => h) (by rfl) ?y83 (by assumption) ?r83
                    case y83 => (intro w hSw; (try dsimp only at hSw); go_simp <;> with_reducible rfl)
                    simp only [Act.put, sl0, sl1, sl2]
                    refine take_yes (i := 17) (d := 46) (v := ?v84) rfl rfl (by kernel_rfl) (by kernel_rfl) (by kernel_rfl) (fun _ _ _ h => h) (by rfl) ?y84 (by assumption) ?r84
                    case y84 => (intro w hSw; (try dsimp only at hSw); go_simp <;> with_reducible rfl)
                    simp only [Act.put, sl0, sl1, sl2]
                    refine take_yes (i := 18) (d := 47) (v := ?v85) rfl rfl (by kernel_rfl) (by kernel_rfl) (by kernel_rfl) (fun _ _ _ h => h) (by rfl) ?y85 (by assumption) ?r85
                    case y85 => (intro w hSw; (try dsimp only at hSw); go_simp <;> with_reducible rfl)
                    simp only [Act.put, sl0, sl1, sl2]
                    refine take_yes (i := 19) (d := 48) (v := ?v86) rfl rfl (by kernel_rfl) (by kernel_rfl) (by kernel_rfl) (fun _ _ _ h => h) (by rfl) ?y86 (by assumption) ?r86
                    case y86 => (intro w hSw; (try dsimp only at hSw); go_simp <;> with_reducible rfl)
                    simp only [Act.put, sl0, sl1, sl2]
                    refine wpAnyH_ready (rs := [20]) (by kernel_rfl) (by simp) ?_
                    refine AllReadyH.cons rfl (fun K hK => ?_) AllReadyH.nil
                    go_simp
                    go_at_call 70; refine (KR2.out _ hz7).mono ?_
                    rintro e w8 ⟨rfl, hb8⟩
                    have hz8 := bl_trans hz7 hb8
                    refine hK.out _ _ (HSC.out _ hz8) (fun hHeld => ?_)
                    clear hK K
                    try simp only [Act.put, sl0, sl1, sl2]
                    refine take_yes (i := 21) (d := 50) (v := ?v87) rfl rfl (by kernel_rfl) (by kernel_rfl) (by kernel_rfl) (fun _ _ _ h => h) (by rfl) ?y87 (by assumption) ?r87
                    case y87 => (intro w hSw; (try dsimp only at hSw); go_simp <;> with_reducible rfl)
                    simp only [Act.put, sl0, sl1, sl2]
                    refine take_yes (i := 22) (d := 51) (v := ?v88) rfl rfl (by kernel_rfl) (by kernel_rfl) (by kernel_rfl) (fun _ _ _ h => h) (by rfl) ?y88 (by assumption) ?r88
                    case y88 => (intro w hSw; (try dsimp only at hSw); go_simp <;> with_reducible rfl)
                    simp only [Act.put, sl0, sl1, sl2]
                    refine take_yes (i := 23) (d := 52) (v := ?v89) rfl rfl (by kernel_rfl) (by kernel_rfl) (by kernel_rfl) (fun _ _ _ h => h) (by rfl) ?y89 (by assumption) ?r89
                    case y89 => (intro w hSw; (try dsimp only at hSw); go_simp <;> with_reducible rfl)
                    simp only [Act.put, sl0, sl1, sl2]
                    refine take_yes (i := 24) (d := 53) (v := ?v90) rfl rfl (by kernel_rfl) (by kernel_rfl) (by kernel_rfl) (fun _ _ _ h => h) (by rfl) ?y90 (by assumption) ?r90
                    case y90 => (intro w hSw; (try dsimp only at hSw); go_simp <;> with_reducible rfl)
                    simp only [Act.put, sl0, sl1, sl2]
                    refine take_yes (i := 25) (d := 54) (v := ?v91) rfl rfl (by kernel_rfl) (by kernel_rfl) (by kernel_rfl) (fun _ _ _ h => h) (by rfl) ?y91 (by assumption) ?r91
                    case y91 => (intro w hSw; (try dsimp only at hSw); go_simp <;> with_reducible rfl)
                    simp only [Act.put, sl0, sl1, sl2]
                    refine take_yes (i := 26) (d := 55) (v := ?v92) rfl rfl (by kernel_rfl) (by kernel_rfl) (by kernel_rfl) (fun _ _ _ h => h) (by rfl) ?y92 (by assumption) ?r92
                    case y92 => (intro w hSw; (try dsimp only at hSw); go_simp <;> with_reducible rfl)
                    simp only [Act.put, sl0, sl1, sl2]
                    refine take_yes (i := 27) (d := 56) (v := ?v93) rfl rfl (by kernel_rfl) (by kernel_rfl) (by kernel_rfl) (fun _ _ _ h => h) (by rfl) ?y93 (by assumption) ?r93
                    case y93 => (intro w hSw; (try dsimp only at hSw); go_simp <;> with_reducible rfl)
                    simp only [Act.put, sl0, sl1, sl2]
                    refine take_yes (i := 28) (d := 57) (v := ?v94) rfl rfl (by kernel_rfl) (by kernel_rfl) (by kernel_rfl) (fun _ _ _ h => h) (by rfl) ?y94 (by assumption) ?r94
                    case y94 => (intro w hSw; (try dsimp only at hSw); go_simp <;> with_reducible rfl)
                    simp only [Act.put, sl0, sl1, sl2]
                    refine take_yes (i := 29) (d := 58) (v := ?v95) rfl rfl (by kernel_rfl) (by kernel_rfl) (by kernel_rfl) (fun _ _ _ h => h) (by rfl) ?y95 (by assumption) ?r95
                    case y95 => (intro w hSw; (try dsimp only at hSw); go_simp <;> with_reducible rfl)
                    simp only [Act.put, sl0, sl1, sl2]
                    refine take_yes (i := 30) (d := 59) (v := ?v96) rfl rfl (by kernel_rfl) (by kernel_rfl) (by kernel_rfl) (fun _ _ _ h => h) (by rfl) ?y96 (by assumption) ?r96
                    case y96 => (intro w hSw; (try dsimp only at hSw); go_simp <;> with_reducible rfl)
                    simp only [Act.put, sl0, sl1, sl2]
                    refine take_yes (i := 31) (d := 60) (v := ?v97) rfl rfl (by kernel_rfl) (by kernel_rfl) (by kernel_rfl) (fun _ _ _ h => h) (by rfl) ?y97 (by assumption) ?r97
                    case y97 => (intro w hSw; (try dsimp only at hSw); go_simp <;> with_reducible rfl)
                    simp only [Act.put, sl0, sl1, sl2]
                    refine wpAnyH_ready (rs := [32]) (by kernel_rfl) (by simp) ?_
                    refine AllReadyH.cons rfl (fun K hK => ?_) AllReadyH.nil
                    go_simp
                    go_at_call 70; refine (KR3.out _ hz8).mono ?_
                    rintro e w9 ⟨rfl, hb9⟩
                    have hz9 := bl_trans hz8 hb9
                    refine hK.out _ _ (HSC.out _ hz9) (fun hHeld => ?_)
                    clear hK K
                    try simp only [Act.put, sl0, sl1, sl2]
                    refine take_yes (i := 33) (d := 62) (v := ?v98) rfl rfl (by kernel_rfl) (by kernel_rfl) (by kernel_rfl) (fun _ _ _ h => h) (by rfl) ?y98 (by assumption) ?r98
                    case y98 => (intro w hSw; (try dsimp only at hSw); go_simp <;> with_reducible rfl)
                    simp only [Act.put, sl0, sl1, sl2]
                    refine take_yes (i := 34) (d := 63) (v := ?v99) rfl rfl (by kernel_rfl) (by kernel_rfl) (by kernel_rfl) (fun _ _ _ h => h) (by rfl) ?y99 (by assumption) ?r99
                    case y99 => (intro w hSw; (try dsimp only at hSw); go_simp <;> with_reducible rfl)
                    simp only [Act.put, sl0, sl1, sl2]
                    refine take_yes (i := 35) (d := 64) (v := ?v100) rfl rfl (by kernel_rfl) (by kernel_rfl) (by kernel_rfl) (fun _ _ _ h => h) (by rfl) ?y100 (by assumption) ?r100
                    case y100 => (intro w hSw; (try dsimp only at hSw); go_simp <;> with_reducible rfl)
                    simp only [Act.put, sl0, sl1, sl2]
                    refine wpAnyH_done (by kernel_rfl) ?_ _
                    replace HR := Lib.hid (HR.out.keep hz9)
                    replace HBr := Lib.hid (HBr.out.keep hz9)
                    clear hb7 hz7 hb8 hz8 hb9 hz9 HSC HZ0 HS1 KR1 KR2 KR3
                    go_wp2
                    go_roundw
                    case rel => exact ⟨j + 1, by omega, by omega, by go_num, H3', HR⟩
                    case measure => (simp [intOf] <;> omega)
            · have H2' : Hid (Um2 r l i (k + 1)) := H2.out.step fun j' h1 h2 => H3.out j' h1 (by omega)
              have i4 : (k : Int) ≤ (j : Int) := by omega
              go_wp2
              go_roundw
              case rel => exact ⟨k + 1, by omega, by omega, by go_num, H2', HR⟩
              case measure => (simp [intOf] <;> omega)
        · have H1' : Hid (Um1 r l (i + 1)) := H1.out.step H2.out (by omega)
          have i2 : (l.length : Int) ≤ (k : Int) := by omega
          go_wp2
          go_roundw
          case rel => exact ⟨i + 1, by omega, by go_num, H1', HR⟩
          case measure => (simp [intOf] <;> omega)
    · have Hy : Hid (umB r l = true) := um_yes (H1.out.all (by omega))
      have HBr := Lib.hid (HB.out.up HR.out)
      have i1 : (l.length : Int) ≤ (i : Int) := by omega
      go_wp2
      go_ret
      exact ⟨ret_bool Hy.out.symm, HBr.out.below⟩

end Go.Proofs.YtppkokgiojcgbaaGreatDoor
