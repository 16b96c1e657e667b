/-
  Contracts: the least set whose graph needs more colors than its largest clique has vertices; is a graph perfect? The reference's.
-/
import Derived.Test.YtppkokgiojcgbaaGreatDoorQyPrfI
import Derived.Test.YtppkokgiojcgbaaGreatDoorQyHamT
import Derived.Test.YtppkokgiojcgbaaGreatDoorQyNumS
namespace Go.Proofs.YtppkokgiojcgbaaGreatDoor
open Go.RowKit

section
variable {A : Option Addr} {m c : Nat} {r : Nat → Nat} {s : Nat} {w : World}
set_option maxRecDepth 100000 in
set_option maxHeartbeats 6400000 in
theorem LeastImperfect_sv (h : GV w A m c r) :
    Calls Tryz.prog 145 #[.agg #[.int .i64 m, .slice A m c]] w fun e w' => e = .returned (lsV (pfO r m)) ∧ Below w.heap.size w w' := by
  have hn7 := h.vg.n7
  have h128 := two_pow_le hn7
  have hpos := Nat.two_pow_pos m
  have hpc := pow_cast m
  have p1 := pow_shl m hn7
  have HV := Lib.hid h.vg
  obtain ⟨W, hW⟩ : ∃ W : World, W = (w.alloc (Obj.cells #[Value.int IntKind.i64 m, Value.slice A m c] 29)) := ⟨_, rfl⟩
  have HB : Hid (From w W) := by rw [hW]; exact From.alloc _ _
  have HG : Hid (GBox W w.heap.size A m c r) := by rw [hW]; exact h.box
  have HW := Lib.hid hW
  clear hW h
  have e0 := HG.out.c0
  have e1 := HG.out.c1
  go_enter Tryz.func145, Tryz.ntmps145
  go_wp2
  rw [← HW.out]
  clear HW
  go_loopw [4] (fun i wr => ∃ k : Nat, 1 ≤ k ∧ k ≤ 2 ^ m ∧ i = .int .i64 k ∧ Hid (∀ u, u < k → pfB r u = false) ∧ Hid (From W wr)) (fun i _ => 2 ^ m - (intOf i).toNat)
  case atStart => exact ⟨1, Nat.le_refl _, hpos, rfl, (fun u hu => by rw [show u = 0 by omega]; exact pfB_zero r), From.refl _⟩
  case round =>
    obtain ⟨k, hk1, hk, rfl, hall, HR⟩ := hrel
    clear e0 e1
    replace HB := Lib.hid (HB.out.keep HR.out.below)
    replace HG := Lib.hid (HG.out.keep HR.out.below)
    have e0 := HG.out.c0
    have e1 := HG.out.c1
    go_wp2_with fail
    refine (IsGraph_sv HG.out.gv).mono ?_
    rintro e w1 ⟨rfl, hb1⟩
    clear e0 e1
    replace HB := Lib.hid (HB.out.keep hb1)
    replace HG := Lib.hid (HG.out.keep hb1)
    replace HR := Lib.hid (HR.out.keep hb1)
    clear hb1
    have e0 := HG.out.c0
    have e1 := HG.out.c1
    by_cases hlt : k < 2 ^ m
    · have i1 : (k : Int) < 2 ^ m := by omega
      have h0 : k ≠ 0 := by omega
      have hp := pfB_not (r := r) h0
      have hsm : cn k ≤ 4 → pfB r k = false := fun h => pfB_small HV.out hlt h0 h
      have KI := Lib.hid (InducedOn_sv HG.out.gv hlt h0)
      have Hgv : Hid (∀ {A' : Option Addr} {c' lo hi : Nat} {w' : World}, Own w' lo hi 3 1 A' (cn k) c' (fun j => .int .i64 (inR r k j : Nat)) → hi ≤ w'.heap.size → GV w' A' (cn k) c' (inR r k)) := fun h hhi => ind_gv HV.out hlt h0 h hhi
      obtain ⟨R, hR⟩ : ∃ R, R = inR r k := ⟨_, rfl⟩
      obtain ⟨n, hn⟩ : ∃ n, n = cn k := ⟨_, rfl⟩
      have KI2 : Hid (Calls Tryz.prog 96 #[.agg #[.int .i64 m, .slice A m c], .int .i64 k] w1 fun e w' => ∃ A' c', e = .returned (.tuple #[.agg #[.int .i64 (n : Nat), .slice A' n c'], .bool true]) ∧ GV w' A' n c' R ∧ Below w1.heap.size w1 w') := by
        rw [hR, hn]
        refine KI.out.mono ?_
        rintro e w' ⟨A', c', h1, h2, h3⟩
        exact ⟨A', c', h1, Hgv.out h2 (Nat.le_refl _), h3⟩
      rw [← hR, ← hn] at hp
      rw [← hn] at hsm
      obtain ⟨X, hX⟩ : ∃ X, X = chN R n := ⟨_, rfl⟩
      obtain ⟨Y, hY⟩ : ∃ Y, Y = cn (lqN R n) := ⟨_, rfl⟩
      have KX : Hid (∀ {A' : Option Addr} {c' : Nat} {z : World}, GV z A' n c' R → Calls Tryz.prog 201 #[.agg #[.int .i64 n, .slice A' n c']] z fun e w' => e = .returned (.int .i64 (X : Nat)) ∧ Below z.heap.size z w') := by rw [hX]; exact fun h => ChromaticNumber_sv h
      have KY : Hid (∀ {A' : Option Addr} {c' : Nat} {z : World}, GV z A' n c' R → Calls Tryz.prog 202 #[.agg #[.int .i64 n, .slice A' n c']] z fun e w' => e = .returned (.int .i64 (Y : Nat)) ∧ Below z.heap.size z w') := by rw [hY]; exact fun h => CliqueNumber_sv h
      rw [← hX, ← hY] at hp
      have Hp := Lib.hid hp
      have Hsm := Lib.hid hsm
      clear hR hn hX hY hp KI Hgv h0 hsm
      go_wp2_with fail
      refine (KI2.out).mono ?_
      rintro e w2 ⟨A2, c2, rfl, hg2, hb2⟩
      clear e0 e1
      replace HB := Lib.hid (HB.out.keep hb2)
      replace HG := Lib.hid (HG.out.keep hb2)
      replace HR := Lib.hid (HR.out.keep hb2)
      clear hb2
      have e0 := HG.out.c0
      have e1 := HG.out.c1
      clear KI2
      obtain ⟨W2, hW2⟩ : ∃ W2 : World, W2 = (w2.alloc (Obj.cells #[Value.int IntKind.i64 n, Value.slice A2 n c2] 29)) := ⟨_, rfl⟩
      have hb2 : Below w2.heap.size w2 W2 := by rw [hW2]; exact (Below.refl _ _).alloc (Nat.le_refl _) _
      have HU : Hid (GC W2 w2.heap.size n A2 n c2) := by rw [hW2]; exact GC.new _ _ _ _ _
      have HG2 : Hid (GV W2 A2 n c2 R) := hg2.keep hb2
      clear e0 e1
      replace HB := Lib.hid (HB.out.keep hb2)
      replace HG := Lib.hid (HG.out.keep hb2)
      replace HR := Lib.hid (HR.out.keep hb2)
      clear hg2
      have e0 := HG.out.c0
      have e1 := HG.out.c1
      have HW2 := Lib.hid hW2
      clear hW2 hb2
      have d0 := HU.out.c0
      have d1 := HU.out.c1
      have Hnext : Hid (pfB r k = false → ∀ u, u < k + 1 → pfB r u = false) := fun hp u hu => by
        by_cases huk : u < k
        · exact hall.out u huk
        · obtain rfl : u = k := by omega
          exact hp
      by_cases h5 : 5 ≤ n
      · have i2 : (5 : Int) ≤ (n : Int) := by omega
        by_cases hlt : Y < X
        · have i3 : (Y : Int) < (X : Int) := by omega
          have Hq : Hid (pfB r k = true) := by show _ = _; rw [Hp.out]; exact decide_eq_true hlt
          have Hn : Hid (pfO r m = some k) := lsK_yes (by assumption) Hq.out hall.out
          clear hlt
          go_wp2
          rw [← HW2.out]
          clear HW2
          have HSC : Hid (∀ z : World, Below W2.heap.size W2 z → (Below W2.heap.size W2 z ∧ z.cell? ⟨w2.heap.size, 0, none⟩ = some (.int .i64 n) ∧ z.cell? ⟨w2.heap.size, 1, none⟩ = some (.slice A2 n c2))) := fun z hz => ⟨hz, up_ hz d0, up_ hz d1⟩
          have HZ0 : Hid (Below W2.heap.size W2 W2.drew) := (Below.refl _ _).drew
          have HS1 := Lib.hid (HSC.out _ HZ0.out)
          have KR1 : Hid (∀ z : World, Below W2.heap.size W2 z → _) := fun z hz => KX.out (HG2.out.keep hz)
          have KR2 : Hid (∀ z : World, Below W2.heap.size W2 z → _) := fun z hz => KY.out (HG2.out.keep hz)
          refine wp_region_held_drew (S := fun z => Below W2.heap.size W2 z ∧ z.cell? ⟨w2.heap.size, 0, none⟩ = some (.int .i64 n) ∧ z.cell? ⟨w2.heap.size, 1, none⟩ = some (.slice A2 n c2)) (by kernel_rfl) HS1.out (fun hHeld => ?_)
          refine take_yes (i := 0) (d := 24) (v := ?v1) rfl rfl (by kernel_rfl) (by kernel_rfl) (by kernel_rfl) (fun _ _ _ h => h) (by rfl) ?y1 (by assumption) ?r1
          case y1 => (intro w hSw; (try dsimp only at hSw); go_simp <;> with_reducible rfl)
          simp only [Act.put, sl0, sl1, sl2]
          refine take_yes (i := 1) (d := 25) (v := ?v2) rfl rfl (by kernel_rfl) (by kernel_rfl) (by kernel_rfl) (fun _ _ _ h => h) (by rfl) ?y2 (by assumption) ?r2
          case y2 => (intro w hSw; (try dsimp only at hSw); go_simp <;> with_reducible rfl)
          simp only [Act.put, sl0, sl1, sl2]
          refine take_yes (i := 2) (d := 26) (v := ?v3) rfl rfl (by kernel_rfl) (by kernel_rfl) (by kernel_rfl) (fun _ _ _ h => h) (by rfl) ?y3 (by assumption) ?r3
          case y3 => (intro w hSw; (try dsimp only at hSw); go_simp <;> with_reducible rfl)
          simp only [Act.put, sl0, sl1, sl2]
          refine take_yes (i := 3) (d := 27) (v := ?v4) rfl rfl (by kernel_rfl) (by kernel_rfl) (by kernel_rfl) (fun _ _ _ h => h) (by rfl) ?y4 (by assumption) ?r4
          case y4 => (intro w hSw; (try dsimp only at hSw); go_simp <;> with_reducible rfl)
          simp only [Act.put, sl0, sl1, sl2]
          refine take_yes (i := 4) (d := 28) (v := ?v5) rfl rfl (by kernel_rfl) (by kernel_rfl) (by kernel_rfl) (fun _ _ _ h => h) (by rfl) ?y5 (by assumption) ?r5
          case y5 => (intro w hSw; (try dsimp only at hSw); go_simp <;> with_reducible rfl)
          simp only [Act.put, sl0, sl1, sl2]
          refine take_yes (i := 6) (d := 30) (v := ?v6) rfl rfl (by kernel_rfl) (by kernel_rfl) (by kernel_rfl) (fun _ _ _ h => h) (by rfl) ?y6 (by assumption) ?r6
          case y6 => (intro w hSw; (try dsimp only at hSw); go_simp <;> with_reducible rfl)
          simp only [Act.put, sl0, sl1, sl2]
          refine wpAnyH_ready (rs := [5]) (by kernel_rfl) (by simp) ?_
          refine AllReadyH.cons rfl (fun K hK => ?_) AllReadyH.nil
          go_simp
          go_at_call 201; refine (KR1.out _ HZ0.out).mono ?_
          rintro e w3 ⟨rfl, hb3⟩
          have hz3 := bl_trans HZ0.out hb3
          refine hK.out _ _ (HSC.out _ hz3) (fun hHeld => ?_)
          clear hK K
          try simp only [Act.put, sl0, sl1, sl2]
          refine wpAnyH_ready (rs := [7]) (by kernel_rfl) (by simp) ?_
          refine AllReadyH.cons rfl (fun K hK => ?_) AllReadyH.nil
          go_simp
          go_at_call 202; refine (KR2.out _ hz3).mono ?_
          rintro e w4 ⟨rfl, hb4⟩
          have hz4 := bl_trans hz3 hb4
          refine hK.out _ _ (HSC.out _ hz4) (fun hHeld => ?_)
          clear hK K
          try simp only [Act.put, sl0, sl1, sl2]
          refine take_yes (i := 8) (d := 32) (v := ?v7) rfl rfl (by kernel_rfl) (by kernel_rfl) (by kernel_rfl) (fun _ _ _ h => h) (by rfl) ?y7 (by assumption) ?r7
          case y7 => (intro w hSw; (try dsimp only at hSw); go_simp <;> with_reducible rfl)
          simp only [Act.put, sl0, sl1, sl2]
          refine take_yes (i := 9) (d := 33) (v := ?v8) rfl rfl (by kernel_rfl) (by kernel_rfl) (by kernel_rfl) (fun _ _ _ h => h) (by rfl) ?y8 (by assumption) ?r8
          case y8 => (intro w hSw; (try dsimp only at hSw); go_simp <;> with_reducible rfl)
          simp only [Act.put, sl0, sl1, sl2]
          refine wpAnyH_done (by kernel_rfl) ?_ _
          clear e0 e1
          replace HB := Lib.hid (HB.out.keep hz4)
          replace HG := Lib.hid (HG.out.keep hz4)
          replace HR := Lib.hid (HR.out.keep hz4)
          clear hb3 hz3 hb4 hz4 HSC HZ0 HS1 KR1 KR2
          have e0 := HG.out.c0
          have e1 := HG.out.c1
          go_wp2
          go_ret2
          exact ⟨by rw [Hn.out]; rfl, HB.out.below⟩
        · have i3 : (X : Int) ≤ (Y : Int) := by omega
          have Hq : Hid (∀ u, u < k + 1 → pfB r u = false) := Hnext.out (by rw [Hp.out]; exact decide_eq_false hlt)
          clear hlt
          go_wp2
          rw [← HW2.out]
          clear HW2
          have HSC : Hid (∀ z : World, Below W2.heap.size W2 z → (Below W2.heap.size W2 z ∧ z.cell? ⟨w2.heap.size, 0, none⟩ = some (.int .i64 n) ∧ z.cell? ⟨w2.heap.size, 1, none⟩ = some (.slice A2 n c2))) := fun z hz => ⟨hz, up_ hz d0, up_ hz d1⟩
          have HZ0 : Hid (Below W2.heap.size W2 W2.drew) := (Below.refl _ _).drew
          have HS1 := Lib.hid (HSC.out _ HZ0.out)
          have KR1 : Hid (∀ z : World, Below W2.heap.size W2 z → _) := fun z hz => KX.out (HG2.out.keep hz)
          have KR2 : Hid (∀ z : World, Below W2.heap.size W2 z → _) := fun z hz => KY.out (HG2.out.keep hz)
          refine wp_region_held_drew (S := fun z => Below W2.heap.size W2 z ∧ z.cell? ⟨w2.heap.size, 0, none⟩ = some (.int .i64 n) ∧ z.cell? ⟨w2.heap.size, 1, none⟩ = some (.slice A2 n c2)) (by kernel_rfl) HS1.out (fun hHeld => ?_)
          refine take_yes (i := 0) (d := 24) (v := ?v9) rfl rfl (by kernel_rfl) (by kernel_rfl) (by kernel_rfl) (fun _ _ _ h => h) (by rfl) ?y9 (by assumption) ?r9
          case y9 => (intro w hSw; (try dsimp only at hSw); go_simp <;> with_reducible rfl)
          simp only [Act.put, sl0, sl1, sl2]
          refine take_yes (i := 1) (d := 25) (v := ?v10) rfl rfl (by kernel_rfl) (by kernel_rfl) (by kernel_rfl) (fun _ _ _ h => h) (by rfl) ?y10 (by assumption) ?r10
          case y10 => (intro w hSw; (try dsimp only at hSw); go_simp <;> with_reducible rfl)
          simp only [Act.put, sl0, sl1, sl2]
          refine take_yes (i := 2) (d := 26) (v := ?v11) rfl rfl (by kernel_rfl) (by kernel_rfl) (by kernel_rfl) (fun _ _ _ h => h) (by rfl) ?y11 (by assumption) ?r11
          case y11 => (intro w hSw; (try dsimp only at hSw); go_simp <;> with_reducible rfl)
          simp only [Act.put, sl0, sl1, sl2]
          refine take_yes (i := 3) (d := 27) (v := ?v12) rfl rfl (by kernel_rfl) (by kernel_rfl) (by kernel_rfl) (fun _ _ _ h => h) (by rfl) ?y12 (by assumption) ?r12
          case y12 => (intro w hSw; (try dsimp only at hSw); go_simp <;> with_reducible rfl)
          simp only [Act.put, sl0, sl1, sl2]
          refine take_yes (i := 4) (d := 28) (v := ?v13) rfl rfl (by kernel_rfl) (by kernel_rfl) (by kernel_rfl) (fun _ _ _ h => h) (by rfl) ?y13 (by assumption) ?r13
          case y13 => (intro w hSw; (try dsimp only at hSw); go_simp <;> with_reducible rfl)
          simp only [Act.put, sl0, sl1, sl2]
          refine take_yes (i := 6) (d := 30) (v := ?v14) rfl rfl (by kernel_rfl) (by kernel_rfl) (by kernel_rfl) (fun _ _ _ h => h) (by rfl) ?y14 (by assumption) ?r14
          case y14 => (intro w hSw; (try dsimp only at hSw); go_simp <;> with_reducible rfl)
          simp only [Act.put, sl0, sl1, sl2]
          refine wpAnyH_ready (rs := [5]) (by kernel_rfl) (by simp) ?_
          refine AllReadyH.cons rfl (fun K hK => ?_) AllReadyH.nil
          go_simp
          go_at_call 201; refine (KR1.out _ HZ0.out).mono ?_
          rintro e w5 ⟨rfl, hb5⟩
          have hz5 := bl_trans HZ0.out hb5
          refine hK.out _ _ (HSC.out _ hz5) (fun hHeld => ?_)
          clear hK K
          try simp only [Act.put, sl0, sl1, sl2]
          refine wpAnyH_ready (rs := [7]) (by kernel_rfl) (by simp) ?_
          refine AllReadyH.cons rfl (fun K hK => ?_) AllReadyH.nil
          go_simp
          go_at_call 202; refine (KR2.out _ hz5).mono ?_
          rintro e w6 ⟨rfl, hb6⟩
          have hz6 := bl_trans hz5 hb6
          refine hK.out _ _ (HSC.out _ hz6) (fun hHeld => ?_)
          clear hK K
          try simp only [Act.put, sl0, sl1, sl2]
          refine take_yes (i := 8) (d := 32) (v := ?v15) rfl rfl (by kernel_rfl) (by kernel_rfl) (by kernel_rfl) (fun _ _ _ h => h) (by rfl) ?y15 (by assumption) ?r15
          case y15 => (intro w hSw; (try dsimp only at hSw); go_simp <;> with_reducible rfl)
          simp only [Act.put, sl0, sl1, sl2]
          refine take_yes (i := 9) (d := 33) (v := ?v16) rfl rfl (by kernel_rfl) (by kernel_rfl) (by kernel_rfl) (fun _ _ _ h => h) (by rfl) ?y16 (by assumption) ?r16
          case y16 => (intro w hSw; (try dsimp only at hSw); go_simp <;> with_reducible rfl)
          simp only [Act.put, sl0, sl1, sl2]
          refine wpAnyH_done (by kernel_rfl) ?_ _
          clear e0 e1
          replace HB := Lib.hid (HB.out.keep hz6)
          replace HG := Lib.hid (HG.out.keep hz6)
          replace HR := Lib.hid (HR.out.keep hz6)
          clear hb5 hz5 hb6 hz6 HSC HZ0 HS1 KR1 KR2
          have e0 := HG.out.c0
          have e1 := HG.out.c1
          go_wp2
          go_roundw
          case rel => exact ⟨k + 1, by omega, by omega, by go_num, Hq, HR⟩
          case measure => simp [intOf]; omega
      · have i2 : (n : Int) < 5 := by omega
        have i3 : decide ((5 : Int) ≤ (n : Int)) = false := by rw [decide_eq_false]; omega
        have Hq : Hid (∀ u, u < k + 1 → pfB r u = false) := Hnext.out (Hsm.out (by omega))
        go_wp2
        rw [← HW2.out]
        clear HW2
        have HSC : Hid (∀ z : World, Below W2.heap.size W2 z → (Below W2.heap.size W2 z ∧ z.cell? ⟨w2.heap.size, 0, none⟩ = some (.int .i64 n) ∧ z.cell? ⟨w2.heap.size, 1, none⟩ = some (.slice A2 n c2))) := fun z hz => ⟨hz, up_ hz d0, up_ hz d1⟩
        have HZ0 : Hid (Below W2.heap.size W2 W2.drew) := (Below.refl _ _).drew
        have HS1 := Lib.hid (HSC.out _ HZ0.out)
        refine wp_region_held_drew (S := fun z => Below W2.heap.size W2 z ∧ z.cell? ⟨w2.heap.size, 0, none⟩ = some (.int .i64 n) ∧ z.cell? ⟨w2.heap.size, 1, none⟩ = some (.slice A2 n c2)) (by kernel_rfl) HS1.out (fun hHeld => ?_)
        refine take_yes (i := 0) (d := 24) (v := ?v17) rfl rfl (by kernel_rfl) (by kernel_rfl) (by kernel_rfl) (fun _ _ _ h => h) (by rfl) ?y17 (by assumption) ?r17
        case y17 => (intro w hSw; (try dsimp only at hSw); go_simp <;> with_reducible rfl)
        simp only [Act.put, sl0, sl1, sl2]
        refine take_yes (i := 1) (d := 25) (v := ?v18) rfl rfl (by kernel_rfl) (by kernel_rfl) (by kernel_rfl) (fun _ _ _ h => h) (by rfl) ?y18 (by assumption) ?r18
        case y18 => (intro w hSw; (try dsimp only at hSw); go_simp <;> with_reducible rfl)
        simp only [Act.put, sl0, sl1, sl2]
        refine take_yes (i := 2) (d := 26) (v := ?v19) rfl rfl (by kernel_rfl) (by kernel_rfl) (by kernel_rfl) (fun _ _ _ h => h) (by rfl) ?y19 (by assumption) ?r19
        case y19 => (intro w hSw; (try dsimp only at hSw); go_simp <;> with_reducible rfl)
        simp only [Act.put, sl0, sl1, sl2]
        refine take_yes (i := 3) (d := 27) (v := ?v20) rfl rfl (by kernel_rfl) (by kernel_rfl) (by kernel_rfl) (fun _ _ _ h => h) (by rfl) ?y20 (by assumption) ?r20
        case y20 => (intro w hSw; (try dsimp only at hSw); go_simp <;> with_reducible rfl)
        simp only [Act.put, sl0, sl1, sl2]
        refine take_no (i := 4) (d := 28) rfl rfl (by kernel_rfl) (by kernel_rfl) (by kernel_rfl) (fun _ _ _ h => h) (by rfl) (by assumption) ?_
        simp only [Act.put, sl0, sl1, sl2]
        refine take_no (i := 5) (d := 29) rfl rfl (by kernel_rfl) (by kernel_rfl) (by kernel_rfl) (fun _ _ _ h => h) (by rfl) (by assumption) ?_
        simp only [Act.put, sl0, sl1, sl2]
        refine take_no (i := 6) (d := 30) rfl rfl (by kernel_rfl) (by kernel_rfl) (by kernel_rfl) (fun _ _ _ h => h) (by rfl) (by assumption) ?_
        simp only [Act.put, sl0, sl1, sl2]
        refine take_no (i := 7) (d := 31) rfl rfl (by kernel_rfl) (by kernel_rfl) (by kernel_rfl) (fun _ _ _ h => h) (by rfl) (by assumption) ?_
        simp only [Act.put, sl0, sl1, sl2]
        refine take_no (i := 8) (d := 32) rfl rfl (by kernel_rfl) (by kernel_rfl) (by kernel_rfl) (fun _ _ _ h => h) (by rfl) (by assumption) ?_
        simp only [Act.put, sl0, sl1, sl2]
        refine take_yes (i := 9) (d := 33) (v := ?v21) rfl rfl (by kernel_rfl) (by kernel_rfl) (by kernel_rfl) (fun _ _ _ h => h) (by rfl) ?y21 (by assumption) ?r21
        case y21 => (intro w hSw; (try dsimp only at hSw); go_simp <;> with_reducible rfl)
        simp only [Act.put, sl0, sl1, sl2]
        refine wpAnyH_done (by kernel_rfl) ?_ _
        clear e0 e1
        replace HB := Lib.hid (HB.out.keep HZ0.out)
        replace HG := Lib.hid (HG.out.keep HZ0.out)
        replace HR := Lib.hid (HR.out.keep HZ0.out)
        clear HSC HZ0 HS1
        have e0 := HG.out.c0
        have e1 := HG.out.c1
        go_wp2
        go_roundw
        case rel => exact ⟨k + 1, by omega, by omega, by go_num, Hq, HR⟩
        case measure => simp [intOf]; omega
    · have Hn : Hid (pfO r m = none) := lsK_no fun u hu => hall.out u (by omega)
      have i1 : (2 : Int) ^ m ≤ (k : Int) := by omega
      go_wp2
      go_ret2
      exact ⟨by rw [Hn.out]; rfl, HB.out.below⟩
end
section
variable (sz : Int) (A : Option Addr) (m c : Nat) (x : Nat → Int) (w : World)
set_option maxHeartbeats 1000000 in
theorem LeastImperfect_sno (h : GA w A m c x) (hm : m ≤ 1048576) (hok : okB sz m x = false) :
    Calls Tryz.prog 145 #[.agg #[.int .i64 sz, .slice A m c]] w fun e w' => e = .returned (lsV none) ∧ Below w.heap.size w w' := by
  obtain ⟨W, hW⟩ : ∃ W : World, W = (w.alloc (Obj.cells #[Value.int IntKind.i64 sz, Value.slice A m c] 29)) := ⟨_, rfl⟩
  have HB : Hid (From w W) := by rw [hW]; exact From.alloc _ _
  have HK := Lib.hid (h.keep HB.out.below)
  have HC : Hid (GC W w.heap.size sz A m c) := by rw [hW]; exact GC.new _ _ _ _ _
  have HW := Lib.hid hW
  have Ho := Lib.hid hok
  clear hW h hok
  go_enter Tryz.func145, Tryz.ntmps145
  go_wp2_with fail
  rw [← HW.out]
  clear HW
  go_wp2
  go_loopw [4] (fun i wr => i = .int .i64 1 ∧ wr = W) (fun i _ => 1)
  case atStart => exact ⟨rfl, rfl⟩
  case round =>
    obtain ⟨rfl, rfl⟩ := hrel
    have e0 := HC.out.c0
    have e1 := HC.out.c1
    go_wp2_with fail
    refine (IsGraph_sany sz A m c x wr wr.heap.size HK.out.rd (Nat.le_refl _) hm).mono ?_
    rintro e w1 ⟨rfl, hb1⟩
    rw [Ho.out]
    replace HB := Lib.hid (HB.out.keep hb1)
    clear hb1
    go_wp2
    go_ret2
    exact ⟨rfl, HB.out.below⟩
set_option maxRecDepth 100000 in
set_option maxHeartbeats 1600000 in
theorem IsPerfect_s (h : GA w A m c x) (hm : m ≤ 1048576) :
    Calls Tryz.prog 81 #[.agg #[.int .i64 sz, .slice A m c]] w fun e w' => e = .returned (.bool (peB sz m x)) ∧ Below w.heap.size w w' := by
  obtain ⟨W, hW⟩ : ∃ W : World, W = (w.alloc (Obj.cells #[Value.int IntKind.i64 sz, Value.slice A m c] 29)) := ⟨_, rfl⟩
  have HB : Hid (From w W) := by rw [hW]; exact From.alloc _ _
  have HK := Lib.hid (h.keep HB.out.below)
  have HC : Hid (GC W w.heap.size sz A m c) := by rw [hW]; exact GC.new _ _ _ _ _
  have HW := Lib.hid hW
  clear hW h
  go_enter Tryz.func81, Tryz.ntmps81
  cases ho : okB sz m x
  · have Hn : Hid (peB sz m x = false) := peB_no ho
    have KF := Lib.hid (LeastImperfect_sno sz A m c x W HK.out hm ho)
    have Ho := Lib.hid ho
    clear ho
    have e0 := HC.out.c0
    have e1 := HC.out.c1
    go_wp2_with fail
    rw [← HW.out]
    refine (KF.out).mono ?_
    rintro e w1 ⟨rfl, hb1⟩
    clear HW
    clear e0 e1
    replace HB := Lib.hid (HB.out.keep hb1)
    replace HK := Lib.hid (HK.out.keep hb1)
    replace HC := Lib.hid (HC.out.keep hb1)
    clear hb1
    have e0 := HC.out.c0
    have e1 := HC.out.c1
    clear KF
    rw [lsV_none]
    go_wp2_with fail
    refine (IsGraph_sany sz A m c x w1 w1.heap.size HK.out.rd (Nat.le_refl _) hm).mono ?_
    rintro e w2 ⟨rfl, hb2⟩
    rw [Ho.out]
    clear e0 e1
    replace HB := Lib.hid (HB.out.keep hb2)
    replace HK := Lib.hid (HK.out.keep hb2)
    replace HC := Lib.hid (HC.out.keep hb2)
    clear hb2
    have e0 := HC.out.c0
    have e1 := HC.out.c1
    go_wp2
    go_ret
    exact ⟨ret_bool Hn.out.symm, HB.out.below⟩
  obtain ⟨_, es, _, _⟩ := okB_ok' ho
  subst es
  have Hn : Hid (peB (m : Int) m x = !(pfO (rw_ x) m).isSome) := peB_yes ho
  have HG : Hid (GBox W w.heap.size A m c (rw_ x)) := ⟨HK.out.gv ho, HC.out.c0, HC.out.c1, HC.out.lt⟩
  have KF := Lib.hid (LeastImperfect_sv HG.out.gv)
  obtain ⟨o, ho2⟩ : ∃ o, o = pfO (rw_ x) m := ⟨_, rfl⟩
  rw [← ho2] at Hn KF
  clear ho ho2 HC HK
  cases o
  · skip
    have e0 := HG.out.c0
    have e1 := HG.out.c1
    go_wp2_with fail
    rw [← HW.out]
    refine (KF.out).mono ?_
    rintro e w2 ⟨rfl, hb2⟩
    clear HW
    clear e0 e1
    replace HB := Lib.hid (HB.out.keep hb2)
    replace HG := Lib.hid (HG.out.keep hb2)
    clear hb2
    have e0 := HG.out.c0
    have e1 := HG.out.c1
    clear KF
    rw [lsV_none]
    go_wp2_with fail
    refine (IsGraph_sv HG.out.gv).mono ?_
    rintro e w3 ⟨rfl, hb3⟩
    clear e0 e1
    replace HB := Lib.hid (HB.out.keep hb3)
    replace HG := Lib.hid (HG.out.keep hb3)
    clear hb3
    have e0 := HG.out.c0
    have e1 := HG.out.c1
    go_wp2
    go_ret
    exact ⟨ret_bool Hn.out.symm, HB.out.below⟩
  · skip
    have e0 := HG.out.c0
    have e1 := HG.out.c1
    go_wp2_with fail
    rw [← HW.out]
    refine (KF.out).mono ?_
    rintro e w4 ⟨rfl, hb4⟩
    clear HW
    clear e0 e1
    replace HB := Lib.hid (HB.out.keep hb4)
    replace HG := Lib.hid (HG.out.keep hb4)
    clear hb4
    have e0 := HG.out.c0
    have e1 := HG.out.c1
    clear KF
    rw [lsV_some]
    go_wp2_with fail
    refine (IsGraph_sv HG.out.gv).mono ?_
    rintro e w5 ⟨rfl, hb5⟩
    clear e0 e1
    replace HB := Lib.hid (HB.out.keep hb5)
    replace HG := Lib.hid (HG.out.keep hb5)
    clear hb5
    have e0 := HG.out.c0
    have e1 := HG.out.c1
    go_wp2
    go_ret
    exact ⟨ret_bool Hn.out.symm, HB.out.below⟩
end
end Go.Proofs.YtppkokgiojcgbaaGreatDoor
