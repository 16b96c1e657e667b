/-
  Contract: are two lists those of intervals? The reference's test.
-/
import Derived.Test.YtncjfgebolikoaaQsGivP
namespace Go.Proofs.Ytncjfgebolikoaa
open Go.RowKit

set_option maxRecDepth 100000 in
set_option maxHeartbeats 3200000 in
theorem IsModel_s (Al : Option Addr) (n cl : Nat) (L : List Int) (Ar : Option Addr) (k cr : Nat) (R : List Int) (w : World) (hl : LI w Al n cl L) (hr : LI w Ar k cr R) (hnb : n ≤ 1048576) :
    Calls Try.prog 74 #[.agg #[.slice Al n cl, .slice Ar k cr]] w fun e w' => e = .returned (.bool (imB L R)) ∧ Below w.heap.size w w' := by
  obtain ⟨W, hW⟩ : ∃ W : World, W = (w.alloc (Obj.cells #[Value.slice Al n cl, Value.slice Ar k cr] 54)) := ⟨_, rfl⟩
  have HB : Hid (From w W) := by rw [hW]; exact From.alloc _ _
  have HL := Lib.hid (hl.keep HB.out.below)
  have HR := Lib.hid (hr.keep HB.out.below)
  have HI : Hid (IB W w.heap.size Al n cl Ar k cr) := by rw [hW]; constructor <;> simp [go_sem]
  have HW := Lib.hid hW
  have HN := Lib.hid hl.len
  have HK := Lib.hid hr.len
  have HR0 : Hid (From W W) := From.refl W
  have hlt := HI.out.lt
  have e0 := HI.out.c0
  have e1 := HI.out.c1
  clear hW hl hr
  go_enter Try.func74, Try.ntmps74
  go_wp2_with fail
  rw [← HW.out]
  clear HW
  go_wp2
  clear e0 e1
  go_loopw [3] (fun iv wr => ∃ i : Nat, i ≤ n ∧ i ≤ k ∧ iv = .int .i64 i ∧ Hid (Im1 L R i) ∧ Hid (From W wr)) (fun iv _ => n - (intOf iv).toNat)
  case atStart => exact ⟨0, Nat.zero_le _, Nat.zero_le _, rfl, Im1.zero, HR0⟩
  case round =>
    clear HR0
    obtain ⟨i, hi, hik2, rfl, H1, HF⟩ := hrel
    have HBr := Lib.hid (HB.out.up HF.out)
    have HIr := Lib.hid (HI.out.keep HF.out.below)
    have e0 := HIr.out.c0
    have e1 := HIr.out.c1
    by_cases hin : i < n ∧ i < k
    · obtain ⟨hik, hir⟩ := hin
      have i1 : (i : Int) < (n : Int) := by omega
      have i2 : (i : Int) < (k : Int) := by omega
      have HLr := Lib.hid (HL.out.keep HF.out.below)
      have HRr := Lib.hid (HR.out.keep HF.out.below)
      obtain ⟨bl, ol, rfl⟩ := HLr.out.addr (by omega)
      obtain ⟨br, or_, rfl⟩ := HRr.out.addr (by omega)
      have p0 := HLr.out.at hik
      have p1 := HRr.out.at hir
      have hno := fun h => im_no (L := L) (R := R) (k := i) (by rw [← HN.out]; exact hik) h
      have hst := fun h => H1.out.step (L := L) (R := R) (k := i) h
      obtain ⟨a, ha⟩ : ∃ a : Int, a = L.getD i 0 := ⟨_, rfl⟩
      obtain ⟨b, hb⟩ : ∃ b : Int, b = R.getD i 0 := ⟨_, rfl⟩
      rw [← ha] at p0 hno hst
      rw [← hb] at p1 hno hst
      clear ha hb
      by_cases h0 : 0 ≤ a ∧ a ≤ 99
      rotate_left
      · have Hn : Hid (imB L R = false) := hno (by omega)
        have K1 : Hid (∀ z : World, Calls Try.prog 59 #[.int .i64 a, .int .i64 0, .int .i64 99] z fun e w' => e = .returned (.bool false) ∧ Below z.heap.size z w') := fun z => l1In_b z (decide_eq_false h0)
        clear hno hst h0
        go_wp2
        have HSC : Hid (∀ z : World, Below wr.heap.size wr z → (Below wr.heap.size wr z ∧ z.cell? ⟨w.heap.size, 0, none⟩ = some (.slice (some ⟨bl, ol, none⟩) n cl) ∧ z.cell? ⟨w.heap.size, 1, none⟩ = some (.slice (some ⟨br, or_, none⟩) k cr) ∧ z.cell? ⟨bl, ol + i, none⟩ = some (.int .i64 a) ∧ z.cell? ⟨br, or_ + i, none⟩ = some (.int .i64 b))) := fun z hz => ⟨hz, up_ hz e0, up_ hz e1, up_ hz p0, up_ hz p1⟩
        have HZ0 : Hid (Below wr.heap.size wr wr.drew) := (Below.refl _ _).drew
        have HS1 := Lib.hid (HSC.out _ HZ0.out)
        have KR1 : Hid (∀ z : World, Below wr.heap.size wr z → _) := fun z hz => K1.out z
        refine wp_region_held_drew (S := fun z => Below wr.heap.size wr z ∧ z.cell? ⟨w.heap.size, 0, none⟩ = some (.slice (some ⟨bl, ol, none⟩) n cl) ∧ z.cell? ⟨w.heap.size, 1, none⟩ = some (.slice (some ⟨br, or_, none⟩) k cr) ∧ z.cell? ⟨bl, ol + i, none⟩ = some (.int .i64 a) ∧ z.cell? ⟨br, or_ + i, none⟩ = some (.int .i64 b)) (by kernel_rfl) HS1.out (fun hHeld => ?_)
        refine take_yes (i := 0) (d := 18) (v := ?v1) rfl rfl (by kernel_rfl) (by kernel_rfl) (by kernel_rfl) (fun _ _ _ h => h) (by rfl) ?y1 (by assumption) ?r1
        case y1 => (intro w hSw; (try dsimp only at hSw); go_simp <;> with_reducible rfl)
        simp only [Act.put, sl0, sl1, sl2]
        refine take_yes (i := 1) (d := 19) (v := ?v2) rfl rfl (by kernel_rfl) (by kernel_rfl) (by kernel_rfl) (fun _ _ _ h => h) (by rfl) ?y2 (by assumption) ?r2
        case y2 => (intro w hSw; (try dsimp only at hSw); go_simp <;> with_reducible rfl)
        simp only [Act.put, sl0, sl1, sl2]
        refine take_yes (i := 2) (d := 20) (v := ?v3) rfl rfl (by kernel_rfl) (by kernel_rfl) (by kernel_rfl) (fun _ _ _ h => h) (by rfl) ?y3 (by assumption) ?r3
        case y3 => (intro w hSw; (try dsimp only at hSw); go_simp <;> with_reducible rfl)
        simp only [Act.put, sl0, sl1, sl2]
        refine take_yes (i := 3) (d := 21) (v := ?v4) rfl rfl (by kernel_rfl) (by kernel_rfl) (by kernel_rfl) (fun _ _ _ h => h) (by rfl) ?y4 (by assumption) ?r4
        case y4 => (intro w hSw; (try dsimp only at hSw); go_simp <;> with_reducible rfl)
        simp only [Act.put, sl0, sl1, sl2]
        refine take_yes (i := 4) (d := 22) (v := ?v5) rfl rfl (by kernel_rfl) (by kernel_rfl) (by kernel_rfl) (fun _ _ _ h => h) (by rfl) ?y5 (by assumption) ?r5
        case y5 => (intro w hSw; (try dsimp only at hSw); go_simp <;> with_reducible rfl)
        simp only [Act.put, sl0, sl1, sl2]
        refine wpAnyH_ready (rs := [5]) (by kernel_rfl) (by simp) ?_
        refine AllReadyH.cons rfl (fun K hK => ?_) AllReadyH.nil
        go_simp
        go_at_call 59; refine (KR1.out _ HZ0.out).mono ?_
        rintro e w1 ⟨rfl, hb1⟩
        have hz1 := bl_trans HZ0.out hb1
        refine hK.out _ _ (HSC.out _ hz1) (fun hHeld => ?_)
        clear hK K
        try simp only [Act.put, sl0, sl1, sl2]
        refine take_yes (i := 6) (d := 24) (v := ?v6) rfl rfl (by kernel_rfl) (by kernel_rfl) (by kernel_rfl) (fun _ _ _ h => h) (by rfl) ?y6 (by assumption) ?r6
        case y6 => (intro w hSw; (try dsimp only at hSw); go_simp <;> with_reducible rfl)
        simp only [Act.put, sl0, sl1, sl2]
        refine take_yes (i := 7) (d := 25) (v := ?v7) rfl rfl (by kernel_rfl) (by kernel_rfl) (by kernel_rfl) (fun _ _ _ h => h) (by rfl) ?y7 (by assumption) ?r7
        case y7 => (intro w hSw; (try dsimp only at hSw); go_simp <;> with_reducible rfl)
        simp only [Act.put, sl0, sl1, sl2]
        refine take_no (i := 8) (d := 26) rfl rfl (by kernel_rfl) (by kernel_rfl) (by kernel_rfl) (fun _ _ _ h => h) (by rfl) (by assumption) ?_
        simp only [Act.put, sl0, sl1, sl2]
        refine take_no (i := 9) (d := 27) rfl rfl (by kernel_rfl) (by kernel_rfl) (by kernel_rfl) (fun _ _ _ h => h) (by rfl) (by assumption) ?_
        simp only [Act.put, sl0, sl1, sl2]
        refine take_no (i := 10) (d := 28) rfl rfl (by kernel_rfl) (by kernel_rfl) (by kernel_rfl) (fun _ _ _ h => h) (by rfl) (by assumption) ?_
        simp only [Act.put, sl0, sl1, sl2]
        refine take_no (i := 11) (d := 29) rfl rfl (by kernel_rfl) (by kernel_rfl) (by kernel_rfl) (fun _ _ _ h => h) (by rfl) (by assumption) ?_
        simp only [Act.put, sl0, sl1, sl2]
        refine take_no (i := 12) (d := 30) rfl rfl (by kernel_rfl) (by kernel_rfl) (by kernel_rfl) (fun _ _ _ h => h) (by rfl) (by assumption) ?_
        simp only [Act.put, sl0, sl1, sl2]
        refine take_no (i := 13) (d := 31) rfl rfl (by kernel_rfl) (by kernel_rfl) (by kernel_rfl) (fun _ _ _ h => h) (by rfl) (by assumption) ?_
        simp only [Act.put, sl0, sl1, sl2]
        refine take_no (i := 14) (d := 32) rfl rfl (by kernel_rfl) (by kernel_rfl) (by kernel_rfl) (fun _ _ _ h => h) (by rfl) (by assumption) ?_
        simp only [Act.put, sl0, sl1, sl2]
        refine take_no (i := 15) (d := 33) rfl rfl (by kernel_rfl) (by kernel_rfl) (by kernel_rfl) (fun _ _ _ h => h) (by rfl) (by assumption) ?_
        simp only [Act.put, sl0, sl1, sl2]
        refine take_no (i := 16) (d := 34) rfl rfl (by kernel_rfl) (by kernel_rfl) (by kernel_rfl) (fun _ _ _ h => h) (by rfl) (by assumption) ?_
        simp only [Act.put, sl0, sl1, sl2]
        refine take_no (i := 17) (d := 35) rfl rfl (by kernel_rfl) (by kernel_rfl) (by kernel_rfl) (fun _ _ _ h => h) (by rfl) (by assumption) ?_
        simp only [Act.put, sl0, sl1, sl2]
        refine take_no (i := 18) (d := 36) rfl rfl (by kernel_rfl) (by kernel_rfl) (by kernel_rfl) (fun _ _ _ h => h) (by rfl) (by assumption) ?_
        simp only [Act.put, sl0, sl1, sl2]
        refine take_no (i := 19) (d := 37) rfl rfl (by kernel_rfl) (by kernel_rfl) (by kernel_rfl) (fun _ _ _ h => h) (by rfl) (by assumption) ?_
        simp only [Act.put, sl0, sl1, sl2]
        refine take_yes (i := 20) (d := 38) (v := ?v8) rfl rfl (by kernel_rfl) (by kernel_rfl) (by kernel_rfl) (fun _ _ _ h => h) (by rfl) ?y8 (by assumption) ?r8
        case y8 => (intro w hSw; (try dsimp only at hSw); go_simp <;> with_reducible rfl)
        simp only [Act.put, sl0, sl1, sl2]
        refine wpAnyH_done (by kernel_rfl) ?_ _
        replace HBr := Lib.hid (HBr.out.keep hz1)
        replace HF := Lib.hid (HF.out.keep hz1)
        clear hb1 hz1 HSC HZ0 HS1 KR1
        go_wp2
        go_ret
        exact ⟨ret_bool Hn.out.symm, HBr.out.below⟩
      have K1 : Hid (∀ z : World, Calls Try.prog 59 #[.int .i64 a, .int .i64 0, .int .i64 99] z fun e w' => e = .returned (.bool true) ∧ Below z.heap.size z w') := fun z => l1In_b z (decide_eq_true h0)
      by_cases h1 : a ≤ b ∧ b ≤ 99
      rotate_left
      · have Hn : Hid (imB L R = false) := hno (by omega)
        have K2 : Hid (∀ z : World, Calls Try.prog 59 #[.int .i64 b, .int .i64 a, .int .i64 99] z fun e w' => e = .returned (.bool false) ∧ Below z.heap.size z w') := fun z => l1In_b z (decide_eq_false h1)
        clear hno hst h0 h1
        go_wp2
        have HSC : Hid (∀ z : World, Below wr.heap.size wr z → (Below wr.heap.size wr z ∧ z.cell? ⟨w.heap.size, 0, none⟩ = some (.slice (some ⟨bl, ol, none⟩) n cl) ∧ z.cell? ⟨w.heap.size, 1, none⟩ = some (.slice (some ⟨br, or_, none⟩) k cr) ∧ z.cell? ⟨bl, ol + i, none⟩ = some (.int .i64 a) ∧ z.cell? ⟨br, or_ + i, none⟩ = some (.int .i64 b))) := fun z hz => ⟨hz, up_ hz e0, up_ hz e1, up_ hz p0, up_ hz p1⟩
        have HZ0 : Hid (Below wr.heap.size wr wr.drew) := (Below.refl _ _).drew
        have HS1 := Lib.hid (HSC.out _ HZ0.out)
        have KR1 : Hid (∀ z : World, Below wr.heap.size wr z → _) := fun z hz => K1.out z
        have KR2 : Hid (∀ z : World, Below wr.heap.size wr z → _) := fun z hz => K2.out z
        refine wp_region_held_drew (S := fun z => Below wr.heap.size wr z ∧ z.cell? ⟨w.heap.size, 0, none⟩ = some (.slice (some ⟨bl, ol, none⟩) n cl) ∧ z.cell? ⟨w.heap.size, 1, none⟩ = some (.slice (some ⟨br, or_, none⟩) k cr) ∧ z.cell? ⟨bl, ol + i, none⟩ = some (.int .i64 a) ∧ z.cell? ⟨br, or_ + i, none⟩ = some (.int .i64 b)) (by kernel_rfl) HS1.out (fun hHeld => ?_)
        refine take_yes (i := 0) (d := 18) (v := ?v9) rfl rfl (by kernel_rfl) (by kernel_rfl) (by kernel_rfl) (fun _ _ _ h => h) (by rfl) ?y9 (by assumption) ?r9
        case y9 => (intro w hSw; (try dsimp only at hSw); go_simp <;> with_reducible rfl)
        simp only [Act.put, sl0, sl1, sl2]
        refine take_yes (i := 1) (d := 19) (v := ?v10) rfl rfl (by kernel_rfl) (by kernel_rfl) (by kernel_rfl) (fun _ _ _ h => h) (by rfl) ?y10 (by assumption) ?r10
        case y10 => (intro w hSw; (try dsimp only at hSw); go_simp <;> with_reducible rfl)
        simp only [Act.put, sl0, sl1, sl2]
        refine take_yes (i := 2) (d := 20) (v := ?v11) rfl rfl (by kernel_rfl) (by kernel_rfl) (by kernel_rfl) (fun _ _ _ h => h) (by rfl) ?y11 (by assumption) ?r11
        case y11 => (intro w hSw; (try dsimp only at hSw); go_simp <;> with_reducible rfl)
        simp only [Act.put, sl0, sl1, sl2]
        refine take_yes (i := 3) (d := 21) (v := ?v12) rfl rfl (by kernel_rfl) (by kernel_rfl) (by kernel_rfl) (fun _ _ _ h => h) (by rfl) ?y12 (by assumption) ?r12
        case y12 => (intro w hSw; (try dsimp only at hSw); go_simp <;> with_reducible rfl)
        simp only [Act.put, sl0, sl1, sl2]
        refine take_yes (i := 4) (d := 22) (v := ?v13) rfl rfl (by kernel_rfl) (by kernel_rfl) (by kernel_rfl) (fun _ _ _ h => h) (by rfl) ?y13 (by assumption) ?r13
        case y13 => (intro w hSw; (try dsimp only at hSw); go_simp <;> with_reducible rfl)
        simp only [Act.put, sl0, sl1, sl2]
        refine wpAnyH_ready (rs := [5]) (by kernel_rfl) (by simp) ?_
        refine AllReadyH.cons rfl (fun K hK => ?_) AllReadyH.nil
        go_simp
        go_at_call 59; refine (KR1.out _ HZ0.out).mono ?_
        rintro e w2 ⟨rfl, hb2⟩
        have hz2 := bl_trans HZ0.out hb2
        refine hK.out _ _ (HSC.out _ hz2) (fun hHeld => ?_)
        clear hK K
        try simp only [Act.put, sl0, sl1, sl2]
        refine take_yes (i := 6) (d := 24) (v := ?v14) rfl rfl (by kernel_rfl) (by kernel_rfl) (by kernel_rfl) (fun _ _ _ h => h) (by rfl) ?y14 (by assumption) ?r14
        case y14 => (intro w hSw; (try dsimp only at hSw); go_simp <;> with_reducible rfl)
        simp only [Act.put, sl0, sl1, sl2]
        refine take_yes (i := 7) (d := 25) (v := ?v15) rfl rfl (by kernel_rfl) (by kernel_rfl) (by kernel_rfl) (fun _ _ _ h => h) (by rfl) ?y15 (by assumption) ?r15
        case y15 => (intro w hSw; (try dsimp only at hSw); go_simp <;> with_reducible rfl)
        simp only [Act.put, sl0, sl1, sl2]
        refine take_yes (i := 8) (d := 26) (v := ?v16) rfl rfl (by kernel_rfl) (by kernel_rfl) (by kernel_rfl) (fun _ _ _ h => h) (by rfl) ?y16 (by assumption) ?r16
        case y16 => (intro w hSw; (try dsimp only at hSw); go_simp <;> with_reducible rfl)
        simp only [Act.put, sl0, sl1, sl2]
        refine take_yes (i := 9) (d := 27) (v := ?v17) rfl rfl (by kernel_rfl) (by kernel_rfl) (by kernel_rfl) (fun _ _ _ h => h) (by rfl) ?y17 (by assumption) ?r17
        case y17 => (intro w hSw; (try dsimp only at hSw); go_simp <;> with_reducible rfl)
        simp only [Act.put, sl0, sl1, sl2]
        refine take_yes (i := 10) (d := 28) (v := ?v18) rfl rfl (by kernel_rfl) (by kernel_rfl) (by kernel_rfl) (fun _ _ _ h => h) (by rfl) ?y18 (by assumption) ?r18
        case y18 => (intro w hSw; (try dsimp only at hSw); go_simp <;> with_reducible rfl)
        simp only [Act.put, sl0, sl1, sl2]
        refine take_yes (i := 11) (d := 29) (v := ?v19) rfl rfl (by kernel_rfl) (by kernel_rfl) (by kernel_rfl) (fun _ _ _ h => h) (by rfl) ?y19 (by assumption) ?r19
        case y19 => (intro w hSw; (try dsimp only at hSw); go_simp <;> with_reducible rfl)
        simp only [Act.put, sl0, sl1, sl2]
        refine take_yes (i := 12) (d := 30) (v := ?v20) rfl rfl (by kernel_rfl) (by kernel_rfl) (by kernel_rfl) (fun _ _ _ h => h) (by rfl) ?y20 (by assumption) ?r20
        case y20 => (intro w hSw; (try dsimp only at hSw); go_simp <;> with_reducible rfl)
        simp only [Act.put, sl0, sl1, sl2]
        refine take_yes (i := 13) (d := 31) (v := ?v21) rfl rfl (by kernel_rfl) (by kernel_rfl) (by kernel_rfl) (fun _ _ _ h => h) (by rfl) ?y21 (by assumption) ?r21
        case y21 => (intro w hSw; (try dsimp only at hSw); go_simp <;> with_reducible rfl)
        simp only [Act.put, sl0, sl1, sl2]
        refine take_yes (i := 14) (d := 32) (v := ?v22) rfl rfl (by kernel_rfl) (by kernel_rfl) (by kernel_rfl) (fun _ _ _ h => h) (by rfl) ?y22 (by assumption) ?r22
        case y22 => (intro w hSw; (try dsimp only at hSw); go_simp <;> with_reducible rfl)
        simp only [Act.put, sl0, sl1, sl2]
        refine take_yes (i := 15) (d := 33) (v := ?v23) rfl rfl (by kernel_rfl) (by kernel_rfl) (by kernel_rfl) (fun _ _ _ h => h) (by rfl) ?y23 (by assumption) ?r23
        case y23 => (intro w hSw; (try dsimp only at hSw); go_simp <;> with_reducible rfl)
        simp only [Act.put, sl0, sl1, sl2]
        refine take_yes (i := 16) (d := 34) (v := ?v24) rfl rfl (by kernel_rfl) (by kernel_rfl) (by kernel_rfl) (fun _ _ _ h => h) (by rfl) ?y24 (by assumption) ?r24
        case y24 => (intro w hSw; (try dsimp only at hSw); go_simp <;> with_reducible rfl)
        simp only [Act.put, sl0, sl1, sl2]
        refine take_yes (i := 17) (d := 35) (v := ?v25) rfl rfl (by kernel_rfl) (by kernel_rfl) (by kernel_rfl) (fun _ _ _ h => h) (by rfl) ?y25 (by assumption) ?r25
        case y25 => (intro w hSw; (try dsimp only at hSw); go_simp <;> with_reducible rfl)
        simp only [Act.put, sl0, sl1, sl2]
        refine wpAnyH_ready (rs := [18]) (by kernel_rfl) (by simp) ?_
        refine AllReadyH.cons rfl (fun K hK => ?_) AllReadyH.nil
        go_simp
        go_at_call 59; refine (KR2.out _ hz2).mono ?_
        rintro e w3 ⟨rfl, hb3⟩
        have hz3 := bl_trans hz2 hb3
        refine hK.out _ _ (HSC.out _ hz3) (fun hHeld => ?_)
        clear hK K
        try simp only [Act.put, sl0, sl1, sl2]
        refine take_yes (i := 19) (d := 37) (v := ?v26) rfl rfl (by kernel_rfl) (by kernel_rfl) (by kernel_rfl) (fun _ _ _ h => h) (by rfl) ?y26 (by assumption) ?r26
        case y26 => (intro w hSw; (try dsimp only at hSw); go_simp <;> with_reducible rfl)
        simp only [Act.put, sl0, sl1, sl2]
        refine take_yes (i := 20) (d := 38) (v := ?v27) rfl rfl (by kernel_rfl) (by kernel_rfl) (by kernel_rfl) (fun _ _ _ h => h) (by rfl) ?y27 (by assumption) ?r27
        case y27 => (intro w hSw; (try dsimp only at hSw); go_simp <;> with_reducible rfl)
        simp only [Act.put, sl0, sl1, sl2]
        refine wpAnyH_done (by kernel_rfl) ?_ _
        replace HBr := Lib.hid (HBr.out.keep hz3)
        replace HF := Lib.hid (HF.out.keep hz3)
        clear hb2 hz2 hb3 hz3 HSC HZ0 HS1 KR1 KR2
        go_wp2
        go_ret
        exact ⟨ret_bool Hn.out.symm, HBr.out.below⟩
      · have H1' : Hid (Im1 L R (i + 1)) := hst (by omega)
        have K2 : Hid (∀ z : World, Calls Try.prog 59 #[.int .i64 b, .int .i64 a, .int .i64 99] z fun e w' => e = .returned (.bool true) ∧ Below z.heap.size z w') := fun z => l1In_b z (decide_eq_true h1)
        clear hno hst h0 h1
        go_wp2
        have HSC : Hid (∀ z : World, Below wr.heap.size wr z → (Below wr.heap.size wr z ∧ z.cell? ⟨w.heap.size, 0, none⟩ = some (.slice (some ⟨bl, ol, none⟩) n cl) ∧ z.cell? ⟨w.heap.size, 1, none⟩ = some (.slice (some ⟨br, or_, none⟩) k cr) ∧ z.cell? ⟨bl, ol + i, none⟩ = some (.int .i64 a) ∧ z.cell? ⟨br, or_ + i, none⟩ = some (.int .i64 b))) := fun z hz => ⟨hz, up_ hz e0, up_ hz e1, up_ hz p0, up_ hz p1⟩
        have HZ0 : Hid (Below wr.heap.size wr wr.drew) := (Below.refl _ _).drew
        have HS1 := Lib.hid (HSC.out _ HZ0.out)
        have KR1 : Hid (∀ z : World, Below wr.heap.size wr z → _) := fun z hz => K1.out z
        have KR2 : Hid (∀ z : World, Below wr.heap.size wr z → _) := fun z hz => K2.out z
        refine wp_region_held_drew (S := fun z => Below wr.heap.size wr z ∧ z.cell? ⟨w.heap.size, 0, none⟩ = some (.slice (some ⟨bl, ol, none⟩) n cl) ∧ z.cell? ⟨w.heap.size, 1, none⟩ = some (.slice (some ⟨br, or_, none⟩) k cr) ∧ z.cell? ⟨bl, ol + i, none⟩ = some (.int .i64 a) ∧ z.cell? ⟨br, or_ + i, none⟩ = some (.int .i64 b)) (by kernel_rfl) HS1.out (fun hHeld => ?_)
        refine take_yes (i := 0) (d := 18) (v := ?v28) rfl rfl (by kernel_rfl) (by kernel_rfl) (by kernel_rfl) (fun _ _ _ h => h) (by rfl) ?y28 (by assumption) ?r28
        case y28 => (intro w hSw; (try dsimp only at hSw); go_simp <;> with_reducible rfl)
        simp only [Act.put, sl0, sl1, sl2]
        refine take_yes (i := 1) (d := 19) (v := ?v29) rfl rfl (by kernel_rfl) (by kernel_rfl) (by kernel_rfl) (fun _ _ _ h => h) (by rfl) ?y29 (by assumption) ?r29
        case y29 => (intro w hSw; (try dsimp only at hSw); go_simp <;> with_reducible rfl)
        simp only [Act.put, sl0, sl1, sl2]
        refine take_yes (i := 2) (d := 20) (v := ?v30) rfl rfl (by kernel_rfl) (by kernel_rfl) (by kernel_rfl) (fun _ _ _ h => h) (by rfl) ?y30 (by assumption) ?r30
        case y30 => (intro w hSw; (try dsimp only at hSw); go_simp <;> with_reducible rfl)
        simp only [Act.put, sl0, sl1, sl2]
        refine take_yes (i := 3) (d := 21) (v := ?v31) rfl rfl (by kernel_rfl) (by kernel_rfl) (by kernel_rfl) (fun _ _ _ h => h) (by rfl) ?y31 (by assumption) ?r31
        case y31 => (intro w hSw; (try dsimp only at hSw); go_simp <;> with_reducible rfl)
        simp only [Act.put, sl0, sl1, sl2]
        refine take_yes (i := 4) (d := 22) (v := ?v32) rfl rfl (by kernel_rfl) (by kernel_rfl) (by kernel_rfl) (fun _ _ _ h => h) (by rfl) ?y32 (by assumption) ?r32
        case y32 => (intro w hSw; (try dsimp only at hSw); go_simp <;> with_reducible rfl)
        simp only [Act.put, sl0, sl1, sl2]
        refine wpAnyH_ready (rs := [5]) (by kernel_rfl) (by simp) ?_
        refine AllReadyH.cons rfl (fun K hK => ?_) AllReadyH.nil
        go_simp
        go_at_call 59; refine (KR1.out _ HZ0.out).mono ?_
        rintro e w4 ⟨rfl, hb4⟩
        have hz4 := bl_trans HZ0.out hb4
        refine hK.out _ _ (HSC.out _ hz4) (fun hHeld => ?_)
        clear hK K
        try simp only [Act.put, sl0, sl1, sl2]
        refine take_yes (i := 6) (d := 24) (v := ?v33) rfl rfl (by kernel_rfl) (by kernel_rfl) (by kernel_rfl) (fun _ _ _ h => h) (by rfl) ?y33 (by assumption) ?r33
        case y33 => (intro w hSw; (try dsimp only at hSw); go_simp <;> with_reducible rfl)
        simp only [Act.put, sl0, sl1, sl2]
        refine take_yes (i := 7) (d := 25) (v := ?v34) rfl rfl (by kernel_rfl) (by kernel_rfl) (by kernel_rfl) (fun _ _ _ h => h) (by rfl) ?y34 (by assumption) ?r34
        case y34 => (intro w hSw; (try dsimp only at hSw); go_simp <;> with_reducible rfl)
        simp only [Act.put, sl0, sl1, sl2]
        refine take_yes (i := 8) (d := 26) (v := ?v35) rfl rfl (by kernel_rfl) (by kernel_rfl) (by kernel_rfl) (fun _ _ _ h => h) (by rfl) ?y35 (by assumption) ?r35
        case y35 => (intro w hSw; (try dsimp only at hSw); go_simp <;> with_reducible rfl)
        simp only [Act.put, sl0, sl1, sl2]
        refine take_yes (i := 9) (d := 27) (v := ?v36) rfl rfl (by kernel_rfl) (by kernel_rfl) (by kernel_rfl) (fun _ _ _ h => h) (by rfl) ?y36 (by assumption) ?r36
        case y36 => (intro w hSw; (try dsimp only at hSw); go_simp <;> with_reducible rfl)
        simp only [Act.put, sl0, sl1, sl2]
        refine take_yes (i := 10) (d := 28) (v := ?v37) rfl rfl (by kernel_rfl) (by kernel_rfl) (by kernel_rfl) (fun _ _ _ h => h) (by rfl) ?y37 (by assumption) ?r37
        case y37 => (intro w hSw; (try dsimp only at hSw); go_simp <;> with_reducible rfl)
        simp only [Act.put, sl0, sl1, sl2]
        refine take_yes (i := 11) (d := 29) (v := ?v38) rfl rfl (by kernel_rfl) (by kernel_rfl) (by kernel_rfl) (fun _ _ _ h => h) (by rfl) ?y38 (by assumption) ?r38
        case y38 => (intro w hSw; (try dsimp only at hSw); go_simp <;> with_reducible rfl)
        simp only [Act.put, sl0, sl1, sl2]
        refine take_yes (i := 12) (d := 30) (v := ?v39) rfl rfl (by kernel_rfl) (by kernel_rfl) (by kernel_rfl) (fun _ _ _ h => h) (by rfl) ?y39 (by assumption) ?r39
        case y39 => (intro w hSw; (try dsimp only at hSw); go_simp <;> with_reducible rfl)
        simp only [Act.put, sl0, sl1, sl2]
        refine take_yes (i := 13) (d := 31) (v := ?v40) rfl rfl (by kernel_rfl) (by kernel_rfl) (by kernel_rfl) (fun _ _ _ h => h) (by rfl) ?y40 (by assumption) ?r40
        case y40 => (intro w hSw; (try dsimp only at hSw); go_simp <;> with_reducible rfl)
        simp only [Act.put, sl0, sl1, sl2]
        refine take_yes (i := 14) (d := 32) (v := ?v41) rfl rfl (by kernel_rfl) (by kernel_rfl) (by kernel_rfl) (fun _ _ _ h => h) (by rfl) ?y41 (by assumption) ?r41
        case y41 => (intro w hSw; (try dsimp only at hSw); go_simp <;> with_reducible rfl)
        simp only [Act.put, sl0, sl1, sl2]
        refine take_yes (i := 15) (d := 33) (v := ?v42) rfl rfl (by kernel_rfl) (by kernel_rfl) (by kernel_rfl) (fun _ _ _ h => h) (by rfl) ?y42 (by assumption) ?r42
        case y42 => (intro w hSw; (try dsimp only at hSw); go_simp <;> with_reducible rfl)
        simp only [Act.put, sl0, sl1, sl2]
        refine take_yes (i := 16) (d := 34) (v := ?v43) rfl rfl (by kernel_rfl) (by kernel_rfl) (by kernel_rfl) (fun _ _ _ h => h) (by rfl) ?y43 (by assumption) ?r43
        case y43 => (intro w hSw; (try dsimp only at hSw); go_simp <;> with_reducible rfl)
        simp only [Act.put, sl0, sl1, sl2]
        refine take_yes (i := 17) (d := 35) (v := ?v44) rfl rfl (by kernel_rfl) (by kernel_rfl) (by kernel_rfl) (fun _ _ _ h => h) (by rfl) ?y44 (by assumption) ?r44
        case y44 => (intro w hSw; (try dsimp only at hSw); go_simp <;> with_reducible rfl)
        simp only [Act.put, sl0, sl1, sl2]
        refine wpAnyH_ready (rs := [18]) (by kernel_rfl) (by simp) ?_
        refine AllReadyH.cons rfl (fun K hK => ?_) AllReadyH.nil
        go_simp
        go_at_call 59; refine (KR2.out _ hz4).mono ?_
        rintro e w5 ⟨rfl, hb5⟩
        have hz5 := bl_trans hz4 hb5
        refine hK.out _ _ (HSC.out _ hz5) (fun hHeld => ?_)
        clear hK K
        try simp only [Act.put, sl0, sl1, sl2]
        refine take_yes (i := 19) (d := 37) (v := ?v45) rfl rfl (by kernel_rfl) (by kernel_rfl) (by kernel_rfl) (fun _ _ _ h => h) (by rfl) ?y45 (by assumption) ?r45
        case y45 => (intro w hSw; (try dsimp only at hSw); go_simp <;> with_reducible rfl)
        simp only [Act.put, sl0, sl1, sl2]
        refine take_yes (i := 20) (d := 38) (v := ?v46) rfl rfl (by kernel_rfl) (by kernel_rfl) (by kernel_rfl) (fun _ _ _ h => h) (by rfl) ?y46 (by assumption) ?r46
        case y46 => (intro w hSw; (try dsimp only at hSw); go_simp <;> with_reducible rfl)
        simp only [Act.put, sl0, sl1, sl2]
        refine wpAnyH_done (by kernel_rfl) ?_ _
        replace HBr := Lib.hid (HBr.out.keep hz5)
        replace HF := Lib.hid (HF.out.keep hz5)
        clear hb4 hz4 hb5 hz5 HSC HZ0 HS1 KR1 KR2
        go_wp2
        go_roundw
        case rel => exact ⟨i + 1, by omega, by omega, by go_num, H1', HF⟩
        case measure => (simp [intOf] <;> omega)
    · by_cases hn : 1 ≤ n ∧ n ≤ 7
      rotate_left
      · have Hn : Hid (imB L R = false) := im_len (by rw [← HN.out]; exact hn)
        have KW : Hid (decide ((1 : Int) ≤ (n : Int) ∧ (n : Int) ≤ 7) = false) := by show _ = _; exact decide_eq_false (by omega)
        clear hn
        by_cases hil : i < n
        · have i1 : (i : Int) < (n : Int) := by omega
          have i2 : (k : Int) ≤ (i : Int) := by omega
          clear hin
          go_wp2_with fail
          refine (l1In_b (n := (n : Int)) (lo := 1) (hi := 7) wr KW.out).mono ?_
          rintro e w6 ⟨rfl, hb6⟩
          replace HBr := Lib.hid (HBr.out.keep hb6)
          clear hb6
          go_wp2
          go_ret
          exact ⟨ret_bool Hn.out.symm, HBr.out.below⟩
        · have i1 : (n : Int) ≤ (i : Int) := by omega
          clear hin
          go_wp2_with fail
          refine (l1In_b (n := (n : Int)) (lo := 1) (hi := 7) wr KW.out).mono ?_
          rintro e w7 ⟨rfl, hb7⟩
          replace HBr := Lib.hid (HBr.out.keep hb7)
          clear hb7
          go_wp2
          go_ret
          exact ⟨ret_bool Hn.out.symm, HBr.out.below⟩
      have KW : Hid (decide ((1 : Int) ≤ (n : Int) ∧ (n : Int) ≤ 7) = true) := by show _ = _; exact decide_eq_true (by omega)
      by_cases hnk : k = n
      rotate_left
      · have Hn : Hid (imB L R = false) := im_same (by rw [← HN.out, ← HK.out]; exact hnk)
        have d1 : ((k : Int) == (n : Int)) = false := by simp; omega
        have d2 : (k = n) = False := by simp; omega
        by_cases hil : i < n
        · have i1 : (i : Int) < (n : Int) := by omega
          have i2 : (k : Int) ≤ (i : Int) := by omega
          clear hin hn hnk
          go_wp2_with fail
          refine (l1In_b (n := (n : Int)) (lo := 1) (hi := 7) wr KW.out).mono ?_
          rintro e w8 ⟨rfl, hb8⟩
          clear e0 e1
          replace HBr := Lib.hid (HBr.out.keep hb8)
          replace HIr := Lib.hid (HIr.out.keep hb8)
          clear hb8
          have e0 := HIr.out.c0
          have e1 := HIr.out.c1
          go_wp2
          go_ret
          exact ⟨ret_bool Hn.out.symm, HBr.out.below⟩
        · have i1 : (n : Int) ≤ (i : Int) := by omega
          clear hin hn hnk
          go_wp2_with fail
          refine (l1In_b (n := (n : Int)) (lo := 1) (hi := 7) wr KW.out).mono ?_
          rintro e w9 ⟨rfl, hb9⟩
          clear e0 e1
          replace HBr := Lib.hid (HBr.out.keep hb9)
          replace HIr := Lib.hid (HIr.out.keep hb9)
          clear hb9
          have e0 := HIr.out.c0
          have e1 := HIr.out.c1
          go_wp2
          go_ret
          exact ⟨ret_bool Hn.out.symm, HBr.out.below⟩
      subst hnk
      have Hy : Hid (imB L R = true) := im_yes (by rw [← HN.out]; exact hn) (by rw [← HN.out, ← HK.out]) (by
        rw [← HN.out]
        have e : i = k := by omega
        rw [← e]; exact H1.out)
      have i1 : (k : Int) ≤ (i : Int) := by omega
      have d1 : ((k : Int) == (k : Int)) = true := by simp
      clear hin hn
      go_wp2_with fail
      refine (l1In_b (n := (k : Int)) (lo := 1) (hi := 7) wr KW.out).mono ?_
      rintro e w10 ⟨rfl, hb10⟩
      clear e0 e1
      replace HBr := Lib.hid (HBr.out.keep hb10)
      replace HIr := Lib.hid (HIr.out.keep hb10)
      clear hb10
      have e0 := HIr.out.c0
      have e1 := HIr.out.c1
      go_wp2
      go_ret
      exact ⟨ret_bool Hy.out.symm, HBr.out.below⟩
end Go.Proofs.Ytncjfgebolikoaa
