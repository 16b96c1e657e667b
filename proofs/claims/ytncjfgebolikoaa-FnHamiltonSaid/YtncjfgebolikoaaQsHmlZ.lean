/-
  The law FnHamilton's first great test, where there is a circle.
-/
import Derived.Test.YtncjfgebolikoaaQsHmlY
namespace Go.Proofs.Ytncjfgebolikoaa
open Go.RowKit
set_option maxRecDepth 100000 in
set_option maxHeartbeats 25600000 in
theorem ham_circle_ {A A3 A4 A5 A6 B1 : Option Addr} {n c c3 c4 c5 c6 q m1 d1 : Nat} {s1 set : Int} {x1 : Nat → Int} {L D : List Nat} {w0 w6 : World} {u24 u25 u26 u27 u28 u29 u30 u31 u32 u33 u34 u35 u36 u37 u38 u39 u40 u41 u42 u43 u44 u45 u46 u47 u48 u49 u50 u51 u52 u53 u54 u55 u56 u57 : Value} (HB : Hid (From w0 w6)) (HY : Hid (BX w6 A n c)) (HG1 : Hid (GX w6 q s1 B1 m1 d1 x1)) (HL3 : Hid (LN w6 A3 c3 L)) (HL4 : Hid (LN w6 A4 c4 L)) (HL5 : Hid (LN w6 A5 c5 D)) (HL6 : Hid (LN w6 A6 c6 D)) (hL7 : L.length ≤ 7) (hD7 : D.length ≤ 7) (hs0 : s1 = (L.length : Int)) (hs1 : s1 = (D.length : Int)) (hd1 : 1 ≤ D.length) (K7' : ∀ (W : World) (A1 : Option Addr) (c1 : Nat) (A2 : Option Addr) (c2 : Nat), GA W A1 m1 c1 x1 → LN W A2 c2 L → Calls Try.prog 13 #[.agg #[.int .i64 s1, .slice A1 m1 c1], .slice A2 L.length c2] W fun e w' => e = .returned (.bool true) ∧ Below W.heap.size W w') (K8' : ∀ (W : World) (A1 : Option Addr) (c1 : Nat) (A2 : Option Addr) (c2 : Nat), GA W A1 m1 c1 x1 → LN W A2 c2 D → Calls Try.prog 13 #[.agg #[.int .i64 s1, .slice A1 m1 c1], .slice A2 D.length c2] W fun e w' => e = .returned (.bool true) ∧ Below W.heap.size W w') (K9' : ∀ (W : World) (A1 : Option Addr) (c1 : Nat), GA W A1 m1 c1 x1 → Calls Try.prog 14 #[.agg #[.int .i64 s1, .slice A1 m1 c1], .int .i64 (D.getD 0 0 : Nat), .int .i64 (D.getD (D.length - 1) 0 : Nat)] W fun e w' => e = .returned (.bool true) ∧ Below W.heap.size W w') :
    Code.wp Try.prog c10 (Exit.then (r10 w0 A n c q s1 B1 m1 d1 x1 A3 c3 L true A4 c4 A5 c5 D true A6 c6 set false) (fun _ _ _ => False)) { tmps := #[.slice A n c, undef, .bool false, .pointer (some ⟨q, 0, none⟩), .slice A3 L.length c3, .bool true, .slice A4 L.length c4, .bool true, .slice A5 D.length c5, .bool true, .slice A6 D.length c6, .bool true, .int .i64 set, .bool false, .int .i64 set, .bool false, undef, undef, undef, undef, undef, undef, undef, undef, u24, u25, u26, u27, u28, u29, u30, u31, u32, u33, u34, u35, u36, u37, u38, u39, u40, u41, u42, u43, u44, u45, u46, u47, u48, u49, u50, u51, u52, u53, u54, u55, u56, u57, undef, undef, undef, undef, undef, undef, undef, undef, undef, undef, undef, undef, undef, undef, undef, undef, undef, undef, undef, undef, undef, undef, undef, undef, undef, undef, undef, undef, undef, undef, undef, undef, undef, undef, undef, undef, undef, undef, undef, undef, undef, undef, undef, undef, undef, undef, undef, undef, undef, undef, undef, undef, undef, undef, undef, undef, undef, undef, undef, undef, undef, undef, undef, undef, undef, undef, undef, undef, undef, undef, undef, undef, undef, undef, undef, undef, undef, undef, undef, undef, undef, undef, undef, undef, undef, undef, undef, undef, undef, undef, undef, undef, undef, undef, undef, undef, undef, undef, undef, undef, undef, undef, undef, undef, undef, undef, undef, undef, undef, undef, undef, undef, undef, undef, undef, undef, undef, undef, undef, undef, undef, undef, undef, undef, undef, undef, undef, undef, undef, undef, undef, undef, undef, undef, undef, undef, undef, undef, undef, undef, undef, undef, undef, undef, undef, undef, undef, undef, undef, undef, undef, undef, undef, undef, undef, undef, undef, undef, undef, undef, undef, undef, undef, undef, undef, undef], defers := [] } w6 := by
  have KS1 : Hid (∀ W : World, LN W A3 c3 L → LN W A4 c4 L → Calls Try.prog 12 #[.slice A3 L.length c3, .slice A4 L.length c4] W fun e w' => e = .returned (.bool true) ∧ Below W.heap.size W w') := fun W h1 h2 => same_ints h1 h2 hL7
  have KS2 : Hid (∀ W : World, LN W A5 c5 D → LN W A6 c6 D → Calls Try.prog 12 #[.slice A5 D.length c5, .slice A6 D.length c6] W fun e w' => e = .returned (.bool true) ∧ Below W.heap.size W w') := fun W h1 h2 => same_ints h1 h2 hD7
  have a0 := HG1.out.c0
  have a1 := HG1.out.c1
  have q1 : ((L.length : Int) != s1) = false := by simp; omega
  have q3 : ((D.length : Int) != s1) = false := by simp; omega
  replace K7' := Lib.hid K7'
  replace K8' := Lib.hid K8'
  obtain ⟨k, hk⟩ : ∃ k, k = D.length - 1 := ⟨_, rfl⟩
  rw [← hk] at K9'
  have j1 : (0 : Int) < (D.length : Int) := by omega
  have j2 : (k : Int) < (D.length : Int) := by omega
  have j3 : 0 < D.length := hd1
  have j4 : k < D.length := by omega
  have sw : IntKind.i64.wrap ((D.length : Int) - 1) = (k : Int) := by rw [Go.IntWalk.i64_in _ (by omega)]; omega
  obtain ⟨bd, od, rfl⟩ := HL6.out.addr (by omega)
  obtain ⟨u, hu⟩ : ∃ u, u = D.getD 0 0 := ⟨_, rfl⟩
  obtain ⟨v, hv⟩ : ∃ v, v = D.getD k 0 := ⟨_, rfl⟩
  have y0 : w6.cell? ⟨bd, od, none⟩ = some (.int .i64 (u : Nat)) := by
    have h1 := HL6.out.at (j := 0) (by omega)
    have e1 : D[0] = u := by rw [hu]; simp [List.getD, show 0 < D.length by omega]
    rw [e1] at h1
    exact h1
  have y1 : w6.cell? ⟨bd, od + k, none⟩ = some (.int .i64 (v : Nat)) := by
    have h2 := HL6.out.at (j := k) (by omega)
    have e2 : D[k] = v := by rw [hv]; simp [List.getD, show k < D.length by omega]
    rw [e2] at h2
    exact h2
  rw [← hu, ← hv] at K9'
  replace K9' := Lib.hid K9'
  clear hs0 hs1 hk hu hv
  have HSC : Hid (∀ z : World, Below w6.heap.size w6 z → (Below w6.heap.size w6 z ∧ z.cell? ⟨q, 0, none⟩ = some (.int .i64 s1) ∧ z.cell? ⟨q, 1, none⟩ = some (.slice B1 m1 d1) ∧ z.cell? ⟨bd, od, none⟩ = some (.int .i64 (u : Nat)) ∧ z.cell? ⟨bd, od + k, none⟩ = some (.int .i64 (v : Nat)))) := fun z hz => ⟨hz, up_ hz a0, up_ hz a1, up_ hz y0, up_ hz y1⟩
  have HZ0 : Hid (Below w6.heap.size w6 w6.drew) := (Below.refl _ _).drew
  have HS1 := Lib.hid (HSC.out _ HZ0.out)
  have KR1 : Hid (∀ z : World, Below w6.heap.size w6 z → _) := fun z hz => KS1.out z (HL3.out.keep hz) (HL4.out.keep hz)
  have KR2 : Hid (∀ z : World, Below w6.heap.size w6 z → _) := fun z hz => KS2.out z (HL5.out.keep hz) (HL6.out.keep hz)
  have KR3 : Hid (∀ z : World, Below w6.heap.size w6 z → _) := fun z hz => K7'.out z _ _ _ _ (HG1.out.a.keep hz) (HL4.out.keep hz)
  have KR4 : Hid (∀ z : World, Below w6.heap.size w6 z → _) := fun z hz => K8'.out z _ _ _ _ (HG1.out.a.keep hz) (HL6.out.keep hz)
  have KR5 : Hid (∀ z : World, Below w6.heap.size w6 z → _) := fun z hz => K9'.out z _ _ (HG1.out.a.keep hz)
  refine wp_region_held_drew (S := fun z => Below w6.heap.size w6 z ∧ z.cell? ⟨q, 0, none⟩ = some (.int .i64 s1) ∧ z.cell? ⟨q, 1, none⟩ = some (.slice B1 m1 d1) ∧ z.cell? ⟨bd, od, none⟩ = some (.int .i64 (u : Nat)) ∧ z.cell? ⟨bd, od + k, none⟩ = some (.int .i64 (v : Nat))) (by kernel_rfl) HS1.out (fun hHeld => ?_)
  refine take_yes (i := 0) (d := 58) (v := ?v1) rfl rfl (by kernel_rfl) (by kernel_rfl) (by kernel_rfl) (fun _ _ _ h => h) (by rfl) ?y1 (by assumption) ?r1
  case y1 => (intro w hSw; (try dsimp only at hSw); go_simp <;> with_reducible rfl)
  simp only [Act.put, sl0, sl1, sl2]
  refine take_yes (i := 1) (d := 59) (v := ?v2) rfl rfl (by kernel_rfl) (by kernel_rfl) (by kernel_rfl) (fun _ _ _ h => h) (by rfl) ?y2 (by assumption) ?r2
  case y2 => (intro w hSw; (try dsimp only at hSw); go_simp <;> with_reducible rfl)
  simp only [Act.put, sl0, sl1, sl2]
  refine take_yes (i := 2) (d := 60) (v := ?v3) rfl rfl (by kernel_rfl) (by kernel_rfl) (by kernel_rfl) (fun _ _ _ h => h) (by rfl) ?y3 (by assumption) ?r3
  case y3 => (intro w hSw; (try dsimp only at hSw); go_simp <;> with_reducible rfl)
  simp only [Act.put, sl0, sl1, sl2]
  refine take_yes (i := 3) (d := 61) (v := ?v4) rfl rfl (by kernel_rfl) (by kernel_rfl) (by kernel_rfl) (fun _ _ _ h => h) (by rfl) ?y4 (by assumption) ?r4
  case y4 => (intro w hSw; (try dsimp only at hSw); go_simp <;> with_reducible rfl)
  simp only [Act.put, sl0, sl1, sl2]
  refine take_yes (i := 4) (d := 62) (v := ?v5) rfl rfl (by kernel_rfl) (by kernel_rfl) (by kernel_rfl) (fun _ _ _ h => h) (by rfl) ?y5 (by assumption) ?r5
  case y5 => (intro w hSw; (try dsimp only at hSw); go_simp <;> with_reducible rfl)
  simp only [Act.put, sl0, sl1, sl2]
  refine take_yes (i := 5) (d := 63) (v := ?v6) rfl rfl (by kernel_rfl) (by kernel_rfl) (by kernel_rfl) (fun _ _ _ h => h) (by rfl) ?y6 (by assumption) ?r6
  case y6 => (intro w hSw; (try dsimp only at hSw); go_simp <;> with_reducible rfl)
  simp only [Act.put, sl0, sl1, sl2]
  refine wpAnyH_ready (rs := [6]) (by kernel_rfl) (by simp) ?_
  refine AllReadyH.cons rfl (fun K hK => ?_) AllReadyH.nil
  go_simp
  go_at_call 12; refine (KR1.out _ HZ0.out).mono ?_
  rintro e w1 ⟨rfl, hb1⟩
  have hz1 := bl_trans HZ0.out hb1
  refine hK.out _ _ (HSC.out _ hz1) (fun hHeld => ?_)
  clear hK K
  try simp only [Act.put, sl0, sl1, sl2]
  refine take_yes (i := 7) (d := 65) (v := ?v7) rfl rfl (by kernel_rfl) (by kernel_rfl) (by kernel_rfl) (fun _ _ _ h => h) (by rfl) ?y7 (by assumption) ?r7
  case y7 => (intro w hSw; (try dsimp only at hSw); go_simp <;> with_reducible rfl)
  simp only [Act.put, sl0, sl1, sl2]
  refine take_yes (i := 8) (d := 66) (v := ?v8) rfl rfl (by kernel_rfl) (by kernel_rfl) (by kernel_rfl) (fun _ _ _ h => h) (by rfl) ?y8 (by assumption) ?r8
  case y8 => (intro w hSw; (try dsimp only at hSw); go_simp <;> with_reducible rfl)
  simp only [Act.put, sl0, sl1, sl2]
  refine take_yes (i := 9) (d := 67) (v := ?v9) rfl rfl (by kernel_rfl) (by kernel_rfl) (by kernel_rfl) (fun _ _ _ h => h) (by rfl) ?y9 (by assumption) ?r9
  case y9 => (intro w hSw; (try dsimp only at hSw); go_simp <;> with_reducible rfl)
  simp only [Act.put, sl0, sl1, sl2]
  refine take_yes (i := 10) (d := 68) (v := ?v10) rfl rfl (by kernel_rfl) (by kernel_rfl) (by kernel_rfl) (fun _ _ _ h => h) (by rfl) ?y10 (by assumption) ?r10
  case y10 => (intro w hSw; (try dsimp only at hSw); go_simp <;> with_reducible rfl)
  simp only [Act.put, sl0, sl1, sl2]
  refine take_yes (i := 11) (d := 69) (v := ?v11) rfl rfl (by kernel_rfl) (by kernel_rfl) (by kernel_rfl) (fun _ _ _ h => h) (by rfl) ?y11 (by assumption) ?r11
  case y11 => (intro w hSw; (try dsimp only at hSw); go_simp <;> with_reducible rfl)
  simp only [Act.put, sl0, sl1, sl2]
  refine take_yes (i := 12) (d := 70) (v := ?v12) rfl rfl (by kernel_rfl) (by kernel_rfl) (by kernel_rfl) (fun _ _ _ h => h) (by rfl) ?y12 (by assumption) ?r12
  case y12 => (intro w hSw; (try dsimp only at hSw); go_simp <;> with_reducible rfl)
  simp only [Act.put, sl0, sl1, sl2]
  refine take_yes (i := 13) (d := 71) (v := ?v13) rfl rfl (by kernel_rfl) (by kernel_rfl) (by kernel_rfl) (fun _ _ _ h => h) (by rfl) ?y13 (by assumption) ?r13
  case y13 => (intro w hSw; (try dsimp only at hSw); go_simp <;> with_reducible rfl)
  simp only [Act.put, sl0, sl1, sl2]
  refine take_yes (i := 14) (d := 72) (v := ?v14) rfl rfl (by kernel_rfl) (by kernel_rfl) (by kernel_rfl) (fun _ _ _ h => h) (by rfl) ?y14 (by assumption) ?r14
  case y14 => (intro w hSw; (try dsimp only at hSw); go_simp <;> with_reducible rfl)
  simp only [Act.put, sl0, sl1, sl2]
  refine take_yes (i := 15) (d := 73) (v := ?v15) rfl rfl (by kernel_rfl) (by kernel_rfl) (by kernel_rfl) (fun _ _ _ h => h) (by rfl) ?y15 (by assumption) ?r15
  case y15 => (intro w hSw; (try dsimp only at hSw); go_simp <;> with_reducible rfl)
  simp only [Act.put, sl0, sl1, sl2]
  refine take_yes (i := 16) (d := 74) (v := ?v16) rfl rfl (by kernel_rfl) (by kernel_rfl) (by kernel_rfl) (fun _ _ _ h => h) (by rfl) ?y16 (by assumption) ?r16
  case y16 => (intro w hSw; (try dsimp only at hSw); go_simp <;> with_reducible rfl)
  simp only [Act.put, sl0, sl1, sl2]
  refine wpAnyH_ready (rs := [17]) (by kernel_rfl) (by simp) ?_
  refine AllReadyH.cons rfl (fun K hK => ?_) AllReadyH.nil
  go_simp
  go_at_call 12; refine (KR2.out _ hz1).mono ?_
  rintro e w2 ⟨rfl, hb2⟩
  have hz2 := bl_trans hz1 hb2
  refine hK.out _ _ (HSC.out _ hz2) (fun hHeld => ?_)
  clear hK K
  try simp only [Act.put, sl0, sl1, sl2]
  refine take_yes (i := 18) (d := 76) (v := ?v17) rfl rfl (by kernel_rfl) (by kernel_rfl) (by kernel_rfl) (fun _ _ _ h => h) (by rfl) ?y17 (by assumption) ?r17
  case y17 => (intro w hSw; (try dsimp only at hSw); go_simp <;> with_reducible rfl)
  simp only [Act.put, sl0, sl1, sl2]
  refine take_yes (i := 19) (d := 77) (v := ?v18) rfl rfl (by kernel_rfl) (by kernel_rfl) (by kernel_rfl) (fun _ _ _ h => h) (by rfl) ?y18 (by assumption) ?r18
  case y18 => (intro w hSw; (try dsimp only at hSw); go_simp <;> with_reducible rfl)
  simp only [Act.put, sl0, sl1, sl2]
  refine take_yes (i := 20) (d := 78) (v := ?v19) rfl rfl (by kernel_rfl) (by kernel_rfl) (by kernel_rfl) (fun _ _ _ h => h) (by rfl) ?y19 (by assumption) ?r19
  case y19 => (intro w hSw; (try dsimp only at hSw); go_simp <;> with_reducible rfl)
  simp only [Act.put, sl0, sl1, sl2]
  refine take_yes (i := 21) (d := 79) (v := ?v20) rfl rfl (by kernel_rfl) (by kernel_rfl) (by kernel_rfl) (fun _ _ _ h => h) (by rfl) ?y20 (by assumption) ?r20
  case y20 => (intro w hSw; (try dsimp only at hSw); go_simp <;> with_reducible rfl)
  simp only [Act.put, sl0, sl1, sl2]
  refine take_yes (i := 22) (d := 80) (v := ?v21) rfl rfl (by kernel_rfl) (by kernel_rfl) (by kernel_rfl) (fun _ _ _ h => h) (by rfl) ?y21 (by assumption) ?r21
  case y21 => (intro w hSw; (try dsimp only at hSw); go_simp <;> with_reducible rfl)
  simp only [Act.put, sl0, sl1, sl2]
  refine take_yes (i := 23) (d := 81) (v := ?v22) rfl rfl (by kernel_rfl) (by kernel_rfl) (by kernel_rfl) (fun _ _ _ h => h) (by rfl) ?y22 (by assumption) ?r22
  case y22 => (intro w hSw; (try dsimp only at hSw); go_simp <;> with_reducible rfl)
  simp only [Act.put, sl0, sl1, sl2]
  refine take_yes (i := 24) (d := 82) (v := ?v23) rfl rfl (by kernel_rfl) (by kernel_rfl) (by kernel_rfl) (fun _ _ _ h => h) (by rfl) ?y23 (by assumption) ?r23
  case y23 => (intro w hSw; (try dsimp only at hSw); go_simp <;> with_reducible rfl)
  simp only [Act.put, sl0, sl1, sl2]
  refine take_yes (i := 25) (d := 83) (v := ?v24) rfl rfl (by kernel_rfl) (by kernel_rfl) (by kernel_rfl) (fun _ _ _ h => h) (by rfl) ?y24 (by assumption) ?r24
  case y24 => (intro w hSw; (try dsimp only at hSw); go_simp <;> with_reducible rfl)
  simp only [Act.put, sl0, sl1, sl2]
  refine take_yes (i := 26) (d := 84) (v := ?v25) rfl rfl (by kernel_rfl) (by kernel_rfl) (by kernel_rfl) (fun _ _ _ h => h) (by rfl) ?y25 (by assumption) ?r25
  case y25 => (intro w hSw; (try dsimp only at hSw); go_simp <;> with_reducible rfl)
  simp only [Act.put, sl0, sl1, sl2]
  refine take_yes (i := 27) (d := 85) (v := ?v26) rfl rfl (by kernel_rfl) (by kernel_rfl) (by kernel_rfl) (fun _ _ _ h => h) (by rfl) ?y26 (by assumption) ?r26
  case y26 => (intro w hSw; (try dsimp only at hSw); go_simp <;> with_reducible rfl)
  simp only [Act.put, sl0, sl1, sl2]
  refine take_yes (i := 28) (d := 86) (v := ?v27) rfl rfl (by kernel_rfl) (by kernel_rfl) (by kernel_rfl) (fun _ _ _ h => h) (by rfl) ?y27 (by assumption) ?r27
  case y27 => (intro w hSw; (try dsimp only at hSw); go_simp <;> with_reducible rfl)
  simp only [Act.put, sl0, sl1, sl2]
  refine take_yes (i := 29) (d := 87) (v := ?v28) rfl rfl (by kernel_rfl) (by kernel_rfl) (by kernel_rfl) (fun _ _ _ h => h) (by rfl) ?y28 (by assumption) ?r28
  case y28 => (intro w hSw; (try dsimp only at hSw); go_simp <;> with_reducible rfl)
  simp only [Act.put, sl0, sl1, sl2]
  refine take_yes (i := 30) (d := 88) (v := ?v29) rfl rfl (by kernel_rfl) (by kernel_rfl) (by kernel_rfl) (fun _ _ _ h => h) (by rfl) ?y29 (by assumption) ?r29
  case y29 => (intro w hSw; (try dsimp only at hSw); go_simp <;> with_reducible rfl)
  simp only [Act.put, sl0, sl1, sl2]
  refine take_yes (i := 31) (d := 89) (v := ?v30) rfl rfl (by kernel_rfl) (by kernel_rfl) (by kernel_rfl) (fun _ _ _ h => h) (by rfl) ?y30 (by assumption) ?r30
  case y30 => (intro w hSw; (try dsimp only at hSw); go_simp <;> with_reducible rfl)
  simp only [Act.put, sl0, sl1, sl2]
  refine take_yes (i := 32) (d := 90) (v := ?v31) rfl rfl (by kernel_rfl) (by kernel_rfl) (by kernel_rfl) (fun _ _ _ h => h) (by rfl) ?y31 (by assumption) ?r31
  case y31 => (intro w hSw; (try dsimp only at hSw); go_simp <;> with_reducible rfl)
  simp only [Act.put, sl0, sl1, sl2]
  refine take_yes (i := 33) (d := 91) (v := ?v32) rfl rfl (by kernel_rfl) (by kernel_rfl) (by kernel_rfl) (fun _ _ _ h => h) (by rfl) ?y32 (by assumption) ?r32
  case y32 => (intro w hSw; (try dsimp only at hSw); go_simp <;> with_reducible rfl)
  simp only [Act.put, sl0, sl1, sl2]
  refine take_yes (i := 34) (d := 92) (v := ?v33) rfl rfl (by kernel_rfl) (by kernel_rfl) (by kernel_rfl) (fun _ _ _ h => h) (by rfl) ?y33 (by assumption) ?r33
  case y33 => (intro w hSw; (try dsimp only at hSw); go_simp <;> with_reducible rfl)
  simp only [Act.put, sl0, sl1, sl2]
  refine wpAnyH_ready (rs := [35]) (by kernel_rfl) (by simp) ?_
  refine AllReadyH.cons rfl (fun K hK => ?_) AllReadyH.nil
  go_simp
  go_at_call 13; refine (KR3.out _ hz2).mono ?_
  rintro e w3 ⟨rfl, hb3⟩
  have hz3 := bl_trans hz2 hb3
  refine hK.out _ _ (HSC.out _ hz3) (fun hHeld => ?_)
  clear hK K
  try simp only [Act.put, sl0, sl1, sl2]
  refine take_yes (i := 36) (d := 94) (v := ?v34) rfl rfl (by kernel_rfl) (by kernel_rfl) (by kernel_rfl) (fun _ _ _ h => h) (by rfl) ?y34 (by assumption) ?r34
  case y34 => (intro w hSw; (try dsimp only at hSw); go_simp <;> with_reducible rfl)
  simp only [Act.put, sl0, sl1, sl2]
  refine take_yes (i := 37) (d := 95) (v := ?v35) rfl rfl (by kernel_rfl) (by kernel_rfl) (by kernel_rfl) (fun _ _ _ h => h) (by rfl) ?y35 (by assumption) ?r35
  case y35 => (intro w hSw; (try dsimp only at hSw); go_simp <;> with_reducible rfl)
  simp only [Act.put, sl0, sl1, sl2]
  refine take_yes (i := 38) (d := 96) (v := ?v36) rfl rfl (by kernel_rfl) (by kernel_rfl) (by kernel_rfl) (fun _ _ _ h => h) (by rfl) ?y36 (by assumption) ?r36
  case y36 => (intro w hSw; (try dsimp only at hSw); go_simp <;> with_reducible rfl)
  simp only [Act.put, sl0, sl1, sl2]
  refine take_yes (i := 39) (d := 97) (v := ?v37) rfl rfl (by kernel_rfl) (by kernel_rfl) (by kernel_rfl) (fun _ _ _ h => h) (by rfl) ?y37 (by assumption) ?r37
  case y37 => (intro w hSw; (try dsimp only at hSw); go_simp <;> with_reducible rfl)
  simp only [Act.put, sl0, sl1, sl2]
  refine take_yes (i := 40) (d := 98) (v := ?v38) rfl rfl (by kernel_rfl) (by kernel_rfl) (by kernel_rfl) (fun _ _ _ h => h) (by rfl) ?y38 (by assumption) ?r38
  case y38 => (intro w hSw; (try dsimp only at hSw); go_simp <;> with_reducible rfl)
  simp only [Act.put, sl0, sl1, sl2]
  refine take_yes (i := 41) (d := 99) (v := ?v39) rfl rfl (by kernel_rfl) (by kernel_rfl) (by kernel_rfl) (fun _ _ _ h => h) (by rfl) ?y39 (by assumption) ?r39
  case y39 => (intro w hSw; (try dsimp only at hSw); go_simp <;> with_reducible rfl)
  simp only [Act.put, sl0, sl1, sl2]
  refine take_yes (i := 42) (d := 100) (v := ?v40) rfl rfl (by kernel_rfl) (by kernel_rfl) (by kernel_rfl) (fun _ _ _ h => h) (by rfl) ?y40 (by assumption) ?r40
  case y40 => (intro w hSw; (try dsimp only at hSw); go_simp <;> with_reducible rfl)
  simp only [Act.put, sl0, sl1, sl2]
  refine take_yes (i := 43) (d := 101) (v := ?v41) rfl rfl (by kernel_rfl) (by kernel_rfl) (by kernel_rfl) (fun _ _ _ h => h) (by rfl) ?y41 (by assumption) ?r41
  case y41 => (intro w hSw; (try dsimp only at hSw); go_simp <;> with_reducible rfl)
  simp only [Act.put, sl0, sl1, sl2]
  refine take_yes (i := 44) (d := 102) (v := ?v42) rfl rfl (by kernel_rfl) (by kernel_rfl) (by kernel_rfl) (fun _ _ _ h => h) (by rfl) ?y42 (by assumption) ?r42
  case y42 => (intro w hSw; (try dsimp only at hSw); go_simp <;> with_reducible rfl)
  simp only [Act.put, sl0, sl1, sl2]
  refine take_yes (i := 45) (d := 103) (v := ?v43) rfl rfl (by kernel_rfl) (by kernel_rfl) (by kernel_rfl) (fun _ _ _ h => h) (by rfl) ?y43 (by assumption) ?r43
  case y43 => (intro w hSw; (try dsimp only at hSw); go_simp <;> with_reducible rfl)
  simp only [Act.put, sl0, sl1, sl2]
  refine take_yes (i := 46) (d := 104) (v := ?v44) rfl rfl (by kernel_rfl) (by kernel_rfl) (by kernel_rfl) (fun _ _ _ h => h) (by rfl) ?y44 (by assumption) ?r44
  case y44 => (intro w hSw; (try dsimp only at hSw); go_simp <;> with_reducible rfl)
  simp only [Act.put, sl0, sl1, sl2]
  refine take_yes (i := 47) (d := 105) (v := ?v45) rfl rfl (by kernel_rfl) (by kernel_rfl) (by kernel_rfl) (fun _ _ _ h => h) (by rfl) ?y45 (by assumption) ?r45
  case y45 => (intro w hSw; (try dsimp only at hSw); go_simp <;> with_reducible rfl)
  simp only [Act.put, sl0, sl1, sl2]
  refine take_yes (i := 48) (d := 106) (v := ?v46) rfl rfl (by kernel_rfl) (by kernel_rfl) (by kernel_rfl) (fun _ _ _ h => h) (by rfl) ?y46 (by assumption) ?r46
  case y46 => (intro w hSw; (try dsimp only at hSw); go_simp <;> with_reducible rfl)
  simp only [Act.put, sl0, sl1, sl2]
  refine take_yes (i := 49) (d := 107) (v := ?v47) rfl rfl (by kernel_rfl) (by kernel_rfl) (by kernel_rfl) (fun _ _ _ h => h) (by rfl) ?y47 (by assumption) ?r47
  case y47 => (intro w hSw; (try dsimp only at hSw); go_simp <;> with_reducible rfl)
  simp only [Act.put, sl0, sl1, sl2]
  refine take_yes (i := 50) (d := 108) (v := ?v48) rfl rfl (by kernel_rfl) (by kernel_rfl) (by kernel_rfl) (fun _ _ _ h => h) (by rfl) ?y48 (by assumption) ?r48
  case y48 => (intro w hSw; (try dsimp only at hSw); go_simp <;> with_reducible rfl)
  simp only [Act.put, sl0, sl1, sl2]
  refine wpAnyH_ready (rs := [51]) (by kernel_rfl) (by simp) ?_
  refine AllReadyH.cons rfl (fun K hK => ?_) AllReadyH.nil
  go_simp
  go_at_call 13; refine (KR4.out _ hz3).mono ?_
  rintro e w4 ⟨rfl, hb4⟩
  have hz4 := bl_trans hz3 hb4
  refine hK.out _ _ (HSC.out _ hz4) (fun hHeld => ?_)
  clear hK K
  try simp only [Act.put, sl0, sl1, sl2]
  refine take_yes (i := 52) (d := 110) (v := ?v49) rfl rfl (by kernel_rfl) (by kernel_rfl) (by kernel_rfl) (fun _ _ _ h => h) (by rfl) ?y49 (by assumption) ?r49
  case y49 => (intro w hSw; (try dsimp only at hSw); go_simp <;> with_reducible rfl)
  simp only [Act.put, sl0, sl1, sl2]
  refine take_yes (i := 53) (d := 111) (v := ?v50) rfl rfl (by kernel_rfl) (by kernel_rfl) (by kernel_rfl) (fun _ _ _ h => h) (by rfl) ?y50 (by assumption) ?r50
  case y50 => (intro w hSw; (try dsimp only at hSw); go_simp <;> with_reducible rfl)
  simp only [Act.put, sl0, sl1, sl2]
  refine take_yes (i := 54) (d := 112) (v := ?v51) rfl rfl (by kernel_rfl) (by kernel_rfl) (by kernel_rfl) (fun _ _ _ h => h) (by rfl) ?y51 (by assumption) ?r51
  case y51 => (intro w hSw; (try dsimp only at hSw); go_simp <;> with_reducible rfl)
  simp only [Act.put, sl0, sl1, sl2]
  refine take_yes (i := 55) (d := 113) (v := ?v52) rfl rfl (by kernel_rfl) (by kernel_rfl) (by kernel_rfl) (fun _ _ _ h => h) (by rfl) ?y52 (by assumption) ?r52
  case y52 => (intro w hSw; (try dsimp only at hSw); go_simp <;> with_reducible rfl)
  simp only [Act.put, sl0, sl1, sl2]
  refine take_yes (i := 56) (d := 114) (v := ?v53) rfl rfl (by kernel_rfl) (by kernel_rfl) (by kernel_rfl) (fun _ _ _ h => h) (by rfl) ?y53 (by assumption) ?r53
  case y53 => (intro w hSw; (try dsimp only at hSw); go_simp <;> with_reducible rfl)
  simp only [Act.put, sl0, sl1, sl2]
  refine take_yes (i := 57) (d := 115) (v := ?v54) rfl rfl (by kernel_rfl) (by kernel_rfl) (by kernel_rfl) (fun _ _ _ h => h) (by rfl) ?y54 (by assumption) ?r54
  case y54 => (intro w hSw; (try dsimp only at hSw); go_simp <;> with_reducible rfl)
  simp only [Act.put, sl0, sl1, sl2]
  refine take_yes (i := 58) (d := 116) (v := ?v55) rfl rfl (by kernel_rfl) (by kernel_rfl) (by kernel_rfl) (fun _ _ _ h => h) (by rfl) ?y55 (by assumption) ?r55
  case y55 => (intro w hSw; (try dsimp only at hSw); go_simp <;> with_reducible rfl)
  simp only [Act.put, sl0, sl1, sl2]
  refine take_yes (i := 59) (d := 117) (v := ?v56) rfl rfl (by kernel_rfl) (by kernel_rfl) (by kernel_rfl) (fun _ _ _ h => h) (by rfl) ?y56 (by assumption) ?r56
  case y56 => (intro w hSw; (try dsimp only at hSw); go_simp <;> with_reducible rfl)
  simp only [Act.put, sl0, sl1, sl2]
  refine take_yes (i := 60) (d := 118) (v := ?v57) rfl rfl (by kernel_rfl) (by kernel_rfl) (by kernel_rfl) (fun _ _ _ h => h) (by rfl) ?y57 (by assumption) ?r57
  case y57 => (intro w hSw; (try dsimp only at hSw); go_simp <;> with_reducible rfl)
  simp only [Act.put, sl0, sl1, sl2]
  refine take_yes (i := 61) (d := 119) (v := ?v58) rfl rfl (by kernel_rfl) (by kernel_rfl) (by kernel_rfl) (fun _ _ _ h => h) (by rfl) ?y58 (by assumption) ?r58
  case y58 => (intro w hSw; (try dsimp only at hSw); go_simp <;> with_reducible rfl)
  simp only [Act.put, sl0, sl1, sl2]
  refine take_yes (i := 62) (d := 120) (v := ?v59) rfl rfl (by kernel_rfl) (by kernel_rfl) (by kernel_rfl) (fun _ _ _ h => h) (by rfl) ?y59 (by assumption) ?r59
  case y59 => (intro w hSw; (try dsimp only at hSw); go_simp <;> with_reducible rfl)
  simp only [Act.put, sl0, sl1, sl2]
  refine take_yes (i := 63) (d := 121) (v := ?v60) rfl rfl (by kernel_rfl) (by kernel_rfl) (by kernel_rfl) (fun _ _ _ h => h) (by rfl) ?y60 (by assumption) ?r60
  case y60 => (intro w hSw; (try dsimp only at hSw); go_simp <;> with_reducible rfl)
  simp only [Act.put, sl0, sl1, sl2]
  refine take_yes (i := 64) (d := 122) (v := ?v61) rfl rfl (by kernel_rfl) (by kernel_rfl) (by kernel_rfl) (fun _ _ _ h => h) (by rfl) ?y61 (by assumption) ?r61
  case y61 => (intro w hSw; (try dsimp only at hSw); go_simp <;> with_reducible rfl)
  simp only [Act.put, sl0, sl1, sl2]
  refine take_yes (i := 65) (d := 123) (v := ?v62) rfl rfl (by kernel_rfl) (by kernel_rfl) (by kernel_rfl) (fun _ _ _ h => h) (by rfl) ?y62 (by assumption) ?r62
  case y62 => (intro w hSw; (try dsimp only at hSw); go_simp <;> with_reducible rfl)
  simp only [Act.put, sl0, sl1, sl2]
  refine take_yes (i := 66) (d := 124) (v := ?v63) rfl rfl (by kernel_rfl) (by kernel_rfl) (by kernel_rfl) (fun _ _ _ h => h) (by rfl) ?y63 (by assumption) ?r63
  case y63 => (intro w hSw; (try dsimp only at hSw); go_simp <;> with_reducible rfl)
  simp only [Act.put, sl0, sl1, sl2]
  refine take_yes (i := 67) (d := 125) (v := ?v64) rfl rfl (by kernel_rfl) (by kernel_rfl) (by kernel_rfl) (fun _ _ _ h => h) (by rfl) ?y64 (by assumption) ?r64
  case y64 => (intro w hSw; (try dsimp only at hSw); go_simp <;> with_reducible rfl)
  simp only [Act.put, sl0, sl1, sl2]
  refine take_yes (i := 68) (d := 126) (v := ?v65) rfl rfl (by kernel_rfl) (by kernel_rfl) (by kernel_rfl) (fun _ _ _ h => h) (by rfl) ?y65 (by assumption) ?r65
  case y65 => (intro w hSw; (try dsimp only at hSw); go_simp <;> with_reducible rfl)
  simp only [Act.put, sl0, sl1, sl2]
  refine take_yes (i := 69) (d := 127) (v := ?v66) rfl rfl (by kernel_rfl) (by kernel_rfl) (by kernel_rfl) (fun _ _ _ h => h) (by rfl) ?y66 (by assumption) ?r66
  case y66 => (intro w hSw; (try dsimp only at hSw); go_simp <;> with_reducible rfl)
  simp only [Act.put, sl0, sl1, sl2]
  refine take_yes (i := 70) (d := 128) (v := ?v67) rfl rfl (by kernel_rfl) (by kernel_rfl) (by kernel_rfl) (fun _ _ _ h => h) (by rfl) ?y67 (by assumption) ?r67
  case y67 => (intro w hSw; (try dsimp only at hSw); go_simp <;> with_reducible rfl)
  simp only [Act.put, sl0, sl1, sl2]
  refine wpAnyH_ready (rs := [71]) (by kernel_rfl) (by simp) ?_
  refine AllReadyH.cons rfl (fun K hK => ?_) AllReadyH.nil
  go_simp
  go_at_call 14; refine (KR5.out _ hz4).mono ?_
  rintro e w5 ⟨rfl, hb5⟩
  have hz5 := bl_trans hz4 hb5
  refine hK.out _ _ (HSC.out _ hz5) (fun hHeld => ?_)
  clear hK K
  try simp only [Act.put, sl0, sl1, sl2]
  refine take_yes (i := 72) (d := 130) (v := ?v68) rfl rfl (by kernel_rfl) (by kernel_rfl) (by kernel_rfl) (fun _ _ _ h => h) (by rfl) ?y68 (by assumption) ?r68
  case y68 => (intro w hSw; (try dsimp only at hSw); go_simp <;> with_reducible rfl)
  simp only [Act.put, sl0, sl1, sl2]
  refine take_yes (i := 73) (d := 131) (v := ?v69) rfl rfl (by kernel_rfl) (by kernel_rfl) (by kernel_rfl) (fun _ _ _ h => h) (by rfl) ?y69 (by assumption) ?r69
  case y69 => (intro w hSw; (try dsimp only at hSw); go_simp <;> with_reducible rfl)
  simp only [Act.put, sl0, sl1, sl2]
  refine take_yes (i := 74) (d := 132) (v := ?v70) rfl rfl (by kernel_rfl) (by kernel_rfl) (by kernel_rfl) (fun _ _ _ h => h) (by rfl) ?y70 (by assumption) ?r70
  case y70 => (intro w hSw; (try dsimp only at hSw); go_simp <;> with_reducible rfl)
  simp only [Act.put, sl0, sl1, sl2]
  refine take_yes (i := 75) (d := 133) (v := ?v71) rfl rfl (by kernel_rfl) (by kernel_rfl) (by kernel_rfl) (fun _ _ _ h => h) (by rfl) ?y71 (by assumption) ?r71
  case y71 => (intro w hSw; (try dsimp only at hSw); go_simp <;> with_reducible rfl)
  simp only [Act.put, sl0, sl1, sl2]
  refine take_yes (i := 76) (d := 134) (v := ?v72) rfl rfl (by kernel_rfl) (by kernel_rfl) (by kernel_rfl) (fun _ _ _ h => h) (by rfl) ?y72 (by assumption) ?r72
  case y72 => (intro w hSw; (try dsimp only at hSw); go_simp <;> with_reducible rfl)
  simp only [Act.put, sl0, sl1, sl2]
  refine take_yes (i := 77) (d := 135) (v := ?v73) rfl rfl (by kernel_rfl) (by kernel_rfl) (by kernel_rfl) (fun _ _ _ h => h) (by rfl) ?y73 (by assumption) ?r73
  case y73 => (intro w hSw; (try dsimp only at hSw); go_simp <;> with_reducible rfl)
  simp only [Act.put, sl0, sl1, sl2]
  refine take_yes (i := 78) (d := 136) (v := ?v74) rfl rfl (by kernel_rfl) (by kernel_rfl) (by kernel_rfl) (fun _ _ _ h => h) (by rfl) ?y74 (by assumption) ?r74
  case y74 => (intro w hSw; (try dsimp only at hSw); go_simp <;> with_reducible rfl)
  simp only [Act.put, sl0, sl1, sl2]
  refine take_yes (i := 79) (d := 137) (v := ?v75) rfl rfl (by kernel_rfl) (by kernel_rfl) (by kernel_rfl) (fun _ _ _ h => h) (by rfl) ?y75 (by assumption) ?r75
  case y75 => (intro w hSw; (try dsimp only at hSw); go_simp <;> with_reducible rfl)
  simp only [Act.put, sl0, sl1, sl2]
  refine take_yes (i := 80) (d := 138) (v := ?v76) rfl rfl (by kernel_rfl) (by kernel_rfl) (by kernel_rfl) (fun _ _ _ h => h) (by rfl) ?y76 (by assumption) ?r76
  case y76 => (intro w hSw; (try dsimp only at hSw); go_simp <;> with_reducible rfl)
  simp only [Act.put, sl0, sl1, sl2]
  refine take_yes (i := 81) (d := 139) (v := ?v77) rfl rfl (by kernel_rfl) (by kernel_rfl) (by kernel_rfl) (fun _ _ _ h => h) (by rfl) ?y77 (by assumption) ?r77
  case y77 => (intro w hSw; (try dsimp only at hSw); go_simp <;> with_reducible rfl)
  simp only [Act.put, sl0, sl1, sl2]
  refine take_yes (i := 82) (d := 140) (v := ?v78) rfl rfl (by kernel_rfl) (by kernel_rfl) (by kernel_rfl) (fun _ _ _ h => h) (by rfl) ?y78 (by assumption) ?r78
  case y78 => (intro w hSw; (try dsimp only at hSw); go_simp <;> with_reducible rfl)
  simp only [Act.put, sl0, sl1, sl2]
  refine wpAnyH_done (by kernel_rfl) ?_ _
  replace HB := Lib.hid (HB.out.keep hz5)
  replace HY := Lib.hid (HY.out.keep hz5)
  replace HG1 := Lib.hid (HG1.out.keep hz5)
  clear hb1 hz1 hb2 hz2 hb3 hz3 hb4 hz4 hb5 hz5 HSC HZ0 HS1 KR1 KR2 KR3 KR4 KR5
  exact ⟨_, _, _, _, _, _, _, _, _, _, _, _, _, _, _, _, _, _, _, _, _, _, _, _, _, _, _, _, _, _, _, _, _, _, _, _, _, _, _, _, _, _, _, _, _, _, _, _, _, _, _, _, _, _, _, _, _, _, _, _, _, _, _, _, _, _, _, _, _, _, _, _, _, _, _, _, _, _, _, _, _, _, _, _, _, _, _, _, _, _, _, _, _, _, _, _, _, _, _, _, _, _, _, _, _, _, _, _, _, _, _, _, _, _, _, _, _, _, _, _, _, _, _, _, _, _, _, _, _, _, _, _, _, _, _, _, _, _, _, _, _, _, _, _, _, _, _, _, _, _, _, _, _, _, _, _, _, _, _, _, _, _, _, _, _, _, _, _, _, _, _, _, _, _, _, _, _, _, _, _, _, _, _, _, _, _, _, _, _, _, _, _, _, _, _, _, _, _, _, _, ⟨rfl, HB, HY, HG1⟩, rfl⟩
end Go.Proofs.Ytncjfgebolikoaa
