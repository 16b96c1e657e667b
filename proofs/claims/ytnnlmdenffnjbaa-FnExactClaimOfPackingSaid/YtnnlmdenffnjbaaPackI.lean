/-
  Contracts: the least dominating set, the greatest packing, their gap, the claim of a packing: the program's.
-/
import Derived.Test.YtnnlmdenffnjbaaPackP
import Derived.Test.YtnnlmdenffnjbaaStore7
namespace Go.Proofs.Ytnnlmdenffnjbaa
open Go.RowKit

section
variable {A : Option Addr} {m c : Nat} {r : Nat → Nat}
set_option maxHeartbeats 1000000 in
theorem FewestDominating_v {w : World} (h : GV w A m c r) :
    Calls Try.prog 68 #[.agg #[.int .i64 m, .slice A m c]] w fun e w' => e = .returned (.int .i64 (fdN r m : Nat)) ∧ Below w.heap.size w w' := by
  have hq : Hid (fwI (fwK (domB r m) (2 ^ m)) = (fdN r m : Int)) := by show _ = _; rw [fd_some h.vg]; rfl
  obtain ⟨W, hW⟩ : ∃ W : World, W = (w.alloc (Obj.cells #[Value.int IntKind.i64 m, Value.slice A m c] 28)) := ⟨_, rfl⟩
  have HB : Hid (From w W) := by rw [hW]; exact From.alloc _ _
  have HG : Hid (GBox W w.heap.size A m c r) := by rw [hW]; exact h.box
  have HW := Lib.hid hW
  clear hW h
  have e0 := HG.out.c0
  have e1 := HG.out.c1
  go_enter Try.func68, Try.ntmps68
  go_wp2_with fail
  rw [← HW.out]
  refine (fewest_g (p := domB r m) (caps := #[]) (ent_of Try.func146 (by kernel_rfl) rfl) W HG.out.gv (fun s z hs hb => IsDominating_v (HG.out.gv.keep hb) hs)).mono ?_
  rintro e w1 ⟨rfl, hb1⟩
  clear HW
  clear e0 e1
  replace HB := Lib.hid (HB.out.keep hb1)
  replace HG := Lib.hid (HG.out.keep hb1)
  clear hb1
  have e0 := HG.out.c0
  have e1 := HG.out.c1
  rw [hq.out]
  go_wp2
  go_ret
  exact ⟨rfl, HB.out.below⟩

set_option maxHeartbeats 1000000 in
theorem LargestPacking_v {w : World} (h : GV w A m c r) :
    Calls Try.prog 69 #[.agg #[.int .i64 m, .slice A m c]] w fun e w' => e = .returned (.int .i64 (lpN r m : Nat)) ∧ Below w.heap.size w w' := by
  obtain ⟨W, hW⟩ : ∃ W : World, W = (w.alloc (Obj.cells #[Value.int IntKind.i64 m, Value.slice A m c] 28)) := ⟨_, rfl⟩
  have HB : Hid (From w W) := by rw [hW]; exact From.alloc _ _
  have HG : Hid (GBox W w.heap.size A m c r) := by rw [hW]; exact h.box
  have HW := Lib.hid hW
  clear hW h
  have e0 := HG.out.c0
  have e1 := HG.out.c1
  go_enter Try.func69, Try.ntmps69
  go_wp2_with fail
  rw [← HW.out]
  refine (largest_g (p := pakB r m) (caps := #[]) (ent_of Try.func148 (by kernel_rfl) rfl) W HG.out.gv (fun s z hs hb => IsPacking_v (HG.out.gv.keep hb) hs)).mono ?_
  rintro e w1 ⟨rfl, hb1⟩
  clear HW
  clear e0 e1
  replace HB := Lib.hid (HB.out.keep hb1)
  replace HG := Lib.hid (HG.out.keep hb1)
  clear hb1
  have e0 := HG.out.c0
  have e1 := HG.out.c1
  go_wp2
  go_ret
  exact ⟨rfl, HB.out.below⟩

end

set_option maxHeartbeats 1000000 in
theorem DominationGap_i (sz : Int) (A : Option Addr) (m c : Nat) (x : Nat → Int) (w : World) (h : GA w A m c x) (hm : m ≤ 1048576) :
    Calls Try.prog 67 #[.agg #[.int .i64 sz, .slice A m c]] w fun e w' => (∃ d : Int, e = .returned (.int .i64 d) ∧ (d == 0) = cpB sz m x) ∧ Below w.heap.size w w' := by
  obtain ⟨W, hW⟩ : ∃ W : World, W = (w.alloc (Obj.cells #[Value.int IntKind.i64 sz, Value.slice A m c] 28)) := ⟨_, rfl⟩
  have HB : Hid (From w W) := by rw [hW]; exact From.alloc _ _
  have HK := Lib.hid (h.keep HB.out.below)
  have HC : Hid (GC W w.heap.size sz A m c) := by rw [hW]; exact GC.new _ _ _ _ _
  have HW := Lib.hid hW
  clear hW h
  go_enter Try.func67, Try.ntmps67
  have e0 := HC.out.c0
  have e1 := HC.out.c1
  go_wp2_with fail
  rw [← HW.out]
  refine (IsGraph_any sz A m c x W W.heap.size HK.out.rd (Nat.le_refl _) hm).mono ?_
  rintro e w1 ⟨rfl, hb1⟩
  clear HW
  clear e0 e1
  replace HB := Lib.hid (HB.out.keep hb1)
  replace HK := Lib.hid (HK.out.keep hb1)
  replace HC := Lib.hid (HC.out.keep hb1)
  clear hb1
  have e0 := HC.out.c0
  have e1 := HC.out.c1
  cases ho : okB sz m x
  · have hno : Hid (cpB sz m x = false) := cpB_ok ho
    clear ho
    go_wp2
    go_ret
    exact ⟨⟨-1, rfl, hno.out.symm⟩, HB.out.below⟩
  · obtain ⟨_, es, vg0, _⟩ := okB_ok' ho
    subst es
    have hn7 := vg0.n7
    have h128 := two_pow_le hn7
    have HV : Hid (GV w1 A m c (rw_ x)) := HK.out.gv ho
    have hf := fd_lt HV.out.vg
    have hl := lp_lt (rw_ x) m
    have c1 := cn_le (fdN (rw_ x) m)
    have c2 := cn_le (lpN (rw_ x) m)
    have Ho := Lib.hid ho
    clear ho vg0
    go_wp2
    have HSC : Hid (∀ z : World, Below w1.heap.size w1 z → (Below w1.heap.size w1 z ∧ z.cell? ⟨w.heap.size, 0, none⟩ = some (.int .i64 m) ∧ z.cell? ⟨w.heap.size, 1, none⟩ = some (.slice A m c))) := fun z hz => ⟨hz, up_ hz e0, up_ hz e1⟩
    have HZ0 : Hid (Below w1.heap.size w1 w1.drew) := (Below.refl _ _).drew
    have HS1 := Lib.hid (HSC.out _ HZ0.out)
    have KR1 : Hid (∀ z : World, Below w1.heap.size w1 z → _) := fun z hz => FewestDominating_v (HV.out.keep hz)
    have KR2 : Hid (∀ z : World, Below w1.heap.size w1 z → _) := fun z hz => CountSet_v (fdN (rw_ x) m) (by omega) z
    have KR3 : Hid (∀ z : World, Below w1.heap.size w1 z → _) := fun z hz => LargestPacking_v (HV.out.keep hz)
    have KR4 : Hid (∀ z : World, Below w1.heap.size w1 z → _) := fun z hz => CountSet_v (lpN (rw_ x) m) (by omega) z
    go_region_held3 (fun z => Below w1.heap.size w1 z ∧ z.cell? ⟨w.heap.size, 0, none⟩ = some (.int .i64 m) ∧ z.cell? ⟨w.heap.size, 1, none⟩ = some (.slice A m c))
      (first | exact HS1.out | assumption | exact HSC.out _ hz5 | exact HSC.out _ hz4 | exact HSC.out _ hz3 | exact HSC.out _ hz2 | fail)
      (first | (go_at_call 68; ((with_reducible refine (KR1.out _ HZ0.out).mono ?_); rintro e w2 ⟨rfl, hb2⟩; have hz2 := bl_trans HZ0.out hb2)) | (go_at_call 105; ((with_reducible refine (KR2.out _ hz2).mono ?_); rintro e w3 ⟨rfl, hb3⟩; have hz3 := bl_trans hz2 hb3)) | (go_at_call 69; ((with_reducible refine (KR3.out _ hz3).mono ?_); rintro e w4 ⟨rfl, hb4⟩; have hz4 := bl_trans hz3 hb4)) | (go_at_call 105; ((with_reducible refine (KR4.out _ hz4).mono ?_); rintro e w5 ⟨rfl, hb5⟩; have hz5 := bl_trans hz4 hb5)))
    clear e0 e1
    replace HB := Lib.hid (HB.out.keep hz5)
    replace HK := Lib.hid (HK.out.keep hz5)
    replace HC := Lib.hid (HC.out.keep hz5)
    clear hb2 hz2 hb3 hz3 hb4 hz4 hb5 hz5 HSC HZ0 HS1 KR1 KR2 KR3 KR4
    have e0 := HC.out.c0
    have e1 := HC.out.c1
    have s1 : IntKind.i64.wrap ((cn (fdN (rw_ x) m) : Int) - cn (lpN (rw_ x) m)) = (cn (fdN (rw_ x) m) : Int) - cn (lpN (rw_ x) m) := Go.IntWalk.i64_in _ (by omega)
    have s2 : wrap64 ((cn (fdN (rw_ x) m) : Int) - cn (lpN (rw_ x) m)) = (cn (fdN (rw_ x) m) : Int) - cn (lpN (rw_ x) m) := Go.IntWalk.wrap64_in _ (by omega)
    have hd : Hid ((((cn (fdN (rw_ x) m) : Int) - cn (lpN (rw_ x) m)) == 0) = cpB (m : Int) m x) := by
      show _ = _
      unfold cpB
      rw [Ho.out, Bool.true_and, Bool.eq_iff_iff]
      simp only [beq_iff_eq]
      omega
    go_wp2
    go_ret
    exact ⟨⟨_, rfl, by first | exact hd.out | (rw [s1]; exact hd.out) | (rw [s2]; exact hd.out)⟩, HB.out.below⟩

set_option maxRecDepth 100000 in
set_option maxHeartbeats 1600000 in
theorem ClaimOfPacking_i (sz : Int) (A : Option Addr) (m c : Nat) (x : Nat → Int) (w : World) (B : Nat) (h : Rd w B A m c x) (hB : B ≤ w.heap.size) (hm : m ≤ 1048576) :
    Calls Try.prog 29 #[.agg #[.int .i64 sz, .slice A m c]] w fun e w' => ∃ k : Clm, e = .returned (.tuple #[.agg #[.int .i64 k.K, .int .i64 k.s, .slice k.A0 k.n0 k.c0, .string k.t, .slice k.A1 k.n1 k.c1, .slice k.A2 k.n2 k.c2, .slice k.A3 k.D.length k.c3], .bool (cpB sz m x)]) ∧ SameK k (cpK sz m x) ∧ ApK k ∧ OwnK w' w.heap.size w'.heap.size k ∧ Below w.heap.size w w' := by
  obtain ⟨W, hW⟩ : ∃ W : World, W = ((w.alloc (Obj.cells #[Value.int IntKind.i64 sz, Value.slice A m c] 28)).alloc (Obj.cells #[.int .i64 0, .int .i64 0, .slice none 0 0, .string ⟨#[]⟩, .slice none 0 0, .slice none 0 0, .slice none 0 0] 46)) := ⟨_, rfl⟩
  have HB : Hid (From w W) := by rw [hW]; exact (From.alloc _ _).alloc_ _
  have HK : Hid (GA W A m c x) := ⟨h.keep (HB.out.below.mono hB) (Nat.le_trans hB HB.out.below.size)⟩
  have HC : Hid (GC W w.heap.size sz A m c) := by rw [hW]; exact (GC.new _ _ _ _ _).keep ((Below.refl _ _).alloc (Nat.le_refl _) _)
  have HQ : Hid (KB W (w.heap.size + 1) zeroK) := by
    rw [hW]
    have := KB.new (w.alloc (Obj.cells #[Value.int IntKind.i64 sz, Value.slice A m c] 28))
    have e : (w.alloc (Obj.cells #[Value.int IntKind.i64 sz, Value.slice A m c] 28)).heap.size = w.heap.size + 1 := by simp
    rw [e] at this
    exact this
  have HW := Lib.hid hW
  clear hW h
  go_enter Try.func29, Try.ntmps29
  have e0 := HC.out.c0
  have e1 := HC.out.c1
  go_wp2_with fail
  rw [← HW.out]
  clear HW
  refine (DominationGap_i sz A m c x W HK.out hm).mono ?_
  rintro e w1 ⟨⟨d, rfl, hd⟩, hb1⟩
  clear e0 e1
  replace HB := Lib.hid (HB.out.keep hb1)
  replace HK := Lib.hid (HK.out.keep hb1)
  replace HC := Lib.hid (HC.out.keep hb1)
  replace HQ := Lib.hid (HQ.out.keep hb1)
  clear hb1
  have e0 := HC.out.c0
  have e1 := HC.out.c1
  have q0 := HQ.out.c0
  have q1 := HQ.out.c1
  have q2 := HQ.out.c2
  have q3 := HQ.out.c3
  have q4 := HQ.out.c4
  have q5 := HQ.out.c5
  have q6 := HQ.out.c6
  have g0 := HQ.out.f0
  have g1 := HQ.out.f1
  have g2 := HQ.out.f2
  have g3 := HQ.out.f3
  have g4 := HQ.out.f4
  have g5 := HQ.out.f5
  have g6 := HQ.out.f6
  cases hc : cpB sz m x
  · have hne : (d != 0) = true := by rw [hc] at hd; simpa using hd
    have hz : Hid (cpK sz m x = zeroK) := cpK_no hc
    have Hc := Lib.hid hc
    clear hd hc
    go_wp2
    have F := fr7 w1 (w.heap.size + 1) zeroK
    have HB2 := HB.out.set7 (q := w.heap.size + 1) (by omega) zeroK
    exact bodyPost_ret (v := .tuple #[.agg #[.int .i64 0, .int .i64 0, .slice none 0 0, .string ⟨#[]⟩, .slice none 0 0, .slice none 0 0, .slice none 0 0], .bool false]) (by simp [results, Try.results29, go_sem, *]) rfl ⟨zeroK, by rw [Hc.out]; rfl, by rw [hz.out]; exact ⟨rfl, rfl, rfl, rfl, rfl, rfl, rfl, rfl, rfl, rfl⟩, ApK.zero, OwnK.zero _ _ _, HB2.below⟩
  · have hne : (d != 0) = false := by rw [hc] at hd; simpa using hd
    have ho : okB sz m x = true := by
      cases h : okB sz m x
      · rw [cpB_ok h] at hc; cases hc
      · rfl
    obtain ⟨_, es, vg0, _⟩ := okB_ok' ho
    subst es
    have HV : Hid (GV w1 A m c (rw_ x)) := HK.out.gv ho
    have hz : Hid (cpK (m : Int) m x = _) := cpK_yes hc
    have Hc := Lib.hid hc
    have HL : Hid (w.heap.size + 1 ≤ w1.heap.size) := Nat.le_of_lt HQ.out.lt
    have HSC : Hid (∀ z : World, Below (w.heap.size + 1) w1 z → (Below (w.heap.size + 1) w1 z ∧ z.cell? ⟨w.heap.size, 0, none⟩ = some (.int .i64 m) ∧ z.cell? ⟨w.heap.size, 1, none⟩ = some (.slice A m c))) := fun z hz => ⟨hz, up hz e0 (Nat.lt_succ_self _), up hz e1 (Nat.lt_succ_self _)⟩
    have HZ0 : Hid (Below w1.heap.size w1 w1.drew) := (Below.refl _ _).drew
    have HS1 := Lib.hid (HSC.out _ (HZ0.out.mono HL.out))
    have KR1 : Hid (∀ z : World, Below w1.heap.size w1 z → _) := fun z hz => copyGraph_any (m : Int) A m c x z z.heap.size (HK.out.keep hz).rd (Nat.le_refl _) hm
    have KR2 : Hid (∀ z : World, Below w1.heap.size w1 z → _) := fun z hz => FewestDominating_v (HV.out.keep hz)
    have KR3 : Hid (∀ z : World, Below w1.heap.size w1 z → _) := fun z hz => LargestPacking_v (HV.out.keep hz)
    clear hd hc ho vg0 q0 q1 q2 q3 q4 q5 q6 g0 g1 g2 g3 g4 g5 g6
    have HQ1 := HQ
    obtain ⟨fd, hfd⟩ : ∃ v, v = fdN (rw_ x) m := ⟨_, rfl⟩
    obtain ⟨lp, hlp⟩ : ∃ v, v = lpN (rw_ x) m := ⟨_, rfl⟩
    rw [← hfd] at KR2
    rw [← hlp] at KR3
    rw [← hfd, ← hlp] at hz
    clear hfd hlp
    go_wp2
    go_region_held3 (fun z => Below (w.heap.size + 1) w1 z ∧ z.cell? ⟨w.heap.size, 0, none⟩ = some (.int .i64 m) ∧ z.cell? ⟨w.heap.size, 1, none⟩ = some (.slice A m c))
      (with_reducible (first | exact HS1.out | assumption | exact HSC.out _ (hz2.mono HL.out) | exact HSC.out _ (hz3.mono HL.out) | exact HSC.out _ (hz4.mono HL.out) | exact HSC.out _ ((bl_alloc hz3).mono HL.out) | exact HSC.out _ ((bl_alloc hz4).mono HL.out) | exact HSC.out _ ((bl_alloc (bl_alloc hz4)).mono HL.out) | exact HSC.out _ (balloc HL.out (bset (bset (bset (bset (bset (bset (bset (hz4.mono HL.out))))))))) | exact HSC.out _ (balloc HL.out (balloc HL.out (bset (bset (bset (bset (bset (bset (bset (hz4.mono HL.out)))))))))) | fail))
      (first
        | (go_at_call 55; ((with_reducible refine (KR1.out _ HZ0.out).mono ?_); rintro e w2 ⟨A2, c2, rfl, hO2, hb2⟩; have hz2 := bl_trans HZ0.out hb2))
        | (go_at_call 68; ((with_reducible refine (KR2.out _ hz2).mono ?_); rintro e w3 ⟨rfl, hb3⟩; have hz3 := bl_trans hz2 hb3))
        | (go_at_call 69; ((with_reducible refine (KR3.out _ hz3).mono ?_); rintro e w4 ⟨rfl, hb4⟩; have hz4 := bl_trans hz3 hb4; have hq4 := HQ1.out.keep hz4; have q0 := hq4.c0; have q1 := hq4.c1; have q2 := hq4.c2; have q3 := hq4.c3; have q4 := hq4.c4; have q5 := hq4.c5; have q6 := hq4.c6; have r0 := hq4.f0; have r1 := hq4.f1; have r2 := hq4.f2; have r3 := hq4.f3; have r4 := hq4.f4; have r5 := hq4.f5; have r6 := hq4.f6; have hlt4 := hq4.lt; have hlt5 : w.heap.size < w4.heap.size := by omega))
        | (go_at_call 69; ((with_reducible refine (KR3.out _ (bl_alloc hz3)).mono ?_); rintro e w4 ⟨rfl, hb4⟩; have hz4 := bl_trans (bl_alloc hz3) hb4; have hnA := (own_one w3 (fd : Int)).keepB hb4 (by simp); have hq4 := HQ1.out.keep hz4; have q0 := hq4.c0; have q1 := hq4.c1; have q2 := hq4.c2; have q3 := hq4.c3; have q4 := hq4.c4; have q5 := hq4.c5; have q6 := hq4.c6; have r0 := hq4.f0; have r1 := hq4.f1; have r2 := hq4.f2; have r3 := hq4.f3; have r4 := hq4.f4; have r5 := hq4.f5; have r6 := hq4.f6; have hlt4 := hq4.lt; have hlt5 : w.heap.size < w4.heap.size := by omega))
        | fail)
    all_goals
      clear q0 q1 q2 q3 q4 q5 q6 r0 r1 r2 r3 r4 r5 r6 hlt4 hlt5
      first
        | (obtain ⟨Y, hY⟩ : ∃ Y : World, Y = st7 w4 (w.heap.size + 1) (.int .i64 6) (.int .i64 m) (.slice A2 m c2) (.string ⟨#[]⟩) (.slice (some ⟨w3.heap.size, 0, none⟩) 1 1) (.slice (some ⟨w4.heap.size, 0, none⟩) 1 1) (.slice none 0 0) := ⟨_, rfl⟩
           have hKY : KB Y (w.heap.size + 1) (mk7 6 m A2 m c2 x ⟨#[]⟩ (some ⟨w3.heap.size, 0, none⟩) 1 1 (fun _ => (fd : Int)) (some ⟨w4.heap.size, 0, none⟩) 1 1 (fun _ => (lp : Int))) := by rw [hY]; exact hq4.mk7 ..
           have hFY : Fr (w.heap.size + 1) (w.heap.size + 1 + 1) w4 Y := by rw [hY]; exact fr_st7 ..
           have hYs : Y.heap.size = w4.heap.size := by rw [hY]; simp [st7, World.setCell]
           have hb3s := hb3.size
           have hb4s := hb4.size
           unfold st7 at hY
           rw [← hY]
           obtain ⟨Z, hZ⟩ : ∃ Z : World, Z = Y.alloc (Obj.cells #[.int .i64 (lp : Int)] 3) := ⟨_, rfl⟩
           rw [← hZ]
           simp at hb4s
           have HKZ : Hid (∃ g1 g2, g1 ≠ g2 ∧ w2.heap.size ≤ g1 ∧ w2.heap.size ≤ g2 ∧ KB Z (w.heap.size + 1) (mk7 6 m A2 m c2 x ⟨#[]⟩ (some ⟨g1, 0, none⟩) 1 1 (fun _ => (fd : Int)) (some ⟨g2, 0, none⟩) 1 1 (fun _ => (lp : Int))) ∧ Own Z w2.heap.size Z.heap.size 3 1 (some ⟨g1, 0, none⟩) 1 1 (fun _ => .int .i64 (fd : Int)) ∧ Own Z w2.heap.size Z.heap.size 3 1 (some ⟨g2, 0, none⟩) 1 1 (fun _ => .int .i64 (lp : Int))) := by
             refine ⟨w3.heap.size, w4.heap.size, by omega, by omega, by omega, ?_, ?_, ?_⟩
             · rw [hZ]; exact hKY.keep (by with_reducible first | exact bl_alloc (Below.refl _ _) | exact bl_alloc (bl_alloc (Below.refl _ _)))
             · rw [hZ]; exact ((hnA.keep hFY (.inr (by have := HQ1.out.lt; have := hz3.size; omega))).alloc _).mono hb3s (by simp; omega)
             · rw [hZ]; exact (own_one' Y _ hYs).mono (by omega) (by simp; omega)
           have HO0 : Hid (Own Z w1.heap.size w2.heap.size 3 1 A2 m c2 (fun j => .int .i64 (x j))) := by
             rw [hZ]
             exact ((((hO2.mono (by have := HZ0.out.size; omega) (Nat.le_refl _)).keepB (bl_trans (bl_alloc hb3) hb4) (Nat.le_refl _)).keep hFY (.inr HQ1.out.lt)).alloc _)
           have HZB : Hid (Below (w.heap.size + 1) w1 Z) := by refine Lib.hid ?_; rw [hZ, hY]; with_reducible first | exact balloc HL.out (bset (bset (bset (bset (bset (bset (bset (hz4.mono HL.out)))))))) | exact balloc HL.out (balloc HL.out (bset (bset (bset (bset (bset (bset (bset (hz4.mono HL.out)))))))))
           have hZs : w2.heap.size ≤ Z.heap.size := by rw [hZ]; simp; omega
           clear hY hZ hKY hFY hYs hb3s hb4s)
        | (obtain ⟨Y, hY⟩ : ∃ Y : World, Y = st7 w4 (w.heap.size + 1) (.int .i64 6) (.int .i64 m) (.slice A2 m c2) (.string ⟨#[]⟩) (.slice (some ⟨w4.heap.size, 0, none⟩) 1 1) (.slice (some ⟨w4.heap.size + 1, 0, none⟩) 1 1) (.slice none 0 0) := ⟨_, rfl⟩
           have hKY : KB Y (w.heap.size + 1) (mk7 6 m A2 m c2 x ⟨#[]⟩ (some ⟨w4.heap.size, 0, none⟩) 1 1 (fun _ => (fd : Int)) (some ⟨w4.heap.size + 1, 0, none⟩) 1 1 (fun _ => (lp : Int))) := by rw [hY]; exact hq4.mk7 ..
           have hFY : Fr (w.heap.size + 1) (w.heap.size + 1 + 1) w4 Y := by rw [hY]; exact fr_st7 ..
           have hYs : Y.heap.size = w4.heap.size := by rw [hY]; simp [st7, World.setCell]
           have hb3s := hb3.size
           have hb4s := hb4.size
           unfold st7 at hY
           rw [← hY]
           obtain ⟨Z, hZ⟩ : ∃ Z : World, Z = (Y.alloc (Obj.cells #[.int .i64 (fd : Int)] 3)).alloc (Obj.cells #[.int .i64 (lp : Int)] 3) := ⟨_, rfl⟩
           rw [← hZ]
           have HKZ : Hid (∃ g1 g2, g1 ≠ g2 ∧ w2.heap.size ≤ g1 ∧ w2.heap.size ≤ g2 ∧ KB Z (w.heap.size + 1) (mk7 6 m A2 m c2 x ⟨#[]⟩ (some ⟨g1, 0, none⟩) 1 1 (fun _ => (fd : Int)) (some ⟨g2, 0, none⟩) 1 1 (fun _ => (lp : Int))) ∧ Own Z w2.heap.size Z.heap.size 3 1 (some ⟨g1, 0, none⟩) 1 1 (fun _ => .int .i64 (fd : Int)) ∧ Own Z w2.heap.size Z.heap.size 3 1 (some ⟨g2, 0, none⟩) 1 1 (fun _ => .int .i64 (lp : Int))) := by
             refine ⟨w4.heap.size, w4.heap.size + 1, by omega, by omega, by omega, ?_, ?_, ?_⟩
             · rw [hZ]; exact hKY.keep (by with_reducible first | exact bl_alloc (Below.refl _ _) | exact bl_alloc (bl_alloc (Below.refl _ _)))
             · rw [hZ]; exact ((own_one' Y _ hYs).alloc _).mono (by omega) (by simp; omega)
             · rw [hZ]; exact (own_one' (Y.alloc _) _ (by simp; omega)).mono (by omega) (by simp; omega)
           have HO0 : Hid (Own Z w1.heap.size w2.heap.size 3 1 A2 m c2 (fun j => .int .i64 (x j))) := by
             rw [hZ]
             exact (((((hO2.mono (by have := HZ0.out.size; omega) (Nat.le_refl _)).keepB (bl_trans hb3 hb4) (Nat.le_refl _)).keep hFY (.inr HQ1.out.lt)).alloc _).alloc _)
           have HZB : Hid (Below (w.heap.size + 1) w1 Z) := by refine Lib.hid ?_; rw [hZ, hY]; with_reducible first | exact balloc HL.out (bset (bset (bset (bset (bset (bset (bset (hz4.mono HL.out)))))))) | exact balloc HL.out (balloc HL.out (bset (bset (bset (bset (bset (bset (bset (hz4.mono HL.out)))))))))
           have hZs : w2.heap.size ≤ Z.heap.size := by rw [hZ]; simp; omega
           clear hY hZ hKY hFY hYs hb3s hb4s)
        | (obtain ⟨Y, hY⟩ : ∃ Y : World, Y = st7 w4 (w.heap.size + 1) (.int .i64 6) (.int .i64 m) (.slice A2 m c2) (.string ⟨#[]⟩) (.slice (some ⟨w4.heap.size + 1, 0, none⟩) 1 1) (.slice (some ⟨w4.heap.size, 0, none⟩) 1 1) (.slice none 0 0) := ⟨_, rfl⟩
           have hKY : KB Y (w.heap.size + 1) (mk7 6 m A2 m c2 x ⟨#[]⟩ (some ⟨w4.heap.size + 1, 0, none⟩) 1 1 (fun _ => (fd : Int)) (some ⟨w4.heap.size, 0, none⟩) 1 1 (fun _ => (lp : Int))) := by rw [hY]; exact hq4.mk7 ..
           have hFY : Fr (w.heap.size + 1) (w.heap.size + 1 + 1) w4 Y := by rw [hY]; exact fr_st7 ..
           have hYs : Y.heap.size = w4.heap.size := by rw [hY]; simp [st7, World.setCell]
           have hb3s := hb3.size
           have hb4s := hb4.size
           unfold st7 at hY
           rw [← hY]
           obtain ⟨Z, hZ⟩ : ∃ Z : World, Z = (Y.alloc (Obj.cells #[.int .i64 (lp : Int)] 3)).alloc (Obj.cells #[.int .i64 (fd : Int)] 3) := ⟨_, rfl⟩
           rw [← hZ]
           have HKZ : Hid (∃ g1 g2, g1 ≠ g2 ∧ w2.heap.size ≤ g1 ∧ w2.heap.size ≤ g2 ∧ KB Z (w.heap.size + 1) (mk7 6 m A2 m c2 x ⟨#[]⟩ (some ⟨g1, 0, none⟩) 1 1 (fun _ => (fd : Int)) (some ⟨g2, 0, none⟩) 1 1 (fun _ => (lp : Int))) ∧ Own Z w2.heap.size Z.heap.size 3 1 (some ⟨g1, 0, none⟩) 1 1 (fun _ => .int .i64 (fd : Int)) ∧ Own Z w2.heap.size Z.heap.size 3 1 (some ⟨g2, 0, none⟩) 1 1 (fun _ => .int .i64 (lp : Int))) := by
             refine ⟨w4.heap.size + 1, w4.heap.size, by omega, by omega, by omega, ?_, ?_, ?_⟩
             · rw [hZ]; exact hKY.keep (by with_reducible first | exact bl_alloc (Below.refl _ _) | exact bl_alloc (bl_alloc (Below.refl _ _)))
             · rw [hZ]; exact (own_one' (Y.alloc _) _ (by simp; omega)).mono (by omega) (by simp; omega)
             · rw [hZ]; exact ((own_one' Y _ hYs).alloc _).mono (by omega) (by simp; omega)
           have HO0 : Hid (Own Z w1.heap.size w2.heap.size 3 1 A2 m c2 (fun j => .int .i64 (x j))) := by
             rw [hZ]
             exact (((((hO2.mono (by have := HZ0.out.size; omega) (Nat.le_refl _)).keepB (bl_trans hb3 hb4) (Nat.le_refl _)).keep hFY (.inr HQ1.out.lt)).alloc _).alloc _)
           have HZB : Hid (Below (w.heap.size + 1) w1 Z) := by refine Lib.hid ?_; rw [hZ, hY]; with_reducible first | exact balloc HL.out (bset (bset (bset (bset (bset (bset (bset (hz4.mono HL.out)))))))) | exact balloc HL.out (balloc HL.out (bset (bset (bset (bset (bset (bset (bset (hz4.mono HL.out)))))))))
           have hZs : w2.heap.size ≤ Z.heap.size := by rw [hZ]; simp; omega
           clear hY hZ hKY hFY hYs hb3s hb4s)
        | fail
    all_goals
      obtain ⟨g1, g2, hne, hg1, hg2, hKZ, hO1, hO2'⟩ := HKZ.out
      have q0 : Z.cell? ⟨w.heap.size + 1, 0, none⟩ = some (.int .i64 6) := hKZ.c0
      have q1 : Z.cell? ⟨w.heap.size + 1, 1, none⟩ = some (.int .i64 m) := hKZ.c1
      have q2 : Z.cell? ⟨w.heap.size + 1, 2, none⟩ = some (.slice A2 m c2) := hKZ.c2
      have q3 : Z.cell? ⟨w.heap.size + 1, 3, none⟩ = some (.string ⟨#[]⟩) := hKZ.c3
      have q4 : Z.cell? ⟨w.heap.size + 1, 4, none⟩ = some (.slice (some ⟨g1, 0, none⟩) 1 1) := hKZ.c4
      have q5 : Z.cell? ⟨w.heap.size + 1, 5, none⟩ = some (.slice (some ⟨g2, 0, none⟩) 1 1) := hKZ.c5
      have q6 : Z.cell? ⟨w.heap.size + 1, 6, none⟩ = some (.slice none 0 0) := hKZ.c6
      have H1 := Lib.hid hO1
      have H2 := Lib.hid hO2'
      have hzl := HL.out
      have hz02 := Nat.le_trans HZ0.out.size hb2.size
      have hz01 := HB.out.below.size
      have hap : ApK (mk7 6 m A2 m c2 x ⟨#[]⟩ (some ⟨g1, 0, none⟩) 1 1 (fun _ => (fd : Int)) (some ⟨g2, 0, none⟩) 1 1 (fun _ => (lp : Int))) := by
        have hA : ∀ a, A2 = some a → a.block < w2.heap.size := fun a ha => by
          rcases HO0.out.at_block with h | ⟨g, h, _, h2⟩
          · rw [h] at ha; cases ha
          · rw [h] at ha; injection ha with ha; rw [← ha]; exact h2
        refine ⟨fun a ha e => ?_, fun a ha e => ?_, fun a ha e => ?_, (fun d hd => by cases hd), (fun d hd => by cases hd), (fun d hd => by cases hd)⟩
        · have h1 := hA a ha
          have h2 : (⟨g1, 0, none⟩ : Addr) = a := by injection e
          rw [← h2] at h1; exact absurd h1 (by show ¬ g1 < _; omega)
        · have h1 := hA a ha
          have h2 : (⟨g2, 0, none⟩ : Addr) = a := by injection e
          rw [← h2] at h1; exact absurd h1 (by show ¬ g2 < _; omega)
        · have h1 : (⟨g1, 0, none⟩ : Addr) = a := by injection ha
          have h2 : (⟨g2, 0, none⟩ : Addr) = a := by injection e
          rw [← h1] at h2
          injection h2 with h3
          exact hne h3.symm
      clear hKZ hO1 hO2' HKZ
      go_wp2
      exact bodyPost_ret (v := .tuple #[.agg #[.int .i64 6, .int .i64 m, .slice A2 m c2, .string ⟨#[]⟩, .slice (some ⟨g1, 0, none⟩) 1 1, .slice (some ⟨g2, 0, none⟩) 1 1, .slice none 0 0], .bool true]) (by simp [results, Try.results29, go_sem, *]) rfl ⟨(mk7 6 m A2 m c2 x ⟨#[]⟩ (some ⟨g1, 0, none⟩) 1 1 (fun _ => (fd : Int)) (some ⟨g2, 0, none⟩) 1 1 (fun _ => (lp : Int))), by rw [Hc.out]; rfl, by rw [hz.out]; exact ⟨rfl, rfl, rfl, rfl, rfl, rfl, rfl, rfl, rfl, rfl⟩, hap, ⟨HO0.out.mono (by omega) hZs, H1.out.mono (by omega) (Nat.le_refl _), H2.out.mono (by omega) (Nat.le_refl _), OwnD.nil_ _ _ _⟩, HB.out.below.trans (HZB.out.mono (Nat.le_succ _))⟩
end Go.Proofs.Ytnnlmdenffnjbaa
