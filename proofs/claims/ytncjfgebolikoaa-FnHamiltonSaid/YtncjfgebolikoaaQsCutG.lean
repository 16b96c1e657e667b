/-
  Contracts: the vertices that cut; is a graph connected? (both sides)
-/
import Derived.Test.YtncjfgebolikoaaQsHmlU
import Derived.Test.YtncjfgebolikoaaQsWayG
import Derived.Test.YtncjfgebolikoaaQsToughT
namespace Go.Proofs.Ytncjfgebolikoaa
open Go.RowKit

theorem cvN_step {r : Nat → Nat} {m v : Nat} (h : cvB r m v = true) : bmK (cvB r m) (v + 1) = bmK (cvB r m) v ||| 2 ^ v := by rw [bmK, if_pos h]
theorem cvN_same {r : Nat → Nat} {m v : Nat} (h : cvB r m v = false) : bmK (cvB r m) (v + 1) = bmK (cvB r m) v := by rw [bmK, if_neg (by rw [h]; simp)]
section
variable {A : Option Addr} {m c : Nat} {r : Nat → Nat} {z : World}
theorem parts_v (h : GV z A m c r) {s : Nat} (hs : s < 2 ^ m) :
    Calls Try.prog 37 #[.agg #[.int .i64 m, .slice A m c], .int .i64 s] z fun e w' => ∃ A' c', e = .returned (.slice A' (np r s) c') ∧ Below z.heap.size z w' := by
  refine (parts_i m A c _ s z z.heap.size h.rd (Nat.le_refl _) h.ok hs).mono ?_
  rintro e w' ⟨A', c', n', rfl, hn, hb⟩
  rw [rw_cast] at hn
  subst hn
  exact ⟨A', c', rfl, hb⟩
theorem PartsOf_sv (h : GV z A m c r) {s : Nat} (hs : s < 2 ^ m) :
    Calls Try.prog 40 #[.agg #[.int .i64 m, .slice A m c], .int .i64 s] z fun e w' => ∃ A' c', e = .returned (.slice A' (np r s) c') ∧ Below z.heap.size z w' := by
  refine (PartsOf_s m A c _ s z z.heap.size h.rd (Nat.le_refl _) h.ok hs).mono ?_
  rintro e w' ⟨A', c', n', rfl, hn, hb⟩
  rw [rw_cast] at hn
  subst hn
  exact ⟨A', c', rfl, hb⟩
end
section
variable (sz : Int) (A : Option Addr) (m c : Nat) (x : Nat → Int) (w : World)
set_option maxRecDepth 100000 in
set_option maxHeartbeats 3200000 in
theorem CutVertices_i (h : GA w A m c x) (hm : m ≤ 1048576) :
    Calls Try.prog 15 #[.agg #[.int .i64 sz, .slice A m c]] w fun e w' => e = .returned (.int .i64 (cvI sz m x)) ∧ Below w.heap.size w w' := by
  obtain ⟨W, hW⟩ : ∃ W : World, W = (w.alloc (Obj.cells #[Value.int IntKind.i64 sz, Value.slice A m c] 26)) := ⟨_, rfl⟩
  have HB : Hid (From w W) := by rw [hW]; exact From.alloc _ _
  have HK := Lib.hid (h.keep HB.out.below)
  have HC : Hid (GC W w.heap.size sz A m c) := by rw [hW]; exact GC.new _ _ _ _ _
  have HW := Lib.hid hW
  clear hW h
  go_enter Try.func15, Try.ntmps15
  have e0 := HC.out.c0
  have e1 := HC.out.c1
  go_wp2_with fail
  rw [← HW.out]
  refine (IsGraph_any sz A m c x W W.heap.size HK.out.rd (Nat.le_refl _) hm).mono ?_
  rintro e w1 ⟨rfl, hb1⟩
  clear HW
  clear e0 e1
  replace HB := Lib.hid (HB.out.keep hb1)
  replace HK := Lib.hid (HK.out.keep hb1)
  replace HC := Lib.hid (HC.out.keep hb1)
  clear hb1
  have e0 := HC.out.c0
  have e1 := HC.out.c1
  cases ho : okB sz m x
  · have Hno : Hid (cvI sz m x = 0) := cvI_no ho
    clear ho
    go_wp2
    go_ret
    exact ⟨ret_int Hno.out.symm, HB.out.below⟩
  · have HY : Hid (cvI sz m x = ((bmK (cvB (rw_ x) m) m : Nat) : Int)) := cvI_yes ho
    obtain ⟨_, es, vg0, _⟩ := okB_ok' ho
    subst es
    have hn7 := vg0.n7
    have h128 := two_pow_le hn7
    have hpos := Nat.two_pow_pos m
    have HV : Hid (GV w1 A m c (rw_ x)) := GV.of HK.out.rd (Nat.le_refl _) ho
    obtain ⟨r, hr⟩ : ∃ r, r = rw_ x := ⟨_, rfl⟩
    rw [← hr] at HV HY
    obtain ⟨F, hF⟩ : ∃ F, F = 2 ^ m - 1 := ⟨_, rfl⟩
    have HF := Lib.hid hF
    clear ho vg0 hr hF HK
    go_wp2
    go_loopw [3, 10] (fun s i wr => ∃ v : Nat, v ≤ m ∧ i = .int .i64 v ∧ s = .int .i64 (bmK (cvB r m) v : Nat) ∧ Hid (From w1 wr)) (fun _ i _ => m - (intOf i).toNat)
    case atStart => exact ⟨0, Nat.zero_le _, rfl, rfl, From.refl _⟩
    case round =>
      obtain ⟨v, hv, rfl, rfl, HR⟩ := hrel
      by_cases hlt : v < m
      · have i1 : (v : Int) < (m : Int) := by omega
        have HCr := Lib.hid (HC.out.keep HR.out.below)
        have q0 := HCr.out.c0
        have q1 := HCr.out.c1
        have hv7 : 2 ^ v < 2 ^ m := Nat.pow_lt_pow_right (by omega) hlt
        have hsb : bmK (cvB r m) v < 2 ^ v := bmK_lt v
        obtain ⟨N, hN⟩ : ∃ N, N = F ^^^ 2 ^ v := ⟨_, rfl⟩
        have hN2 : N < 2 ^ m := by rw [hN, HF.out]; exact full_lt hn7 hv7
        have E1 := i64_andNot_nat F (2 ^ v) (by rw [HF.out]; omega) (by omega)
        have e2 : F &&& 2 ^ v = 2 ^ v := by rw [HF.out]; exact full_and hv7
        rw [e2, ← hN, pow_cast] at E1
        have p1 := pow_shl v (by omega)
        obtain ⟨k1, hk1⟩ : ∃ k, k = np r N := ⟨_, rfl⟩
        obtain ⟨k2, hk2⟩ : ∃ k, k = np r F := ⟨_, rfl⟩
        have Hd : Hid (cvB r m v = decide (k2 < k1)) := by show _ = _; unfold cvB; rw [hk1, hk2, hN, HF.out]
        have KA : Hid (∀ z : World, Below wr.heap.size wr z → Calls Try.prog 38 #[.agg #[.int .i64 m, .slice A m c]] z fun e w' => e = .returned (.int .i64 (F : Nat)) ∧ Below z.heap.size z w') := fun z hz => by rw [HF.out]; exact all_v ((HV.out.keep HR.out.below).keep hz)
        have KP1 : Hid (∀ z : World, Below wr.heap.size wr z → Calls Try.prog 37 #[.agg #[.int .i64 m, .slice A m c], .int .i64 N] z fun e w' => ∃ A' c', e = .returned (.slice A' k1 c') ∧ Below z.heap.size z w') := fun z hz => by rw [hk1]; exact parts_v ((HV.out.keep HR.out.below).keep hz) hN2
        have KP2 : Hid (∀ z : World, Below wr.heap.size wr z → Calls Try.prog 37 #[.agg #[.int .i64 m, .slice A m c], .int .i64 F] z fun e w' => ∃ A' c', e = .returned (.slice A' k2 c') ∧ Below z.heap.size z w') := fun z hz => by rw [hk2]; exact parts_v ((HV.out.keep HR.out.below).keep hz) (by rw [HF.out]; omega)
        have HR0 : Hid (From wr wr) := From.refl _
        clear hN hk1 hk2 e2 hN2
        have HSC : Hid (∀ z : World, Below wr.heap.size wr z → (Below wr.heap.size wr z ∧ z.cell? ⟨w.heap.size, 0, none⟩ = some (.int .i64 (m : Nat)) ∧ z.cell? ⟨w.heap.size, 1, none⟩ = some (.slice A m c))) := fun z hz => ⟨hz, up_ hz q0, up_ hz q1⟩
        have HZ0 : Hid (Below wr.heap.size wr wr.drew) := (Below.refl _ _).drew
        have HS1 := Lib.hid (HSC.out _ HZ0.out)
        have KR1 : Hid (∀ z : World, Below wr.heap.size wr z → _) := fun z hz => KA.out z hz
        have KR2 : Hid (∀ z : World, Below wr.heap.size wr z → _) := fun z hz => KP1.out z hz
        have KR3 : Hid (∀ z : World, Below wr.heap.size wr z → _) := fun z hz => KA.out z hz
        have KR4 : Hid (∀ z : World, Below wr.heap.size wr z → _) := fun z hz => KP2.out z hz
        go_wp2
        go_region_held3 (fun z => Below wr.heap.size wr z ∧ z.cell? ⟨w.heap.size, 0, none⟩ = some (.int .i64 (m : Nat)) ∧ z.cell? ⟨w.heap.size, 1, none⟩ = some (.slice A m c))
          (first | exact HS1.out | assumption | exact HSC.out _ hz5 | exact HSC.out _ hz4 | exact HSC.out _ hz3 | exact HSC.out _ hz2 | fail)
          (first | (go_at_call 38; ((with_reducible refine (KR1.out _ HZ0.out).mono ?_); rintro e w2 ⟨rfl, hb2⟩; have hz2 := bl_trans HZ0.out hb2)) | (go_at_call 37; ((with_reducible refine (KR2.out _ hz2).mono ?_); rintro e w3 ⟨A1, d1, rfl, hb3⟩; have hz3 := bl_trans hz2 hb3)) | (go_at_call 38; ((with_reducible refine (KR3.out _ hz3).mono ?_); rintro e w4 ⟨rfl, hb4⟩; have hz4 := bl_trans hz3 hb4)) | (go_at_call 37; ((with_reducible refine (KR4.out _ hz4).mono ?_); rintro e w5 ⟨A2, d2, rfl, hb5⟩; have hz5 := bl_trans hz4 hb5)))
        replace HR0 := Lib.hid (HR0.out.keep hz5)
        clear hb2 hz2 hb3 hz3 hb4 hz4 hb5 hz5 HSC HZ0 HS1 KR1 KR2 KR3 KR4
        have HRn := Lib.hid (HR.out.up HR0.out)
        clear KA KP1 KP2 HR HR0
        by_cases hlt2 : k2 < k1
        · have j1 : (k2 : Int) < (k1 : Int) := by omega
          have Hs := Lib.hid (cvN_step (Hd.out.trans (decide_eq_true hlt2)))
          have E := i64_or_nat (bmK (cvB r m) v) (2 ^ v) (by omega) (by omega)
          rw [← Hs.out, pow_cast] at E
          clear hlt2
          go_wp2
          go_roundw
          case rel => exact ⟨v + 1, by omega, by go_num, rfl, HRn⟩
          case measure => (simp [intOf] <;> omega)
        · have j1 : (k1 : Int) ≤ (k2 : Int) := by omega
          have Hs := Lib.hid (cvN_same (Hd.out.trans (decide_eq_false hlt2)))
          clear hlt2
          go_wp2
          go_roundw
          case rel => exact ⟨v + 1, by omega, by go_num, by rw [Hs.out], HRn⟩
          case measure => (simp [intOf] <;> omega)
      · obtain rfl : v = m := by omega
        have i1 : (v : Int) ≤ (v : Int) := Int.le_refl _
        go_wp2
        go_ret
        exact ⟨ret_int HY.out.symm, (HB.out.up HR.out).below⟩
set_option maxRecDepth 100000 in
set_option maxHeartbeats 3200000 in
theorem CutVertices_s (h : GA w A m c x) (hm : m ≤ 1048576) :
    Calls Try.prog 16 #[.agg #[.int .i64 sz, .slice A m c]] w fun e w' => e = .returned (.int .i64 (cvI sz m x)) ∧ Below w.heap.size w w' := by
  obtain ⟨W, hW⟩ : ∃ W : World, W = (w.alloc (Obj.cells #[Value.int IntKind.i64 sz, Value.slice A m c] 26)) := ⟨_, rfl⟩
  have HB : Hid (From w W) := by rw [hW]; exact From.alloc _ _
  have HK := Lib.hid (h.keep HB.out.below)
  have HC : Hid (GC W w.heap.size sz A m c) := by rw [hW]; exact GC.new _ _ _ _ _
  have HW := Lib.hid hW
  clear hW h
  cases ho : okB sz m x
  · have Hno : Hid (cvI sz m x = 0) := cvI_no ho
    have e0 := HC.out.c0
    have e1 := HC.out.c1
    have Ho := Lib.hid ho
    clear ho
    by_cases h0 : 0 < sz
    · go_enter Try.func16, Try.ntmps16
      go_wp2_with fail
      rw [← HW.out]
      clear HW
      refine wp_loop_rounds 1 ?_
      rw [rounds_succ]
      go_wp2_with fail
      refine (IsGraph_sany sz A m c x W W.heap.size HK.out.rd (Nat.le_refl _) hm).mono ?_
      rintro e w1 ⟨rfl, hb1⟩
      rw [Ho.out]
      have HB1 := Lib.hid (HB.out.keep hb1)
      clear hb1
      go_wp2
      go_ret
      exact ⟨ret_int Hno.out.symm, HB1.out.below⟩
    · have h1 : sz ≤ 0 := by omega
      clear h0
      go_enter Try.func16, Try.ntmps16
      go_wp2_with fail
      rw [← HW.out]
      clear HW
      refine wp_loop_rounds 1 ?_
      rw [rounds_succ]
      go_wp2
      go_ret
      exact ⟨ret_int Hno.out.symm, HB.out.below⟩
  · have HY : Hid (cvI sz m x = ((bmK (cvB (rw_ x) m) m : Nat) : Int)) := cvI_yes ho
    obtain ⟨_, es, vg0, _⟩ := okB_ok' ho
    subst es
    have hn7 := vg0.n7
    have h128 := two_pow_le hn7
    have hpos := Nat.two_pow_pos m
    have HV : Hid (GV W A m c (rw_ x)) := GV.of HK.out.rd (Nat.le_refl _) ho
    obtain ⟨r, hr⟩ : ∃ r, r = rw_ x := ⟨_, rfl⟩
    rw [← hr] at HV HY
    obtain ⟨F, hF⟩ : ∃ F, F = 2 ^ m - 1 := ⟨_, rfl⟩
    have HF := Lib.hid hF
    clear ho vg0 hr hF HK
    go_enter Try.func16, Try.ntmps16
    go_wp2_with fail
    rw [← HW.out]
    clear HW
    go_loopw [3, 4] (fun s i wr => ∃ v : Nat, v ≤ m ∧ i = .int .i64 v ∧ s = .int .i64 (bmK (cvB r m) v : Nat) ∧ Hid (From W wr)) (fun _ i _ => m - (intOf i).toNat)
    case atStart => exact ⟨0, Nat.zero_le _, rfl, rfl, From.refl _⟩
    case round =>
      obtain ⟨v, hv, rfl, rfl, HR⟩ := hrel
      have HCr := Lib.hid (HC.out.keep HR.out.below)
      have q0 := HCr.out.c0
      have q1 := HCr.out.c1
      by_cases hlt : v < m
      · have i1 : (v : Int) < (m : Int) := by omega
        have KG := Lib.hid (IsGraph_sv (HV.out.keep HR.out.below))
        go_wp2_with fail
        refine KG.out.mono ?_
        rintro e w2 ⟨rfl, hb2⟩
        replace HR := Lib.hid (HR.out.keep hb2)
        clear q0 q1 HCr hb2 KG
        have HCr := Lib.hid (HC.out.keep HR.out.below)
        have q0 := HCr.out.c0
        have q1 := HCr.out.c1
        have hv7 : 2 ^ v < 2 ^ m := Nat.pow_lt_pow_right (by omega) hlt
        have hsb : bmK (cvB r m) v < 2 ^ v := bmK_lt v
        obtain ⟨N, hN⟩ : ∃ N, N = F ^^^ 2 ^ v := ⟨_, rfl⟩
        have hN2 : N < 2 ^ m := by rw [hN, HF.out]; exact full_lt hn7 hv7
        have hNs : N = F - 2 ^ v := by rw [hN, HF.out, full_sub hn7 hv7]
        have p1 := pow_shl v (by omega)
        have p2 := pow_shl m hn7
        have pc : (2 : Int) ^ m = ((2 ^ m : Nat) : Int) := by simp
        have pv : (2 : Int) ^ v = ((2 ^ v : Nat) : Int) := by simp
        have s1 : IntKind.i64.wrap ((2 : Int) ^ m - 1) = (F : Int) := by
          have : (2 : Int) ^ m - 1 = (F : Int) := by rw [pc, HF.out]; omega
          rw [this]; exact Go.IntWalk.i64_in (F : Int) (by rw [HF.out]; omega)
        have s2 : IntKind.i64.wrap ((F : Int) - 2 ^ v) = (N : Int) := by
          have : (F : Int) - 2 ^ v = (N : Int) := by rw [pv, hNs, HF.out]; omega
          rw [this]; exact Go.IntWalk.i64_in (N : Int) (by omega)
        obtain ⟨k1, hk1⟩ : ∃ k, k = np r N := ⟨_, rfl⟩
        obtain ⟨k2, hk2⟩ : ∃ k, k = np r F := ⟨_, rfl⟩
        have Hd : Hid (cvB r m v = decide (k2 < k1)) := by show _ = _; unfold cvB; rw [hk1, hk2, hN, HF.out]
        have KP1 : Hid (∀ z : World, Below w2.heap.size w2 z → Calls Try.prog 40 #[.agg #[.int .i64 m, .slice A m c], .int .i64 N] z fun e w' => ∃ A' c', e = .returned (.slice A' k1 c') ∧ Below z.heap.size z w') := fun z hz => by rw [hk1]; exact PartsOf_sv ((HV.out.keep HR.out.below).keep hz) hN2
        have KP2 : Hid (∀ z : World, Below w2.heap.size w2 z → Calls Try.prog 40 #[.agg #[.int .i64 m, .slice A m c], .int .i64 F] z fun e w' => ∃ A' c', e = .returned (.slice A' k2 c') ∧ Below z.heap.size z w') := fun z hz => by rw [hk2]; exact PartsOf_sv ((HV.out.keep HR.out.below).keep hz) (by rw [HF.out]; omega)
        have HR0 : Hid (From w2 w2) := From.refl _
        have Hpv := Lib.hid pv
        clear hN hk1 hk2 hN2 hNs pc pv
        have HSC : Hid (∀ z : World, Below w2.heap.size w2 z → (Below w2.heap.size w2 z ∧ z.cell? ⟨w.heap.size, 0, none⟩ = some (.int .i64 (m : Nat)) ∧ z.cell? ⟨w.heap.size, 1, none⟩ = some (.slice A m c))) := fun z hz => ⟨hz, up_ hz q0, up_ hz q1⟩
        have HZ0 : Hid (Below w2.heap.size w2 w2.drew) := (Below.refl _ _).drew
        have HS1 := Lib.hid (HSC.out _ HZ0.out)
        have KR1 : Hid (∀ z : World, Below w2.heap.size w2 z → _) := fun z hz => KP1.out z hz
        have KR2 : Hid (∀ z : World, Below w2.heap.size w2 z → _) := fun z hz => KP2.out z hz
        go_wp2
        go_region_held3 (fun z => Below w2.heap.size w2 z ∧ z.cell? ⟨w.heap.size, 0, none⟩ = some (.int .i64 (m : Nat)) ∧ z.cell? ⟨w.heap.size, 1, none⟩ = some (.slice A m c))
          (first | exact HS1.out | assumption | exact HSC.out _ hz2 | exact HSC.out _ hz1 | fail)
          (first | (go_at_call 40; ((with_reducible refine (KR1.out _ HZ0.out).mono ?_); rintro e w1 ⟨A1, d1, rfl, hb1⟩; have hz1 := bl_trans HZ0.out hb1)) | (go_at_call 40; ((with_reducible refine (KR2.out _ hz1).mono ?_); rintro e w2 ⟨A2, d2, rfl, hb2⟩; have hz2 := bl_trans hz1 hb2)))
        replace HR0 := Lib.hid (HR0.out.keep hz2)
        clear hb1 hz1 hb2 hz2 HSC HZ0 HS1 KR1 KR2
        have HRn := Lib.hid (HR.out.up HR0.out)
        clear KP1 KP2 HR HR0
        by_cases hlt2 : k2 < k1
        · have j1 : (k2 : Int) < (k1 : Int) := by omega
          have Hs := Lib.hid (cvN_step (Hd.out.trans (decide_eq_true hlt2)))
          have hbit : (bmK (cvB r m) v).testBit v = false := by rw [bmK_bit, decide_eq_false (Nat.lt_irrefl _)]; rfl
          have E : wrap64 (((bmK (cvB r m) v : Nat) : Int) + 2 ^ v) = ((bmK (cvB r m) (v + 1) : Nat) : Int) := by
            rw [Hs.out, ← or_of_add hbit, Hpv.out, Go.IntWalk.wrap64_in _ (by omega)]; omega
          clear hlt2 hbit
          go_wp2
          go_roundw
          case rel => exact ⟨v + 1, by omega, by go_num, congrArg (Value.int .i64) E, HRn⟩
          case measure => (simp [intOf] <;> omega)
        · have j1 : (k1 : Int) ≤ (k2 : Int) := by omega
          have Hs := Lib.hid (cvN_same (Hd.out.trans (decide_eq_false hlt2)))
          clear hlt2
          go_wp2
          go_roundw
          case rel => exact ⟨v + 1, by omega, by go_num, by rw [Hs.out], HRn⟩
          case measure => (simp [intOf] <;> omega)
      · obtain rfl : v = m := by omega
        have i1 : (v : Int) ≤ (v : Int) := Int.le_refl _
        go_wp2
        go_ret
        exact ⟨ret_int HY.out.symm, (HB.out.up HR.out).below⟩
/-- Is a graph connected? -/
noncomputable def cnB (sz : Int) (m : Nat) (x : Nat → Int) : Bool := okB sz m x && decide (np (rw_ x) (2 ^ m - 1) = 1)
set_option maxRecDepth 100000 in
set_option maxHeartbeats 3200000 in
theorem IsConnected_s (h : GA w A m c x) (hm : m ≤ 1048576) :
    Calls Try.prog 18 #[.agg #[.int .i64 sz, .slice A m c]] w fun e w' => e = .returned (.bool (cnB sz m x)) ∧ Below w.heap.size w w' := by
  obtain ⟨W, hW⟩ : ∃ W : World, W = (w.alloc (Obj.cells #[Value.int IntKind.i64 sz, Value.slice A m c] 26)) := ⟨_, rfl⟩
  have HB : Hid (From w W) := by rw [hW]; exact From.alloc _ _
  have HK := Lib.hid (h.keep HB.out.below)
  have HC : Hid (GC W w.heap.size sz A m c) := by rw [hW]; exact GC.new _ _ _ _ _
  have HW := Lib.hid hW
  have e0 := HC.out.c0
  have e1 := HC.out.c1
  have HR0 : Hid (From W W) := From.refl _
  have KG : Hid (∀ z : World, Below W.heap.size W z → Calls Try.prog 30 #[.agg #[.int .i64 sz, .slice A m c]] z fun e w' => e = .returned (.bool (okB sz m x)) ∧ Below z.heap.size z w') := fun z hz => IsGraph_sany sz A m c x z z.heap.size (HK.out.keep hz).rd (Nat.le_refl _) hm
  clear hW h
  cases ho : okB sz m x
  · have Hno : Hid (cnB sz m x = false) := by show _ = _; unfold cnB; rw [ho]; rfl
    rw [ho] at KG
    clear ho
    go_enter Try.func18, Try.ntmps18
    go_wp2_with fail
    rw [← HW.out]
    clear HW
    have HSC : Hid (∀ z : World, Below W.heap.size W z → (Below W.heap.size W z ∧ z.cell? ⟨w.heap.size, 0, none⟩ = some (.int .i64 sz) ∧ z.cell? ⟨w.heap.size, 1, none⟩ = some (.slice A m c))) := fun z hz => ⟨hz, up_ hz e0, up_ hz e1⟩
    have HZ0 : Hid (Below W.heap.size W W.drew) := (Below.refl _ _).drew
    have HS1 := Lib.hid (HSC.out _ HZ0.out)
    have KR1 : Hid (∀ z : World, Below W.heap.size W z → _) := fun z hz => KG.out z hz
    refine wp_region_held_drew (S := fun z => Below W.heap.size W z ∧ z.cell? ⟨w.heap.size, 0, none⟩ = some (.int .i64 sz) ∧ z.cell? ⟨w.heap.size, 1, none⟩ = some (.slice A m c)) (by kernel_rfl) HS1.out (fun hHeld => ?_)
    refine take_yes (i := 0) (d := 3) (v := ?v1) rfl rfl (by kernel_rfl) (by kernel_rfl) (by kernel_rfl) (fun _ _ _ h => h) (by rfl) ?y1 (by assumption) ?r1
    case y1 => (intro w hSw; (try dsimp only at hSw); go_simp <;> with_reducible rfl)
    simp only [Act.put, sl0, sl1, sl2]
    refine wpAnyH_ready (rs := [1]) (by kernel_rfl) (by simp) ?_
    refine AllReadyH.cons rfl (fun K hK => ?_) AllReadyH.nil
    go_simp
    go_at_call 30; refine (KR1.out _ HZ0.out).mono ?_
    rintro e w1 ⟨rfl, hb1⟩
    have hz1 := bl_trans HZ0.out hb1
    refine hK.out _ _ (HSC.out _ hz1) (fun hHeld => ?_)
    clear hK K
    try simp only [Act.put, sl0, sl1, sl2]
    refine take_yes (i := 2) (d := 5) (v := ?v2) rfl rfl (by kernel_rfl) (by kernel_rfl) (by kernel_rfl) (fun _ _ _ h => h) (by rfl) ?y2 (by assumption) ?r2
    case y2 => (intro w hSw; (try dsimp only at hSw); go_simp <;> with_reducible rfl)
    simp only [Act.put, sl0, sl1, sl2]
    refine take_no (i := 3) (d := 6) rfl rfl (by kernel_rfl) (by kernel_rfl) (by kernel_rfl) (fun _ _ _ h => h) (by rfl) (by assumption) ?_
    simp only [Act.put, sl0, sl1, sl2]
    refine take_no (i := 4) (d := 7) rfl rfl (by kernel_rfl) (by kernel_rfl) (by kernel_rfl) (fun _ _ _ h => h) (by rfl) (by assumption) ?_
    simp only [Act.put, sl0, sl1, sl2]
    refine take_no (i := 5) (d := 8) rfl rfl (by kernel_rfl) (by kernel_rfl) (by kernel_rfl) (fun _ _ _ h => h) (by rfl) (by assumption) ?_
    simp only [Act.put, sl0, sl1, sl2]
    refine take_no (i := 6) (d := 9) rfl rfl (by kernel_rfl) (by kernel_rfl) (by kernel_rfl) (fun _ _ _ h => h) (by rfl) (by assumption) ?_
    simp only [Act.put, sl0, sl1, sl2]
    refine take_no (i := 7) (d := 10) rfl rfl (by kernel_rfl) (by kernel_rfl) (by kernel_rfl) (fun _ _ _ h => h) (by rfl) (by assumption) ?_
    simp only [Act.put, sl0, sl1, sl2]
    refine take_no (i := 8) (d := 11) rfl rfl (by kernel_rfl) (by kernel_rfl) (by kernel_rfl) (fun _ _ _ h => h) (by rfl) (by assumption) ?_
    simp only [Act.put, sl0, sl1, sl2]
    refine take_no (i := 9) (d := 12) rfl rfl (by kernel_rfl) (by kernel_rfl) (by kernel_rfl) (fun _ _ _ h => h) (by rfl) (by assumption) ?_
    simp only [Act.put, sl0, sl1, sl2]
    refine take_no (i := 10) (d := 13) rfl rfl (by kernel_rfl) (by kernel_rfl) (by kernel_rfl) (fun _ _ _ h => h) (by rfl) (by assumption) ?_
    simp only [Act.put, sl0, sl1, sl2]
    refine take_yes (i := 11) (d := 14) (v := ?v3) rfl rfl (by kernel_rfl) (by kernel_rfl) (by kernel_rfl) (fun _ _ _ h => h) (by rfl) ?y3 (by assumption) ?r3
    case y3 => (intro w hSw; (try dsimp only at hSw); go_simp <;> with_reducible rfl)
    simp only [Act.put, sl0, sl1, sl2]
    refine take_yes (i := 12) (d := 2) (v := ?v4) rfl rfl (by kernel_rfl) (by kernel_rfl) (by kernel_rfl) (fun _ _ _ h => h) (by rfl) ?y4 (by assumption) ?r4
    case y4 => (intro w hSw; (try dsimp only at hSw); go_simp <;> with_reducible rfl)
    simp only [Act.put, sl0, sl1, sl2]
    refine wpAnyH_done (by kernel_rfl) ?_ _
    replace HR0 := Lib.hid (HR0.out.keep hz1)
    clear hb1 hz1 HSC HZ0 HS1 KR1
    go_wp2
    go_ret
    exact ⟨ret_bool Hno.out.symm, (HB.out.up HR0.out).below⟩
  · have HY : Hid (cnB sz m x = decide (np (rw_ x) (2 ^ m - 1) = 1)) := by show _ = _; unfold cnB; rw [ho]; rfl
    obtain ⟨_, es, vg0, _⟩ := okB_ok' ho
    subst es
    have hn7 := vg0.n7
    have h128 := two_pow_le hn7
    have hpos := Nat.two_pow_pos m
    rw [ho] at KG
    obtain ⟨F, hF⟩ : ∃ F, F = 2 ^ m - 1 := ⟨_, rfl⟩
    obtain ⟨k1, hk1⟩ : ∃ k, k = np (rw_ x) F := ⟨_, rfl⟩
    rw [← hF, ← hk1] at HY
    have p2 := pow_shl m hn7
    have pc : (2 : Int) ^ m = ((2 ^ m : Nat) : Int) := by simp
    have s1 : IntKind.i64.wrap ((2 : Int) ^ m - 1) = (F : Int) := by
      have : (2 : Int) ^ m - 1 = (F : Int) := by rw [pc, hF]; omega
      rw [this]; exact Go.IntWalk.i64_in (F : Int) (by rw [hF]; omega)
    have KP : Hid (∀ z : World, Below W.heap.size W z → Calls Try.prog 40 #[.agg #[.int .i64 m, .slice A m c], .int .i64 F] z fun e w' => ∃ A' c', e = .returned (.slice A' k1 c') ∧ Below z.heap.size z w') := fun z hz => by rw [hk1]; exact PartsOf_sv (GV.of (HK.out.keep hz).rd (Nat.le_refl _) ho) (by rw [hF]; omega)
    clear ho vg0 hk1 hF pc
    go_enter Try.func18, Try.ntmps18
    go_wp2_with fail
    rw [← HW.out]
    clear HW
    have HSC : Hid (∀ z : World, Below W.heap.size W z → (Below W.heap.size W z ∧ z.cell? ⟨w.heap.size, 0, none⟩ = some (.int .i64 (m : Nat)) ∧ z.cell? ⟨w.heap.size, 1, none⟩ = some (.slice A m c))) := fun z hz => ⟨hz, up_ hz e0, up_ hz e1⟩
    have HZ0 : Hid (Below W.heap.size W W.drew) := (Below.refl _ _).drew
    have HS1 := Lib.hid (HSC.out _ HZ0.out)
    have KR1 : Hid (∀ z : World, Below W.heap.size W z → _) := fun z hz => KG.out z hz
    have KR2 : Hid (∀ z : World, Below W.heap.size W z → _) := fun z hz => KP.out z hz
    refine wp_region_held_drew (S := fun z => Below W.heap.size W z ∧ z.cell? ⟨w.heap.size, 0, none⟩ = some (.int .i64 (m : Nat)) ∧ z.cell? ⟨w.heap.size, 1, none⟩ = some (.slice A m c)) (by kernel_rfl) HS1.out (fun hHeld => ?_)
    refine take_yes (i := 0) (d := 3) (v := ?v5) rfl rfl (by kernel_rfl) (by kernel_rfl) (by kernel_rfl) (fun _ _ _ h => h) (by rfl) ?y5 (by assumption) ?r5
    case y5 => (intro w hSw; (try dsimp only at hSw); go_simp <;> with_reducible rfl)
    simp only [Act.put, sl0, sl1, sl2]
    refine wpAnyH_ready (rs := [1]) (by kernel_rfl) (by simp) ?_
    refine AllReadyH.cons rfl (fun K hK => ?_) AllReadyH.nil
    go_simp
    go_at_call 30; refine (KR1.out _ HZ0.out).mono ?_
    rintro e w2 ⟨rfl, hb2⟩
    have hz2 := bl_trans HZ0.out hb2
    refine hK.out _ _ (HSC.out _ hz2) (fun hHeld => ?_)
    clear hK K
    try simp only [Act.put, sl0, sl1, sl2]
    refine take_yes (i := 2) (d := 5) (v := ?v6) rfl rfl (by kernel_rfl) (by kernel_rfl) (by kernel_rfl) (fun _ _ _ h => h) (by rfl) ?y6 (by assumption) ?r6
    case y6 => (intro w hSw; (try dsimp only at hSw); go_simp <;> with_reducible rfl)
    simp only [Act.put, sl0, sl1, sl2]
    refine take_yes (i := 3) (d := 6) (v := ?v7) rfl rfl (by kernel_rfl) (by kernel_rfl) (by kernel_rfl) (fun _ _ _ h => h) (by rfl) ?y7 (by assumption) ?r7
    case y7 => (intro w hSw; (try dsimp only at hSw); go_simp <;> with_reducible rfl)
    simp only [Act.put, sl0, sl1, sl2]
    refine take_yes (i := 4) (d := 7) (v := ?v8) rfl rfl (by kernel_rfl) (by kernel_rfl) (by kernel_rfl) (fun _ _ _ h => h) (by rfl) ?y8 (by assumption) ?r8
    case y8 => (intro w hSw; (try dsimp only at hSw); go_simp <;> with_reducible rfl)
    simp only [Act.put, sl0, sl1, sl2]
    refine take_yes (i := 5) (d := 8) (v := ?v9) rfl rfl (by kernel_rfl) (by kernel_rfl) (by kernel_rfl) (fun _ _ _ h => h) (by rfl) ?y9 (by assumption) ?r9
    case y9 => (intro w hSw; (try dsimp only at hSw); go_simp <;> with_reducible rfl)
    simp only [Act.put, sl0, sl1, sl2]
    refine take_yes (i := 6) (d := 9) (v := ?v10) rfl rfl (by kernel_rfl) (by kernel_rfl) (by kernel_rfl) (fun _ _ _ h => h) (by rfl) ?y10 (by assumption) ?r10
    case y10 => (intro w hSw; (try dsimp only at hSw); go_simp <;> with_reducible rfl)
    simp only [Act.put, sl0, sl1, sl2]
    refine take_yes (i := 7) (d := 10) (v := ?v11) rfl rfl (by kernel_rfl) (by kernel_rfl) (by kernel_rfl) (fun _ _ _ h => h) (by rfl) ?y11 (by assumption) ?r11
    case y11 => (intro w hSw; (try dsimp only at hSw); go_simp <;> with_reducible rfl)
    simp only [Act.put, sl0, sl1, sl2]
    refine wpAnyH_ready (rs := [8]) (by kernel_rfl) (by simp) ?_
    refine AllReadyH.cons rfl (fun K hK => ?_) AllReadyH.nil
    go_simp
    go_at_call 40; refine (KR2.out _ hz2).mono ?_
    rintro e w3 ⟨A1, d1, rfl, hb3⟩
    have hz3 := bl_trans hz2 hb3
    refine hK.out _ _ (HSC.out _ hz3) (fun hHeld => ?_)
    clear hK K
    try simp only [Act.put, sl0, sl1, sl2]
    refine take_yes (i := 9) (d := 12) (v := ?v12) rfl rfl (by kernel_rfl) (by kernel_rfl) (by kernel_rfl) (fun _ _ _ h => h) (by rfl) ?y12 (by assumption) ?r12
    case y12 => (intro w hSw; (try dsimp only at hSw); go_simp <;> with_reducible rfl)
    simp only [Act.put, sl0, sl1, sl2]
    refine take_yes (i := 10) (d := 13) (v := ?v13) rfl rfl (by kernel_rfl) (by kernel_rfl) (by kernel_rfl) (fun _ _ _ h => h) (by rfl) ?y13 (by assumption) ?r13
    case y13 => (intro w hSw; (try dsimp only at hSw); go_simp <;> with_reducible rfl)
    simp only [Act.put, sl0, sl1, sl2]
    refine take_yes (i := 11) (d := 14) (v := ?v14) rfl rfl (by kernel_rfl) (by kernel_rfl) (by kernel_rfl) (fun _ _ _ h => h) (by rfl) ?y14 (by assumption) ?r14
    case y14 => (intro w hSw; (try dsimp only at hSw); go_simp <;> with_reducible rfl)
    simp only [Act.put, sl0, sl1, sl2]
    refine take_yes (i := 12) (d := 2) (v := ?v15) rfl rfl (by kernel_rfl) (by kernel_rfl) (by kernel_rfl) (fun _ _ _ h => h) (by rfl) ?y15 (by assumption) ?r15
    case y15 => (intro w hSw; (try dsimp only at hSw); go_simp <;> with_reducible rfl)
    simp only [Act.put, sl0, sl1, sl2]
    refine wpAnyH_done (by kernel_rfl) ?_ _
    replace HR0 := Lib.hid (HR0.out.keep hz3)
    clear hb2 hz2 hb3 hz3 HSC HZ0 HS1 KR1 KR2
    go_wp2
    go_ret
    refine ⟨ret_bool ?_, (HB.out.up HR0.out).below⟩
    rw [HY.out]
    by_cases hk : k1 = 1
    · subst hk; simp
    · rw [decide_eq_false hk]; simp; omega
end
end Go.Proofs.Ytncjfgebolikoaa
