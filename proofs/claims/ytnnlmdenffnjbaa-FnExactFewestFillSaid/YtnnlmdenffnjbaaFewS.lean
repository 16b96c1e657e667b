/-
  Contract: the fewest edges that fill a graph, of the reference.
-/
import Derived.Test.YtnnlmdenffnjbaaOrders
namespace Go.Proofs.Ytnnlmdenffnjbaa
open Go.RowKit

set_option maxRecDepth 100000 in
set_option maxHeartbeats 3200000 in
theorem FewestFill_s (sz : Int) (A : Option Addr) (m c : Nat) (x : Nat → Int) (w : World) (h : GA w A m c x) (hm : m ≤ 1048576) :
    Calls Try.prog 33 #[.agg #[.int .i64 sz, .slice A m c]] w fun e w' => e = .returned (.int .i64 (ffI sz m x)) ∧ Below w.heap.size w w' := by
  obtain ⟨W, hW⟩ : ∃ W : World, W = (w.alloc (Obj.cells #[Value.int IntKind.i64 sz, Value.slice A m c] 28)) := ⟨_, rfl⟩
  have HB : Hid (From w W) := by rw [hW]; exact From.alloc _ _
  have HK := Lib.hid (h.keep HB.out.below)
  have HC : Hid (GC W w.heap.size sz A m c) := by rw [hW]; exact GC.new _ _ _ _ _
  have HW := Lib.hid hW
  clear hW h
  go_enter Try.func33, Try.ntmps33
  have e0 := HC.out.c0
  have e1 := HC.out.c1
  go_wp2_with fail
  rw [← HW.out]
  refine (IsGraph_sany sz A m c x W W.heap.size HK.out.rd (Nat.le_refl _) hm).mono ?_
  rintro e w1 ⟨rfl, hb1⟩
  clear HW
  clear e0 e1
  replace HB := Lib.hid (HB.out.keep hb1)
  replace HK := Lib.hid (HK.out.keep hb1)
  replace HC := Lib.hid (HC.out.keep hb1)
  clear hb1
  have e0 := HC.out.c0
  have e1 := HC.out.c1
  cases ho : okB sz m x
  · have hf : Hid (ffI sz m x = -1) := ffI_no ho
    clear ho
    go_wp2
    go_ret
    exact ⟨ret_int hf.out.symm, HB.out.below⟩
  · obtain ⟨_, es, vg0, hx0⟩ := okB_ok' ho
    subst es
    have hn1 := vg0.n1
    have hn7 := vg0.n7
    have HG : Hid (GV w1 A m c (rw_ x)) := HK.out.gv ho
    have Ho := Lib.hid ho
    clear ho vg0 hx0
    by_cases h5 : 5 < m
    · have hf : Hid (ffI m m x = -1) := ffI_big (by omega)
      have i1 : (5 : Int) < (m : Int) := by omega
      clear h5
      go_wp2
      go_ret
      exact ⟨ret_int hf.out.symm, HB.out.below⟩
    · have hm5 : m ≤ 5 := by omega
      have i1 : (m : Int) ≤ 5 := by omega
      clear h5
      go_wp2_with fail
      refine (EdgesOf_s m A m c _ _ _ HG.out.rd (Nat.le_refl _) hm).mono ?_
      rintro e w2 ⟨A0, c0, D0, rfl, hD0, hO0, hb2⟩
      clear e0 e1
      replace HB := Lib.hid (HB.out.keep hb2)
      replace HC := Lib.hid (HC.out.keep hb2)
      replace HG := Lib.hid (HG.out.keep hb2)
      clear hb2
      have e0 := HC.out.c0
      have e1 := HC.out.c1
      have hl21 := edges_len hD0
      clear hD0 hO0
      go_wp2_with fail
      refine (l30Orders_s m _ hm5).mono ?_
      rintro e w3 ⟨A2, c2, D, rfl, hD, hO, hb3⟩
      clear e0 e1
      replace HB := Lib.hid (HB.out.keep hb3)
      replace HC := Lib.hid (HC.out.keep hb3)
      replace HG := Lib.hid (HG.out.keep hb3)
      clear hb3
      have e0 := HC.out.c0
      have e1 := HC.out.c1
      have HD := Lib.hid hD
      have HO := Lib.hid hO
      have HDl := Lib.hid (nl_len hD)
      have hDl3 : D.length ≤ 3125 := by
        have h1 := nl_len hD
        have h2 := Nat.le_trans (ordN_len m m) (pow5 hm5 hm5)
        omega
      have zw3 := HB.out.below.size
      obtain ⟨b0, hb0⟩ : ∃ b0 : Nat, b0 = D0.length + 30 := ⟨_, rfl⟩
      have Hb0 : Hid ((D0.length : Int) + 30 = (b0 : Int)) := by show _ = _; omega
      have hf : Hid (ffI m m x = mnF (pfN m (rw_ x)) b0 (ordN m m)) := by show _ = _; rw [ffI_yes Ho.out hm5]; exact (ffN_eq hn7 (by omega)).symm
      have hb0' : b0 ≤ 51 := by omega
      clear hD hO hb0
      go_wp2
      go_loopw [3, 5] (fun b i wr => ∃ (k : Nat) (a : Nat), k ≤ D.length ∧ i = .int .i64 k ∧ b = .int .i64 a ∧ a ≤ 51 ∧ Hid (mnF (pfN m (rw_ x)) b0 ((ordN m m).take k) = (a : Int)) ∧ Hid (From w3 wr)) (fun _ i _ => D.length - (intOf i).toNat)
      case atStart => exact ⟨0, b0, Nat.zero_le _, rfl, by rw [← Hb0.out], hb0', rfl, From.refl _⟩
      case round =>
        obtain ⟨k, a, hk, rfl, rfl, ha, hA, HF⟩ := hrel
        have HBr := Lib.hid (HB.out.keep HF.out.below)
        have HCr := Lib.hid (HC.out.keep HF.out.below)
        have HGr := Lib.hid (HG.out.keep HF.out.below)
        have HOr := HO.out.keepB HF.out.below (Nat.le_refl _)
        by_cases hlt : k < D.length
        · have hkL : k < (ordN m m).length := by have := HDl.out; omega
          obtain ⟨l, hl⟩ : ∃ l, l = (ordN m m).getD k [] := ⟨_, rfl⟩
          have hlm : l ∈ ordN m m := by rw [hl]; simp [List.getD, hkL]
          have hlk := (mem_ordN.1 hlm).1
          obtain ⟨g, Ad, cd, rfl, hg, q0, hLN⟩ := nl_at HOr HF.out.below.size HD.out hlt
          rw [← hl] at q0 hLN
          have HLN := Lib.hid hLN
          have hl5 : l.length ≤ 5 := by omega
          obtain ⟨y, hy⟩ : ∃ y : Nat, y = (fofL (m : Int) m (fun v => (rw_ x v : Int)) (ci l)).length := ⟨_, rfl⟩
          have hy21 : y ≤ 21 := by have := (pfN_le (r := rw_ x) (l := l) hn7).2; rw [hy]; unfold pfN at this; unfold ci; omega
          have Hnext : Hid (mnF (pfN m (rw_ x)) b0 ((ordN m m).take (k + 1)) = min (a : Int) (y : Int)) := by
            show _ = _
            rw [List.take_succ_eq_append_getElem hkL, mnF_one, hA.out, hy]
            have : (ordN m m)[k] = l := by rw [hl]; simp [List.getD, hkL]
            rw [this]; rfl
          have HY := Lib.hid hy
          have KF : Hid (∀ z : World, Below wr.heap.size wr z → Calls Try.prog 72 #[.agg #[.int .i64 m, .slice A m c], .slice Ad l.length cd] z fun e w' => ∃ (A' : Option Addr) (c' : Nat) (D5 : List Dsc) (t : Bool), e = .returned (.tuple #[.slice A' D5.length c', .bool t]) ∧ D5.length = y ∧ Below z.heap.size z w') := fun z hz =>
            (FillOf_s m A m c (fun v => (rw_ x v : Int)) Ad l.length cd (ci l) z ⟨(HGr.out.keep hz).rd⟩ (HLN.out.keep hz).li hm (by omega)).mono fun _ _ ⟨A', c', D5, h1, h2, _, h4⟩ => ⟨A', c', D5, _, h1, by rw [HY.out, ← h2, lists, List.length_map], h4⟩
          have i2 : (k : Int) < (D.length : Int) := by omega
          clear hkL hl hlm hlk hLN hy HOr
          have e0 := HCr.out.c0
          have e1 := HCr.out.c1
          have HSC : Hid (∀ z : World, Below wr.heap.size wr z → (Below wr.heap.size wr z ∧ z.cell? ⟨w.heap.size, 0, none⟩ = some (.int .i64 m) ∧ z.cell? ⟨w.heap.size, 1, none⟩ = some (.slice A m c) ∧ z.cell? ⟨g, k, none⟩ = some (.slice Ad l.length cd))) := fun z hz => ⟨hz, up_ hz e0, up_ hz e1, up_ hz q0⟩
          have HZ0 : Hid (Below wr.heap.size wr wr.drew) := (Below.refl _ _).drew
          have HS1 := Lib.hid (HSC.out _ HZ0.out)
          have KR1 : Hid (∀ z : World, Below wr.heap.size wr z → _) := fun z hz => KF.out z hz
          go_wp2
          go_region_held3 (fun z => Below wr.heap.size wr z ∧ z.cell? ⟨w.heap.size, 0, none⟩ = some (.int .i64 m) ∧ z.cell? ⟨w.heap.size, 1, none⟩ = some (.slice A m c) ∧ z.cell? ⟨g, k, none⟩ = some (.slice Ad l.length cd))
            (first | exact HS1.out | assumption | exact HSC.out _ hz4 | fail)
            (first | (go_at_call 72; ((with_reducible refine (KR1.out _ HZ0.out).mono ?_); rintro e w4 ⟨A5, c5, D5, t, rfl, hD5, hb4⟩; have hz4 := bl_trans HZ0.out hb4)))
          clear e0 e1
          replace HCr := Lib.hid (HCr.out.keep hz4)
          replace HF := Lib.hid (HF.out.keep hz4)
          clear hb4 hz4 HSC HZ0 HS1 KR1
          have e0 := HCr.out.c0
          have e1 := HCr.out.c1
          go_wp2
          go_roundw
          case rel => exact ⟨k + 1, if y < a then y else a, by omega, by go_num, by split <;> rfl, by split <;> omega, by show _ = _; rw [Hnext.out]; split <;> omega, HF⟩
          case measure => simp [intOf]; omega
        · obtain rfl : k = D.length := by omega
          have hfin : Hid ((a : Int) = ffI m m x) := by
            have := hA.out
            rw [HDl.out, List.take_length] at this
            show _ = _
            rw [hf.out, this]
          clear HOr
          go_wp2
          go_ret
          exact ⟨ret_int hfin.out, HBr.out.below⟩
theorem FewestFill_sL (s1 : Int) (A1 : Option Addr) (m1 c1 : Nat) (x1 : Nat → Int) (w : World) (B : Nat) (h1 : Rd w B A1 m1 c1 x1) (hB : B ≤ w.heap.size) (hm1 : m1 ≤ 1048576) :
    Calls Try.prog 33 #[.agg #[.int .i64 s1, .slice A1 m1 c1]] w fun e w' => e = .returned (.int .i64 (ffI s1 m1 x1)) ∧ Below w.heap.size w w' :=
  FewestFill_s s1 A1 m1 c1 x1 w ⟨h1.keep (Below.refl _ _) hB⟩ hm1
theorem FewestFill_iL (s1 : Int) (A1 : Option Addr) (m1 c1 : Nat) (x1 : Nat → Int) (w : World) (B : Nat) (h1 : Rd w B A1 m1 c1 x1) (hB : B ≤ w.heap.size) (hm1 : m1 ≤ 1048576) :
    Calls Try.prog 34 #[.agg #[.int .i64 s1, .slice A1 m1 c1]] w fun e w' => e = .returned (.int .i64 (ffI s1 m1 x1)) ∧ Below w.heap.size w w' :=
  FewestFill_i s1 A1 m1 c1 x1 w ⟨h1.keep (Below.refl _ _) hB⟩ hm1
end Go.Proofs.Ytnnlmdenffnjbaa
