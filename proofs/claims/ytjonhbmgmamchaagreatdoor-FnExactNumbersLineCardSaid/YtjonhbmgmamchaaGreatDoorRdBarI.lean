/-
  Contract: the complement of a graph, of the program.
-/
import Derived.Test.YtjonhbmgmamchaaGreatDoorRdIdxI
namespace Go.Proofs.YtjonhbmgmamchaaGreatDoor
open Go.RowKit

set_option maxRecDepth 100000 in
set_option maxHeartbeats 6400000 in
theorem ComplementOf_i (sz : Int) (A : Option Addr) (m c : Nat) (x : Nat → Int) (w : World) (h : GA w A m c x) (hm : m ≤ 1048576) :
    Calls Tryz.prog 64 #[.agg #[.int .i64 sz, .slice A m c]] w fun e w' => ∃ sz' A' m' c', e = .returned (.tuple #[.agg #[.int .i64 sz', .slice A' m' c'], .bool (okB sz m x)]) ∧ (okB sz m x = true → sz' = (m : Int) ∧ m' = m ∧ GV w' A' m c' (coR (rw_ x) m)) ∧ Below w.heap.size w w' := by
  obtain ⟨W, hW⟩ : ∃ W : World, W = ((w.alloc (Obj.cells #[Value.int IntKind.i64 sz, Value.slice A m c] 27)).alloc (Obj.cells #[Value.int IntKind.i64 0, Value.slice none 0 0] 27)) := ⟨_, rfl⟩
  have HB : Hid (From w W) := by rw [hW]; exact (From.alloc _ _).alloc_ _
  have HZ : Hid (w.heap.size + 2 = W.heap.size) := by rw [hW]; simp [Hid]
  have HS : Hid (From W W) := From.refl W
  have HK := Lib.hid (h.keep HB.out.below)
  have HC : Hid (GC W w.heap.size sz A m c) := by rw [hW]; exact (GC.new _ _ _ _ _).keep ((Below.refl _ _).alloc (Nat.le_refl _) _)
  have HD : Hid (GC W (w.heap.size + 1) 0 none 0 0) := by rw [hW]; constructor <;> simp [go_sem]
  have HW := Lib.hid hW
  clear hW h
  go_enter Tryz.func64, Tryz.ntmps64
  have e0 := HC.out.c0
  have e1 := HC.out.c1
  have d0 := HD.out.c0
  have d1 := HD.out.c1
  have d2 := HD.out.f0
  have d3 := HD.out.f1
  go_wp2_with fail
  rw [← HW.out]
  refine (IsGraph_any sz A m c x W W.heap.size HK.out.rd (Nat.le_refl _) hm).mono ?_
  rintro e w1 ⟨rfl, hb1⟩
  clear HW
  clear e0 e1 d0 d1 d2 d3
  replace HB := Lib.hid (HB.out.keep hb1)
  replace HS := Lib.hid (HS.out.keep hb1)
  replace HK := Lib.hid (HK.out.keep hb1)
  replace HC := Lib.hid (HC.out.keep hb1)
  replace HD := Lib.hid (HD.out.keep hb1)
  clear hb1
  have e0 := HC.out.c0
  have e1 := HC.out.c1
  have d0 := HD.out.c0
  have d1 := HD.out.c1
  have d2 := HD.out.f0
  have d3 := HD.out.f1
  cases ho : okB sz m x
  · have Ho := Lib.hid ho
    clear ho
    go_wp2
    have HE := (HB.out.set (q := w.heap.size + 1) (by omega) (.int .i64 0) (.slice none 0 0)).below
    exact bodyPost_ret (v := .tuple #[.agg #[.int .i64 0, .slice none 0 0], .bool false]) (by simp [results, Tryz.results64, go_sem, *]) rfl ⟨0, none, 0, 0, by rw [Ho.out], (fun h => by rw [Ho.out] at h; cases h), HE⟩
  · obtain ⟨_, es, vg0, _⟩ := okB_ok' ho
    subst es
    have hn1 := vg0.n1
    have hn7 := vg0.n7
    have HX := Lib.hid (okB_vg ho).2
    have HG : Hid (GV w1 A m c (rw_ x)) := HK.out.gv ho
    have Ho := Lib.hid ho
    obtain ⟨b, o, rfl⟩ := HG.out.addr
    have hbl := HG.out.bl
    have hY0 : w.heap.size + 2 ≤ w1.heap.size := by have := HS.out.below.size; have := HZ.out; omega
    clear ho vg0
    go_wp2_with fail
    refine (copyGraph_any (m : Int) (some ⟨b, o, none⟩) m c x w1 w1.heap.size HK.out.rd (Nat.le_refl _) hm).mono ?_
    rintro e w2 ⟨A', c', rfl, hO, hb2⟩
    clear e0 e1 d0 d1 d2 d3
    replace HB := Lib.hid (HB.out.keep hb2)
    replace HS := Lib.hid (HS.out.keep hb2)
    replace HK := Lib.hid (HK.out.keep hb2)
    replace HG := Lib.hid (HG.out.keep hb2)
    replace HC := Lib.hid (HC.out.keep hb2)
    replace HD := Lib.hid (HD.out.keep hb2)
    clear hb2
    have e0 := HC.out.c0
    have e1 := HC.out.c1
    have d0 := HD.out.c0
    have d1 := HD.out.c1
    have d2 := HD.out.f0
    have d3 := HD.out.f1
    obtain ⟨g, rfl, hg1, hg2, hOc⟩ := hO.only (by omega)
    have HOg : Hid (Own w2 g (g + 1) 3 1 (some ⟨g, 0, none⟩) m c' (fun j => .int .i64 (rw_ x j : Nat))) := hOc.congr (fun j hj => by rw [HX.out j (by omega)])
    obtain ⟨W2, hW2⟩ : ∃ W2 : World, W2 = (w2.alloc (Obj.cells #[Value.int IntKind.i64 (m : Int), Value.slice (some ⟨g, 0, none⟩) m c'] 27)) := ⟨_, rfl⟩
    have hb2 : Below w2.heap.size w2 W2 := by rw [hW2]; exact (Below.refl _ _).alloc (Nat.le_refl _) _
    have HQ : Hid (GC W2 w2.heap.size m (some ⟨g, 0, none⟩) m c') := by rw [hW2]; exact GC.new _ _ _ _ _
    have hz2 : w2.heap.size + 1 = W2.heap.size := by rw [hW2]; simp
    have HC2 := Lib.hid (HC.out.keep hb2)
    have HD2 := Lib.hid (HD.out.keep hb2)
    have HG2 := Lib.hid (HG.out.keep hb2)
    have HB2 := Lib.hid (HB.out.keep hb2)
    have HO2 : Hid (Own W2 g (g + 1) 3 1 (some ⟨g, 0, none⟩) m c' (fun j => .int .i64 (rw_ x j : Nat))) := HOg.out.keepB hb2 (by omega)
    have HW2 := Lib.hid hW2
    clear hW2 hb2 hOc hO HOg
    go_wp2_with fail
    rw [← HW2.out]
    clear HW2
    go_loopw [15] (fun k wr => ∃ (K : Nat), K ≤ m ∧ k = .int .i64 K ∧ Hid (Own wr g (g + 1) 3 1 (some ⟨g, 0, none⟩) m c' (fun j => .int .i64 ((if j < K then coR (rw_ x) m j else rw_ x j : Nat) : Int))) ∧ Hid (Fr g (g + 1) W2 wr)) (fun k _ => m - (intOf k).toNat)
    case atStart => exact ⟨0, Nat.zero_le _, rfl, HO2.out.congr (fun j hj => by rw [if_neg (by omega)]), Fr.refl _ _ _⟩
    case round =>
      obtain ⟨K, hK, rfl, HOr, HFr⟩ := hrel
      have HCr := Lib.hid (HC2.out.keepF HFr.out (.inl (by omega)))
      have HQr := Lib.hid (HQ.out.keepF HFr.out (.inr (by omega)))
      have e0 := HCr.out.c0
      have e1 := HCr.out.c1
      have g0 := HQr.out.c0
      have g1 := HQr.out.c1
      have zr := HFr.out.size
      by_cases hlt : K < m
      · have q0 := frC_ HFr.out (HG2.out.row hlt) HG2.out.bl (.inl (by omega))
        have hr := HG2.out.vg.lt128 hlt
        obtain ⟨g', e9, _, _, hg3, hcg, hfg⟩ := HOr.out.at_ (by omega)
        simp only [Option.some.injEq, Addr.mk.injEq, and_true] at e9
        subst e9
        have cg := hcg K (by omega)
        have fg := hfg K
        rw [if_neg (by omega)] at cg
        obtain ⟨y, hy⟩ : ∃ y, y = rw_ x K := ⟨_, rfl⟩
        obtain ⟨M, hM⟩ : ∃ M, M = 2 ^ m - 1 := ⟨_, rfl⟩
        have h128 := two_pow_le hn7
        have hco : (M ^^^ (M &&& y)) ^^^ ((M ^^^ (M &&& y)) &&& 2 ^ K) = coR (rw_ x) m K := by
          rw [hM, hy, coR_and, full_and (or_pow_lt HG2.out.vg hlt)]
          rfl
        rw [← hy] at q0 cg hr
        have hMl : M < 128 := by omega
        have c2 : ((2 ^ K : Nat) : Int) = 2 ^ K := by simp
        have hx1 : M ^^^ (M &&& y) < 128 := Nat.xor_lt_two_pow (n := 7) (by omega) (Nat.and_lt_two_pow _ (by omega))
        have hK7 := two_pow_le (n := K) (by omega)
        have E1 := i64_andNot_nat M y (by omega) (by omega)
        have E2 := i64_andNot_nat (M ^^^ (M &&& y)) (2 ^ K) (by omega) (by omega)
        rw [c2, hco] at E2
        have p2 := pow_shl K (by omega)
        have KA : Hid (∀ z : World, Calls Tryz.prog 94 #[.agg #[.int .i64 (m : Int), .slice (some ⟨b, o, none⟩) m c]] z fun e w' => e = .returned (.int .i64 (M : Int)) ∧ Below z.heap.size z w') := fun z => by rw [hM]; exact all_any m _ c z hn7
        have i1 : (K : Int) < (m : Int) := by omega
        obtain ⟨v, hv⟩ : ∃ v, v = coR (rw_ x) m K := ⟨_, rfl⟩
        rw [← hv] at E2
        have Hv := Lib.hid hv
        have HSC : Hid (∀ z : World, Below wr.heap.size wr z → (Below wr.heap.size wr z ∧ z.cell? ⟨w.heap.size, 0, none⟩ = some (.int .i64 (m : Int)) ∧ z.cell? ⟨w.heap.size, 1, none⟩ = some (.slice (some ⟨b, o, none⟩) m c) ∧ z.cell? ⟨w2.heap.size, 1, none⟩ = some (.slice (some ⟨g, 0, none⟩) m c') ∧ z.cell? ⟨b, o + K, none⟩ = some (.int .i64 (y : Int)))) := fun z hz => ⟨hz, up_ hz e0, up_ hz e1, up_ hz g1, up_ hz q0⟩
        have HSS : Hid (∀ (z : World) (u : Value), Below wr.heap.size wr z → (z.setCell ⟨g, K, none⟩ u).cell? ⟨w.heap.size, 0, none⟩ = some (.int .i64 (m : Int)) ∧ (z.setCell ⟨g, K, none⟩ u).cell? ⟨w.heap.size, 1, none⟩ = some (.slice (some ⟨b, o, none⟩) m c) ∧ (z.setCell ⟨g, K, none⟩ u).cell? ⟨w2.heap.size, 1, none⟩ = some (.slice (some ⟨g, 0, none⟩) m c') ∧ (z.setCell ⟨g, K, none⟩ u).cell? ⟨b, o + K, none⟩ = some (.int .i64 (y : Int))) := fun z u hz => by
          have F := (Fr.refl g (g + 1) z).setCell (p := ⟨g, K, none⟩) (Nat.le_refl _) (Nat.lt_succ_self _) u
          obtain ⟨_, h1, h2, h3, h4⟩ := HSC.out z hz
          exact ⟨frC_ F h1 (World.block_lt_of_cell? _ _ h1) (.inl (by omega)), frC_ F h2 (World.block_lt_of_cell? _ _ h2) (.inl (by omega)), frC_ F h3 (World.block_lt_of_cell? _ _ h3) (.inr (by omega)), frC_ F h4 (World.block_lt_of_cell? _ _ h4) (.inl (by omega))⟩
        have HZ0 : Hid (Below wr.heap.size wr wr.drew) := (Below.refl _ _).drew
        have HS1 := Lib.hid (HSC.out _ HZ0.out).2
        clear hcg hfg hy hM hco hr hMl c2 hx1 hK7 h128 hv
        go_wp2
        go_region_held3 (fun z => z.cell? ⟨w.heap.size, 0, none⟩ = some (.int .i64 (m : Int)) ∧ z.cell? ⟨w.heap.size, 1, none⟩ = some (.slice (some ⟨b, o, none⟩) m c) ∧ z.cell? ⟨w2.heap.size, 1, none⟩ = some (.slice (some ⟨g, 0, none⟩) m c') ∧ z.cell? ⟨b, o + K, none⟩ = some (.int .i64 (y : Int)))
          (first | exact HS1.out | assumption | exact HSS.out _ _ hz5 | exact (HSC.out _ hz5).2 | fail)
          (first | (go_at_call 94; ((with_reducible refine (KA.out _).mono ?_); rintro e w5 ⟨rfl, hb5⟩; have hz5 := bl_trans HZ0.out hb5; have c5 := up_ hz5 cg; have f5 := upf hz5 fg hg3)))
        all_goals
          obtain ⟨W7, hW7⟩ : ∃ W7 : World, W7 = (w5.setCell ⟨g, K, none⟩ (.int .i64 (v : Int))) := ⟨_, rfl⟩
          rw [← hW7]
          have HF7 : Hid (Fr g (g + 1) W2 W7) := by rw [hW7]; exact (HFr.out.trans (Fr.of_below hz5)).setCell (p := ⟨g, K, none⟩) (Nat.le_refl _) (Nat.lt_succ_self _) _
          have HO7 : Hid (Own W7 g (g + 1) 3 1 (some ⟨g, 0, none⟩) m c' (fun j => .int .i64 ((if j < K + 1 then coR (rw_ x) m j else rw_ x j : Nat) : Int))) := by
            rw [hW7]
            refine ((HOr.out.keepB hz5 (by omega)).set_ K _).congr (fun j hj => ?_)
            by_cases h1 : j = K
            · subst h1; rw [if_pos rfl, if_pos (by omega), Hv.out]
            · rw [if_neg h1]
              by_cases h2 : j < K
              · rw [if_pos h2, if_pos (by omega)]
              · rw [if_neg h2, if_neg (by omega)]
          clear hW7 hz5 hb5 c5 f5 HSC HSS HZ0 HS1 KA E1 E2 p2
          go_wp2
          go_roundw
          case rel => exact ⟨K + 1, by omega, by go_num, HO7, HF7⟩
          case measure => (simp [intOf] <;> omega)
      · obtain rfl : m = K := by omega
        have i1 : (m : Int) ≤ (m : Int) := Int.le_refl _
        have HDr := Lib.hid (HD2.out.keepF HFr.out (.inl (by omega)))
        have d0 := HDr.out.c0
        have d1 := HDr.out.c1
        have d2 := HDr.out.f0
        have d3 := HDr.out.f1
        go_wp2
        have F := fr2 wr (w.heap.size + 1) (.int .i64 (m : Int)) (.slice (some ⟨g, 0, none⟩) m c')
        have F2 := F.size
        have O1 := ((HOr.out.keep F (.inr (by omega))).congr (y := fun j => .int .i64 (coR (rw_ x) m j : Nat)) (fun j hj => by rw [if_pos (by omega)])).mono (Nat.le_refl _) (Nat.le_trans (by omega) F2)
        have HE := ((⟨HB2.out.below.trans (HFr.out.below (B := w.heap.size) (by omega) (by omega))⟩ : From w wr).set (q := w.heap.size + 1) (by omega) (.int .i64 (m : Int)) (.slice (some ⟨g, 0, none⟩) m c')).below
        exact bodyPost_ret (v := .tuple #[.agg #[.int .i64 (m : Int), .slice (some ⟨g, 0, none⟩) m c'], .bool true]) (by simp [results, Tryz.results64, go_sem, *]) rfl ⟨m, some ⟨g, 0, none⟩, m, c', by rw [Ho.out], (fun _ => ⟨rfl, rfl, ⟨coR_vg HG2.out.vg, O1.rd⟩⟩), HE⟩
end Go.Proofs.YtjonhbmgmamchaaGreatDoor
