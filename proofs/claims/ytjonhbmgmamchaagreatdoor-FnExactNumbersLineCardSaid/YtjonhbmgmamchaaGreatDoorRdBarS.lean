/-
  Contract: the complement of a graph, of the reference.
-/
import Derived.Test.YtjonhbmgmamchaaGreatDoorRdIdxI
namespace Go.Proofs.YtjonhbmgmamchaaGreatDoor
open Go.RowKit

set_option maxRecDepth 100000 in
set_option maxHeartbeats 6400000 in
theorem ComplementOf_s (sz : Int) (A : Option Addr) (m c : Nat) (x : Nat → Int) (w : World) (h : GA w A m c x) (hm : m ≤ 1048576) :
    Calls Tryz.prog 47 #[.agg #[.int .i64 sz, .slice A m c]] w fun e w' => ∃ sz' A' m' c', e = .returned (.tuple #[.agg #[.int .i64 sz', .slice A' m' c'], .bool (okB sz m x)]) ∧ (okB sz m x = true → sz' = (m : Int) ∧ m' = m ∧ GV w' A' m c' (coR (rw_ x) m)) ∧ Below w.heap.size w w' := by
  obtain ⟨W, hW⟩ : ∃ W : World, W = ((w.alloc (Obj.cells #[Value.int IntKind.i64 sz, Value.slice A m c] 27)).alloc (Obj.cells #[Value.int IntKind.i64 0, Value.slice none 0 0] 27)) := ⟨_, rfl⟩
  have HB : Hid (From w W) := by rw [hW]; exact (From.alloc _ _).alloc_ _
  have HZ : Hid (w.heap.size + 2 = W.heap.size) := by rw [hW]; simp [Hid]
  have HS : Hid (From W W) := From.refl W
  have HK := Lib.hid (h.keep HB.out.below)
  have HC : Hid (GC W w.heap.size sz A m c) := by rw [hW]; exact (GC.new _ _ _ _ _).keep ((Below.refl _ _).alloc (Nat.le_refl _) _)
  have HD : Hid (GC W (w.heap.size + 1) 0 none 0 0) := by rw [hW]; constructor <;> simp [go_sem]
  have HW := Lib.hid hW
  clear hW h
  go_enter Tryz.func47, Tryz.ntmps47
  have e0 := HC.out.c0
  have e1 := HC.out.c1
  have d0 := HD.out.c0
  have d1 := HD.out.c1
  have d2 := HD.out.f0
  have d3 := HD.out.f1
  go_wp2_with fail
  rw [← HW.out]
  refine (IsGraph_sany sz A m c x W W.heap.size HK.out.rd (Nat.le_refl _) hm).mono ?_
  rintro e w1 ⟨rfl, hb1⟩
  clear HW
  clear e0 e1 d0 d1 d2 d3
  replace HB := Lib.hid (HB.out.keep hb1)
  replace HS := Lib.hid (HS.out.keep hb1)
  replace HK := Lib.hid (HK.out.keep hb1)
  replace HC := Lib.hid (HC.out.keep hb1)
  replace HD := Lib.hid (HD.out.keep hb1)
  clear hb1
  have e0 := HC.out.c0
  have e1 := HC.out.c1
  have d0 := HD.out.c0
  have d1 := HD.out.c1
  have d2 := HD.out.f0
  have d3 := HD.out.f1
  cases ho : okB sz m x
  · have Ho := Lib.hid ho
    clear ho
    go_wp2
    have HE := (HB.out.set (q := w.heap.size + 1) (by omega) (.int .i64 0) (.slice none 0 0)).below
    exact bodyPost_ret (v := .tuple #[.agg #[.int .i64 0, .slice none 0 0], .bool false]) (by simp [results, Tryz.results47, go_sem, *]) rfl ⟨0, none, 0, 0, by rw [Ho.out], (fun h => by rw [Ho.out] at h; cases h), HE⟩
  · obtain ⟨_, es, vg0, _⟩ := okB_ok' ho
    subst es
    have hn1 := vg0.n1
    have hn7 := vg0.n7
    have HG : Hid (GV w1 A m c (rw_ x)) := HK.out.gv ho
    have Ho := Lib.hid ho
    have HY : Hid (w.heap.size + 2 ≤ w1.heap.size) := by have := HS.out.below.size; have := HZ.out; show _ ≤ _; omega
    obtain ⟨b, o, rfl⟩ := HG.out.addr
    obtain ⟨W2, hW2⟩ : ∃ W2 : World, W2 = (w1.alloc (Obj.cells #[Value.int IntKind.i64 (m : Int), Value.slice none 0 0] 27)) := ⟨_, rfl⟩
    have HR2 : Hid (From w1 W2) := by rw [hW2]; exact From.alloc _ _
    have HQ : Hid (GC W2 w1.heap.size m none 0 0) := by rw [hW2]; exact GC.new _ _ _ _ _
    have hz2 : w1.heap.size + 1 = W2.heap.size := by rw [hW2]; simp
    have HW2 := Lib.hid hW2
    clear hW2 ho vg0
    go_wp2_with fail
    rw [← HW2.out]
    clear HW2
    go_loopw [5] (fun k wr => ∃ (K : Nat) (A' : Option Addr) (c' : Nat), K ≤ m ∧ k = .int .i64 K ∧ Hid (GC wr w1.heap.size m A' K c') ∧ Hid (Own wr (w1.heap.size + 1) wr.heap.size 3 1 A' K c' (fun j => .int .i64 (coR (rw_ x) m j : Nat))) ∧ Hid (From w1 wr) ∧ Hid (w1.heap.size + 1 ≤ wr.heap.size)) (fun k _ => m - (intOf k).toNat)
    case atStart => exact ⟨0, none, 0, Nat.zero_le _, rfl, HQ, Own.nil _ _ _ _ _ _, HR2, Nat.le_of_eq hz2⟩
    case round =>
      obtain ⟨K, A', c', hK, rfl, HQr, HOr, HRr, HZr⟩ := hrel
      have HCr := Lib.hid (HC.out.keep HRr.out.below)
      have e0 := HCr.out.c0
      have e1 := HCr.out.c1
      have g0 := HQr.out.c0
      have g1 := HQr.out.c1
      have g2 := HQr.out.f0
      have g3 := HQr.out.f1
      by_cases hlt : K < m
      · have HGr := Lib.hid (HG.out.keep HRr.out.below)
        have q0 := HGr.out.row hlt
        have hr := HGr.out.vg.lt K hlt
        obtain ⟨y, hy⟩ : ∃ y, y = rw_ x K := ⟨_, rfl⟩
        have hirr := HGr.out.vg.irr K hlt
        have hco : coR (rw_ x) m K = 2 ^ m - 1 - y - 2 ^ K ∧ y + 2 ^ K ≤ 2 ^ m - 1 := by rw [hy]; exact coR_sub HGr.out.vg hlt
        rw [← hy] at q0 hr
        have t1 := two_pow_int m hn7
        have t2 := two_pow_int K (by omega)
        have p1 := pow_shl m hn7
        have p2 := pow_shl K (by omega)
        have c1 : ((2 ^ m : Nat) : Int) = 2 ^ m := by simp
        have c2 : ((2 ^ K : Nat) : Int) = 2 ^ K := by simp
        have hle := hco.2
        have t3 : (y : Int) + 2 ^ K ≤ 2 ^ m - 1 := by rw [← c1, ← c2]; omega
        have s1 : IntKind.i64.wrap ((2 : Int) ^ m - 1) = 2 ^ m - 1 := Go.IntWalk.i64_in _ (by omega)
        have s2 : IntKind.i64.wrap ((2 : Int) ^ m - 1 - (y : Int)) = 2 ^ m - 1 - (y : Int) := Go.IntWalk.i64_in _ (by omega)
        have s3 : IntKind.i64.wrap ((2 : Int) ^ m - 1 - (y : Int) - 2 ^ K) = ((coR (rw_ x) m K : Nat) : Int) := by
          rw [hco.1, Go.IntWalk.i64_in _ (by omega)]
          omega
        have i1 : (K : Int) < (m : Int) := by omega
        obtain ⟨v, hv⟩ : ∃ v, v = coR (rw_ x) m K := ⟨_, rfl⟩
        rw [← hv] at s3
        have Hv := Lib.hid hv
        have HP : Hid (Own ((wr.alloc (Obj.cells #[.int .i64 (v : Int)] 3)).drew) (w1.heap.size + 1) wr.heap.size 3 1 A' K c' (fun j => .int .i64 (coR (rw_ x) m j : Nat))) := HOr.out.alloc _
        have HXn : Hid (∀ i, i < 1 → (#[Value.int .i64 (v : Int)] : Array Value)[i]? = some ((fun j => Value.int .i64 ((coR (rw_ x) m j : Nat) : Int)) (K * 1 + i))) := by
          intro i hi
          obtain rfl : i = 0 := by omega
          simp [Hv.out]
        have n5 : w1.heap.size < wr.heap.size := by have := HZr.out; omega
        have M0 : Hid (GC ((wr.alloc (Obj.cells #[.int .i64 (v : Int)] 3)).drew) w1.heap.size m A' K c') := (HQr.out.keep ((Below.refl _ _).alloc (Nat.le_refl _) _)).drew
        have n6 : K ≤ 1000 := by omega
        clear hv hco hle t1 t2 t3 c1 c2 hr hy hirr HGr HCr
        go_wp2
        go_region_law
          ((refine step_push _ (by rfl) _ _ _ (by rfl) 3 _ 1 8 Tryz.underlying22 info_int rfl (by omega) (w1.heap.size + 1) wr.heap.size A' K c' (fun j => .int .i64 (coR (rw_ x) m j : Nat)) (by rfl) HP.out (by have := HZr.out; simp; omega) wr.heap.size #[.int .i64 (v : Int)] 3 (0, 0) 1 (heap_alloc_new wr _) (by rfl) rfl HXn.out (by simp [Value.oneCell']) (by omega) (by omega) ?_; intro g6 cap w6 hp; have m0 := (hp.below.cell (p := ⟨w1.heap.size, 0, none⟩) (Nat.lt_succ_self _)).trans M0.out.c0; have m1 := (hp.below.cell (p := ⟨w1.heap.size, 1, none⟩) (Nat.lt_succ_self _)).trans M0.out.c1; have m3 := (World.frozen?_of_block (hp.below.block w1.heap.size (Nat.lt_succ_self _))).trans M0.out.f1; have m2 := (World.frozen?_of_block (hp.below.block w1.heap.size (Nat.lt_succ_self _))).trans M0.out.f0))
        all_goals
          obtain ⟨W7, hW7⟩ : ∃ W7 : World, W7 = (w6.setCell ⟨w1.heap.size, 1, none⟩ (.slice (some ⟨g6, 0, none⟩) (K + 1) cap)) := ⟨_, rfl⟩
          rw [← hW7]
          have F7 : Fr w1.heap.size (w1.heap.size + 1) w6 W7 := by rw [hW7]; exact (Fr.refl _ _ w6).setCell (p := ⟨w1.heap.size, 1, none⟩) (Nat.le_refl _) (Nat.lt_succ_self _) _
          have HQ6 : Hid (GC W7 w1.heap.size m (some ⟨g6, 0, none⟩) (K + 1) cap) := by rw [hW7]; constructor <;> simp [go_sem, m0, m1, m2, m3]
          have HO6 : Hid (Own W7 (w1.heap.size + 1) W7.heap.size 3 1 (some ⟨g6, 0, none⟩) (K + 1) cap (fun j => .int .i64 (coR (rw_ x) m j : Nat))) := (hp.own.keep F7 (.inr (Nat.le_refl _))).mono (Nat.le_refl _) F7.size
          have HR6 : Hid (From w1 W7) := by rw [hW7]; exact ⟨((HRr.out.below.trans ((Below.refl w1.heap.size wr).alloc (by omega) _).drew).trans (hp.below.mono (by omega))).setCell (p := ⟨w1.heap.size, 1, none⟩) (Nat.le_refl _) _⟩
          have HZ6 : Hid (w1.heap.size + 1 ≤ W7.heap.size) := by
            show _ ≤ _
            have h1 := hp.below.size
            have h2 : ((wr.alloc (Obj.cells #[.int .i64 (v : Int)] 3)).drew).heap.size = wr.heap.size + 1 := by simp
            have h3 := F7.size
            omega
          clear hp m0 m1 m2 m3 hW7 F7 HP HXn M0
          go_wp2
          go_roundw
          case rel => exact ⟨K + 1, some ⟨g6, 0, none⟩, cap, by omega, by go_num, HQ6, HO6, HR6, HZ6⟩
          case measure => (simp [intOf] <;> omega)
      · obtain rfl : m = K := by omega
        have i1 : (m : Int) ≤ (m : Int) := Int.le_refl _
        have HDr := Lib.hid (HD.out.keep HRr.out.below)
        have d0 := HDr.out.c0
        have d1 := HDr.out.c1
        have d2 := HDr.out.f0
        have d3 := HDr.out.f1
        go_wp2
        have F := fr2 wr (w.heap.size + 1) (.int .i64 (m : Int)) (.slice A' m c')
        have O1 := (HOr.out.keep F (.inr (by have := HY.out; omega))).mono (Nat.le_refl _) F.size
        have HE := (((HB.out.keep HRr.out.below).set (q := w.heap.size + 1) (by omega) (.int .i64 (m : Int)) (.slice A' m c'))).below
        exact bodyPost_ret (v := .tuple #[.agg #[.int .i64 (m : Int), .slice A' m c'], .bool true]) (by simp [results, Tryz.results47, go_sem, *]) rfl ⟨m, A', m, c', by rw [Ho.out], (fun _ => ⟨rfl, rfl, ⟨coR_vg HG.out.vg, O1.rd⟩⟩), HE⟩
end Go.Proofs.YtjonhbmgmamchaaGreatDoor
