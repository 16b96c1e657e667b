/-
  Contracts: a set without which more parts are left than it has members: the program's search.
-/
import Derived.Test.YtccblehcemggjaaParts
import Derived.Test.YtccblehcemggjaaWithin
import Derived.Deep.RegionHeld3
namespace Go.Proofs.Ytccblehcemggjaa
open Go.RowKit

theorem low_bits : ∀ s : Nat, s < 128 → s ≠ 0 → bits .and .i64 (s : Int) (-(s : Int)) = ((low s : Nat) : Int) := by decide +kernel

set_option maxHeartbeats 1000000 in
theorem parts_i (m : Nat) (A : Option Addr) (c : Nat) (x : Nat → Int) (set : Nat) (w : World) (B : Nat) (h : Rd w B A m c x) (hB : B ≤ w.heap.size) (hok : okB m m x = true) (hset : set < 2 ^ m) :
    Calls Try.prog 81 #[.agg #[.int .i64 m, .slice A m c], .int .i64 set] w fun e w' => ∃ A' c' n', e = .returned (.slice A' n' c') ∧ n' = np (rw_ x) set ∧ Below w.heap.size w w' := by
  obtain ⟨vg, hx⟩ := okB_vg hok
  have hn7 := vg.n7
  have h128 := two_pow_le hn7
  obtain ⟨W, hW⟩ : ∃ W : World, W = ((w.alloc (Obj.cells #[Value.int IntKind.i64 m, Value.slice A m c] 42)).alloc (Obj.cells #[] 3)) := ⟨_, rfl⟩
  have HB : Hid (Below w.heap.size w W) := by rw [hW]; exact ((Below.refl _ _).alloc (Nat.le_refl _) _).alloc (by simp) _
  have HZ : Hid (w.heap.size + 2 = W.heap.size) := by rw [hW]; simp [Hid]
  have a0 : w.heap.size < W.heap.size := by have := HZ.out; omega
  have e0 : W.cell? ⟨w.heap.size, 0, none⟩ = some (.int .i64 m) := by rw [hW]; simp [go_sem]
  have e1 : W.cell? ⟨w.heap.size, 1, none⟩ = some (.slice A m c) := by rw [hW]; simp [go_sem]
  have HO : Hid (Own W (w.heap.size + 1) W.heap.size 3 1 (some ⟨w.heap.size + 1, 0, none⟩) 0 0 (ni [])) := by
    refine .inr ⟨w.heap.size + 1, #[], rfl, Nat.le_refl _, by have := HZ.out; omega, ?_, Nat.le_refl _, by unfold maxLen; omega, rfl, fun j hj => absurd hj (by omega)⟩
    rw [hW]
    have := heap_alloc_new (w.alloc (Obj.cells #[Value.int IntKind.i64 m, Value.slice A m c] 42)) (Obj.cells #[] 3)
    simpa using this
  have HK := Lib.hid (h.keep (HB.out.mono hB) (Nat.le_refl _))
  have HW := Lib.hid hW
  have Hok := Lib.hid hok
  clear hW h hx vg hok
  go_enter Try.func81, Try.ntmps81
  go_wp2_with fail
  rw [← HW.out]
  clear HW
  go_loopw [1, 5] (fun st l wr => ∃ (left : Nat) (A' : Option Addr) (c' : Nat) (T : List Nat), st = .int .i64 left ∧ l = .slice A' T.length c' ∧ left < 2 ^ m ∧ T.length + left < 2 ^ m ∧ Hid (T.length + np (rw_ x) left = np (rw_ x) set) ∧ Hid (Own wr (w.heap.size + 1) wr.heap.size 3 1 A' T.length c' (ni T)) ∧ Hid (Below (w.heap.size + 1) W wr)) (fun st _ _ => (intOf st).toNat)
  case atStart => exact ⟨set, _, 0, [], rfl, rfl, hset, by simpa using hset, by simp [Hid], HO, Below.refl _ _⟩
  case round =>
    obtain ⟨left, A', c', T, rfl, rfl, hl, hT, HN, HY, hbr⟩ := hrel
    have zr := hbr.out.size
    have j0 := up hbr.out e0 (by omega)
    have j1 := up hbr.out e1 (by omega)
    by_cases hl0 : left = 0
    · have hn : Hid (T.length = np (rw_ x) set) := by have := HN.out; rw [hl0, np_zero] at this; exact this
      subst hl0
      go_wp2
      go_ret
      exact ⟨A', c', T.length, rfl, hn.out, HB.out.trans (hbr.out.mono (by omega))⟩
    · have hne : ((left : Int) != 0) = true := by simp; omega
      have hlow := low_sub (by omega : left < 128) hl0
      have hps := part_sub (r := rw_ x) (by omega : left < 128) hl0
      have hxl := xor_sub_lt (by omega : left < 128) hps.1 hps.2
      have hnp : Hid (T.length + 1 + np (rw_ x) (left ^^^ part (rw_ x) left (low left)) = np (rw_ x) set) := by
        show _ = _
        have := HN.out; rw [np_succ (by omega) hl0] at this; omega
      have E1 := low_bits left (by omega) hl0
      have HK2 : Hid (Rd wr B A m c x) := HK.out.keep (hbr.out.mono (by omega)) (Nat.le_refl _)
      have hBw : B ≤ wr.heap.size := by omega
      have hplt := sub_lt hps.1 hl
      have hand : left &&& part (rw_ x) left (low left) = part (rw_ x) left (low left) := by rw [Nat.and_comm]; exact hps.1.and
      obtain ⟨p, hp⟩ : ∃ p, p = part (rw_ x) left (low left) := ⟨_, rfl⟩
      obtain ⟨lb, hlb⟩ : ∃ lb, lb = low left := ⟨_, rfl⟩
      rw [← hp] at hxl hplt hand hnp
      have E2 := i64_andNot_nat left p (by omega) (by omega)
      rw [hand] at E2
      have Hlow := Lib.hid hlow
      rw [← hlb] at E1
      have Hp := Lib.hid hp
      have Hlb := Lib.hid hlb
      have hx1 := hxl.1
      clear hl0 hlow hps hp hlb hand hxl
      go_wp2_with fail
      refine (partOf_i m A c x left lb wr B HK2.out hBw Hok.out hl (by rw [Hlb.out]; exact Hlow.out.1) (by rw [Hlb.out]; exact Hlow.out.2)).mono ?_
      rintro e w3 ⟨rfl, hb3⟩
      rw [Hlb.out, ← Hp.out]
      have HY3 : Hid (Own w3 (w.heap.size + 1) w3.heap.size 3 1 A' T.length c' (ni T)) := (HY.out.keepB hb3 (Nat.le_refl _)).mono (Nat.le_refl _) hb3.size
      have z3 := hb3.size
      have HB3 : Hid (Below (w.heap.size + 1) W w3) := hbr.out.trans (hb3.mono (by omega))
      clear hb3 hbr HY HK2 E1 j0 j1
      go_wp2_with (first | (at_builtin; (refine wpList_pushN w3 rfl _ _ rfl (w.heap.size + 1) w3.heap.size A' c' T HY3.out (by omega) p rfl 1 w3.heap.size rfl rfl (by omega) ?_; intro g cap w4 hO4 hb4)))
      have H4 := Lib.hid hO4
      have H5 : Hid (Below (w.heap.size + 1) W w4) := HB3.out.trans hb4
      clear hO4 hb4
      go_roundw
      case rel => exact ⟨left ^^^ p, _, _, T ++ [p], rfl, by rw [List.length_append]; rfl, by omega, by rw [List.length_append]; simp; omega, by rw [List.length_append]; exact hnp, by rw [List.length_append]; exact H4.out, H5⟩
      case measure => simp [intOf] <;> omega

set_option maxHeartbeats 1600000 in
theorem tough1_i (m : Nat) (A : Option Addr) (c : Nat) (x : Nat → Int) (set : Nat) (w : World) (B : Nat) (h : Rd w B A m c x) (hB : B ≤ w.heap.size) (hok : okB m m x = true) (hset : set < 2 ^ m) :
    Calls Try.prog 80 #[.agg #[.int .i64 m, .slice A m c], .int .i64 set] w fun e w' => e = .returned (.bool (twB (rw_ x) m set)) ∧ Below w.heap.size w w' := by
  obtain ⟨vg, hx⟩ := okB_vg hok
  have hn7 := vg.n7
  have h128 := two_pow_le hn7
  have hpos := Nat.two_pow_pos m
  obtain ⟨W, hW⟩ : ∃ W : World, W = (w.alloc (Obj.cells #[Value.int IntKind.i64 m, Value.slice A m c] 42)) := ⟨_, rfl⟩
  have HB : Hid (Below w.heap.size w W) := by rw [hW]; exact ((Below.refl _ _).alloc (Nat.le_refl _) _)
  have a0 : w.heap.size < W.heap.size := by rw [hW]; simp
  have e0 : W.cell? ⟨w.heap.size, 0, none⟩ = some (.int .i64 m) := by rw [hW]; simp [go_sem]
  have e1 : W.cell? ⟨w.heap.size, 1, none⟩ = some (.slice A m c) := by rw [hW]; simp [go_sem]
  have HK := Lib.hid (h.keep (HB.out.mono hB) (Nat.le_refl _))
  have E := i64_andNot_nat (2 ^ m - 1) set (by omega) (by omega)
  rw [full_and hset] at E
  obtain ⟨N, hN⟩ : ∃ N, N = (2 ^ m - 1) ^^^ set := ⟨_, rfl⟩
  have hNlt : N < 2 ^ m := by rw [hN]; exact full_lt hn7 hset
  rw [← hN] at E
  obtain ⟨F, hF⟩ : ∃ F, F = 2 ^ m - 1 := ⟨_, rfl⟩
  rw [← hF] at E
  have HW := Lib.hid hW
  have Hok := Lib.hid hok
  have HN := Lib.hid hN
  have HF := Lib.hid hF
  have hl7 := listN_len set
  obtain ⟨q, hq⟩ : ∃ q, q = np (rw_ x) N := ⟨_, rfl⟩
  obtain ⟨l, hl⟩ : ∃ l, l = (listN set).length := ⟨_, rfl⟩
  rw [← hl] at hl7
  have Hq := Lib.hid hq
  have Hl := Lib.hid hl
  have KA : Hid (∀ z : World, (z.cell? ⟨w.heap.size, 0, none⟩ = some (.int .i64 m) ∧ z.cell? ⟨w.heap.size, 1, none⟩ = some (.slice A m c) ∧ Below W.heap.size W z) → Calls Try.prog 82 #[.agg #[.int .i64 m, .slice A m c]] z fun e w' => e = .returned (.int .i64 (F : Int)) ∧ (w'.cell? ⟨w.heap.size, 0, none⟩ = some (.int .i64 m) ∧ w'.cell? ⟨w.heap.size, 1, none⟩ = some (.slice A m c) ∧ Below W.heap.size W w')) := by
    rintro z ⟨s0, s1, s2⟩
    refine (all_any m A c z hn7).mono ?_
    rintro e w' ⟨rfl, hb⟩
    exact ⟨by rw [HF.out], up hb s0 (World.block_lt_of_cell? _ _ s0), up hb s1 (World.block_lt_of_cell? _ _ s1), s2.trans (hb.mono s2.size)⟩
  have KP : Hid (∀ z : World, (z.cell? ⟨w.heap.size, 0, none⟩ = some (.int .i64 m) ∧ z.cell? ⟨w.heap.size, 1, none⟩ = some (.slice A m c) ∧ Below W.heap.size W z) → Calls Try.prog 81 #[.agg #[.int .i64 m, .slice A m c], .int .i64 N] z fun e w' => ∃ A' c', e = .returned (.slice A' q c') ∧ (w'.cell? ⟨w.heap.size, 0, none⟩ = some (.int .i64 m) ∧ w'.cell? ⟨w.heap.size, 1, none⟩ = some (.slice A m c) ∧ Below W.heap.size W w')) := by
    rintro z ⟨s0, s1, s2⟩
    refine (parts_i m A c x N z B (HK.out.keep (s2.mono (by omega)) (Nat.le_refl _)) (by have := s2.size; omega) Hok.out hNlt).mono ?_
    rintro e w' ⟨A', c', n', rfl, hn', hb⟩
    exact ⟨A', c', by rw [hn', ← Hq.out], up hb s0 (World.block_lt_of_cell? _ _ s0), up hb s1 (World.block_lt_of_cell? _ _ s1), s2.trans (hb.mono s2.size)⟩
  have KC : Hid (∀ z : World, (z.cell? ⟨w.heap.size, 0, none⟩ = some (.int .i64 m) ∧ z.cell? ⟨w.heap.size, 1, none⟩ = some (.slice A m c) ∧ Below W.heap.size W z) → Calls Try.prog 83 #[.int .i64 set] z fun e w' => e = .returned (.int .i64 (l : Int)) ∧ (w'.cell? ⟨w.heap.size, 0, none⟩ = some (.int .i64 m) ∧ w'.cell? ⟨w.heap.size, 1, none⟩ = some (.slice A m c) ∧ Below W.heap.size W w')) := by
    rintro z ⟨s0, s1, s2⟩
    refine (CountSet_i set (by omega) z).mono ?_
    rintro e w' ⟨rfl, hb⟩
    exact ⟨by rw [Hl.out], up hb s0 (World.block_lt_of_cell? _ _ s0), up hb s1 (World.block_lt_of_cell? _ _ s1), s2.trans (hb.mono s2.size)⟩
  have HR : Hid (twB (rw_ x) m set = decide (max l 1 < q)) := by show twB _ _ _ = _; unfold twB; rw [← Hl.out, ← HF.out, Hq.out, HN.out, ← HF.out]
  have hd : Below W.heap.size W W.drew := (Below.refl _ _).drew
  have e0' : W.drew.cell? ⟨w.heap.size, 0, none⟩ = some (.int .i64 m) := e0
  have e1' : W.drew.cell? ⟨w.heap.size, 1, none⟩ = some (.slice A m c) := e1
  clear hW h hx vg hok hN hF hq hl
  go_enter Try.func80, Try.ntmps80
  go_wp2_with fail
  rw [← HW.out]
  clear HW
  go_region_held3 (fun z => z.cell? ⟨w.heap.size, 0, none⟩ = some (.int .i64 m) ∧ z.cell? ⟨w.heap.size, 1, none⟩ = some (.slice A m c) ∧ Below W.heap.size W z)
    (first | assumption | (refine ⟨?_, ?_, ?_⟩ <;> assumption) | fail)
    (first
      | (go_at_call 82; ((with_reducible refine (KA.out _ (by assumption)).mono ?_); rintro e w3 ⟨rfl, hS3⟩))
      | (go_at_call 81; ((with_reducible refine (KP.out _ (by assumption)).mono ?_); rintro e w4 ⟨A4, c4, rfl, hS4⟩))
      | (go_at_call 83; ((with_reducible refine (KC.out _ (by assumption)).mono ?_); rintro e w5 ⟨rfl, hS5⟩))
      | fail)
  have HB5 : Hid (Below w.heap.size w w5) := HB.out.trans (hS5.2.2.mono (by omega))
  clear hS5 KA KP KC
  go_wp2
  all_goals
    go_ret
    refine ⟨ret_bool ?_, HB5.out⟩
    rw [HR.out]
    apply decide_eq_decide.2
    omega

noncomputable def tw (sz : Int) (m : Nat) (x : Nat → Int) : Option Nat := if okB sz m x = true then twR (rw_ x) m else none
noncomputable def twI (sz : Int) (m : Nat) (x : Nat → Int) : Int := (((tw sz m x).getD 0 : Nat) : Int)
noncomputable def twO (sz : Int) (m : Nat) (x : Nat → Int) : Bool := (tw sz m x).isSome
theorem tw_none {sz : Int} {m : Nat} {x : Nat → Int} (h : tw sz m x = none) : twI sz m x = 0 ∧ twO sz m x = false := by unfold twI twO; rw [h]; exact ⟨rfl, rfl⟩
theorem tw_some {sz : Int} {m : Nat} {x : Nat → Int} {k : Nat} (h : tw sz m x = some k) : twI sz m x = k ∧ twO sz m x = true := by unfold twI twO; rw [h]; exact ⟨rfl, rfl⟩
theorem tw_bad {sz : Int} {m : Nat} {x : Nat → Int} (h : okB sz m x = false) : tw sz m x = none := by unfold tw; rw [h]; rfl
theorem tw_ok {sz : Int} {m : Nat} {x : Nat → Int} (h : okB sz m x = true) : tw sz m x = twR (rw_ x) m := by unfold tw; rw [h]; rfl

set_option maxRecDepth 100000 in
set_option maxHeartbeats 1600000 in
theorem least_T (sz : Int) (A : Option Addr) (m c : Nat) (x : Nat → Int) (w : World) (B : Nat) (h : Rd w B A m c x) (hB : B ≤ w.heap.size) (hm : m ≤ 1048576) :
    Calls Try.prog 79 #[.agg #[.int .i64 sz, .slice A m c], .func (.func 80) #[] #[]] w fun e w' => e = .returned (.tuple #[.int .i64 (twI sz m x), .bool (twO sz m x)]) ∧ Below w.heap.size w w' := by
  obtain ⟨W, hW⟩ : ∃ W : World, W = (w.alloc (Obj.cells #[Value.int IntKind.i64 sz, Value.slice A m c] 42)) := ⟨_, rfl⟩
  have HB : Hid (Below w.heap.size w W) := by rw [hW]; exact ((Below.refl _ _).alloc (Nat.le_refl _) _)
  have a0 : w.heap.size < W.heap.size := by rw [hW]; simp
  have e0 : W.cell? ⟨w.heap.size, 0, none⟩ = some (.int .i64 sz) := by rw [hW]; simp [go_sem]
  have e1 : W.cell? ⟨w.heap.size, 1, none⟩ = some (.slice A m c) := by rw [hW]; simp [go_sem]
  have HK := Lib.hid (h.keep (HB.out.mono hB) (Nat.le_refl _))
  have HW := Lib.hid hW
  clear hW h
  go_enter Try.func79, Try.ntmps79
  go_wp2_with fail
  rw [← HW.out]
  refine (IsGraph_any sz A m c x W B HK.out (by omega) hm).mono ?_
  rintro e w1 ⟨rfl, hb1⟩
  have f0 := up hb1 e0 a0
  have f1 := up hb1 e1 a0
  have z1 := hb1.size
  have HB1 : Hid (Below w.heap.size w w1) := HB.out.trans (hb1.mono (by omega))
  have HK1 : Hid (Rd w1 B A m c x) := HK.out.keep (hb1.mono (by omega)) (Nat.le_refl _)
  clear hb1 e0 e1 HW HK HB
  cases ho : okB sz m x
  · have hn : Hid (tw sz m x = none) := tw_bad ho
    clear ho
    go_wp2
    go_ret2
    exact ⟨by rw [(tw_none hn.out).1, (tw_none hn.out).2]; rfl, HB1.out⟩
  · have hok2 : OkG sz m x := by
      refine Classical.byContradiction fun h2 => ?_
      rw [okB_no h2] at ho; cases ho
    obtain ⟨_, es, vg0, _⟩ := hok2
    subst es
    have hn7 := vg0.n7
    have h128 := two_pow_le hn7
    have hpos := Nat.two_pow_pos m
    have hT : Hid (tw (m : Int) m x = twR (rw_ x) m) := tw_ok ho
    have Hok := Lib.hid ho
    have b1 : w.heap.size < w1.heap.size := by omega
    clear ho vg0
    go_wp2_with fail
    refine (all_any m A c w1 hn7).mono ?_
    rintro e w2 ⟨rfl, hb2⟩
    have z2 := hb2.size
    have g0 := up hb2 f0 b1
    have g1 := up hb2 f1 b1
    obtain ⟨F, hF⟩ : ∃ F, F = 2 ^ m - 1 := ⟨_, rfl⟩
    rw [← hF]
    have hF2 : F + 1 = 2 ^ m := by omega
    have HF2 := Lib.hid hF2
    have hF7 : F ≤ 127 := by omega
    have HB2 : Hid (Below w.heap.size w w2) := HB1.out.trans (hb2.mono (by omega))
    have HK2 : Hid (Rd w2 B A m c x) := HK1.out.keep (hb2.mono (by omega)) (Nat.le_refl _)
    have b2 : w.heap.size < w2.heap.size := by omega
    clear hF hF2 f0 f1 hb2 HK1 HB1
    go_wp2
    go_loopw [13] (fun i wr => ∃ k : Nat, k ≤ F + 1 ∧ i = .int .i64 k ∧ Hid (∀ j, j < k → twB (rw_ x) m j = false) ∧ Hid (Below w2.heap.size w2 wr)) (fun i _ => F + 1 - (intOf i).toNat)
    case atStart => exact ⟨0, Nat.zero_le _, rfl, (fun j hj => absurd hj (by omega)), Below.refl _ _⟩
    case round =>
      obtain ⟨k, hk, rfl, hall, hbr⟩ := hrel
      have zr := hbr.out.size
      have j0 := up hbr.out g0 b2
      have j1 := up hbr.out g1 b2
      by_cases hlt : k < F + 1
      · have i1 : (k : Int) < (F : Int) + 1 := by omega
        have HK3 : Hid (Rd wr B A m c x) := HK2.out.keep (hbr.out.mono (by omega)) (Nat.le_refl _)
        go_wp2_with fail
        refine (tough1_i m A c x k wr B HK3.out (by omega) Hok.out (by have := HF2.out; omega)).mono ?_
        rintro e w3 ⟨rfl, hb3⟩
        have HB3 : Hid (Below w2.heap.size w2 w3) := hbr.out.trans (hb3.mono zr)
        clear hb3 hbr HK3 j0 j1
        cases ht : twB (rw_ x) m k
        · have Ht := Lib.hid ht
          clear ht
          go_wp2
          go_roundw
          case rel =>
            refine ⟨k + 1, by omega, by go_num, fun j hj => ?_, HB3⟩
            by_cases hjk : j < k
            · exact hall.out j hjk
            · obtain rfl : j = k := by omega
              exact Ht.out
          case measure => simp [intOf]; omega
        · have hs : Hid (tw (m : Int) m x = some k) := hT.out.trans (twR_some (by have := HF2.out; omega) ht hall.out)
          clear ht
          go_wp2
          go_ret2
          exact ⟨by rw [(tw_some hs.out).1, (tw_some hs.out).2]; rfl, HB2.out.trans (HB3.out.mono (by omega))⟩
      · have hn : Hid (tw (m : Int) m x = none) := hT.out.trans (twR_none fun j hj => hall.out j (by have := HF2.out; omega))
        have i1 : (F : Int) + 1 ≤ (k : Int) := by omega
        go_wp2
        go_ret2
        exact ⟨by rw [(tw_none hn.out).1, (tw_none hn.out).2]; rfl, HB2.out.trans (hbr.out.mono (by omega))⟩

set_option maxHeartbeats 1000000 in
theorem ToughnessWitness_i (sz : Int) (A : Option Addr) (m c : Nat) (x : Nat → Int) (w : World) (B : Nat) (h : Rd w B A m c x) (hB : B ≤ w.heap.size) (hm : m ≤ 1048576) :
    Calls Try.prog 38 #[.agg #[.int .i64 sz, .slice A m c]] w fun e w' => e = .returned (.tuple #[.int .i64 (twI sz m x), .bool (twO sz m x)]) ∧ Below w.heap.size w w' := by
  obtain ⟨W, hW⟩ : ∃ W : World, W = (w.alloc (Obj.cells #[Value.int IntKind.i64 sz, Value.slice A m c] 42)) := ⟨_, rfl⟩
  have HB : Hid (Below w.heap.size w W) := by rw [hW]; exact ((Below.refl _ _).alloc (Nat.le_refl _) _)
  have a0 : w.heap.size < W.heap.size := by rw [hW]; simp
  have HK := Lib.hid (h.keep (HB.out.mono hB) (Nat.le_refl _))
  have HW := Lib.hid hW
  clear hW h
  go_enter Try.func38, Try.ntmps38
  go_wp2_with fail
  rw [← HW.out]
  clear HW
  refine (least_T sz A m c x W B HK.out (by omega) hm).mono ?_
  rintro e w1 ⟨rfl, hb1⟩
  have HB1 : Hid (Below w.heap.size w w1) := HB.out.trans (hb1.mono (by omega))
  clear hb1 HK HB
  go_wp2
  go_ret2
  exact ⟨rfl, HB1.out⟩
end Go.Proofs.Ytccblehcemggjaa
