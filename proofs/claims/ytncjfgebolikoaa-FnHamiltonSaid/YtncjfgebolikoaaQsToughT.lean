/-
  Contracts: the parts of a set, and the witness against toughness, of the reference.
-/
import Derived.Test.YtncjfgebolikoaaQsGC
namespace Go.Proofs.Ytncjfgebolikoaa
open Go.RowKit

set_option maxRecDepth 100000 in
set_option maxHeartbeats 1600000 in
theorem PartsOf_s (m : Nat) (A : Option Addr) (c : Nat) (x : Nat → Int) (set : Nat) (w : World) (B : Nat) (h : Rd w B A m c x) (hB : B ≤ w.heap.size) (hok : okB m m x = true) (hset : set < 2 ^ m) :
    Calls Try.prog 40 #[.agg #[.int .i64 m, .slice A m c], .int .i64 set] w fun e w' => ∃ A' c' n', e = .returned (.slice A' n' c') ∧ n' = np (rw_ x) set ∧ Below w.heap.size w w' := by
  obtain ⟨vg, hx⟩ := okB_vg hok
  have hn7 := vg.n7
  have h128 := two_pow_le hn7
  obtain ⟨W, hW⟩ : ∃ W : World, W = ((w.alloc (Obj.cells #[Value.int IntKind.i64 m, Value.slice A m c] 26)).alloc (Obj.cells #[] 3)) := ⟨_, rfl⟩
  have HB : Hid (Below w.heap.size w W) := by rw [hW]; exact ((Below.refl _ _).alloc (Nat.le_refl _) _).alloc (by simp) _
  have HZ : Hid (w.heap.size + 2 = W.heap.size) := by rw [hW]; simp [Hid]
  have a0 : w.heap.size < W.heap.size := by have := HZ.out; omega
  have e0 : W.cell? ⟨w.heap.size, 0, none⟩ = some (.int .i64 m) := by rw [hW]; simp [go_sem]
  have e1 : W.cell? ⟨w.heap.size, 1, none⟩ = some (.slice A m c) := by rw [hW]; simp [go_sem]
  have HO : Hid (Own W (w.heap.size + 1) W.heap.size 3 1 (some ⟨w.heap.size + 1, 0, none⟩) 0 0 (ni [])) := by
    refine .inr ⟨w.heap.size + 1, #[], rfl, Nat.le_refl _, by have := HZ.out; omega, ?_, Nat.le_refl _, by unfold maxLen; omega, rfl, fun j hj => absurd hj (by omega)⟩
    rw [hW]
    have := heap_alloc_new (w.alloc (Obj.cells #[Value.int IntKind.i64 m, Value.slice A m c] 26)) (Obj.cells #[] 3)
    simpa using this
  have HK := Lib.hid (h.keep (HB.out.mono hB) (Nat.le_refl _))
  have HW := Lib.hid hW
  have Hok := Lib.hid hok
  have HV := Lib.hid vg
  clear hW h hx vg hok
  go_enter Try.func40, Try.ntmps40
  go_wp2_with fail
  rw [← HW.out]
  clear HW
  go_loopw [5, 6] (fun l st wr => ∃ (left : Nat) (A' : Option Addr) (c' : Nat) (T : List Nat), st = .int .i64 left ∧ l = .slice A' T.length c' ∧ left < 2 ^ m ∧ T.length + left < 2 ^ m ∧ Hid (T.length + np (rw_ x) left = np (rw_ x) set) ∧ Hid (Sub left set ∧ Sub (stp (rw_ x) set left) left) ∧ Hid (Own wr (w.heap.size + 1) wr.heap.size 3 1 A' T.length c' (ni T)) ∧ Hid (Below (w.heap.size + 1) W wr)) (fun _ st _ => (intOf st).toNat)
  case atStart => exact ⟨set, _, 0, [], rfl, rfl, hset, by simpa using hset, by simp [Hid], ⟨fun _ h => h, stp_sub _ _ _⟩, HO, Below.refl _ _⟩
  case round =>
    obtain ⟨left, A', c', T, rfl, rfl, hl, hT, HN, HS, HY, hbr⟩ := hrel
    have zr := hbr.out.size
    have j0 := up hbr.out e0 (by omega)
    have j1 := up hbr.out e1 (by omega)
    by_cases hl0 : left = 0
    · have hn : Hid (T.length = np (rw_ x) set) := by have := HN.out; rw [hl0, np_zero] at this; exact this
      have hle : (left : Int) ≤ 0 := by omega
      clear hl0
      go_wp2
      go_ret
      exact ⟨A', c', T.length, rfl, hn.out, HB.out.trans (hbr.out.mono (by omega))⟩
    · have hgt : (0 : Int) < (left : Int) := by omega
      have hgd : decide (0 < left) = true := by simp; omega
      have hlow := low_sub (by omega : left < 128) hl0
      have hps := part_sub (r := rw_ x) (by omega : left < 128) hl0
      have hxl := xor_sub_lt (by omega : left < 128) hps.1 hps.2
      have hnp : Hid (T.length + 1 + np (rw_ x) (left ^^^ part (rw_ x) left (low left)) = np (rw_ x) set) := by
        show _ = _
        have := HN.out; rw [np_succ (by omega) hl0] at this; omega
      have hcl : Hid (Sub (left ^^^ part (rw_ x) left (low left)) set ∧ Sub (stp (rw_ x) set (left ^^^ part (rw_ x) left (low left))) (left ^^^ part (rw_ x) left (low left))) := by
        refine ⟨fun u hu => HS.out.1 u ?_, closed_next HV.out hset HS.out.1 HS.out.2 hl0⟩
        rw [Nat.testBit_xor] at hu
        cases hh : left.testBit u
        · have := mt (hps.1 u) (by simp [hh])
          simp [hh, this] at hu
        · rfl
      obtain ⟨v, l, hlist, hv7, hvb⟩ := list_ne (by omega : left < 128) hl0
      have hlv := low_of hlist
      have hvm := bit_lt hl hvb
      have hpart : part (rw_ x) set (2 ^ v) = part (rw_ x) left (low left) := by
        rw [← hlv]
        show gro _ _ _ 7 = gro _ _ _ 7
        exact gro_left HS.out.2 HS.out.1 hlow.1 7
      have hsub : Sub (2 ^ v) set := by rw [← hlv]; exact hlow.1.trans HS.out.1
      have hplt := sub_lt hps.1 hl
      obtain ⟨p, hp⟩ : ∃ p, p = part (rw_ x) left (low left) := ⟨_, rfl⟩
      rw [← hp] at hxl hplt hnp hcl hpart
      have hple : p ≤ left := by rw [hp]; exact sub_num hps.1
      have hE2 : Hid ((left : Int) - p = ((left ^^^ p : Nat) : Int)) := by show _ = _; rw [hxl.2]; omega
      have hx1 := hxl.1
      have hpp : 0 < p := by have := hxl.2; omega
      have HL := Lib.hid hlist
      have Hsub := Lib.hid hsub
      have Hpart := Lib.hid hpart
      have HK2 : Hid (Rd wr B A m c x) := HK.out.keep (hbr.out.mono (by omega)) (Nat.le_refl _)
      have hBw : B ≤ wr.heap.size := by omega
      clear hl0 hlow hps hp hxl hlist hlv hsub hpart hvb
      go_wp2_with fail
      refine (IsSet_yes m A c x set wr B HK2.out hBw hn7 Hok.out hset).mono ?_
      rintro e w2 ⟨rfl, hb2⟩
      have z2 := hb2.size
      have i0 := up hb2 j0 (by omega)
      have i1 := up hb2 j1 (by omega)
      have HY2 : Hid (Own w2 (w.heap.size + 1) w2.heap.size 3 1 A' T.length c' (ni T)) := (HY.out.keepB hb2 (Nat.le_refl _)).mono (Nat.le_refl _) hb2.size
      have HB2 : Hid (Below (w.heap.size + 1) W w2) := hbr.out.trans (hb2.mono (by omega))
      clear hb2 hbr HY HK2 j0 j1
      go_wp2_with fail
      refine (ListOf_s left (by omega) w2).mono ?_
      rintro e w3 ⟨A3, c3, rfl, hO3, hb3⟩
      have z3 := hb3.size
      have k0 := up hb3 i0 (by omega)
      have k1 := up hb3 i1 (by omega)
      have HY3 : Hid (Own w3 (w.heap.size + 1) w3.heap.size 3 1 A' T.length c' (ni T)) := (HY2.out.keepB hb3 (Nat.le_refl _)).mono (Nat.le_refl _) hb3.size
      have HB3 : Hid (Below (w.heap.size + 1) W w3) := HB2.out.trans (hb3.mono (by omega))
      have hlen : (listN left).length = l.length + 1 := by rw [HL.out]; rfl
      obtain ⟨g3, rfl, _, hg3, _, hc3, _⟩ := hO3.at_ (by omega)
      have q0 : w3.cell? ⟨g3, 0, none⟩ = some (.int .i64 v) := (hc3 0 (by omega)).trans (by rw [HL.out]; rfl)
      rw [hlen]
      have p2 : (2 : Int) ^ v = ((2 ^ v : Nat) : Int) := by simp
      have p1 := pow_shl v (by omega)
      have Hp2 := Lib.hid p2
      have hv0 : (2 : Nat) ^ v ≠ 0 := by have := Nat.two_pow_pos v; omega
      have Hv0 := Lib.hid hv0
      have KG : Hid (∀ z : World, (z.cell? ⟨w.heap.size, 0, none⟩ = some (.int .i64 m) ∧ z.cell? ⟨w.heap.size, 1, none⟩ = some (.slice A m c) ∧ Below w3.heap.size w3 z) → Calls Try.prog 65 #[.agg #[.int .i64 m, .slice A m c], .int .i64 (2 ^ v), .int .i64 set] z fun e w' => e = .returned (.int .i64 (p : Int)) ∧ (w'.cell? ⟨w.heap.size, 0, none⟩ = some (.int .i64 m) ∧ w'.cell? ⟨w.heap.size, 1, none⟩ = some (.slice A m c) ∧ Below w3.heap.size w3 w')) := by
        rintro z ⟨s0, s1, s2⟩
        rw [Hp2.out]
        refine (l3Grow_s m A c x (2 ^ v) set z B (HK.out.keep ((HB3.out.mono (by omega)).trans (s2.mono (by omega))) (Nat.le_refl _)) (by have := s2.size; omega) Hok.out hset Hsub.out Hv0.out).mono ?_
        rintro e w' ⟨rfl, hb⟩
        exact ⟨by rw [Hpart.out], up hb s0 (World.block_lt_of_cell? _ _ s0), up hb s1 (World.block_lt_of_cell? _ _ s1), s2.trans (hb.mono s2.size)⟩
      have hd : Below w3.heap.size w3 w3.drew := (Below.refl _ _).drew
      have k0' : w3.drew.cell? ⟨w.heap.size, 0, none⟩ = some (.int .i64 m) := k0
      have k1' : w3.drew.cell? ⟨w.heap.size, 1, none⟩ = some (.slice A m c) := k1
      clear hb3 hO3 hc3 HY2 HB2 i0 i1 hlen hv0 p2
      go_wp2
      go_region_held3 (fun z => z.cell? ⟨w.heap.size, 0, none⟩ = some (.int .i64 m) ∧ z.cell? ⟨w.heap.size, 1, none⟩ = some (.slice A m c) ∧ Below w3.heap.size w3 z)
        (first | assumption | (refine ⟨?_, ?_, ?_⟩ <;> assumption) | fail)
        (first
          | (go_at_call 65; ((with_reducible refine (KG.out _ (by assumption)).mono ?_); rintro e w4 ⟨rfl, hS4⟩))
          | fail)
      have hb4 := hS4.2.2
      have z4 := hb4.size
      have HY4 : Hid (Own w4 (w.heap.size + 1) w4.heap.size 3 1 A' T.length c' (ni T)) := (HY3.out.keepB hb4 (Nat.le_refl _)).mono (Nat.le_refl _) z4
      have HB4 : Hid (Below (w.heap.size + 1) W w4) := HB3.out.trans (hb4.mono (by omega))
      clear hS4 hb4 KG hd k0' k1' k0 k1 HY3 HB3 q0 p1
      go_wp2_with (first | (at_builtin; (refine wpList_pushN w4 rfl _ _ rfl (w.heap.size + 1) w4.heap.size A' c' T HY4.out (by omega) p rfl 1 w4.heap.size rfl rfl (by omega) ?_; intro g cap w5 hO5 hb5)))
      have H4 := Lib.hid hO5
      have H5 : Hid (Below (w.heap.size + 1) W w5) := HB4.out.trans hb5
      clear hO5 hb5
      refine ⟨⟨left ^^^ p, _, _, T ++ [p], congrArg (Value.int .i64) hE2.out, by rw [List.length_append]; rfl, by omega, by rw [List.length_append]; simp; omega, by rw [List.length_append]; exact hnp, hcl, by rw [List.length_append]; exact H4.out, H5⟩, by simp [intOf] <;> omega⟩

set_option maxRecDepth 100000 in
set_option maxHeartbeats 1600000 in
theorem ToughnessWitness_s (sz : Int) (A : Option Addr) (m c : Nat) (x : Nat → Int) (w : World) (B : Nat) (h : Rd w B A m c x) (hB : B ≤ w.heap.size) (hm : m ≤ 1048576) :
    Calls Try.prog 11 #[.agg #[.int .i64 sz, .slice A m c]] w fun e w' => e = .returned (.tuple #[.int .i64 (twI sz m x), .bool (twO sz m x)]) ∧ Below w.heap.size w w' := by
  obtain ⟨W, hW⟩ : ∃ W : World, W = (w.alloc (Obj.cells #[Value.int IntKind.i64 sz, Value.slice A m c] 26)) := ⟨_, rfl⟩
  have HB : Hid (Below w.heap.size w W) := by rw [hW]; exact ((Below.refl _ _).alloc (Nat.le_refl _) _)
  have a0 : w.heap.size < W.heap.size := by rw [hW]; simp
  have e0 : W.cell? ⟨w.heap.size, 0, none⟩ = some (.int .i64 sz) := by rw [hW]; simp [go_sem]
  have e1 : W.cell? ⟨w.heap.size, 1, none⟩ = some (.slice A m c) := by rw [hW]; simp [go_sem]
  have HK := Lib.hid (h.keep (HB.out.mono hB) (Nat.le_refl _))
  have HW := Lib.hid hW
  clear hW h
  cases ho : okB sz m x
  · have hn : Hid (tw sz m x = none) := tw_bad ho
    have Ho := Lib.hid ho
    clear ho
    go_enter Try.func11, Try.ntmps11
    go_wp2_with fail
    rw [← HW.out]
    clear HW
    refine wp_loop_rounds 1 ?_
    rw [rounds_succ]
    go_wp2_with fail
    refine (IsGraph_sany sz A m c x W B HK.out (by omega) hm).mono ?_
    rintro e w1 ⟨rfl, hb1⟩
    rw [Ho.out]
    have HB1 : Hid (Below w.heap.size w w1) := HB.out.trans (hb1.mono (by omega))
    clear hb1
    go_wp2
    go_ret2
    exact ⟨by rw [(tw_none hn.out).1, (tw_none hn.out).2]; rfl, HB1.out⟩
  · have hok2 : OkG sz m x := by
      refine Classical.byContradiction fun h2 => ?_
      rw [okB_no h2] at ho; cases ho
    obtain ⟨_, es, vg0, _⟩ := hok2
    subst es
    have hn7 := vg0.n7
    have h128 := two_pow_le hn7
    have hpos := Nat.two_pow_pos m
    have hT : Hid (tw (m : Int) m x = twR (rw_ x) m) := tw_ok ho
    have Hok := Lib.hid ho
    clear ho vg0
    go_enter Try.func11, Try.ntmps11
    go_wp2_with fail
    rw [← HW.out]
    clear HW
    go_loopw [4] (fun i wr => ∃ k : Nat, k ≤ 2 ^ m ∧ i = .int .i64 k ∧ Hid (∀ j, j < k → twB (rw_ x) m j = false) ∧ Hid (Below W.heap.size W wr)) (fun i _ => 2 ^ m - (intOf i).toNat)
    case atStart => exact ⟨0, Nat.zero_le _, rfl, (fun j hj => absurd hj (by omega)), Below.refl _ _⟩
    case round =>
      obtain ⟨k, hk, rfl, hall, hbr⟩ := hrel
      have zr := hbr.out.size
      have j0 := up hbr.out e0 a0
      have j1 := up hbr.out e1 a0
      have HK2 : Hid (Rd wr B A m c x) := HK.out.keep (hbr.out.mono (by omega)) (Nat.le_refl _)
      have hBw : B ≤ wr.heap.size := by omega
      go_wp2_with fail
      refine (IsGraph_sany m A m c x wr B HK2.out hBw hm).mono ?_
      rintro e w2 ⟨rfl, hb2⟩
      rw [Hok.out]
      have z2 := hb2.size
      have g0 := up hb2 j0 (by omega)
      have g1 := up hb2 j1 (by omega)
      have HB2 : Hid (Below W.heap.size W w2) := hbr.out.trans (hb2.mono zr)
      clear hb2 hbr HK2 j0 j1
      have p1 := pow_shl m hn7
      have p2 : (2 : Int) ^ m = ((2 ^ m : Nat) : Int) := by simp
      by_cases hlt : k < 2 ^ m
      · have i1 : (k : Int) < 2 ^ m := by rw [p2]; omega
        obtain ⟨F, hF⟩ : ∃ F, F = 2 ^ m - 1 := ⟨_, rfl⟩
        obtain ⟨N, hN⟩ : ∃ N, N = (2 ^ m - 1) ^^^ k := ⟨_, rfl⟩
        have hNs : N = F - k := by rw [hN, hF, full_sub hn7 hlt]
        have hNlt : N < 2 ^ m := by rw [hN]; exact full_lt hn7 hlt
        obtain ⟨q, hq⟩ : ∃ q, q = np (rw_ x) N := ⟨_, rfl⟩
        obtain ⟨l, hl⟩ : ∃ l, l = (listN k).length := ⟨_, rfl⟩
        have hl7 := listN_len k
        rw [← hl] at hl7
        have HR : Hid (twB (rw_ x) m k = decide (max l 1 < q)) := by show twB _ _ _ = _; unfold twB; rw [← hl, hq, hN]
        have s1 : IntKind.i64.wrap ((2 : Int) ^ m - 1) = (F : Int) := by
          have : (2 : Int) ^ m - 1 = (F : Int) := by rw [p2]; omega
          rw [this]; exact Go.IntWalk.i64_in (F : Int) (by omega)
        have s2 : IntKind.i64.wrap ((F : Int) - (k : Int)) = (N : Int) := by
          have : (F : Int) - (k : Int) = (N : Int) := by omega
          rw [this]; exact Go.IntWalk.i64_in (N : Int) (by omega)
        have Hq := Lib.hid hq
        have Hl := Lib.hid hl
        have KP : Hid (∀ z : World, (z.cell? ⟨w.heap.size, 0, none⟩ = some (.int .i64 m) ∧ z.cell? ⟨w.heap.size, 1, none⟩ = some (.slice A m c) ∧ Below w2.heap.size w2 z) → Calls Try.prog 40 #[.agg #[.int .i64 m, .slice A m c], .int .i64 N] z fun e w' => ∃ A' c', e = .returned (.slice A' q c') ∧ (w'.cell? ⟨w.heap.size, 0, none⟩ = some (.int .i64 m) ∧ w'.cell? ⟨w.heap.size, 1, none⟩ = some (.slice A m c) ∧ Below w2.heap.size w2 w')) := by
          rintro z ⟨t0, t1, t2⟩
          refine (PartsOf_s m A c x N z B (HK.out.keep ((HB2.out.mono (by omega)).trans (t2.mono (by omega))) (Nat.le_refl _)) (by have := t2.size; omega) Hok.out hNlt).mono ?_
          rintro e w' ⟨A', c', n', rfl, hn', hb⟩
          exact ⟨A', c', by rw [hn', ← Hq.out], up hb t0 (World.block_lt_of_cell? _ _ t0), up hb t1 (World.block_lt_of_cell? _ _ t1), t2.trans (hb.mono t2.size)⟩
        have hd : Below w2.heap.size w2 w2.drew := (Below.refl _ _).drew
        have g0' : w2.drew.cell? ⟨w.heap.size, 0, none⟩ = some (.int .i64 m) := g0
        have g1' : w2.drew.cell? ⟨w.heap.size, 1, none⟩ = some (.slice A m c) := g1
        clear hF hN hq hl p2 hNs
        go_wp2
        go_region_held3 (fun z => z.cell? ⟨w.heap.size, 0, none⟩ = some (.int .i64 m) ∧ z.cell? ⟨w.heap.size, 1, none⟩ = some (.slice A m c) ∧ Below w2.heap.size w2 z)
          (first | assumption | (refine ⟨?_, ?_, ?_⟩ <;> assumption) | fail)
          (first
            | (go_at_call 40; ((with_reducible refine (KP.out _ (by assumption)).mono ?_); rintro e w3 ⟨A3, c3, rfl, hS3⟩))
            | fail)
        have hb3 := hS3.2.2
        have z3 := hb3.size
        have HB3 : Hid (Below W.heap.size W w3) := HB2.out.trans (hb3.mono (by omega))
        clear hS3 hb3 KP hd g0' g1' g0 g1 s1 s2 p1
        go_wp2_with fail
        refine (CountSet_s k (by omega) w3).mono ?_
        rintro e w4 ⟨rfl, hb4⟩
        rw [← Hl.out]
        have HB4 : Hid (Below W.heap.size W w4) := HB3.out.trans (hb4.mono (by omega))
        clear hb4 HB3
        by_cases ht : max l 1 < q
        · have c1 : l < q := by omega
          have c2 : 1 < q := by omega
          have c3 : (l : Int) < (q : Int) := by omega
          have c4 : (1 : Int) < (q : Int) := by omega
          have hs : Hid (tw (m : Int) m x = some k) := hT.out.trans (twR_some hlt (HR.out.trans (decide_eq_true ht)) hall.out)
          clear ht
          go_wp2
          go_ret2
          exact ⟨by rw [(tw_some hs.out).1, (tw_some hs.out).2]; rfl, HB.out.trans (HB4.out.mono (by omega))⟩
        · have Ht : Hid (twB (rw_ x) m k = false) := HR.out.trans (decide_eq_false ht)
          have HR2 : Hid (∀ j, j < k + 1 → twB (rw_ x) m j = false) := by
            intro j hj
            by_cases hjk : j < k
            · exact hall.out j hjk
            · obtain rfl : j = k := by omega
              exact Ht.out
          by_cases c1 : l < q
          · have c2 : q ≤ 1 := by omega
            have c3 : (l : Int) < (q : Int) := by omega
            have c4 : (q : Int) ≤ 1 := by omega
            clear ht
            go_wp2
            first
              | exact ⟨⟨k + 1, by omega, by go_num, HR2, HB4⟩, by simp [intOf] <;> omega⟩
              | (go_roundw
                 case rel => exact ⟨k + 1, by omega, by go_num, HR2, HB4⟩
                 case measure => simp [intOf] <;> omega)
          · have c3 : (q : Int) ≤ (l : Int) := by omega
            clear ht
            go_wp2
            first
              | exact ⟨⟨k + 1, by omega, by go_num, HR2, HB4⟩, by simp [intOf] <;> omega⟩
              | (go_roundw
                 case rel => exact ⟨k + 1, by omega, by go_num, HR2, HB4⟩
                 case measure => simp [intOf] <;> omega)
      · have hn : Hid (tw (m : Int) m x = none) := hT.out.trans (twR_none fun j hj => hall.out j (by omega))
        have i1 : (2 : Int) ^ m ≤ (k : Int) := by rw [p2]; omega
        clear p2
        go_wp2
        go_ret2
        exact ⟨by rw [(tw_none hn.out).1, (tw_none hn.out).2]; rfl, HB.out.trans (HB2.out.mono (by omega))⟩
end Go.Proofs.Ytncjfgebolikoaa
