/-
  Contracts: the parts of a set of vertices, one by one (both sides).
-/
import Derived.Test.YtppkokgiojcgbaaDoorQzToughT
import Derived.Test.YtppkokgiojcgbaaDoorQzV
namespace Go.Proofs.YtppkokgiojcgbaaDoor
open Go.RowKit

/-- The parts, one by one. -/
def npL (r : Nat → Nat) (set : Nat) : List Nat :=
  if h : set = 0 ∨ 128 ≤ set then []
  else part r set (low set) :: npL r (set ^^^ part r set (low set))
termination_by set
decreasing_by
  have hs : set < 128 := by omega
  have h0 : set ≠ 0 := by omega
  have hps := part_sub (r := r) hs h0
  exact (xor_sub_lt hs hps.1 hps.2).1
theorem npL_zero (r : Nat → Nat) : npL r 0 = [] := by unfold npL; simp
theorem npL_succ {r : Nat → Nat} {set : Nat} (hs : set < 128) (h : set ≠ 0) : npL r set = part r set (low set) :: npL r (set ^^^ part r set (low set)) := by
  conv => lhs; unfold npL
  rw [dif_neg (by omega)]
theorem npL_lt {r : Nat → Nat} {b : Nat} : ∀ (n set : Nat), set < n → set < 2 ^ b → 2 ^ b ≤ 128 → ∀ p ∈ npL r set, p < 2 ^ b := by
  intro n
  induction n with
  | zero => intro set h; omega
  | succ n ih =>
    intro set h hs hb p hp
    by_cases h0 : set = 0
    · rw [h0, npL_zero] at hp; cases hp
    · rw [npL_succ (by omega) h0] at hp
      have hps := part_sub (r := r) (by omega : set < 128) h0
      have hx := xor_sub_lt (by omega : set < 128) hps.1 hps.2
      rcases List.mem_cons.1 hp with rfl | hp
      · exact sub_lt hps.1 hs
      · exact ih _ (by omega) (by omega) hb p hp
theorem npL_len {r : Nat → Nat} : ∀ (n set : Nat), set < n → (npL r set).length ≤ set := by
  intro n
  induction n with
  | zero => intro set h; omega
  | succ n ih =>
    intro set h
    by_cases h0 : set = 0 ∨ 128 ≤ set
    · unfold npL; rw [dif_pos h0]; exact Nat.zero_le _
    · rw [npL_succ (by omega) (by omega), List.length_cons]
      have hps := part_sub (r := r) (by omega : set < 128) (by omega)
      have hx := xor_sub_lt (by omega : set < 128) hps.1 hps.2
      have := ih _ (show set ^^^ part r set (low set) < n by omega)
      omega

set_option maxHeartbeats 1000000 in
theorem parts_l (m : Nat) (A : Option Addr) (c : Nat) (x : Nat → Int) (set : Nat) (w : World) (B : Nat) (h : Rd w B A m c x) (hB : B ≤ w.heap.size) (hok : okB m m x = true) (hset : set < 2 ^ m) :
    Calls Tryd.prog 25 #[.agg #[.int .i64 m, .slice A m c], .int .i64 set] w fun e w' => ∃ A' c', e = .returned (.slice A' (npL (rw_ x) set).length c') ∧ ON w.heap.size w' A' c' (npL (rw_ x) set) ∧ Below w.heap.size w w' := by
  obtain ⟨vg, hx⟩ := okB_vg hok
  have hn7 := vg.n7
  have h128 := two_pow_le hn7
  obtain ⟨W, hW⟩ : ∃ W : World, W = ((w.alloc (Obj.cells #[Value.int IntKind.i64 m, Value.slice A m c] 27)).alloc (Obj.cells #[] 3)) := ⟨_, rfl⟩
  have HB : Hid (Below w.heap.size w W) := by rw [hW]; exact ((Below.refl _ _).alloc (Nat.le_refl _) _).alloc (by simp) _
  have HZ : Hid (w.heap.size + 2 = W.heap.size) := by rw [hW]; simp [Hid]
  have a0 : w.heap.size < W.heap.size := by have := HZ.out; omega
  have e0 : W.cell? ⟨w.heap.size, 0, none⟩ = some (.int .i64 m) := by rw [hW]; simp [go_sem]
  have e1 : W.cell? ⟨w.heap.size, 1, none⟩ = some (.slice A m c) := by rw [hW]; simp [go_sem]
  have HO : Hid (Own W (w.heap.size + 1) W.heap.size 3 1 (some ⟨w.heap.size + 1, 0, none⟩) 0 0 (ni [])) := by
    refine .inr ⟨w.heap.size + 1, #[], rfl, Nat.le_refl _, by have := HZ.out; omega, ?_, Nat.le_refl _, by unfold maxLen; omega, rfl, fun j hj => absurd hj (by omega)⟩
    rw [hW]
    have := heap_alloc_new (w.alloc (Obj.cells #[Value.int IntKind.i64 m, Value.slice A m c] 27)) (Obj.cells #[] 3)
    simpa using this
  have HK := Lib.hid (h.keep (HB.out.mono hB) (Nat.le_refl _))
  have HW := Lib.hid hW
  have Hok := Lib.hid hok
  clear hW h hx vg hok
  go_enter Tryd.func25, Tryd.ntmps25
  go_wp2_with fail
  rw [← HW.out]
  clear HW
  go_loopw [1, 5] (fun st l wr => ∃ (left : Nat) (A' : Option Addr) (c' : Nat) (T : List Nat), st = .int .i64 left ∧ l = .slice A' T.length c' ∧ left < 2 ^ m ∧ T.length + left < 2 ^ m ∧ Hid (T ++ npL (rw_ x) left = npL (rw_ x) set) ∧ Hid (Own wr (w.heap.size + 1) wr.heap.size 3 1 A' T.length c' (ni T)) ∧ Hid (Below (w.heap.size + 1) W wr)) (fun st _ _ => (intOf st).toNat)
  case atStart => exact ⟨set, _, 0, [], rfl, rfl, hset, by simpa using hset, rfl, HO, Below.refl _ _⟩
  case round =>
    obtain ⟨left, A', c', T, rfl, rfl, hl, hT, HN, HY, hbr⟩ := hrel
    have zr := hbr.out.size
    have j0 := up hbr.out e0 (by omega)
    have j1 := up hbr.out e1 (by omega)
    by_cases hl0 : left = 0
    · have hn : Hid (T = npL (rw_ x) set) := by have := HN.out; rw [hl0, npL_zero, List.append_nil] at this; exact this
      have hown : Hid (ON w.heap.size wr A' c' (npL (rw_ x) set)) := by rw [← hn.out]; exact ⟨HY.out.mono (Nat.le_succ _) (Nat.le_refl _)⟩
      subst hl0
      go_wp2
      go_ret
      exact ⟨A', c', by (rw [← hn.out] <;> rfl), hown.out, HB.out.trans (hbr.out.mono (by omega))⟩
    · have hne : ((left : Int) != 0) = true := by simp; omega
      have hlow := low_sub (by omega : left < 128) hl0
      have hps := part_sub (r := rw_ x) (by omega : left < 128) hl0
      have hxl := xor_sub_lt (by omega : left < 128) hps.1 hps.2
      have hnp : Hid ((T ++ [part (rw_ x) left (low left)]) ++ npL (rw_ x) (left ^^^ part (rw_ x) left (low left)) = npL (rw_ x) set) := by
        show _ = _
        have := HN.out; rw [npL_succ (by omega) hl0] at this; rw [← this]; simp
      have E1 := low_bits left (by omega) hl0
      have HK2 : Hid (Rd wr B A m c x) := HK.out.keep (hbr.out.mono (by omega)) (Nat.le_refl _)
      have hBw : B ≤ wr.heap.size := by omega
      have hplt := sub_lt hps.1 hl
      have hand : left &&& part (rw_ x) left (low left) = part (rw_ x) left (low left) := by rw [Nat.and_comm]; exact hps.1.and
      obtain ⟨p, hp⟩ : ∃ p, p = part (rw_ x) left (low left) := ⟨_, rfl⟩
      obtain ⟨lb, hlb⟩ : ∃ lb, lb = low left := ⟨_, rfl⟩
      rw [← hp] at hxl hplt hand hnp
      have E2 := i64_andNot_nat left p (by omega) (by omega)
      rw [hand] at E2
      have Hlow := Lib.hid hlow
      rw [← hlb] at E1
      have Hp := Lib.hid hp
      have Hlb := Lib.hid hlb
      have hx1 := hxl.1
      clear hl0 hlow hps hp hlb hand hxl
      go_wp2_with fail
      refine (partOf_i m A c x left lb wr B HK2.out hBw Hok.out hl (by rw [Hlb.out]; exact Hlow.out.1) (by rw [Hlb.out]; exact Hlow.out.2)).mono ?_
      rintro e w3 ⟨rfl, hb3⟩
      rw [Hlb.out, ← Hp.out]
      have HY3 : Hid (Own w3 (w.heap.size + 1) w3.heap.size 3 1 A' T.length c' (ni T)) := (HY.out.keepB hb3 (Nat.le_refl _)).mono (Nat.le_refl _) hb3.size
      have z3 := hb3.size
      have HB3 : Hid (Below (w.heap.size + 1) W w3) := hbr.out.trans (hb3.mono (by omega))
      clear hb3 hbr HY HK2 E1 j0 j1
      go_wp2_with (first | (at_builtin; (refine wpList_pushN w3 rfl _ _ rfl (w.heap.size + 1) w3.heap.size A' c' T HY3.out (by omega) p rfl 1 w3.heap.size rfl rfl (by omega) ?_; intro g cap w4 hO4 hb4)))
      have H4 := Lib.hid hO4
      have H5 : Hid (Below (w.heap.size + 1) W w4) := HB3.out.trans hb4
      clear hO4 hb4
      go_roundw
      case rel => exact ⟨left ^^^ p, _, _, T ++ [p], rfl, by rw [List.length_append]; rfl, by omega, by rw [List.length_append]; simp; omega, hnp, by rw [List.length_append]; exact H4.out, H5⟩
      case measure => simp [intOf] <;> omega

set_option maxRecDepth 100000 in
set_option maxHeartbeats 1600000 in
theorem PartsOf_l (m : Nat) (A : Option Addr) (c : Nat) (x : Nat → Int) (set : Nat) (w : World) (B : Nat) (h : Rd w B A m c x) (hB : B ≤ w.heap.size) (hok : okB m m x = true) (hset : set < 2 ^ m) :
    Calls Tryd.prog 15 #[.agg #[.int .i64 m, .slice A m c], .int .i64 set] w fun e w' => ∃ A' c', e = .returned (.slice A' (npL (rw_ x) set).length c') ∧ ON w.heap.size w' A' c' (npL (rw_ x) set) ∧ Below w.heap.size w w' := by
  obtain ⟨vg, hx⟩ := okB_vg hok
  have hn7 := vg.n7
  have h128 := two_pow_le hn7
  obtain ⟨W, hW⟩ : ∃ W : World, W = ((w.alloc (Obj.cells #[Value.int IntKind.i64 m, Value.slice A m c] 27)).alloc (Obj.cells #[] 3)) := ⟨_, rfl⟩
  have HB : Hid (Below w.heap.size w W) := by rw [hW]; exact ((Below.refl _ _).alloc (Nat.le_refl _) _).alloc (by simp) _
  have HZ : Hid (w.heap.size + 2 = W.heap.size) := by rw [hW]; simp [Hid]
  have a0 : w.heap.size < W.heap.size := by have := HZ.out; omega
  have e0 : W.cell? ⟨w.heap.size, 0, none⟩ = some (.int .i64 m) := by rw [hW]; simp [go_sem]
  have e1 : W.cell? ⟨w.heap.size, 1, none⟩ = some (.slice A m c) := by rw [hW]; simp [go_sem]
  have HO : Hid (Own W (w.heap.size + 1) W.heap.size 3 1 (some ⟨w.heap.size + 1, 0, none⟩) 0 0 (ni [])) := by
    refine .inr ⟨w.heap.size + 1, #[], rfl, Nat.le_refl _, by have := HZ.out; omega, ?_, Nat.le_refl _, by unfold maxLen; omega, rfl, fun j hj => absurd hj (by omega)⟩
    rw [hW]
    have := heap_alloc_new (w.alloc (Obj.cells #[Value.int IntKind.i64 m, Value.slice A m c] 27)) (Obj.cells #[] 3)
    simpa using this
  have HK := Lib.hid (h.keep (HB.out.mono hB) (Nat.le_refl _))
  have HW := Lib.hid hW
  have Hok := Lib.hid hok
  have HV := Lib.hid vg
  clear hW h hx vg hok
  go_enter Tryd.func15, Tryd.ntmps15
  go_wp2_with fail
  rw [← HW.out]
  clear HW
  go_loopw [5, 6] (fun l st wr => ∃ (left : Nat) (A' : Option Addr) (c' : Nat) (T : List Nat), st = .int .i64 left ∧ l = .slice A' T.length c' ∧ left < 2 ^ m ∧ T.length + left < 2 ^ m ∧ Hid (T ++ npL (rw_ x) left = npL (rw_ x) set) ∧ Hid (Sub left set ∧ Sub (stp (rw_ x) set left) left) ∧ Hid (Own wr (w.heap.size + 1) wr.heap.size 3 1 A' T.length c' (ni T)) ∧ Hid (Below (w.heap.size + 1) W wr)) (fun _ st _ => (intOf st).toNat)
  case atStart => exact ⟨set, _, 0, [], rfl, rfl, hset, by simpa using hset, rfl, ⟨fun _ h => h, stp_sub _ _ _⟩, HO, Below.refl _ _⟩
  case round =>
    obtain ⟨left, A', c', T, rfl, rfl, hl, hT, HN, HS, HY, hbr⟩ := hrel
    have zr := hbr.out.size
    have j0 := up hbr.out e0 (by omega)
    have j1 := up hbr.out e1 (by omega)
    by_cases hl0 : left = 0
    · have hn : Hid (T = npL (rw_ x) set) := by have := HN.out; rw [hl0, npL_zero, List.append_nil] at this; exact this
      have hown : Hid (ON w.heap.size wr A' c' (npL (rw_ x) set)) := by rw [← hn.out]; exact ⟨HY.out.mono (Nat.le_succ _) (Nat.le_refl _)⟩
      have hle : (left : Int) ≤ 0 := by omega
      clear hl0
      go_wp2
      go_ret
      exact ⟨A', c', by (rw [← hn.out] <;> rfl), hown.out, HB.out.trans (hbr.out.mono (by omega))⟩
    · have hgt : (0 : Int) < (left : Int) := by omega
      have hgd : decide (0 < left) = true := by simp; omega
      have hlow := low_sub (by omega : left < 128) hl0
      have hps := part_sub (r := rw_ x) (by omega : left < 128) hl0
      have hxl := xor_sub_lt (by omega : left < 128) hps.1 hps.2
      have hnp : Hid ((T ++ [part (rw_ x) left (low left)]) ++ npL (rw_ x) (left ^^^ part (rw_ x) left (low left)) = npL (rw_ x) set) := by
        show _ = _
        have := HN.out; rw [npL_succ (by omega) hl0] at this; rw [← this]; simp
      have hcl : Hid (Sub (left ^^^ part (rw_ x) left (low left)) set ∧ Sub (stp (rw_ x) set (left ^^^ part (rw_ x) left (low left))) (left ^^^ part (rw_ x) left (low left))) := by
        refine ⟨fun u hu => HS.out.1 u ?_, closed_next HV.out hset HS.out.1 HS.out.2 hl0⟩
        rw [Nat.testBit_xor] at hu
        cases hh : left.testBit u
        · have := mt (hps.1 u) (by simp [hh])
          simp [hh, this] at hu
        · rfl
      obtain ⟨v, l, hlist, hv7, hvb⟩ := list_ne (by omega : left < 128) hl0
      have hlv := low_of hlist
      have hvm := bit_lt hl hvb
      have hpart : part (rw_ x) set (2 ^ v) = part (rw_ x) left (low left) := by
        rw [← hlv]
        show gro _ _ _ 7 = gro _ _ _ 7
        exact gro_left HS.out.2 HS.out.1 hlow.1 7
      have hsub : Sub (2 ^ v) set := by rw [← hlv]; exact hlow.1.trans HS.out.1
      have hplt := sub_lt hps.1 hl
      obtain ⟨p, hp⟩ : ∃ p, p = part (rw_ x) left (low left) := ⟨_, rfl⟩
      rw [← hp] at hxl hplt hnp hcl hpart
      have hple : p ≤ left := by rw [hp]; exact sub_num hps.1
      have hE2 : Hid ((left : Int) - p = ((left ^^^ p : Nat) : Int)) := by show _ = _; rw [hxl.2]; omega
      have hx1 := hxl.1
      have hpp : 0 < p := by have := hxl.2; omega
      have HL := Lib.hid hlist
      have Hsub := Lib.hid hsub
      have Hpart := Lib.hid hpart
      have HK2 : Hid (Rd wr B A m c x) := HK.out.keep (hbr.out.mono (by omega)) (Nat.le_refl _)
      have hBw : B ≤ wr.heap.size := by omega
      clear hl0 hlow hps hp hxl hlist hlv hsub hpart hvb
      go_wp2_with fail
      refine (IsSet_yes m A c x set wr B HK2.out hBw hn7 Hok.out hset).mono ?_
      rintro e w2 ⟨rfl, hb2⟩
      have z2 := hb2.size
      have i0 := up hb2 j0 (by omega)
      have i1 := up hb2 j1 (by omega)
      have HY2 : Hid (Own w2 (w.heap.size + 1) w2.heap.size 3 1 A' T.length c' (ni T)) := (HY.out.keepB hb2 (Nat.le_refl _)).mono (Nat.le_refl _) hb2.size
      have HB2 : Hid (Below (w.heap.size + 1) W w2) := hbr.out.trans (hb2.mono (by omega))
      clear hb2 hbr HY HK2 j0 j1
      go_wp2_with fail
      refine (ListOf_s left (by omega) w2).mono ?_
      rintro e w3 ⟨A3, c3, rfl, hO3, hb3⟩
      have z3 := hb3.size
      have k0 := up hb3 i0 (by omega)
      have k1 := up hb3 i1 (by omega)
      have HY3 : Hid (Own w3 (w.heap.size + 1) w3.heap.size 3 1 A' T.length c' (ni T)) := (HY2.out.keepB hb3 (Nat.le_refl _)).mono (Nat.le_refl _) hb3.size
      have HB3 : Hid (Below (w.heap.size + 1) W w3) := HB2.out.trans (hb3.mono (by omega))
      have hlen : (listN left).length = l.length + 1 := by rw [HL.out]; rfl
      obtain ⟨g3, rfl, _, hg3, _, hc3, _⟩ := hO3.at_ (by omega)
      have q0 : w3.cell? ⟨g3, 0, none⟩ = some (.int .i64 v) := (hc3 0 (by omega)).trans (by rw [HL.out]; rfl)
      rw [hlen]
      have p2 : (2 : Int) ^ v = ((2 ^ v : Nat) : Int) := by simp
      have p1 := pow_shl v (by omega)
      have Hp2 := Lib.hid p2
      have hv0 : (2 : Nat) ^ v ≠ 0 := by have := Nat.two_pow_pos v; omega
      have Hv0 := Lib.hid hv0
      have KG : Hid (∀ z : World, (z.cell? ⟨w.heap.size, 0, none⟩ = some (.int .i64 m) ∧ z.cell? ⟨w.heap.size, 1, none⟩ = some (.slice A m c) ∧ Below w3.heap.size w3 z) → Calls Tryd.prog 39 #[.agg #[.int .i64 m, .slice A m c], .int .i64 (2 ^ v), .int .i64 set] z fun e w' => e = .returned (.int .i64 (p : Int)) ∧ (w'.cell? ⟨w.heap.size, 0, none⟩ = some (.int .i64 m) ∧ w'.cell? ⟨w.heap.size, 1, none⟩ = some (.slice A m c) ∧ Below w3.heap.size w3 w')) := by
        rintro z ⟨s0, s1, s2⟩
        rw [Hp2.out]
        refine (l3Grow_s m A c x (2 ^ v) set z B (HK.out.keep ((HB3.out.mono (by omega)).trans (s2.mono (by omega))) (Nat.le_refl _)) (by have := s2.size; omega) Hok.out hset Hsub.out Hv0.out).mono ?_
        rintro e w' ⟨rfl, hb⟩
        exact ⟨by rw [Hpart.out], up hb s0 (World.block_lt_of_cell? _ _ s0), up hb s1 (World.block_lt_of_cell? _ _ s1), s2.trans (hb.mono s2.size)⟩
      have hd : Below w3.heap.size w3 w3.drew := (Below.refl _ _).drew
      have k0' : w3.drew.cell? ⟨w.heap.size, 0, none⟩ = some (.int .i64 m) := k0
      have k1' : w3.drew.cell? ⟨w.heap.size, 1, none⟩ = some (.slice A m c) := k1
      clear hb3 hO3 hc3 HY2 HB2 i0 i1 hlen hv0 p2
      go_wp2
      go_region_held3 (fun z => z.cell? ⟨w.heap.size, 0, none⟩ = some (.int .i64 m) ∧ z.cell? ⟨w.heap.size, 1, none⟩ = some (.slice A m c) ∧ Below w3.heap.size w3 z)
        (first | assumption | (refine ⟨?_, ?_, ?_⟩ <;> assumption) | fail)
        (first
          | (go_at_call 39; ((with_reducible refine (KG.out _ (by assumption)).mono ?_); rintro e w4 ⟨rfl, hS4⟩))
          | fail)
      have hb4 := hS4.2.2
      have z4 := hb4.size
      have HY4 : Hid (Own w4 (w.heap.size + 1) w4.heap.size 3 1 A' T.length c' (ni T)) := (HY3.out.keepB hb4 (Nat.le_refl _)).mono (Nat.le_refl _) z4
      have HB4 : Hid (Below (w.heap.size + 1) W w4) := HB3.out.trans (hb4.mono (by omega))
      clear hS4 hb4 KG hd k0' k1' k0 k1 HY3 HB3 q0 p1
      go_wp2_with (first | (at_builtin; (refine wpList_pushN w4 rfl _ _ rfl (w.heap.size + 1) w4.heap.size A' c' T HY4.out (by omega) p rfl 1 w4.heap.size rfl rfl (by omega) ?_; intro g cap w5 hO5 hb5)))
      have H4 := Lib.hid hO5
      have H5 : Hid (Below (w.heap.size + 1) W w5) := HB4.out.trans hb5
      clear hO5 hb5
      refine ⟨⟨left ^^^ p, _, _, T ++ [p], congrArg (Value.int .i64) hE2.out, by rw [List.length_append]; rfl, by omega, by rw [List.length_append]; simp; omega, hnp, hcl, by rw [List.length_append]; exact H4.out, H5⟩, by simp [intOf] <;> omega⟩

end Go.Proofs.YtppkokgiojcgbaaDoor
