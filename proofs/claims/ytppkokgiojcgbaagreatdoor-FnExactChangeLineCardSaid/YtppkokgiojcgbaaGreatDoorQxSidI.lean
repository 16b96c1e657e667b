/-
-/
import Derived.Test.YtppkokgiojcgbaaGreatDoorQxSidP
import Derived.Test.YtppkokgiojcgbaaGreatDoorQxLater
import Derived.Test.YtppkokgiojcgbaaGreatDoorQxGC
import Derived.Test.YtppkokgiojcgbaaGreatDoorQxLexI
import Derived.Test.YtppkokgiojcgbaaGreatDoorQxSimP
namespace Go.Proofs.YtppkokgiojcgbaaGreatDoor
open Go.RowKit
set_option maxHeartbeats 1000000 in
theorem parts_c (m : Nat) (A : Option Addr) (c : Nat) (x : Nat → Int) (w : World) (B : Nat) (h : Rd w B A m c x) (hB : B ≤ w.heap.size) (hok : okB m m x = true) :
 Calls Tryz.prog 234 #[.agg #[.int .i64 m, .slice A m c], .int .i64 ((2 ^ m - 1 : Nat) : Int)] w fun e w' => ∃ A' c' T, e = .returned (.slice A' T.length c') ∧ ON w.heap.size w' A' c' T ∧ PL (rw_ x) m 0 T ∧ T.length ≤ 128 ∧ Below w.heap.size w w' := by
 obtain ⟨vg, hx⟩ := okB_vg hok
 have hn7 := vg.n7
 have h128 := two_pow_le hn7
 obtain ⟨W, hW⟩ : ∃ W : World, W = ((w.alloc (Obj.cells #[Value.int IntKind.i64 m, Value.slice A m c] 29)).alloc (Obj.cells #[] 3)) := ⟨_, rfl⟩
 have HB : Hid (Below w.heap.size w W) := by rw [hW]; exact ((Below.refl _ _).alloc (Nat.le_refl _) _).alloc (by simp) _
 have HZ : Hid (w.heap.size + 2 = W.heap.size) := by rw [hW]; simp [Hid]
 have a0 : w.heap.size < W.heap.size := by have := HZ.out; omega
 have e0 : W.cell? ⟨w.heap.size, 0, none⟩ = some (.int .i64 m) := by rw [hW]; simp [go_sem]
 have e1 : W.cell? ⟨w.heap.size, 1, none⟩ = some (.slice A m c) := by rw [hW]; simp [go_sem]
 have HO : Hid (Own W (w.heap.size + 1) W.heap.size 3 1 (some ⟨w.heap.size + 1, 0, none⟩) 0 0 (ni [])) := by
  refine .inr ⟨w.heap.size + 1, #[], rfl, Nat.le_refl _, by have := HZ.out; omega, ?_, Nat.le_refl _, by unfold maxLen; omega, rfl, fun j hj => absurd hj (by omega)⟩
  rw [hW]
  have := heap_alloc_new (w.alloc (Obj.cells #[Value.int IntKind.i64 m, Value.slice A m c] 29)) (Obj.cells #[] 3)
  simpa using this
 have HK := Lib.hid (h.keep (HB.out.mono hB) (Nat.le_refl _))
 have HW := Lib.hid hW
 have Hok := Lib.hid hok
 have Hvg := Lib.hid vg
 have hpos := Nat.two_pow_pos m
 clear hW h hx vg hok
 go_enter Tryz.func234, Tryz.ntmps234
 go_wp2_with fail
 rw [← HW.out]
 clear HW
 go_loopw [1, 5] (fun st l wr => ∃ (left : Nat) (A' : Option Addr) (c' : Nat) (T : List Nat), st = .int .i64 left ∧ l = .slice A' T.length c' ∧ left < 2 ^ m ∧ T.length + left < 2 ^ m ∧ Hid (PL (rw_ x) m left T) ∧ Hid (Own wr (w.heap.size + 1) wr.heap.size 3 1 A' T.length c' (ni T)) ∧ Hid (Below (w.heap.size + 1) W wr)) (fun st _ _ => (intOf st).toNat)
 case atStart => exact ⟨2 ^ m - 1, _, 0, [], rfl, rfl, by omega, by simp; omega, PL.start _ _, HO, Below.refl _ _⟩
 case round =>
  obtain ⟨left, A', c', T, rfl, rfl, hl, hT, HN, HY, hbr⟩ := hrel
  have zr := hbr.out.size
  have j0 := up hbr.out e0 (by omega)
  have j1 := up hbr.out e1 (by omega)
  by_cases hl0 : left = 0
  ·have hT8 : T.length ≤ 128 := by omega
   subst hl0
   have HYw : Hid (ON w.heap.size wr A' c' T) := ⟨HY.out.mono (Nat.le_succ _) (Nat.le_refl _)⟩
   go_wp2
   go_ret
   exact ⟨A', c', T, rfl, HYw.out, HN.out, hT8, HB.out.trans (hbr.out.mono (by omega))⟩
  ·have hne : ((left : Int) != 0) = true := by simp; omega
   have hlow := low_sub (by omega : left < 128) hl0
   have hps := part_sub (r := rw_ x) (by omega : left < 128) hl0
   have hxl := xor_sub_lt (by omega : left < 128) hps.1 hps.2
   have hnp : Hid (PL (rw_ x) m (left ^^^ part (rw_ x) left (low left)) (T ++ [part (rw_ x) left (low left)])) := HN.out.step Hvg.out hl hl0
   have E1 := low_bits left (by omega) hl0
   have HK2 : Hid (Rd wr B A m c x) := HK.out.keep (hbr.out.mono (by omega)) (Nat.le_refl _)
   have hBw : B ≤ wr.heap.size := by omega
   have hplt := sub_lt hps.1 hl
   have hand : left &&& part (rw_ x) left (low left) = part (rw_ x) left (low left) := by rw [Nat.and_comm]; exact hps.1.and
   obtain ⟨p, hp⟩ : ∃ p, p = part (rw_ x) left (low left) := ⟨_, rfl⟩
   obtain ⟨lb, hlb⟩ : ∃ lb, lb = low left := ⟨_, rfl⟩
   rw [← hp] at hxl hplt hand hnp
   have E2 := i64_andNot_nat left p (by omega) (by omega)
   rw [hand] at E2
   have Hlow := Lib.hid hlow
   rw [← hlb] at E1
   have Hp := Lib.hid hp
   have Hlb := Lib.hid hlb
   have hx1 := hxl.1
   clear hl0 hlow hps hp hlb hand hxl
   go_wp2_with fail
   refine (partOf_i m A c x left lb wr B HK2.out hBw Hok.out hl (by rw [Hlb.out]; exact Hlow.out.1) (by rw [Hlb.out]; exact Hlow.out.2)).mono ?_
   rintro e w3 ⟨rfl, hb3⟩
   rw [Hlb.out, ← Hp.out]
   have HY3 : Hid (Own w3 (w.heap.size + 1) w3.heap.size 3 1 A' T.length c' (ni T)) := (HY.out.keepB hb3 (Nat.le_refl _)).mono (Nat.le_refl _) hb3.size
   have z3 := hb3.size
   have HB3 : Hid (Below (w.heap.size + 1) W w3) := hbr.out.trans (hb3.mono (by omega))
   clear hb3 hbr HY HK2 E1 j0 j1
   go_wp2_with (first | (at_builtin; (refine wpList_pushN w3 rfl _ _ rfl (w.heap.size + 1) w3.heap.size A' c' T HY3.out (by omega) p rfl 1 w3.heap.size rfl rfl (by omega) ?_; intro g cap w4 hO4 hb4)))
   have H4 := Lib.hid hO4
   have H5 : Hid (Below (w.heap.size + 1) W w4) := HB3.out.trans hb4
   clear hO4 hb4
   go_roundw
   case rel => exact ⟨left ^^^ p, _, _, T ++ [p], rfl, by rw [List.length_append]; rfl, by omega, by rw [List.length_append]; simp; omega, hnp, by rw [List.length_append]; exact H4.out, H5⟩
   case measure => simp [intOf] <;> omega
theorem two_li (w : World) (a b : Int) : LI (w.alloc (Obj.cells #[Value.int .i64 a, Value.int .i64 b] 3)) (some ⟨w.heap.size, 0, none⟩) 2 2 [a, b] := by
 refine ⟨rfl, Nat.le_refl _, fun _ => ⟨w.heap.size, 0, rfl, by simp, fun j hj => ?_⟩⟩
 have : j = 0 ∨ j = 1 := by omega
 rcases this with rfl | rfl <;> simp [go_sem]
set_option maxRecDepth 100000 in
set_option maxHeartbeats 1600000 in
theorem DistanceOf_v {A : Option Addr} {m c : Nat} {r : Nat → Nat} {w : World} (h : GV w A m c r) {u v : Nat} (hu : u < m) (hv : v < m) :
 Calls Tryz.prog 235 #[.agg #[.int .i64 m, .slice A m c], .int .i64 u, .int .i64 v] w fun e w' => e = .returned (.int .i64 (dsI r m u v)) ∧ Below w.heap.size w w' := by
 have hn7 := h.vg.n7
 have h128 := two_pow_le hn7
 have HV := Lib.hid h.vg
 have hok := h.ok
 have hiv : ivB (m : Int) [(u : Int), (v : Int)] = true := by
  unfold ivB
  rw [List.all_eq_true]
  intro x hx
  rw [List.mem_cons, List.mem_singleton] at hx
  rcases hx with rfl | rfl <;> exact decide_eq_true ⟨by omega, by omega⟩
 obtain ⟨W, hW⟩ : ∃ W : World, W = ((w.alloc (Obj.cells #[Value.int IntKind.i64 m, Value.slice A m c] 29)).alloc (Obj.cells #[Value.int .i64 u, Value.int .i64 v] 3)) := ⟨_, rfl⟩
 have HB : Hid (From w W) := by rw [hW]; exact (From.alloc _ _).alloc_ _
 have HG : Hid (GBox W w.heap.size A m c r) := by rw [hW]; exact h.box.keep ((Below.refl _ _).alloc (Nat.le_refl _) _)
 have HL : Hid (LI W (some ⟨w.heap.size + 1, 0, none⟩) 2 2 [(u : Int), (v : Int)]) := by
  rw [hW]
  have := two_li (w.alloc (Obj.cells #[Value.int IntKind.i64 m, Value.slice A m c] 29)) u v
  have e : (w.alloc (Obj.cells #[Value.int IntKind.i64 m, Value.slice A m c] 29)).heap.size = w.heap.size + 1 := by simp
  rw [e] at this
  exact this
 have KV : Hid (Calls Tryz.prog 171 #[.agg #[.int .i64 m, .slice A m c], .slice (some ⟨w.heap.size + 1, 0, none⟩) 2 2] W fun e w' => e = .returned (.bool true) ∧ Below W.heap.size W w') := by
  have := isVertex_z m A m c _ (some ⟨w.heap.size + 1, 0, none⟩) 2 2 [(u : Int), (v : Int)] W HG.out.gv.ga HL.out (by omega) (by omega)
  rw [hiv, hok] at this
  exact this
 have HW := Lib.hid hW
 have hum := Nat.pow_lt_pow_right (a := 2) (by omega) hu
 have hpos := Nat.two_pow_pos m
 have Hsub : Hid (∀ k, Sub (gro r (2 ^ m - 1) (2 ^ u) k) (2 ^ m - 1)) := fun k => gro_sub (full_sub_of hu) k
 have Hglt : Hid (∀ k, gro r (2 ^ m - 1) (2 ^ u) k < 2 ^ m) := fun k => sub_lt (gro_sub (full_sub_of hu) k) (by omega)
 have Hgle : Hid (∀ k, (∀ j, j < k → gro r (2 ^ m - 1) (2 ^ u) (j + 1) ≠ gro r (2 ^ m - 1) (2 ^ u) j) → k + 1 ≤ m) := fun k hk => gro_le hn7 (by omega) (full_sub_of hu) (pow_ne u) hk
 have Hfix : Hid (∀ k, gro r (2 ^ m - 1) (2 ^ u) (k + 1) = gro r (2 ^ m - 1) (2 ^ u) k → ∀ j, k ≤ j → gro r (2 ^ m - 1) (2 ^ u) j = gro r (2 ^ m - 1) (2 ^ u) k) := fun k hk => gro_fix hk
 have Hst : Hid (∀ k, gro r (2 ^ m - 1) (2 ^ u) (k + 1) = gro r (2 ^ m - 1) (2 ^ u) k ||| nb r (gro r (2 ^ m - 1) (2 ^ u) k)) := fun k => by
  show ((gro r (2 ^ m - 1) (2 ^ u) k ||| nb r (gro r (2 ^ m - 1) (2 ^ u) k)) &&& (2 ^ m - 1)) = _
  rw [Nat.and_two_pow_sub_one_eq_mod]
  exact Nat.mod_eq_of_lt (Nat.or_lt_two_pow (Hglt.out k) (nb_lt (fun v hv => HV.out.lt v hv) (Hglt.out k) 7))
 have Hyes : Hid (∀ n, n < m → (gro r (2 ^ m - 1) (2 ^ u) n).testBit v = true → (∀ j, j < n → (gro r (2 ^ m - 1) (2 ^ u) j).testBit v = false) → dsI r m u v = n) := fun n hn h1 h2 => dsI_yes hn h1 h2
 have Hno : Hid ((∀ j, j < m → (gro r (2 ^ m - 1) (2 ^ u) j).testBit v = false) → dsI r m u v = -1) := fun h => dsI_no h
 have Hg0 : Hid (gro r (2 ^ m - 1) (2 ^ u) 0 = 2 ^ u) := rfl
 obtain ⟨G, hG⟩ : ∃ G, G = gro r (2 ^ m - 1) (2 ^ u) := ⟨_, rfl⟩
 obtain ⟨D, hD⟩ : ∃ D, D = dsI r m u v := ⟨_, rfl⟩
 rw [← hG] at Hsub Hglt Hgle Hfix Hst Hyes Hno Hg0
 rw [← hD] at Hyes Hno ⊢
 have p1 := pow_shl u (by omega)
 have h2 : ((2 ^ u : Nat) : Int) = 2 ^ u := by simp
 have Hgc : Hid (((G 0 : Nat) : Int) = 2 ^ u) := by show _ = _; rw [Hg0.out, h2]
 clear hW h hok hiv hG hD h2
 go_enter Tryz.func235, Tryz.ntmps235
 have e0 := HG.out.c0
 have e1 := HG.out.c1
 go_wp2_with fail
 rw [← HW.out]
 clear HW
 refine KV.out.mono ?_
 rintro e w1 ⟨rfl, hb1⟩
 clear e0 e1
 replace HB := Lib.hid (HB.out.keep hb1)
 replace HG := Lib.hid (HG.out.keep hb1)
 clear hb1 KV HL
 have e0 := HG.out.c0
 have e1 := HG.out.c1
 go_wp2
 go_loopw [7, 8] (fun a b wr => ∃ k : Nat, k < m ∧ a = .int .i64 (G k : Nat) ∧ b = .int .i64 k ∧ Hid (∀ j, j < k → G (j + 1) ≠ G j) ∧ Hid (∀ j, j < k → (G j).testBit v = false) ∧ Hid (From w1 wr)) (fun _ b _ => m - (intOf b).toNat)
 case atStart => exact ⟨0, by omega, by rw [Hgc.out], rfl, (fun j hj => absurd hj (by omega)), (fun j hj => absurd hj (by omega)), From.refl _⟩
 case round =>
  obtain ⟨k, hk, rfl, rfl, hgr, hall, HR⟩ := hrel
  clear e0 e1
  replace HB := Lib.hid (HB.out.keep HR.out.below)
  replace HG := Lib.hid (HG.out.keep HR.out.below)
  have e0 := HG.out.c0
  have e1 := HG.out.c1
  have hlt := Hglt.out k
  have hst := Hst.out k
  obtain ⟨s, hs⟩ : ∃ s, s = G k := ⟨_, rfl⟩
  obtain ⟨t, ht⟩ : ∃ t, t = G (k + 1) := ⟨_, rfl⟩
  have htl := Hglt.out (k + 1)
  rw [← ht] at hst htl
  rw [← hs] at hst hlt ⊢
  have Hs := Lib.hid hs
  have Ht := Lib.hid ht
  clear hs ht
  cases hb : s.testBit v
  ·have KH := Lib.hid (has_q (s := s) (v := v) (by omega) (by omega) hb wr)
   have Hall : Hid (∀ j, j < k + 1 → (G j).testBit v = false) := fun j hj => by
    by_cases hjk : j < k
    ·exact hall.out j hjk
    ·obtain rfl : j = k := by omega
     rw [← Hs.out]; exact hb
   clear hb
   go_wp2_with fail
   refine KH.out.mono ?_
   rintro e w' ⟨rfl, rfl⟩
   have KN := Lib.hid (neighbors_v HG.out.gv hlt)
   obtain ⟨q, hq⟩ : ∃ q, q = nb r s := ⟨_, rfl⟩
   have hql : q < 128 := by rw [hq]; exact Nat.lt_of_lt_of_le (nb_lt (fun v hv => HV.out.lt v hv) hlt 7) h128
   rw [← hq] at KN hst
   have E1 := i64_or_nat s q (by omega) (by omega)
   rw [← hst] at E1
   clear hq hst KH
   go_wp2_with fail
   refine (KN.out).mono ?_
   rintro e w1 ⟨rfl, hb1⟩
   clear e0 e1
   replace HB := Lib.hid (HB.out.keep hb1)
   replace HG := Lib.hid (HG.out.keep hb1)
   replace HR := Lib.hid (HR.out.keep hb1)
   clear hb1
   have e0 := HG.out.c0
   have e1 := HG.out.c1
   by_cases hts : t = s
   ·have d1 : ((t : Int) == (s : Int)) = true := by simp; omega
    have Hn : Hid (D = -1) := Hno.out fun j hj => by
     by_cases hjk : j < k + 1
     ·exact Hall.out j hjk
     ·rw [Hfix.out k (by rw [← Hs.out, ← Ht.out, hts]) j (by omega)]
      exact Hall.out k (by omega)
    clear hts
    go_wp2
    go_ret
    exact ⟨ret_int Hn.out.symm, HB.out.below⟩
   ·have d1 : ((t : Int) == (s : Int)) = false := by simp; omega
    have Hgr : Hid (∀ j, j < k + 1 → G (j + 1) ≠ G j) := fun j hj => by
     by_cases hjk : j < k
     ·exact hgr.out j hjk
     ·obtain rfl : j = k := by omega
      rw [← Hs.out, ← Ht.out]; exact hts
    have hk1 : k + 1 < m := by have := Hgle.out (k + 1) Hgr.out; omega
    clear hts
    go_wp2
    go_roundw
    case rel => exact ⟨k + 1, hk1, by rw [← Ht.out], by go_num, Hgr, Hall, HR⟩
    case measure => (simp [intOf] <;> omega)
  ·have KH := Lib.hid (has_q (s := s) (v := v) (by omega) (by omega) hb wr)
   have Hn : Hid (D = k) := Hyes.out k hk (by rw [← Hs.out]; exact hb) hall.out
   clear hb hst
   go_wp2_with fail
   refine KH.out.mono ?_
   rintro e w' ⟨rfl, rfl⟩
   go_wp2
   go_ret
   exact ⟨ret_int Hn.out.symm, HB.out.below⟩
theorem parts_v {A : Option Addr} {m c : Nat} {r : Nat → Nat} {w : World} (h : GV w A m c r) :
 Calls Tryz.prog 234 #[.agg #[.int .i64 m, .slice A m c], .int .i64 ((2 ^ m - 1 : Nat) : Int)] w fun e w' => ∃ A' c' T, e = .returned (.slice A' T.length c') ∧ ON w.heap.size w' A' c' T ∧ PL r m 0 T ∧ T.length ≤ 128 ∧ Below w.heap.size w w' := by
 have := parts_c m A c (fun v => (r v : Int)) w w.heap.size h.rd (Nat.le_refl _) h.ok
 rwa [rw_cast] at this
noncomputable def biB (sz : Int) (m : Nat) (x : Nat → Int) : Bool := okB sz m x && (sdO (rw_ x) m).isSome
theorem biB_no {sz : Int} {m : Nat} {x : Nat → Int} (h : okB sz m x = false) : biB sz m x = false := by unfold biB; rw [h]; rfl
theorem biB_yes {sz : Int} {m : Nat} {x : Nat → Int} (h : okB sz m x = true) : biB sz m x = (sdO (rw_ x) m).isSome := by unfold biB; rw [h]; rfl
theorem evB_is {r : Nat → Nat} {m p v : Nat} (h : p = cmp r m v) : evB r m v = decide ((dsI r m (fstN p) v).tmod 2 = 0) := by unfold evB; rw [← h]
theorem take_get {T : List Nat} {i : Nat} (h : i < T.length) : T.take (i + 1) = T.take i ++ [T.getD i 0] := by
 rw [List.take_succ_eq_append_getElem h]
 simp [List.getD, h]
set_option maxRecDepth 100000 in
set_option maxHeartbeats 6400000 in
theorem SidesOf_v {A : Option Addr} {m c : Nat} {r : Nat → Nat} {w : World} (h : GV w A m c r) :
 Calls Tryz.prog 188 #[.agg #[.int .i64 m, .slice A m c]] w fun e w' => e = .returned (lsV (sdO r m)) ∧ Below w.heap.size w w' := by
 have hn7 := h.vg.n7
 have h128 := two_pow_le hn7
 have HV := Lib.hid h.vg
 obtain ⟨W, hW⟩ : ∃ W : World, W = (w.alloc (Obj.cells #[Value.int IntKind.i64 m, Value.slice A m c] 29)) := ⟨_, rfl⟩
 have HB : Hid (From w W) := by rw [hW]; exact From.alloc _ _
 have HG : Hid (GBox W w.heap.size A m c r) := by rw [hW]; exact h.box
 have HW := Lib.hid hW
 clear hW h
 have e0 := HG.out.c0
 have e1 := HG.out.c1
 go_enter Tryz.func188, Tryz.ntmps188
 go_wp2_with fail
 rw [← HW.out]
 refine (IsGraph_v HG.out.gv).mono ?_
 rintro e w1 ⟨rfl, hb1⟩
 clear HW
 clear e0 e1
 replace HB := Lib.hid (HB.out.keep hb1)
 replace HG := Lib.hid (HG.out.keep hb1)
 clear hb1
 have e0 := HG.out.c0
 have e1 := HG.out.c1
 have HG1 := HG
 have HSC : Hid (∀ z : World, Below w1.heap.size w1 z → (Below w1.heap.size w1 z ∧ z.cell? ⟨w.heap.size, 0, none⟩ = some (.int .i64 m) ∧ z.cell? ⟨w.heap.size, 1, none⟩ = some (.slice A m c))) := fun z hz => ⟨hz, up_ hz e0, up_ hz e1⟩
 have HZ0 : Hid (Below w1.heap.size w1 w1.drew) := (Below.refl _ _).drew
 have HS1 := Lib.hid (HSC.out _ HZ0.out)
 have KR1 : Hid (∀ z : World, Below w1.heap.size w1 z → _) := fun z hz => all_v (HG1.out.gv.keep hz)
 have KR2 : Hid (∀ z : World, Below w1.heap.size w1 z → _) := fun z hz => parts_v (HG1.out.gv.keep hz)
 go_wp2
 go_region_held3 (fun z => Below w1.heap.size w1 z ∧ z.cell? ⟨w.heap.size, 0, none⟩ = some (.int .i64 m) ∧ z.cell? ⟨w.heap.size, 1, none⟩ = some (.slice A m c))
  (first | exact HS1.out | assumption | exact HSC.out _ hz3 | exact HSC.out _ hz2 | fail)
  (first | (go_at_call 106; ((with_reducible refine (KR1.out _ HZ0.out).mono ?_); rintro e w2 ⟨rfl, hb2⟩; have hz2 := bl_trans HZ0.out hb2)) | (go_at_call 234; ((with_reducible refine (KR2.out _ hz2).mono ?_); rintro e w3 ⟨A3, c3, T, rfl, ho3, hpl, hT8, hb3⟩; have hz3 := bl_trans hz2 hb3)))
 clear e0 e1
 replace HB := Lib.hid (HB.out.keep hz3)
 replace HG := Lib.hid (HG.out.keep hz3)
 clear hb2 hz2 hb3 hz3 HSC HZ0 HS1 KR1 KR2
 have e0 := HG.out.c0
 have e1 := HG.out.c1
 have HL : Hid (LN w3 A3 c3 T) := ho3.ln
 have HP := Lib.hid hpl
 have Hfin : Hid (evT (evB r m) T = sdS r m) := hpl.fin HV.out
 have Hzero : Hid (evT (evB r m) (T.take 0) = 0) := rfl
 have HGp := HG
 have HBp := HB
 clear ho3 hpl HG1
 go_wp2
 go_loopw [4, 17] (fun a b wr => ∃ i : Nat, i ≤ T.length ∧ b = .int .i64 i ∧ a = .int .i64 (evT (evB r m) (T.take i) : Nat) ∧ Hid (From w3 wr)) (fun _ b _ => T.length - (intOf b).toNat)
 case atStart => exact ⟨0, Nat.zero_le _, rfl, by rw [Hzero.out]; rfl, From.refl _⟩
 case round =>
  clear e0 e1
  obtain ⟨i, hi, rfl, rfl, HR⟩ := hrel
  have hSlt : evT (evB r m) (T.take i) < 2 ^ m := evT_lt fun p hp => HP.out.pt.lt p (List.mem_of_mem_take hp)
  obtain ⟨S, hS⟩ : ∃ S, S = evT (evB r m) (T.take i) := ⟨_, rfl⟩
  rw [← hS] at hSlt ⊢
  have HS := Lib.hid hS
  clear hS
  by_cases hil : i < T.length
  ·have i1 : (i : Int) < (T.length : Int) := by omega
   have HLr := Lib.hid (HL.out.keep HR.out.below)
   obtain ⟨b3, o3, rfl⟩ := HL.out.addr (by omega)
   have p0 := HLr.out.cell hil
   have hpm : T.getD i 0 ∈ T := by
    have : T.getD i 0 = T[i] := by simp [List.getD, hil]
    rw [this]; exact List.getElem_mem hil
   obtain ⟨p, hp⟩ : ∃ p, p = T.getD i 0 := ⟨_, rfl⟩
   rw [← hp] at p0 hpm
   have hplt := HP.out.pt.lt p hpm
   have hpne := HP.out.pt.ne p hpm
   have Hpis : Hid (∀ v, p.testBit v = true → p = cmp r m v) := HP.out.pt.is p hpm
   have Hnx : Hid (evT (evB r m) (T.take (i + 1)) = evL (evB r m) S (listN p)) := by show _ = _; rw [take_get hil, ← hp, evT_snoc, HS.out]
   obtain ⟨hfb, hfl⟩ := fst_in (by omega : p < 128) hpne
   have hfm := bit_lt hplt hfb
   have hl7 := listN_len p
   have Hf0 : Hid (∀ (hj : 0 < (listN p).length), (listN p)[0] = fstN p) := fun hj => by unfold fstN; simp [List.getD, hj]
   have HGr := Lib.hid (HGp.out.keep HR.out.below)
   have HBr := Lib.hid (HBp.out.up HR.out)
   clear hp hpm HLr
   have e0 := HGr.out.c0
   have e1 := HGr.out.c1
   go_wp2_with fail
   refine (ListOf_v p (by omega) wr).mono ?_
   rintro e w4 ⟨A5, c5, rfl, ho5, hb4⟩
   have HL5 : Hid (LN w4 A5 c5 (listN p)) := ho5.ln
   clear e0 e1
   replace HR := Lib.hid (HR.out.keep hb4)
   replace HBr := Lib.hid (HBr.out.keep hb4)
   replace HGr := Lib.hid (HGr.out.keep hb4)
   clear hb4 ho5
   have e0 := HGr.out.c0
   have e1 := HGr.out.c1
   have HR4 := HR
   have HG4 := HGr
   have HB4 := HBr
   go_wp2
   go_loopw [4, 24] (fun a b wr => ∃ j : Nat, j ≤ (listN p).length ∧ b = .int .i64 j ∧ a = .int .i64 (evL (evB r m) S ((listN p).take j) : Nat) ∧ Hid (From w4 wr)) (fun _ b _ => (listN p).length - (intOf b).toNat)
   case atStart => exact ⟨0, Nat.zero_le _, rfl, rfl, From.refl _⟩
   case round =>
    clear e0 e1 HR HGr HBr p0
    obtain ⟨j, hj, rfl, rfl, HRq⟩ := hrel
    have hElt : evL (evB r m) S ((listN p).take j) < 2 ^ m := evL_lt hSlt fun v hv => bit_lt hplt (mem_listN.1 (List.mem_of_mem_take hv)).2
    have HRx : Hid (From w3 wr) := HR4.out.up HRq.out
    by_cases hjl : j < (listN p).length
    ·have i2 : (j : Int) < ((listN p).length : Int) := by omega
     have HLr := Lib.hid (HL5.out.keep HRq.out.below)
     obtain ⟨b5, o5, rfl⟩ := HL5.out.addr (by omega)
     have p0 := HLr.out.at hjl
     have hvb := (listN_at hjl).2
     have hvm := bit_lt hplt hvb
     have Hst : Hid (evL (evB r m) S ((listN p).take (j + 1)) = if evB r m (listN p)[j] = true then evL (evB r m) S ((listN p).take j) ||| 2 ^ (listN p)[j] else evL (evB r m) S ((listN p).take j)) := by show _ = _; rw [List.take_succ_eq_append_getElem hjl, evL_snoc]
     have hpv := Hpis.out _ hvb
     obtain ⟨v, hv⟩ : ∃ v, v = (listN p)[j] := ⟨_, rfl⟩
     rw [← hv] at p0 hvm Hst hpv
     have hev := evB_is hpv
     obtain ⟨E, hE⟩ : ∃ E, E = evL (evB r m) S ((listN p).take j) := ⟨_, rfl⟩
     rw [← hE] at hElt Hst ⊢
     have HGr := Lib.hid (HG4.out.keep HRq.out.below)
     have HBr := Lib.hid (HB4.out.up HRq.out)
     obtain ⟨f, hf⟩ : ∃ f, f = fstN p := ⟨_, rfl⟩
     rw [← hf] at hfm Hf0 hev
     have KD : Hid (∀ z : World, Below wr.heap.size wr z → Calls Tryz.prog 235 #[.agg #[.int .i64 m, .slice A m c], .int .i64 f, .int .i64 v] z fun e w' => e = .returned (.int .i64 (dsI r m f v)) ∧ Below z.heap.size z w') := fun z hz => DistanceOf_v (HGr.out.gv.keep hz) hfm hvm
     have KL : Hid (∀ z : World, Calls Tryz.prog 113 #[.int .i64 (p : Int)] z fun e w' => ∃ g c, e = .returned (.slice (some ⟨g, 0, none⟩) (listN p).length c) ∧ w'.cell? ⟨g, 0, none⟩ = some (.int .i64 (f : Nat)) ∧ Below z.heap.size z w') := fun z => (ListOf_v p (by omega) z).mono fun e w' ⟨A, c, h1, h2, h3⟩ => by
      obtain ⟨g, rfl, _⟩ := h2.own.at_ (by omega)
      refine ⟨g, c, h1, ?_, h3⟩
      have := h2.ln.at hfl
      rwa [Hf0.out hfl, Nat.zero_add] at this
     have hrg := dsI_range (r := r) (m := m) f v
     obtain ⟨D, hD⟩ : ∃ D, D = dsI r m f v := ⟨_, rfl⟩
     rw [← hD] at KD hrg hev
     have i3 : (0 : Int) < ((listN p).length : Int) := by omega
     have s1 : IntKind.i64.wrap (D.tmod 2) = D.tmod 2 := by
      rcases (by omega : D = -1 ∨ D = 0 ∨ D = 1 ∨ D = 2 ∨ D = 3 ∨ D = 4 ∨ D = 5 ∨ D = 6) with rfl | rfl | rfl | rfl | rfl | rfl | rfl | rfl <;> decide
     clear hv hE hf hD HLr hpv hvb hrg
     have e0 := HGr.out.c0
     have e1 := HGr.out.c1
     go_wp2
     have HSC : Hid (∀ z : World, Below wr.heap.size wr z → (Below wr.heap.size wr z ∧ z.cell? ⟨w.heap.size, 0, none⟩ = some (.int .i64 m) ∧ z.cell? ⟨w.heap.size, 1, none⟩ = some (.slice A m c))) := fun z hz => ⟨hz, up_ hz e0, up_ hz e1⟩
     have HZ0 : Hid (Below wr.heap.size wr wr.drew) := (Below.refl _ _).drew
     have HS1 := Lib.hid (HSC.out _ HZ0.out)
     have KR1 : Hid (∀ z : World, Below wr.heap.size wr z → _) := fun z hz => KL.out z
     have KR2 : Hid (∀ z : World, Below wr.heap.size wr z → _) := fun z hz => KD.out _ hz
     refine wp_region_held_drew (S := fun z => Below wr.heap.size wr z ∧ z.cell? ⟨w.heap.size, 0, none⟩ = some (.int .i64 m) ∧ z.cell? ⟨w.heap.size, 1, none⟩ = some (.slice A m c)) (by kernel_rfl) HS1.out (fun hHeld => ?_)
     refine pcY 0 rfl rfl (by kernel_rfl) (by rfl) (by intro w u; (try dsimp only at u); go_simp <;> with_reducible rfl) ‹_› (fun _ _ _ h => h) ?_; simp only [Act.put, sl0, sl1, sl2]
     refine ptY rfl rfl (by kernel_rfl) (by rfl) (by intro w u; (try dsimp only at u); go_simp <;> with_reducible rfl) ‹_› (fun _ _ _ h => h) ?_; simp only [Act.put, sl0, sl1, sl2]
     refine pcY 5 rfl rfl (by kernel_rfl) (by rfl) (by intro w u; (try dsimp only at u); go_simp <;> with_reducible rfl) ‹_› (fun _ _ _ h => h) ?_; simp only [Act.put, sl0, sl1, sl2]
     refine wpAnyH_ready (rs := [2]) (by kernel_rfl) (by simp) ?_
     refine AllReadyH.cons rfl (fun K hK => ?_) AllReadyH.nil
     go_simp
     go_at_call 113; refine (KR1.out _ HZ0.out).mono ?_
     rintro e w4 ⟨g7, c7, rfl, h7c, hb4⟩
     have hz4 := bl_trans HZ0.out hb4
     refine hK.out _ _ (HSC.out _ hz4) (fun hHeld => ?_)
     clear hK K
     try simp only [Act.put, sl0, sl1, sl2]
     refine ptY rfl rfl (by kernel_rfl) (by rfl) (by intro w u; (try dsimp only at u); go_simp <;> with_reducible rfl) ‹_› (fun _ _ _ h => h) ?_; simp only [Act.put, sl0, sl1, sl2]
     refine wpAnyH_ready (rs := [4]) (by kernel_rfl) (by simp) ?_
     refine AllReadyH.cons rfl (fun K hK => ?_) AllReadyH.nil
     go_simp
     refine hK.out _ _ (HSC.out _ hz4) (fun hHeld => ?_)
     clear hK K
     try simp only [Act.put, sl0, sl1, sl2]
     refine wpAnyH_ready (rs := [6]) (by kernel_rfl) (by simp) ?_
     refine AllReadyH.cons rfl (fun K hK => ?_) AllReadyH.nil
     go_simp
     go_at_call 235; refine (KR2.out _ hz4).mono ?_
     rintro e w5 ⟨rfl, hb5⟩
     have hz5 := bl_trans hz4 hb5
     refine hK.out _ _ (HSC.out _ hz5) (fun hHeld => ?_)
     clear hK K
     try simp only [Act.put, sl0, sl1, sl2]
     iterate 2 (refine ptY rfl rfl (by kernel_rfl) (by rfl) (by intro w u; (try dsimp only at u); go_simp <;> with_reducible rfl) ‹_› (fun _ _ _ h => h) ?_; simp only [Act.put, sl0, sl1, sl2])
     refine wpAnyH_done (by kernel_rfl) ?_ _
     clear e0 e1
     replace HRq := Lib.hid (HRq.out.keep hz5)
     replace HRx := Lib.hid (HRx.out.keep hz5)
     replace HBr := Lib.hid (HBr.out.keep hz5)
     replace HGr := Lib.hid (HGr.out.keep hz5)
     clear hb4 hz4 hb5 hz5 HSC HZ0 HS1 KR1 KR2
     have e0 := HGr.out.c0
     have e1 := HGr.out.c1
     cases hb : evB r m v
     ·have Hs1 : Hid (evL (evB r m) S ((listN p).take (j + 1)) = E) := by show _ = _; rw [Hst.out, hb]; rfl
      have d1 : (D.tmod 2 == 0) = false := by rw [hev] at hb; simpa using hb
      clear hb hev
      go_wp2
      go_roundw
      case rel => exact ⟨j + 1, by omega, by go_num, by rw [Hs1.out], HRq⟩
      case measure => (simp [intOf] <;> omega)
     ·have Hs1 : Hid (evL (evB r m) S ((listN p).take (j + 1)) = E ||| 2 ^ v) := by show _ = _; rw [Hst.out, hb]; rfl
      have d1 : (D.tmod 2 == 0) = true := by rw [hev] at hb; simpa using hb
      have h2v := two_pow_le (n := v) (by omega)
      obtain ⟨z, hz⟩ : ∃ z, z = 2 ^ v := ⟨_, rfl⟩
      have p1 : IntKind.i64.wrap ((2 : Int) ^ v) = (z : Int) := by rw [pow_shl v (by omega), hz]; simp
      rw [← hz] at Hs1 h2v
      have E1 := i64_or_nat E z (by omega) (by omega)
      clear hb hev hz
      go_wp2
      go_roundw
      case rel => exact ⟨j + 1, by omega, by go_num, by rw [Hs1.out], HRq⟩
      case measure => (simp [intOf] <;> omega)
    ·obtain rfl : (listN p).length = j := by omega
     have Hs1 : Hid (evL (evB r m) S ((listN p).take (listN p).length) = evT (evB r m) (T.take (i + 1))) := by show _ = _; rw [Hnx.out, List.take_length]
     rw [Hs1.out]
     go_wp2
     go_roundw
     case rel => exact ⟨i + 1, by omega, by go_num, rfl, HRx⟩
     case measure => (simp [intOf] <;> omega)
  ·obtain rfl : T.length = i := by omega
   have Hsd : Hid (S = sdS r m) := by show _ = _; rw [HS.out, List.take_length]; exact Hfin.out
   have HGr := Lib.hid (HGp.out.keep HR.out.below)
   have HBr := Lib.hid (HBp.out.up HR.out)
   have E := i64_andNot_nat (2 ^ m - 1) S (by omega) (by omega)
   rw [full_and hSlt] at E
   have hcl := comp_lt hn7 hSlt
   have Hyes : Hid (indB r S = true → indB r ((2 ^ m - 1) ^^^ S) = true → sdO r m = some S) := fun h1 h2 => by unfold sdO; rw [← Hsd.out, h1, h2]; rfl
   have Hno1 : Hid (indB r S = false → sdO r m = none) := fun h1 => by unfold sdO; rw [← Hsd.out, h1]; rfl
   have Hno2 : Hid (indB r ((2 ^ m - 1) ^^^ S) = false → sdO r m = none) := fun h1 => by unfold sdO; rw [← Hsd.out, h1, Bool.and_false]; rfl
   obtain ⟨t, ht⟩ : ∃ t, t = (2 ^ m - 1) ^^^ S := ⟨_, rfl⟩
   obtain ⟨F, hF⟩ : ∃ F, F = 2 ^ m - 1 := ⟨_, rfl⟩
   have KA : Hid (∀ z : World, Calls Tryz.prog 106 #[.agg #[.int .i64 m, .slice A m c]] z fun e w' => e = .returned (.int .i64 (F : Nat)) ∧ Below z.heap.size z w') := by rw [hF]; exact fun z => all_any m A c z hn7
   rw [← ht] at hcl Hyes Hno2 E
   rw [← hF] at E
   have KI : Hid (∀ z : World, Below wr.heap.size wr z → Calls Tryz.prog 236 #[.agg #[.int .i64 m, .slice A m c], .int .i64 (S : Int)] z fun e w' => e = .returned (.bool (indB r S)) ∧ Below z.heap.size z w') := fun z hz => IsIndependent_v (HGr.out.gv.keep hz) hSlt
   have KC : Hid (∀ z : World, Below wr.heap.size wr z → Calls Tryz.prog 236 #[.agg #[.int .i64 m, .slice A m c], .int .i64 (t : Int)] z fun e w' => e = .returned (.bool (indB r t)) ∧ Below z.heap.size z w') := fun z hz => IsIndependent_v (HGr.out.gv.keep hz) hcl
   clear ht hF
   have e0 := HGr.out.c0
   have e1 := HGr.out.c1
   cases hi : indB r S
   ·rw [hi] at KI
    have Hn := Lib.hid (Hno1.out hi)
    clear hi
    go_wp2
    have HSC : Hid (∀ z : World, Below wr.heap.size wr z → (Below wr.heap.size wr z ∧ z.cell? ⟨w.heap.size, 0, none⟩ = some (.int .i64 m) ∧ z.cell? ⟨w.heap.size, 1, none⟩ = some (.slice A m c))) := fun z hz => ⟨hz, up_ hz e0, up_ hz e1⟩
    have HZ0 : Hid (Below wr.heap.size wr wr.drew) := (Below.refl _ _).drew
    have HS1 := Lib.hid (HSC.out _ HZ0.out)
    have KR1 : Hid (∀ z : World, Below wr.heap.size wr z → _) := fun z hz => KI.out _ hz
    refine wp_region_held_drew (S := fun z => Below wr.heap.size wr z ∧ z.cell? ⟨w.heap.size, 0, none⟩ = some (.int .i64 m) ∧ z.cell? ⟨w.heap.size, 1, none⟩ = some (.slice A m c)) (by kernel_rfl) HS1.out (fun hHeld => ?_)
    refine pcY 0 rfl rfl (by kernel_rfl) (by rfl) (by intro w u; (try dsimp only at u); go_simp <;> with_reducible rfl) ‹_› (fun _ _ _ h => h) ?_; simp only [Act.put, sl0, sl1, sl2]
    refine ptY rfl rfl (by kernel_rfl) (by rfl) (by intro w u; (try dsimp only at u); go_simp <;> with_reducible rfl) ‹_› (fun _ _ _ h => h) ?_; simp only [Act.put, sl0, sl1, sl2]
    refine wpAnyH_ready (rs := [2]) (by kernel_rfl) (by simp) ?_
    refine AllReadyH.cons rfl (fun K hK => ?_) AllReadyH.nil
    go_simp
    go_at_call 236; refine (KR1.out _ HZ0.out).mono ?_
    rintro e w6 ⟨rfl, hb6⟩
    have hz6 := bl_trans HZ0.out hb6
    refine hK.out _ _ (HSC.out _ hz6) (fun hHeld => ?_)
    clear hK K
    try simp only [Act.put, sl0, sl1, sl2]
    iterate 2 (refine ptY rfl rfl (by kernel_rfl) (by rfl) (by intro w u; (try dsimp only at u); go_simp <;> with_reducible rfl) ‹_› (fun _ _ _ h => h) ?_; simp only [Act.put, sl0, sl1, sl2])
    iterate 7 (refine ptN rfl rfl (by kernel_rfl) (by rfl) ‹_› (fun _ _ _ h => h) ?_; simp only [Act.put, sl0, sl1, sl2])
    refine ptY rfl rfl (by kernel_rfl) (by rfl) (by intro w u; (try dsimp only at u); go_simp <;> with_reducible rfl) ‹_› (fun _ _ _ h => h) ?_; simp only [Act.put, sl0, sl1, sl2]
    refine wpAnyH_done (by kernel_rfl) ?_ _
    clear e0 e1
    replace HBr := Lib.hid (HBr.out.keep hz6)
    replace HGr := Lib.hid (HGr.out.keep hz6)
    clear hb6 hz6 HSC HZ0 HS1 KR1
    have e0 := HGr.out.c0
    have e1 := HGr.out.c1
    go_wp2
    go_ret2
    exact ⟨by rw [Hn.out]; rfl, HBr.out.below⟩
   ·rw [hi] at KI
    cases hc : indB r t
    ·rw [hc] at KC
     have Hn := Lib.hid (Hno2.out hc)
     clear hi hc
     go_wp2
     have HSC : Hid (∀ z : World, Below wr.heap.size wr z → (Below wr.heap.size wr z ∧ z.cell? ⟨w.heap.size, 0, none⟩ = some (.int .i64 m) ∧ z.cell? ⟨w.heap.size, 1, none⟩ = some (.slice A m c))) := fun z hz => ⟨hz, up_ hz e0, up_ hz e1⟩
     have HZ0 : Hid (Below wr.heap.size wr wr.drew) := (Below.refl _ _).drew
     have HS1 := Lib.hid (HSC.out _ HZ0.out)
     have KR1 : Hid (∀ z : World, Below wr.heap.size wr z → _) := fun z hz => KI.out _ hz
     have KR2 : Hid (∀ z : World, Below wr.heap.size wr z → _) := fun z hz => KA.out z
     have KR3 : Hid (∀ z : World, Below wr.heap.size wr z → _) := fun z hz => KC.out _ hz
     refine wp_region_held_drew (S := fun z => Below wr.heap.size wr z ∧ z.cell? ⟨w.heap.size, 0, none⟩ = some (.int .i64 m) ∧ z.cell? ⟨w.heap.size, 1, none⟩ = some (.slice A m c)) (by kernel_rfl) HS1.out (fun hHeld => ?_)
     refine pcY 0 rfl rfl (by kernel_rfl) (by rfl) (by intro w u; (try dsimp only at u); go_simp <;> with_reducible rfl) ‹_› (fun _ _ _ h => h) ?_; simp only [Act.put, sl0, sl1, sl2]
     refine ptY rfl rfl (by kernel_rfl) (by rfl) (by intro w u; (try dsimp only at u); go_simp <;> with_reducible rfl) ‹_› (fun _ _ _ h => h) ?_; simp only [Act.put, sl0, sl1, sl2]
     refine wpAnyH_ready (rs := [2]) (by kernel_rfl) (by simp) ?_
     refine AllReadyH.cons rfl (fun K hK => ?_) AllReadyH.nil
     go_simp
     go_at_call 236; refine (KR1.out _ HZ0.out).mono ?_
     rintro e w7 ⟨rfl, hb7⟩
     have hz7 := bl_trans HZ0.out hb7
     refine hK.out _ _ (HSC.out _ hz7) (fun hHeld => ?_)
     clear hK K
     try simp only [Act.put, sl0, sl1, sl2]
     iterate 4 (refine ptY rfl rfl (by kernel_rfl) (by rfl) (by intro w u; (try dsimp only at u); go_simp <;> with_reducible rfl) ‹_› (fun _ _ _ h => h) ?_; simp only [Act.put, sl0, sl1, sl2])
     refine pcY 8 rfl rfl (by kernel_rfl) (by rfl) (by intro w u; (try dsimp only at u); go_simp <;> with_reducible rfl) ‹_› (fun _ _ _ h => h) ?_; simp only [Act.put, sl0, sl1, sl2]
     refine wpAnyH_ready (rs := [7]) (by kernel_rfl) (by simp) ?_
     refine AllReadyH.cons rfl (fun K hK => ?_) AllReadyH.nil
     go_simp
     go_at_call 106; refine (KR2.out _ hz7).mono ?_
     rintro e w8 ⟨rfl, hb8⟩
     have hz8 := bl_trans hz7 hb8
     refine hK.out _ _ (HSC.out _ hz8) (fun hHeld => ?_)
     clear hK K
     try simp only [Act.put, sl0, sl1, sl2]
     refine pcY 9 rfl rfl (by kernel_rfl) (by rfl) (by intro w u; (try dsimp only at u); go_simp <;> with_reducible rfl) ‹_› (fun _ _ _ h => h) ?_; simp only [Act.put, sl0, sl1, sl2]
     refine wpAnyH_ready (rs := [10]) (by kernel_rfl) (by simp) ?_
     refine AllReadyH.cons rfl (fun K hK => ?_) AllReadyH.nil
     go_simp
     go_at_call 236; refine (KR3.out _ hz8).mono ?_
     rintro e w9 ⟨rfl, hb9⟩
     have hz9 := bl_trans hz8 hb9
     refine hK.out _ _ (HSC.out _ hz9) (fun hHeld => ?_)
     clear hK K
     try simp only [Act.put, sl0, sl1, sl2]
     iterate 2 (refine ptY rfl rfl (by kernel_rfl) (by rfl) (by intro w u; (try dsimp only at u); go_simp <;> with_reducible rfl) ‹_› (fun _ _ _ h => h) ?_; simp only [Act.put, sl0, sl1, sl2])
     refine wpAnyH_done (by kernel_rfl) ?_ _
     clear e0 e1
     replace HBr := Lib.hid (HBr.out.keep hz9)
     replace HGr := Lib.hid (HGr.out.keep hz9)
     clear hb7 hz7 hb8 hz8 hb9 hz9 HSC HZ0 HS1 KR1 KR2 KR3
     have e0 := HGr.out.c0
     have e1 := HGr.out.c1
     go_wp2
     go_ret2
     exact ⟨by rw [Hn.out]; rfl, HBr.out.below⟩
    ·rw [hc] at KC
     have Hn := Lib.hid (Hyes.out hi hc)
     clear hi hc
     go_wp2
     have HSC : Hid (∀ z : World, Below wr.heap.size wr z → (Below wr.heap.size wr z ∧ z.cell? ⟨w.heap.size, 0, none⟩ = some (.int .i64 m) ∧ z.cell? ⟨w.heap.size, 1, none⟩ = some (.slice A m c))) := fun z hz => ⟨hz, up_ hz e0, up_ hz e1⟩
     have HZ0 : Hid (Below wr.heap.size wr wr.drew) := (Below.refl _ _).drew
     have HS1 := Lib.hid (HSC.out _ HZ0.out)
     have KR1 : Hid (∀ z : World, Below wr.heap.size wr z → _) := fun z hz => KI.out _ hz
     have KR2 : Hid (∀ z : World, Below wr.heap.size wr z → _) := fun z hz => KA.out z
     have KR3 : Hid (∀ z : World, Below wr.heap.size wr z → _) := fun z hz => KC.out _ hz
     refine wp_region_held_drew (S := fun z => Below wr.heap.size wr z ∧ z.cell? ⟨w.heap.size, 0, none⟩ = some (.int .i64 m) ∧ z.cell? ⟨w.heap.size, 1, none⟩ = some (.slice A m c)) (by kernel_rfl) HS1.out (fun hHeld => ?_)
     refine pcY 0 rfl rfl (by kernel_rfl) (by rfl) (by intro w u; (try dsimp only at u); go_simp <;> with_reducible rfl) ‹_› (fun _ _ _ h => h) ?_; simp only [Act.put, sl0, sl1, sl2]
     refine ptY rfl rfl (by kernel_rfl) (by rfl) (by intro w u; (try dsimp only at u); go_simp <;> with_reducible rfl) ‹_› (fun _ _ _ h => h) ?_; simp only [Act.put, sl0, sl1, sl2]
     refine wpAnyH_ready (rs := [2]) (by kernel_rfl) (by simp) ?_
     refine AllReadyH.cons rfl (fun K hK => ?_) AllReadyH.nil
     go_simp
     go_at_call 236; refine (KR1.out _ HZ0.out).mono ?_
     rintro e w10 ⟨rfl, hb10⟩
     have hz10 := bl_trans HZ0.out hb10
     refine hK.out _ _ (HSC.out _ hz10) (fun hHeld => ?_)
     clear hK K
     try simp only [Act.put, sl0, sl1, sl2]
     iterate 4 (refine ptY rfl rfl (by kernel_rfl) (by rfl) (by intro w u; (try dsimp only at u); go_simp <;> with_reducible rfl) ‹_› (fun _ _ _ h => h) ?_; simp only [Act.put, sl0, sl1, sl2])
     refine pcY 8 rfl rfl (by kernel_rfl) (by rfl) (by intro w u; (try dsimp only at u); go_simp <;> with_reducible rfl) ‹_› (fun _ _ _ h => h) ?_; simp only [Act.put, sl0, sl1, sl2]
     refine wpAnyH_ready (rs := [7]) (by kernel_rfl) (by simp) ?_
     refine AllReadyH.cons rfl (fun K hK => ?_) AllReadyH.nil
     go_simp
     go_at_call 106; refine (KR2.out _ hz10).mono ?_
     rintro e w11 ⟨rfl, hb11⟩
     have hz11 := bl_trans hz10 hb11
     refine hK.out _ _ (HSC.out _ hz11) (fun hHeld => ?_)
     clear hK K
     try simp only [Act.put, sl0, sl1, sl2]
     refine pcY 9 rfl rfl (by kernel_rfl) (by rfl) (by intro w u; (try dsimp only at u); go_simp <;> with_reducible rfl) ‹_› (fun _ _ _ h => h) ?_; simp only [Act.put, sl0, sl1, sl2]
     refine wpAnyH_ready (rs := [10]) (by kernel_rfl) (by simp) ?_
     refine AllReadyH.cons rfl (fun K hK => ?_) AllReadyH.nil
     go_simp
     go_at_call 236; refine (KR3.out _ hz11).mono ?_
     rintro e w12 ⟨rfl, hb12⟩
     have hz12 := bl_trans hz11 hb12
     refine hK.out _ _ (HSC.out _ hz12) (fun hHeld => ?_)
     clear hK K
     try simp only [Act.put, sl0, sl1, sl2]
     iterate 2 (refine ptY rfl rfl (by kernel_rfl) (by rfl) (by intro w u; (try dsimp only at u); go_simp <;> with_reducible rfl) ‹_› (fun _ _ _ h => h) ?_; simp only [Act.put, sl0, sl1, sl2])
     refine wpAnyH_done (by kernel_rfl) ?_ _
     clear e0 e1
     replace HBr := Lib.hid (HBr.out.keep hz12)
     replace HGr := Lib.hid (HGr.out.keep hz12)
     clear hb10 hz10 hb11 hz11 hb12 hz12 HSC HZ0 HS1 KR1 KR2 KR3
     have e0 := HGr.out.c0
     have e1 := HGr.out.c1
     go_wp2
     go_ret2
     exact ⟨by rw [Hn.out]; rfl, HBr.out.below⟩
section
variable (sz : Int) (A : Option Addr) (m c : Nat) (x : Nat → Int) (w : World)
set_option maxHeartbeats 1000000 in
theorem SidesOf_no (h : GA w A m c x) (hm : m ≤ 1048576) (hok : okB sz m x = false) :
 Calls Tryz.prog 188 #[.agg #[.int .i64 sz, .slice A m c]] w fun e w' => e = .returned (lsV none) ∧ Below w.heap.size w w' := by
 obtain ⟨W, hW⟩ : ∃ W : World, W = (w.alloc (Obj.cells #[Value.int IntKind.i64 sz, Value.slice A m c] 29)) := ⟨_, rfl⟩
 have HB : Hid (From w W) := by rw [hW]; exact From.alloc _ _
 have HK := Lib.hid (h.keep HB.out.below)
 have HC : Hid (GC W w.heap.size sz A m c) := by rw [hW]; exact GC.new _ _ _ _ _
 have HW := Lib.hid hW
 have Ho := Lib.hid hok
 clear hW h hok
 go_enter Tryz.func188, Tryz.ntmps188
 have e0 := HC.out.c0
 have e1 := HC.out.c1
 go_wp2_with fail
 rw [← HW.out]
 clear HW
 refine (IsGraph_any sz A m c x W W.heap.size HK.out.rd (Nat.le_refl _) hm).mono ?_
 rintro e w1 ⟨rfl, hb1⟩
 rw [Ho.out]
 clear e0 e1
 replace HB := Lib.hid (HB.out.keep hb1)
 replace HK := Lib.hid (HK.out.keep hb1)
 replace HC := Lib.hid (HC.out.keep hb1)
 clear hb1
 have e0 := HC.out.c0
 have e1 := HC.out.c1
 go_wp2
 go_ret2
 exact ⟨rfl, HB.out.below⟩
set_option maxRecDepth 100000 in
set_option maxHeartbeats 1600000 in
theorem IsBipartite_i (h : GA w A m c x) (hm : m ≤ 1048576) :
 Calls Tryz.prog 134 #[.agg #[.int .i64 sz, .slice A m c]] w fun e w' => e = .returned (.bool (biB sz m x)) ∧ Below w.heap.size w w' := by
 obtain ⟨W, hW⟩ : ∃ W : World, W = (w.alloc (Obj.cells #[Value.int IntKind.i64 sz, Value.slice A m c] 29)) := ⟨_, rfl⟩
 have HB : Hid (From w W) := by rw [hW]; exact From.alloc _ _
 have HK := Lib.hid (h.keep HB.out.below)
 have HC : Hid (GC W w.heap.size sz A m c) := by rw [hW]; exact GC.new _ _ _ _ _
 have HW := Lib.hid hW
 clear hW h
 go_enter Tryz.func134, Tryz.ntmps134
 cases ho : okB sz m x
 ·have Hn : Hid (biB sz m x = false) := biB_no ho
  have KF := Lib.hid (SidesOf_no sz A m c x W HK.out hm ho)
  clear ho
  have e0 := HC.out.c0
  have e1 := HC.out.c1
  go_wp2_with fail
  rw [← HW.out]
  refine (KF.out).mono ?_
  rintro e w1 ⟨rfl, hb1⟩
  clear HW
  clear e0 e1
  replace HB := Lib.hid (HB.out.keep hb1)
  replace HK := Lib.hid (HK.out.keep hb1)
  replace HC := Lib.hid (HC.out.keep hb1)
  clear hb1
  have e0 := HC.out.c0
  have e1 := HC.out.c1
  clear KF
  rw [lsV_none]
  go_wp2
  go_ret
  exact ⟨ret_bool Hn.out.symm, HB.out.below⟩
 obtain ⟨_, es, _, _⟩ := okB_ok' ho
 subst es
 have Hn : Hid (biB (m : Int) m x = (sdO (rw_ x) m).isSome) := biB_yes ho
 have HG : Hid (GBox W w.heap.size A m c (rw_ x)) := ⟨HK.out.gv ho, HC.out.c0, HC.out.c1, HC.out.lt⟩
 have KF := Lib.hid (SidesOf_v HG.out.gv)
 obtain ⟨o, ho2⟩ : ∃ o, o = sdO (rw_ x) m := ⟨_, rfl⟩
 rw [← ho2] at Hn KF
 clear ho ho2 HC HK
 cases o
 ·skip
  have e0 := HG.out.c0
  have e1 := HG.out.c1
  go_wp2_with fail
  rw [← HW.out]
  refine (KF.out).mono ?_
  rintro e w2 ⟨rfl, hb2⟩
  clear HW
  clear e0 e1
  replace HB := Lib.hid (HB.out.keep hb2)
  replace HG := Lib.hid (HG.out.keep hb2)
  clear hb2
  have e0 := HG.out.c0
  have e1 := HG.out.c1
  clear KF
  rw [lsV_none]
  go_wp2
  go_ret
  exact ⟨ret_bool Hn.out.symm, HB.out.below⟩
 ·skip
  have e0 := HG.out.c0
  have e1 := HG.out.c1
  go_wp2_with fail
  rw [← HW.out]
  refine (KF.out).mono ?_
  rintro e w3 ⟨rfl, hb3⟩
  clear HW
  clear e0 e1
  replace HB := Lib.hid (HB.out.keep hb3)
  replace HG := Lib.hid (HG.out.keep hb3)
  clear hb3
  have e0 := HG.out.c0
  have e1 := HG.out.c1
  clear KF
  rw [lsV_some]
  go_wp2
  go_ret
  exact ⟨ret_bool Hn.out.symm, HB.out.below⟩
end
end Go.Proofs.YtppkokgiojcgbaaGreatDoor
