/-
  Several texts in one: words for memory, plain laws and contracts that the later texts lean on.
-/
import Derived.Test.YtppkokgiojcgbaaDoorQzGB
import Derived.Test.YtppkokgiojcgbaaDoorQzGA
import Derived.Deep.RegionLaw
import Derived.Deep.RegionHeld3
import Derived.ArgAppend
/-
  Contracts: is a graph chordal? The program's elimination.
-/
namespace Go.Proofs.YtppkokgiojcgbaaDoor
open Go.RowKit

theorem all_any (m : Nat) (A : Option Addr) (c : Nat) (w : World) (hm : m ≤ 7) :
    Calls Tryd.prog 26 #[.agg #[.int .i64 m, .slice A m c]] w fun e w' => e = .returned (.int .i64 ((2 ^ m - 1 : Nat) : Int)) ∧ Below w.heap.size w w' := by
  have p1 := pow_shl m hm
  have p2 := two_pow_int m hm
  have H : Hid (((2 ^ m - 1 : Nat) : Int) = 2 ^ m - 1) := by show _ = _; rw [Int.ofNat_sub (Nat.two_pow_pos m)]; simp
  have HB : Hid (Below w.heap.size w (w.alloc (Obj.cells #[Value.int IntKind.i64 m, Value.slice A m c] 27))) := (Below.refl _ _).alloc (Nat.le_refl _) _
  go_enter Tryd.func26, Tryd.ntmps26
  go_wp2
  go_ret
  exact ⟨ret_int H.out.symm, HB.out⟩
end Go.Proofs.YtppkokgiojcgbaaDoor

/-
  Contracts: neighbours, parts, numbers of members: the program's.
-/
namespace Go.Proofs.YtppkokgiojcgbaaDoor
open Go.RowKit

theorem CountSet_i (s : Nat) (hs : s < 128) (w : World) :
    Calls Tryd.prog 46 #[.int .i64 s] w fun e w' => e = .returned (.int .i64 ((listN s).length : Int)) ∧ Below w.heap.size w w' := by
  go_enter Tryd.func46, Tryd.ntmps46
  go_wp2_with fail
  refine (ListOf_i s hs w).mono ?_
  rintro e w1 ⟨A', c', rfl, hO, hb1⟩
  have HB := Lib.hid hb1
  clear hO hb1
  go_wp2
  go_ret
  exact ⟨rfl, HB.out⟩

/-- The members' neighbours, as far as the list has been read. -/
def nbL (r : Nat → Nat) (s k : Nat) : Nat := ((listN s).take k).foldl (fun a v => a ||| r v) 0
theorem nbL_succ {r : Nat → Nat} {s k : Nat} (h : k < (listN s).length) : nbL r s (k + 1) = nbL r s k ||| r (listN s)[k] := by
  unfold nbL
  rw [List.take_succ_eq_append_getElem h, List.foldl_append]; rfl
theorem nbL_end {r : Nat → Nat} {s k : Nat} (h : (listN s).length ≤ k) : nbL r s k = nb r s := by
  unfold nbL
  rw [List.take_of_length_le h]
  exact nb_list 7
theorem nbL_lt {r : Nat → Nat} {s n k : Nat} (hr : ∀ v, v < n → r v < 2 ^ n) (hs : s < 2 ^ n) : nbL r s k < 2 ^ n :=
  fold_lt _ _ (Nat.two_pow_pos n) (fun v hv => hr v (bit_lt hs (mem_listN.1 (List.mem_of_mem_take hv)).2))

set_option maxHeartbeats 1000000 in
theorem neighbors_i (m : Nat) (A : Option Addr) (c : Nat) (x : Nat → Int) (s : Nat) (w : World) (B : Nat) (h : Rd w B A m c x) (hB : B ≤ w.heap.size) (hok : okB m m x = true) (hs : s < 2 ^ m) :
    Calls Tryd.prog 65 #[.agg #[.int .i64 m, .slice A m c], .int .i64 s] w fun e w' => e = .returned (.int .i64 (nb (rw_ x) s : Nat)) ∧ Below w.heap.size w w' := by
  obtain ⟨vg, hx⟩ := okB_vg hok
  have hn1 := vg.n1
  have hn7 := vg.n7
  have h128 := two_pow_le hn7
  obtain ⟨W, hW⟩ : ∃ W : World, W = (w.alloc (Obj.cells #[Value.int IntKind.i64 m, Value.slice A m c] 27)) := ⟨_, rfl⟩
  have HB : Hid (Below w.heap.size w W) := by rw [hW]; exact ((Below.refl _ _).alloc (Nat.le_refl _) _)
  have a0 : w.heap.size < W.heap.size := by rw [hW]; simp
  have e1 : W.cell? ⟨w.heap.size, 1, none⟩ = some (.slice A m c) := by rw [hW]; simp [go_sem]
  obtain ⟨b, o, rfl, hb, hc⟩ := (h.keep (HB.out.mono hB) (Nat.le_refl _)).pos (by omega)
  have HC := Lib.hid hc
  have HW := Lib.hid hW
  have HX := Lib.hid hx
  have HV := Lib.hid vg
  clear hW h hc hx vg hok
  go_enter Tryd.func65, Tryd.ntmps65
  go_wp2_with fail
  rw [← HW.out]
  clear HW
  refine (ListOf_i s (by omega) W).mono ?_
  rintro e w1 ⟨A', c', rfl, hO, hb1⟩
  have z1 := hb1.size
  have f1 := up hb1 e1 a0
  have HO := Lib.hid hO
  have HB1 : Hid (Below w.heap.size w w1) := HB.out.trans (hb1.mono (by omega))
  have HC1 : Hid (∀ v, v < m → w1.cell? ⟨b, o + v, none⟩ = some (.int .i64 (x v))) := fun v hv => (hb1.cell (p := ⟨b, o + v, none⟩) (by show b < _; omega)).trans (HC.out v hv)
  have hl7 := listN_len s
  clear hO hb1 e1 HC HB
  go_wp2
  go_loop [5, 11] (fun a i => ∃ k : Nat, k ≤ (listN s).length ∧ i = .int .i64 k ∧ a = .int .i64 (nbL (rw_ x) s k : Nat)) (fun _ i => (listN s).length - (intOf i).toNat)
  case atStart => exact ⟨0, Nat.zero_le _, rfl, rfl⟩
  case round =>
    obtain ⟨k, hk, rfl, rfl⟩ := hrel
    by_cases hlt : k < (listN s).length
    · obtain ⟨hv7, hvb⟩ := listN_at hlt
      have hvm := bit_lt hs hvb
      have hstep := nbL_succ (r := rw_ x) hlt
      have hlt1 := nbL_lt (r := rw_ x) (k := k) HV.out.lt hs
      obtain ⟨v, hv⟩ : ∃ v, v = (listN s)[k] := ⟨_, rfl⟩
      rw [← hv] at hv7 hvb hvm hstep
      obtain ⟨g, hA, hg1, hg2, _, hcell, _⟩ := HO.out.at_ (by omega)
      have q0 : w1.cell? ⟨g, k, none⟩ = some (.int .i64 v) := (hcell k (by omega)).trans (by rw [ni_at hlt, ← hv])
      have q2 := HC1.out v hvm
      rw [HX.out v hvm] at q2
      have hr128 := HV.out.lt128 hvm
      have E := i64_or_nat (nbL (rw_ x) s k) (rw_ x v) (by omega) (by omega)
      rw [← hstep] at E
      have i1 : (k : Int) < ((listN s).length : Int) := by omega
      have i2 : (v : Int) < (m : Int) := by omega
      subst hA
      clear hv hcell hvb hstep
      go_wp2
      go_round
      case rel => exact ⟨k + 1, by omega, by go_num, rfl⟩
      case measure => simp [intOf]; omega
    · have hend : Hid (nbL (rw_ x) s k = nb (rw_ x) s) := nbL_end (by omega)
      have i1 : ((listN s).length : Int) ≤ (k : Int) := by omega
      go_wp2
      go_ret
      exact ⟨ret_int (by rw [hend.out]), HB1.out⟩

set_option maxHeartbeats 1000000 in
theorem partOf_i (m : Nat) (A : Option Addr) (c : Nat) (x : Nat → Int) (set s : Nat) (w : World) (B : Nat) (h : Rd w B A m c x) (hB : B ≤ w.heap.size) (hok : okB m m x = true) (hset : set < 2 ^ m) (hsub : Sub s set) (h0 : s ≠ 0) :
    Calls Tryd.prog 51 #[.agg #[.int .i64 m, .slice A m c], .int .i64 set, .int .i64 s] w fun e w' => e = .returned (.int .i64 (part (rw_ x) set s : Nat)) ∧ Below w.heap.size w w' := by
  obtain ⟨vg, hx⟩ := okB_vg hok
  have hn7 := vg.n7
  have h128 := two_pow_le hn7
  obtain ⟨W, hW⟩ : ∃ W : World, W = (w.alloc (Obj.cells #[Value.int IntKind.i64 m, Value.slice A m c] 27)) := ⟨_, rfl⟩
  have HB : Hid (Below w.heap.size w W) := by rw [hW]; exact ((Below.refl _ _).alloc (Nat.le_refl _) _)
  have a0 : w.heap.size < W.heap.size := by rw [hW]; simp
  have e0 : W.cell? ⟨w.heap.size, 0, none⟩ = some (.int .i64 m) := by rw [hW]; simp [go_sem]
  have e1 : W.cell? ⟨w.heap.size, 1, none⟩ = some (.slice A m c) := by rw [hW]; simp [go_sem]
  have HK := Lib.hid (h.keep (HB.out.mono hB) (Nat.le_refl _))
  have HW := Lib.hid hW
  have HV := Lib.hid vg
  have Hok := Lib.hid hok
  have Hsub := Lib.hid hsub
  have H0 := Lib.hid h0
  clear hW h hx vg hok hsub h0
  go_enter Tryd.func51, Tryd.ntmps51
  go_wp2_with fail
  rw [← HW.out]
  clear HW
  go_loopw [2] (fun f wr => ∃ k : Nat, f = .int .i64 (gro (rw_ x) set s k : Nat) ∧ Hid (∀ j, j < k → gro (rw_ x) set s (j + 1) ≠ gro (rw_ x) set s j) ∧ Hid (Below W.heap.size W wr)) (fun f _ => 128 - (intOf f).toNat)
  case atStart => exact ⟨0, rfl, (fun j hj => absurd hj (by omega)), Below.refl _ _⟩
  case round =>
    obtain ⟨k, rfl, hall, hbr⟩ := hrel
    have zr := hbr.out.size
    have j0 := up hbr.out e0 a0
    have j1 := up hbr.out e1 a0
    have hgs := gro_sub (r := rw_ x) Hsub.out k
    have hlt := sub_lt hgs hset
    have hnb := nb_lt (r := rw_ x) (s := gro (rw_ x) set s k) HV.out.lt hlt 7
    have hgg := gro_grow (r := rw_ x) Hsub.out k
    have hle := sub_num hgg
    have hlt2 := sub_lt (gro_sub (r := rw_ x) Hsub.out (k + 1)) hset
    have hstep : gro (rw_ x) set s (k + 1) = (gro (rw_ x) set s k ||| nb (rw_ x) (gro (rw_ x) set s k)) &&& set := rfl
    have HK2 : Hid (Rd wr B A m c x) := HK.out.keep (hbr.out.mono (by omega)) (Nat.le_refl _)
    have hE : Hid (gro (rw_ x) set s (k + 1) = gro (rw_ x) set s k → gro (rw_ x) set s k = part (rw_ x) set s) := fun e => fix_part (r := rw_ x) hn7 hset Hsub.out H0.out hall.out e
    obtain ⟨a, ha⟩ : ∃ a, a = gro (rw_ x) set s k := ⟨_, rfl⟩
    obtain ⟨b, hb⟩ : ∃ b, b = gro (rw_ x) set s (k + 1) := ⟨_, rfl⟩
    rw [← ha] at hstep hlt hnb hle ⊢
    rw [← ha, ← hb] at hE
    rw [← hb] at hstep hle hlt2
    obtain ⟨n, hnn⟩ : ∃ n, n = nb (rw_ x) a := ⟨_, rfl⟩
    have hn2 : n < 2 ^ m := by rw [hnn]; exact hnb
    have E1 := i64_or_nat a n (by omega) (by omega)
    have horlt : a ||| n < 2 ^ m := Nat.or_lt_two_pow hlt hn2
    have E2 := i64_and_nat (a ||| n) set (by omega) (by omega)
    rw [hnn, ← hstep] at E2
    rw [← hnn] at E2
    have Ha := Lib.hid ha
    have Hb := Lib.hid hb
    have Hnn := Lib.hid hnn
    clear ha hb hgs hgg hstep hnb hnn
    go_wp2_with fail
    refine (neighbors_i m A c x a wr B HK2.out (by omega) Hok.out hlt).mono ?_
    rintro e w2 ⟨rfl, hb2⟩
    rw [← Hnn.out]
    have HB2 : Hid (Below W.heap.size W w2) := hbr.out.trans (hb2.mono zr)
    clear hb2 hbr HK2 j0 j1
    by_cases hab : b = a
    · have hp : Hid (a = part (rw_ x) set s) := hE.out hab
      subst hab
      go_wp2
      go_ret
      exact ⟨ret_int (by rw [← hp.out]), HB.out.trans (HB2.out.mono (by omega))⟩
    · have hne : ((b : Int) == (a : Int)) = false := by simp; omega
      have hne2 : (b = a) = False := by simp [hab]
      have hlt3 : a < b := by omega
      have Hab := Lib.hid hab
      clear hab
      go_wp2
      go_roundw
      case rel =>
        refine ⟨k + 1, by rw [← Hb.out], fun j hj => ?_, HB2⟩
        by_cases hjk : j < k
        · exact hall.out j hjk
        · obtain rfl : j = k := by omega
          rw [← Hb.out, ← Ha.out]; exact Hab.out
      case measure => simp [intOf]; omega
end Go.Proofs.YtppkokgiojcgbaaDoor

/-
  Contracts: a set without which more parts are left than it has members: the program's search.
-/
namespace Go.Proofs.YtppkokgiojcgbaaDoor
open Go.RowKit

theorem low_bits : ∀ s : Nat, s < 128 → s ≠ 0 → bits .and .i64 (s : Int) (-(s : Int)) = ((low s : Nat) : Int) := by decide +kernel

set_option maxHeartbeats 1000000 in
theorem parts_i (m : Nat) (A : Option Addr) (c : Nat) (x : Nat → Int) (set : Nat) (w : World) (B : Nat) (h : Rd w B A m c x) (hB : B ≤ w.heap.size) (hok : okB m m x = true) (hset : set < 2 ^ m) :
    Calls Tryd.prog 25 #[.agg #[.int .i64 m, .slice A m c], .int .i64 set] w fun e w' => ∃ A' c' n', e = .returned (.slice A' n' c') ∧ n' = np (rw_ x) set ∧ Below w.heap.size w w' := by
  obtain ⟨vg, hx⟩ := okB_vg hok
  have hn7 := vg.n7
  have h128 := two_pow_le hn7
  obtain ⟨W, hW⟩ : ∃ W : World, W = ((w.alloc (Obj.cells #[Value.int IntKind.i64 m, Value.slice A m c] 27)).alloc (Obj.cells #[] 3)) := ⟨_, rfl⟩
  have HB : Hid (Below w.heap.size w W) := by rw [hW]; exact ((Below.refl _ _).alloc (Nat.le_refl _) _).alloc (by simp) _
  have HZ : Hid (w.heap.size + 2 = W.heap.size) := by rw [hW]; simp [Hid]
  have a0 : w.heap.size < W.heap.size := by have := HZ.out; omega
  have e0 : W.cell? ⟨w.heap.size, 0, none⟩ = some (.int .i64 m) := by rw [hW]; simp [go_sem]
  have e1 : W.cell? ⟨w.heap.size, 1, none⟩ = some (.slice A m c) := by rw [hW]; simp [go_sem]
  have HO : Hid (Own W (w.heap.size + 1) W.heap.size 3 1 (some ⟨w.heap.size + 1, 0, none⟩) 0 0 (ni [])) := by
    refine .inr ⟨w.heap.size + 1, #[], rfl, Nat.le_refl _, by have := HZ.out; omega, ?_, Nat.le_refl _, by unfold maxLen; omega, rfl, fun j hj => absurd hj (by omega)⟩
    rw [hW]
    have := heap_alloc_new (w.alloc (Obj.cells #[Value.int IntKind.i64 m, Value.slice A m c] 27)) (Obj.cells #[] 3)
    simpa using this
  have HK := Lib.hid (h.keep (HB.out.mono hB) (Nat.le_refl _))
  have HW := Lib.hid hW
  have Hok := Lib.hid hok
  clear hW h hx vg hok
  go_enter Tryd.func25, Tryd.ntmps25
  go_wp2_with fail
  rw [← HW.out]
  clear HW
  go_loopw [1, 5] (fun st l wr => ∃ (left : Nat) (A' : Option Addr) (c' : Nat) (T : List Nat), st = .int .i64 left ∧ l = .slice A' T.length c' ∧ left < 2 ^ m ∧ T.length + left < 2 ^ m ∧ Hid (T.length + np (rw_ x) left = np (rw_ x) set) ∧ Hid (Own wr (w.heap.size + 1) wr.heap.size 3 1 A' T.length c' (ni T)) ∧ Hid (Below (w.heap.size + 1) W wr)) (fun st _ _ => (intOf st).toNat)
  case atStart => exact ⟨set, _, 0, [], rfl, rfl, hset, by simpa using hset, by simp [Hid], HO, Below.refl _ _⟩
  case round =>
    obtain ⟨left, A', c', T, rfl, rfl, hl, hT, HN, HY, hbr⟩ := hrel
    have zr := hbr.out.size
    have j0 := up hbr.out e0 (by omega)
    have j1 := up hbr.out e1 (by omega)
    by_cases hl0 : left = 0
    · have hn : Hid (T.length = np (rw_ x) set) := by have := HN.out; rw [hl0, np_zero] at this; exact this
      subst hl0
      go_wp2
      go_ret
      exact ⟨A', c', T.length, rfl, hn.out, HB.out.trans (hbr.out.mono (by omega))⟩
    · have hne : ((left : Int) != 0) = true := by simp; omega
      have hlow := low_sub (by omega : left < 128) hl0
      have hps := part_sub (r := rw_ x) (by omega : left < 128) hl0
      have hxl := xor_sub_lt (by omega : left < 128) hps.1 hps.2
      have hnp : Hid (T.length + 1 + np (rw_ x) (left ^^^ part (rw_ x) left (low left)) = np (rw_ x) set) := by
        show _ = _
        have := HN.out; rw [np_succ (by omega) hl0] at this; omega
      have E1 := low_bits left (by omega) hl0
      have HK2 : Hid (Rd wr B A m c x) := HK.out.keep (hbr.out.mono (by omega)) (Nat.le_refl _)
      have hBw : B ≤ wr.heap.size := by omega
      have hplt := sub_lt hps.1 hl
      have hand : left &&& part (rw_ x) left (low left) = part (rw_ x) left (low left) := by rw [Nat.and_comm]; exact hps.1.and
      obtain ⟨p, hp⟩ : ∃ p, p = part (rw_ x) left (low left) := ⟨_, rfl⟩
      obtain ⟨lb, hlb⟩ : ∃ lb, lb = low left := ⟨_, rfl⟩
      rw [← hp] at hxl hplt hand hnp
      have E2 := i64_andNot_nat left p (by omega) (by omega)
      rw [hand] at E2
      have Hlow := Lib.hid hlow
      rw [← hlb] at E1
      have Hp := Lib.hid hp
      have Hlb := Lib.hid hlb
      have hx1 := hxl.1
      clear hl0 hlow hps hp hlb hand hxl
      go_wp2_with fail
      refine (partOf_i m A c x left lb wr B HK2.out hBw Hok.out hl (by rw [Hlb.out]; exact Hlow.out.1) (by rw [Hlb.out]; exact Hlow.out.2)).mono ?_
      rintro e w3 ⟨rfl, hb3⟩
      rw [Hlb.out, ← Hp.out]
      have HY3 : Hid (Own w3 (w.heap.size + 1) w3.heap.size 3 1 A' T.length c' (ni T)) := (HY.out.keepB hb3 (Nat.le_refl _)).mono (Nat.le_refl _) hb3.size
      have z3 := hb3.size
      have HB3 : Hid (Below (w.heap.size + 1) W w3) := hbr.out.trans (hb3.mono (by omega))
      clear hb3 hbr HY HK2 E1 j0 j1
      go_wp2_with (first | (at_builtin; (refine wpList_pushN w3 rfl _ _ rfl (w.heap.size + 1) w3.heap.size A' c' T HY3.out (by omega) p rfl 1 w3.heap.size rfl rfl (by omega) ?_; intro g cap w4 hO4 hb4)))
      have H4 := Lib.hid hO4
      have H5 : Hid (Below (w.heap.size + 1) W w4) := HB3.out.trans hb4
      clear hO4 hb4
      go_roundw
      case rel => exact ⟨left ^^^ p, _, _, T ++ [p], rfl, by rw [List.length_append]; rfl, by omega, by rw [List.length_append]; simp; omega, by rw [List.length_append]; exact hnp, by rw [List.length_append]; exact H4.out, H5⟩
      case measure => simp [intOf] <;> omega

end Go.Proofs.YtppkokgiojcgbaaDoor

/-
  Contracts: a set without which more parts are left than it has members: the reference's search.
-/
namespace Go.Proofs.YtppkokgiojcgbaaDoor
open Go.RowKit

theorem CountSet_s (s : Nat) (hs : s < 128) (w : World) :
    Calls Tryd.prog 33 #[.int .i64 s] w fun e w' => e = .returned (.int .i64 ((listN s).length : Int)) ∧ Below w.heap.size w w' := by
  go_enter Tryd.func33, Tryd.ntmps33
  go_wp2_with fail
  refine (ListOf_s s hs w).mono ?_
  rintro e w1 ⟨A', c', rfl, hO, hb1⟩
  have HB := Lib.hid hb1
  clear hO hb1
  go_wp2
  go_ret
  exact ⟨rfl, HB.out⟩

theorem nbK_end {r : Nat → Nat} {s m : Nat} (hs : s < 2 ^ m) : ∀ k, m ≤ k → nbK r s k = nbK r s m := by
  intro k hk
  induction k with
  | zero => obtain rfl : m = 0 := by omega
            rfl
  | succ k ih =>
    by_cases h : m = k + 1
    · rw [h]
    · rw [nbK_no, ih (by omega)]
      cases hb : s.testBit k
      · rfl
      · have := bit_lt hs hb; omega

set_option maxHeartbeats 1000000 in
theorem AroundSet_s (m : Nat) (A : Option Addr) (c : Nat) (x : Nat → Int) (s : Nat) (w : World) (B : Nat) (h : Rd w B A m c x) (hB : B ≤ w.heap.size) (hok : okB m m x = true) (hs : s < 2 ^ m) :
    Calls Tryd.prog 55 #[.agg #[.int .i64 m, .slice A m c], .int .i64 s] w fun e w' => e = .returned (.int .i64 ((s ||| nb (rw_ x) s : Nat) : Int)) ∧ Below w.heap.size w w' := by
  obtain ⟨vg, hx⟩ := okB_vg hok
  have hn1 := vg.n1
  have hn7 := vg.n7
  have h128 := two_pow_le hn7
  obtain ⟨W, hW⟩ : ∃ W : World, W = (w.alloc (Obj.cells #[Value.int IntKind.i64 m, Value.slice A m c] 27)) := ⟨_, rfl⟩
  have HB : Hid (Below w.heap.size w W) := by rw [hW]; exact ((Below.refl _ _).alloc (Nat.le_refl _) _)
  have a0 : w.heap.size < W.heap.size := by rw [hW]; simp
  have e0 : W.cell? ⟨w.heap.size, 0, none⟩ = some (.int .i64 m) := by rw [hW]; simp [go_sem]
  have e1 : W.cell? ⟨w.heap.size, 1, none⟩ = some (.slice A m c) := by rw [hW]; simp [go_sem]
  have HK := Lib.hid (h.keep (HB.out.mono hB) (Nat.le_refl _))
  obtain ⟨b, o, rfl, hb, hc⟩ := HK.out.pos (by omega)
  have HC := Lib.hid hc
  have HW := Lib.hid hW
  have HX := Lib.hid hx
  have HV := Lib.hid vg
  have Hok := Lib.hid hok
  clear hW h hc hx vg hok
  go_enter Tryd.func55, Tryd.ntmps55
  go_wp2_with fail
  rw [← HW.out]
  clear HW
  refine (IsSet_yes m (some ⟨b, o, none⟩) c x s W B HK.out (by omega) hn7 Hok.out hs).mono ?_
  rintro e w1 ⟨rfl, hb1⟩
  have z1 := hb1.size
  have f0 := up hb1 e0 a0
  have f1 := up hb1 e1 a0
  have HB1 : Hid (Below w.heap.size w w1) := HB.out.trans (hb1.mono (by omega))
  have HC1 : Hid (∀ v, v < m → w1.cell? ⟨b, o + v, none⟩ = some (.int .i64 (x v))) := fun v hv => (hb1.cell (p := ⟨b, o + v, none⟩) (by show b < _; omega)).trans (HC.out v hv)
  clear hb1 e0 e1 HC HB HK
  go_wp2
  go_loop [5, 6] (fun a i => ∃ k : Nat, k ≤ m ∧ i = .int .i64 k ∧ a = .int .i64 ((s ||| nbK (rw_ x) s k : Nat) : Int)) (fun _ i => m - (intOf i).toNat)
  case atStart => exact ⟨0, Nat.zero_le _, rfl, by simp [nbK]⟩
  case round =>
    obtain ⟨k, hk, rfl, rfl⟩ := hrel
    by_cases hlt : k < m
    · have q2 := HC1.out k hlt
      rw [HX.out k hlt] at q2
      have hr128 := HV.out.lt128 hlt
      have hnb := nb_lt (r := rw_ x) (s := s) HV.out.lt hs k
      have hlt1 : s ||| nbK (rw_ x) s k < 2 ^ m := Nat.or_lt_two_pow hs hnb
      have E := i64_or_nat (s ||| nbK (rw_ x) s k) (rw_ x k) (by omega) (by omega)
      have E1 := and_one_i64 (s : Int) k (by omega) (by omega)
      rw [Int.toNat_natCast] at E1
      have i1 : (k : Int) < (m : Int) := by omega
      cases ht : s.testBit k
      · rw [ht] at E1
        have Hs := Lib.hid (nbK_no (r := rw_ x) ht)
        clear ht E
        go_wp2
        go_round
        case rel => exact ⟨k + 1, by omega, by go_num, by rw [Hs.out]⟩
        case measure => simp [intOf] <;> omega
      · rw [ht] at E1
        have Hs := Lib.hid (nbK_yes (r := rw_ x) ht)
        rw [Nat.or_assoc, ← nbK_yes ht] at E
        clear ht
        go_wp2
        go_round
        case rel => exact ⟨k + 1, by omega, by go_num, rfl⟩
        case measure => simp [intOf] <;> omega
    · have hend : Hid (nbK (rw_ x) s k = nb (rw_ x) s) := by show _ = nbK _ _ 7; rw [nbK_end hs k (by omega), nbK_end hs 7 hn7]
      have i1 : (m : Int) ≤ (k : Int) := by omega
      go_wp2
      go_ret
      exact ⟨ret_int (by rw [hend.out]), HB1.out⟩

set_option maxHeartbeats 1000000 in
theorem l3Grow_s (m : Nat) (A : Option Addr) (c : Nat) (x : Nat → Int) (s set : Nat) (w : World) (B : Nat) (h : Rd w B A m c x) (hB : B ≤ w.heap.size) (hok : okB m m x = true) (hset : set < 2 ^ m) (hsub : Sub s set) (h0 : s ≠ 0) :
    Calls Tryd.prog 39 #[.agg #[.int .i64 m, .slice A m c], .int .i64 s, .int .i64 set] w fun e w' => e = .returned (.int .i64 (part (rw_ x) set s : Nat)) ∧ Below w.heap.size w w' := by
  obtain ⟨vg, hx⟩ := okB_vg hok
  have hn7 := vg.n7
  have h128 := two_pow_le hn7
  obtain ⟨W, hW⟩ : ∃ W : World, W = (w.alloc (Obj.cells #[Value.int IntKind.i64 m, Value.slice A m c] 27)) := ⟨_, rfl⟩
  have HB : Hid (Below w.heap.size w W) := by rw [hW]; exact ((Below.refl _ _).alloc (Nat.le_refl _) _)
  have a0 : w.heap.size < W.heap.size := by rw [hW]; simp
  have e0 : W.cell? ⟨w.heap.size, 0, none⟩ = some (.int .i64 m) := by rw [hW]; simp [go_sem]
  have e1 : W.cell? ⟨w.heap.size, 1, none⟩ = some (.slice A m c) := by rw [hW]; simp [go_sem]
  have HK := Lib.hid (h.keep (HB.out.mono hB) (Nat.le_refl _))
  have HW := Lib.hid hW
  have HV := Lib.hid vg
  have Hok := Lib.hid hok
  have Hsub := Lib.hid hsub
  have HE : Hid (gro (rw_ x) set s m = part (rw_ x) set s) := gro_part hn7 hset hsub h0
  clear hW h hx vg hok hsub h0
  go_enter Tryd.func39, Tryd.ntmps39
  go_wp2_with fail
  rw [← HW.out]
  clear HW
  go_loopw [7, 8] (fun f i wr => ∃ k : Nat, k ≤ m ∧ i = .int .i64 k ∧ f = .int .i64 (gro (rw_ x) set s k : Nat) ∧ Hid (Below W.heap.size W wr)) (fun _ i _ => m - (intOf i).toNat)
  case atStart => exact ⟨0, Nat.zero_le _, rfl, rfl, Below.refl _ _⟩
  case round =>
    obtain ⟨k, hk, rfl, rfl, hbr⟩ := hrel
    have zr := hbr.out.size
    have j0 := up hbr.out e0 a0
    have j1 := up hbr.out e1 a0
    by_cases hlt : k < m
    · have hgl := sub_lt (gro_sub (r := rw_ x) Hsub.out k) hset
      have hnb := nb_lt (r := rw_ x) (s := gro (rw_ x) set s k) HV.out.lt hgl 7
      have hstep : gro (rw_ x) set s (k + 1) = (gro (rw_ x) set s k ||| nb (rw_ x) (gro (rw_ x) set s k)) &&& set := rfl
      have HK2 : Hid (Rd wr B A m c x) := HK.out.keep (hbr.out.mono (by omega)) (Nat.le_refl _)
      have hor : gro (rw_ x) set s k ||| nb (rw_ x) (gro (rw_ x) set s k) < 2 ^ m := Nat.or_lt_two_pow hgl hnb
      obtain ⟨a, ha⟩ : ∃ a, a = gro (rw_ x) set s k := ⟨_, rfl⟩
      rw [← ha] at hgl hor hstep ⊢
      obtain ⟨q, hq⟩ : ∃ q, q = a ||| nb (rw_ x) a := ⟨_, rfl⟩
      have E := i64_and_nat q set (by omega) (by omega)
      rw [hq, ← hstep, ← hq] at E
      have Hq := Lib.hid hq
      have i1 : (k : Int) < (m : Int) := by omega
      have hBw : B ≤ wr.heap.size := by omega
      clear ha hnb hstep hq
      go_wp2_with fail
      refine (AroundSet_s m A c x a wr B HK2.out hBw Hok.out hgl).mono ?_
      rintro e w2 ⟨rfl, hb2⟩
      rw [← Hq.out]
      have HB2 : Hid (Below W.heap.size W w2) := hbr.out.trans (hb2.mono zr)
      clear hb2 hbr HK2 j0 j1
      go_wp2
      go_roundw
      case rel => exact ⟨k + 1, by omega, by go_num, rfl, HB2⟩
      case measure => simp [intOf] <;> omega
    · have hk' : k = m := by omega
      have HE2 : Hid (gro (rw_ x) set s k = part (rw_ x) set s) := by show _ = _; rw [hk']; exact HE.out
      have i1 : (m : Int) ≤ (k : Int) := by omega
      clear hk'
      go_wp2
      go_ret
      exact ⟨ret_int (by rw [HE2.out]), HB.out.trans (hbr.out.mono (by omega))⟩
end Go.Proofs.YtppkokgiojcgbaaDoor

/-
  Contract: a graph and one edge more, of the program.
-/
namespace Go.Proofs.YtppkokgiojcgbaaDoor
open Go.RowKit

theorem okB_ok' {s : Int} {m : Nat} {x : Nat → Int} (h : okB s m x = true) : OkG s m x := by
  refine Classical.byContradiction fun h2 => ?_
  rw [okB_no h2] at h; cases h
end Go.Proofs.YtppkokgiojcgbaaDoor

/-
  Plain: a graph and a list of edges more.
-/
namespace Go.Proofs.YtppkokgiojcgbaaDoor

end Go.Proofs.YtppkokgiojcgbaaDoor

/-
  Contract: a graph and one edge more, of the reference.
-/
namespace Go.Proofs.YtppkokgiojcgbaaDoor
open Go.RowKit

end Go.Proofs.YtppkokgiojcgbaaDoor

/-
  Contract: a graph and a list of edges more, of the program.
-/
namespace Go.Proofs.YtppkokgiojcgbaaDoor
open Go.RowKit

end Go.Proofs.YtppkokgiojcgbaaDoor

/-
  Contract: a graph and a list of edges more, of the reference.
-/
namespace Go.Proofs.YtppkokgiojcgbaaDoor
open Go.RowKit

end Go.Proofs.YtppkokgiojcgbaaDoor

/-
  Contracts: is a graph chordal? The program's answer.
-/
namespace Go.Proofs.YtppkokgiojcgbaaDoor
open Go.RowKit

end Go.Proofs.YtppkokgiojcgbaaDoor

/-
  Contracts: is a graph chordal? The reference's answer.
-/
namespace Go.Proofs.YtppkokgiojcgbaaDoor
open Go.RowKit

end Go.Proofs.YtppkokgiojcgbaaDoor

/-
  Contracts: is a vertex in a list? is a list a way? The program's tests.
-/
namespace Go.Proofs.YtppkokgiojcgbaaDoor
open Go.RowKit

end Go.Proofs.YtppkokgiojcgbaaDoor

/-
  Contracts: is a list a way? a list's copy; a list and one vertex more: the program's.
-/
namespace Go.Proofs.YtppkokgiojcgbaaDoor
open Go.RowKit

/-! ### a list and one vertex more -/
end Go.Proofs.YtppkokgiojcgbaaDoor

/-
  What the searches for ways answer, as plain functions.
-/
namespace Go.Proofs.YtppkokgiojcgbaaDoor
open Go.RowKit

end Go.Proofs.YtppkokgiojcgbaaDoor

/-
  Contracts: the reference's search for a way through all vertices.
-/
namespace Go.Proofs.YtppkokgiojcgbaaDoor
open Go.RowKit

/-- append of a slice that is only read, at a step of a region; of the old blocks only the slice's own may have turned. -/
theorem step_appendG (w : World) {ops : Array Oper} {o : Oper} {a : Act} {K : Act → World → Prop} {Q : Exit → Act → World → Prop} {E : Prop} {lo hi B n c m c2 : Nat} {A A2 : Option Addr} {x : Nat → Value} {y : Nat → Int} (hgd : o.guard = none) (s z : Operand)
    (ho : o.op = .call { callee := .builtin .append, args := #[s, z], argTypes := #[22, 22] })
    (hs : a.eval s = .slice A n c) (h : Own w lo hi 3 1 A n c x) (hz : a.eval z = .slice A2 m c2) (hr : Rd w B A2 m c2 y) (hlo : lo ≤ w.heap.size) (hn : n ≤ 1073741824) (hm : m ≤ 1073741824)
    (hK : ∀ A' c' w', Own w' lo w'.heap.size 3 1 A' (n + m) c' (thenI n x y) → Below lo w w' → w.grownBy w' (Value.slice A n c).ownBlock → K (a.put o.dst (.slice A' (n + m) c')) w') :
    if Region.wanted o (yielded ops a.tmps) = true then Oper.wp Tryd.prog o a w K Q else E := by
  have hw : Region.wanted o (yielded ops a.tmps) = true := by simp [Region.wanted, hgd]
  rw [if_pos hw]
  obtain ⟨A', c', w', hrun, h2, h3, _, h5⟩ := run_appendI w o.type h hr hlo hn hm
  unfold Oper.wp execOp
  simp only [ho, resolve, invoke, builtin, Sem.run_bind, Sem.run_pure, Result.andThen_ok, List.map_toArray, List.map_cons, List.map_nil, hs, hz, hrun]
  exact hK _ _ _ h2 h3 h5

end Go.Proofs.YtppkokgiojcgbaaDoor
