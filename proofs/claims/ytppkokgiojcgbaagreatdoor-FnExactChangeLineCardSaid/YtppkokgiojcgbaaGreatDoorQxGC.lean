/-
-/
import Derived.Test.YtppkokgiojcgbaaGreatDoorQxGB
import Derived.Test.YtppkokgiojcgbaaGreatDoorQxGA
import Derived.Deep.RegionLaw
import Derived.Deep.RegionHeld3
import Derived.ArgAppend
/-
 Contracts: is a graph chordal? The program's elimination.
-/
namespace Go.Proofs.YtppkokgiojcgbaaGreatDoor
open Go.RowKit
def fIdx (p : Nat → Bool) (n : Nat) : Int := match (List.range n).find? p with | some k => (k : Int) | none => -1
theorem fIdx_yes {p : Nat → Bool} {n k : Nat} (hk : k < n) (hp : p k = true) (hmin : ∀ j, j < k → p j = false) : fIdx p n = k := by
 have : (List.range n).find? p = some k := by
  rw [List.find?_range_eq_some]
  exact ⟨hp, by simp [hk], fun j hj => by simp [hmin j hj]⟩
 unfold fIdx; rw [this]
theorem fIdx_no {p : Nat → Bool} {n : Nat} (h : ∀ j, j < n → p j = false) : fIdx p n = -1 := by
 have : (List.range n).find? p = none := by
  rw [List.find?_eq_none]
  intro j hj
  simp [h j (List.mem_range.1 hj)]
 unfold fIdx; rw [this]
set_option maxHeartbeats 1000000 in
theorem IndexFunc_E (A : Option Addr) (c : Nat) (l : List Nat) (p : Nat → Bool) (bg bl : Nat) (w : World) (B : Nat) (h : Rd w B A l.length c (fun j => ((l.getD j 0 : Nat) : Int))) (hB : B ≤ w.heap.size) (hl : l.length ≤ 7)
 (HF : Hid (∀ (j : Nat) (hj : j < l.length) (w' : World), Below w.heap.size w w' → Calls Tryz.prog 222 #[.int .i64 (l[j] : Int), .pointer (some ⟨bg, 0, none⟩), .pointer (some ⟨bl, 0, none⟩)] w' fun e w'' => e = .returned (.bool (p j)) ∧ Below w'.heap.size w' w'')) :
 Calls Tryz.prog 221 #[.slice A l.length c, .func (.func 222) #[] #[.pointer (some ⟨bg, 0, none⟩), .pointer (some ⟨bl, 0, none⟩)]] w fun e w' => e = .returned (.int .i64 (fIdx p l.length)) ∧ Below w.heap.size w w' := by
 have HR := Lib.hid h
 clear h
 go_enter Tryz.func221, Tryz.ntmps221
 go_wp2
 go_loopw [8] (fun i wr => ∃ k : Nat, k ≤ l.length ∧ i = .int .i64 k ∧ Hid (∀ j, j < k → p j = false) ∧ Hid (Below w.heap.size w wr)) (fun i _ => l.length - (intOf i).toNat)
 case atStart => exact ⟨0, Nat.zero_le _, rfl, (fun j hj => absurd hj (by omega)), Below.refl _ _⟩
 case round =>
  obtain ⟨k, hk, rfl, hall, hbr⟩ := hrel
  have zr := hbr.out.size
  by_cases hlt : k < l.length
  ·obtain ⟨b, o, rfl, hb, hc⟩ := HR.out.pos (by omega)
   have q0 : wr.cell? ⟨b, o + k, none⟩ = some (.int .i64 (l[k] : Int)) := ((hbr.out.cell (p := ⟨b, o + k, none⟩) (by show b < _; omega)).trans (hc k hlt)).trans (by simp [List.getD, hlt])
   have K1 := Lib.hid (HF.out k hlt wr hbr.out)
   obtain ⟨v, hv⟩ : ∃ v : Nat, v = l[k] := ⟨_, rfl⟩
   rw [← hv] at q0 K1
   have i1 : (k : Int) < (l.length : Int) := by omega
   clear hc hv
   cases hp : p k
   ·rw [hp] at K1
    have Hp := Lib.hid hp
    clear hp
    go_wp2_with fail
    refine K1.out.mono ?_
    rintro e w3 ⟨rfl, hb3⟩
    have HB3 : Hid (Below w.heap.size w w3) := hbr.out.trans (hb3.mono zr)
    clear hb3 hbr q0
    go_wp2
    go_roundw
    case rel =>
     refine ⟨k + 1, by omega, by go_num, fun j hj => ?_, HB3⟩
     by_cases hjk : j < k
     ·exact hall.out j hjk
     ·obtain rfl : j = k := by omega
      exact Hp.out
    case measure => simp [intOf]; omega
   ·rw [hp] at K1
    have Hi : Hid (fIdx p l.length = k) := fIdx_yes hlt hp hall.out
    clear hp
    go_wp2_with fail
    refine K1.out.mono ?_
    rintro e w3 ⟨rfl, hb3⟩
    have HB3 : Hid (Below w.heap.size w w3) := hbr.out.trans (hb3.mono zr)
    clear hb3 hbr q0
    go_wp2
    go_ret
    exact ⟨ret_int Hi.out.symm, HB3.out⟩
  ·have Hi : Hid (fIdx p l.length = -1) := fIdx_no fun j hj => hall.out j (by omega)
   have i1 : (l.length : Int) ≤ (k : Int) := by omega
   go_wp2
   go_ret
   exact ⟨ret_int Hi.out.symm, hbr.out⟩
theorem all_any (m : Nat) (A : Option Addr) (c : Nat) (w : World) (hm : m ≤ 7) :
 Calls Tryz.prog 106 #[.agg #[.int .i64 m, .slice A m c]] w fun e w' => e = .returned (.int .i64 ((2 ^ m - 1 : Nat) : Int)) ∧ Below w.heap.size w w' := by
 have p1 := pow_shl m hm
 have p2 := two_pow_int m hm
 have H : Hid (((2 ^ m - 1 : Nat) : Int) = 2 ^ m - 1) := by show _ = _; rw [Int.ofNat_sub (Nat.two_pow_pos m)]; simp
 have HB : Hid (Below w.heap.size w (w.alloc (Obj.cells #[Value.int IntKind.i64 m, Value.slice A m c] 29))) := (Below.refl _ _).alloc (Nat.le_refl _) _
 go_enter Tryz.func106, Tryz.ntmps106
 go_wp2
 go_ret
 exact ⟨ret_int H.out.symm, HB.out⟩
end Go.Proofs.YtppkokgiojcgbaaGreatDoor
/-
 Contracts: neighbours, parts, numbers of members: the program's.
-/
namespace Go.Proofs.YtppkokgiojcgbaaGreatDoor
open Go.RowKit
theorem CountSet_i (s : Nat) (hs : s < 128) (w : World) :
 Calls Tryz.prog 115 #[.int .i64 s] w fun e w' => e = .returned (.int .i64 ((listN s).length : Int)) ∧ Below w.heap.size w w' := by
 go_enter Tryz.func115, Tryz.ntmps115
 go_wp2_with fail
 refine (ListOf_i s hs w).mono ?_
 rintro e w1 ⟨A', c', rfl, hO, hb1⟩
 have HB := Lib.hid hb1
 clear hO hb1
 go_wp2
 go_ret
 exact ⟨rfl, HB.out⟩
def nbL (r : Nat → Nat) (s k : Nat) : Nat := ((listN s).take k).foldl (fun a v => a ||| r v) 0
theorem nbL_succ {r : Nat → Nat} {s k : Nat} (h : k < (listN s).length) : nbL r s (k + 1) = nbL r s k ||| r (listN s)[k] := by
 unfold nbL
 rw [List.take_succ_eq_append_getElem h, List.foldl_append]; rfl
theorem nbL_end {r : Nat → Nat} {s k : Nat} (h : (listN s).length ≤ k) : nbL r s k = nb r s := by
 unfold nbL
 rw [List.take_of_length_le h]
 exact nb_list 7
theorem nbL_lt {r : Nat → Nat} {s n k : Nat} (hr : ∀ v, v < n → r v < 2 ^ n) (hs : s < 2 ^ n) : nbL r s k < 2 ^ n :=
 fold_lt _ _ (Nat.two_pow_pos n) (fun v hv => hr v (bit_lt hs (mem_listN.1 (List.mem_of_mem_take hv)).2))
set_option maxHeartbeats 1000000 in
theorem neighbors_i (m : Nat) (A : Option Addr) (c : Nat) (x : Nat → Int) (s : Nat) (w : World) (B : Nat) (h : Rd w B A m c x) (hB : B ≤ w.heap.size) (hok : okB m m x = true) (hs : s < 2 ^ m) :
 Calls Tryz.prog 272 #[.agg #[.int .i64 m, .slice A m c], .int .i64 s] w fun e w' => e = .returned (.int .i64 (nb (rw_ x) s : Nat)) ∧ Below w.heap.size w w' := by
 obtain ⟨vg, hx⟩ := okB_vg hok
 have hn1 := vg.n1
 have hn7 := vg.n7
 have h128 := two_pow_le hn7
 obtain ⟨W, hW⟩ : ∃ W : World, W = (w.alloc (Obj.cells #[Value.int IntKind.i64 m, Value.slice A m c] 29)) := ⟨_, rfl⟩
 have HB : Hid (Below w.heap.size w W) := by rw [hW]; exact ((Below.refl _ _).alloc (Nat.le_refl _) _)
 have a0 : w.heap.size < W.heap.size := by rw [hW]; simp
 have e1 : W.cell? ⟨w.heap.size, 1, none⟩ = some (.slice A m c) := by rw [hW]; simp [go_sem]
 obtain ⟨b, o, rfl, hb, hc⟩ := (h.keep (HB.out.mono hB) (Nat.le_refl _)).pos (by omega)
 have HC := Lib.hid hc
 have HW := Lib.hid hW
 have HX := Lib.hid hx
 have HV := Lib.hid vg
 clear hW h hc hx vg hok
 go_enter Tryz.func272, Tryz.ntmps272
 go_wp2_with fail
 rw [← HW.out]
 clear HW
 refine (ListOf_i s (by omega) W).mono ?_
 rintro e w1 ⟨A', c', rfl, hO, hb1⟩
 have z1 := hb1.size
 have f1 := up hb1 e1 a0
 have HO := Lib.hid hO
 have HB1 : Hid (Below w.heap.size w w1) := HB.out.trans (hb1.mono (by omega))
 have HC1 : Hid (∀ v, v < m → w1.cell? ⟨b, o + v, none⟩ = some (.int .i64 (x v))) := fun v hv => (hb1.cell (p := ⟨b, o + v, none⟩) (by show b < _; omega)).trans (HC.out v hv)
 have hl7 := listN_len s
 clear hO hb1 e1 HC HB
 go_wp2
 go_loop [5, 11] (fun a i => ∃ k : Nat, k ≤ (listN s).length ∧ i = .int .i64 k ∧ a = .int .i64 (nbL (rw_ x) s k : Nat)) (fun _ i => (listN s).length - (intOf i).toNat)
 case atStart => exact ⟨0, Nat.zero_le _, rfl, rfl⟩
 case round =>
  obtain ⟨k, hk, rfl, rfl⟩ := hrel
  by_cases hlt : k < (listN s).length
  ·obtain ⟨hv7, hvb⟩ := listN_at hlt
   have hvm := bit_lt hs hvb
   have hstep := nbL_succ (r := rw_ x) hlt
   have hlt1 := nbL_lt (r := rw_ x) (k := k) HV.out.lt hs
   obtain ⟨v, hv⟩ : ∃ v, v = (listN s)[k] := ⟨_, rfl⟩
   rw [← hv] at hv7 hvb hvm hstep
   obtain ⟨g, hA, hg1, hg2, _, hcell, _⟩ := HO.out.at_ (by omega)
   have q0 : w1.cell? ⟨g, k, none⟩ = some (.int .i64 v) := (hcell k (by omega)).trans (by rw [ni_at hlt, ← hv])
   have q2 := HC1.out v hvm
   rw [HX.out v hvm] at q2
   have hr128 := HV.out.lt128 hvm
   have E := i64_or_nat (nbL (rw_ x) s k) (rw_ x v) (by omega) (by omega)
   rw [← hstep] at E
   have i1 : (k : Int) < ((listN s).length : Int) := by omega
   have i2 : (v : Int) < (m : Int) := by omega
   subst hA
   clear hv hcell hvb hstep
   go_wp2
   go_round
   case rel => exact ⟨k + 1, by omega, by go_num, rfl⟩
   case measure => simp [intOf]; omega
  ·have hend : Hid (nbL (rw_ x) s k = nb (rw_ x) s) := nbL_end (by omega)
   have i1 : ((listN s).length : Int) ≤ (k : Int) := by omega
   go_wp2
   go_ret
   exact ⟨ret_int (by rw [hend.out]), HB1.out⟩
set_option maxHeartbeats 1000000 in
theorem partOf_i (m : Nat) (A : Option Addr) (c : Nat) (x : Nat → Int) (set s : Nat) (w : World) (B : Nat) (h : Rd w B A m c x) (hB : B ≤ w.heap.size) (hok : okB m m x = true) (hset : set < 2 ^ m) (hsub : Sub s set) (h0 : s ≠ 0) :
 Calls Tryz.prog 271 #[.agg #[.int .i64 m, .slice A m c], .int .i64 set, .int .i64 s] w fun e w' => e = .returned (.int .i64 (part (rw_ x) set s : Nat)) ∧ Below w.heap.size w w' := by
 obtain ⟨vg, hx⟩ := okB_vg hok
 have hn7 := vg.n7
 have h128 := two_pow_le hn7
 obtain ⟨W, hW⟩ : ∃ W : World, W = (w.alloc (Obj.cells #[Value.int IntKind.i64 m, Value.slice A m c] 29)) := ⟨_, rfl⟩
 have HB : Hid (Below w.heap.size w W) := by rw [hW]; exact ((Below.refl _ _).alloc (Nat.le_refl _) _)
 have a0 : w.heap.size < W.heap.size := by rw [hW]; simp
 have e0 : W.cell? ⟨w.heap.size, 0, none⟩ = some (.int .i64 m) := by rw [hW]; simp [go_sem]
 have e1 : W.cell? ⟨w.heap.size, 1, none⟩ = some (.slice A m c) := by rw [hW]; simp [go_sem]
 have HK := Lib.hid (h.keep (HB.out.mono hB) (Nat.le_refl _))
 have HW := Lib.hid hW
 have HV := Lib.hid vg
 have Hok := Lib.hid hok
 have Hsub := Lib.hid hsub
 have H0 := Lib.hid h0
 clear hW h hx vg hok hsub h0
 go_enter Tryz.func271, Tryz.ntmps271
 go_wp2_with fail
 rw [← HW.out]
 clear HW
 go_loopw [2] (fun f wr => ∃ k : Nat, f = .int .i64 (gro (rw_ x) set s k : Nat) ∧ Hid (∀ j, j < k → gro (rw_ x) set s (j + 1) ≠ gro (rw_ x) set s j) ∧ Hid (Below W.heap.size W wr)) (fun f _ => 128 - (intOf f).toNat)
 case atStart => exact ⟨0, rfl, (fun j hj => absurd hj (by omega)), Below.refl _ _⟩
 case round =>
  obtain ⟨k, rfl, hall, hbr⟩ := hrel
  have zr := hbr.out.size
  have j0 := up hbr.out e0 a0
  have j1 := up hbr.out e1 a0
  have hgs := gro_sub (r := rw_ x) Hsub.out k
  have hlt := sub_lt hgs hset
  have hnb := nb_lt (r := rw_ x) (s := gro (rw_ x) set s k) HV.out.lt hlt 7
  have hgg := gro_grow (r := rw_ x) Hsub.out k
  have hle := sub_num hgg
  have hlt2 := sub_lt (gro_sub (r := rw_ x) Hsub.out (k + 1)) hset
  have hstep : gro (rw_ x) set s (k + 1) = (gro (rw_ x) set s k ||| nb (rw_ x) (gro (rw_ x) set s k)) &&& set := rfl
  have HK2 : Hid (Rd wr B A m c x) := HK.out.keep (hbr.out.mono (by omega)) (Nat.le_refl _)
  have hE : Hid (gro (rw_ x) set s (k + 1) = gro (rw_ x) set s k → gro (rw_ x) set s k = part (rw_ x) set s) := fun e => fix_part (r := rw_ x) hn7 hset Hsub.out H0.out hall.out e
  obtain ⟨a, ha⟩ : ∃ a, a = gro (rw_ x) set s k := ⟨_, rfl⟩
  obtain ⟨b, hb⟩ : ∃ b, b = gro (rw_ x) set s (k + 1) := ⟨_, rfl⟩
  rw [← ha] at hstep hlt hnb hle ⊢
  rw [← ha, ← hb] at hE
  rw [← hb] at hstep hle hlt2
  obtain ⟨n, hnn⟩ : ∃ n, n = nb (rw_ x) a := ⟨_, rfl⟩
  have hn2 : n < 2 ^ m := by rw [hnn]; exact hnb
  have E1 := i64_or_nat a n (by omega) (by omega)
  have horlt : a ||| n < 2 ^ m := Nat.or_lt_two_pow hlt hn2
  have E2 := i64_and_nat (a ||| n) set (by omega) (by omega)
  rw [hnn, ← hstep] at E2
  rw [← hnn] at E2
  have Ha := Lib.hid ha
  have Hb := Lib.hid hb
  have Hnn := Lib.hid hnn
  clear ha hb hgs hgg hstep hnb hnn
  go_wp2_with fail
  refine (neighbors_i m A c x a wr B HK2.out (by omega) Hok.out hlt).mono ?_
  rintro e w2 ⟨rfl, hb2⟩
  rw [← Hnn.out]
  have HB2 : Hid (Below W.heap.size W w2) := hbr.out.trans (hb2.mono zr)
  clear hb2 hbr HK2 j0 j1
  by_cases hab : b = a
  ·have hp : Hid (a = part (rw_ x) set s) := hE.out hab
   subst hab
   go_wp2
   go_ret
   exact ⟨ret_int (by rw [← hp.out]), HB.out.trans (HB2.out.mono (by omega))⟩
  ·have hne : ((b : Int) == (a : Int)) = false := by simp; omega
   have hne2 : (b = a) = False := by simp [hab]
   have hlt3 : a < b := by omega
   have Hab := Lib.hid hab
   clear hab
   go_wp2
   go_roundw
   case rel =>
    refine ⟨k + 1, by rw [← Hb.out], fun j hj => ?_, HB2⟩
    by_cases hjk : j < k
    ·exact hall.out j hjk
    ·obtain rfl : j = k := by omega
     rw [← Hb.out, ← Ha.out]; exact Hab.out
   case measure => simp [intOf]; omega
end Go.Proofs.YtppkokgiojcgbaaGreatDoor
/-
 Contracts: a set without which more parts are left than it has members: the program's search.
-/
namespace Go.Proofs.YtppkokgiojcgbaaGreatDoor
open Go.RowKit
theorem low_bits : ∀ s : Nat, s < 128 → s ≠ 0 → bits .and .i64 (s : Int) (-(s : Int)) = ((low s : Nat) : Int) := by decide +kernel
end Go.Proofs.YtppkokgiojcgbaaGreatDoor
/-
 Contracts: a set without which more parts are left than it has members: the reference's search.
-/
namespace Go.Proofs.YtppkokgiojcgbaaGreatDoor
open Go.RowKit
theorem CountSet_s (s : Nat) (hs : s < 128) (w : World) :
 Calls Tryz.prog 95 #[.int .i64 s] w fun e w' => e = .returned (.int .i64 ((listN s).length : Int)) ∧ Below w.heap.size w w' := by
 go_enter Tryz.func95, Tryz.ntmps95
 go_wp2_with fail
 refine (ListOf_s s hs w).mono ?_
 rintro e w1 ⟨A', c', rfl, hO, hb1⟩
 have HB := Lib.hid hb1
 clear hO hb1
 go_wp2
 go_ret
 exact ⟨rfl, HB.out⟩
theorem nbK_end {r : Nat → Nat} {s m : Nat} (hs : s < 2 ^ m) : ∀ k, m ≤ k → nbK r s k = nbK r s m := by
 intro k hk
 induction k with
 | zero => obtain rfl : m = 0 := by omega
           rfl
 | succ k ih =>
   by_cases h : m = k + 1
   ·rw [h]
   ·rw [nbK_no, ih (by omega)]
    cases hb : s.testBit k
    ·rfl
    ·have := bit_lt hs hb; omega
set_option maxHeartbeats 1000000 in
theorem AroundSet_s (m : Nat) (A : Option Addr) (c : Nat) (x : Nat → Int) (s : Nat) (w : World) (B : Nat) (h : Rd w B A m c x) (hB : B ≤ w.heap.size) (hok : okB m m x = true) (hs : s < 2 ^ m) :
 Calls Tryz.prog 247 #[.agg #[.int .i64 m, .slice A m c], .int .i64 s] w fun e w' => e = .returned (.int .i64 ((s ||| nb (rw_ x) s : Nat) : Int)) ∧ Below w.heap.size w w' := by
 obtain ⟨vg, hx⟩ := okB_vg hok
 have hn1 := vg.n1
 have hn7 := vg.n7
 have h128 := two_pow_le hn7
 obtain ⟨W, hW⟩ : ∃ W : World, W = (w.alloc (Obj.cells #[Value.int IntKind.i64 m, Value.slice A m c] 29)) := ⟨_, rfl⟩
 have HB : Hid (Below w.heap.size w W) := by rw [hW]; exact ((Below.refl _ _).alloc (Nat.le_refl _) _)
 have a0 : w.heap.size < W.heap.size := by rw [hW]; simp
 have e0 : W.cell? ⟨w.heap.size, 0, none⟩ = some (.int .i64 m) := by rw [hW]; simp [go_sem]
 have e1 : W.cell? ⟨w.heap.size, 1, none⟩ = some (.slice A m c) := by rw [hW]; simp [go_sem]
 have HK := Lib.hid (h.keep (HB.out.mono hB) (Nat.le_refl _))
 obtain ⟨b, o, rfl, hb, hc⟩ := HK.out.pos (by omega)
 have HC := Lib.hid hc
 have HW := Lib.hid hW
 have HX := Lib.hid hx
 have HV := Lib.hid vg
 have Hok := Lib.hid hok
 clear hW h hc hx vg hok
 go_enter Tryz.func247, Tryz.ntmps247
 go_wp2_with fail
 rw [← HW.out]
 clear HW
 refine (IsSet_yes m (some ⟨b, o, none⟩) c x s W B HK.out (by omega) hn7 Hok.out hs).mono ?_
 rintro e w1 ⟨rfl, hb1⟩
 have z1 := hb1.size
 have f0 := up hb1 e0 a0
 have f1 := up hb1 e1 a0
 have HB1 : Hid (Below w.heap.size w w1) := HB.out.trans (hb1.mono (by omega))
 have HC1 : Hid (∀ v, v < m → w1.cell? ⟨b, o + v, none⟩ = some (.int .i64 (x v))) := fun v hv => (hb1.cell (p := ⟨b, o + v, none⟩) (by show b < _; omega)).trans (HC.out v hv)
 clear hb1 e0 e1 HC HB HK
 go_wp2
 go_loop [5, 6] (fun a i => ∃ k : Nat, k ≤ m ∧ i = .int .i64 k ∧ a = .int .i64 ((s ||| nbK (rw_ x) s k : Nat) : Int)) (fun _ i => m - (intOf i).toNat)
 case atStart => exact ⟨0, Nat.zero_le _, rfl, by simp [nbK]⟩
 case round =>
  obtain ⟨k, hk, rfl, rfl⟩ := hrel
  by_cases hlt : k < m
  ·have q2 := HC1.out k hlt
   rw [HX.out k hlt] at q2
   have hr128 := HV.out.lt128 hlt
   have hnb := nb_lt (r := rw_ x) (s := s) HV.out.lt hs k
   have hlt1 : s ||| nbK (rw_ x) s k < 2 ^ m := Nat.or_lt_two_pow hs hnb
   have E := i64_or_nat (s ||| nbK (rw_ x) s k) (rw_ x k) (by omega) (by omega)
   have E1 := and_one_i64 (s : Int) k (by omega) (by omega)
   rw [Int.toNat_natCast] at E1
   have i1 : (k : Int) < (m : Int) := by omega
   cases ht : s.testBit k
   ·rw [ht] at E1
    have Hs := Lib.hid (nbK_no (r := rw_ x) ht)
    clear ht E
    go_wp2
    go_round
    case rel => exact ⟨k + 1, by omega, by go_num, by rw [Hs.out]⟩
    case measure => simp [intOf] <;> omega
   ·rw [ht] at E1
    have Hs := Lib.hid (nbK_yes (r := rw_ x) ht)
    rw [Nat.or_assoc, ← nbK_yes ht] at E
    clear ht
    go_wp2
    go_round
    case rel => exact ⟨k + 1, by omega, by go_num, rfl⟩
    case measure => simp [intOf] <;> omega
  ·have hend : Hid (nbK (rw_ x) s k = nb (rw_ x) s) := by show _ = nbK _ _ 7; rw [nbK_end hs k (by omega), nbK_end hs 7 hn7]
   have i1 : (m : Int) ≤ (k : Int) := by omega
   go_wp2
   go_ret
   exact ⟨ret_int (by rw [hend.out]), HB1.out⟩
set_option maxHeartbeats 1000000 in
theorem l3Grow_s (m : Nat) (A : Option Addr) (c : Nat) (x : Nat → Int) (s set : Nat) (w : World) (B : Nat) (h : Rd w B A m c x) (hB : B ≤ w.heap.size) (hok : okB m m x = true) (hset : set < 2 ^ m) (hsub : Sub s set) (h0 : s ≠ 0) :
 Calls Tryz.prog 197 #[.agg #[.int .i64 m, .slice A m c], .int .i64 s, .int .i64 set] w fun e w' => e = .returned (.int .i64 (part (rw_ x) set s : Nat)) ∧ Below w.heap.size w w' := by
 obtain ⟨vg, hx⟩ := okB_vg hok
 have hn7 := vg.n7
 have h128 := two_pow_le hn7
 obtain ⟨W, hW⟩ : ∃ W : World, W = (w.alloc (Obj.cells #[Value.int IntKind.i64 m, Value.slice A m c] 29)) := ⟨_, rfl⟩
 have HB : Hid (Below w.heap.size w W) := by rw [hW]; exact ((Below.refl _ _).alloc (Nat.le_refl _) _)
 have a0 : w.heap.size < W.heap.size := by rw [hW]; simp
 have e0 : W.cell? ⟨w.heap.size, 0, none⟩ = some (.int .i64 m) := by rw [hW]; simp [go_sem]
 have e1 : W.cell? ⟨w.heap.size, 1, none⟩ = some (.slice A m c) := by rw [hW]; simp [go_sem]
 have HK := Lib.hid (h.keep (HB.out.mono hB) (Nat.le_refl _))
 have HW := Lib.hid hW
 have HV := Lib.hid vg
 have Hok := Lib.hid hok
 have Hsub := Lib.hid hsub
 have HE : Hid (gro (rw_ x) set s m = part (rw_ x) set s) := gro_part hn7 hset hsub h0
 clear hW h hx vg hok hsub h0
 go_enter Tryz.func197, Tryz.ntmps197
 go_wp2_with fail
 rw [← HW.out]
 clear HW
 go_loopw [7, 8] (fun f i wr => ∃ k : Nat, k ≤ m ∧ i = .int .i64 k ∧ f = .int .i64 (gro (rw_ x) set s k : Nat) ∧ Hid (Below W.heap.size W wr)) (fun _ i _ => m - (intOf i).toNat)
 case atStart => exact ⟨0, Nat.zero_le _, rfl, rfl, Below.refl _ _⟩
 case round =>
  obtain ⟨k, hk, rfl, rfl, hbr⟩ := hrel
  have zr := hbr.out.size
  have j0 := up hbr.out e0 a0
  have j1 := up hbr.out e1 a0
  by_cases hlt : k < m
  ·have hgl := sub_lt (gro_sub (r := rw_ x) Hsub.out k) hset
   have hnb := nb_lt (r := rw_ x) (s := gro (rw_ x) set s k) HV.out.lt hgl 7
   have hstep : gro (rw_ x) set s (k + 1) = (gro (rw_ x) set s k ||| nb (rw_ x) (gro (rw_ x) set s k)) &&& set := rfl
   have HK2 : Hid (Rd wr B A m c x) := HK.out.keep (hbr.out.mono (by omega)) (Nat.le_refl _)
   have hor : gro (rw_ x) set s k ||| nb (rw_ x) (gro (rw_ x) set s k) < 2 ^ m := Nat.or_lt_two_pow hgl hnb
   obtain ⟨a, ha⟩ : ∃ a, a = gro (rw_ x) set s k := ⟨_, rfl⟩
   rw [← ha] at hgl hor hstep ⊢
   obtain ⟨q, hq⟩ : ∃ q, q = a ||| nb (rw_ x) a := ⟨_, rfl⟩
   have E := i64_and_nat q set (by omega) (by omega)
   rw [hq, ← hstep, ← hq] at E
   have Hq := Lib.hid hq
   have i1 : (k : Int) < (m : Int) := by omega
   have hBw : B ≤ wr.heap.size := by omega
   clear ha hnb hstep hq
   go_wp2_with fail
   refine (AroundSet_s m A c x a wr B HK2.out hBw Hok.out hgl).mono ?_
   rintro e w2 ⟨rfl, hb2⟩
   rw [← Hq.out]
   have HB2 : Hid (Below W.heap.size W w2) := hbr.out.trans (hb2.mono zr)
   clear hb2 hbr HK2 j0 j1
   go_wp2
   go_roundw
   case rel => exact ⟨k + 1, by omega, by go_num, rfl, HB2⟩
   case measure => simp [intOf] <;> omega
  ·have hk' : k = m := by omega
   have HE2 : Hid (gro (rw_ x) set s k = part (rw_ x) set s) := by show _ = _; rw [hk']; exact HE.out
   have i1 : (m : Int) ≤ (k : Int) := by omega
   clear hk'
   go_wp2
   go_ret
   exact ⟨ret_int (by rw [HE2.out]), HB.out.trans (hbr.out.mono (by omega))⟩
end Go.Proofs.YtppkokgiojcgbaaGreatDoor
/-
 Contract: a graph and one edge more, of the program.
-/
namespace Go.Proofs.YtppkokgiojcgbaaGreatDoor
open Go.RowKit
noncomputable def aeB (sz : Int) (m : Nat) (x : Nat → Int) (v u : Int) : Bool := okB sz m x && decide (0 ≤ v ∧ v < sz ∧ 0 ≤ u ∧ u < sz ∧ v ≠ u) && !((x v.toNat).toNat.testBit u.toNat)
noncomputable def aeX (sz : Int) (m : Nat) (x : Nat → Int) (v u : Int) : Nat → Int := if aeB sz m x v u = true then fun j => ((addN (fun i => (x i).toNat) v.toNat u.toNat j : Nat) : Int) else x
theorem okB_ok' {s : Int} {m : Nat} {x : Nat → Int} (h : okB s m x = true) : OkG s m x := by
 refine Classical.byContradiction fun h2 => ?_
 rw [okB_no h2] at h; cases h
theorem aeX_no {sz : Int} {m : Nat} {x : Nat → Int} {v u : Int} (h : aeB sz m x v u = false) : aeX sz m x v u = x := by unfold aeX; rw [h]; rfl
theorem aeB_parts {sz : Int} {m : Nat} {x : Nat → Int} {v u : Int} (h : aeB sz m x v u = true) : okB sz m x = true ∧ (0 ≤ v ∧ v < sz ∧ 0 ≤ u ∧ u < sz ∧ v ≠ u) ∧ (x v.toNat).toNat.testBit u.toNat = false := by
 unfold aeB at h
 simp only [Bool.and_eq_true, decide_eq_true_eq, Bool.not_eq_true'] at h
 exact ⟨h.1.1, h.1.2, h.2⟩
theorem frC {lo hi b o : Nat} {W w1 : World} {v : Value} (hf : Fr lo hi W w1) (e : W.cell? ⟨b, o, none⟩ = some v) (h : b < W.heap.size) (h2 : b < lo ∨ hi ≤ b) : w1.cell? ⟨b, o, none⟩ = some v := (hf.cell (p := ⟨b, o, none⟩) h h2).trans e
theorem frZ {lo hi b o : Nat} {W w1 : World} {v : Bool} (hf : Fr lo hi W w1) (e : W.frozen? ⟨b, o, none⟩ = v) (h : b < W.heap.size) (h2 : b < lo ∨ hi ≤ b) : w1.frozen? ⟨b, o, none⟩ = v := (World.frozen?_of_block (hf.block b h h2)).trans e
set_option maxHeartbeats 1000000 in
theorem isVertex_ok (A A2 : Option Addr) (m c c2 : Nat) (x y : Nat → Int) (w : World) (B : Nat) (h : Rd w B A m c x) (h2 : Rd w B A2 2 c2 y) (hB : B ≤ w.heap.size) (hm : m ≤ 1048576) (hok : okB m m x = true) (v u : Int) (hv : y 0 = v) (hu : y 1 = u) :
 Calls Tryz.prog 171 #[.agg #[.int .i64 m, .slice A m c], .slice A2 2 c2] w fun e w' => e = .returned (.bool (decide (0 ≤ v ∧ v < m ∧ 0 ≤ u ∧ u < m))) ∧ Below w.heap.size w w' := by
 subst hv hu
 obtain ⟨W, hW⟩ : ∃ W : World, W = (w.alloc (Obj.cells #[Value.int IntKind.i64 m, Value.slice A m c] 29)) := ⟨_, rfl⟩
 have HB : Hid (Below w.heap.size w W) := by rw [hW]; exact ((Below.refl _ _).alloc (Nat.le_refl _) _)
 have e0 : W.cell? ⟨w.heap.size, 0, none⟩ = some (.int .i64 m) := by rw [hW]; simp [go_sem]
 have e1 : W.cell? ⟨w.heap.size, 1, none⟩ = some (.slice A m c) := by rw [hW]; simp [go_sem]
 have k1 := Lib.hid (h.keep (HB.out.mono hB) (Nat.le_refl _))
 obtain ⟨b, o, rfl, hb, hc⟩ := h2.pos (by omega)
 have q0 := (HB.out.cell (p := ⟨b, o + 0, none⟩) (by show b < _; omega)).trans (hc 0 (by omega))
 have q1 := (HB.out.cell (p := ⟨b, o + 1, none⟩) (by show b < _; omega)).trans (hc 1 (by omega))
 have HZ : Hid (w.heap.size < W.heap.size) := by rw [hW]; simp [Hid]
 have HW := Lib.hid hW
 have Hok := Lib.hid hok
 obtain ⟨r, _, vg, _⟩ := okB_ok' hok
 have := vg.n1
 have := vg.n7
 clear hW hc h h2 hok
 go_enter Tryz.func171, Tryz.ntmps171
 go_wp2_with fail
 go_loop [9] (fun i => ∃ k : Nat, k ≤ 2 ∧ i = .int .i64 k ∧ Hid (∀ j, j < k → 0 ≤ y j ∧ y j < m)) (fun i => 2 - (intOf i).toNat)
 case atStart => exact ⟨0, Nat.zero_le _, rfl, fun v hv => absurd hv (by omega)⟩
 case round =>
  obtain ⟨k, hk, rfl, hall⟩ := hrel
  rw [← HW.out]
  by_cases hlt : k < 2
  ·have q2 : W.cell? ⟨b, o + k, none⟩ = some (.int .i64 (y k)) := by
    have : k = 0 ∨ k = 1 := by omega
    rcases this with rfl | rfl
    ·exact q0
    ·exact q1
   clear q0 q1
   by_cases hr : 0 ≤ y k ∧ y k < m
   ·obtain ⟨hr1, hr2⟩ := hr
    go_wp2_with (first | (go_at_call 85; refine (within_yes _ _ _ _ hr1 (by omega)).mono ?_; rintro e w' ⟨rfl, rfl⟩))
    go_round
    case rel =>
     refine ⟨k + 1, by omega, by go_num, fun v hv => ?_⟩
     by_cases hvk : v < k
     ·exact hall.out v hvk
     ·obtain rfl : v = k := by omega
      exact ⟨hr1, hr2⟩
    case measure => simp [intOf]; omega
   ·have hno : Hid (decide (0 ≤ y 0 ∧ y 0 < m ∧ 0 ≤ y 1 ∧ y 1 < m) = false) := by
     show _ = _
     rw [decide_eq_false_iff_not]
     rintro ⟨a1, a2, a3, a4⟩
     have : k = 0 ∨ k = 1 := by omega
     rcases this with rfl | rfl
     ·exact hr ⟨a1, a2⟩
     ·exact hr ⟨a3, a4⟩
    have hr' : y k < 0 ∨ (m : Int) - 1 < y k := by omega
    have Hr := Lib.hid hr'
    clear hr hr'
    go_wp2_with (first | (go_at_call 85; refine (within_no _ _ _ _ Hr.out).mono ?_; rintro e w' ⟨rfl, rfl⟩))
    go_ret
    exact ⟨ret_bool hno.out.symm, HB.out⟩
  ·obtain rfl : k = 2 := by omega
   have hyes : Hid (decide (0 ≤ y 0 ∧ y 0 < m ∧ 0 ≤ y 1 ∧ y 1 < m) = true) := by
    show _ = _
    rw [decide_eq_true_eq]
    exact ⟨(hall.out 0 (by omega)).1, (hall.out 0 (by omega)).2, (hall.out 1 (by omega)).1, (hall.out 1 (by omega)).2⟩
   clear q0 q1
   go_wp2_with fail
   refine (IsGraph_any m A m c x W B k1.out (by have := HZ.out; omega) hm).mono ?_
   rintro e w1 ⟨rfl, hb1⟩
   have HB1 := Lib.hid (HB.out.trans (hb1.mono (by have := HZ.out; omega)))
   clear hb1 e0 e1
   rw [Hok.out]
   go_wp2
   go_ret
   exact ⟨ret_bool hyes.out.symm, HB1.out⟩
set_option maxHeartbeats 1600000 in
theorem AddEdge_i (sz : Int) (A : Option Addr) (m c : Nat) (x : Nat → Int) (v u : Int) (w : World) (B : Nat) (h : Rd w B A m c x) (hB : B ≤ w.heap.size) (hm : m ≤ 1048576) (hok : okB sz m x = true) :
 Calls Tryz.prog 120 #[.agg #[.int .i64 sz, .slice A m c], .int .i64 v, .int .i64 u] w fun e w' => ∃ A' c', e = .returned (.tuple #[.agg #[.int .i64 sz, .slice A' m c'], .bool (aeB sz m x v u)]) ∧ Own w' (w.heap.size + 2) w'.heap.size 3 1 A' m c' (fun j => .int .i64 (aeX sz m x v u j)) ∧ Below w.heap.size w w' := by
 obtain ⟨r, es, vg, hx⟩ := okB_ok' hok
 subst es
 have hn1 := vg.n1
 have hn7 := vg.n7
 obtain ⟨W, hW⟩ : ∃ W : World, W = ((w.alloc (Obj.cells #[Value.int IntKind.i64 m, Value.slice A m c] 29)).alloc (Obj.cells #[Value.int IntKind.i64 0, Value.slice none 0 0] 29)) := ⟨_, rfl⟩
 have HB : Hid (Below w.heap.size w W) := by rw [hW]; exact ((Below.refl _ _).alloc (Nat.le_refl _) _).alloc (by simp) _
 have HZ : Hid (w.heap.size + 2 = W.heap.size) := by rw [hW]; simp [Hid]
 have e0 : W.cell? ⟨w.heap.size, 0, none⟩ = some (.int .i64 m) := by rw [hW]; simp [go_sem]
 have e1 : W.cell? ⟨w.heap.size, 1, none⟩ = some (.slice A m c) := by rw [hW]; simp [go_sem]
 have e2 : W.cell? ⟨w.heap.size + 1, 0, none⟩ = some (.int .i64 0) := by rw [hW]; simp [go_sem]
 have e3 : W.cell? ⟨w.heap.size + 1, 1, none⟩ = some (.slice none 0 0) := by rw [hW]; simp [go_sem]
 have e4 : W.frozen? ⟨w.heap.size + 1, 0, none⟩ = false := by rw [hW]; simp [go_sem]
 have e5 : W.frozen? ⟨w.heap.size + 1, 1, none⟩ = false := by rw [hW]; simp [go_sem]
 have HK := Lib.hid (h.keep (HB.out.mono hB) (Nat.le_refl _))
 have HW := Lib.hid hW
 have HX := Lib.hid hx
 have HV := Lib.hid vg
 have Hok := Lib.hid hok
 clear hW h hx vg hok
 go_enter Tryz.func120, Tryz.ntmps120
 go_wp2_with fail
 rw [← HW.out]
 refine (copyGraph_any m A m c x W B HK.out (by have := HZ.out; omega) hm).mono ?_
 rintro e w1 ⟨A', c', rfl, hO, hb1⟩
 have f0 := up hb1 e0 (by have := HZ.out; omega)
 have f1 := up hb1 e1 (by have := HZ.out; omega)
 have f2 := up hb1 e2 (by have := HZ.out; omega)
 have f3 := up hb1 e3 (by have := HZ.out; omega)
 have f4 := upf hb1 e4 (by have := HZ.out; omega)
 have f5 := upf hb1 e5 (by have := HZ.out; omega)
 have z1 := hb1.size
 have zz0 : w.heap.size < w1.heap.size := by have := HZ.out; omega
 have zz1 : w.heap.size + 1 < w1.heap.size := by have := HZ.out; omega
 obtain ⟨g, rfl, hg1, hg2, hOc⟩ := hO.only (by omega)
 have HO1 := Lib.hid hOc
 have HB1 := Lib.hid hb1
 obtain ⟨W2, hW2⟩ : ∃ W2 : World, W2 = ((w1.alloc (Obj.cells #[Value.int IntKind.i64 m, Value.slice (some ⟨g, 0, none⟩) m c'] 29)).alloc (Obj.cells #[Value.int IntKind.i64 v, Value.int IntKind.i64 u] 3)) := ⟨_, rfl⟩
 have hb2 : Below w1.heap.size w1 W2 := by rw [hW2]; exact ((Below.refl _ _).alloc (Nat.le_refl _) _).alloc (by simp) _
 have z2 : w1.heap.size + 2 = W2.heap.size := by rw [hW2]; simp
 have g0 := up hb2 f0 zz0
 have g1 := up hb2 f1 zz0
 have g2 := up hb2 f2 zz1
 have g3 := up hb2 f3 zz1
 have g4 := upf hb2 f4 zz1
 have g5 := upf hb2 f5 zz1
 have g6 : W2.cell? ⟨w1.heap.size, 0, none⟩ = some (.int .i64 m) := by rw [hW2]; simp [go_sem]
 have g7 : W2.cell? ⟨w1.heap.size, 1, none⟩ = some (.slice (some ⟨g, 0, none⟩) m c') := by rw [hW2]; simp [go_sem]
 have HY : Hid (Rd W2 W2.heap.size (some ⟨w1.heap.size + 1, 0, none⟩) 2 2 (fun j => if j = 0 then v else u)) := by
  refine ⟨Nat.le_refl _, fun _ => ⟨w1.heap.size + 1, 0, rfl, by omega, fun k hk => ?_⟩⟩
  rw [hW2]
  have : k = 0 ∨ k = 1 := by omega
  rcases this with rfl | rfl <;> simp [go_sem]
 have HZ2 := Lib.hid z2
 have HB2 := Lib.hid hb2
 have HW2 := Lib.hid hW2
 have HK2 : Hid (Rd W2 W2.heap.size A m c x) := HK.out.keep ((HB1.out.trans (HB2.out.mono z1)).mono (by have := HZ.out; omega)) (by have := HZ.out; omega)
 have HO2 : Hid (Own W2 g (g + 1) 3 1 (some ⟨g, 0, none⟩) m c' (fun j => .int .i64 (x j))) := HO1.out.keepB HB2.out (by omega)
 clear hO hOc hb1 HW e0 e1 e2 e3 e4 e5 z2 hb2 hW2
 go_wp2_with fail
 rw [← HW2.out]
 clear HW2 f0 f1 f2 f3 f4 f5
 refine (isVertex_ok A (some ⟨w1.heap.size + 1, 0, none⟩) m c 2 x (fun j => if j = 0 then v else u) W2 W2.heap.size HK2.out HY.out (Nat.le_refl _) hm Hok.out v u rfl rfl).mono ?_
 rintro e w3 ⟨rfl, hb3⟩
 have z3 := hb3.size
 have yy0 : w.heap.size < W2.heap.size := by have := HZ2.out; omega
 have yy1 : w.heap.size + 1 < W2.heap.size := by have := HZ2.out; omega
 have yy2 : w1.heap.size < W2.heap.size := by have := HZ2.out; omega
 have i0 := up hb3 g0 yy0
 have i1 := up hb3 g1 yy0
 have i2 := up hb3 g2 yy1
 have i3 := up hb3 g3 yy1
 have i4 := upf hb3 g4 yy1
 have i5 := upf hb3 g5 yy1
 have i6 := up hb3 g6 yy2
 have i7 := up hb3 g7 yy2
 have HO3 : Hid (Own w3 g (g + 1) 3 1 (some ⟨g, 0, none⟩) m c' (fun j => .int .i64 (x j))) := HO2.out.keepB hb3 (by omega)
 have HK3 : Hid (Rd w3 w3.heap.size A m c x) := HK2.out.keep hb3 z3
 have HB3 : Hid (Below w.heap.size w w3) := HB.out.trans ((HB1.out.trans ((HB2.out.trans (hb3.mono (by omega))).mono z1)).mono (by have := HZ.out; omega))
 have xx0 : w.heap.size < w3.heap.size := by omega
 have xx1 : w.heap.size + 1 < w3.heap.size := by omega
 have xx2 : w1.heap.size < w3.heap.size := by omega
 have HG : Hid (w.heap.size + 2 ≤ g ∧ g < w1.heap.size) := ⟨by have := HZ.out; omega, hg2⟩
 clear g0 g1 g2 g3 g4 g5 g6 g7 hb3 HO1 HO2 HK HK2 HY HB1 HB2 HB yy0 yy1 yy2 hg1 hg2 zz0 zz1
 by_cases hin : 0 ≤ v ∧ v < m ∧ 0 ≤ u ∧ u < m
 ·rw [decide_eq_true hin]
  obtain ⟨h1, h2, h3, h4⟩ := hin
  by_cases hvu : v = u
  ·have hno : Hid (aeB (m : Int) m x v u = false) := by
    show _ = _
    cases hb : aeB (m : Int) m x v u
    ·rfl
    ·exact absurd hvu (aeB_parts hb).2.1.2.2.2.2
   have hd : (v == u) = true := by simp [hvu]
   clear hvu HX HV HK3
   go_wp2
   have F : Fr (w.heap.size + 1) (w.heap.size + 2) w3 _ := ((Fr.refl _ _ w3).setCell (p := ⟨w.heap.size + 1, 0, none⟩) (Nat.le_refl _) (Nat.lt_succ_self _) (Value.int IntKind.i64 m)).setCell (p := ⟨w.heap.size + 1, 1, none⟩) (Nat.le_refl _) (Nat.lt_succ_self _) (Value.slice (some ⟨g, 0, none⟩) m c')
   have O1 := ((HO3.out.keep F (.inr HG.out.1)).mono HG.out.1 (by have := HG.out.2; simp; omega : g + 1 ≤ ((w3.setCell ⟨w.heap.size + 1, 0, none⟩ (Value.int IntKind.i64 m)).setCell ⟨w.heap.size + 1, 1, none⟩ (Value.slice (some ⟨g, 0, none⟩) m c')).heap.size))
   exact bodyPost_ret (v := .tuple #[.agg #[.int .i64 m, .slice (some ⟨g, 0, none⟩) m c'], .bool false]) (by simp [results, Tryz.results120, go_sem, *]) rfl ⟨some ⟨g, 0, none⟩, c', by rw [hno.out], O1.congr (fun j hj => by rw [aeX_no hno.out]), HB3.out.trans (F.below (by omega) (by omega))⟩
  ·obtain ⟨n, rfl⟩ := Int.eq_ofNat_of_zero_le h1
   obtain ⟨k, rfl⟩ := Int.eq_ofNat_of_zero_le h3
   obtain ⟨b, o, rfl, hb, hc⟩ := HK3.out.pos (by omega)
   have q0 := hc n (by omega)
   have q1 : 0 ≤ x n := by have := HX.out n (by omega); omega
   have q2 : x n < 16777216 := by have := HX.out n (by omega); have := HV.out.lt128 (v := n) (by omega); omega
   have hd : ((n : Int) == (k : Int)) = false := by simpa using hvu
   have hd' : ((n : Nat) = k) = False := by simp; omega
   have Hne : Hid (n ≠ k) := by show n ≠ k; omega
   have hk7 : (k : Int) ≤ 63 := by omega
   have h0k : 0 ≤ (k : Int) := by omega
   clear hc hvu
   cases ht : (x n).toNat.testBit k
   ·have hyes : Hid (aeB (m : Int) m x n k = true) := by
     show _ = _
     unfold aeB
     rw [Hok.out, decide_eq_true (⟨by omega, by omega, by omega, by omega, by have := Hne.out; omega⟩ : 0 ≤ (n : Int) ∧ (n : Int) < m ∧ 0 ≤ (k : Int) ∧ (k : Int) < m ∧ (n : Int) ≠ k)]
     simp [ht]
    have K1 : Hid (∀ w, Calls Tryz.prog 69 #[.int .i64 (x n), .int .i64 k] w fun e w' => e = .returned (.bool false) ∧ w = w') := fun w => (has_any (x n) k w q1 q2 h0k hk7).mono fun _ _ ⟨h1, h2⟩ => ⟨by rw [h1, Int.toNat_natCast, ht], h2⟩
    clear ht
    go_wp2_with (first | (go_at_call 69; with_reducible refine (K1.out _).mono ?_; rintro e w' ⟨rfl, rfl⟩))
    have hx128 : ∀ j, j < m → (x j).toNat < 128 := fun j hj => by have := HX.out j hj; have := HV.out.lt128 hj; omega
    refine (flip_any m g m c' (fun i => (x i).toNat) n k w3 g (g + 1) (HO3.out.congr (fun j hj => by have := HX.out j (by omega); show Value.int .i64 (x j) = .int .i64 (((x j).toNat : Nat) : Int); congr 1; omega)) (by have := HG.out.2; omega) hn7 (by omega) (by omega) Hne.out hx128).mono ?_
    rintro e w4 ⟨rfl, hO4, hf4⟩
    have z4 := hf4.size
    have j2 := frC hf4 i2 xx1 (by have := HG.out.1; omega)
    have j3 := frC hf4 i3 xx1 (by have := HG.out.1; omega)
    have j4 := frZ hf4 i4 xx1 (by have := HG.out.1; omega)
    have j5 := frZ hf4 i5 xx1 (by have := HG.out.1; omega)
    have j6 := frC hf4 i6 xx2 (by have := HG.out.2; omega)
    have j7 := frC hf4 i7 xx2 (by have := HG.out.2; omega)
    have HO4 := Lib.hid hO4
    have HB4 : Hid (Below w.heap.size w w4) := HB3.out.trans (hf4.below (by have := HG.out.1; omega) (by omega))
    clear hO4 hf4 i0 i1 i2 i3 i4 i5 i6 i7 HO3 HB3 HX HV HK3 q0 q1 q2 K1 hx128 hd hd'
    go_wp2
    have F : Fr (w.heap.size + 1) (w.heap.size + 2) w4 _ := ((Fr.refl _ _ w4).setCell (p := ⟨w.heap.size + 1, 0, none⟩) (Nat.le_refl _) (Nat.lt_succ_self _) (Value.int IntKind.i64 m)).setCell (p := ⟨w.heap.size + 1, 1, none⟩) (Nat.le_refl _) (Nat.lt_succ_self _) (Value.slice (some ⟨g, 0, none⟩) m c')
    have O1 := ((HO4.out.keep F (.inr HG.out.1)).mono HG.out.1 (by have := HG.out.2; simp; omega : g + 1 ≤ ((w4.setCell ⟨w.heap.size + 1, 0, none⟩ (Value.int IntKind.i64 m)).setCell ⟨w.heap.size + 1, 1, none⟩ (Value.slice (some ⟨g, 0, none⟩) m c')).heap.size))
    exact bodyPost_ret (v := .tuple #[.agg #[.int .i64 m, .slice (some ⟨g, 0, none⟩) m c'], .bool true]) (by simp [results, Tryz.results120, go_sem, *]) rfl ⟨some ⟨g, 0, none⟩, c', by rw [hyes.out], O1.congr (fun j hj => by unfold aeX; rw [hyes.out]; simp), HB4.out.trans (F.below (by omega) (by omega))⟩
   ·have hno : Hid (aeB (m : Int) m x n k = false) := by
     show _ = _
     cases hb : aeB (m : Int) m x n k
     ·rfl
     ·have := (aeB_parts hb).2.2; simp [ht] at this
    have K1 : Hid (∀ w, Calls Tryz.prog 69 #[.int .i64 (x n), .int .i64 k] w fun e w' => e = .returned (.bool true) ∧ w = w') := fun w => (has_any (x n) k w q1 q2 h0k hk7).mono fun _ _ ⟨h1, h2⟩ => ⟨by rw [h1, Int.toNat_natCast, ht], h2⟩
    clear ht
    go_wp2_with (first | (go_at_call 69; with_reducible refine (K1.out _).mono ?_; rintro e w' ⟨rfl, rfl⟩))
    have F : Fr (w.heap.size + 1) (w.heap.size + 2) w3 _ := ((Fr.refl _ _ w3).setCell (p := ⟨w.heap.size + 1, 0, none⟩) (Nat.le_refl _) (Nat.lt_succ_self _) (Value.int IntKind.i64 m)).setCell (p := ⟨w.heap.size + 1, 1, none⟩) (Nat.le_refl _) (Nat.lt_succ_self _) (Value.slice (some ⟨g, 0, none⟩) m c')
    have O1 := ((HO3.out.keep F (.inr HG.out.1)).mono HG.out.1 (by have := HG.out.2; simp; omega : g + 1 ≤ ((w3.setCell ⟨w.heap.size + 1, 0, none⟩ (Value.int IntKind.i64 m)).setCell ⟨w.heap.size + 1, 1, none⟩ (Value.slice (some ⟨g, 0, none⟩) m c')).heap.size))
    exact bodyPost_ret (v := .tuple #[.agg #[.int .i64 m, .slice (some ⟨g, 0, none⟩) m c'], .bool false]) (by simp [results, Tryz.results120, go_sem, *]) rfl ⟨some ⟨g, 0, none⟩, c', by rw [hno.out], O1.congr (fun j hj => by rw [aeX_no hno.out]), HB3.out.trans (F.below (by omega) (by omega))⟩
 ·have hno : Hid (aeB (m : Int) m x v u = false) := by
   show _ = _
   cases hb : aeB (m : Int) m x v u
   ·rfl
   ·obtain ⟨_, ⟨h1, h2, h3, h4, h5⟩, h6⟩ := aeB_parts hb
    exact absurd ⟨h1, h2, h3, h4⟩ hin
  rw [decide_eq_false hin]
  clear hin
  go_wp2
  have F : Fr (w.heap.size + 1) (w.heap.size + 2) w3 _ := ((Fr.refl _ _ w3).setCell (p := ⟨w.heap.size + 1, 0, none⟩) (Nat.le_refl _) (Nat.lt_succ_self _) (Value.int IntKind.i64 m)).setCell (p := ⟨w.heap.size + 1, 1, none⟩) (Nat.le_refl _) (Nat.lt_succ_self _) (Value.slice (some ⟨g, 0, none⟩) m c')
  have O1 := ((HO3.out.keep F (.inr HG.out.1)).mono HG.out.1 (by have := HG.out.2; simp; omega : g + 1 ≤ ((w3.setCell ⟨w.heap.size + 1, 0, none⟩ (Value.int IntKind.i64 m)).setCell ⟨w.heap.size + 1, 1, none⟩ (Value.slice (some ⟨g, 0, none⟩) m c')).heap.size))
  exact bodyPost_ret (v := .tuple #[.agg #[.int .i64 m, .slice (some ⟨g, 0, none⟩) m c'], .bool false]) (by simp [results, Tryz.results120, go_sem, *]) rfl ⟨some ⟨g, 0, none⟩, c', by rw [hno.out], O1.congr (fun j hj => by rw [aeX_no hno.out]), HB3.out.trans (F.below (by omega) (by omega))⟩
end Go.Proofs.YtppkokgiojcgbaaGreatDoor
/-
 Plain: a graph and a list of edges more.
-/
namespace Go.Proofs.YtppkokgiojcgbaaGreatDoor
noncomputable def aaF (sz : Int) (m : Nat) : List (List Int) → (Nat → Int) → Option (Nat → Int)
 | [], x => some x
 | l :: L, x => if l.length = 2 ∧ aeB sz m x (l.getD 0 0) (l.getD 1 0) = true then aaF sz m L (aeX sz m x (l.getD 0 0) (l.getD 1 0)) else none
noncomputable def aaR (sz : Int) (m : Nat) (x : Nat → Int) (L : List (List Int)) : Option (Nat → Int) := if okB sz m x = true then aaF sz m L x else none
noncomputable def aaB (sz : Int) (m : Nat) (x : Nat → Int) (L : List (List Int)) : Bool := (aaR sz m x L).isSome
noncomputable def aaN (sz : Int) (m : Nat) (x : Nat → Int) (L : List (List Int)) : Nat := if aaB sz m x L = true then m else 0
noncomputable def aaZ (sz : Int) (m : Nat) (x : Nat → Int) (L : List (List Int)) : Int := if aaB sz m x L = true then sz else 0
noncomputable def aaX (sz : Int) (m : Nat) (x : Nat → Int) (L : List (List Int)) : Nat → Int := (aaR sz m x L).getD x
theorem aaN_le {sz : Int} {m : Nat} {x : Nat → Int} {L : List (List Int)} : aaN sz m x L ≤ m := by unfold aaN; split <;> omega
theorem aa_none {sz : Int} {m : Nat} {x : Nat → Int} {L : List (List Int)} (h : aaR sz m x L = none) : aaB sz m x L = false ∧ aaN sz m x L = 0 ∧ aaZ sz m x L = 0 := by
 have hb : aaB sz m x L = false := by unfold aaB; rw [h]; rfl
 exact ⟨hb, by unfold aaN; rw [hb]; rfl, by unfold aaZ; rw [hb]; rfl⟩
theorem aa_some {sz : Int} {m : Nat} {x y : Nat → Int} {L : List (List Int)} (h : aaR sz m x L = some y) : aaB sz m x L = true ∧ aaN sz m x L = m ∧ aaZ sz m x L = sz ∧ aaX sz m x L = y := by
 have hb : aaB sz m x L = true := by unfold aaB; rw [h]; rfl
 exact ⟨hb, by unfold aaN; rw [hb]; rfl, by unfold aaZ; rw [hb]; rfl, by unfold aaX; rw [h]; rfl⟩
theorem aaR_no {sz : Int} {m : Nat} {x : Nat → Int} {L : List (List Int)} (h : okB sz m x = false) : aaR sz m x L = none := by unfold aaR; rw [h]; rfl
theorem aaR_yes {sz : Int} {m : Nat} {x : Nat → Int} {L : List (List Int)} (h : okB sz m x = true) : aaR sz m x L = aaF sz m L x := by unfold aaR; rw [h]; rfl
theorem aaF_short {sz : Int} {m : Nat} {x : Nat → Int} {l : List Int} {L : List (List Int)} (h : l.length ≠ 2) : aaF sz m (l :: L) x = none := by
 unfold aaF; rw [if_neg (fun h2 => h h2.1)]
theorem aaF_no {sz : Int} {m : Nat} {x : Nat → Int} {v u : Int} {L : List (List Int)} (h : aeB sz m x v u = false) : aaF sz m ([v, u] :: L) x = none := by
 unfold aaF; rw [if_neg (fun h2 => by have := h2.2; simp [h] at this)]
theorem aaF_yes {sz : Int} {m : Nat} {x : Nat → Int} {v u : Int} {L : List (List Int)} (h : aeB sz m x v u = true) : aaF sz m ([v, u] :: L) x = aaF sz m L (aeX sz m x v u) := by
 rw [aaF, if_pos ⟨rfl, by simpa using h⟩]; simp
theorem aeX_ok {sz : Int} {m : Nat} {x : Nat → Int} {v u : Int} (h : okB sz m x = true) : okB sz m (aeX sz m x v u) = true := by
 cases hb : aeB sz m x v u
 ·rw [aeX_no hb]; exact h
 ·obtain ⟨_, ⟨h1, h2, h3, h4, h5⟩, h6⟩ := aeB_parts hb
  obtain ⟨r, rfl, vg, hx⟩ := okB_ok' h
  refine okB_yes ⟨addN (fun i => (x i).toNat) v.toNat u.toNat, rfl, ?_, fun i hi => ?_⟩
  ·exact (vg.congr (s := fun i => (x i).toNat) (fun i hi => by show r i = (x i).toNat; rw [hx i hi]; simp)).add (by omega) (by omega) (by omega)
  ·unfold aeX; rw [hb]; rfl
end Go.Proofs.YtppkokgiojcgbaaGreatDoor
/-
 Contract: a graph and one edge more, of the reference.
-/
namespace Go.Proofs.YtppkokgiojcgbaaGreatDoor
open Go.RowKit
noncomputable def prB (sz : Int) (m : Nat) (x : Nat → Int) (v u : Int) : Bool := okB sz m x && decide (0 ≤ v ∧ 0 ≤ u ∧ v < sz ∧ u < sz ∧ v ≠ u)
theorem prB_eq {sz : Int} {m : Nat} {x : Nat → Int} {v u : Int} {a b : Bool} (h : okB sz m x = a) (h2 : decide (0 ≤ v ∧ 0 ≤ u ∧ v < sz ∧ u < sz ∧ v ≠ u) = b) : prB sz m x v u = (a && b) := by unfold prB; rw [h, h2]
set_option maxHeartbeats 1000000 in
theorem l2Pair_any (sz : Int) (A : Option Addr) (m c : Nat) (x : Nat → Int) (v u : Int) (w : World) (B : Nat) (h : Rd w B A m c x) (hB : B ≤ w.heap.size) (hm : m ≤ 1048576) :
 Calls Tryz.prog 174 #[.agg #[.int .i64 sz, .slice A m c], .int .i64 v, .int .i64 u] w fun e w' => e = .returned (.bool (prB sz m x v u)) ∧ Below w.heap.size w w' := by
 obtain ⟨W, hW⟩ : ∃ W : World, W = (w.alloc (Obj.cells #[Value.int IntKind.i64 sz, Value.slice A m c] 29)) := ⟨_, rfl⟩
 have HB : Hid (Below w.heap.size w W) := by rw [hW]; exact ((Below.refl _ _).alloc (Nat.le_refl _) _)
 have a0 : w.heap.size < W.heap.size := by rw [hW]; simp
 have e0 : W.cell? ⟨w.heap.size, 0, none⟩ = some (.int .i64 sz) := by rw [hW]; simp [go_sem]
 have e1 : W.cell? ⟨w.heap.size, 1, none⟩ = some (.slice A m c) := by rw [hW]; simp [go_sem]
 have k1 := Lib.hid (h.keep (HB.out.mono hB) (Nat.le_refl _))
 have HW := Lib.hid hW
 clear hW h
 go_enter Tryz.func174, Tryz.ntmps174
 go_wp2_with fail
 rw [← HW.out]
 refine (IsGraph_sany sz A m c x W B k1.out (by omega) hm).mono ?_
 rintro e w1 ⟨rfl, hb1⟩
 have f0 := up hb1 e0 a0
 have f1 := up hb1 e1 a0
 have HB1 : Hid (Below w.heap.size w w1) := HB.out.trans (hb1.mono (by omega))
 clear HW e0 e1 hb1 k1 HB
 cases ho : okB sz m x
 ·have hf : Hid (prB sz m x v u = false) := by show prB sz m x v u = _; unfold prB; rw [ho]; rfl
  clear ho
  go_wp2
  go_ret
  exact ⟨ret_bool hf.out.symm, HB1.out⟩
 ·have Ho := Lib.hid ho
  clear ho
  by_cases h1 : 0 ≤ v
  ·by_cases h2 : 0 ≤ u
   ·by_cases h3 : v < sz
    ·by_cases h4 : u < sz
     ·by_cases h5 : v = u
      ·have hn : Hid (prB sz m x v u = false) := prB_eq Ho.out (decide_eq_false (fun h => h.2.2.2.2 h5))
       have h6 : (v != u) = false := by simp [h5]
       clear h5
       go_wp2
       go_ret
       exact ⟨ret_bool hn.out.symm, HB1.out⟩
      ·have hn : Hid (prB sz m x v u = true) := prB_eq Ho.out (decide_eq_true ⟨h1, h2, h3, h4, h5⟩)
       have h6 : (v != u) = true := by simp [h5]
       clear h5
       go_wp2
       go_ret
       exact ⟨ret_bool hn.out.symm, HB1.out⟩
     ·have hn : Hid (prB sz m x v u = false) := prB_eq Ho.out (decide_eq_false (fun h => h4 h.2.2.2.1))
      go_wp2
      go_ret
      exact ⟨ret_bool hn.out.symm, HB1.out⟩
    ·have hn : Hid (prB sz m x v u = false) := prB_eq Ho.out (decide_eq_false (fun h => h3 h.2.2.1))
     go_wp2
     go_ret
     exact ⟨ret_bool hn.out.symm, HB1.out⟩
   ·have hn : Hid (prB sz m x v u = false) := prB_eq Ho.out (decide_eq_false (fun h => h2 h.2.1))
    go_wp2
    go_ret
    exact ⟨ret_bool hn.out.symm, HB1.out⟩
  ·have hn : Hid (prB sz m x v u = false) := prB_eq Ho.out (decide_eq_false (fun h => h1 h.1))
   go_wp2
   go_ret
   exact ⟨ret_bool hn.out.symm, HB1.out⟩
set_option maxRecDepth 100000 in
set_option maxHeartbeats 1600000 in
theorem AddEdge_s (sz : Int) (A : Option Addr) (m c : Nat) (x : Nat → Int) (v u : Int) (w : World) (B : Nat) (h : Rd w B A m c x) (hB : B ≤ w.heap.size) (hm : m ≤ 1048576) :
 Calls Tryz.prog 122 #[.agg #[.int .i64 sz, .slice A m c], .int .i64 v, .int .i64 u] w fun e w' => ∃ A' c', e = .returned (.tuple #[.agg #[.int .i64 sz, .slice A' m c'], .bool (aeB sz m x v u)]) ∧ Own w' (w.heap.size + 2) w'.heap.size 3 1 A' m c' (fun j => .int .i64 (aeX sz m x v u j)) ∧ Below w.heap.size w w' := by
 obtain ⟨W, hW⟩ : ∃ W : World, W = ((w.alloc (Obj.cells #[Value.int IntKind.i64 sz, Value.slice A m c] 29)).alloc (Obj.cells #[Value.int IntKind.i64 0, Value.slice none 0 0] 29)) := ⟨_, rfl⟩
 have HB : Hid (Below w.heap.size w W) := by rw [hW]; exact ((Below.refl _ _).alloc (Nat.le_refl _) _).alloc (by simp) _
 have HZ : Hid (w.heap.size + 2 = W.heap.size) := by rw [hW]; simp [Hid]
 have e0 : W.cell? ⟨w.heap.size, 0, none⟩ = some (.int .i64 sz) := by rw [hW]; simp [go_sem]
 have e1 : W.cell? ⟨w.heap.size, 1, none⟩ = some (.slice A m c) := by rw [hW]; simp [go_sem]
 have e2 : W.cell? ⟨w.heap.size + 1, 0, none⟩ = some (.int .i64 0) := by rw [hW]; simp [go_sem]
 have e3 : W.cell? ⟨w.heap.size + 1, 1, none⟩ = some (.slice none 0 0) := by rw [hW]; simp [go_sem]
 have e4 : W.frozen? ⟨w.heap.size + 1, 0, none⟩ = false := by rw [hW]; simp [go_sem]
 have e5 : W.frozen? ⟨w.heap.size + 1, 1, none⟩ = false := by rw [hW]; simp [go_sem]
 have HK := Lib.hid (h.keep (HB.out.mono hB) (Nat.le_refl _))
 have HW := Lib.hid hW
 clear hW h
 go_enter Tryz.func122, Tryz.ntmps122
 go_wp2_with fail
 rw [← HW.out]
 refine (l2Copy_any sz A m c x W B HK.out (by have := HZ.out; omega) hm).mono ?_
 rintro e w1 ⟨A', c', rfl, hO, hb1⟩
 have f0 := up hb1 e0 (by have := HZ.out; omega)
 have f1 := up hb1 e1 (by have := HZ.out; omega)
 have f2 := up hb1 e2 (by have := HZ.out; omega)
 have f3 := up hb1 e3 (by have := HZ.out; omega)
 have f4 := upf hb1 e4 (by have := HZ.out; omega)
 have f5 := upf hb1 e5 (by have := HZ.out; omega)
 have z1 := hb1.size
 have zz0 : w.heap.size < w1.heap.size := by have := HZ.out; omega
 have zz1 : w.heap.size + 1 < w1.heap.size := by have := HZ.out; omega
 have HO1 := Lib.hid hO
 have HB1 := Lib.hid hb1
 obtain ⟨W2, hW2⟩ : ∃ W2 : World, W2 = (w1.alloc (Obj.cells #[Value.int IntKind.i64 sz, Value.slice A' m c'] 29)) := ⟨_, rfl⟩
 have hb2 : Below w1.heap.size w1 W2 := by rw [hW2]; exact ((Below.refl _ _).alloc (Nat.le_refl _) _)
 have z2 : w1.heap.size < W2.heap.size := by rw [hW2]; simp
 have g0 := up hb2 f0 zz0
 have g1 := up hb2 f1 zz0
 have g2 := up hb2 f2 zz1
 have g3 := up hb2 f3 zz1
 have g4 := upf hb2 f4 zz1
 have g5 := upf hb2 f5 zz1
 have g6 : W2.cell? ⟨w1.heap.size, 0, none⟩ = some (.int .i64 sz) := by rw [hW2]; simp [go_sem]
 have g7 : W2.cell? ⟨w1.heap.size, 1, none⟩ = some (.slice A' m c') := by rw [hW2]; simp [go_sem]
 have HB2 := Lib.hid hb2
 have HW2 := Lib.hid hW2
 have HK2 : Hid (Rd W2 W2.heap.size A m c x) := HK.out.keep ((HB1.out.trans (HB2.out.mono z1)).mono (by have := HZ.out; omega)) (by have := HZ.out; omega)
 have HO2 : Hid (Own W2 (W.heap.size + 2) w1.heap.size 3 1 A' m c' (fun j => .int .i64 (x j))) := HO1.out.keepB HB2.out (Nat.le_refl _)
 clear hO hb1 HW e0 e1 e2 e3 e4 e5 hb2 hW2
 go_wp2_with fail
 rw [← HW2.out]
 clear HW2 f0 f1 f2 f3 f4 f5
 refine (l2Pair_any sz A m c x v u W2 W2.heap.size HK2.out (Nat.le_refl _) hm).mono ?_
 rintro e w3 ⟨rfl, hb3⟩
 have z3 := hb3.size
 have yy0 : w.heap.size < W2.heap.size := by omega
 have yy1 : w.heap.size + 1 < W2.heap.size := by omega
 have i0 := up hb3 g0 yy0
 have i1 := up hb3 g1 yy0
 have i2 := up hb3 g2 yy1
 have i3 := up hb3 g3 yy1
 have i4 := upf hb3 g4 yy1
 have i5 := upf hb3 g5 yy1
 have i6 := up hb3 g6 z2
 have i7 := up hb3 g7 z2
 have HO3 : Hid (Own w3 (W.heap.size + 2) w1.heap.size 3 1 A' m c' (fun j => .int .i64 (x j))) := HO2.out.keepB hb3 (by omega)
 have HK3 : Hid (Rd w3 w3.heap.size A m c x) := HK2.out.keep hb3 z3
 have HB3 : Hid (Below w.heap.size w w3) := HB.out.trans ((HB1.out.trans ((HB2.out.trans (hb3.mono (by omega))).mono z1)).mono (by have := HZ.out; omega))
 have xx0 : w.heap.size < w3.heap.size := by omega
 have xx1 : w.heap.size + 1 < w3.heap.size := by omega
 have xx2 : w1.heap.size < w3.heap.size := by omega
 clear g0 g1 g2 g3 g4 g5 g6 g7 hb3 HO1 HO2 HK HK2 HB1 HB2 HB yy0 yy1
 obtain ⟨t, ht⟩ : ∃ t, t = prB sz m x v u := ⟨_, rfl⟩
 rw [← ht]
 have Ht := Lib.hid ht
 clear ht
 cases t
 ·have hno : Hid (aeB sz m x v u = false) := by
   show _ = _
   cases hb : aeB sz m x v u
   ·rfl
   ·obtain ⟨ho, ⟨h1, h2, h3, h4, h5⟩, h6⟩ := aeB_parts hb
    have := Ht.out
    unfold prB at this
    rw [ho, decide_eq_true (⟨h1, h3, h2, h4, h5⟩ : 0 ≤ v ∧ 0 ≤ u ∧ v < sz ∧ u < sz ∧ v ≠ u)] at this
    cases this
  clear Ht
  go_wp2
  have F : Fr (w.heap.size + 1) (w.heap.size + 2) w3 _ := ((Fr.refl _ _ w3).setCell (p := ⟨w.heap.size + 1, 0, none⟩) (Nat.le_refl _) (Nat.lt_succ_self _) (Value.int IntKind.i64 sz)).setCell (p := ⟨w.heap.size + 1, 1, none⟩) (Nat.le_refl _) (Nat.lt_succ_self _) (Value.slice A' m c')
  have O1 := ((HO3.out.keep F (.inr (by have := HZ.out; omega))).mono (lo' := w.heap.size + 2) (by have := HZ.out; omega) (Nat.le_trans (by omega) F.size))
  exact bodyPost_ret (v := .tuple #[.agg #[.int .i64 sz, .slice A' m c'], .bool false]) (by simp [results, Tryz.results122, go_sem, *]) rfl ⟨A', c', by rw [hno.out], O1.congr (fun j hj => by rw [aeX_no hno.out]), HB3.out.trans (F.below (by omega) (by omega))⟩
 ·have Hok : Hid (okB sz m x = true) := by
   show _ = _
   have := Ht.out
   unfold prB at this
   cases ho : okB sz m x
   ·rw [ho] at this; cases this
   ·rfl
  obtain ⟨h1, h3, h2, h4, h5⟩ : 0 ≤ v ∧ 0 ≤ u ∧ v < sz ∧ u < sz ∧ v ≠ u := by
   have := Ht.out
   unfold prB at this
   rw [Hok.out] at this
   simpa using this
  obtain ⟨n, rfl⟩ := Int.eq_ofNat_of_zero_le h1
  obtain ⟨k, rfl⟩ := Int.eq_ofNat_of_zero_le h3
  obtain ⟨r, es, vg, hx⟩ := okB_ok' Hok.out
  subst es
  have hn1 := vg.n1
  have hn7 := vg.n7
  have HX := Lib.hid hx
  have HV := Lib.hid vg
  have Hne : Hid (n ≠ k) := by show n ≠ k; omega
  obtain ⟨b, o, rfl, hb, hc⟩ := HK3.out.pos (by omega)
  have q0 := hc n (by omega)
  have q1 : 0 ≤ x n := by have := HX.out n (by omega); omega
  have q2 : x n < 16777216 := by have := HX.out n (by omega); have := HV.out.lt128 (v := n) (by omega); omega
  clear hx vg hc Ht h5
  go_wp2_with fail
  refine (l2Edge_any (m : Int) b o m c w3 n k (x n) q0 hb (by omega) q1 q2 (by omega)).mono ?_
  rintro e w4 ⟨rfl, hb4⟩
  have z4 := hb4.size
  have j2 := up hb4 i2 xx1
  have j3 := up hb4 i3 xx1
  have j4 := upf hb4 i4 xx1
  have j5 := upf hb4 i5 xx1
  have j6 := up hb4 i6 xx2
  have j7 := up hb4 i7 xx2
  have HO4 : Hid (Own w4 (W.heap.size + 2) w1.heap.size 3 1 A' m c' (fun j => .int .i64 (x j))) := HO3.out.keepB hb4 (by omega)
  have HB4 : Hid (Below w.heap.size w w4) := HB3.out.trans (hb4.mono (by omega))
  have ww1 : w.heap.size + 1 < w4.heap.size := by omega
  have ww2 : w1.heap.size < w4.heap.size := by omega
  clear i0 i1 i2 i3 i4 i5 i6 i7 HO3 HB3 HK3 hb4 q0 hb
  cases ht : (x n).toNat.testBit k
  ·have hyes : Hid (aeB (m : Int) m x n k = true) := by
    show _ = _
    unfold aeB
    rw [Hok.out, decide_eq_true (⟨by omega, by omega, by omega, by omega, by have := Hne.out; omega⟩ : 0 ≤ (n : Int) ∧ (n : Int) < m ∧ 0 ≤ (k : Int) ∧ (k : Int) < m ∧ (n : Int) ≠ k)]
    simp [ht]
   have ht1 : (r n).testBit k = false := by rw [HX.out n (by omega), Int.toNat_natCast] at ht; exact ht
   have ht2 : (r k).testBit n = false := by rw [← HV.out.sym n k (by omega) (by omega)]; exact ht1
   have hx128 : ∀ j, j < m → r j < 128 := fun j hj => HV.out.lt128 hj
   obtain ⟨g, rfl, hg1, hg2, hOc⟩ := HO4.out.only (by omega)
   have HO5 : Hid (Own w4 g (g + 1) 3 1 (some ⟨g, 0, none⟩) m c' (fun j => .int .i64 (r j : Int))) := hOc.congr (fun j hj => by rw [HX.out j (by omega)])
   obtain ⟨g', e1, _, _, hg3, hcg, hfg⟩ := HO5.out.at_ (by omega)
   simp only [Option.some.injEq, Addr.mk.injEq, and_true] at e1
   subst e1
   have c1 := hcg n (by omega)
   have c2 := hcg k (by omega)
   have s1 : wrap64 ((r n : Int) + 2 ^ k) = ((r n ^^^ 2 ^ k : Nat) : Int) := by
    have e := add_pow_bit ht1
    have h2 := two_pow_int k (by omega)
    have h3 := hx128 n (by omega)
    rw [← e]
    have e2 : ((r n + 2 ^ k : Nat) : Int) = (r n : Int) + 2 ^ k := by simp
    rw [e2]
    exact Go.IntWalk.wrap64_in ((r n : Int) + 2 ^ k) (by omega)
   have s2 : wrap64 ((r k : Int) + 2 ^ n) = ((r k ^^^ 2 ^ n : Nat) : Int) := by
    have e := add_pow_bit ht2
    have h2 := two_pow_int n (by omega)
    have h3 := hx128 k (by omega)
    rw [← e]
    have e2 : ((r k + 2 ^ n : Nat) : Int) = (r k : Int) + 2 ^ n := by simp
    rw [e2]
    exact Go.IntWalk.wrap64_in ((r k : Int) + 2 ^ n) (by omega)
   have f1 := hfg n
   have f2 := hfg k
   have p1 := pow_shl n (by omega)
   have p2 := pow_shl k (by omega)
   have i1 : (n : Int) < (m : Int) := by omega
   have i2 : (k : Int) < (m : Int) := by omega
   have HX128 := Lib.hid hx128
   have HXK : Hid (∀ j, j < m → x j = (r j : Int)) := HX.out
   clear HO4 hOc hcg hfg HX HV hx128 ht ht1 ht2 q1 q2
   go_wp2
   go_region
   have hgn : g ≠ w1.heap.size := by omega
   have hgm : g ≠ w.heap.size + 1 := by have := HZ.out; omega
   have hne2 : (k = n) = False := by have := Hne.out; simp; omega
   have hne3 : (n = k) = False := by have := Hne.out; simp; omega
   go_wp2
   go_region
   obtain ⟨W5, hW5⟩ : ∃ W5 : World, W5 = ((w4.setCell ⟨g, n, none⟩ (.int .i64 ((r n ^^^ 2 ^ k : Nat) : Int))).setCell ⟨g, k, none⟩ (.int .i64 ((r k ^^^ 2 ^ n : Nat) : Int))).drew.drew := ⟨_, rfl⟩
   have O5 : Hid (Own W5 g (g + 1) 3 1 (some ⟨g, 0, none⟩) m c' (fun j => .int .i64 (addN r n k j))) := by
    rw [hW5]
    refine ((((HO5.out.set_ n _).set_ k _).drew).drew).congr (fun j hj => ?_)
    have hne := Hne.out
    unfold addN
    by_cases h1 : j = k
    ·subst h1; rw [if_pos rfl, if_neg (fun e => hne e.symm), if_pos rfl]
    ·rw [if_neg h1]
     by_cases h2 : j = n
     ·subst h2; rw [if_pos rfl, if_pos rfl]
     ·rw [if_neg h2, if_neg h2, if_neg h1]
   have F5 : Fr g (g + 1) w4 W5 := by rw [hW5]; exact (((Fr.refl _ _ w4).setCell (p := ⟨g, n, none⟩) (Nat.le_refl _) (Nat.lt_succ_self _) _).setCell (p := ⟨g, k, none⟩) (Nat.le_refl _) (Nat.lt_succ_self _) _).drew.drew
   have hgl : g < w1.heap.size := hg2
   have hgh : w.heap.size + 2 ≤ g := by have := HZ.out; omega
   have l2 := frC F5 j2 ww1 (by omega)
   have l3 := frC F5 j3 ww1 (by omega)
   have l4 := frZ F5 j4 ww1 (by omega)
   have l5 := frZ F5 j5 ww1 (by omega)
   have l6 := frC F5 j6 ww2 (by omega)
   have l7 := frC F5 j7 ww2 (by omega)
   have z5 := F5.size
   have HB5 : Hid (Below w.heap.size w W5) := HB4.out.trans (F5.below (by omega) (by omega))
   rw [← hW5]
   have HXr : Hid (∀ j, j < m → aeX (m : Int) m x n k j = (addN r n k j : Int)) := by
    intro j hj
    unfold aeX
    rw [hyes.out]
    simp only [if_true]
    unfold addN
    simp only [Int.toNat_natCast, HXK.out j hj]
   clear hW5 F5 j2 j3 j4 j5 j6 j7 c1 c2 s1 s2 f1 f2 p1 p2 HB4 HO5 hne2 hne3 hgn hgm
   go_wp2
   have F : Fr (w.heap.size + 1) (w.heap.size + 2) W5 _ := ((Fr.refl _ _ W5).setCell (p := ⟨w.heap.size + 1, 0, none⟩) (Nat.le_refl _) (Nat.lt_succ_self _) (Value.int IntKind.i64 m)).setCell (p := ⟨w.heap.size + 1, 1, none⟩) (Nat.le_refl _) (Nat.lt_succ_self _) (Value.slice (some ⟨g, 0, none⟩) m c')
   have O1 := ((O5.out.keep F (.inr hgh)).mono (lo' := w.heap.size + 2) hgh (Nat.le_trans (by omega) F.size))
   exact bodyPost_ret (v := .tuple #[.agg #[.int .i64 m, .slice (some ⟨g, 0, none⟩) m c'], .bool true]) (by simp [results, Tryz.results122, go_sem, *]) rfl ⟨some ⟨g, 0, none⟩, c', by rw [hyes.out], O1.congr (fun j hj => by rw [HXr.out j (by omega)]), HB5.out.trans (F.below (by omega) (by omega))⟩
  ·have hno : Hid (aeB (m : Int) m x n k = false) := by
    show _ = _
    cases hb : aeB (m : Int) m x n k
    ·rfl
    ·have := (aeB_parts hb).2.2; simp [ht] at this
   clear ht
   go_wp2
   have F : Fr (w.heap.size + 1) (w.heap.size + 2) w4 _ := ((Fr.refl _ _ w4).setCell (p := ⟨w.heap.size + 1, 0, none⟩) (Nat.le_refl _) (Nat.lt_succ_self _) (Value.int IntKind.i64 m)).setCell (p := ⟨w.heap.size + 1, 1, none⟩) (Nat.le_refl _) (Nat.lt_succ_self _) (Value.slice A' m c')
   have O1 := ((HO4.out.keep F (.inr (by have := HZ.out; omega))).mono (lo' := w.heap.size + 2) (by have := HZ.out; omega) (Nat.le_trans (by omega) F.size))
   exact bodyPost_ret (v := .tuple #[.agg #[.int .i64 m, .slice A' m c'], .bool false]) (by simp [results, Tryz.results122, go_sem, *]) rfl ⟨A', c', by rw [hno.out], O1.congr (fun j hj => by rw [aeX_no hno.out]), HB4.out.trans (F.below (by omega) (by omega))⟩
end Go.Proofs.YtppkokgiojcgbaaGreatDoor
/-
 Contract: a graph and a list of edges more, of the program.
-/
namespace Go.Proofs.YtppkokgiojcgbaaGreatDoor
open Go.RowKit
theorem drop_at {D : List Dsc} {k : Nat} {d : Dsc} (h : D[k]? = some d) : (lists D).drop k = d.2.2 :: (lists D).drop (k + 1) := by
 have h1 : (lists D)[k]? = some d.2.2 := by simp [lists, h]
 obtain ⟨hlt, he⟩ := List.getElem?_eq_some_iff.1 h1
 rw [List.drop_eq_getElem_cons hlt, he]
theorem two_of {l : List Int} (h : l.length = 2) : ∃ v u, l = [v, u] := by
 match l, h with
 | [v, u], _ => exact ⟨v, u, rfl⟩
set_option maxRecDepth 100000 in
set_option maxHeartbeats 1600000 in
theorem AddAll_i (s1 : Int) (A1 : Option Addr) (m1 c1 : Nat) (x1 : Nat → Int) (A2 : Option Addr) (c2 : Nat) (D : List Dsc) (w : World) (B : Nat) (h1 : Rd w B A1 m1 c1 x1) (h2 : RdD w B A2 c2 D) (hB : B ≤ w.heap.size) (hm1 : m1 ≤ 1048576) (hd : D.length ≤ 1048576) (_ht : tot D ≤ 1048576) (L : List (List Int)) (hL : lists D = L) :
 Calls Tryz.prog 167 #[.agg #[.int .i64 s1, .slice A1 m1 c1], .slice A2 D.length c2] w fun e w' => ∃ A' c', e = .returned (.tuple #[.agg #[.int .i64 (aaZ s1 m1 x1 L), .slice A' (aaN s1 m1 x1 L) c'], .bool (aaB s1 m1 x1 L)]) ∧ Own w' w.heap.size w'.heap.size 3 1 A' (aaN s1 m1 x1 L) c' (fun j => .int .i64 (aaX s1 m1 x1 L j)) ∧ Below w.heap.size w w' := by
 subst hL
 obtain ⟨W, hW⟩ : ∃ W : World, W = ((w.alloc (Obj.cells #[Value.int IntKind.i64 s1, Value.slice A1 m1 c1] 29)).alloc (Obj.cells #[Value.int IntKind.i64 0, Value.slice none 0 0] 29)) := ⟨_, rfl⟩
 have HB : Hid (Below w.heap.size w W) := by rw [hW]; exact ((Below.refl _ _).alloc (Nat.le_refl _) _).alloc (by simp) _
 have HZ : Hid (w.heap.size + 2 = W.heap.size) := by rw [hW]; simp [Hid]
 have a0 : w.heap.size < W.heap.size := by have := HZ.out; omega
 have a1 : w.heap.size + 1 < W.heap.size := by have := HZ.out; omega
 have e0 : W.cell? ⟨w.heap.size, 0, none⟩ = some (.int .i64 s1) := by rw [hW]; simp [go_sem]
 have e1 : W.cell? ⟨w.heap.size, 1, none⟩ = some (.slice A1 m1 c1) := by rw [hW]; simp [go_sem]
 have e2 : W.cell? ⟨w.heap.size + 1, 0, none⟩ = some (.int .i64 0) := by rw [hW]; simp [go_sem]
 have e3 : W.cell? ⟨w.heap.size + 1, 1, none⟩ = some (.slice none 0 0) := by rw [hW]; simp [go_sem]
 have e4 : W.frozen? ⟨w.heap.size + 1, 0, none⟩ = false := by rw [hW]; simp [go_sem]
 have e5 : W.frozen? ⟨w.heap.size + 1, 1, none⟩ = false := by rw [hW]; simp [go_sem]
 have HK := Lib.hid (h1.keep (HB.out.mono hB) (Nat.le_refl _))
 have HD := Lib.hid (h2.keep (HB.out.mono hB) (Nat.le_refl _))
 have HW := Lib.hid hW
 clear hW h1 h2
 go_enter Tryz.func167, Tryz.ntmps167
 go_wp2_with fail
 rw [← HW.out]
 refine (IsGraph_any s1 A1 m1 c1 x1 W B HK.out (by omega) hm1).mono ?_
 rintro e w1 ⟨rfl, hb1⟩
 have f0 := up hb1 e0 a0
 have f1 := up hb1 e1 a0
 have f2 := up hb1 e2 a1
 have f3 := up hb1 e3 a1
 have f4 := upf hb1 e4 a1
 have f5 := upf hb1 e5 a1
 have z1 := hb1.size
 have b0 : w.heap.size < w1.heap.size := by omega
 have b1 : w.heap.size + 1 < w1.heap.size := by omega
 have HK1 : Hid (Rd w1 B A1 m1 c1 x1) := HK.out.keep (hb1.mono (by omega)) (Nat.le_refl _)
 have HD1 : Hid (RdD w1 B A2 c2 D) := HD.out.keep (hb1.mono (by omega)) (Nat.le_refl _)
 have HB1 : Hid (Below w.heap.size w w1) := HB.out.trans (hb1.mono (by omega))
 clear HW HB e0 e1 e2 e3 e4 e5 hb1 HK HD
 cases ho : okB s1 m1 x1
 ·have hn : Hid (aaR s1 m1 x1 (lists D) = none) := aaR_no ho
  clear ho
  go_wp2
  have F : Fr (w.heap.size + 1) (w.heap.size + 2) w1 _ := ((Fr.refl _ _ w1).setCell (p := ⟨w.heap.size + 1, 0, none⟩) (Nat.le_refl _) (Nat.lt_succ_self _) (Value.int IntKind.i64 0)).setCell (p := ⟨w.heap.size + 1, 1, none⟩) (Nat.le_refl _) (Nat.lt_succ_self _) (Value.slice none 0 0)
  exact bodyPost_ret (v := .tuple #[.agg #[.int .i64 0, .slice none 0 0], .bool false]) (by simp [results, Tryz.results167, go_sem, *]) rfl ⟨none, 0, by rw [(aa_none hn.out).1, (aa_none hn.out).2.1, (aa_none hn.out).2.2], by rw [(aa_none hn.out).2.1]; exact Own.nil _ _ _ _ _ _, HB1.out.trans (F.below (by omega) (by omega))⟩
 ·have hR : Hid (aaR s1 m1 x1 (lists D) = aaF s1 m1 (lists D) x1) := aaR_yes ho
  have Ho := Lib.hid ho
  have hpos : 0 < m1 := by obtain ⟨r, es, vg, _⟩ := okB_ok' ho; have := vg.n1; omega
  clear ho
  go_wp2_with fail
  refine (copyGraph_any s1 A1 m1 c1 x1 w1 B HK1.out (by omega) hm1).mono ?_
  rintro e w2 ⟨A', c', rfl, hO, hb2⟩
  have z2 := hb2.size
  have g2 := up hb2 f2 b1
  have g3 := up hb2 f3 b1
  have g4 := upf hb2 f4 b1
  have g5 := upf hb2 f5 b1
  have d1 : w.heap.size + 1 < w2.heap.size := by omega
  have HD2 : Hid (RdD w2 B A2 c2 D) := HD1.out.keep (hb2.mono (by omega)) (Nat.le_refl _)
  have HB2 : Hid (Below w.heap.size w w2) := HB1.out.trans (hb2.mono (by omega))
  have HO : Hid (Own w2 (w.heap.size + 2) w2.heap.size 3 1 A' m1 c' (fun j => .int .i64 (x1 j))) := hO.mono (by have := HZ.out; omega) (Nat.le_refl _)
  clear f0 f1 f2 f3 f4 f5 hO hb2 HK1 HD1 HB1 b0 b1
  go_wp2
  go_loopw [19] (fun i wr => ∃ (k : Nat) (A' : Option Addr) (c' : Nat) (y : Nat → Int), k ≤ D.length ∧ i = .int .i64 k ∧ wr.cell? ⟨w2.heap.size, 0, none⟩ = some (.int .i64 s1) ∧ wr.cell? ⟨w2.heap.size, 1, none⟩ = some (.slice A' m1 c') ∧ wr.frozen? ⟨w2.heap.size, 0, none⟩ = false ∧ wr.frozen? ⟨w2.heap.size, 1, none⟩ = false ∧ w2.heap.size < wr.heap.size ∧ Hid (Own wr (w.heap.size + 2) wr.heap.size 3 1 A' m1 c' (fun j => .int .i64 (y j))) ∧ Hid (okB s1 m1 y = true) ∧ Hid (aaR s1 m1 x1 (lists D) = aaF s1 m1 ((lists D).drop k) y) ∧ Hid (Below w2.heap.size w2 wr)) (fun i _ => D.length - (intOf i).toNat)
  case atStart => exact ⟨0, A', c', x1, Nat.zero_le _, rfl, by simp [go_sem], by simp [go_sem], by simp [go_sem], by simp [go_sem], by simp, (HO.out.alloc _).mono (Nat.le_refl _) (by simp), Ho, hR, (Below.refl _ _).alloc (Nat.le_refl _) _⟩
  case round =>
   obtain ⟨k, A4, c4, y, hk, rfl, i0, i1, i2, i3, i4, HY, Hy, HR, Hbr⟩ := hrel
   have j2 := up Hbr.out g2 d1
   have j3 := up Hbr.out g3 d1
   have j4 := upf Hbr.out g4 d1
   have j5 := upf Hbr.out g5 d1
   clear g2 g3 g4 g5
   by_cases hlt : k < D.length
   ·obtain ⟨⟨Ad, cd, l⟩, hdk, hmem, hdv⟩ := dvs_at hlt
    obtain ⟨b, o, rfl, hb, hc⟩ := HD2.out.1.2 (by omega)
    have q0 := (Hbr.out.cell (p := ⟨b, o + k, none⟩) (by show b < _; omega)).trans (hc k hlt)
    rw [hdv] at q0
    have q1 : wr.cell? ⟨b, o + k, none⟩ = some (.slice Ad l.length cd) := q0
    have hrd : Rd wr wr.heap.size Ad l.length cd (fun i => l.getD i 0) := (HD2.out.2 (Ad, cd, l) hmem).keep (Hbr.out.mono (by omega)) (by omega)
    have hdr : (lists D).drop k = l :: (lists D).drop (k + 1) := drop_at hdk
    have i5 : (k : Int) < (D.length : Int) := by omega
    clear hc q0 hdv hmem
    by_cases hl2 : l.length = 2
    ·obtain ⟨v, u, rfl⟩ := two_of hl2
     obtain ⟨bd, od, rfl, hbd, hcd⟩ := hrd.2 (by simp)
     have r0 : wr.cell? ⟨bd, od, none⟩ = some (.int .i64 v) := hcd 0 (by simp)
     have r1 : wr.cell? ⟨bd, od + 1, none⟩ = some (.int .i64 u) := hcd 1 (by simp)
     have q2 : wr.cell? ⟨b, o + k, none⟩ = some (.slice (some ⟨bd, od, none⟩) 2 cd) := q1
     have Hdr := Lib.hid hdr
     obtain ⟨t, ht⟩ : ∃ t, t = aeB s1 m1 y v u := ⟨_, rfl⟩
     have Ht := Lib.hid ht
     have HA : Hid (Rd wr.drew wr.heap.size A4 m1 c4 y) := HY.out.rd
     have HLE : Hid (wr.heap.size ≤ wr.drew.heap.size) := Nat.le_refl _
     have HKP : Hid (∀ a z : World, (w2.heap.size < a.heap.size ∧ bd < a.heap.size ∧ a.cell? ⟨w2.heap.size, 0, none⟩ = some (.int .i64 s1) ∧ a.cell? ⟨w2.heap.size, 1, none⟩ = some (.slice A4 m1 c4) ∧ a.cell? ⟨bd, od, none⟩ = some (.int .i64 v) ∧ a.cell? ⟨bd, od + 1, none⟩ = some (.int .i64 u)) → Below a.heap.size a z → (w2.heap.size < z.heap.size ∧ bd < z.heap.size ∧ z.cell? ⟨w2.heap.size, 0, none⟩ = some (.int .i64 s1) ∧ z.cell? ⟨w2.heap.size, 1, none⟩ = some (.slice A4 m1 c4) ∧ z.cell? ⟨bd, od, none⟩ = some (.int .i64 v) ∧ z.cell? ⟨bd, od + 1, none⟩ = some (.int .i64 u))) := by
      rintro a z ⟨p0, p1, p2, p3, p4, p5⟩ hb
      have := hb.size
      exact ⟨by omega, by omega, up hb p2 p0, up hb p3 p0, up hb p4 p1, up hb p5 p1⟩
     have HS : Hid (w2.heap.size < wr.drew.heap.size ∧ bd < wr.drew.heap.size ∧ wr.drew.cell? ⟨w2.heap.size, 0, none⟩ = some (.int .i64 s1) ∧ wr.drew.cell? ⟨w2.heap.size, 1, none⟩ = some (.slice A4 m1 c4) ∧ wr.drew.cell? ⟨bd, od, none⟩ = some (.int .i64 v) ∧ wr.drew.cell? ⟨bd, od + 1, none⟩ = some (.int .i64 u)) := ⟨i4, hbd, i0, i1, r0, r1⟩
     have HKA : Hid (∀ (a : World) (o : Obj), (w2.heap.size < a.heap.size ∧ bd < a.heap.size ∧ a.cell? ⟨w2.heap.size, 0, none⟩ = some (.int .i64 s1) ∧ a.cell? ⟨w2.heap.size, 1, none⟩ = some (.slice A4 m1 c4) ∧ a.cell? ⟨bd, od, none⟩ = some (.int .i64 v) ∧ a.cell? ⟨bd, od + 1, none⟩ = some (.int .i64 u)) → (w2.heap.size < (a.alloc o).heap.size ∧ bd < (a.alloc o).heap.size ∧ (a.alloc o).cell? ⟨w2.heap.size, 0, none⟩ = some (.int .i64 s1) ∧ (a.alloc o).cell? ⟨w2.heap.size, 1, none⟩ = some (.slice A4 m1 c4) ∧ (a.alloc o).cell? ⟨bd, od, none⟩ = some (.int .i64 v) ∧ (a.alloc o).cell? ⟨bd, od + 1, none⟩ = some (.int .i64 u))) := by
      rintro a o h
      exact HKP.out a _ h ((Below.refl _ _).alloc (Nat.le_refl _) _)
     have HKS : Hid (∀ (a : World) (j : Nat) (x : Value), (w2.heap.size < a.heap.size ∧ bd < a.heap.size ∧ a.cell? ⟨w2.heap.size, 0, none⟩ = some (.int .i64 s1) ∧ a.cell? ⟨w2.heap.size, 1, none⟩ = some (.slice A4 m1 c4) ∧ a.cell? ⟨bd, od, none⟩ = some (.int .i64 v) ∧ a.cell? ⟨bd, od + 1, none⟩ = some (.int .i64 u)) → (w2.heap.size < (a.setCell ⟨wr.heap.size, j, none⟩ x).heap.size ∧ bd < (a.setCell ⟨wr.heap.size, j, none⟩ x).heap.size ∧ (a.setCell ⟨wr.heap.size, j, none⟩ x).cell? ⟨w2.heap.size, 0, none⟩ = some (.int .i64 s1) ∧ (a.setCell ⟨wr.heap.size, j, none⟩ x).cell? ⟨w2.heap.size, 1, none⟩ = some (.slice A4 m1 c4) ∧ (a.setCell ⟨wr.heap.size, j, none⟩ x).cell? ⟨bd, od, none⟩ = some (.int .i64 v) ∧ (a.setCell ⟨wr.heap.size, j, none⟩ x).cell? ⟨bd, od + 1, none⟩ = some (.int .i64 u))) := by
      rintro a j x ⟨p0, p1, p2, p3, p4, p5⟩
      have hne : ∀ (b' o' : Nat), b' < wr.heap.size → (a.setCell ⟨wr.heap.size, j, none⟩ x).cell? ⟨b', o', none⟩ = a.cell? ⟨b', o', none⟩ := fun b' o' hb' => World.cell?_setCell_other a _ _ _ (fun e => by injection e with e1; omega)
      exact ⟨by simpa [World.setCell] using p0, by simpa [World.setCell] using p1, (hne _ _ i4).trans p2, (hne _ _ i4).trans p3, (hne _ _ hbd).trans p4, (hne _ _ hbd).trans p5⟩
     have HS2 : Hid (w2.heap.size < ((wr.alloc (Obj.cells #[Value.int IntKind.i64 0, Value.slice none 0 0] 29)).drew).heap.size ∧ bd < ((wr.alloc (Obj.cells #[Value.int IntKind.i64 0, Value.slice none 0 0] 29)).drew).heap.size ∧ ((wr.alloc (Obj.cells #[Value.int IntKind.i64 0, Value.slice none 0 0] 29)).drew).cell? ⟨w2.heap.size, 0, none⟩ = some (.int .i64 s1) ∧ ((wr.alloc (Obj.cells #[Value.int IntKind.i64 0, Value.slice none 0 0] 29)).drew).cell? ⟨w2.heap.size, 1, none⟩ = some (.slice A4 m1 c4) ∧ ((wr.alloc (Obj.cells #[Value.int IntKind.i64 0, Value.slice none 0 0] 29)).drew).cell? ⟨bd, od, none⟩ = some (.int .i64 v) ∧ ((wr.alloc (Obj.cells #[Value.int IntKind.i64 0, Value.slice none 0 0] 29)).drew).cell? ⟨bd, od + 1, none⟩ = some (.int .i64 u)) := HKA.out _ _ HS.out
     have N0 : Hid (((wr.alloc (Obj.cells #[Value.int IntKind.i64 0, Value.slice none 0 0] 29)).drew).cell? ⟨wr.heap.size, 0, none⟩ = some (.int .i64 0)) := by show (wr.alloc _).cell? _ = _; simp [go_sem]
     have N1 : Hid (((wr.alloc (Obj.cells #[Value.int IntKind.i64 0, Value.slice none 0 0] 29)).drew).cell? ⟨wr.heap.size, 1, none⟩ = some (.slice none 0 0)) := by show (wr.alloc _).cell? _ = _; simp [go_sem]
     have N2 : Hid (((wr.alloc (Obj.cells #[Value.int IntKind.i64 0, Value.slice none 0 0] 29)).drew).frozen? ⟨wr.heap.size, 0, none⟩ = false) := by show (wr.alloc _).frozen? _ = _; simp [go_sem]
     have N3 : Hid (((wr.alloc (Obj.cells #[Value.int IntKind.i64 0, Value.slice none 0 0] 29)).drew).frozen? ⟨wr.heap.size, 1, none⟩ = false) := by show (wr.alloc _).frozen? _ = _; simp [go_sem]
     have N4 : Hid (wr.heap.size < ((wr.alloc (Obj.cells #[Value.int IntKind.i64 0, Value.slice none 0 0] 29)).drew).heap.size) := by show wr.heap.size < (wr.alloc _).heap.size; simp
     have HA2 : Hid (Rd ((wr.alloc (Obj.cells #[Value.int IntKind.i64 0, Value.slice none 0 0] 29)).drew) wr.heap.size A4 m1 c4 y) := HY.out.rd.keep (((Below.refl _ _).alloc (Nat.le_refl _) _).drew) (Nat.le_refl _)
     have HLE2 : Hid (wr.heap.size ≤ ((wr.alloc (Obj.cells #[Value.int IntKind.i64 0, Value.slice none 0 0] 29)).drew).heap.size) := by show wr.heap.size ≤ (wr.alloc _).heap.size; simp
     clear hrd hcd hdr ht q1 hl2
     go_wp2
     go_region_held3 (fun z => w2.heap.size < z.heap.size ∧ bd < z.heap.size ∧ z.cell? ⟨w2.heap.size, 0, none⟩ = some (.int .i64 s1) ∧ z.cell? ⟨w2.heap.size, 1, none⟩ = some (.slice A4 m1 c4) ∧ z.cell? ⟨bd, od, none⟩ = some (.int .i64 v) ∧ z.cell? ⟨bd, od + 1, none⟩ = some (.int .i64 u))
      (first | (refine ⟨?_, ?_, ?_, ?_, ?_, ?_⟩ <;> assumption) | exact HKA.out _ _ HS.out | exact HKP.out _ _ HS.out hb4 | exact HKP.out _ _ HS2.out hb4 | exact HKA.out _ _ (HKP.out _ _ HS.out hb4) | exact HKS.out _ _ _ (HKP.out _ _ HS2.out hb4) | exact HKS.out _ _ _ (HKS.out _ _ _ (HKP.out _ _ HS2.out hb4)) | fail)
      (first | (go_at_call 120; ((with_reducible refine (AddEdge_i s1 A4 m1 c4 y v u _ _ HA.out HLE.out hm1 Hy.out).mono ?_); rintro e w4 ⟨A5, c5, rfl, hO4, hb4⟩)) | (go_at_call 120; ((with_reducible refine (AddEdge_i s1 A4 m1 c4 y v u _ _ HA2.out HLE2.out hm1 Hy.out).mono ?_); rintro e w4 ⟨A5, c5, rfl, hO4, hb4⟩; have n0 := up hb4 N0.out N4.out; have n1 := up hb4 N1.out N4.out; have n2 := upf hb4 N2.out N4.out; have n3 := upf hb4 N3.out N4.out)))
     clear HS HS2 HA HA2 HLE HLE2 HKP HKA HKS
     all_goals
      first
       | (obtain ⟨W5, hW5⟩ : ∃ W5 : World, W5 = ((w4.setCell ⟨wr.heap.size, 0, none⟩ (.int .i64 s1)).setCell ⟨wr.heap.size, 1, none⟩ (.slice A5 m1 c5)) := ⟨_, rfl⟩
          rw [← hW5]
          have hbb : Below wr.heap.size wr w4 := ((((Below.refl wr.heap.size wr).alloc (Nat.le_refl _) _).drew).trans (hb4.mono (Nat.le_of_lt N4.out)))
          have HB5 : Hid (Below wr.heap.size wr W5) := by rw [hW5]; exact (hbb.setCell (p := ⟨wr.heap.size, 0, none⟩) (Nat.le_refl _) _).setCell (p := ⟨wr.heap.size, 1, none⟩) (Nat.le_refl _) _
          have n5 : W5.cell? ⟨wr.heap.size, 0, none⟩ = some (.int .i64 s1) := by rw [hW5]; simp [go_sem, n0]
          have n6 : W5.cell? ⟨wr.heap.size, 1, none⟩ = some (.slice A5 m1 c5) := by rw [hW5]; simp [go_sem, n1]
          have n7 : wr.heap.size < W5.heap.size := by have := hb4.size; have := N4.out; rw [hW5]; simp [World.setCell]; omega
          have HO5 : Hid (Own W5 wr.heap.size W5.heap.size 3 1 A5 m1 c5 (fun j => .int .i64 (aeX s1 m1 y v u j))) := by
           have F := ((Fr.refl wr.heap.size (wr.heap.size + 1) w4).setCell (p := ⟨wr.heap.size, 0, none⟩) (Nat.le_refl _) (Nat.lt_succ_self _) (Value.int .i64 s1)).setCell (p := ⟨wr.heap.size, 1, none⟩) (Nat.le_refl _) (Nat.lt_succ_self _) (Value.slice A5 m1 c5)
           rw [hW5]
           exact (hO4.keep F (.inr (by have := N4.out; omega))).mono (by have := N4.out; omega) F.size
          clear hW5 hbb hb4 hO4 n0 n1 n2 n3)
       | (obtain ⟨W5, hW5⟩ : ∃ W5 : World, W5 = (w4.alloc (Obj.cells #[.int .i64 s1, .slice A5 m1 c5] 29)) := ⟨_, rfl⟩
          rw [← hW5]
          have hbb : Below wr.heap.size wr w4 := ((Below.refl wr.heap.size wr).drew).trans hb4
          have HB5 : Hid (Below wr.heap.size wr W5) := by rw [hW5]; exact hbb.alloc hbb.size _
          have n5 : W5.cell? ⟨w4.heap.size, 0, none⟩ = some (.int .i64 s1) := by rw [hW5]; simp [go_sem]
          have n6 : W5.cell? ⟨w4.heap.size, 1, none⟩ = some (.slice A5 m1 c5) := by rw [hW5]; simp [go_sem]
          have n7 : w4.heap.size < W5.heap.size := by rw [hW5]; simp
          have HO5 : Hid (Own W5 wr.heap.size W5.heap.size 3 1 A5 m1 c5 (fun j => .int .i64 (aeX s1 m1 y v u j))) := by
           rw [hW5]
           exact (hO4.alloc _).mono (by show wr.heap.size ≤ wr.heap.size + 2; omega) (by simp)
          clear hW5 hbb hb4 hO4)
       | fail
      have l0 := up HB5.out i0 i4
      have l1 := up HB5.out i1 i4
      have l2 := upf HB5.out i2 i4
      have l3 := upf HB5.out i3 i4
      have l4 : w2.heap.size < W5.heap.size := by have := HB5.out.size; omega
      have j2' := up HB5.out j2 (by omega)
      have j3' := up HB5.out j3 (by omega)
      have j4' := upf HB5.out j4 (by omega)
      have j5' := upf HB5.out j5 (by omega)
      have l5 : w.heap.size + 1 < W5.heap.size := by omega
      have HB6 : Hid (Below w2.heap.size w2 W5) := Hbr.out.trans (HB5.out.mono (by omega))
      have HB7 : Hid (Below w.heap.size w W5) := HB2.out.trans (HB6.out.mono (by omega))
      rw [← Ht.out]
      clear i0 i1 i2 i3 j2 j3 j4 j5 r0 r1 q2 N0 N1 N2 N3 N4 hdk
      cases t
      ·have hn : Hid (aaR s1 m1 x1 (lists D) = none) := by
        show _ = _
        rw [HR.out, Hdr.out, aaF_no Ht.out.symm]
       go_wp2
       have F : Fr (w.heap.size + 1) (w.heap.size + 2) W5 _ := ((Fr.refl _ _ W5).setCell (p := ⟨w.heap.size + 1, 0, none⟩) (Nat.le_refl _) (Nat.lt_succ_self _) (Value.int IntKind.i64 0)).setCell (p := ⟨w.heap.size + 1, 1, none⟩) (Nat.le_refl _) (Nat.lt_succ_self _) (Value.slice none 0 0)
       exact bodyPost_ret (v := .tuple #[.agg #[.int .i64 0, .slice none 0 0], .bool false]) (by simp [results, Tryz.results167, go_sem, *]) rfl ⟨none, 0, by rw [(aa_none hn.out).1, (aa_none hn.out).2.1, (aa_none hn.out).2.2], by rw [(aa_none hn.out).2.1]; exact Own.nil _ _ _ _ _ _, HB7.out.trans (F.below (by omega) (by omega))⟩
      ·have hs : Hid (aaR s1 m1 x1 (lists D) = aaF s1 m1 ((lists D).drop (k + 1)) (aeX s1 m1 y v u)) := by
        show _ = _
        rw [HR.out, Hdr.out, aaF_yes Ht.out.symm]
       have Hy2 : Hid (okB s1 m1 (aeX s1 m1 y v u) = true) := aeX_ok Hy.out
       go_wp2
       have F6 : Fr w2.heap.size (w2.heap.size + 1) W5 ((W5.setCell ⟨w2.heap.size, 0, none⟩ (.int .i64 s1)).setCell ⟨w2.heap.size, 1, none⟩ (.slice A5 m1 c5)) := ((Fr.refl _ _ W5).setCell (p := ⟨w2.heap.size, 0, none⟩) (Nat.le_refl _) (Nat.lt_succ_self _) (Value.int .i64 s1)).setCell (p := ⟨w2.heap.size, 1, none⟩) (Nat.le_refl _) (Nat.lt_succ_self _) (Value.slice A5 m1 c5)
       have HF := Lib.hid F6
       clear F6
       go_roundw
       case rel =>
        exact ⟨k + 1, A5, c5, aeX s1 m1 y v u, by omega, by go_num, by simp [go_sem, l0], by simp [go_sem, l1], by simp [go_sem, l2], by simp [go_sem, l3], by have := HF.out.size; omega, (HO5.out.keep HF.out (.inr (by omega))).mono (by omega) HF.out.size, Hy2, hs, (HB6.out.setCell (p := ⟨w2.heap.size, 0, none⟩) (Nat.le_refl _) _).setCell (p := ⟨w2.heap.size, 1, none⟩) (Nat.le_refl _) _⟩
       case measure => simp [intOf]; omega
    ·have hne : ((l.length : Int) != 2) = true := by simp; omega
     have hn : Hid (aaR s1 m1 x1 (lists D) = none) := by
      show _ = _
      rw [HR.out, hdr, aaF_short hl2]
     have HB7 : Hid (Below w.heap.size w wr) := HB2.out.trans (Hbr.out.mono (by omega))
     clear hl2 hrd hdr i0 i1 i2 i3
     go_wp2
     have F : Fr (w.heap.size + 1) (w.heap.size + 2) wr _ := ((Fr.refl _ _ wr).setCell (p := ⟨w.heap.size + 1, 0, none⟩) (Nat.le_refl _) (Nat.lt_succ_self _) (Value.int IntKind.i64 0)).setCell (p := ⟨w.heap.size + 1, 1, none⟩) (Nat.le_refl _) (Nat.lt_succ_self _) (Value.slice none 0 0)
     exact bodyPost_ret (v := .tuple #[.agg #[.int .i64 0, .slice none 0 0], .bool false]) (by simp [results, Tryz.results167, go_sem, *]) rfl ⟨none, 0, by rw [(aa_none hn.out).1, (aa_none hn.out).2.1, (aa_none hn.out).2.2], by rw [(aa_none hn.out).2.1]; exact Own.nil _ _ _ _ _ _, HB7.out.trans (F.below (by omega) (by omega))⟩
   ·have hke : (lists D).drop k = [] := List.drop_eq_nil_of_le (by rw [lists, List.length_map]; omega)
    have hs : Hid (aaR s1 m1 x1 (lists D) = some y) := by
     show _ = _
     rw [HR.out, hke]; rfl
    have HB7 : Hid (Below w.heap.size w wr) := HB2.out.trans (Hbr.out.mono (by omega))
    have i5 : (D.length : Int) ≤ (k : Int) := by omega
    clear hke
    go_wp2
    have F : Fr (w.heap.size + 1) (w.heap.size + 2) wr _ := ((Fr.refl _ _ wr).setCell (p := ⟨w.heap.size + 1, 0, none⟩) (Nat.le_refl _) (Nat.lt_succ_self _) (Value.int IntKind.i64 s1)).setCell (p := ⟨w.heap.size + 1, 1, none⟩) (Nat.le_refl _) (Nat.lt_succ_self _) (Value.slice A4 m1 c4)
    have O1 := (HY.out.keep F (.inr (Nat.le_refl _))).mono (lo' := w.heap.size) (by omega) F.size
    exact bodyPost_ret (v := .tuple #[.agg #[.int .i64 s1, .slice A4 m1 c4], .bool true]) (by simp [results, Tryz.results167, go_sem, *]) rfl ⟨A4, c4, by rw [(aa_some hs.out).1, (aa_some hs.out).2.1, (aa_some hs.out).2.2.1], by rw [(aa_some hs.out).2.1, (aa_some hs.out).2.2.2]; exact O1, HB7.out.trans (F.below (by omega) (by omega))⟩
end Go.Proofs.YtppkokgiojcgbaaGreatDoor
/-
 Contract: a graph and a list of edges more, of the reference.
-/
namespace Go.Proofs.YtppkokgiojcgbaaGreatDoor
open Go.RowKit
theorem aaR_none {sz : Int} {m : Nat} {x : Nat → Int} {L : List (List Int)} (h : aaF sz m L x = none) : aaR sz m x L = none := by
 unfold aaR; rw [h]; split <;> rfl
set_option maxRecDepth 100000 in
set_option maxHeartbeats 1600000 in
theorem AddAll_s (s1 : Int) (A1 : Option Addr) (m1 c1 : Nat) (x1 : Nat → Int) (A2 : Option Addr) (c2 : Nat) (D : List Dsc) (w : World) (B : Nat) (h1 : Rd w B A1 m1 c1 x1) (h2 : RdD w B A2 c2 D) (hB : B ≤ w.heap.size) (hm1 : m1 ≤ 1048576) (hd : D.length ≤ 1048576) (_ht : tot D ≤ 1048576) (L : List (List Int)) (hL : lists D = L) :
 Calls Tryz.prog 100 #[.agg #[.int .i64 s1, .slice A1 m1 c1], .slice A2 D.length c2] w fun e w' => ∃ A' c', e = .returned (.tuple #[.agg #[.int .i64 (aaZ s1 m1 x1 L), .slice A' (aaN s1 m1 x1 L) c'], .bool (aaB s1 m1 x1 L)]) ∧ Own w' w.heap.size w'.heap.size 3 1 A' (aaN s1 m1 x1 L) c' (fun j => .int .i64 (aaX s1 m1 x1 L j)) ∧ Below w.heap.size w w' := by
 subst hL
 obtain ⟨W, hW⟩ : ∃ W : World, W = ((w.alloc (Obj.cells #[Value.int IntKind.i64 s1, Value.slice A1 m1 c1] 29)).alloc (Obj.cells #[Value.int IntKind.i64 0, Value.slice none 0 0] 29)) := ⟨_, rfl⟩
 have HB : Hid (Below w.heap.size w W) := by rw [hW]; exact ((Below.refl _ _).alloc (Nat.le_refl _) _).alloc (by simp) _
 have HZ : Hid (w.heap.size + 2 = W.heap.size) := by rw [hW]; simp [Hid]
 have a0 : w.heap.size < W.heap.size := by have := HZ.out; omega
 have a1 : w.heap.size + 1 < W.heap.size := by have := HZ.out; omega
 have e0 : W.cell? ⟨w.heap.size, 0, none⟩ = some (.int .i64 s1) := by rw [hW]; simp [go_sem]
 have e1 : W.cell? ⟨w.heap.size, 1, none⟩ = some (.slice A1 m1 c1) := by rw [hW]; simp [go_sem]
 have e2 : W.cell? ⟨w.heap.size + 1, 0, none⟩ = some (.int .i64 0) := by rw [hW]; simp [go_sem]
 have e3 : W.cell? ⟨w.heap.size + 1, 1, none⟩ = some (.slice none 0 0) := by rw [hW]; simp [go_sem]
 have e4 : W.frozen? ⟨w.heap.size + 1, 0, none⟩ = false := by rw [hW]; simp [go_sem]
 have e5 : W.frozen? ⟨w.heap.size + 1, 1, none⟩ = false := by rw [hW]; simp [go_sem]
 have HK := Lib.hid (h1.keep (HB.out.mono hB) (Nat.le_refl _))
 have HD := Lib.hid (h2.keep (HB.out.mono hB) (Nat.le_refl _))
 have HW := Lib.hid hW
 clear hW h1 h2
 go_enter Tryz.func100, Tryz.ntmps100
 go_wp2_with fail
 rw [← HW.out]
 refine (l2Copy_any s1 A1 m1 c1 x1 W B HK.out (by omega) hm1).mono ?_
 rintro e w2 ⟨A', c', rfl, hO, hb2⟩
 have z2 := hb2.size
 have g0 := up hb2 e0 a0
 have g1 := up hb2 e1 a0
 have g2 := up hb2 e2 a1
 have g3 := up hb2 e3 a1
 have g4 := upf hb2 e4 a1
 have g5 := upf hb2 e5 a1
 have d0 : w.heap.size < w2.heap.size := by omega
 have d1 : w.heap.size + 1 < w2.heap.size := by omega
 have HK2 : Hid (Rd w2 B A1 m1 c1 x1) := HK.out.keep (hb2.mono (by omega)) (Nat.le_refl _)
 have HD2 : Hid (RdD w2 B A2 c2 D) := HD.out.keep (hb2.mono (by omega)) (Nat.le_refl _)
 have HB2 : Hid (Below w.heap.size w w2) := HB.out.trans (hb2.mono (by omega))
 have HO : Hid (Own w2 (w.heap.size + 2) w2.heap.size 3 1 A' m1 c' (fun j => .int .i64 (x1 j))) := hO.mono (by have := HZ.out; omega) (Nat.le_refl _)
 clear HW HB e0 e1 e2 e3 e4 e5 hO hb2 HK HD
 go_wp2
 go_loopw [7] (fun i wr => ∃ (k : Nat) (A' : Option Addr) (c' : Nat) (y : Nat → Int), k ≤ D.length ∧ i = .int .i64 k ∧ wr.cell? ⟨w2.heap.size, 0, none⟩ = some (.int .i64 s1) ∧ wr.cell? ⟨w2.heap.size, 1, none⟩ = some (.slice A' m1 c') ∧ wr.frozen? ⟨w2.heap.size, 0, none⟩ = false ∧ wr.frozen? ⟨w2.heap.size, 1, none⟩ = false ∧ w2.heap.size < wr.heap.size ∧ Hid (Own wr (w.heap.size + 2) wr.heap.size 3 1 A' m1 c' (fun j => .int .i64 (y j))) ∧ Hid (aaF s1 m1 (lists D) x1 = aaF s1 m1 ((lists D).drop k) y) ∧ Hid (Below w2.heap.size w2 wr)) (fun i _ => D.length - (intOf i).toNat)
 case atStart => exact ⟨0, A', c', x1, Nat.zero_le _, rfl, by simp [go_sem], by simp [go_sem], by simp [go_sem], by simp [go_sem], by simp, (HO.out.alloc _).mono (Nat.le_refl _) (by simp), Lib.hid (by rw [List.drop_zero]), (Below.refl _ _).alloc (Nat.le_refl _) _⟩
 case round =>
  obtain ⟨k, A4, c4, y, hk, rfl, i0, i1, i2, i3, i4, HY, HR, Hbr⟩ := hrel
  have j0 := up Hbr.out g0 d0
  have j1 := up Hbr.out g1 d0
  have j2 := up Hbr.out g2 d1
  have j3 := up Hbr.out g3 d1
  have j4 := upf Hbr.out g4 d1
  have j5 := upf Hbr.out g5 d1
  clear g0 g1 g2 g3 g4 g5
  by_cases hlt : k < D.length
  ·obtain ⟨⟨Ad, cd, l⟩, hdk, hmem, hdv⟩ := dvs_at hlt
   obtain ⟨b, o, rfl, hb, hc⟩ := HD2.out.1.2 (by omega)
   have q0 := (Hbr.out.cell (p := ⟨b, o + k, none⟩) (by show b < _; omega)).trans (hc k hlt)
   rw [hdv] at q0
   have q1 : wr.cell? ⟨b, o + k, none⟩ = some (.slice Ad l.length cd) := q0
   have hrd : Rd wr wr.heap.size Ad l.length cd (fun i => l.getD i 0) := (HD2.out.2 (Ad, cd, l) hmem).keep (Hbr.out.mono (by omega)) (by omega)
   have hdr : (lists D).drop k = l :: (lists D).drop (k + 1) := drop_at hdk
   have i5 : (k : Int) < (D.length : Int) := by omega
   clear hc q0 hdv hmem
   by_cases hl2 : l.length = 2
   ·obtain ⟨v, u, rfl⟩ := two_of hl2
    obtain ⟨bd, od, rfl, hbd, hcd⟩ := hrd.2 (by simp)
    have r0 : wr.cell? ⟨bd, od, none⟩ = some (.int .i64 v) := hcd 0 (by simp)
    have r1 : wr.cell? ⟨bd, od + 1, none⟩ = some (.int .i64 u) := hcd 1 (by simp)
    have q2 : wr.cell? ⟨b, o + k, none⟩ = some (.slice (some ⟨bd, od, none⟩) 2 cd) := q1
    have hbw : b < wr.heap.size := by omega
    have Hdr := Lib.hid hdr
    obtain ⟨t, ht⟩ : ∃ t, t = aeB s1 m1 y v u := ⟨_, rfl⟩
    have Ht := Lib.hid ht
    have HA : Hid (Rd wr.drew wr.heap.size A4 m1 c4 y) := HY.out.rd
    have HLE : Hid (wr.heap.size ≤ wr.drew.heap.size) := Nat.le_refl _
    have HKP : Hid (∀ a z : World, (w2.heap.size < a.heap.size ∧ bd < a.heap.size ∧ b < a.heap.size ∧ a.cell? ⟨b, o + k, none⟩ = some (.slice (some ⟨bd, od, none⟩) 2 cd) ∧ a.cell? ⟨w2.heap.size, 0, none⟩ = some (.int .i64 s1) ∧ a.cell? ⟨w2.heap.size, 1, none⟩ = some (.slice A4 m1 c4) ∧ a.cell? ⟨bd, od, none⟩ = some (.int .i64 v) ∧ a.cell? ⟨bd, od + 1, none⟩ = some (.int .i64 u)) → Below a.heap.size a z → (w2.heap.size < z.heap.size ∧ bd < z.heap.size ∧ b < z.heap.size ∧ z.cell? ⟨b, o + k, none⟩ = some (.slice (some ⟨bd, od, none⟩) 2 cd) ∧ z.cell? ⟨w2.heap.size, 0, none⟩ = some (.int .i64 s1) ∧ z.cell? ⟨w2.heap.size, 1, none⟩ = some (.slice A4 m1 c4) ∧ z.cell? ⟨bd, od, none⟩ = some (.int .i64 v) ∧ z.cell? ⟨bd, od + 1, none⟩ = some (.int .i64 u))) := by
     rintro a z ⟨p0, p1, p6, p7, p2, p3, p4, p5⟩ hb
     have := hb.size
     exact ⟨by omega, by omega, by omega, up hb p7 p6, up hb p2 p0, up hb p3 p0, up hb p4 p1, up hb p5 p1⟩
    have HS : Hid (w2.heap.size < wr.drew.heap.size ∧ bd < wr.drew.heap.size ∧ b < wr.drew.heap.size ∧ wr.drew.cell? ⟨b, o + k, none⟩ = some (.slice (some ⟨bd, od, none⟩) 2 cd) ∧ wr.drew.cell? ⟨w2.heap.size, 0, none⟩ = some (.int .i64 s1) ∧ wr.drew.cell? ⟨w2.heap.size, 1, none⟩ = some (.slice A4 m1 c4) ∧ wr.drew.cell? ⟨bd, od, none⟩ = some (.int .i64 v) ∧ wr.drew.cell? ⟨bd, od + 1, none⟩ = some (.int .i64 u)) := ⟨i4, hbd, hbw, q2, i0, i1, r0, r1⟩
    have HKA : Hid (∀ (a : World) (ob : Obj), (w2.heap.size < a.heap.size ∧ bd < a.heap.size ∧ b < a.heap.size ∧ a.cell? ⟨b, o + k, none⟩ = some (.slice (some ⟨bd, od, none⟩) 2 cd) ∧ a.cell? ⟨w2.heap.size, 0, none⟩ = some (.int .i64 s1) ∧ a.cell? ⟨w2.heap.size, 1, none⟩ = some (.slice A4 m1 c4) ∧ a.cell? ⟨bd, od, none⟩ = some (.int .i64 v) ∧ a.cell? ⟨bd, od + 1, none⟩ = some (.int .i64 u)) → (w2.heap.size < (a.alloc ob).heap.size ∧ bd < (a.alloc ob).heap.size ∧ b < (a.alloc ob).heap.size ∧ (a.alloc ob).cell? ⟨b, o + k, none⟩ = some (.slice (some ⟨bd, od, none⟩) 2 cd) ∧ (a.alloc ob).cell? ⟨w2.heap.size, 0, none⟩ = some (.int .i64 s1) ∧ (a.alloc ob).cell? ⟨w2.heap.size, 1, none⟩ = some (.slice A4 m1 c4) ∧ (a.alloc ob).cell? ⟨bd, od, none⟩ = some (.int .i64 v) ∧ (a.alloc ob).cell? ⟨bd, od + 1, none⟩ = some (.int .i64 u))) := by
     rintro a ob h
     exact HKP.out a _ h ((Below.refl _ _).alloc (Nat.le_refl _) _)
    have HKS : Hid (∀ (a : World) (j : Nat) (x : Value), (w2.heap.size < a.heap.size ∧ bd < a.heap.size ∧ b < a.heap.size ∧ a.cell? ⟨b, o + k, none⟩ = some (.slice (some ⟨bd, od, none⟩) 2 cd) ∧ a.cell? ⟨w2.heap.size, 0, none⟩ = some (.int .i64 s1) ∧ a.cell? ⟨w2.heap.size, 1, none⟩ = some (.slice A4 m1 c4) ∧ a.cell? ⟨bd, od, none⟩ = some (.int .i64 v) ∧ a.cell? ⟨bd, od + 1, none⟩ = some (.int .i64 u)) → (w2.heap.size < (a.setCell ⟨wr.heap.size, j, none⟩ x).heap.size ∧ bd < (a.setCell ⟨wr.heap.size, j, none⟩ x).heap.size ∧ b < (a.setCell ⟨wr.heap.size, j, none⟩ x).heap.size ∧ (a.setCell ⟨wr.heap.size, j, none⟩ x).cell? ⟨b, o + k, none⟩ = some (.slice (some ⟨bd, od, none⟩) 2 cd) ∧ (a.setCell ⟨wr.heap.size, j, none⟩ x).cell? ⟨w2.heap.size, 0, none⟩ = some (.int .i64 s1) ∧ (a.setCell ⟨wr.heap.size, j, none⟩ x).cell? ⟨w2.heap.size, 1, none⟩ = some (.slice A4 m1 c4) ∧ (a.setCell ⟨wr.heap.size, j, none⟩ x).cell? ⟨bd, od, none⟩ = some (.int .i64 v) ∧ (a.setCell ⟨wr.heap.size, j, none⟩ x).cell? ⟨bd, od + 1, none⟩ = some (.int .i64 u))) := by
     rintro a j x ⟨p0, p1, p6, p7, p2, p3, p4, p5⟩
     have hne : ∀ (b' o' : Nat), b' < wr.heap.size → (a.setCell ⟨wr.heap.size, j, none⟩ x).cell? ⟨b', o', none⟩ = a.cell? ⟨b', o', none⟩ := fun b' o' hb' => World.cell?_setCell_other a _ _ _ (fun e => by injection e with e1; omega)
     exact ⟨by simpa [World.setCell] using p0, by simpa [World.setCell] using p1, by simpa [World.setCell] using p6, (hne _ _ hbw).trans p7, (hne _ _ i4).trans p2, (hne _ _ i4).trans p3, (hne _ _ hbd).trans p4, (hne _ _ hbd).trans p5⟩
    have HS2 : Hid (w2.heap.size < ((wr.alloc (Obj.cells #[Value.int IntKind.i64 0, Value.slice none 0 0] 29)).drew).heap.size ∧ bd < ((wr.alloc (Obj.cells #[Value.int IntKind.i64 0, Value.slice none 0 0] 29)).drew).heap.size ∧ b < ((wr.alloc (Obj.cells #[Value.int IntKind.i64 0, Value.slice none 0 0] 29)).drew).heap.size ∧ ((wr.alloc (Obj.cells #[Value.int IntKind.i64 0, Value.slice none 0 0] 29)).drew).cell? ⟨b, o + k, none⟩ = some (.slice (some ⟨bd, od, none⟩) 2 cd) ∧ ((wr.alloc (Obj.cells #[Value.int IntKind.i64 0, Value.slice none 0 0] 29)).drew).cell? ⟨w2.heap.size, 0, none⟩ = some (.int .i64 s1) ∧ ((wr.alloc (Obj.cells #[Value.int IntKind.i64 0, Value.slice none 0 0] 29)).drew).cell? ⟨w2.heap.size, 1, none⟩ = some (.slice A4 m1 c4) ∧ ((wr.alloc (Obj.cells #[Value.int IntKind.i64 0, Value.slice none 0 0] 29)).drew).cell? ⟨bd, od, none⟩ = some (.int .i64 v) ∧ ((wr.alloc (Obj.cells #[Value.int IntKind.i64 0, Value.slice none 0 0] 29)).drew).cell? ⟨bd, od + 1, none⟩ = some (.int .i64 u)) := HKA.out _ _ HS.out
    have N0 : Hid (((wr.alloc (Obj.cells #[Value.int IntKind.i64 0, Value.slice none 0 0] 29)).drew).cell? ⟨wr.heap.size, 0, none⟩ = some (.int .i64 0)) := by show (wr.alloc _).cell? _ = _; simp [go_sem]
    have N1 : Hid (((wr.alloc (Obj.cells #[Value.int IntKind.i64 0, Value.slice none 0 0] 29)).drew).cell? ⟨wr.heap.size, 1, none⟩ = some (.slice none 0 0)) := by show (wr.alloc _).cell? _ = _; simp [go_sem]
    have N2 : Hid (((wr.alloc (Obj.cells #[Value.int IntKind.i64 0, Value.slice none 0 0] 29)).drew).frozen? ⟨wr.heap.size, 0, none⟩ = false) := by show (wr.alloc _).frozen? _ = _; simp [go_sem]
    have N3 : Hid (((wr.alloc (Obj.cells #[Value.int IntKind.i64 0, Value.slice none 0 0] 29)).drew).frozen? ⟨wr.heap.size, 1, none⟩ = false) := by show (wr.alloc _).frozen? _ = _; simp [go_sem]
    have N4 : Hid (wr.heap.size < ((wr.alloc (Obj.cells #[Value.int IntKind.i64 0, Value.slice none 0 0] 29)).drew).heap.size) := by show wr.heap.size < (wr.alloc _).heap.size; simp
    have HA2 : Hid (Rd ((wr.alloc (Obj.cells #[Value.int IntKind.i64 0, Value.slice none 0 0] 29)).drew) wr.heap.size A4 m1 c4 y) := HY.out.rd.keep (((Below.refl _ _).alloc (Nat.le_refl _) _).drew) (Nat.le_refl _)
    have HLE2 : Hid (wr.heap.size ≤ ((wr.alloc (Obj.cells #[Value.int IntKind.i64 0, Value.slice none 0 0] 29)).drew).heap.size) := by show wr.heap.size ≤ (wr.alloc _).heap.size; simp
    clear hrd hcd hdr ht q1 hl2
    go_wp2
    go_region_held3 (fun z => w2.heap.size < z.heap.size ∧ bd < z.heap.size ∧ b < z.heap.size ∧ z.cell? ⟨b, o + k, none⟩ = some (.slice (some ⟨bd, od, none⟩) 2 cd) ∧ z.cell? ⟨w2.heap.size, 0, none⟩ = some (.int .i64 s1) ∧ z.cell? ⟨w2.heap.size, 1, none⟩ = some (.slice A4 m1 c4) ∧ z.cell? ⟨bd, od, none⟩ = some (.int .i64 v) ∧ z.cell? ⟨bd, od + 1, none⟩ = some (.int .i64 u))
     (first | (refine ⟨?_, ?_, ?_, ?_, ?_, ?_, ?_, ?_⟩ <;> assumption) | exact HKA.out _ _ HS.out | exact HKP.out _ _ HS.out hb4 | exact HKP.out _ _ HS2.out hb4 | exact HKA.out _ _ (HKP.out _ _ HS.out hb4) | exact HKS.out _ _ _ (HKP.out _ _ HS2.out hb4) | exact HKS.out _ _ _ (HKS.out _ _ _ (HKP.out _ _ HS2.out hb4)) | fail)
     (first | (go_at_call 122; ((with_reducible refine (AddEdge_s s1 A4 m1 c4 y v u _ _ HA.out HLE.out hm1).mono ?_); rintro e w4 ⟨A5, c5, rfl, hO4, hb4⟩)) | (go_at_call 122; ((with_reducible refine (AddEdge_s s1 A4 m1 c4 y v u _ _ HA2.out HLE2.out hm1).mono ?_); rintro e w4 ⟨A5, c5, rfl, hO4, hb4⟩; have n0 := up hb4 N0.out N4.out; have n1 := up hb4 N1.out N4.out; have n2 := upf hb4 N2.out N4.out; have n3 := upf hb4 N3.out N4.out)))
    clear HS HS2 HA HA2 HLE HLE2 HKP HKA HKS
    all_goals
     first
      | (obtain ⟨W5, hW5⟩ : ∃ W5 : World, W5 = ((w4.setCell ⟨wr.heap.size, 0, none⟩ (.int .i64 s1)).setCell ⟨wr.heap.size, 1, none⟩ (.slice A5 m1 c5)) := ⟨_, rfl⟩
         rw [← hW5]
         have hbb : Below wr.heap.size wr w4 := ((((Below.refl wr.heap.size wr).alloc (Nat.le_refl _) _).drew).trans (hb4.mono (Nat.le_of_lt N4.out)))
         have HB5 : Hid (Below wr.heap.size wr W5) := by rw [hW5]; exact (hbb.setCell (p := ⟨wr.heap.size, 0, none⟩) (Nat.le_refl _) _).setCell (p := ⟨wr.heap.size, 1, none⟩) (Nat.le_refl _) _
         have n5 : W5.cell? ⟨wr.heap.size, 0, none⟩ = some (.int .i64 s1) := by rw [hW5]; simp [go_sem, n0]
         have n6 : W5.cell? ⟨wr.heap.size, 1, none⟩ = some (.slice A5 m1 c5) := by rw [hW5]; simp [go_sem, n1]
         have n7 : wr.heap.size < W5.heap.size := by have := hb4.size; have := N4.out; rw [hW5]; simp [World.setCell]; omega
         have HO5 : Hid (Own W5 wr.heap.size W5.heap.size 3 1 A5 m1 c5 (fun j => .int .i64 (aeX s1 m1 y v u j))) := by
          have F := ((Fr.refl wr.heap.size (wr.heap.size + 1) w4).setCell (p := ⟨wr.heap.size, 0, none⟩) (Nat.le_refl _) (Nat.lt_succ_self _) (Value.int .i64 s1)).setCell (p := ⟨wr.heap.size, 1, none⟩) (Nat.le_refl _) (Nat.lt_succ_self _) (Value.slice A5 m1 c5)
          rw [hW5]
          exact (hO4.keep F (.inr (by have := N4.out; omega))).mono (by have := N4.out; omega) F.size
         clear hW5 hbb hb4 hO4 n0 n1 n2 n3)
      | (obtain ⟨W5, hW5⟩ : ∃ W5 : World, W5 = (w4.alloc (Obj.cells #[.int .i64 s1, .slice A5 m1 c5] 29)) := ⟨_, rfl⟩
         rw [← hW5]
         have hbb : Below wr.heap.size wr w4 := ((Below.refl wr.heap.size wr).drew).trans hb4
         have HB5 : Hid (Below wr.heap.size wr W5) := by rw [hW5]; exact hbb.alloc hbb.size _
         have n5 : W5.cell? ⟨w4.heap.size, 0, none⟩ = some (.int .i64 s1) := by rw [hW5]; simp [go_sem]
         have n6 : W5.cell? ⟨w4.heap.size, 1, none⟩ = some (.slice A5 m1 c5) := by rw [hW5]; simp [go_sem]
         have n7 : w4.heap.size < W5.heap.size := by rw [hW5]; simp
         have HO5 : Hid (Own W5 wr.heap.size W5.heap.size 3 1 A5 m1 c5 (fun j => .int .i64 (aeX s1 m1 y v u j))) := by
          rw [hW5]
          exact (hO4.alloc _).mono (by show wr.heap.size ≤ wr.heap.size + 2; omega) (by simp)
         clear hW5 hbb hb4 hO4)
      | fail
     have l0 := up HB5.out i0 i4
     have l1 := up HB5.out i1 i4
     have l2 := upf HB5.out i2 i4
     have l3 := upf HB5.out i3 i4
     have l4 : w2.heap.size < W5.heap.size := by have := HB5.out.size; omega
     have j2' := up HB5.out j2 (by omega)
     have j3' := up HB5.out j3 (by omega)
     have j4' := upf HB5.out j4 (by omega)
     have j5' := upf HB5.out j5 (by omega)
     have l5 : w.heap.size + 1 < W5.heap.size := by omega
     have HB6 : Hid (Below w2.heap.size w2 W5) := Hbr.out.trans (HB5.out.mono (by omega))
     have HB7 : Hid (Below w.heap.size w W5) := HB2.out.trans (HB6.out.mono (by omega))
     rw [← Ht.out]
     clear i0 i1 i2 i3 j0 j1 j2 j3 j4 j5 r0 r1 q2 N0 N1 N2 N3 N4 hdk
     cases t
     ·have hn : Hid (aaR s1 m1 x1 (lists D) = none) := by
       refine aaR_none ?_
       rw [HR.out, Hdr.out, aaF_no Ht.out.symm]
      go_wp2
      have F : Fr (w.heap.size + 1) (w.heap.size + 2) W5 _ := ((Fr.refl _ _ W5).setCell (p := ⟨w.heap.size + 1, 0, none⟩) (Nat.le_refl _) (Nat.lt_succ_self _) (Value.int IntKind.i64 0)).setCell (p := ⟨w.heap.size + 1, 1, none⟩) (Nat.le_refl _) (Nat.lt_succ_self _) (Value.slice none 0 0)
      exact bodyPost_ret (v := .tuple #[.agg #[.int .i64 0, .slice none 0 0], .bool false]) (by simp [results, Tryz.results100, go_sem, *]) rfl ⟨none, 0, by rw [(aa_none hn.out).1, (aa_none hn.out).2.1, (aa_none hn.out).2.2], by rw [(aa_none hn.out).2.1]; exact Own.nil _ _ _ _ _ _, HB7.out.trans (F.below (by omega) (by omega))⟩
     ·have hs : Hid (aaF s1 m1 (lists D) x1 = aaF s1 m1 ((lists D).drop (k + 1)) (aeX s1 m1 y v u)) := by
       show _ = _
       rw [HR.out, Hdr.out, aaF_yes Ht.out.symm]
      go_wp2
      have F6 : Fr w2.heap.size (w2.heap.size + 1) W5 ((W5.setCell ⟨w2.heap.size, 0, none⟩ (.int .i64 s1)).setCell ⟨w2.heap.size, 1, none⟩ (.slice A5 m1 c5)) := ((Fr.refl _ _ W5).setCell (p := ⟨w2.heap.size, 0, none⟩) (Nat.le_refl _) (Nat.lt_succ_self _) (Value.int .i64 s1)).setCell (p := ⟨w2.heap.size, 1, none⟩) (Nat.le_refl _) (Nat.lt_succ_self _) (Value.slice A5 m1 c5)
      have HF := Lib.hid F6
      clear F6
      go_roundw
      case rel =>
       exact ⟨k + 1, A5, c5, aeX s1 m1 y v u, by omega, by go_num, by simp [go_sem, l0], by simp [go_sem, l1], by simp [go_sem, l2], by simp [go_sem, l3], by have := HF.out.size; omega, (HO5.out.keep HF.out (.inr (by omega))).mono (by omega) HF.out.size, hs, (HB6.out.setCell (p := ⟨w2.heap.size, 0, none⟩) (Nat.le_refl _) _).setCell (p := ⟨w2.heap.size, 1, none⟩) (Nat.le_refl _) _⟩
      case measure => simp [intOf]; omega
   ·have hne : ((l.length : Int) != 2) = true := by simp; omega
    have hn : Hid (aaR s1 m1 x1 (lists D) = none) := by
     refine aaR_none ?_
     rw [HR.out, hdr, aaF_short hl2]
    have HB7 : Hid (Below w.heap.size w wr) := HB2.out.trans (Hbr.out.mono (by omega))
    clear hl2 hrd hdr i0 i1 i2 i3
    go_wp2
    have F : Fr (w.heap.size + 1) (w.heap.size + 2) wr _ := ((Fr.refl _ _ wr).setCell (p := ⟨w.heap.size + 1, 0, none⟩) (Nat.le_refl _) (Nat.lt_succ_self _) (Value.int IntKind.i64 0)).setCell (p := ⟨w.heap.size + 1, 1, none⟩) (Nat.le_refl _) (Nat.lt_succ_self _) (Value.slice none 0 0)
    exact bodyPost_ret (v := .tuple #[.agg #[.int .i64 0, .slice none 0 0], .bool false]) (by simp [results, Tryz.results100, go_sem, *]) rfl ⟨none, 0, by rw [(aa_none hn.out).1, (aa_none hn.out).2.1, (aa_none hn.out).2.2], by rw [(aa_none hn.out).2.1]; exact Own.nil _ _ _ _ _ _, HB7.out.trans (F.below (by omega) (by omega))⟩
  ·have hke : (lists D).drop k = [] := List.drop_eq_nil_of_le (by rw [lists, List.length_map]; omega)
   have hs : Hid (aaF s1 m1 (lists D) x1 = some y) := by
    show _ = _
    rw [HR.out, hke]; rfl
   have HB7 : Hid (Below w.heap.size w wr) := HB2.out.trans (Hbr.out.mono (by omega))
   have i5 : (D.length : Int) ≤ (k : Int) := by omega
   have HK3 : Hid (Rd wr B A1 m1 c1 x1) := HK2.out.keep (Hbr.out.mono (by omega)) (Nat.le_refl _)
   have d2 : w.heap.size + 1 < wr.heap.size := by omega
   clear hke HR
   go_wp2_with fail
   refine (IsGraph_sany s1 A1 m1 c1 x1 wr B HK3.out (by omega) hm1).mono ?_
   rintro e w3 ⟨rfl, hb3⟩
   have z3 := hb3.size
   have l0 := up hb3 i0 i4
   have l1 := up hb3 i1 i4
   have l2 := up hb3 j2 d2
   have l3 := up hb3 j3 d2
   have l4 := upf hb3 j4 d2
   have l5 := upf hb3 j5 d2
   have HB8 : Hid (Below w.heap.size w w3) := HB7.out.trans (hb3.mono (by omega))
   have HY3 : Hid (Own w3 (w.heap.size + 2) w3.heap.size 3 1 A4 m1 c4 (fun j => .int .i64 (y j))) := (HY.out.keepB hb3 (Nat.le_refl _)).mono (Nat.le_refl _) z3
   have d3 : w.heap.size + 1 < w3.heap.size := by omega
   have d4 : w2.heap.size < w3.heap.size := by omega
   clear HB7 HK3 hb3 i0 i1 i2 i3 j0 j1 j2 j3 j4 j5 HY
   cases ho : okB s1 m1 x1
   ·have hn : Hid (aaR s1 m1 x1 (lists D) = none) := aaR_no ho
    clear ho
    go_wp2
    have F : Fr (w.heap.size + 1) (w.heap.size + 2) w3 _ := ((Fr.refl _ _ w3).setCell (p := ⟨w.heap.size + 1, 0, none⟩) (Nat.le_refl _) (Nat.lt_succ_self _) (Value.int IntKind.i64 0)).setCell (p := ⟨w.heap.size + 1, 1, none⟩) (Nat.le_refl _) (Nat.lt_succ_self _) (Value.slice none 0 0)
    exact bodyPost_ret (v := .tuple #[.agg #[.int .i64 0, .slice none 0 0], .bool false]) (by simp [results, Tryz.results100, go_sem, *]) rfl ⟨none, 0, by rw [(aa_none hn.out).1, (aa_none hn.out).2.1, (aa_none hn.out).2.2], by rw [(aa_none hn.out).2.1]; exact Own.nil _ _ _ _ _ _, HB8.out.trans (F.below (by omega) (by omega))⟩
   ·have hr : Hid (aaR s1 m1 x1 (lists D) = some y) := (aaR_yes ho).trans hs.out
    clear ho
    go_wp2
    have F : Fr (w.heap.size + 1) (w.heap.size + 2) w3 _ := ((Fr.refl _ _ w3).setCell (p := ⟨w.heap.size + 1, 0, none⟩) (Nat.le_refl _) (Nat.lt_succ_self _) (Value.int IntKind.i64 s1)).setCell (p := ⟨w.heap.size + 1, 1, none⟩) (Nat.le_refl _) (Nat.lt_succ_self _) (Value.slice A4 m1 c4)
    have O1 := (HY3.out.keep F (.inr (Nat.le_refl _))).mono (lo' := w.heap.size) (by omega) F.size
    exact bodyPost_ret (v := .tuple #[.agg #[.int .i64 s1, .slice A4 m1 c4], .bool true]) (by simp [results, Tryz.results100, go_sem, *]) rfl ⟨A4, c4, by rw [(aa_some hr.out).1, (aa_some hr.out).2.1, (aa_some hr.out).2.2.1], by rw [(aa_some hr.out).2.1, (aa_some hr.out).2.2.2]; exact O1, HB8.out.trans (F.below (by omega) (by omega))⟩
end Go.Proofs.YtppkokgiojcgbaaGreatDoor
/-
 Contracts: is a graph chordal? The program's answer.
-/
namespace Go.Proofs.YtppkokgiojcgbaaGreatDoor
open Go.RowKit
noncomputable def chB (sz : Int) (m : Nat) (x : Nat → Int) : Bool := okB sz m x && elimB (rw_ x) (2 ^ m - 1)
theorem chB_no {sz : Int} {m : Nat} {x : Nat → Int} (h : okB sz m x = false) : chB sz m x = false := by unfold chB; rw [h]; rfl
theorem chB_eq {sz : Int} {m : Nat} {x : Nat → Int} {b : Bool} (h : okB sz m x = true) (h2 : elimB (rw_ x) (2 ^ m - 1) = b) : chB sz m x = b := by unfold chB; rw [h, h2]; rfl
theorem firstS_place {r : Nat → Nat} {left v : Nat} (h : firstS r left = some v) : ∃ k, ∃ hk : k < (listN left).length, (listN left)[k] = v ∧ cliq r (r v &&& left) = true ∧ ∀ j (hj : j < k), cliq r (r ((listN left)[j]'(by omega)) &&& left) = false := by
 unfold firstS at h
 rw [List.find?_eq_some_iff_getElem] at h
 obtain ⟨h1, k, hk, h2, h3⟩ := h
 exact ⟨k, hk, h2, h1, fun j hj => by have := h3 j hj; simpa using this⟩
theorem firstS_none' {r : Nat → Nat} {left : Nat} (h : firstS r left = none) : ∀ j (hj : j < (listN left).length), cliq r (r (listN left)[j] &&& left) = false := by
 intro j hj
 unfold firstS at h
 rw [List.find?_eq_none] at h
 have := h _ (List.getElem_mem hj)
 simpa using this
end Go.Proofs.YtppkokgiojcgbaaGreatDoor
/-
 Contracts: is a graph chordal? The reference's answer.
-/
namespace Go.Proofs.YtppkokgiojcgbaaGreatDoor
open Go.RowKit
end Go.Proofs.YtppkokgiojcgbaaGreatDoor
/-
 Contracts: is a vertex in a list? is a list a way? The program's tests.
-/
namespace Go.Proofs.YtppkokgiojcgbaaGreatDoor
open Go.RowKit
theorem fIdx_in {l : List Nat} {v : Nat} (h : v ∈ l) : ∃ k : Nat, fIdx (fun j => l.getD j 0 == v) l.length = (k : Int) := by
 unfold fIdx
 cases hf : (List.range l.length).find? (fun j => l.getD j 0 == v) with
 | some k => exact ⟨k, rfl⟩
 | none =>
   exfalso
   rw [List.find?_eq_none] at hf
   obtain ⟨i, hi, rfl⟩ := List.mem_iff_getElem.1 h
   have := hf i (List.mem_range.2 hi)
   simp [List.getD, hi] at this
theorem fIdx_out {l : List Nat} {v : Nat} (h : v ∉ l) : fIdx (fun j => l.getD j 0 == v) l.length = -1 := by
 refine fIdx_no fun j hj => ?_
 have : l[j] ≠ v := fun e => h (e ▸ List.getElem_mem hj)
 simpa [List.getD, hj] using this
abbrev RdN (w : World) (B : Nat) (A : Option Addr) (n c : Nat) (l : List Nat) : Prop := n = l.length ∧ Rd w B A n c (fun j => ((l.getD j 0 : Nat) : Int))
set_option maxHeartbeats 1000000 in
theorem Index_i (A : Option Addr) (c : Nat) (l : List Nat) (v : Nat) (w : World) (B : Nat) (h : Rd w B A l.length c (fun j => ((l.getD j 0 : Nat) : Int))) (hl : l.length ≤ 1048576) :
 Calls Tryz.prog 213 #[.slice A l.length c, .int .i64 v] w fun e w' => e = .returned (.int .i64 (fIdx (fun j => l.getD j 0 == v) l.length)) ∧ w = w' := by
 have HR := Lib.hid h
 clear h
 go_enter Tryz.func213, Tryz.ntmps213
 go_wp2
 go_loop [8] (fun i => ∃ k : Nat, k ≤ l.length ∧ i = .int .i64 k ∧ Hid (∀ j, j < k → (l.getD j 0 == v) = false)) (fun i => l.length - (intOf i).toNat)
 case atStart => exact ⟨0, Nat.zero_le _, rfl, (fun j hj => absurd hj (by omega))⟩
 case round =>
  obtain ⟨k, hk, rfl, hall⟩ := hrel
  by_cases hlt : k < l.length
  ·obtain ⟨b, o, rfl, hb, hc⟩ := HR.out.pos (by omega)
   have q0 := hc k hlt
   obtain ⟨u, hu⟩ : ∃ u : Nat, u = l.getD k 0 := ⟨_, rfl⟩
   rw [← hu] at q0
   have Hu := Lib.hid hu
   have i1 : (k : Int) < (l.length : Int) := by omega
   clear hc hu
   by_cases hp : v = u
   ·have Hi : Hid (fIdx (fun j => l.getD j 0 == v) l.length = k) := fIdx_yes hlt (by show (l.getD k 0 == v) = true; rw [← Hu.out, hp]; simp) hall.out
    subst hp
    go_wp2
    go_ret
    exact ⟨ret_int Hi.out.symm, rfl⟩
   ·have hne : ((v : Int) == (u : Int)) = false := by simp; omega
    have hne2 : (v = u) = False := by simp [hp]
    have Hp : Hid ((l.getD k 0 == v) = false) := by show _ = _; rw [← Hu.out]; simp; omega
    clear hp
    go_wp2
    go_round
    case rel =>
     refine ⟨k + 1, by omega, by go_num, fun j hj => ?_⟩
     by_cases hjk : j < k
     ·exact hall.out j hjk
     ·obtain rfl : j = k := by omega
      exact Hp.out
    case measure => simp [intOf]; omega
  ·have Hi : Hid (fIdx (fun j => l.getD j 0 == v) l.length = -1) := fIdx_no fun j hj => hall.out j (by omega)
   have i1 : (l.length : Int) ≤ (k : Int) := by omega
   go_wp2
   go_ret
   exact ⟨ret_int Hi.out.symm, rfl⟩
set_option maxHeartbeats 1000000 in
theorem Contains_i (A : Option Addr) (n c : Nat) (l : List Nat) (v : Nat) (w : World) (B : Nat) (h : RdN w B A n c l) (hl : l.length ≤ 1048576) :
 Calls Tryz.prog 210 #[.slice A n c, .int .i64 v] w fun e w' => e = .returned (.bool (decide (v ∈ l))) ∧ w = w' := by
 obtain ⟨rfl, h⟩ := h
 have HI := Lib.hid (Index_i A c l v w B h hl)
 clear h
 by_cases hv : v ∈ l
 ·obtain ⟨k, hk⟩ := fIdx_in hv
  rw [hk] at HI
  have Hd : Hid (decide (v ∈ l) = true) := decide_eq_true hv
  have k0 : (0 : Int) ≤ (k : Int) := by omega
  clear hk hv
  go_enter Tryz.func210, Tryz.ntmps210
  go_wp2_with fail
  refine HI.out.mono ?_
  rintro e w' ⟨rfl, rfl⟩
  go_wp2
  go_ret
  exact ⟨ret_bool Hd.out.symm, rfl⟩
 ·rw [fIdx_out hv] at HI
  have Hd : Hid (decide (v ∈ l) = false) := decide_eq_false hv
  clear hv
  go_enter Tryz.func210, Tryz.ntmps210
  go_wp2_with fail
  refine HI.out.mono ?_
  rintro e w' ⟨rfl, rfl⟩
  go_wp2
  go_ret
  exact ⟨ret_bool Hd.out.symm, rfl⟩
end Go.Proofs.YtppkokgiojcgbaaGreatDoor
/-
 Contracts: is a list a way? a list's copy; a list and one vertex more: the program's.
-/
namespace Go.Proofs.YtppkokgiojcgbaaGreatDoor
open Go.RowKit
/-! ### a list and one vertex more -/
theorem wpList_moreN (W : World) {ops : Array Oper} {rest : List Oper} {o : Oper} {a : Act} {Q : Exit → Act → World → Prop} (hgd : o.guard = none) (s y : Operand)
 (ho : o.op = .call { callee := .builtin .append, args := #[s, y], argTypes := #[22, 22] })
 (B : Nat) (A : Option Addr) (l : List Nat) (hA : A = none → l = []) (h : Rd W B A l.length l.length (fun j => ((l.getD j 0 : Nat) : Int))) (hB : B ≤ W.heap.size) (k : Nat) (hs : a.eval s = .slice A l.length l.length) (cx H : Nat) (hH : W.heap.size = H) (hy : a.eval y = .slice (some ⟨H, 0, none⟩) 1 cx)
 (hn : l.length ≤ 1073741824)
 (hK : ∀ g cap w', Own w' W.heap.size w'.heap.size 3 1 (some ⟨g, 0, none⟩) (l.length + 1) cap (ni (l ++ [k])) → Below W.heap.size W w' → wpList Tryz.prog ops Q rest (a.put o.dst (.slice (some ⟨g, 0, none⟩) (l.length + 1) cap)) w') :
 wpList Tryz.prog ops Q (o :: rest) a (W.alloc (Obj.cells #[.int .i64 (k : Int)] 3)) := by
 subst hH
 obtain ⟨i, hi', hzz⟩ := Option.map_eq_some_iff.1 info_int
 simp only [Prod.mk.injEq] at hzz
 obtain ⟨hz, hsize, hbytes⟩ := hzz
 have hr := h.keep ((Below.refl B W).alloc hB (Obj.cells #[.int .i64 (k : Int)] 3)) (Nat.le_refl _)
 refine wpList_append_grows (P := Tryz.prog) _ hgd s y 22 ho 3 i _ 1 8 Tryz.underlying22 hi' hz hsize hbytes rfl (by omega) A l.length l.length ((List.range l.length).map fun j => .int .i64 ((l.getD j 0 : Nat) : Int)) hs (fun e => by have := hA e; subst this; exact ⟨rfl, rfl⟩) (by simp) ?_ ⟨W.heap.size, 0, none⟩ 1 cx [.int .i64 (k : Int)] hy rfl (World.news_of_block (heap_alloc_new W (Obj.cells #[.int .i64 (k : Int)] 3))) (by simp [Value.oneCell']) (by omega) (by unfold maxLen; omega) (by omega) ?_
 ·intro b e j u hj
  have hlt : j < l.length := by
   have := (List.getElem?_eq_some_iff.1 hj).1
   simpa using this
  obtain ⟨b', o', e2, _, hc⟩ := hr.2 (by omega)
  rw [e] at e2
  simp only [Option.some.injEq] at e2
  subst e2
  have hadd : (⟨b', o', none⟩ : Addr).add j = ⟨b', o' + j, none⟩ := by unfold Addr.add; split <;> simp_all
  rw [hadd, hc j hlt]
  simpa [hlt] using hj
 ·intro v' w' hrow hg
  obtain ⟨g, cap, rfl, hge, hlt⟩ := hrow.form (by omega)
  refine hK g cap w' ((Own.of_row hrow (fun j hj => ?_)).mono (by simp) (Nat.le_refl _)) (((Below.refl _ _).alloc (Nat.le_refl _) _).trans ((Below.refl _ _).grown hg (by simp) (fun k hk => by cases hk)))
  rw [List.getElem?_append]
  simp only [List.length_map, List.length_range]
  by_cases hj2 : j < l.length
  ·rw [if_pos hj2, ni_left (by omega)]; unfold ni; simp [hj2]
  ·rw [if_neg hj2]
   obtain rfl : j = l.length := by omega
   rw [Nat.sub_self]
   have := ni_news (l := l) (k := k) 0 (by omega)
   rw [Nat.mul_one, Nat.add_zero] at this
   exact this
end Go.Proofs.YtppkokgiojcgbaaGreatDoor
/-
 What the searches for ways answer, as plain functions.
-/
namespace Go.Proofs.YtppkokgiojcgbaaGreatDoor
open Go.RowKit
end Go.Proofs.YtppkokgiojcgbaaGreatDoor
/-
 Contracts: the reference's search for a way through all vertices.
-/
namespace Go.Proofs.YtppkokgiojcgbaaGreatDoor
open Go.RowKit
set_option maxHeartbeats 1000000 in
theorem l8Has_s (A : Option Addr) (n c : Nat) (l : List Nat) (v : Nat) (w : World) (B : Nat) (h : RdN w B A n c l) (hl : l.length ≤ 1048576) :
 Calls Tryz.prog 243 #[.slice A n c, .int .i64 v] w fun e w' => e = .returned (.bool (decide (v ∈ l))) ∧ w = w' := by
 obtain ⟨rfl, h⟩ := h
 have HR := Lib.hid h
 clear h
 go_enter Tryz.func243, Tryz.ntmps243
 go_wp2
 go_loop [5] (fun i => ∃ k : Nat, k ≤ l.length ∧ i = .int .i64 k ∧ Hid (∀ j (hj : j < l.length), j < k → l[j] ≠ v)) (fun i => l.length - (intOf i).toNat)
 case atStart => exact ⟨0, Nat.zero_le _, rfl, (fun j hj hk => absurd hk (by omega))⟩
 case round =>
  obtain ⟨k, hk, rfl, hall⟩ := hrel
  by_cases hlt : k < l.length
  ·obtain ⟨b, o, rfl, hb, hc⟩ := HR.out.pos (by omega)
   have q0 := hc k hlt
   obtain ⟨u, hu⟩ : ∃ u : Nat, u = l[k] := ⟨_, rfl⟩
   have e2 : l.getD k 0 = u := by rw [hu]; simp [List.getD, hlt]
   rw [e2] at q0
   have Hu := Lib.hid hu
   have i1 : (k : Int) < (l.length : Int) := by omega
   clear hc hu e2
   by_cases hp : u = v
   ·have Hd : Hid (decide (v ∈ l) = true) := decide_eq_true (by rw [← hp, Hu.out]; exact List.getElem_mem hlt)
    subst hp
    go_wp2
    go_ret
    exact ⟨ret_bool Hd.out.symm, rfl⟩
   ·have hne : ((u : Int) == (v : Int)) = false := by simp; omega
    have hne2 : (u = v) = False := by simp [hp]
    have Hp := Lib.hid hp
    clear hp
    go_wp2
    go_round
    case rel =>
     refine ⟨k + 1, by omega, by go_num, fun j hj hjk => ?_⟩
     by_cases hjk2 : j < k
     ·exact hall.out j hj hjk2
     ·obtain rfl : j = k := by omega
      rw [← Hu.out]; exact Hp.out
    case measure => simp [intOf]; omega
  ·have Hd : Hid (decide (v ∈ l) = false) := decide_eq_false fun h => by
    obtain ⟨j, hj, e⟩ := List.mem_iff_getElem.1 h
    exact hall.out j hj (by omega) e
   have i1 : (l.length : Int) ≤ (k : Int) := by omega
   go_wp2
   go_ret
   exact ⟨ret_bool Hd.out.symm, rfl⟩
theorem step_appendG (w : World) {ops : Array Oper} {o : Oper} {a : Act} {K : Act → World → Prop} {Q : Exit → Act → World → Prop} {E : Prop} {lo hi B n c m c2 : Nat} {A A2 : Option Addr} {x : Nat → Value} {y : Nat → Int} (hgd : o.guard = none) (s z : Operand)
 (ho : o.op = .call { callee := .builtin .append, args := #[s, z], argTypes := #[22, 22] })
 (hs : a.eval s = .slice A n c) (h : Own w lo hi 3 1 A n c x) (hz : a.eval z = .slice A2 m c2) (hr : Rd w B A2 m c2 y) (hlo : lo ≤ w.heap.size) (hn : n ≤ 1073741824) (hm : m ≤ 1073741824)
 (hK : ∀ A' c' w', Own w' lo w'.heap.size 3 1 A' (n + m) c' (thenI n x y) → Below lo w w' → w.grownBy w' (Value.slice A n c).ownBlock → K (a.put o.dst (.slice A' (n + m) c')) w') :
 if Region.wanted o (yielded ops a.tmps) = true then Oper.wp Tryz.prog o a w K Q else E := by
 have hw : Region.wanted o (yielded ops a.tmps) = true := by simp [Region.wanted, hgd]
 rw [if_pos hw]
 obtain ⟨A', c', w', hrun, h2, h3, _, h5⟩ := run_appendI w o.type h hr hlo hn hm
 unfold Oper.wp execOp
 simp only [ho, resolve, invoke, builtin, Sem.run_bind, Sem.run_pure, Result.andThen_ok, List.map_toArray, List.map_cons, List.map_nil, hs, hz, hrun]
 exact hK _ _ _ h2 h3 h5
end Go.Proofs.YtppkokgiojcgbaaGreatDoor
