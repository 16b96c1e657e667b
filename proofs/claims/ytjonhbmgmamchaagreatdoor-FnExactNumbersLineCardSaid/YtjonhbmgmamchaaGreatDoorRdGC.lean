/-
  Several texts in one: words for memory, plain laws and contracts that the later texts lean on.
-/
import Derived.Test.YtjonhbmgmamchaaGreatDoorRdGB
import Derived.Test.YtjonhbmgmamchaaGreatDoorRdGA
import Derived.Deep.RegionLaw
import Derived.Deep.RegionHeld3
import Derived.ArgAppend
/-
  Contracts: is a graph chordal? The program's elimination.
-/
namespace Go.Proofs.YtjonhbmgmamchaaGreatDoor
open Go.RowKit

/-- The first place at which p holds, or -1. -/
def fIdx (p : Nat → Bool) (n : Nat) : Int := match (List.range n).find? p with | some k => (k : Int) | none => -1
theorem fIdx_yes {p : Nat → Bool} {n k : Nat} (hk : k < n) (hp : p k = true) (hmin : ∀ j, j < k → p j = false) : fIdx p n = k := by
  have : (List.range n).find? p = some k := by
    rw [List.find?_range_eq_some]
    exact ⟨hp, by simp [hk], fun j hj => by simp [hmin j hj]⟩
  unfold fIdx; rw [this]
theorem fIdx_no {p : Nat → Bool} {n : Nat} (h : ∀ j, j < n → p j = false) : fIdx p n = -1 := by
  have : (List.range n).find? p = none := by
    rw [List.find?_eq_none]
    intro j hj
    simp [h j (List.mem_range.1 hj)]
  unfold fIdx; rw [this]

theorem all_any (m : Nat) (A : Option Addr) (c : Nat) (w : World) (hm : m ≤ 7) :
    Calls Tryz.prog 94 #[.agg #[.int .i64 m, .slice A m c]] w fun e w' => e = .returned (.int .i64 ((2 ^ m - 1 : Nat) : Int)) ∧ Below w.heap.size w w' := by
  have p1 := pow_shl m hm
  have p2 := two_pow_int m hm
  have H : Hid (((2 ^ m - 1 : Nat) : Int) = 2 ^ m - 1) := by show _ = _; rw [Int.ofNat_sub (Nat.two_pow_pos m)]; simp
  have HB : Hid (Below w.heap.size w (w.alloc (Obj.cells #[Value.int IntKind.i64 m, Value.slice A m c] 27))) := (Below.refl _ _).alloc (Nat.le_refl _) _
  go_enter Tryz.func94, Tryz.ntmps94
  go_wp2
  go_ret
  exact ⟨ret_int H.out.symm, HB.out⟩
end Go.Proofs.YtjonhbmgmamchaaGreatDoor

/-
  Contracts: neighbours, parts, numbers of members: the program's.
-/
namespace Go.Proofs.YtjonhbmgmamchaaGreatDoor
open Go.RowKit

theorem CountSet_i (s : Nat) (hs : s < 128) (w : World) :
    Calls Tryz.prog 29 #[.int .i64 s] w fun e w' => e = .returned (.int .i64 ((listN s).length : Int)) ∧ Below w.heap.size w w' := by
  go_enter Tryz.func29, Tryz.ntmps29
  go_wp2_with fail
  refine (ListOf_i s hs w).mono ?_
  rintro e w1 ⟨A', c', rfl, hO, hb1⟩
  have HB := Lib.hid hb1
  clear hO hb1
  go_wp2
  go_ret
  exact ⟨rfl, HB.out⟩

/-- The members' neighbours, as far as the list has been read. -/
def nbL (r : Nat → Nat) (s k : Nat) : Nat := ((listN s).take k).foldl (fun a v => a ||| r v) 0
theorem nbL_succ {r : Nat → Nat} {s k : Nat} (h : k < (listN s).length) : nbL r s (k + 1) = nbL r s k ||| r (listN s)[k] := by
  unfold nbL
  rw [List.take_succ_eq_append_getElem h, List.foldl_append]; rfl
theorem nbL_end {r : Nat → Nat} {s k : Nat} (h : (listN s).length ≤ k) : nbL r s k = nb r s := by
  unfold nbL
  rw [List.take_of_length_le h]
  exact nb_list 7
theorem nbL_lt {r : Nat → Nat} {s n k : Nat} (hr : ∀ v, v < n → r v < 2 ^ n) (hs : s < 2 ^ n) : nbL r s k < 2 ^ n :=
  fold_lt _ _ (Nat.two_pow_pos n) (fun v hv => hr v (bit_lt hs (mem_listN.1 (List.mem_of_mem_take hv)).2))

set_option maxHeartbeats 1000000 in
theorem neighbors_i (m : Nat) (A : Option Addr) (c : Nat) (x : Nat → Int) (s : Nat) (w : World) (B : Nat) (h : Rd w B A m c x) (hB : B ≤ w.heap.size) (hok : okB m m x = true) (hs : s < 2 ^ m) :
    Calls Tryz.prog 96 #[.agg #[.int .i64 m, .slice A m c], .int .i64 s] w fun e w' => e = .returned (.int .i64 (nb (rw_ x) s : Nat)) ∧ Below w.heap.size w w' := by
  obtain ⟨vg, hx⟩ := okB_vg hok
  have hn1 := vg.n1
  have hn7 := vg.n7
  have h128 := two_pow_le hn7
  obtain ⟨W, hW⟩ : ∃ W : World, W = (w.alloc (Obj.cells #[Value.int IntKind.i64 m, Value.slice A m c] 27)) := ⟨_, rfl⟩
  have HB : Hid (Below w.heap.size w W) := by rw [hW]; exact ((Below.refl _ _).alloc (Nat.le_refl _) _)
  have a0 : w.heap.size < W.heap.size := by rw [hW]; simp
  have e1 : W.cell? ⟨w.heap.size, 1, none⟩ = some (.slice A m c) := by rw [hW]; simp [go_sem]
  obtain ⟨b, o, rfl, hb, hc⟩ := (h.keep (HB.out.mono hB) (Nat.le_refl _)).pos (by omega)
  have HC := Lib.hid hc
  have HW := Lib.hid hW
  have HX := Lib.hid hx
  have HV := Lib.hid vg
  clear hW h hc hx vg hok
  go_enter Tryz.func96, Tryz.ntmps96
  go_wp2_with fail
  rw [← HW.out]
  clear HW
  refine (ListOf_i s (by omega) W).mono ?_
  rintro e w1 ⟨A', c', rfl, hO, hb1⟩
  have z1 := hb1.size
  have f1 := up hb1 e1 a0
  have HO := Lib.hid hO
  have HB1 : Hid (Below w.heap.size w w1) := HB.out.trans (hb1.mono (by omega))
  have HC1 : Hid (∀ v, v < m → w1.cell? ⟨b, o + v, none⟩ = some (.int .i64 (x v))) := fun v hv => (hb1.cell (p := ⟨b, o + v, none⟩) (by show b < _; omega)).trans (HC.out v hv)
  have hl7 := listN_len s
  clear hO hb1 e1 HC HB
  go_wp2
  go_loop [5, 11] (fun a i => ∃ k : Nat, k ≤ (listN s).length ∧ i = .int .i64 k ∧ a = .int .i64 (nbL (rw_ x) s k : Nat)) (fun _ i => (listN s).length - (intOf i).toNat)
  case atStart => exact ⟨0, Nat.zero_le _, rfl, rfl⟩
  case round =>
    obtain ⟨k, hk, rfl, rfl⟩ := hrel
    by_cases hlt : k < (listN s).length
    · obtain ⟨hv7, hvb⟩ := listN_at hlt
      have hvm := bit_lt hs hvb
      have hstep := nbL_succ (r := rw_ x) hlt
      have hlt1 := nbL_lt (r := rw_ x) (k := k) HV.out.lt hs
      obtain ⟨v, hv⟩ : ∃ v, v = (listN s)[k] := ⟨_, rfl⟩
      rw [← hv] at hv7 hvb hvm hstep
      obtain ⟨g, hA, hg1, hg2, _, hcell, _⟩ := HO.out.at_ (by omega)
      have q0 : w1.cell? ⟨g, k, none⟩ = some (.int .i64 v) := (hcell k (by omega)).trans (by rw [ni_at hlt, ← hv])
      have q2 := HC1.out v hvm
      rw [HX.out v hvm] at q2
      have hr128 := HV.out.lt128 hvm
      have E := i64_or_nat (nbL (rw_ x) s k) (rw_ x v) (by omega) (by omega)
      rw [← hstep] at E
      have i1 : (k : Int) < ((listN s).length : Int) := by omega
      have i2 : (v : Int) < (m : Int) := by omega
      subst hA
      clear hv hcell hvb hstep
      go_wp2
      go_round
      case rel => exact ⟨k + 1, by omega, by go_num, rfl⟩
      case measure => simp [intOf]; omega
    · have hend : Hid (nbL (rw_ x) s k = nb (rw_ x) s) := nbL_end (by omega)
      have i1 : ((listN s).length : Int) ≤ (k : Int) := by omega
      go_wp2
      go_ret
      exact ⟨ret_int (by rw [hend.out]), HB1.out⟩

end Go.Proofs.YtjonhbmgmamchaaGreatDoor

/-
  Contracts: a set without which more parts are left than it has members: the program's search.
-/
namespace Go.Proofs.YtjonhbmgmamchaaGreatDoor
open Go.RowKit

end Go.Proofs.YtjonhbmgmamchaaGreatDoor

/-
  Contracts: a set without which more parts are left than it has members: the reference's search.
-/
namespace Go.Proofs.YtjonhbmgmamchaaGreatDoor
open Go.RowKit

theorem CountSet_s (s : Nat) (hs : s < 128) (w : World) :
    Calls Tryz.prog 14 #[.int .i64 s] w fun e w' => e = .returned (.int .i64 ((listN s).length : Int)) ∧ Below w.heap.size w w' := by
  go_enter Tryz.func14, Tryz.ntmps14
  go_wp2_with fail
  refine (ListOf_s s hs w).mono ?_
  rintro e w1 ⟨A', c', rfl, hO, hb1⟩
  have HB := Lib.hid hb1
  clear hO hb1
  go_wp2
  go_ret
  exact ⟨rfl, HB.out⟩

theorem nbK_end {r : Nat → Nat} {s m : Nat} (hs : s < 2 ^ m) : ∀ k, m ≤ k → nbK r s k = nbK r s m := by
  intro k hk
  induction k with
  | zero => obtain rfl : m = 0 := by omega
            rfl
  | succ k ih =>
    by_cases h : m = k + 1
    · rw [h]
    · rw [nbK_no, ih (by omega)]
      cases hb : s.testBit k
      · rfl
      · have := bit_lt hs hb; omega

set_option maxHeartbeats 1000000 in
theorem AroundSet_s (m : Nat) (A : Option Addr) (c : Nat) (x : Nat → Int) (s : Nat) (w : World) (B : Nat) (h : Rd w B A m c x) (hB : B ≤ w.heap.size) (hok : okB m m x = true) (hs : s < 2 ^ m) :
    Calls Tryz.prog 54 #[.agg #[.int .i64 m, .slice A m c], .int .i64 s] w fun e w' => e = .returned (.int .i64 ((s ||| nb (rw_ x) s : Nat) : Int)) ∧ Below w.heap.size w w' := by
  obtain ⟨vg, hx⟩ := okB_vg hok
  have hn1 := vg.n1
  have hn7 := vg.n7
  have h128 := two_pow_le hn7
  obtain ⟨W, hW⟩ : ∃ W : World, W = (w.alloc (Obj.cells #[Value.int IntKind.i64 m, Value.slice A m c] 27)) := ⟨_, rfl⟩
  have HB : Hid (Below w.heap.size w W) := by rw [hW]; exact ((Below.refl _ _).alloc (Nat.le_refl _) _)
  have a0 : w.heap.size < W.heap.size := by rw [hW]; simp
  have e0 : W.cell? ⟨w.heap.size, 0, none⟩ = some (.int .i64 m) := by rw [hW]; simp [go_sem]
  have e1 : W.cell? ⟨w.heap.size, 1, none⟩ = some (.slice A m c) := by rw [hW]; simp [go_sem]
  have HK := Lib.hid (h.keep (HB.out.mono hB) (Nat.le_refl _))
  obtain ⟨b, o, rfl, hb, hc⟩ := HK.out.pos (by omega)
  have HC := Lib.hid hc
  have HW := Lib.hid hW
  have HX := Lib.hid hx
  have HV := Lib.hid vg
  have Hok := Lib.hid hok
  clear hW h hc hx vg hok
  go_enter Tryz.func54, Tryz.ntmps54
  go_wp2_with fail
  rw [← HW.out]
  clear HW
  refine (IsSet_yes m (some ⟨b, o, none⟩) c x s W B HK.out (by omega) hn7 Hok.out hs).mono ?_
  rintro e w1 ⟨rfl, hb1⟩
  have z1 := hb1.size
  have f0 := up hb1 e0 a0
  have f1 := up hb1 e1 a0
  have HB1 : Hid (Below w.heap.size w w1) := HB.out.trans (hb1.mono (by omega))
  have HC1 : Hid (∀ v, v < m → w1.cell? ⟨b, o + v, none⟩ = some (.int .i64 (x v))) := fun v hv => (hb1.cell (p := ⟨b, o + v, none⟩) (by show b < _; omega)).trans (HC.out v hv)
  clear hb1 e0 e1 HC HB HK
  go_wp2
  go_loop [5, 6] (fun a i => ∃ k : Nat, k ≤ m ∧ i = .int .i64 k ∧ a = .int .i64 ((s ||| nbK (rw_ x) s k : Nat) : Int)) (fun _ i => m - (intOf i).toNat)
  case atStart => exact ⟨0, Nat.zero_le _, rfl, by simp [nbK]⟩
  case round =>
    obtain ⟨k, hk, rfl, rfl⟩ := hrel
    by_cases hlt : k < m
    · have q2 := HC1.out k hlt
      rw [HX.out k hlt] at q2
      have hr128 := HV.out.lt128 hlt
      have hnb := nb_lt (r := rw_ x) (s := s) HV.out.lt hs k
      have hlt1 : s ||| nbK (rw_ x) s k < 2 ^ m := Nat.or_lt_two_pow hs hnb
      have E := i64_or_nat (s ||| nbK (rw_ x) s k) (rw_ x k) (by omega) (by omega)
      have E1 := and_one_i64 (s : Int) k (by omega) (by omega)
      rw [Int.toNat_natCast] at E1
      have i1 : (k : Int) < (m : Int) := by omega
      cases ht : s.testBit k
      · rw [ht] at E1
        have Hs := Lib.hid (nbK_no (r := rw_ x) ht)
        clear ht E
        go_wp2
        go_round
        case rel => exact ⟨k + 1, by omega, by go_num, by rw [Hs.out]⟩
        case measure => simp [intOf] <;> omega
      · rw [ht] at E1
        have Hs := Lib.hid (nbK_yes (r := rw_ x) ht)
        rw [Nat.or_assoc, ← nbK_yes ht] at E
        clear ht
        go_wp2
        go_round
        case rel => exact ⟨k + 1, by omega, by go_num, rfl⟩
        case measure => simp [intOf] <;> omega
    · have hend : Hid (nbK (rw_ x) s k = nb (rw_ x) s) := by show _ = nbK _ _ 7; rw [nbK_end hs k (by omega), nbK_end hs 7 hn7]
      have i1 : (m : Int) ≤ (k : Int) := by omega
      go_wp2
      go_ret
      exact ⟨ret_int (by rw [hend.out]), HB1.out⟩

set_option maxHeartbeats 1000000 in
theorem l3Grow_s (m : Nat) (A : Option Addr) (c : Nat) (x : Nat → Int) (s set : Nat) (w : World) (B : Nat) (h : Rd w B A m c x) (hB : B ≤ w.heap.size) (hok : okB m m x = true) (hset : set < 2 ^ m) (hsub : Sub s set) (h0 : s ≠ 0) :
    Calls Tryz.prog 55 #[.agg #[.int .i64 m, .slice A m c], .int .i64 s, .int .i64 set] w fun e w' => e = .returned (.int .i64 (part (rw_ x) set s : Nat)) ∧ Below w.heap.size w w' := by
  obtain ⟨vg, hx⟩ := okB_vg hok
  have hn7 := vg.n7
  have h128 := two_pow_le hn7
  obtain ⟨W, hW⟩ : ∃ W : World, W = (w.alloc (Obj.cells #[Value.int IntKind.i64 m, Value.slice A m c] 27)) := ⟨_, rfl⟩
  have HB : Hid (Below w.heap.size w W) := by rw [hW]; exact ((Below.refl _ _).alloc (Nat.le_refl _) _)
  have a0 : w.heap.size < W.heap.size := by rw [hW]; simp
  have e0 : W.cell? ⟨w.heap.size, 0, none⟩ = some (.int .i64 m) := by rw [hW]; simp [go_sem]
  have e1 : W.cell? ⟨w.heap.size, 1, none⟩ = some (.slice A m c) := by rw [hW]; simp [go_sem]
  have HK := Lib.hid (h.keep (HB.out.mono hB) (Nat.le_refl _))
  have HW := Lib.hid hW
  have HV := Lib.hid vg
  have Hok := Lib.hid hok
  have Hsub := Lib.hid hsub
  have HE : Hid (gro (rw_ x) set s m = part (rw_ x) set s) := gro_part hn7 hset hsub h0
  clear hW h hx vg hok hsub h0
  go_enter Tryz.func55, Tryz.ntmps55
  go_wp2_with fail
  rw [← HW.out]
  clear HW
  go_loopw [7, 8] (fun f i wr => ∃ k : Nat, k ≤ m ∧ i = .int .i64 k ∧ f = .int .i64 (gro (rw_ x) set s k : Nat) ∧ Hid (Below W.heap.size W wr)) (fun _ i _ => m - (intOf i).toNat)
  case atStart => exact ⟨0, Nat.zero_le _, rfl, rfl, Below.refl _ _⟩
  case round =>
    obtain ⟨k, hk, rfl, rfl, hbr⟩ := hrel
    have zr := hbr.out.size
    have j0 := up hbr.out e0 a0
    have j1 := up hbr.out e1 a0
    by_cases hlt : k < m
    · have hgl := sub_lt (gro_sub (r := rw_ x) Hsub.out k) hset
      have hnb := nb_lt (r := rw_ x) (s := gro (rw_ x) set s k) HV.out.lt hgl 7
      have hstep : gro (rw_ x) set s (k + 1) = (gro (rw_ x) set s k ||| nb (rw_ x) (gro (rw_ x) set s k)) &&& set := rfl
      have HK2 : Hid (Rd wr B A m c x) := HK.out.keep (hbr.out.mono (by omega)) (Nat.le_refl _)
      have hor : gro (rw_ x) set s k ||| nb (rw_ x) (gro (rw_ x) set s k) < 2 ^ m := Nat.or_lt_two_pow hgl hnb
      obtain ⟨a, ha⟩ : ∃ a, a = gro (rw_ x) set s k := ⟨_, rfl⟩
      rw [← ha] at hgl hor hstep ⊢
      obtain ⟨q, hq⟩ : ∃ q, q = a ||| nb (rw_ x) a := ⟨_, rfl⟩
      have E := i64_and_nat q set (by omega) (by omega)
      rw [hq, ← hstep, ← hq] at E
      have Hq := Lib.hid hq
      have i1 : (k : Int) < (m : Int) := by omega
      have hBw : B ≤ wr.heap.size := by omega
      clear ha hnb hstep hq
      go_wp2_with fail
      refine (AroundSet_s m A c x a wr B HK2.out hBw Hok.out hgl).mono ?_
      rintro e w2 ⟨rfl, hb2⟩
      rw [← Hq.out]
      have HB2 : Hid (Below W.heap.size W w2) := hbr.out.trans (hb2.mono zr)
      clear hb2 hbr HK2 j0 j1
      go_wp2
      go_roundw
      case rel => exact ⟨k + 1, by omega, by go_num, rfl, HB2⟩
      case measure => simp [intOf] <;> omega
    · have hk' : k = m := by omega
      have HE2 : Hid (gro (rw_ x) set s k = part (rw_ x) set s) := by show _ = _; rw [hk']; exact HE.out
      have i1 : (m : Int) ≤ (k : Int) := by omega
      clear hk'
      go_wp2
      go_ret
      exact ⟨ret_int (by rw [HE2.out]), HB.out.trans (hbr.out.mono (by omega))⟩
end Go.Proofs.YtjonhbmgmamchaaGreatDoor

/-
  Contract: a graph and one edge more, of the program.
-/
namespace Go.Proofs.YtjonhbmgmamchaaGreatDoor
open Go.RowKit

theorem okB_ok' {s : Int} {m : Nat} {x : Nat → Int} (h : okB s m x = true) : OkG s m x := by
  refine Classical.byContradiction fun h2 => ?_
  rw [okB_no h2] at h; cases h
end Go.Proofs.YtjonhbmgmamchaaGreatDoor

/-
  Plain: a graph and a list of edges more.
-/
namespace Go.Proofs.YtjonhbmgmamchaaGreatDoor

end Go.Proofs.YtjonhbmgmamchaaGreatDoor

/-
  Contract: a graph and one edge more, of the reference.
-/
namespace Go.Proofs.YtjonhbmgmamchaaGreatDoor
open Go.RowKit

end Go.Proofs.YtjonhbmgmamchaaGreatDoor

/-
  Contract: a graph and a list of edges more, of the program.
-/
namespace Go.Proofs.YtjonhbmgmamchaaGreatDoor
open Go.RowKit

end Go.Proofs.YtjonhbmgmamchaaGreatDoor

/-
  Contract: a graph and a list of edges more, of the reference.
-/
namespace Go.Proofs.YtjonhbmgmamchaaGreatDoor
open Go.RowKit

end Go.Proofs.YtjonhbmgmamchaaGreatDoor

/-
  Contracts: is a graph chordal? The program's answer.
-/
namespace Go.Proofs.YtjonhbmgmamchaaGreatDoor
open Go.RowKit

end Go.Proofs.YtjonhbmgmamchaaGreatDoor

/-
  Contracts: is a graph chordal? The reference's answer.
-/
namespace Go.Proofs.YtjonhbmgmamchaaGreatDoor
open Go.RowKit

end Go.Proofs.YtjonhbmgmamchaaGreatDoor

/-
  Contracts: is a vertex in a list? is a list a way? The program's tests.
-/
namespace Go.Proofs.YtjonhbmgmamchaaGreatDoor
open Go.RowKit

theorem fIdx_in {l : List Nat} {v : Nat} (h : v ∈ l) : ∃ k : Nat, fIdx (fun j => l.getD j 0 == v) l.length = (k : Int) := by
  unfold fIdx
  cases hf : (List.range l.length).find? (fun j => l.getD j 0 == v) with
  | some k => exact ⟨k, rfl⟩
  | none =>
    exfalso
    rw [List.find?_eq_none] at hf
    obtain ⟨i, hi, rfl⟩ := List.mem_iff_getElem.1 h
    have := hf i (List.mem_range.2 hi)
    simp [List.getD, hi] at this
theorem fIdx_out {l : List Nat} {v : Nat} (h : v ∉ l) : fIdx (fun j => l.getD j 0 == v) l.length = -1 := by
  refine fIdx_no fun j hj => ?_
  have : l[j] ≠ v := fun e => h (e ▸ List.getElem_mem hj)
  simpa [List.getD, hj] using this

/-- A slice that reads as a list of vertices. -/
abbrev RdN (w : World) (B : Nat) (A : Option Addr) (n c : Nat) (l : List Nat) : Prop := n = l.length ∧ Rd w B A n c (fun j => ((l.getD j 0 : Nat) : Int))

set_option maxHeartbeats 1000000 in
theorem Index_i (A : Option Addr) (c : Nat) (l : List Nat) (v : Nat) (w : World) (B : Nat) (h : Rd w B A l.length c (fun j => ((l.getD j 0 : Nat) : Int))) (hl : l.length ≤ 1048576) :
    Calls Tryz.prog 101 #[.slice A l.length c, .int .i64 v] w fun e w' => e = .returned (.int .i64 (fIdx (fun j => l.getD j 0 == v) l.length)) ∧ w = w' := by
  have HR := Lib.hid h
  clear h
  go_enter Tryz.func101, Tryz.ntmps101
  go_wp2
  go_loop [8] (fun i => ∃ k : Nat, k ≤ l.length ∧ i = .int .i64 k ∧ Hid (∀ j, j < k → (l.getD j 0 == v) = false)) (fun i => l.length - (intOf i).toNat)
  case atStart => exact ⟨0, Nat.zero_le _, rfl, (fun j hj => absurd hj (by omega))⟩
  case round =>
    obtain ⟨k, hk, rfl, hall⟩ := hrel
    by_cases hlt : k < l.length
    · obtain ⟨b, o, rfl, hb, hc⟩ := HR.out.pos (by omega)
      have q0 := hc k hlt
      obtain ⟨u, hu⟩ : ∃ u : Nat, u = l.getD k 0 := ⟨_, rfl⟩
      rw [← hu] at q0
      have Hu := Lib.hid hu
      have i1 : (k : Int) < (l.length : Int) := by omega
      clear hc hu
      by_cases hp : v = u
      · have Hi : Hid (fIdx (fun j => l.getD j 0 == v) l.length = k) := fIdx_yes hlt (by show (l.getD k 0 == v) = true; rw [← Hu.out, hp]; simp) hall.out
        subst hp
        go_wp2
        go_ret
        exact ⟨ret_int Hi.out.symm, rfl⟩
      · have hne : ((v : Int) == (u : Int)) = false := by simp; omega
        have hne2 : (v = u) = False := by simp [hp]
        have Hp : Hid ((l.getD k 0 == v) = false) := by show _ = _; rw [← Hu.out]; simp; omega
        clear hp
        go_wp2
        go_round
        case rel =>
          refine ⟨k + 1, by omega, by go_num, fun j hj => ?_⟩
          by_cases hjk : j < k
          · exact hall.out j hjk
          · obtain rfl : j = k := by omega
            exact Hp.out
        case measure => simp [intOf]; omega
    · have Hi : Hid (fIdx (fun j => l.getD j 0 == v) l.length = -1) := fIdx_no fun j hj => hall.out j (by omega)
      have i1 : (l.length : Int) ≤ (k : Int) := by omega
      go_wp2
      go_ret
      exact ⟨ret_int Hi.out.symm, rfl⟩

set_option maxHeartbeats 1000000 in
theorem Contains_i (A : Option Addr) (n c : Nat) (l : List Nat) (v : Nat) (w : World) (B : Nat) (h : RdN w B A n c l) (hl : l.length ≤ 1048576) :
    Calls Tryz.prog 108 #[.slice A n c, .int .i64 v] w fun e w' => e = .returned (.bool (decide (v ∈ l))) ∧ w = w' := by
  obtain ⟨rfl, h⟩ := h
  have HI := Lib.hid (Index_i A c l v w B h hl)
  clear h
  by_cases hv : v ∈ l
  · obtain ⟨k, hk⟩ := fIdx_in hv
    rw [hk] at HI
    have Hd : Hid (decide (v ∈ l) = true) := decide_eq_true hv
    have k0 : (0 : Int) ≤ (k : Int) := by omega
    clear hk hv
    go_enter Tryz.func108, Tryz.ntmps108
    go_wp2_with fail
    refine HI.out.mono ?_
    rintro e w' ⟨rfl, rfl⟩
    go_wp2
    go_ret
    exact ⟨ret_bool Hd.out.symm, rfl⟩
  · rw [fIdx_out hv] at HI
    have Hd : Hid (decide (v ∈ l) = false) := decide_eq_false hv
    clear hv
    go_enter Tryz.func108, Tryz.ntmps108
    go_wp2_with fail
    refine HI.out.mono ?_
    rintro e w' ⟨rfl, rfl⟩
    go_wp2
    go_ret
    exact ⟨ret_bool Hd.out.symm, rfl⟩

theorem nodup_take {l : List Nat} {k : Nat} (hk : k < l.length) (h : (l.take k).Nodup) (hn : l[k] ∉ l.take k) : (l.take (k + 1)).Nodup := by
  rw [List.take_succ_eq_append_getElem hk, List.nodup_append]
  exact ⟨h, by simp, fun a ha b hb e => by rw [List.mem_singleton] at hb; subst hb; subst e; exact hn ha⟩
theorem not_nodup {l : List Nat} {k : Nat} (hk : k < l.length) (hn : l[k] ∈ l.take k) : ¬ l.Nodup := by
  intro h
  have h2 : (l.take (k + 1)).Nodup := h.sublist (List.take_sublist _ _)
  rw [List.take_succ_eq_append_getElem hk, List.nodup_append] at h2
  exact h2.2.2 _ hn _ (List.mem_singleton_self _) rfl

set_option maxHeartbeats 1600000 in
theorem areVertices_i (m : Nat) (A : Option Addr) (c : Nat) (x : Nat → Int) (Al : Option Addr) (nl cl : Nat) (l : List Nat) (w : World) (B : Nat) (h : Rd w B A m c x) (hl : RdN w B Al nl cl l) (hB : B ≤ w.heap.size) (hok : okB m m x = true) (hlen : l.length ≤ 7) (hall : ∀ v ∈ l, v < m) :
    Calls Tryz.prog 109 #[.agg #[.int .i64 m, .slice A m c], .slice Al nl cl] w fun e w' => e = .returned (.bool (decide l.Nodup)) ∧ Below w.heap.size w w' := by
  obtain ⟨rfl, hl⟩ := hl
  obtain ⟨vg, _⟩ := okB_vg hok
  have hn1 := vg.n1
  have hn7 := vg.n7
  obtain ⟨W, hW⟩ : ∃ W : World, W = (w.alloc (Obj.cells #[Value.int IntKind.i64 m, Value.slice A m c] 27)) := ⟨_, rfl⟩
  have HB : Hid (Below w.heap.size w W) := by rw [hW]; exact ((Below.refl _ _).alloc (Nat.le_refl _) _)
  have a0 : w.heap.size < W.heap.size := by rw [hW]; simp
  have e0 : W.cell? ⟨w.heap.size, 0, none⟩ = some (.int .i64 m) := by rw [hW]; simp [go_sem]
  have e1 : W.cell? ⟨w.heap.size, 1, none⟩ = some (.slice A m c) := by rw [hW]; simp [go_sem]
  have HK := Lib.hid (h.keep (HB.out.mono hB) (Nat.le_refl _))
  have HL := Lib.hid (hl.keep (HB.out.mono hB) (Nat.le_refl _))
  have HW := Lib.hid hW
  have Hok := Lib.hid hok
  have Hall := Lib.hid hall
  have hcap : l.length ≤ cl := hl.1
  clear hW h hl hok vg hall
  go_enter Tryz.func109, Tryz.ntmps109
  go_wp2_with fail
  rw [← HW.out]
  clear HW
  go_loop [9] (fun i => ∃ k : Nat, k ≤ l.length ∧ i = .int .i64 k ∧ Hid ((l.take k).Nodup)) (fun i => l.length - (intOf i).toNat)
  case atStart => exact ⟨0, Nat.zero_le _, rfl, by simp [Hid]⟩
  case round =>
    obtain ⟨k, hk, rfl, hnd⟩ := hrel
    by_cases hlt : k < l.length
    · obtain ⟨b, o, rfl, hb, hc⟩ := HL.out.pos (by omega)
      have q0 := hc k hlt
      obtain ⟨u, hu⟩ : ∃ u : Nat, u = l[k] := ⟨_, rfl⟩
      have e2 : l.getD k 0 = u := by rw [hu]; simp [List.getD, hlt]
      rw [e2] at q0
      have hum : u < m := by rw [hu]; exact Hall.out _ (List.getElem_mem hlt)
      have hlk : (l.take k).length = k := by rw [List.length_take]; omega
      have KC : Hid (Calls Tryz.prog 108 #[.slice (some ⟨b, o, none⟩) k cl, .int .i64 u] W fun e w' => e = .returned (.bool (decide (u ∈ l.take k))) ∧ W = w') :=
        Contains_i (some ⟨b, o, none⟩) k cl (l.take k) u W B ⟨hlk.symm, ⟨by omega, fun hn => ⟨b, o, rfl, hb, fun j hj => by rw [hc j (by omega)]; congr 3; simp [List.getD, hj]⟩⟩⟩ (by omega)
      have i1 : (k : Int) < (l.length : Int) := by omega
      have i2 : (0 : Int) ≤ (u : Int) := by omega
      have i3 : (u : Int) ≤ (m : Int) - 1 := by omega
      have i4 : (k : Int) ≤ (cl : Int) := by omega
      have i5 : (0 : Int) ≤ (k : Int) := by omega
      have Hu := Lib.hid hu
      clear hc e2 hlk hu
      by_cases hm : u ∈ l.take k
      · have hno : Hid (decide l.Nodup = false) := decide_eq_false (not_nodup hlt (by rw [← Hu.out]; exact hm))
        rw [decide_eq_true hm] at KC
        clear hm
        go_wp2_with (first | (go_at_call 57; refine (within_yes _ _ _ _ i2 i3).mono ?_; rintro e w' ⟨rfl, rfl⟩) | (go_at_call 108; with_reducible refine KC.out.mono ?_; rintro e w' ⟨rfl, rfl⟩))
        go_ret
        exact ⟨ret_bool hno.out.symm, HB.out⟩
      · have hyes : Hid ((l.take (k + 1)).Nodup) := nodup_take hlt hnd.out (by rw [← Hu.out]; exact hm)
        rw [decide_eq_false hm] at KC
        clear hm
        go_wp2_with (first | (go_at_call 57; refine (within_yes _ _ _ _ i2 i3).mono ?_; rintro e w' ⟨rfl, rfl⟩) | (go_at_call 108; with_reducible refine KC.out.mono ?_; rintro e w' ⟨rfl, rfl⟩))
        go_round
        case rel => exact ⟨k + 1, by omega, by go_num, hyes⟩
        case measure => simp [intOf]; omega
    · have hyes : Hid (decide l.Nodup = true) := decide_eq_true (by have := hnd.out; rwa [List.take_of_length_le (by omega)] at this)
      have i1 : (l.length : Int) ≤ (k : Int) := by omega
      go_wp2_with fail
      refine (IsGraph_any m A m c x W B HK.out (by omega) (by omega)).mono ?_
      rintro e w1 ⟨rfl, hb1⟩
      rw [Hok.out]
      have HB1 : Hid (Below w.heap.size w w1) := HB.out.trans (hb1.mono (by omega))
      clear hb1 e0 e1
      go_wp2
      go_ret
      exact ⟨ret_bool hyes.out.symm, HB1.out⟩
end Go.Proofs.YtjonhbmgmamchaaGreatDoor

/-
  Contracts: is a list a way? a list's copy; a list and one vertex more: the program's.
-/
namespace Go.Proofs.YtjonhbmgmamchaaGreatDoor
open Go.RowKit

/-- The tests of the edges, as far as they have been made. -/
theorem way_no {r : Nat → Nat} {l : List Nat} {i : Nat} (hi : i + 1 < l.length) (h : edg r (l.getD i 0) (l.getD (i + 1) 0) = false) : wayB r l = false := by
  unfold wayB
  have : ((List.range (l.length - 1)).all fun i => edg r (l.getD i 0) (l.getD (i + 1) 0)) = false := by
    rw [List.all_eq_false]
    exact ⟨i, by simp; omega, by show ¬ _ = true; rw [h]; simp⟩
  rw [this, Bool.and_false]
theorem way_yes {r : Nat → Nat} {l : List Nat} (h0 : l ≠ []) (hn : l.Nodup) (h : ∀ i, i + 1 < l.length → edg r (l.getD i 0) (l.getD (i + 1) 0) = true) : wayB r l = true := by
  unfold wayB
  have : ((List.range (l.length - 1)).all fun i => edg r (l.getD i 0) (l.getD (i + 1) 0)) = true := by
    rw [List.all_eq_true]
    intro i hi
    exact h i (by have := List.mem_range.1 hi; omega)
  rw [this, decide_eq_true hn]
  cases l
  · exact absurd rfl h0
  · rfl
theorem way_dup {r : Nat → Nat} {l : List Nat} (hn : ¬ l.Nodup) : wayB r l = false := by unfold wayB; rw [decide_eq_false hn]; simp

set_option maxHeartbeats 1600000 in
theorem IsWay_i (m : Nat) (A : Option Addr) (c : Nat) (x : Nat → Int) (Al : Option Addr) (nl cl : Nat) (l : List Nat) (w : World) (B : Nat) (h : Rd w B A m c x) (hl : RdN w B Al nl cl l) (hB : B ≤ w.heap.size) (hok : okB m m x = true) (hlen : l.length ≤ 7) (h0 : l ≠ []) (hall : ∀ v ∈ l, v < m) :
    Calls Tryz.prog 76 #[.agg #[.int .i64 m, .slice A m c], .slice Al nl cl] w fun e w' => e = .returned (.bool (wayB (rw_ x) l)) ∧ Below w.heap.size w w' := by
  obtain ⟨vg, hx⟩ := okB_vg hok
  have hn1 := vg.n1
  have hn7 := vg.n7
  obtain ⟨W, hW⟩ : ∃ W : World, W = (w.alloc (Obj.cells #[Value.int IntKind.i64 m, Value.slice A m c] 27)) := ⟨_, rfl⟩
  have HB : Hid (Below w.heap.size w W) := by rw [hW]; exact ((Below.refl _ _).alloc (Nat.le_refl _) _)
  have a0 : w.heap.size < W.heap.size := by rw [hW]; simp
  have e0 : W.cell? ⟨w.heap.size, 0, none⟩ = some (.int .i64 m) := by rw [hW]; simp [go_sem]
  have e1 : W.cell? ⟨w.heap.size, 1, none⟩ = some (.slice A m c) := by rw [hW]; simp [go_sem]
  have HK := Lib.hid (h.keep (HB.out.mono hB) (Nat.le_refl _))
  obtain ⟨hnl, hl2⟩ := hl
  have HL : Hid (RdN W B Al nl cl l) := ⟨hnl, hl2.keep (HB.out.mono hB) (Nat.le_refl _)⟩
  have HW := Lib.hid hW
  have Hok := Lib.hid hok
  have HX := Lib.hid hx
  have HV := Lib.hid vg
  have Hall := Lib.hid hall
  have hpos : 0 < l.length := List.length_pos_iff.2 h0
  have H0 := Lib.hid h0
  subst hnl
  have hne : ((l.length : Int) == 0) = false := by simp; omega
  clear hW h hl2 hok vg hall hx h0
  go_enter Tryz.func76, Tryz.ntmps76
  go_wp2_with fail
  rw [← HW.out]
  clear HW
  refine (areVertices_i m A c x Al l.length cl l W B HK.out HL.out (by omega) Hok.out hlen Hall.out).mono ?_
  rintro e w1 ⟨rfl, hb1⟩
  have z1 := hb1.size
  have f1 := up hb1 e1 a0
  have a1 : w.heap.size < w1.heap.size := by omega
  have HB1 : Hid (Below w.heap.size w w1) := HB.out.trans (hb1.mono (by omega))
  have HK1 : Hid (Rd w1 B A m c x) := HK.out.keep (hb1.mono (by omega)) (Nat.le_refl _)
  have HL1 : Hid (Rd w1 B Al l.length cl (fun j => ((l.getD j 0 : Nat) : Int))) := HL.out.2.keep (hb1.mono (by omega)) (Nat.le_refl _)
  clear hb1 e0 e1 HK HL
  by_cases hnd : l.Nodup
  · rw [decide_eq_true hnd]
    have Hnd := Lib.hid hnd
    obtain ⟨b, o, rfl, hb, hc⟩ := HK1.out.pos (by omega)
    obtain ⟨bl, ol, rfl, hbl, hcl⟩ := HL1.out.pos (by omega)
    have HC := Lib.hid hc
    have HCL := Lib.hid hcl
    clear hnd hc hcl
    go_wp2
    go_loopw [5] (fun i wr => ∃ k : Nat, 1 ≤ k ∧ k ≤ l.length ∧ i = .int .i64 k ∧ Hid (∀ i, i + 1 < k → edg (rw_ x) (l.getD i 0) (l.getD (i + 1) 0) = true) ∧ Hid (Below w1.heap.size w1 wr)) (fun i _ => l.length - (intOf i).toNat)
    case atStart => exact ⟨1, Nat.le_refl _, by omega, by go_num, (fun i hi => absurd hi (by omega)), Below.refl _ _⟩
    case round =>
      obtain ⟨k, hk1, hk, rfl, hall, hbr⟩ := hrel
      have zr := hbr.out.size
      by_cases hlt : k < l.length
      · obtain ⟨j, rfl⟩ : ∃ j, k = j + 1 := ⟨k - 1, by omega⟩
        obtain ⟨u, hu⟩ : ∃ u, u = l.getD j 0 := ⟨_, rfl⟩
        obtain ⟨v, hv⟩ : ∃ v, v = l.getD (j + 1) 0 := ⟨_, rfl⟩
        have hum : u < m := by rw [hu]; have : j < l.length := by omega
                               simpa [List.getD, this] using Hall.out _ (List.getElem_mem this)
        have hvm : v < m := by rw [hv]; simpa [List.getD, hlt] using Hall.out _ (List.getElem_mem hlt)
        have q1 := up hbr.out f1 a1
        have q2 := (hbr.out.cell (p := ⟨bl, ol + j, none⟩) (by show bl < _; omega)).trans (HCL.out j (by omega))
        have q3 := (hbr.out.cell (p := ⟨bl, ol + (j + 1), none⟩) (by show bl < _; omega)).trans (HCL.out (j + 1) hlt)
        have q4 := (hbr.out.cell (p := ⟨b, o + u, none⟩) (by show b < _; omega)).trans (HC.out u hum)
        rw [← hu] at q2
        rw [← hv] at q3
        rw [HX.out u hum] at q4
        have hr128 := HV.out.lt128 hum
        have i1 : ((j + 1 : Nat) : Int) < (l.length : Int) := by omega
        have i2 : (u : Int) < (m : Int) := by omega
        have s1 : IntKind.i64.wrap (((j + 1 : Nat) : Int) - 1) = (j : Int) := by
          have : ((j + 1 : Nat) : Int) - 1 = (j : Int) := by omega
          rw [this]; exact Go.IntWalk.i64_in (j : Int) (by omega)
        have i3 : (j : Int) < (l.length : Int) := by omega
        have K1 : Hid (∀ w, Calls Tryz.prog 58 #[.int .i64 (rw_ x u : Int), .int .i64 v] w fun e w' => e = .returned (.bool (edg (rw_ x) u v)) ∧ w' = w) := fun w => (has_any (rw_ x u) v w (by omega) (by omega) (by omega) (by omega)).mono fun _ _ ⟨h1, h2⟩ => ⟨by rw [h1, Int.toNat_natCast, Int.toNat_natCast]; rfl, h2.symm⟩
        have Hu := Lib.hid hu
        have Hv := Lib.hid hv
        clear hu hv
        cases he : edg (rw_ x) u v
        · have hno : Hid (wayB (rw_ x) l = false) := way_no hlt (by rw [← Hu.out, ← Hv.out]; exact he)
          rw [he] at K1
          clear he
          go_wp2
          go_quiet (first | (go_at_call 58; with_reducible exact Calls.quiet_of_same (K1.out _)))
          go_wp2
          go_ret
          exact ⟨ret_bool hno.out.symm, HB1.out.trans ((below_drewN hbr.out _).mono (by omega))⟩
        · have He : Hid (edg (rw_ x) (l.getD j 0) (l.getD (j + 1) 0) = true) := by show _ = _; rw [← Hu.out, ← Hv.out]; exact he
          rw [he] at K1
          clear he
          go_wp2
          go_quiet (first | (go_at_call 58; with_reducible exact Calls.quiet_of_same (K1.out _)))
          go_wp2
          refine ⟨⟨j + 1 + 1, by omega, by omega, by go_num, fun i hi => ?_, below_drewN hbr.out _⟩, by simp [intOf] <;> omega⟩
          by_cases hij : i + 1 < j + 1
          · exact hall.out i hij
          · obtain rfl : i = j := by omega
            exact He.out
      · have hyes : Hid (wayB (rw_ x) l = true) := way_yes H0.out Hnd.out fun i hi => hall.out i (by omega)
        have i1 : (l.length : Int) ≤ (k : Int) := by omega
        go_wp2
        go_ret
        exact ⟨ret_bool hyes.out.symm, HB1.out.trans (hbr.out.mono (by omega))⟩
  · rw [decide_eq_false hnd]
    have hno : Hid (wayB (rw_ x) l = false) := way_dup hnd
    clear hnd
    go_wp2
    go_ret
    exact ⟨ret_bool hno.out.symm, HB1.out⟩

/-! ### a list and one vertex more -/
theorem wpList_moreN (W : World) {ops : Array Oper} {rest : List Oper} {o : Oper} {a : Act} {Q : Exit → Act → World → Prop} (hgd : o.guard = none) (s y : Operand)
    (ho : o.op = .call { callee := .builtin .append, args := #[s, y], argTypes := #[22, 22] })
    (B : Nat) (A : Option Addr) (l : List Nat) (hA : A = none → l = []) (h : Rd W B A l.length l.length (fun j => ((l.getD j 0 : Nat) : Int))) (hB : B ≤ W.heap.size) (k : Nat) (hs : a.eval s = .slice A l.length l.length) (cx H : Nat) (hH : W.heap.size = H) (hy : a.eval y = .slice (some ⟨H, 0, none⟩) 1 cx)
    (hn : l.length ≤ 1073741824)
    (hK : ∀ g cap w', Own w' W.heap.size w'.heap.size 3 1 (some ⟨g, 0, none⟩) (l.length + 1) cap (ni (l ++ [k])) → Below W.heap.size W w' → wpList Tryz.prog ops Q rest (a.put o.dst (.slice (some ⟨g, 0, none⟩) (l.length + 1) cap)) w') :
    wpList Tryz.prog ops Q (o :: rest) a (W.alloc (Obj.cells #[.int .i64 (k : Int)] 3)) := by
  subst hH
  obtain ⟨i, hi', hzz⟩ := Option.map_eq_some_iff.1 info_int
  simp only [Prod.mk.injEq] at hzz
  obtain ⟨hz, hsize, hbytes⟩ := hzz
  have hr := h.keep ((Below.refl B W).alloc hB (Obj.cells #[.int .i64 (k : Int)] 3)) (Nat.le_refl _)
  refine wpList_append_grows (P := Tryz.prog) _ hgd s y 22 ho 3 i _ 1 8 Tryz.underlying22 hi' hz hsize hbytes rfl (by omega) A l.length l.length ((List.range l.length).map fun j => .int .i64 ((l.getD j 0 : Nat) : Int)) hs (fun e => by have := hA e; subst this; exact ⟨rfl, rfl⟩) (by simp) ?_ ⟨W.heap.size, 0, none⟩ 1 cx [.int .i64 (k : Int)] hy rfl (World.news_of_block (heap_alloc_new W (Obj.cells #[.int .i64 (k : Int)] 3))) (by simp [Value.oneCell']) (by omega) (by unfold maxLen; omega) (by omega) ?_
  · intro b e j u hj
    have hlt : j < l.length := by
      have := (List.getElem?_eq_some_iff.1 hj).1
      simpa using this
    obtain ⟨b', o', e2, _, hc⟩ := hr.2 (by omega)
    rw [e] at e2
    simp only [Option.some.injEq] at e2
    subst e2
    have hadd : (⟨b', o', none⟩ : Addr).add j = ⟨b', o' + j, none⟩ := by unfold Addr.add; split <;> simp_all
    rw [hadd, hc j hlt]
    simpa [hlt] using hj
  · intro v' w' hrow hg
    obtain ⟨g, cap, rfl, hge, hlt⟩ := hrow.form (by omega)
    refine hK g cap w' ((Own.of_row hrow (fun j hj => ?_)).mono (by simp) (Nat.le_refl _)) (((Below.refl _ _).alloc (Nat.le_refl _) _).trans ((Below.refl _ _).grown hg (by simp) (fun k hk => by cases hk)))
    rw [List.getElem?_append]
    simp only [List.length_map, List.length_range]
    by_cases hj2 : j < l.length
    · rw [if_pos hj2, ni_left (by omega)]; unfold ni; simp [hj2]
    · rw [if_neg hj2]
      obtain rfl : j = l.length := by omega
      rw [Nat.sub_self]
      have := ni_news (l := l) (k := k) 0 (by omega)
      rw [Nat.mul_one, Nat.add_zero] at this
      exact this
end Go.Proofs.YtjonhbmgmamchaaGreatDoor

/-
  What the searches for ways answer, as plain functions.
-/
namespace Go.Proofs.YtjonhbmgmamchaaGreatDoor
open Go.RowKit

noncomputable def hamR (sz : Int) (m : Nat) (x : Nat → Int) (closed : Bool) : Option (List Nat) := if okB sz m x = true then sea (rw_ x) m closed m [] else none
noncomputable def hamQ (sz : Int) (m : Nat) (x : Nat → Int) (closed : Bool) : Option (List Nat) := if closed = true ∧ sz < 3 then none else hamR sz m x closed
noncomputable def hamL (sz : Int) (m : Nat) (x : Nat → Int) (closed : Bool) : List Nat := (hamQ sz m x closed).getD []
noncomputable def hamB (sz : Int) (m : Nat) (x : Nat → Int) (closed : Bool) : Bool := (hamQ sz m x closed).isSome
theorem hamR_bad {sz : Int} {m : Nat} {x : Nat → Int} {closed : Bool} (h : okB sz m x = false) : hamR sz m x closed = none := by unfold hamR; rw [h]; rfl
theorem hamR_ok {sz : Int} {m : Nat} {x : Nat → Int} {closed : Bool} (h : okB sz m x = true) : hamR sz m x closed = sea (rw_ x) m closed m [] := by unfold hamR; rw [h]; rfl
theorem hamQ_small {sz : Int} {m : Nat} {x : Nat → Int} (h : sz < 3) : hamQ sz m x true = none := by unfold hamQ; rw [if_pos ⟨rfl, h⟩]
theorem hamQ_big {sz : Int} {m : Nat} {x : Nat → Int} (h : 3 ≤ sz) : hamQ sz m x true = hamR sz m x true := by unfold hamQ; rw [if_neg (fun h2 => by omega)]
theorem hamQ_path {sz : Int} {m : Nat} {x : Nat → Int} : hamQ sz m x false = hamR sz m x false := by unfold hamQ; rw [if_neg (fun h2 => by cases h2.1)]
theorem ham_none {sz : Int} {m : Nat} {x : Nat → Int} {closed : Bool} (h : hamQ sz m x closed = none) : hamL sz m x closed = [] ∧ hamB sz m x closed = false := by unfold hamL hamB; rw [h]; exact ⟨rfl, rfl⟩
theorem ham_some {sz : Int} {m : Nat} {x : Nat → Int} {closed : Bool} {o : List Nat} (h : hamQ sz m x closed = some o) : hamL sz m x closed = o ∧ hamB sz m x closed = true := by unfold hamL hamB; rw [h]; exact ⟨rfl, rfl⟩
/-- What comes back: nothing, or a list of its own. -/
def hamP (w : World) (o : Option (List Nat)) (e : Ending) (w' : World) : Prop :=
  match o with
  | none => ∃ A' c', e = .returned (.tuple #[.slice A' 0 c', .bool false]) ∧ Own w' w.heap.size w'.heap.size 3 1 A' 0 c' (ni []) ∧ Below w.heap.size w w'
  | some out => ∃ A' c', e = .returned (.tuple #[.slice A' out.length c', .bool true]) ∧ Own w' w.heap.size w'.heap.size 3 1 A' out.length c' (ni out) ∧ Below w.heap.size w w'
/-- As the law's text wants it. -/
theorem hamP_law {w : World} {sz : Int} {m : Nat} {x : Nat → Int} {closed : Bool} {e : Ending} {w' : World} (h : hamP w (hamQ sz m x closed) e w') :
    ∃ A' c', e = .returned (.tuple #[.slice A' (hamL sz m x closed).length c', .bool (hamB sz m x closed)]) ∧ Own w' w.heap.size w'.heap.size 3 1 A' (hamL sz m x closed).length c' (fun j => .int .i64 ((((hamL sz m x closed).getD j 0 : Nat)) : Int)) ∧ Below w.heap.size w w' := by
  cases hq : hamQ sz m x closed with
  | none =>
    rw [hq] at h
    rw [(ham_none hq).1, (ham_none hq).2]
    exact h
  | some o =>
    rw [hq] at h
    rw [(ham_some hq).1, (ham_some hq).2]
    exact h
end Go.Proofs.YtjonhbmgmamchaaGreatDoor

/-
  Contracts: the reference's search for a way through all vertices.
-/
namespace Go.Proofs.YtjonhbmgmamchaaGreatDoor
open Go.RowKit

set_option maxHeartbeats 1000000 in
theorem l8Has_s (A : Option Addr) (n c : Nat) (l : List Nat) (v : Nat) (w : World) (B : Nat) (h : RdN w B A n c l) (hl : l.length ≤ 1048576) :
    Calls Tryz.prog 90 #[.slice A n c, .int .i64 v] w fun e w' => e = .returned (.bool (decide (v ∈ l))) ∧ w = w' := by
  obtain ⟨rfl, h⟩ := h
  have HR := Lib.hid h
  clear h
  go_enter Tryz.func90, Tryz.ntmps90
  go_wp2
  go_loop [5] (fun i => ∃ k : Nat, k ≤ l.length ∧ i = .int .i64 k ∧ Hid (∀ j (hj : j < l.length), j < k → l[j] ≠ v)) (fun i => l.length - (intOf i).toNat)
  case atStart => exact ⟨0, Nat.zero_le _, rfl, (fun j hj hk => absurd hk (by omega))⟩
  case round =>
    obtain ⟨k, hk, rfl, hall⟩ := hrel
    by_cases hlt : k < l.length
    · obtain ⟨b, o, rfl, hb, hc⟩ := HR.out.pos (by omega)
      have q0 := hc k hlt
      obtain ⟨u, hu⟩ : ∃ u : Nat, u = l[k] := ⟨_, rfl⟩
      have e2 : l.getD k 0 = u := by rw [hu]; simp [List.getD, hlt]
      rw [e2] at q0
      have Hu := Lib.hid hu
      have i1 : (k : Int) < (l.length : Int) := by omega
      clear hc hu e2
      by_cases hp : u = v
      · have Hd : Hid (decide (v ∈ l) = true) := decide_eq_true (by rw [← hp, Hu.out]; exact List.getElem_mem hlt)
        subst hp
        go_wp2
        go_ret
        exact ⟨ret_bool Hd.out.symm, rfl⟩
      · have hne : ((u : Int) == (v : Int)) = false := by simp; omega
        have hne2 : (u = v) = False := by simp [hp]
        have Hp := Lib.hid hp
        clear hp
        go_wp2
        go_round
        case rel =>
          refine ⟨k + 1, by omega, by go_num, fun j hj hjk => ?_⟩
          by_cases hjk2 : j < k
          · exact hall.out j hj hjk2
          · obtain rfl : j = k := by omega
            rw [← Hu.out]; exact Hp.out
        case measure => simp [intOf]; omega
    · have Hd : Hid (decide (v ∈ l) = false) := decide_eq_false fun h => by
        obtain ⟨j, hj, e⟩ := List.mem_iff_getElem.1 h
        exact hall.out j hj (by omega) e
      have i1 : (l.length : Int) ≤ (k : Int) := by omega
      go_wp2
      go_ret
      exact ⟨ret_bool Hd.out.symm, rfl⟩

/-- append of a slice that is only read, at a step of a region; of the old blocks only the slice's own may have turned. -/
theorem step_appendG (w : World) {ops : Array Oper} {o : Oper} {a : Act} {K : Act → World → Prop} {Q : Exit → Act → World → Prop} {E : Prop} {lo hi B n c m c2 : Nat} {A A2 : Option Addr} {x : Nat → Value} {y : Nat → Int} (hgd : o.guard = none) (s z : Operand)
    (ho : o.op = .call { callee := .builtin .append, args := #[s, z], argTypes := #[22, 22] })
    (hs : a.eval s = .slice A n c) (h : Own w lo hi 3 1 A n c x) (hz : a.eval z = .slice A2 m c2) (hr : Rd w B A2 m c2 y) (hlo : lo ≤ w.heap.size) (hn : n ≤ 1073741824) (hm : m ≤ 1073741824)
    (hK : ∀ A' c' w', Own w' lo w'.heap.size 3 1 A' (n + m) c' (thenI n x y) → Below lo w w' → w.grownBy w' (Value.slice A n c).ownBlock → K (a.put o.dst (.slice A' (n + m) c')) w') :
    if Region.wanted o (yielded ops a.tmps) = true then Oper.wp Tryz.prog o a w K Q else E := by
  have hw : Region.wanted o (yielded ops a.tmps) = true := by simp [Region.wanted, hgd]
  rw [if_pos hw]
  obtain ⟨A', c', w', hrun, h2, h3, _, h5⟩ := run_appendI w o.type h hr hlo hn hm
  unfold Oper.wp execOp
  simp only [ho, resolve, invoke, builtin, Sem.run_bind, Sem.run_pure, Result.andThen_ok, List.map_toArray, List.map_cons, List.map_nil, hs, hz, hrun]
  exact hK _ _ _ h2 h3 h5

def seaS (w : World) (lo k : Nat) (o : Option (List Nat)) (e : Ending) (w' : World) : Prop :=
  match o with
  | none => ∃ A' n' c', e = .returned (.tuple #[.slice A' n' c', .bool false]) ∧ (k ≠ 0 → n' = 0 ∧ Own w' lo w'.heap.size 3 1 A' 0 c' (ni [])) ∧ Below w.heap.size w w'
  | some out => ∃ A' c', e = .returned (.tuple #[.slice A' out.length c', .bool true]) ∧ Own w' lo w'.heap.size 3 1 A' out.length c' (ni out) ∧ Below w.heap.size w w'

theorem last_mem {l : List Nat} (h : l ≠ []) : l.getLastD 0 ∈ l ∧ l.getD (l.length - 1) 0 = l.getLastD 0 ∧ l.headD 0 ∈ l ∧ l.getD 0 0 = l.headD 0 := by
  refine ⟨?_, ?_, ?_, ?_⟩
  · rw [List.getLastD_eq_getLast?, List.getLast?_eq_some_getLast h]; exact List.getLast_mem h
  · cases hh : l.getLast? with
    | none => rw [List.getLast?_eq_none_iff] at hh; exact absurd hh h
    | some a => rw [(last_getD hh).2, List.getLastD_eq_getLast?, hh]; rfl
  · cases l with
    | nil => exact absurd rfl h
    | cons a l => simp
  · cases l with
    | nil => exact absurd rfl h
    | cons a l => rfl

set_option maxRecDepth 100000 in
set_option maxHeartbeats 3200000 in
theorem search_s0 (m c : Nat) (A : Option Addr) (x : Nat → Int) (B lo : Nat) (closed : Bool) (hok : okB m m x = true) (l : List Nat) (g c' : Nat) (w : World) (hlm : l.length = m) (hway : Way (rw_ x) m closed l) (hr : Rd w B A m c x) (hB : B ≤ w.heap.size) (_hlo : lo ≤ w.heap.size) (hO : Own w lo w.heap.size 3 1 (some ⟨g, 0, none⟩) l.length c' (ni l)) :
    Calls Tryz.prog 56 #[.agg #[.int .i64 m, .slice A m c], .slice (some ⟨g, 0, none⟩) l.length c', .bool closed] w (seaS w lo 0 (sea (rw_ x) m closed 0 l)) := by
  obtain ⟨vg, hx⟩ := okB_vg hok
  have hn1 := vg.n1
  have hn7 := vg.n7
  have hl0 : l ≠ [] := by rintro rfl; simp at hlm; omega
  obtain ⟨W, hW⟩ : ∃ W : World, W = (w.alloc (Obj.cells #[Value.int IntKind.i64 m, Value.slice A m c] 27)) := ⟨_, rfl⟩
  have HB : Hid (Below w.heap.size w W) := by rw [hW]; exact ((Below.refl _ _).alloc (Nat.le_refl _) _)
  have a0 : w.heap.size < W.heap.size := by rw [hW]; simp
  have e0 : W.cell? ⟨w.heap.size, 0, none⟩ = some (.int .i64 m) := by rw [hW]; simp [go_sem]
  have e1 : W.cell? ⟨w.heap.size, 1, none⟩ = some (.slice A m c) := by rw [hW]; simp [go_sem]
  have hpos : 0 < l.length := List.length_pos_iff.2 hl0
  obtain ⟨g', eg, _, hg2, hg3, hcl, _⟩ := hO.at_ hpos
  simp only [Option.some.injEq, Addr.mk.injEq, and_true] at eg
  subst eg
  obtain ⟨m1, m2, m3, m4⟩ := last_mem hl0
  obtain ⟨j, hj⟩ : ∃ j, j = l.length - 1 := ⟨_, rfl⟩
  rw [← hj] at m2
  have q1 : W.cell? ⟨g, j, none⟩ = some (.int .i64 (l.getLastD 0 : Nat)) := (HB.out.cell (p := ⟨g, j, none⟩) (by show g < _; omega)).trans ((hcl j (by omega)).trans (by unfold ni; rw [m2]))
  have q2 : W.cell? ⟨g, 0, none⟩ = some (.int .i64 (l.headD 0 : Nat)) := (HB.out.cell (p := ⟨g, 0, none⟩) (by show g < _; omega)).trans ((hcl 0 (by omega)).trans (by unfold ni; rw [m4]))
  have hum := hway.lt _ m1
  have hhm := hway.lt _ m3
  have hfin : Hid (fin_ (rw_ x) closed l = (!closed || edg (rw_ x) (l.getLastD 0) (l.headD 0))) := rfl
  obtain ⟨u, hu⟩ : ∃ u, u = l.getLastD 0 := ⟨_, rfl⟩
  obtain ⟨h0, hh0⟩ : ∃ h0, h0 = l.headD 0 := ⟨_, rfl⟩
  rw [← hu] at q1 hum hfin
  rw [← hh0] at q2 hhm hfin
  obtain ⟨b, o, rfl, hb, hc⟩ := (hr.keep (HB.out.mono hB) (Nat.le_refl _)).pos (by omega)
  have q3 := hc u hum
  rw [hx u hum] at q3
  have hr128 := vg.lt128 hum
  have s1 : IntKind.i64.wrap ((l.length : Int) - 1) = (j : Int) := by
    have : (l.length : Int) - 1 = (j : Int) := by omega
    rw [this]; exact Go.IntWalk.i64_in (j : Int) (by omega)
  have i1 : (j : Int) < (l.length : Int) := by omega
  have i2 : (0 : Int) < (l.length : Int) := by omega
  have heq : ((l.length : Int) == (m : Int)) = true := by simp; omega
  have heq2 : (l.length = m) = True := by simp [hlm]
  have HO : Hid (Own W lo W.heap.size 3 1 (some ⟨g, 0, none⟩) l.length c' (ni l)) := (hO.keepB HB.out (Nat.le_refl _)).mono (Nat.le_refl _) HB.out.size
  have HW := Lib.hid hW
  have hs : sea (rw_ x) m closed 0 l = if fin_ (rw_ x) closed l = true then some l else none := rfl
  have Hs := Lib.hid hs
  have KE : Hid (∀ z : World, (z.cell? ⟨w.heap.size, 0, none⟩ = some (.int .i64 m) ∧ z.cell? ⟨w.heap.size, 1, none⟩ = some (.slice (some ⟨b, o, none⟩) m c) ∧ z.cell? ⟨g, j, none⟩ = some (.int .i64 u) ∧ z.cell? ⟨g, 0, none⟩ = some (.int .i64 h0) ∧ Below W.heap.size W z) → Calls Tryz.prog 87 #[.agg #[.int .i64 m, .slice (some ⟨b, o, none⟩) m c], .int .i64 u, .int .i64 h0] z fun e w' => e = .returned (.bool (edg (rw_ x) u h0)) ∧ (w'.cell? ⟨w.heap.size, 0, none⟩ = some (.int .i64 m) ∧ w'.cell? ⟨w.heap.size, 1, none⟩ = some (.slice (some ⟨b, o, none⟩) m c) ∧ w'.cell? ⟨g, j, none⟩ = some (.int .i64 u) ∧ w'.cell? ⟨g, 0, none⟩ = some (.int .i64 h0) ∧ Below W.heap.size W w')) := by
    rintro z ⟨t0, t1, t2, t3, t4⟩
    refine (l2Edge_any m b o m c z u h0 (rw_ x u) (up t4 q3 (by omega)) (by have := t4.size; omega) hum (by omega) (by omega) (by omega)).mono ?_
    rintro e w' ⟨rfl, hb⟩
    exact ⟨by rw [Int.toNat_natCast]; rfl, up hb t0 (World.block_lt_of_cell? _ _ t0), up hb t1 (World.block_lt_of_cell? _ _ t1), up hb t2 (World.block_lt_of_cell? _ _ t2), up hb t3 (World.block_lt_of_cell? _ _ t3), t4.trans (hb.mono t4.size)⟩
  have hd : Below W.heap.size W W.drew := (Below.refl _ _).drew
  have e0' : W.drew.cell? ⟨w.heap.size, 0, none⟩ = some (.int .i64 m) := e0
  have e1' : W.drew.cell? ⟨w.heap.size, 1, none⟩ = some (.slice (some ⟨b, o, none⟩) m c) := e1
  have q1' : W.drew.cell? ⟨g, j, none⟩ = some (.int .i64 u) := q1
  have q2' : W.drew.cell? ⟨g, 0, none⟩ = some (.int .i64 h0) := q2
  clear hW hr hO hcl hx vg hok hu hh0 m1 m2 m3 m4 hlm hc hs hway hl0 hj
  cases closed
  · have hs2 : Hid (sea (rw_ x) m false 0 l = some l) := rfl
    go_enter Tryz.func56, Tryz.ntmps56
    go_wp2_with fail
    rw [← HW.out]
    clear HW
    go_quiet (fail)
    go_wp2
    go_ret2
    rw [hs2.out]
    unfold seaS
    exact ⟨_, _, rfl, HO.out, below_drewN HB.out _⟩
  · go_enter Tryz.func56, Tryz.ntmps56
    go_wp2_with fail
    rw [← HW.out]
    clear HW
    go_region_held3 (fun z => z.cell? ⟨w.heap.size, 0, none⟩ = some (.int .i64 m) ∧ z.cell? ⟨w.heap.size, 1, none⟩ = some (.slice (some ⟨b, o, none⟩) m c) ∧ z.cell? ⟨g, j, none⟩ = some (.int .i64 u) ∧ z.cell? ⟨g, 0, none⟩ = some (.int .i64 h0) ∧ Below W.heap.size W z)
      (first | assumption | (refine ⟨?_, ?_, ?_, ?_, ?_⟩ <;> assumption) | fail)
      (first
        | (go_at_call 87; ((with_reducible refine (KE.out _ (by assumption)).mono ?_); rintro e w3 ⟨rfl, hS3⟩))
        | fail)
    have hb3 := hS3.2.2.2.2
    have HO3 : Hid (Own w3 lo w3.heap.size 3 1 (some ⟨g, 0, none⟩) l.length c' (ni l)) := (HO.out.keepB hb3 (Nat.le_refl _)).mono (Nat.le_refl _) hb3.size
    have HB3 : Hid (Below w.heap.size w w3) := HB.out.trans (hb3.mono (by omega))
    clear hS3 hb3 KE hd e0' e1' q1' q2' e0 e1 q1 q2
    cases he : edg (rw_ x) u h0
    · have hs2 : Hid (sea (rw_ x) m true 0 l = none) := by show _ = _; rw [Hs.out, hfin.out, he]; rfl
      clear he
      go_wp2
      go_ret2
      rw [hs2.out]
      unfold seaS
      exact ⟨_, _, _, rfl, fun h => absurd rfl h, HB3.out⟩
    · have hs2 : Hid (sea (rw_ x) m true 0 l = some l) := by show _ = _; rw [Hs.out, hfin.out, he]; rfl
      clear he
      go_wp2
      go_ret2
      rw [hs2.out]
      unfold seaS
      exact ⟨_, _, rfl, HO3.out, HB3.out⟩
end Go.Proofs.YtjonhbmgmamchaaGreatDoor
