/-
-/
import Derived.Test.YtfabbohijhjpcaaGreatDoorRcGB
import Derived.Test.YtfabbohijhjpcaaGreatDoorRcGA
import Derived.Deep.RegionLaw
import Derived.Deep.RegionHeld3
import Derived.ArgAppend
/-
 Contracts: is a graph chordal? The program's elimination.
-/
namespace Go.Proofs.YtfabbohijhjpcaaGreatDoor
open Go.RowKit
def fIdx (p : Nat → Bool) (n : Nat) : Int := match (List.range n).find? p with | some k => (k : Int) | none => -1
theorem fIdx_yes {p : Nat → Bool} {n k : Nat} (hk : k < n) (hp : p k = true) (hmin : ∀ j, j < k → p j = false) : fIdx p n = k := by
 have : (List.range n).find? p = some k := by
  rw [List.find?_range_eq_some]
  exact ⟨hp, by simp [hk], fun j hj => by simp [hmin j hj]⟩
 unfold fIdx; rw [this]
theorem fIdx_no {p : Nat → Bool} {n : Nat} (h : ∀ j, j < n → p j = false) : fIdx p n = -1 := by
 have : (List.range n).find? p = none := by
  rw [List.find?_eq_none]
  intro j hj
  simp [h j (List.mem_range.1 hj)]
 unfold fIdx; rw [this]
theorem all_any (m : Nat) (A : Option Addr) (c : Nat) (w : World) (hm : m ≤ 7) :
 Calls Tryz.prog 225 #[.agg #[.int .i64 m, .slice A m c]] w fun e w' => e = .returned (.int .i64 ((2 ^ m - 1 : Nat) : Int)) ∧ Below w.heap.size w w' := by
 have p1 := pow_shl m hm
 have p2 := two_pow_int m hm
 have H : Hid (((2 ^ m - 1 : Nat) : Int) = 2 ^ m - 1) := by show _ = _; rw [Int.ofNat_sub (Nat.two_pow_pos m)]; simp
 have HB : Hid (Below w.heap.size w (w.alloc (Obj.cells #[Value.int IntKind.i64 m, Value.slice A m c] 26))) := (Below.refl _ _).alloc (Nat.le_refl _) _
 go_enter Tryz.func225, Tryz.ntmps225
 go_wp2
 go_ret
 exact ⟨ret_int H.out.symm, HB.out⟩
end Go.Proofs.YtfabbohijhjpcaaGreatDoor
/-
 Contracts: neighbours, parts, numbers of members: the program's.
-/
namespace Go.Proofs.YtfabbohijhjpcaaGreatDoor
open Go.RowKit
theorem CountSet_i (s : Nat) (hs : s < 128) (w : World) :
 Calls Tryz.prog 300 #[.int .i64 s] w fun e w' => e = .returned (.int .i64 ((listN s).length : Int)) ∧ Below w.heap.size w w' := by
 go_enter Tryz.func300, Tryz.ntmps300
 go_wp2_with fail
 refine (ListOf_i s hs w).mono ?_
 rintro e w1 ⟨A', c', rfl, hO, hb1⟩
 have HB := Lib.hid hb1
 clear hO hb1
 go_wp2
 go_ret
 exact ⟨rfl, HB.out⟩
def nbL (r : Nat → Nat) (s k : Nat) : Nat := ((listN s).take k).foldl (fun a v => a ||| r v) 0
theorem nbL_succ {r : Nat → Nat} {s k : Nat} (h : k < (listN s).length) : nbL r s (k + 1) = nbL r s k ||| r (listN s)[k] := by
 unfold nbL
 rw [List.take_succ_eq_append_getElem h, List.foldl_append]; rfl
theorem nbL_end {r : Nat → Nat} {s k : Nat} (h : (listN s).length ≤ k) : nbL r s k = nb r s := by
 unfold nbL
 rw [List.take_of_length_le h]
 exact nb_list 7
theorem nbL_lt {r : Nat → Nat} {s n k : Nat} (hr : ∀ v, v < n → r v < 2 ^ n) (hs : s < 2 ^ n) : nbL r s k < 2 ^ n :=
 fold_lt _ _ (Nat.two_pow_pos n) (fun v hv => hr v (bit_lt hs (mem_listN.1 (List.mem_of_mem_take hv)).2))
set_option maxHeartbeats 1000000 in
theorem neighbors_i (m : Nat) (A : Option Addr) (c : Nat) (x : Nat → Int) (s : Nat) (w : World) (B : Nat) (h : Rd w B A m c x) (hB : B ≤ w.heap.size) (hok : okB m m x = true) (hs : s < 2 ^ m) :
 Calls Tryz.prog 312 #[.agg #[.int .i64 m, .slice A m c], .int .i64 s] w fun e w' => e = .returned (.int .i64 (nb (rw_ x) s : Nat)) ∧ Below w.heap.size w w' := by
 obtain ⟨vg, hx⟩ := okB_vg hok
 have hn1 := vg.n1
 have hn7 := vg.n7
 have h128 := two_pow_le hn7
 obtain ⟨W, hW⟩ : ∃ W : World, W = (w.alloc (Obj.cells #[Value.int IntKind.i64 m, Value.slice A m c] 26)) := ⟨_, rfl⟩
 have HB : Hid (Below w.heap.size w W) := by rw [hW]; exact ((Below.refl _ _).alloc (Nat.le_refl _) _)
 have a0 : w.heap.size < W.heap.size := by rw [hW]; simp
 have e1 : W.cell? ⟨w.heap.size, 1, none⟩ = some (.slice A m c) := by rw [hW]; simp [go_sem]
 obtain ⟨b, o, rfl, hb, hc⟩ := (h.keep (HB.out.mono hB) (Nat.le_refl _)).pos (by omega)
 have HC := Lib.hid hc
 have HW := Lib.hid hW
 have HX := Lib.hid hx
 have HV := Lib.hid vg
 clear hW h hc hx vg hok
 go_enter Tryz.func312, Tryz.ntmps312
 go_wp2_with fail
 rw [← HW.out]
 clear HW
 refine (ListOf_i s (by omega) W).mono ?_
 rintro e w1 ⟨A', c', rfl, hO, hb1⟩
 have z1 := hb1.size
 have f1 := up hb1 e1 a0
 have HO := Lib.hid hO
 have HB1 : Hid (Below w.heap.size w w1) := HB.out.trans (hb1.mono (by omega))
 have HC1 : Hid (∀ v, v < m → w1.cell? ⟨b, o + v, none⟩ = some (.int .i64 (x v))) := fun v hv => (hb1.cell (p := ⟨b, o + v, none⟩) (by show b < _; omega)).trans (HC.out v hv)
 have hl7 := listN_len s
 clear hO hb1 e1 HC HB
 go_wp2
 go_loop [5, 11] (fun a i => ∃ k : Nat, k ≤ (listN s).length ∧ i = .int .i64 k ∧ a = .int .i64 (nbL (rw_ x) s k : Nat)) (fun _ i => (listN s).length - (intOf i).toNat)
 case atStart => exact ⟨0, Nat.zero_le _, rfl, rfl⟩
 case round =>
  obtain ⟨k, hk, rfl, rfl⟩ := hrel
  by_cases hlt : k < (listN s).length
  ·obtain ⟨hv7, hvb⟩ := listN_at hlt
   have hvm := bit_lt hs hvb
   have hstep := nbL_succ (r := rw_ x) hlt
   have hlt1 := nbL_lt (r := rw_ x) (k := k) HV.out.lt hs
   obtain ⟨v, hv⟩ : ∃ v, v = (listN s)[k] := ⟨_, rfl⟩
   rw [← hv] at hv7 hvb hvm hstep
   obtain ⟨g, hA, hg1, hg2, _, hcell, _⟩ := HO.out.at_ (by omega)
   have q0 : w1.cell? ⟨g, k, none⟩ = some (.int .i64 v) := (hcell k (by omega)).trans (by rw [ni_at hlt, ← hv])
   have q2 := HC1.out v hvm
   rw [HX.out v hvm] at q2
   have hr128 := HV.out.lt128 hvm
   have E := i64_or_nat (nbL (rw_ x) s k) (rw_ x v) (by omega) (by omega)
   rw [← hstep] at E
   have i1 : (k : Int) < ((listN s).length : Int) := by omega
   have i2 : (v : Int) < (m : Int) := by omega
   subst hA
   clear hv hcell hvb hstep
   go_wp2
   go_round
   case rel => exact ⟨k + 1, by omega, by go_num, rfl⟩
   case measure => simp [intOf]; omega
  ·have hend : Hid (nbL (rw_ x) s k = nb (rw_ x) s) := nbL_end (by omega)
   have i1 : ((listN s).length : Int) ≤ (k : Int) := by omega
   go_wp2
   go_ret
   exact ⟨ret_int (by rw [hend.out]), HB1.out⟩
end Go.Proofs.YtfabbohijhjpcaaGreatDoor
/-
 Contracts: a set without which more parts are left than it has members: the program's search.
-/
namespace Go.Proofs.YtfabbohijhjpcaaGreatDoor
open Go.RowKit
end Go.Proofs.YtfabbohijhjpcaaGreatDoor
/-
 Contracts: a set without which more parts are left than it has members: the reference's search.
-/
namespace Go.Proofs.YtfabbohijhjpcaaGreatDoor
open Go.RowKit
theorem CountSet_s (s : Nat) (hs : s < 128) (w : World) :
 Calls Tryz.prog 262 #[.int .i64 s] w fun e w' => e = .returned (.int .i64 ((listN s).length : Int)) ∧ Below w.heap.size w w' := by
 go_enter Tryz.func262, Tryz.ntmps262
 go_wp2_with fail
 refine (ListOf_s s hs w).mono ?_
 rintro e w1 ⟨A', c', rfl, hO, hb1⟩
 have HB := Lib.hid hb1
 clear hO hb1
 go_wp2
 go_ret
 exact ⟨rfl, HB.out⟩
theorem nbK_end {r : Nat → Nat} {s m : Nat} (hs : s < 2 ^ m) : ∀ k, m ≤ k → nbK r s k = nbK r s m := by
 intro k hk
 induction k with
 | zero => obtain rfl : m = 0 := by omega
           rfl
 | succ k ih =>
   by_cases h : m = k + 1
   ·rw [h]
   ·rw [nbK_no, ih (by omega)]
    cases hb : s.testBit k
    ·rfl
    ·have := bit_lt hs hb; omega
set_option maxHeartbeats 1000000 in
theorem AroundSet_s (m : Nat) (A : Option Addr) (c : Nat) (x : Nat → Int) (s : Nat) (w : World) (B : Nat) (h : Rd w B A m c x) (hB : B ≤ w.heap.size) (hok : okB m m x = true) (hs : s < 2 ^ m) :
 Calls Tryz.prog 259 #[.agg #[.int .i64 m, .slice A m c], .int .i64 s] w fun e w' => e = .returned (.int .i64 ((s ||| nb (rw_ x) s : Nat) : Int)) ∧ Below w.heap.size w w' := by
 obtain ⟨vg, hx⟩ := okB_vg hok
 have hn1 := vg.n1
 have hn7 := vg.n7
 have h128 := two_pow_le hn7
 obtain ⟨W, hW⟩ : ∃ W : World, W = (w.alloc (Obj.cells #[Value.int IntKind.i64 m, Value.slice A m c] 26)) := ⟨_, rfl⟩
 have HB : Hid (Below w.heap.size w W) := by rw [hW]; exact ((Below.refl _ _).alloc (Nat.le_refl _) _)
 have a0 : w.heap.size < W.heap.size := by rw [hW]; simp
 have e0 : W.cell? ⟨w.heap.size, 0, none⟩ = some (.int .i64 m) := by rw [hW]; simp [go_sem]
 have e1 : W.cell? ⟨w.heap.size, 1, none⟩ = some (.slice A m c) := by rw [hW]; simp [go_sem]
 have HK := Lib.hid (h.keep (HB.out.mono hB) (Nat.le_refl _))
 obtain ⟨b, o, rfl, hb, hc⟩ := HK.out.pos (by omega)
 have HC := Lib.hid hc
 have HW := Lib.hid hW
 have HX := Lib.hid hx
 have HV := Lib.hid vg
 have Hok := Lib.hid hok
 clear hW h hc hx vg hok
 go_enter Tryz.func259, Tryz.ntmps259
 go_wp2_with fail
 rw [← HW.out]
 clear HW
 refine (IsSet_yes m (some ⟨b, o, none⟩) c x s W B HK.out (by omega) hn7 Hok.out hs).mono ?_
 rintro e w1 ⟨rfl, hb1⟩
 have z1 := hb1.size
 have f0 := up hb1 e0 a0
 have f1 := up hb1 e1 a0
 have HB1 : Hid (Below w.heap.size w w1) := HB.out.trans (hb1.mono (by omega))
 have HC1 : Hid (∀ v, v < m → w1.cell? ⟨b, o + v, none⟩ = some (.int .i64 (x v))) := fun v hv => (hb1.cell (p := ⟨b, o + v, none⟩) (by show b < _; omega)).trans (HC.out v hv)
 clear hb1 e0 e1 HC HB HK
 go_wp2
 go_loop [5, 6] (fun a i => ∃ k : Nat, k ≤ m ∧ i = .int .i64 k ∧ a = .int .i64 ((s ||| nbK (rw_ x) s k : Nat) : Int)) (fun _ i => m - (intOf i).toNat)
 case atStart => exact ⟨0, Nat.zero_le _, rfl, by simp [nbK]⟩
 case round =>
  obtain ⟨k, hk, rfl, rfl⟩ := hrel
  by_cases hlt : k < m
  ·have q2 := HC1.out k hlt
   rw [HX.out k hlt] at q2
   have hr128 := HV.out.lt128 hlt
   have hnb := nb_lt (r := rw_ x) (s := s) HV.out.lt hs k
   have hlt1 : s ||| nbK (rw_ x) s k < 2 ^ m := Nat.or_lt_two_pow hs hnb
   have E := i64_or_nat (s ||| nbK (rw_ x) s k) (rw_ x k) (by omega) (by omega)
   have E1 := and_one_i64 (s : Int) k (by omega) (by omega)
   rw [Int.toNat_natCast] at E1
   have i1 : (k : Int) < (m : Int) := by omega
   cases ht : s.testBit k
   ·rw [ht] at E1
    have Hs := Lib.hid (nbK_no (r := rw_ x) ht)
    clear ht E
    go_wp2
    go_round
    case rel => exact ⟨k + 1, by omega, by go_num, by rw [Hs.out]⟩
    case measure => simp [intOf] <;> omega
   ·rw [ht] at E1
    have Hs := Lib.hid (nbK_yes (r := rw_ x) ht)
    rw [Nat.or_assoc, ← nbK_yes ht] at E
    clear ht
    go_wp2
    go_round
    case rel => exact ⟨k + 1, by omega, by go_num, rfl⟩
    case measure => simp [intOf] <;> omega
  ·have hend : Hid (nbK (rw_ x) s k = nb (rw_ x) s) := by show _ = nbK _ _ 7; rw [nbK_end hs k (by omega), nbK_end hs 7 hn7]
   have i1 : (m : Int) ≤ (k : Int) := by omega
   go_wp2
   go_ret
   exact ⟨ret_int (by rw [hend.out]), HB1.out⟩
end Go.Proofs.YtfabbohijhjpcaaGreatDoor
/-
 Contract: a graph and one edge more, of the program.
-/
namespace Go.Proofs.YtfabbohijhjpcaaGreatDoor
open Go.RowKit
theorem okB_ok' {s : Int} {m : Nat} {x : Nat → Int} (h : okB s m x = true) : OkG s m x := by
 refine Classical.byContradiction fun h2 => ?_
 rw [okB_no h2] at h; cases h
theorem frC {lo hi b o : Nat} {W w1 : World} {v : Value} (hf : Fr lo hi W w1) (e : W.cell? ⟨b, o, none⟩ = some v) (h : b < W.heap.size) (h2 : b < lo ∨ hi ≤ b) : w1.cell? ⟨b, o, none⟩ = some v := (hf.cell (p := ⟨b, o, none⟩) h h2).trans e
theorem frZ {lo hi b o : Nat} {W w1 : World} {v : Bool} (hf : Fr lo hi W w1) (e : W.frozen? ⟨b, o, none⟩ = v) (h : b < W.heap.size) (h2 : b < lo ∨ hi ≤ b) : w1.frozen? ⟨b, o, none⟩ = v := (World.frozen?_of_block (hf.block b h h2)).trans e
end Go.Proofs.YtfabbohijhjpcaaGreatDoor
/-
 Plain: a graph and a list of edges more.
-/
namespace Go.Proofs.YtfabbohijhjpcaaGreatDoor
end Go.Proofs.YtfabbohijhjpcaaGreatDoor
/-
 Contract: a graph and one edge more, of the reference.
-/
namespace Go.Proofs.YtfabbohijhjpcaaGreatDoor
open Go.RowKit
noncomputable def prB (sz : Int) (m : Nat) (x : Nat → Int) (v u : Int) : Bool := okB sz m x && decide (0 ≤ v ∧ 0 ≤ u ∧ v < sz ∧ u < sz ∧ v ≠ u)
theorem prB_eq {sz : Int} {m : Nat} {x : Nat → Int} {v u : Int} {a b : Bool} (h : okB sz m x = a) (h2 : decide (0 ≤ v ∧ 0 ≤ u ∧ v < sz ∧ u < sz ∧ v ≠ u) = b) : prB sz m x v u = (a && b) := by unfold prB; rw [h, h2]
set_option maxHeartbeats 1000000 in
theorem l2Pair_any (sz : Int) (A : Option Addr) (m c : Nat) (x : Nat → Int) (v u : Int) (w : World) (B : Nat) (h : Rd w B A m c x) (hB : B ≤ w.heap.size) (hm : m ≤ 1048576) :
 Calls Tryz.prog 153 #[.agg #[.int .i64 sz, .slice A m c], .int .i64 v, .int .i64 u] w fun e w' => e = .returned (.bool (prB sz m x v u)) ∧ Below w.heap.size w w' := by
 obtain ⟨W, hW⟩ : ∃ W : World, W = (w.alloc (Obj.cells #[Value.int IntKind.i64 sz, Value.slice A m c] 26)) := ⟨_, rfl⟩
 have HB : Hid (Below w.heap.size w W) := by rw [hW]; exact ((Below.refl _ _).alloc (Nat.le_refl _) _)
 have a0 : w.heap.size < W.heap.size := by rw [hW]; simp
 have e0 : W.cell? ⟨w.heap.size, 0, none⟩ = some (.int .i64 sz) := by rw [hW]; simp [go_sem]
 have e1 : W.cell? ⟨w.heap.size, 1, none⟩ = some (.slice A m c) := by rw [hW]; simp [go_sem]
 have k1 := Lib.hid (h.keep (HB.out.mono hB) (Nat.le_refl _))
 have HW := Lib.hid hW
 clear hW h
 go_enter Tryz.func153, Tryz.ntmps153
 go_wp2_with fail
 rw [← HW.out]
 refine (IsGraph_sany sz A m c x W B k1.out (by omega) hm).mono ?_
 rintro e w1 ⟨rfl, hb1⟩
 have f0 := up hb1 e0 a0
 have f1 := up hb1 e1 a0
 have HB1 : Hid (Below w.heap.size w w1) := HB.out.trans (hb1.mono (by omega))
 clear HW e0 e1 hb1 k1 HB
 cases ho : okB sz m x
 ·have hf : Hid (prB sz m x v u = false) := by show prB sz m x v u = _; unfold prB; rw [ho]; rfl
  clear ho
  go_wp2
  go_ret
  exact ⟨ret_bool hf.out.symm, HB1.out⟩
 ·have Ho := Lib.hid ho
  clear ho
  by_cases h1 : 0 ≤ v
  ·by_cases h2 : 0 ≤ u
   ·by_cases h3 : v < sz
    ·by_cases h4 : u < sz
     ·by_cases h5 : v = u
      ·have hn : Hid (prB sz m x v u = false) := prB_eq Ho.out (decide_eq_false (fun h => h.2.2.2.2 h5))
       have h6 : (v != u) = false := by simp [h5]
       clear h5
       go_wp2
       go_ret
       exact ⟨ret_bool hn.out.symm, HB1.out⟩
      ·have hn : Hid (prB sz m x v u = true) := prB_eq Ho.out (decide_eq_true ⟨h1, h2, h3, h4, h5⟩)
       have h6 : (v != u) = true := by simp [h5]
       clear h5
       go_wp2
       go_ret
       exact ⟨ret_bool hn.out.symm, HB1.out⟩
     ·have hn : Hid (prB sz m x v u = false) := prB_eq Ho.out (decide_eq_false (fun h => h4 h.2.2.2.1))
      go_wp2
      go_ret
      exact ⟨ret_bool hn.out.symm, HB1.out⟩
    ·have hn : Hid (prB sz m x v u = false) := prB_eq Ho.out (decide_eq_false (fun h => h3 h.2.2.1))
     go_wp2
     go_ret
     exact ⟨ret_bool hn.out.symm, HB1.out⟩
   ·have hn : Hid (prB sz m x v u = false) := prB_eq Ho.out (decide_eq_false (fun h => h2 h.2.1))
    go_wp2
    go_ret
    exact ⟨ret_bool hn.out.symm, HB1.out⟩
  ·have hn : Hid (prB sz m x v u = false) := prB_eq Ho.out (decide_eq_false (fun h => h1 h.1))
   go_wp2
   go_ret
   exact ⟨ret_bool hn.out.symm, HB1.out⟩
end Go.Proofs.YtfabbohijhjpcaaGreatDoor
/-
 Contract: a graph and a list of edges more, of the program.
-/
namespace Go.Proofs.YtfabbohijhjpcaaGreatDoor
open Go.RowKit
end Go.Proofs.YtfabbohijhjpcaaGreatDoor
/-
 Contract: a graph and a list of edges more, of the reference.
-/
namespace Go.Proofs.YtfabbohijhjpcaaGreatDoor
open Go.RowKit
end Go.Proofs.YtfabbohijhjpcaaGreatDoor
/-
 Contracts: is a graph chordal? The program's answer.
-/
namespace Go.Proofs.YtfabbohijhjpcaaGreatDoor
open Go.RowKit
end Go.Proofs.YtfabbohijhjpcaaGreatDoor
/-
 Contracts: is a graph chordal? The reference's answer.
-/
namespace Go.Proofs.YtfabbohijhjpcaaGreatDoor
open Go.RowKit
end Go.Proofs.YtfabbohijhjpcaaGreatDoor
/-
 Contracts: is a vertex in a list? is a list a way? The program's tests.
-/
namespace Go.Proofs.YtfabbohijhjpcaaGreatDoor
open Go.RowKit
theorem fIdx_in {l : List Nat} {v : Nat} (h : v ∈ l) : ∃ k : Nat, fIdx (fun j => l.getD j 0 == v) l.length = (k : Int) := by
 unfold fIdx
 cases hf : (List.range l.length).find? (fun j => l.getD j 0 == v) with
 | some k => exact ⟨k, rfl⟩
 | none =>
   exfalso
   rw [List.find?_eq_none] at hf
   obtain ⟨i, hi, rfl⟩ := List.mem_iff_getElem.1 h
   have := hf i (List.mem_range.2 hi)
   simp [List.getD, hi] at this
theorem fIdx_out {l : List Nat} {v : Nat} (h : v ∉ l) : fIdx (fun j => l.getD j 0 == v) l.length = -1 := by
 refine fIdx_no fun j hj => ?_
 have : l[j] ≠ v := fun e => h (e ▸ List.getElem_mem hj)
 simpa [List.getD, hj] using this
abbrev RdN (w : World) (B : Nat) (A : Option Addr) (n c : Nat) (l : List Nat) : Prop := n = l.length ∧ Rd w B A n c (fun j => ((l.getD j 0 : Nat) : Int))
set_option maxHeartbeats 1000000 in
theorem Index_i (A : Option Addr) (c : Nat) (l : List Nat) (v : Nat) (w : World) (B : Nat) (h : Rd w B A l.length c (fun j => ((l.getD j 0 : Nat) : Int))) (hl : l.length ≤ 1048576) :
 Calls Tryz.prog 331 #[.slice A l.length c, .int .i64 v] w fun e w' => e = .returned (.int .i64 (fIdx (fun j => l.getD j 0 == v) l.length)) ∧ w = w' := by
 have HR := Lib.hid h
 clear h
 go_enter Tryz.func331, Tryz.ntmps331
 go_wp2
 go_loop [8] (fun i => ∃ k : Nat, k ≤ l.length ∧ i = .int .i64 k ∧ Hid (∀ j, j < k → (l.getD j 0 == v) = false)) (fun i => l.length - (intOf i).toNat)
 case atStart => exact ⟨0, Nat.zero_le _, rfl, (fun j hj => absurd hj (by omega))⟩
 case round =>
  obtain ⟨k, hk, rfl, hall⟩ := hrel
  by_cases hlt : k < l.length
  ·obtain ⟨b, o, rfl, hb, hc⟩ := HR.out.pos (by omega)
   have q0 := hc k hlt
   obtain ⟨u, hu⟩ : ∃ u : Nat, u = l.getD k 0 := ⟨_, rfl⟩
   rw [← hu] at q0
   have Hu := Lib.hid hu
   have i1 : (k : Int) < (l.length : Int) := by omega
   clear hc hu
   by_cases hp : v = u
   ·have Hi : Hid (fIdx (fun j => l.getD j 0 == v) l.length = k) := fIdx_yes hlt (by show (l.getD k 0 == v) = true; rw [← Hu.out, hp]; simp) hall.out
    subst hp
    go_wp2
    go_ret
    exact ⟨ret_int Hi.out.symm, rfl⟩
   ·have hne : ((v : Int) == (u : Int)) = false := by simp; omega
    have hne2 : (v = u) = False := by simp [hp]
    have Hp : Hid ((l.getD k 0 == v) = false) := by show _ = _; rw [← Hu.out]; simp; omega
    clear hp
    go_wp2
    go_round
    case rel =>
     refine ⟨k + 1, by omega, by go_num, fun j hj => ?_⟩
     by_cases hjk : j < k
     ·exact hall.out j hjk
     ·obtain rfl : j = k := by omega
      exact Hp.out
    case measure => simp [intOf]; omega
  ·have Hi : Hid (fIdx (fun j => l.getD j 0 == v) l.length = -1) := fIdx_no fun j hj => hall.out j (by omega)
   have i1 : (l.length : Int) ≤ (k : Int) := by omega
   go_wp2
   go_ret
   exact ⟨ret_int Hi.out.symm, rfl⟩
set_option maxHeartbeats 1000000 in
theorem Contains_i (A : Option Addr) (n c : Nat) (l : List Nat) (v : Nat) (w : World) (B : Nat) (h : RdN w B A n c l) (hl : l.length ≤ 1048576) :
 Calls Tryz.prog 283 #[.slice A n c, .int .i64 v] w fun e w' => e = .returned (.bool (decide (v ∈ l))) ∧ w = w' := by
 obtain ⟨rfl, h⟩ := h
 have HI := Lib.hid (Index_i A c l v w B h hl)
 clear h
 by_cases hv : v ∈ l
 ·obtain ⟨k, hk⟩ := fIdx_in hv
  rw [hk] at HI
  have Hd : Hid (decide (v ∈ l) = true) := decide_eq_true hv
  have k0 : (0 : Int) ≤ (k : Int) := by omega
  clear hk hv
  go_enter Tryz.func283, Tryz.ntmps283
  go_wp2_with fail
  refine HI.out.mono ?_
  rintro e w' ⟨rfl, rfl⟩
  go_wp2
  go_ret
  exact ⟨ret_bool Hd.out.symm, rfl⟩
 ·rw [fIdx_out hv] at HI
  have Hd : Hid (decide (v ∈ l) = false) := decide_eq_false hv
  clear hv
  go_enter Tryz.func283, Tryz.ntmps283
  go_wp2_with fail
  refine HI.out.mono ?_
  rintro e w' ⟨rfl, rfl⟩
  go_wp2
  go_ret
  exact ⟨ret_bool Hd.out.symm, rfl⟩
end Go.Proofs.YtfabbohijhjpcaaGreatDoor
/-
 Contracts: is a list a way? a list's copy; a list and one vertex more: the program's.
-/
namespace Go.Proofs.YtfabbohijhjpcaaGreatDoor
open Go.RowKit
/-! ### a list and one vertex more -/
theorem wpList_moreN (W : World) {ops : Array Oper} {rest : List Oper} {o : Oper} {a : Act} {Q : Exit → Act → World → Prop} (hgd : o.guard = none) (s y : Operand)
 (ho : o.op = .call { callee := .builtin .append, args := #[s, y], argTypes := #[24, 24] })
 (B : Nat) (A : Option Addr) (l : List Nat) (hA : A = none → l = []) (h : Rd W B A l.length l.length (fun j => ((l.getD j 0 : Nat) : Int))) (hB : B ≤ W.heap.size) (k : Nat) (hs : a.eval s = .slice A l.length l.length) (cx H : Nat) (hH : W.heap.size = H) (hy : a.eval y = .slice (some ⟨H, 0, none⟩) 1 cx)
 (hn : l.length ≤ 1073741824)
 (hK : ∀ g cap w', Own w' W.heap.size w'.heap.size 3 1 (some ⟨g, 0, none⟩) (l.length + 1) cap (ni (l ++ [k])) → Below W.heap.size W w' → wpList Tryz.prog ops Q rest (a.put o.dst (.slice (some ⟨g, 0, none⟩) (l.length + 1) cap)) w') :
 wpList Tryz.prog ops Q (o :: rest) a (W.alloc (Obj.cells #[.int .i64 (k : Int)] 3)) := by
 subst hH
 obtain ⟨i, hi', hzz⟩ := Option.map_eq_some_iff.1 info_int
 simp only [Prod.mk.injEq] at hzz
 obtain ⟨hz, hsize, hbytes⟩ := hzz
 have hr := h.keep ((Below.refl B W).alloc hB (Obj.cells #[.int .i64 (k : Int)] 3)) (Nat.le_refl _)
 refine wpList_append_grows (P := Tryz.prog) _ hgd s y 24 ho 3 i _ 1 8 Tryz.underlying24 hi' hz hsize hbytes rfl (by omega) A l.length l.length ((List.range l.length).map fun j => .int .i64 ((l.getD j 0 : Nat) : Int)) hs (fun e => by have := hA e; subst this; exact ⟨rfl, rfl⟩) (by simp) ?_ ⟨W.heap.size, 0, none⟩ 1 cx [.int .i64 (k : Int)] hy rfl (World.news_of_block (heap_alloc_new W (Obj.cells #[.int .i64 (k : Int)] 3))) (by simp [Value.oneCell']) (by omega) (by unfold maxLen; omega) (by omega) ?_
 ·intro b e j u hj
  have hlt : j < l.length := by
   have := (List.getElem?_eq_some_iff.1 hj).1
   simpa using this
  obtain ⟨b', o', e2, _, hc⟩ := hr.2 (by omega)
  rw [e] at e2
  simp only [Option.some.injEq] at e2
  subst e2
  have hadd : (⟨b', o', none⟩ : Addr).add j = ⟨b', o' + j, none⟩ := by unfold Addr.add; split <;> simp_all
  rw [hadd, hc j hlt]
  simpa [hlt] using hj
 ·intro v' w' hrow hg
  obtain ⟨g, cap, rfl, hge, hlt⟩ := hrow.form (by omega)
  refine hK g cap w' ((Own.of_row hrow (fun j hj => ?_)).mono (by simp) (Nat.le_refl _)) (((Below.refl _ _).alloc (Nat.le_refl _) _).trans ((Below.refl _ _).grown hg (by simp) (fun k hk => by cases hk)))
  rw [List.getElem?_append]
  simp only [List.length_map, List.length_range]
  by_cases hj2 : j < l.length
  ·rw [if_pos hj2, ni_left (by omega)]; unfold ni; simp [hj2]
  ·rw [if_neg hj2]
   obtain rfl : j = l.length := by omega
   rw [Nat.sub_self]
   have := ni_news (l := l) (k := k) 0 (by omega)
   rw [Nat.mul_one, Nat.add_zero] at this
   exact this
end Go.Proofs.YtfabbohijhjpcaaGreatDoor
/-
 What the searches for ways answer, as plain functions.
-/
namespace Go.Proofs.YtfabbohijhjpcaaGreatDoor
open Go.RowKit
end Go.Proofs.YtfabbohijhjpcaaGreatDoor
/-
 Contracts: the reference's search for a way through all vertices.
-/
namespace Go.Proofs.YtfabbohijhjpcaaGreatDoor
open Go.RowKit
set_option maxHeartbeats 1000000 in
theorem l8Has_s (A : Option Addr) (n c : Nat) (l : List Nat) (v : Nat) (w : World) (B : Nat) (h : RdN w B A n c l) (hl : l.length ≤ 1048576) :
 Calls Tryz.prog 256 #[.slice A n c, .int .i64 v] w fun e w' => e = .returned (.bool (decide (v ∈ l))) ∧ w = w' := by
 obtain ⟨rfl, h⟩ := h
 have HR := Lib.hid h
 clear h
 go_enter Tryz.func256, Tryz.ntmps256
 go_wp2
 go_loop [5] (fun i => ∃ k : Nat, k ≤ l.length ∧ i = .int .i64 k ∧ Hid (∀ j (hj : j < l.length), j < k → l[j] ≠ v)) (fun i => l.length - (intOf i).toNat)
 case atStart => exact ⟨0, Nat.zero_le _, rfl, (fun j hj hk => absurd hk (by omega))⟩
 case round =>
  obtain ⟨k, hk, rfl, hall⟩ := hrel
  by_cases hlt : k < l.length
  ·obtain ⟨b, o, rfl, hb, hc⟩ := HR.out.pos (by omega)
   have q0 := hc k hlt
   obtain ⟨u, hu⟩ : ∃ u : Nat, u = l[k] := ⟨_, rfl⟩
   have e2 : l.getD k 0 = u := by rw [hu]; simp [List.getD, hlt]
   rw [e2] at q0
   have Hu := Lib.hid hu
   have i1 : (k : Int) < (l.length : Int) := by omega
   clear hc hu e2
   by_cases hp : u = v
   ·have Hd : Hid (decide (v ∈ l) = true) := decide_eq_true (by rw [← hp, Hu.out]; exact List.getElem_mem hlt)
    subst hp
    go_wp2
    go_ret
    exact ⟨ret_bool Hd.out.symm, rfl⟩
   ·have hne : ((u : Int) == (v : Int)) = false := by simp; omega
    have hne2 : (u = v) = False := by simp [hp]
    have Hp := Lib.hid hp
    clear hp
    go_wp2
    go_round
    case rel =>
     refine ⟨k + 1, by omega, by go_num, fun j hj hjk => ?_⟩
     by_cases hjk2 : j < k
     ·exact hall.out j hj hjk2
     ·obtain rfl : j = k := by omega
      rw [← Hu.out]; exact Hp.out
    case measure => simp [intOf]; omega
  ·have Hd : Hid (decide (v ∈ l) = false) := decide_eq_false fun h => by
    obtain ⟨j, hj, e⟩ := List.mem_iff_getElem.1 h
    exact hall.out j hj (by omega) e
   have i1 : (l.length : Int) ≤ (k : Int) := by omega
   go_wp2
   go_ret
   exact ⟨ret_bool Hd.out.symm, rfl⟩
theorem step_appendG (w : World) {ops : Array Oper} {o : Oper} {a : Act} {K : Act → World → Prop} {Q : Exit → Act → World → Prop} {E : Prop} {lo hi B n c m c2 : Nat} {A A2 : Option Addr} {x : Nat → Value} {y : Nat → Int} (hgd : o.guard = none) (s z : Operand)
 (ho : o.op = .call { callee := .builtin .append, args := #[s, z], argTypes := #[24, 24] })
 (hs : a.eval s = .slice A n c) (h : Own w lo hi 3 1 A n c x) (hz : a.eval z = .slice A2 m c2) (hr : Rd w B A2 m c2 y) (hlo : lo ≤ w.heap.size) (hn : n ≤ 1073741824) (hm : m ≤ 1073741824)
 (hK : ∀ A' c' w', Own w' lo w'.heap.size 3 1 A' (n + m) c' (thenI n x y) → Below lo w w' → w.grownBy w' (Value.slice A n c).ownBlock → K (a.put o.dst (.slice A' (n + m) c')) w') :
 if Region.wanted o (yielded ops a.tmps) = true then Oper.wp Tryz.prog o a w K Q else E := by
 have hw : Region.wanted o (yielded ops a.tmps) = true := by simp [Region.wanted, hgd]
 rw [if_pos hw]
 obtain ⟨A', c', w', hrun, h2, h3, _, h5⟩ := run_appendI w o.type h hr hlo hn hm
 unfold Oper.wp execOp
 simp only [ho, resolve, invoke, builtin, Sem.run_bind, Sem.run_pure, Result.andThen_ok, List.map_toArray, List.map_cons, List.map_nil, hs, hz, hrun]
 exact hK _ _ _ h2 h3 h5
end Go.Proofs.YtfabbohijhjpcaaGreatDoor
