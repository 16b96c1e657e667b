/-
  Several texts in one: words for memory, plain laws and contracts that the later texts lean on.
-/
import Derived.Test.YtnnlmdenffnjbaaQaGB
import Derived.Test.YtnnlmdenffnjbaaQaGA
import Derived.Deep.RegionLaw
import Derived.Deep.RegionHeld3
import Derived.ArgAppend
/-
  Contracts: is a graph chordal? The program's elimination.
-/
namespace Go.Proofs.Ytnnlmdenffnjbaa
open Go.RowKit

/-- The first place at which p holds, or -1. -/
def fIdx (p : Nat → Bool) (n : Nat) : Int := match (List.range n).find? p with | some k => (k : Int) | none => -1
theorem fIdx_yes {p : Nat → Bool} {n k : Nat} (hk : k < n) (hp : p k = true) (hmin : ∀ j, j < k → p j = false) : fIdx p n = k := by
  have : (List.range n).find? p = some k := by
    rw [List.find?_range_eq_some]
    exact ⟨hp, by simp [hk], fun j hj => by simp [hmin j hj]⟩
  unfold fIdx; rw [this]
theorem fIdx_no {p : Nat → Bool} {n : Nat} (h : ∀ j, j < n → p j = false) : fIdx p n = -1 := by
  have : (List.range n).find? p = none := by
    rw [List.find?_eq_none]
    intro j hj
    simp [h j (List.mem_range.1 hj)]
  unfold fIdx; rw [this]

theorem all_any (m : Nat) (A : Option Addr) (c : Nat) (w : World) (hm : m ≤ 7) :
    Calls Try.prog 125 #[.agg #[.int .i64 m, .slice A m c]] w fun e w' => e = .returned (.int .i64 ((2 ^ m - 1 : Nat) : Int)) ∧ Below w.heap.size w w' := by
  have p1 := pow_shl m hm
  have p2 := two_pow_int m hm
  have H : Hid (((2 ^ m - 1 : Nat) : Int) = 2 ^ m - 1) := by show _ = _; rw [Int.ofNat_sub (Nat.two_pow_pos m)]; simp
  have HB : Hid (Below w.heap.size w (w.alloc (Obj.cells #[Value.int IntKind.i64 m, Value.slice A m c] 28))) := (Below.refl _ _).alloc (Nat.le_refl _) _
  go_enter Try.func125, Try.ntmps125
  go_wp2
  go_ret
  exact ⟨ret_int H.out.symm, HB.out⟩
end Go.Proofs.Ytnnlmdenffnjbaa

/-
  Contracts: neighbours, parts, numbers of members: the program's.
-/
namespace Go.Proofs.Ytnnlmdenffnjbaa
open Go.RowKit

/-- The members' neighbours, as far as the list has been read. -/
def nbL (r : Nat → Nat) (s k : Nat) : Nat := ((listN s).take k).foldl (fun a v => a ||| r v) 0
theorem nbL_succ {r : Nat → Nat} {s k : Nat} (h : k < (listN s).length) : nbL r s (k + 1) = nbL r s k ||| r (listN s)[k] := by
  unfold nbL
  rw [List.take_succ_eq_append_getElem h, List.foldl_append]; rfl
theorem nbL_end {r : Nat → Nat} {s k : Nat} (h : (listN s).length ≤ k) : nbL r s k = nb r s := by
  unfold nbL
  rw [List.take_of_length_le h]
  exact nb_list 7
theorem nbL_lt {r : Nat → Nat} {s n k : Nat} (hr : ∀ v, v < n → r v < 2 ^ n) (hs : s < 2 ^ n) : nbL r s k < 2 ^ n :=
  fold_lt _ _ (Nat.two_pow_pos n) (fun v hv => hr v (bit_lt hs (mem_listN.1 (List.mem_of_mem_take hv)).2))

set_option maxHeartbeats 1000000 in
theorem neighbors_i (m : Nat) (A : Option Addr) (c : Nat) (x : Nat → Int) (s : Nat) (w : World) (B : Nat) (h : Rd w B A m c x) (hB : B ≤ w.heap.size) (hok : okB m m x = true) (hs : s < 2 ^ m) :
    Calls Try.prog 193 #[.agg #[.int .i64 m, .slice A m c], .int .i64 s] w fun e w' => e = .returned (.int .i64 (nb (rw_ x) s : Nat)) ∧ Below w.heap.size w w' := by
  obtain ⟨vg, hx⟩ := okB_vg hok
  have hn1 := vg.n1
  have hn7 := vg.n7
  have h128 := two_pow_le hn7
  obtain ⟨W, hW⟩ : ∃ W : World, W = (w.alloc (Obj.cells #[Value.int IntKind.i64 m, Value.slice A m c] 28)) := ⟨_, rfl⟩
  have HB : Hid (Below w.heap.size w W) := by rw [hW]; exact ((Below.refl _ _).alloc (Nat.le_refl _) _)
  have a0 : w.heap.size < W.heap.size := by rw [hW]; simp
  have e1 : W.cell? ⟨w.heap.size, 1, none⟩ = some (.slice A m c) := by rw [hW]; simp [go_sem]
  obtain ⟨b, o, rfl, hb, hc⟩ := (h.keep (HB.out.mono hB) (Nat.le_refl _)).pos (by omega)
  have HC := Lib.hid hc
  have HW := Lib.hid hW
  have HX := Lib.hid hx
  have HV := Lib.hid vg
  clear hW h hc hx vg hok
  go_enter Try.func193, Try.ntmps193
  go_wp2_with fail
  rw [← HW.out]
  clear HW
  refine (ListOf_i s (by omega) W).mono ?_
  rintro e w1 ⟨A', c', rfl, hO, hb1⟩
  have z1 := hb1.size
  have f1 := up hb1 e1 a0
  have HO := Lib.hid hO
  have HB1 : Hid (Below w.heap.size w w1) := HB.out.trans (hb1.mono (by omega))
  have HC1 : Hid (∀ v, v < m → w1.cell? ⟨b, o + v, none⟩ = some (.int .i64 (x v))) := fun v hv => (hb1.cell (p := ⟨b, o + v, none⟩) (by show b < _; omega)).trans (HC.out v hv)
  have hl7 := listN_len s
  clear hO hb1 e1 HC HB
  go_wp2
  go_loop [5, 11] (fun a i => ∃ k : Nat, k ≤ (listN s).length ∧ i = .int .i64 k ∧ a = .int .i64 (nbL (rw_ x) s k : Nat)) (fun _ i => (listN s).length - (intOf i).toNat)
  case atStart => exact ⟨0, Nat.zero_le _, rfl, rfl⟩
  case round =>
    obtain ⟨k, hk, rfl, rfl⟩ := hrel
    by_cases hlt : k < (listN s).length
    · obtain ⟨hv7, hvb⟩ := listN_at hlt
      have hvm := bit_lt hs hvb
      have hstep := nbL_succ (r := rw_ x) hlt
      have hlt1 := nbL_lt (r := rw_ x) (k := k) HV.out.lt hs
      obtain ⟨v, hv⟩ : ∃ v, v = (listN s)[k] := ⟨_, rfl⟩
      rw [← hv] at hv7 hvb hvm hstep
      obtain ⟨g, hA, hg1, hg2, _, hcell, _⟩ := HO.out.at_ (by omega)
      have q0 : w1.cell? ⟨g, k, none⟩ = some (.int .i64 v) := (hcell k (by omega)).trans (by rw [ni_at hlt, ← hv])
      have q2 := HC1.out v hvm
      rw [HX.out v hvm] at q2
      have hr128 := HV.out.lt128 hvm
      have E := i64_or_nat (nbL (rw_ x) s k) (rw_ x v) (by omega) (by omega)
      rw [← hstep] at E
      have i1 : (k : Int) < ((listN s).length : Int) := by omega
      have i2 : (v : Int) < (m : Int) := by omega
      subst hA
      clear hv hcell hvb hstep
      go_wp2
      go_round
      case rel => exact ⟨k + 1, by omega, by go_num, rfl⟩
      case measure => simp [intOf]; omega
    · have hend : Hid (nbL (rw_ x) s k = nb (rw_ x) s) := nbL_end (by omega)
      have i1 : ((listN s).length : Int) ≤ (k : Int) := by omega
      go_wp2
      go_ret
      exact ⟨ret_int (by rw [hend.out]), HB1.out⟩

end Go.Proofs.Ytnnlmdenffnjbaa

/-
  Contracts: a set without which more parts are left than it has members: the program's search.
-/
namespace Go.Proofs.Ytnnlmdenffnjbaa
open Go.RowKit

end Go.Proofs.Ytnnlmdenffnjbaa

/-
  Contracts: a set without which more parts are left than it has members: the reference's search.
-/
namespace Go.Proofs.Ytnnlmdenffnjbaa
open Go.RowKit

theorem nbK_end {r : Nat → Nat} {s m : Nat} (hs : s < 2 ^ m) : ∀ k, m ≤ k → nbK r s k = nbK r s m := by
  intro k hk
  induction k with
  | zero => obtain rfl : m = 0 := by omega
            rfl
  | succ k ih =>
    by_cases h : m = k + 1
    · rw [h]
    · rw [nbK_no, ih (by omega)]
      cases hb : s.testBit k
      · rfl
      · have := bit_lt hs hb; omega

set_option maxHeartbeats 1000000 in
theorem AroundSet_s (m : Nat) (A : Option Addr) (c : Nat) (x : Nat → Int) (s : Nat) (w : World) (B : Nat) (h : Rd w B A m c x) (hB : B ≤ w.heap.size) (hok : okB m m x = true) (hs : s < 2 ^ m) :
    Calls Try.prog 207 #[.agg #[.int .i64 m, .slice A m c], .int .i64 s] w fun e w' => e = .returned (.int .i64 ((s ||| nb (rw_ x) s : Nat) : Int)) ∧ Below w.heap.size w w' := by
  obtain ⟨vg, hx⟩ := okB_vg hok
  have hn1 := vg.n1
  have hn7 := vg.n7
  have h128 := two_pow_le hn7
  obtain ⟨W, hW⟩ : ∃ W : World, W = (w.alloc (Obj.cells #[Value.int IntKind.i64 m, Value.slice A m c] 28)) := ⟨_, rfl⟩
  have HB : Hid (Below w.heap.size w W) := by rw [hW]; exact ((Below.refl _ _).alloc (Nat.le_refl _) _)
  have a0 : w.heap.size < W.heap.size := by rw [hW]; simp
  have e0 : W.cell? ⟨w.heap.size, 0, none⟩ = some (.int .i64 m) := by rw [hW]; simp [go_sem]
  have e1 : W.cell? ⟨w.heap.size, 1, none⟩ = some (.slice A m c) := by rw [hW]; simp [go_sem]
  have HK := Lib.hid (h.keep (HB.out.mono hB) (Nat.le_refl _))
  obtain ⟨b, o, rfl, hb, hc⟩ := HK.out.pos (by omega)
  have HC := Lib.hid hc
  have HW := Lib.hid hW
  have HX := Lib.hid hx
  have HV := Lib.hid vg
  have Hok := Lib.hid hok
  clear hW h hc hx vg hok
  go_enter Try.func207, Try.ntmps207
  go_wp2_with fail
  rw [← HW.out]
  clear HW
  refine (IsSet_yes m (some ⟨b, o, none⟩) c x s W B HK.out (by omega) hn7 Hok.out hs).mono ?_
  rintro e w1 ⟨rfl, hb1⟩
  have z1 := hb1.size
  have f0 := up hb1 e0 a0
  have f1 := up hb1 e1 a0
  have HB1 : Hid (Below w.heap.size w w1) := HB.out.trans (hb1.mono (by omega))
  have HC1 : Hid (∀ v, v < m → w1.cell? ⟨b, o + v, none⟩ = some (.int .i64 (x v))) := fun v hv => (hb1.cell (p := ⟨b, o + v, none⟩) (by show b < _; omega)).trans (HC.out v hv)
  clear hb1 e0 e1 HC HB HK
  go_wp2
  go_loop [5, 6] (fun a i => ∃ k : Nat, k ≤ m ∧ i = .int .i64 k ∧ a = .int .i64 ((s ||| nbK (rw_ x) s k : Nat) : Int)) (fun _ i => m - (intOf i).toNat)
  case atStart => exact ⟨0, Nat.zero_le _, rfl, by simp [nbK]⟩
  case round =>
    obtain ⟨k, hk, rfl, rfl⟩ := hrel
    by_cases hlt : k < m
    · have q2 := HC1.out k hlt
      rw [HX.out k hlt] at q2
      have hr128 := HV.out.lt128 hlt
      have hnb := nb_lt (r := rw_ x) (s := s) HV.out.lt hs k
      have hlt1 : s ||| nbK (rw_ x) s k < 2 ^ m := Nat.or_lt_two_pow hs hnb
      have E := i64_or_nat (s ||| nbK (rw_ x) s k) (rw_ x k) (by omega) (by omega)
      have E1 := and_one_i64 (s : Int) k (by omega) (by omega)
      rw [Int.toNat_natCast] at E1
      have i1 : (k : Int) < (m : Int) := by omega
      cases ht : s.testBit k
      · rw [ht] at E1
        have Hs := Lib.hid (nbK_no (r := rw_ x) ht)
        clear ht E
        go_wp2
        go_round
        case rel => exact ⟨k + 1, by omega, by go_num, by rw [Hs.out]⟩
        case measure => simp [intOf] <;> omega
      · rw [ht] at E1
        have Hs := Lib.hid (nbK_yes (r := rw_ x) ht)
        rw [Nat.or_assoc, ← nbK_yes ht] at E
        clear ht
        go_wp2
        go_round
        case rel => exact ⟨k + 1, by omega, by go_num, rfl⟩
        case measure => simp [intOf] <;> omega
    · have hend : Hid (nbK (rw_ x) s k = nb (rw_ x) s) := by show _ = nbK _ _ 7; rw [nbK_end hs k (by omega), nbK_end hs 7 hn7]
      have i1 : (m : Int) ≤ (k : Int) := by omega
      go_wp2
      go_ret
      exact ⟨ret_int (by rw [hend.out]), HB1.out⟩

end Go.Proofs.Ytnnlmdenffnjbaa

/-
  Contract: a graph and one edge more, of the program.
-/
namespace Go.Proofs.Ytnnlmdenffnjbaa
open Go.RowKit

theorem okB_ok' {s : Int} {m : Nat} {x : Nat → Int} (h : okB s m x = true) : OkG s m x := by
  refine Classical.byContradiction fun h2 => ?_
  rw [okB_no h2] at h; cases h
end Go.Proofs.Ytnnlmdenffnjbaa

/-
  Plain: a graph and a list of edges more.
-/
namespace Go.Proofs.Ytnnlmdenffnjbaa

end Go.Proofs.Ytnnlmdenffnjbaa

/-
  Contract: a graph and one edge more, of the reference.
-/
namespace Go.Proofs.Ytnnlmdenffnjbaa
open Go.RowKit

end Go.Proofs.Ytnnlmdenffnjbaa

/-
  Contract: a graph and a list of edges more, of the program.
-/
namespace Go.Proofs.Ytnnlmdenffnjbaa
open Go.RowKit

end Go.Proofs.Ytnnlmdenffnjbaa

/-
  Contract: a graph and a list of edges more, of the reference.
-/
namespace Go.Proofs.Ytnnlmdenffnjbaa
open Go.RowKit

end Go.Proofs.Ytnnlmdenffnjbaa

/-
  Contracts: is a graph chordal? The program's answer.
-/
namespace Go.Proofs.Ytnnlmdenffnjbaa
open Go.RowKit

end Go.Proofs.Ytnnlmdenffnjbaa

/-
  Contracts: is a graph chordal? The reference's answer.
-/
namespace Go.Proofs.Ytnnlmdenffnjbaa
open Go.RowKit

end Go.Proofs.Ytnnlmdenffnjbaa

/-
  Contracts: is a vertex in a list? is a list a way? The program's tests.
-/
namespace Go.Proofs.Ytnnlmdenffnjbaa
open Go.RowKit

end Go.Proofs.Ytnnlmdenffnjbaa

/-
  Contracts: is a list a way? a list's copy; a list and one vertex more: the program's.
-/
namespace Go.Proofs.Ytnnlmdenffnjbaa
open Go.RowKit

/-! ### a list and one vertex more -/
end Go.Proofs.Ytnnlmdenffnjbaa

/-
  What the searches for ways answer, as plain functions.
-/
namespace Go.Proofs.Ytnnlmdenffnjbaa
open Go.RowKit

end Go.Proofs.Ytnnlmdenffnjbaa

/-
  Contracts: the reference's search for a way through all vertices.
-/
namespace Go.Proofs.Ytnnlmdenffnjbaa
open Go.RowKit

end Go.Proofs.Ytnnlmdenffnjbaa
