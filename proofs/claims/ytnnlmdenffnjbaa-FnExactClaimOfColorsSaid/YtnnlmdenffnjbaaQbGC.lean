/-
  Several texts in one: words for memory, plain laws and contracts that the later texts lean on.
-/
import Derived.Test.YtnnlmdenffnjbaaQbGB
import Derived.Test.YtnnlmdenffnjbaaQbGA
import Derived.Deep.RegionLaw
import Derived.Deep.RegionHeld3
import Derived.ArgAppend
/-
  Contracts: is a graph chordal? The program's elimination.
-/
namespace Go.Proofs.Ytnnlmdenffnjbaa
open Go.RowKit

theorem all_any (m : Nat) (A : Option Addr) (c : Nat) (w : World) (hm : m ≤ 7) :
    Calls Try.prog 125 #[.agg #[.int .i64 m, .slice A m c]] w fun e w' => e = .returned (.int .i64 ((2 ^ m - 1 : Nat) : Int)) ∧ Below w.heap.size w w' := by
  have p1 := pow_shl m hm
  have p2 := two_pow_int m hm
  have H : Hid (((2 ^ m - 1 : Nat) : Int) = 2 ^ m - 1) := by show _ = _; rw [Int.ofNat_sub (Nat.two_pow_pos m)]; simp
  have HB : Hid (Below w.heap.size w (w.alloc (Obj.cells #[Value.int IntKind.i64 m, Value.slice A m c] 28))) := (Below.refl _ _).alloc (Nat.le_refl _) _
  go_enter Try.func125, Try.ntmps125
  go_wp2
  go_ret
  exact ⟨ret_int H.out.symm, HB.out⟩
end Go.Proofs.Ytnnlmdenffnjbaa

/-
  Contracts: neighbours, parts, numbers of members: the program's.
-/
namespace Go.Proofs.Ytnnlmdenffnjbaa
open Go.RowKit

theorem CountSet_i (s : Nat) (hs : s < 128) (w : World) :
    Calls Try.prog 105 #[.int .i64 s] w fun e w' => e = .returned (.int .i64 ((listN s).length : Int)) ∧ Below w.heap.size w w' := by
  go_enter Try.func105, Try.ntmps105
  go_wp2_with fail
  refine (ListOf_i s hs w).mono ?_
  rintro e w1 ⟨A', c', rfl, hO, hb1⟩
  have HB := Lib.hid hb1
  clear hO hb1
  go_wp2
  go_ret
  exact ⟨rfl, HB.out⟩

/-- The members' neighbours, as far as the list has been read. -/
def nbL (r : Nat → Nat) (s k : Nat) : Nat := ((listN s).take k).foldl (fun a v => a ||| r v) 0
theorem nbL_succ {r : Nat → Nat} {s k : Nat} (h : k < (listN s).length) : nbL r s (k + 1) = nbL r s k ||| r (listN s)[k] := by
  unfold nbL
  rw [List.take_succ_eq_append_getElem h, List.foldl_append]; rfl
theorem nbL_end {r : Nat → Nat} {s k : Nat} (h : (listN s).length ≤ k) : nbL r s k = nb r s := by
  unfold nbL
  rw [List.take_of_length_le h]
  exact nb_list 7
theorem nbL_lt {r : Nat → Nat} {s n k : Nat} (hr : ∀ v, v < n → r v < 2 ^ n) (hs : s < 2 ^ n) : nbL r s k < 2 ^ n :=
  fold_lt _ _ (Nat.two_pow_pos n) (fun v hv => hr v (bit_lt hs (mem_listN.1 (List.mem_of_mem_take hv)).2))

set_option maxHeartbeats 1000000 in
theorem neighbors_i (m : Nat) (A : Option Addr) (c : Nat) (x : Nat → Int) (s : Nat) (w : World) (B : Nat) (h : Rd w B A m c x) (hB : B ≤ w.heap.size) (hok : okB m m x = true) (hs : s < 2 ^ m) :
    Calls Try.prog 193 #[.agg #[.int .i64 m, .slice A m c], .int .i64 s] w fun e w' => e = .returned (.int .i64 (nb (rw_ x) s : Nat)) ∧ Below w.heap.size w w' := by
  obtain ⟨vg, hx⟩ := okB_vg hok
  have hn1 := vg.n1
  have hn7 := vg.n7
  have h128 := two_pow_le hn7
  obtain ⟨W, hW⟩ : ∃ W : World, W = (w.alloc (Obj.cells #[Value.int IntKind.i64 m, Value.slice A m c] 28)) := ⟨_, rfl⟩
  have HB : Hid (Below w.heap.size w W) := by rw [hW]; exact ((Below.refl _ _).alloc (Nat.le_refl _) _)
  have a0 : w.heap.size < W.heap.size := by rw [hW]; simp
  have e1 : W.cell? ⟨w.heap.size, 1, none⟩ = some (.slice A m c) := by rw [hW]; simp [go_sem]
  obtain ⟨b, o, rfl, hb, hc⟩ := (h.keep (HB.out.mono hB) (Nat.le_refl _)).pos (by omega)
  have HC := Lib.hid hc
  have HW := Lib.hid hW
  have HX := Lib.hid hx
  have HV := Lib.hid vg
  clear hW h hc hx vg hok
  go_enter Try.func193, Try.ntmps193
  go_wp2_with fail
  rw [← HW.out]
  clear HW
  refine (ListOf_i s (by omega) W).mono ?_
  rintro e w1 ⟨A', c', rfl, hO, hb1⟩
  have z1 := hb1.size
  have f1 := up hb1 e1 a0
  have HO := Lib.hid hO
  have HB1 : Hid (Below w.heap.size w w1) := HB.out.trans (hb1.mono (by omega))
  have HC1 : Hid (∀ v, v < m → w1.cell? ⟨b, o + v, none⟩ = some (.int .i64 (x v))) := fun v hv => (hb1.cell (p := ⟨b, o + v, none⟩) (by show b < _; omega)).trans (HC.out v hv)
  have hl7 := listN_len s
  clear hO hb1 e1 HC HB
  go_wp2
  go_loop [5, 11] (fun a i => ∃ k : Nat, k ≤ (listN s).length ∧ i = .int .i64 k ∧ a = .int .i64 (nbL (rw_ x) s k : Nat)) (fun _ i => (listN s).length - (intOf i).toNat)
  case atStart => exact ⟨0, Nat.zero_le _, rfl, rfl⟩
  case round =>
    obtain ⟨k, hk, rfl, rfl⟩ := hrel
    by_cases hlt : k < (listN s).length
    · obtain ⟨hv7, hvb⟩ := listN_at hlt
      have hvm := bit_lt hs hvb
      have hstep := nbL_succ (r := rw_ x) hlt
      have hlt1 := nbL_lt (r := rw_ x) (k := k) HV.out.lt hs
      obtain ⟨v, hv⟩ : ∃ v, v = (listN s)[k] := ⟨_, rfl⟩
      rw [← hv] at hv7 hvb hvm hstep
      obtain ⟨g, hA, hg1, hg2, _, hcell, _⟩ := HO.out.at_ (by omega)
      have q0 : w1.cell? ⟨g, k, none⟩ = some (.int .i64 v) := (hcell k (by omega)).trans (by rw [ni_at hlt, ← hv])
      have q2 := HC1.out v hvm
      rw [HX.out v hvm] at q2
      have hr128 := HV.out.lt128 hvm
      have E := i64_or_nat (nbL (rw_ x) s k) (rw_ x v) (by omega) (by omega)
      rw [← hstep] at E
      have i1 : (k : Int) < ((listN s).length : Int) := by omega
      have i2 : (v : Int) < (m : Int) := by omega
      subst hA
      clear hv hcell hvb hstep
      go_wp2
      go_round
      case rel => exact ⟨k + 1, by omega, by go_num, rfl⟩
      case measure => simp [intOf]; omega
    · have hend : Hid (nbL (rw_ x) s k = nb (rw_ x) s) := nbL_end (by omega)
      have i1 : ((listN s).length : Int) ≤ (k : Int) := by omega
      go_wp2
      go_ret
      exact ⟨ret_int (by rw [hend.out]), HB1.out⟩

end Go.Proofs.Ytnnlmdenffnjbaa

/-
  Contracts: a set without which more parts are left than it has members: the program's search.
-/
namespace Go.Proofs.Ytnnlmdenffnjbaa
open Go.RowKit

end Go.Proofs.Ytnnlmdenffnjbaa

/-
  Contracts: a set without which more parts are left than it has members: the reference's search.
-/
namespace Go.Proofs.Ytnnlmdenffnjbaa
open Go.RowKit

theorem CountSet_s (s : Nat) (hs : s < 128) (w : World) :
    Calls Try.prog 99 #[.int .i64 s] w fun e w' => e = .returned (.int .i64 ((listN s).length : Int)) ∧ Below w.heap.size w w' := by
  go_enter Try.func99, Try.ntmps99
  go_wp2_with fail
  refine (ListOf_s s hs w).mono ?_
  rintro e w1 ⟨A', c', rfl, hO, hb1⟩
  have HB := Lib.hid hb1
  clear hO hb1
  go_wp2
  go_ret
  exact ⟨rfl, HB.out⟩

end Go.Proofs.Ytnnlmdenffnjbaa

/-
  Contract: a graph and one edge more, of the program.
-/
namespace Go.Proofs.Ytnnlmdenffnjbaa
open Go.RowKit

theorem okB_ok' {s : Int} {m : Nat} {x : Nat → Int} (h : okB s m x = true) : OkG s m x := by
  refine Classical.byContradiction fun h2 => ?_
  rw [okB_no h2] at h; cases h
end Go.Proofs.Ytnnlmdenffnjbaa

/-
  Plain: a graph and a list of edges more.
-/
namespace Go.Proofs.Ytnnlmdenffnjbaa

end Go.Proofs.Ytnnlmdenffnjbaa

/-
  Contract: a graph and one edge more, of the reference.
-/
namespace Go.Proofs.Ytnnlmdenffnjbaa
open Go.RowKit

end Go.Proofs.Ytnnlmdenffnjbaa

/-
  Contract: a graph and a list of edges more, of the program.
-/
namespace Go.Proofs.Ytnnlmdenffnjbaa
open Go.RowKit

end Go.Proofs.Ytnnlmdenffnjbaa

/-
  Contract: a graph and a list of edges more, of the reference.
-/
namespace Go.Proofs.Ytnnlmdenffnjbaa
open Go.RowKit

end Go.Proofs.Ytnnlmdenffnjbaa

/-
  Contracts: is a graph chordal? The program's answer.
-/
namespace Go.Proofs.Ytnnlmdenffnjbaa
open Go.RowKit

end Go.Proofs.Ytnnlmdenffnjbaa

/-
  Contracts: is a graph chordal? The reference's answer.
-/
namespace Go.Proofs.Ytnnlmdenffnjbaa
open Go.RowKit

end Go.Proofs.Ytnnlmdenffnjbaa

/-
  Contracts: is a vertex in a list? is a list a way? The program's tests.
-/
namespace Go.Proofs.Ytnnlmdenffnjbaa
open Go.RowKit

end Go.Proofs.Ytnnlmdenffnjbaa

/-
  Contracts: is a list a way? a list's copy; a list and one vertex more: the program's.
-/
namespace Go.Proofs.Ytnnlmdenffnjbaa
open Go.RowKit

/-! ### a list and one vertex more -/
end Go.Proofs.Ytnnlmdenffnjbaa

/-
  What the searches for ways answer, as plain functions.
-/
namespace Go.Proofs.Ytnnlmdenffnjbaa
open Go.RowKit

end Go.Proofs.Ytnnlmdenffnjbaa

/-
  Contracts: the reference's search for a way through all vertices.
-/
namespace Go.Proofs.Ytnnlmdenffnjbaa
open Go.RowKit

/-- append of a slice that is only read, at a step of a region; of the old blocks only the slice's own may have turned. -/
theorem step_appendG (w : World) {ops : Array Oper} {o : Oper} {a : Act} {K : Act → World → Prop} {Q : Exit → Act → World → Prop} {E : Prop} {lo hi B n c m c2 : Nat} {A A2 : Option Addr} {x : Nat → Value} {y : Nat → Int} (hgd : o.guard = none) (s z : Operand)
    (ho : o.op = .call { callee := .builtin .append, args := #[s, z], argTypes := #[22, 22] })
    (hs : a.eval s = .slice A n c) (h : Own w lo hi 3 1 A n c x) (hz : a.eval z = .slice A2 m c2) (hr : Rd w B A2 m c2 y) (hlo : lo ≤ w.heap.size) (hn : n ≤ 1073741824) (hm : m ≤ 1073741824)
    (hK : ∀ A' c' w', Own w' lo w'.heap.size 3 1 A' (n + m) c' (thenI n x y) → Below lo w w' → w.grownBy w' (Value.slice A n c).ownBlock → K (a.put o.dst (.slice A' (n + m) c')) w') :
    if Region.wanted o (yielded ops a.tmps) = true then Oper.wp Try.prog o a w K Q else E := by
  have hw : Region.wanted o (yielded ops a.tmps) = true := by simp [Region.wanted, hgd]
  rw [if_pos hw]
  obtain ⟨A', c', w', hrun, h2, h3, _, h5⟩ := run_appendI w o.type h hr hlo hn hm
  unfold Oper.wp execOp
  simp only [ho, resolve, invoke, builtin, Sem.run_bind, Sem.run_pure, Result.andThen_ok, List.map_toArray, List.map_cons, List.map_nil, hs, hz, hrun]
  exact hK _ _ _ h2 h3 h5

end Go.Proofs.Ytnnlmdenffnjbaa
