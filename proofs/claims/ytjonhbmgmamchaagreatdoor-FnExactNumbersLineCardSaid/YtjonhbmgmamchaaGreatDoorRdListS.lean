/-
  Contracts: the set of a list of vertices; are numbers different vertices? are they an order? Both programs'.
-/
import Derived.Test.YtjonhbmgmamchaaGreatDoorRdListZ
import Derived.Test.YtjonhbmgmamchaaGreatDoorRdSet2S
namespace Go.Proofs.YtjonhbmgmamchaaGreatDoor
open Go.RowKit

/-- The set of some vertices. -/
def stN : List Int → Nat
  | [] => 0
  | v :: l => 2 ^ v.toNat ||| stN l
theorem stN_bit {l : List Int} {u : Nat} (h : ∀ v ∈ l, 0 ≤ v) : (stN l).testBit u = true ↔ (u : Int) ∈ l := by
  induction l with
  | nil => simp [stN]
  | cons v l ih =>
    rw [stN, Nat.testBit_or, Nat.testBit_two_pow, Bool.or_eq_true, ih (fun v hv => h v (by simp [hv])), List.mem_cons, decide_eq_true_eq]
    have := h v (by simp)
    constructor
    · rintro (h1 | h1)
      · left; omega
      · exact .inr h1
    · rintro (h1 | h1)
      · left; omega
      · exact .inr h1
theorem stN_lt {l : List Int} {m : Nat} (h : ∀ v ∈ l, 0 ≤ v ∧ v < (m : Int)) : stN l < 2 ^ m := by
  induction l with
  | nil => exact Nat.two_pow_pos m
  | cons v l ih =>
    have := h v (by simp)
    exact Nat.or_lt_two_pow (Nat.pow_lt_pow_right (by omega) (by omega)) (ih (fun v hv => h v (by simp [hv])))
theorem stN_append (l k : List Int) : stN (l ++ k) = stN l ||| stN k := by
  induction l with
  | nil => simp [stN]
  | cons v l ih => rw [List.cons_append, stN, stN, ih, Nat.or_assoc]
theorem or_of_add {a u : Nat} (h : a.testBit u = false) : a + 2 ^ u = a ||| 2 ^ u := by
  rw [add_pow_bit h]
  apply Nat.eq_of_testBit_eq
  intro i
  rw [Nat.testBit_or, Nat.testBit_xor, Nat.testBit_two_pow]
  by_cases hi : u = i
  · subst hi; simp [h]
  · simp [hi]
theorem take_snocz {l : List Int} {k : Nat} (hk : k < l.length) : l.take (k + 1) = l.take k ++ [l.getD k 0] := by
  have e : l.getD k 0 = l[k] := by simp [List.getD, hk]
  rw [e, List.take_succ_eq_append_getElem hk]
theorem stN_take {l : List Int} {k : Nat} (hk : k < l.length) : stN (l.take (k + 1)) = stN (l.take k) ||| 2 ^ (l.getD k 0).toNat := by
  rw [take_snocz hk, stN_append]; simp [stN]
/-- What SetOf answers. -/
noncomputable def soN (l : List Int) : Int := if vzB 7 l = true then (stN l : Int) else 0
theorem soN_yes {l : List Int} (h : vzB 7 l = true) : soN l = (stN l : Int) := by unfold soN; rw [if_pos h]
theorem soN_no {l : List Int} (h : vzB 7 l = false) : soN l = 0 := by unfold soN; rw [h]; rfl
theorem VZ.step {m : Nat} {l : List Int} {k : Nat} (hk : k < l.length) (h : VZ m (l.take k)) (h0 : 0 ≤ l.getD k 0) (h1 : l.getD k 0 < m) (hn : l.getD k 0 ∉ l.take k) : VZ m (l.take (k + 1)) := by
  refine ⟨nodupz_take hk h.1 hn, fun v hv => ?_⟩
  rw [take_snocz hk, List.mem_append, List.mem_singleton] at hv
  rcases hv with hv | rfl
  · exact h.2 v hv
  · exact ⟨h0, h1⟩

set_option maxHeartbeats 1600000 in
theorem SetOf_i (Al : Option Addr) (n cl : Nat) (l : List Int) (w : World) (hl : LI w Al n cl l) (hn : n ≤ 1048576) :
    Calls Tryz.prog 115 #[.slice Al n cl] w fun e w' => e = .returned (.tuple #[.int .i64 (soN l), .bool (vzB 7 l)]) ∧ w = w' := by
  have HL := Lib.hid hl
  have HN := Lib.hid hl.len
  clear hl
  go_enter Tryz.func115, Tryz.ntmps115
  go_wp2
  go_loop [4, 9] (fun s i => ∃ k : Nat, k ≤ n ∧ i = .int .i64 k ∧ s = .int .i64 (stN (l.take k) : Nat) ∧ Hid (VZ 7 (l.take k))) (fun _ i => n - (intOf i).toNat)
  case atStart => exact ⟨0, Nat.zero_le _, rfl, rfl, List.nodup_nil, fun v hv => by cases hv⟩
  case round =>
    obtain ⟨k, hk, rfl, rfl, hall⟩ := hrel
    by_cases hlt : k < n
    · have hkl : k < l.length := by rw [← HN.out]; exact hlt
      obtain ⟨b, o, rfl⟩ := HL.out.addr (by omega)
      have q0 := HL.out.at hlt
      have hmem := getD_mem hkl
      have hst := stN_take hkl
      have hs7 := stN_lt hall.out.2
      obtain ⟨u, hu⟩ : ∃ u : Int, u = l.getD k 0 := ⟨_, rfl⟩
      rw [← hu] at q0 hmem hst
      have i1 : (k : Int) < (n : Int) := by omega
      by_cases hr : 0 ≤ u ∧ u < 7
      · obtain ⟨r1, r2⟩ := hr
        obtain ⟨v, rfl⟩ := Int.eq_ofNat_of_zero_le r1
        rw [Int.toNat_natCast] at hst
        have hv7 : 2 ^ v < 2 ^ 7 := Nat.pow_lt_pow_right (by omega) (by omega)
        have E := i64_or_nat (stN (l.take k)) (2 ^ v) (by omega) (by omega)
        rw [← hst, pow_cast] at E
        have p1 := pow_shl v (by omega)
        have KH := Lib.hid (has_v (s := stN (l.take k)) (v := v) w (by omega) (by omega))
        cases ht : (stN (l.take k)).testBit v
        · have hnin : (v : Int) ∉ l.take k := fun h => by rw [(stN_bit (fun v hv => (hall.out.2 v hv).1)).2 h] at ht; cases ht
          have hyes : Hid (VZ 7 (l.take (k + 1))) := hall.out.step hkl (by rw [← hu]; exact r1) (by rw [← hu]; exact r2) (by rw [← hu]; exact hnin)
          rw [ht] at KH
          clear ht hnin hst hu hmem
          go_wp2_with (first | (go_at_call 57; refine (within_yes _ _ _ _ r1 (by omega)).mono ?_; rintro e w' ⟨rfl, rfl⟩) | (go_at_call 58; with_reducible refine KH.out.mono ?_; rintro e w' ⟨rfl, rfl⟩))
          go_round
          case rel => exact ⟨k + 1, by omega, by go_num, rfl, hyes⟩
          case measure => simp [intOf]; omega
        · have hin : (v : Int) ∈ l.take k := (stN_bit (fun v hv => (hall.out.2 v hv).1)).1 ht
          have hno : Hid (vzB 7 l = false) := vzB_no fun h => not_nodupz hkl (by rw [← hu]; exact hin) h.1
          have hz : Hid (soN l = 0) := soN_no hno.out
          rw [ht] at KH
          clear ht hin hst hu hmem
          go_wp2_with (first | (go_at_call 57; refine (within_yes _ _ _ _ r1 (by omega)).mono ?_; rintro e w' ⟨rfl, rfl⟩) | (go_at_call 58; with_reducible refine KH.out.mono ?_; rintro e w' ⟨rfl, rfl⟩))
          go_ret2
          exact ⟨by rw [hno.out, hz.out]; rfl, rfl⟩
      · have hno : Hid (vzB 7 l = false) := vzB_no fun h => hr (h.2 u hmem)
        have hz : Hid (soN l = 0) := soN_no hno.out
        have hr' : Hid (u < 0 ∨ 6 < u) := by show _ ∨ _; omega
        clear hr hst hu hmem
        go_wp2_with (first | (go_at_call 57; refine (within_no _ _ _ _ hr'.out).mono ?_; rintro e w' ⟨rfl, rfl⟩))
        go_ret2
        exact ⟨by rw [hno.out, hz.out]; rfl, rfl⟩
    · have hyes : Hid (vzB 7 l = true) := by
        refine vzB_yes ?_
        have := hall.out
        rwa [List.take_of_length_le (by rw [← HN.out]; omega)] at this
      have he : Hid (l.take k = l) := List.take_of_length_le (by rw [← HN.out]; omega)
      have hz : Hid (soN l = (stN l : Int)) := soN_yes hyes.out
      have i1 : (n : Int) ≤ (k : Int) := by omega
      go_wp2
      go_ret2
      exact ⟨by rw [hyes.out, hz.out]; simp only [he.out]; rfl, rfl⟩

set_option maxHeartbeats 1600000 in
theorem SetOf_s (Al : Option Addr) (n cl : Nat) (l : List Int) (w : World) (hl : LI w Al n cl l) (hn : n ≤ 1048576) :
    Calls Tryz.prog 119 #[.slice Al n cl] w fun e w' => e = .returned (.tuple #[.int .i64 (soN l), .bool (vzB 7 l)]) ∧ w = w' := by
  have HL := Lib.hid hl
  have HN := Lib.hid hl.len
  clear hl
  go_enter Tryz.func119, Tryz.ntmps119
  go_wp2
  go_loop [4, 5] (fun s i => ∃ k : Nat, k ≤ n ∧ i = .int .i64 k ∧ s = .int .i64 (stN (l.take k) : Nat) ∧ Hid (VZ 7 (l.take k))) (fun _ i => n - (intOf i).toNat)
  case atStart => exact ⟨0, Nat.zero_le _, rfl, rfl, List.nodup_nil, fun v hv => by cases hv⟩
  case round =>
    obtain ⟨k, hk, rfl, rfl, hall⟩ := hrel
    by_cases hlt : k < n
    · have hkl : k < l.length := by rw [← HN.out]; exact hlt
      obtain ⟨b, o, rfl⟩ := HL.out.addr (by omega)
      have q0 := HL.out.at hlt
      have hmem := getD_mem hkl
      have hst := stN_take hkl
      have hs7 := stN_lt hall.out.2
      obtain ⟨u, hu⟩ : ∃ u : Int, u = l.getD k 0 := ⟨_, rfl⟩
      rw [← hu] at q0 hmem hst
      have i1 : (k : Int) < (n : Int) := by omega
      by_cases hr : 0 ≤ u ∧ u < 7
      · obtain ⟨r1, r2⟩ := hr
        obtain ⟨v, rfl⟩ := Int.eq_ofNat_of_zero_le r1
        rw [Int.toNat_natCast] at hst
        have hv7 : 2 ^ v < 2 ^ 7 := Nat.pow_lt_pow_right (by omega) (by omega)
        have E1 := and_one_i64 (stN (l.take k) : Int) v (by omega) (by omega)
        rw [Int.toNat_natCast] at E1
        have p1 := pow_shl v (by omega)
        have hpc := pow_cast v
        cases ht : (stN (l.take k)).testBit v
        · have hnin : (v : Int) ∉ l.take k := fun h => by rw [(stN_bit (fun v hv => (hall.out.2 v hv).1)).2 h] at ht; cases ht
          have hyes : Hid (VZ 7 (l.take (k + 1))) := hall.out.step hkl (by rw [← hu]; exact r1) (by rw [← hu]; exact r2) (by rw [← hu]; exact hnin)
          have E2 : wrap64 ((stN (l.take k) : Int) + 2 ^ v) = (stN (l.take (k + 1)) : Int) := by
            have e : (stN (l.take k) : Int) + 2 ^ v = (stN (l.take (k + 1)) : Int) := by rw [hst, ← or_of_add ht]; simp
            rw [Go.IntWalk.wrap64_in _ (by omega), e]
          rw [ht] at E1
          clear ht hnin hst hu hmem hpc
          go_wp2_with (first | (go_at_call 42; refine (l1In_yes _ _ _ _ r1 (by omega)).mono ?_; rintro e w' ⟨rfl, rfl⟩))
          go_round
          case rel => exact ⟨k + 1, by omega, by go_num, congrArg (Value.int .i64) E2, hyes⟩
          case measure => simp [intOf]; omega
        · have hin : (v : Int) ∈ l.take k := (stN_bit (fun v hv => (hall.out.2 v hv).1)).1 ht
          have hno : Hid (vzB 7 l = false) := vzB_no fun h => not_nodupz hkl (by rw [← hu]; exact hin) h.1
          have hz : Hid (soN l = 0) := soN_no hno.out
          rw [ht] at E1
          clear ht hin hst hu hmem hpc
          go_wp2_with (first | (go_at_call 42; refine (l1In_yes _ _ _ _ r1 (by omega)).mono ?_; rintro e w' ⟨rfl, rfl⟩))
          go_ret2
          exact ⟨by rw [hno.out, hz.out]; rfl, rfl⟩
      · have hno : Hid (vzB 7 l = false) := vzB_no fun h => hr (h.2 u hmem)
        have hz : Hid (soN l = 0) := soN_no hno.out
        have hr' : Hid (u < 0 ∨ 6 < u) := by show _ ∨ _; omega
        clear hr hst hu hmem
        go_wp2_with (first | (go_at_call 42; refine (l1In_no _ _ _ _ hr'.out).mono ?_; rintro e w' ⟨rfl, rfl⟩))
        go_ret2
        exact ⟨by rw [hno.out, hz.out]; rfl, rfl⟩
    · have hyes : Hid (vzB 7 l = true) := by
        refine vzB_yes ?_
        have := hall.out
        rwa [List.take_of_length_le (by rw [← HN.out]; omega)] at this
      have he : Hid (l.take k = l) := List.take_of_length_le (by rw [← HN.out]; omega)
      have hz : Hid (soN l = (stN l : Int)) := soN_yes hyes.out
      have i1 : (n : Int) ≤ (k : Int) := by omega
      go_wp2
      go_ret2
      exact ⟨by rw [hyes.out, hz.out]; simp only [he.out]; rfl, rfl⟩

/-- An order of a graph's vertices. -/
noncomputable def orB (sz : Int) (m : Nat) (x : Nat → Int) (l : List Int) : Bool := vrB sz m x l && decide (l.length = m)
theorem IsSet_s (sz : Int) (A : Option Addr) (m c : Nat) (x : Nat → Int) (s : Nat) (w : World) (h : GA w A m c x) (ho : okB sz m x = true) :
    Calls Tryz.prog 86 #[.agg #[.int .i64 sz, .slice A m c], .int .i64 s] w fun e w' => e = .returned (.bool (decide (s < 2 ^ m))) ∧ Below w.heap.size w w' := by
  obtain ⟨_, es, vg0, _⟩ := okB_ok' ho
  subst es
  have hn7 := vg0.n7
  have p1 := pow_shl m hn7
  have hpc := pow_cast m
  have HV := Lib.hid (h.gv ho)
  clear ho vg0
  have h := HV.out
  obtain ⟨r, hr⟩ : ∃ r, r = rw_ x := ⟨_, rfl⟩
  rw [← hr] at h
  obtain ⟨W, hW⟩ : ∃ W : World, W = (w.alloc (Obj.cells #[Value.int IntKind.i64 m, Value.slice A m c] 27)) := ⟨_, rfl⟩
  have HB : Hid (From w W) := by rw [hW]; exact From.alloc _ _
  have HG : Hid (GBox W w.heap.size A m c r) := by rw [hW]; exact h.box
  have HW := Lib.hid hW
  clear hW h
  have e0 := HG.out.c0
  have e1 := HG.out.c1
  by_cases hlt : s < 2 ^ m
  · rw [decide_eq_true hlt]
    have i1 : (s : Int) < 2 ^ m := by omega
    clear hlt
    go_enter Tryz.func86, Tryz.ntmps86
    go_wp2_with fail
    rw [← HW.out]
    refine (IsGraph_sv HG.out.gv).mono ?_
    rintro e w1 ⟨rfl, hb1⟩
    clear HW
    clear e0 e1
    replace HB := Lib.hid (HB.out.keep hb1)
    replace HG := Lib.hid (HG.out.keep hb1)
    clear hb1
    have e0 := HG.out.c0
    have e1 := HG.out.c1
    go_wp2
    go_ret
    exact ⟨rfl, HB.out.below⟩
  · rw [decide_eq_false hlt]
    have i1 : (2 : Int) ^ m ≤ (s : Int) := by omega
    clear hlt
    go_enter Tryz.func86, Tryz.ntmps86
    go_wp2_with fail
    rw [← HW.out]
    refine (IsGraph_sv HG.out.gv).mono ?_
    rintro e w2 ⟨rfl, hb2⟩
    clear HW
    clear e0 e1
    replace HB := Lib.hid (HB.out.keep hb2)
    replace HG := Lib.hid (HG.out.keep hb2)
    clear hb2
    have e0 := HG.out.c0
    have e1 := HG.out.c1
    go_wp2
    go_ret
    exact ⟨ret_bool (decide_eq_false (by omega)), HB.out.below⟩

set_option maxHeartbeats 1000000 in
theorem l4Distinct_z (sz : Int) (A : Option Addr) (m c : Nat) (x : Nat → Int) (Al : Option Addr) (n cl : Nat) (l : List Int) (w : World) (h : GA w A m c x) (hl : LI w Al n cl l) (hm : m ≤ 1048576) (hn : n ≤ 1048576) :
    Calls Tryz.prog 112 #[.agg #[.int .i64 sz, .slice A m c], .slice Al n cl] w fun e w' => e = .returned (.bool (vrB sz m x l)) ∧ Below w.heap.size w w' := by
  obtain ⟨W, hW⟩ : ∃ W : World, W = (w.alloc (Obj.cells #[Value.int IntKind.i64 sz, Value.slice A m c] 27)) := ⟨_, rfl⟩
  have HB : Hid (From w W) := by rw [hW]; exact From.alloc _ _
  have HK := Lib.hid (h.keep HB.out.below)
  have HL := Lib.hid (hl.keep HB.out.below)
  have HC : Hid (GC W w.heap.size sz A m c) := by rw [hW]; exact GC.new _ _ _ _ _
  have HW := Lib.hid hW
  clear hW h hl
  go_enter Tryz.func112, Tryz.ntmps112
  go_wp2_with fail
  rw [← HW.out]
  clear HW
  refine (SetOf_s Al n cl l W HL.out hn).mono ?_
  rintro e w' ⟨rfl, rfl⟩
  have e0 := HC.out.c0
  have e1 := HC.out.c1
  go_wp2_with fail
  refine (IsGraph_sany sz A m c x W W.heap.size HK.out.rd (Nat.le_refl _) hm).mono ?_
  rintro e w1 ⟨rfl, hb1⟩
  clear e0 e1
  replace HB := Lib.hid (HB.out.keep hb1)
  replace HK := Lib.hid (HK.out.keep hb1)
  replace HC := Lib.hid (HC.out.keep hb1)
  clear hb1
  have e0 := HC.out.c0
  have e1 := HC.out.c1
  cases ho : okB sz m x
  · have hno : Hid (vrB sz m x l = false) := vrB_bad ho
    clear ho
    go_wp2
    go_ret
    exact ⟨ret_bool hno.out.symm, HB.out.below⟩
  · have hv : Hid (vrB sz m x l = vzB m l) := vrB_ok ho
    obtain ⟨_, es, vg0, _⟩ := okB_ok' ho
    subst es
    have hn7 := vg0.n7
    have Ho := Lib.hid ho
    clear ho vg0
    cases h7 : vzB 7 l
    · have hno : Hid (vzB m l = false) := vzB_no fun h => by
        rw [vzB_yes ⟨h.1, fun v hv => by have := h.2 v hv; omega⟩] at h7; cases h7
      clear h7
      go_wp2
      go_ret
      exact ⟨ret_bool (by rw [hv.out, hno.out]), HB.out.below⟩
    · have hz : Hid (soN l = (stN l : Int)) := soN_yes h7
      have hV := vzB_iff.1 h7
      have hlt := stN_lt hV.2
      have hd : Hid (decide (stN l < 2 ^ m) = vrB (m : Int) m x l) := by
        show _ = _
        rw [hv.out]
        by_cases h : VZ m l
        · rw [vzB_yes h, decide_eq_true (stN_lt h.2)]
        · rw [vzB_no h, decide_eq_false]
          intro hs
          refine h ⟨hV.1, fun v hv => ?_⟩
          have h0 := (hV.2 v hv).1
          obtain ⟨u, rfl⟩ := Int.eq_ofNat_of_zero_le h0
          have := bit_lt hs ((stN_bit (fun v hv => (hV.2 v hv).1)).2 hv)
          omega
      rw [hz.out]
      obtain ⟨S, hS⟩ : ∃ S, S = stN l := ⟨_, rfl⟩
      rw [← hS] at hd ⊢
      clear h7 hV hlt hz hS
      go_wp2_with fail
      refine (IsSet_s (m : Int) A m c x S _ HK.out Ho.out).mono ?_
      rintro e w2 ⟨rfl, hb2⟩
      clear e0 e1
      replace HB := Lib.hid (HB.out.keep hb2)
      replace HK := Lib.hid (HK.out.keep hb2)
      replace HC := Lib.hid (HC.out.keep hb2)
      clear hb2
      have e0 := HC.out.c0
      have e1 := HC.out.c1
      go_wp2
      go_ret
      exact ⟨ret_bool hd.out, HB.out.below⟩

set_option maxHeartbeats 1000000 in
theorem IsOrder_sz (sz : Int) (A : Option Addr) (m c : Nat) (x : Nat → Int) (Al : Option Addr) (n cl : Nat) (l : List Int) (w : World) (h : GA w A m c x) (hl : LI w Al n cl l) (hm : m ≤ 1048576) (hn : n ≤ 1048576) :
    Calls Tryz.prog 89 #[.agg #[.int .i64 sz, .slice A m c], .slice Al n cl] w fun e w' => e = .returned (.bool (orB sz m x l)) ∧ Below w.heap.size w w' := by
  obtain ⟨W, hW⟩ : ∃ W : World, W = (w.alloc (Obj.cells #[Value.int IntKind.i64 sz, Value.slice A m c] 27)) := ⟨_, rfl⟩
  have HB : Hid (From w W) := by rw [hW]; exact From.alloc _ _
  have HK := Lib.hid (h.keep HB.out.below)
  have HL := Lib.hid (hl.keep HB.out.below)
  have HC : Hid (GC W w.heap.size sz A m c) := by rw [hW]; exact GC.new _ _ _ _ _
  have HW := Lib.hid hW
  have HN := Lib.hid hl.len
  clear hW h hl
  go_enter Tryz.func89, Tryz.ntmps89
  have e0 := HC.out.c0
  have e1 := HC.out.c1
  go_wp2_with fail
  rw [← HW.out]
  refine (l4Distinct_z sz A m c x Al n cl l W HK.out HL.out hm hn).mono ?_
  rintro e w1 ⟨rfl, hb1⟩
  clear HW
  clear e0 e1
  replace HB := Lib.hid (HB.out.keep hb1)
  replace HK := Lib.hid (HK.out.keep hb1)
  replace HL := Lib.hid (HL.out.keep hb1)
  replace HC := Lib.hid (HC.out.keep hb1)
  clear hb1
  have e0 := HC.out.c0
  have e1 := HC.out.c1
  cases hv : vrB sz m x l
  · have hno : Hid (orB sz m x l = false) := by show _ = _; unfold orB; rw [hv]; rfl
    clear hv
    go_wp2
    go_ret
    exact ⟨ret_bool hno.out.symm, HB.out.below⟩
  · have hd : Hid (decide ((n : Int) = sz) = orB sz m x l) := by
      show _ = _
      unfold orB
      rw [hv, Bool.true_and]
      have ho : okB sz m x = true := by
        cases h : okB sz m x
        · rw [vrB_bad h] at hv; cases hv
        · rfl
      obtain ⟨_, es, _⟩ := okB_ok' ho
      rw [decide_eq_decide, es, ← HN.out]
      omega
    clear hv
    go_wp2
    go_ret
    exact ⟨ret_bool (by rw [← hd.out, Bool.eq_iff_iff]; simp), HB.out.below⟩
set_option maxHeartbeats 1000000 in
theorem IsOrder_z (sz : Int) (A : Option Addr) (m c : Nat) (x : Nat → Int) (Al : Option Addr) (n cl : Nat) (l : List Int) (w : World) (h : GA w A m c x) (hl : LI w Al n cl l) (hm : m ≤ 1048576) (hn : n ≤ 1048576) :
    Calls Tryz.prog 100 #[.agg #[.int .i64 sz, .slice A m c], .slice Al n cl] w fun e w' => e = .returned (.bool (orB sz m x l)) ∧ Below w.heap.size w w' := by
  obtain ⟨W, hW⟩ : ∃ W : World, W = (w.alloc (Obj.cells #[Value.int IntKind.i64 sz, Value.slice A m c] 27)) := ⟨_, rfl⟩
  have HB : Hid (From w W) := by rw [hW]; exact From.alloc _ _
  have HK := Lib.hid (h.keep HB.out.below)
  have HL := Lib.hid (hl.keep HB.out.below)
  have HC : Hid (GC W w.heap.size sz A m c) := by rw [hW]; exact GC.new _ _ _ _ _
  have HW := Lib.hid hW
  have HN := Lib.hid hl.len
  clear hW h hl
  go_enter Tryz.func100, Tryz.ntmps100
  have e0 := HC.out.c0
  have e1 := HC.out.c1
  go_wp2_with fail
  rw [← HW.out]
  refine (areVertices_z sz A m c x Al n cl l W HK.out HL.out hm hn).mono ?_
  rintro e w1 ⟨rfl, hb1⟩
  clear HW
  clear e0 e1
  replace HB := Lib.hid (HB.out.keep hb1)
  replace HK := Lib.hid (HK.out.keep hb1)
  replace HL := Lib.hid (HL.out.keep hb1)
  replace HC := Lib.hid (HC.out.keep hb1)
  clear hb1
  have e0 := HC.out.c0
  have e1 := HC.out.c1
  cases hv : vrB sz m x l
  · have hno : Hid (orB sz m x l = false) := by show _ = _; unfold orB; rw [hv]; rfl
    clear hv
    go_wp2
    go_ret
    exact ⟨ret_bool hno.out.symm, HB.out.below⟩
  · have hd : Hid (decide ((n : Int) = sz) = orB sz m x l) := by
      show _ = _
      unfold orB
      rw [hv, Bool.true_and]
      have ho : okB sz m x = true := by
        cases h : okB sz m x
        · rw [vrB_bad h] at hv; cases hv
        · rfl
      obtain ⟨_, es, _⟩ := okB_ok' ho
      rw [decide_eq_decide, es, ← HN.out]
      omega
    clear hv
    go_wp2
    go_ret
    exact ⟨ret_bool (by rw [← hd.out, Bool.eq_iff_iff]; simp), HB.out.below⟩
end Go.Proofs.YtjonhbmgmamchaaGreatDoor
