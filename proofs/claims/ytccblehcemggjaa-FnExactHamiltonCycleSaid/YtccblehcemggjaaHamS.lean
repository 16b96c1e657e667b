/-
  Contracts: the reference's search for a way through all vertices.
-/
import Derived.Test.YtccblehcemggjaaHamD
import Derived.Test.YtccblehcemggjaaEdgesS
namespace Go.Proofs.Ytccblehcemggjaa
open Go.RowKit

set_option maxHeartbeats 1000000 in
theorem l8Has_s (A : Option Addr) (n c : Nat) (l : List Nat) (v : Nat) (w : World) (B : Nat) (h : RdN w B A n c l) (hl : l.length ≤ 1048576) :
    Calls Try.prog 112 #[.slice A n c, .int .i64 v] w fun e w' => e = .returned (.bool (decide (v ∈ l))) ∧ w = w' := by
  obtain ⟨rfl, h⟩ := h
  have HR := Lib.hid h
  clear h
  go_enter Try.func112, Try.ntmps112
  go_wp2
  go_loop [5] (fun i => ∃ k : Nat, k ≤ l.length ∧ i = .int .i64 k ∧ Hid (∀ j (hj : j < l.length), j < k → l[j] ≠ v)) (fun i => l.length - (intOf i).toNat)
  case atStart => exact ⟨0, Nat.zero_le _, rfl, (fun j hj hk => absurd hk (by omega))⟩
  case round =>
    obtain ⟨k, hk, rfl, hall⟩ := hrel
    by_cases hlt : k < l.length
    · obtain ⟨b, o, rfl, hb, hc⟩ := HR.out.pos (by omega)
      have q0 := hc k hlt
      obtain ⟨u, hu⟩ : ∃ u : Nat, u = l[k] := ⟨_, rfl⟩
      have e2 : l.getD k 0 = u := by rw [hu]; simp [List.getD, hlt]
      rw [e2] at q0
      have Hu := Lib.hid hu
      have i1 : (k : Int) < (l.length : Int) := by omega
      clear hc hu e2
      by_cases hp : u = v
      · have Hd : Hid (decide (v ∈ l) = true) := decide_eq_true (by rw [← hp, Hu.out]; exact List.getElem_mem hlt)
        subst hp
        go_wp2
        go_ret
        exact ⟨ret_bool Hd.out.symm, rfl⟩
      · have hne : ((u : Int) == (v : Int)) = false := by simp; omega
        have hne2 : (u = v) = False := by simp [hp]
        have Hp := Lib.hid hp
        clear hp
        go_wp2
        go_round
        case rel =>
          refine ⟨k + 1, by omega, by go_num, fun j hj hjk => ?_⟩
          by_cases hjk2 : j < k
          · exact hall.out j hj hjk2
          · obtain rfl : j = k := by omega
            rw [← Hu.out]; exact Hp.out
        case measure => simp [intOf]; omega
    · have Hd : Hid (decide (v ∈ l) = false) := decide_eq_false fun h => by
        obtain ⟨j, hj, e⟩ := List.mem_iff_getElem.1 h
        exact hall.out j hj (by omega) e
      have i1 : (l.length : Int) ≤ (k : Int) := by omega
      go_wp2
      go_ret
      exact ⟨ret_bool Hd.out.symm, rfl⟩

/-- append of a slice that is only read, at a step of a region; of the old blocks only the slice's own may have turned. -/
theorem step_appendG (w : World) {ops : Array Oper} {o : Oper} {a : Act} {K : Act → World → Prop} {Q : Exit → Act → World → Prop} {E : Prop} {lo hi B n c m c2 : Nat} {A A2 : Option Addr} {x : Nat → Value} {y : Nat → Int} (hgd : o.guard = none) (s z : Operand)
    (ho : o.op = .call { callee := .builtin .append, args := #[s, z], argTypes := #[37, 37] })
    (hs : a.eval s = .slice A n c) (h : Own w lo hi 3 1 A n c x) (hz : a.eval z = .slice A2 m c2) (hr : Rd w B A2 m c2 y) (hlo : lo ≤ w.heap.size) (hn : n ≤ 1073741824) (hm : m ≤ 1073741824)
    (hK : ∀ A' c' w', Own w' lo w'.heap.size 3 1 A' (n + m) c' (thenI n x y) → Below lo w w' → w.grownBy w' (Value.slice A n c).ownBlock → K (a.put o.dst (.slice A' (n + m) c')) w') :
    if Region.wanted o (yielded ops a.tmps) = true then Oper.wp Try.prog o a w K Q else E := by
  have hw : Region.wanted o (yielded ops a.tmps) = true := by simp [Region.wanted, hgd]
  rw [if_pos hw]
  obtain ⟨A', c', w', hrun, h2, h3, _, h5⟩ := run_appendI w o.type h hr hlo hn hm
  unfold Oper.wp execOp
  simp only [ho, resolve, invoke, builtin, Sem.run_bind, Sem.run_pure, Result.andThen_ok, List.map_toArray, List.map_cons, List.map_nil, hs, hz, hrun]
  exact hK _ _ _ h2 h3 h5

def seaS (w : World) (lo k : Nat) (o : Option (List Nat)) (e : Ending) (w' : World) : Prop :=
  match o with
  | none => ∃ A' n' c', e = .returned (.tuple #[.slice A' n' c', .bool false]) ∧ (k ≠ 0 → n' = 0 ∧ Own w' lo w'.heap.size 3 1 A' 0 c' (ni [])) ∧ Below w.heap.size w w'
  | some out => ∃ A' c', e = .returned (.tuple #[.slice A' out.length c', .bool true]) ∧ Own w' lo w'.heap.size 3 1 A' out.length c' (ni out) ∧ Below w.heap.size w w'

theorem last_mem {l : List Nat} (h : l ≠ []) : l.getLastD 0 ∈ l ∧ l.getD (l.length - 1) 0 = l.getLastD 0 ∧ l.headD 0 ∈ l ∧ l.getD 0 0 = l.headD 0 := by
  refine ⟨?_, ?_, ?_, ?_⟩
  · rw [List.getLastD_eq_getLast?, List.getLast?_eq_some_getLast h]; exact List.getLast_mem h
  · cases hh : l.getLast? with
    | none => rw [List.getLast?_eq_none_iff] at hh; exact absurd hh h
    | some a => rw [(last_getD hh).2, List.getLastD_eq_getLast?, hh]; rfl
  · cases l with
    | nil => exact absurd rfl h
    | cons a l => simp
  · cases l with
    | nil => exact absurd rfl h
    | cons a l => rfl

set_option maxRecDepth 100000 in
set_option maxHeartbeats 3200000 in
theorem search_s0 (m c : Nat) (A : Option Addr) (x : Nat → Int) (B lo : Nat) (closed : Bool) (hok : okB m m x = true) (l : List Nat) (g c' : Nat) (w : World) (hlm : l.length = m) (hway : Way (rw_ x) m closed l) (hr : Rd w B A m c x) (hB : B ≤ w.heap.size) (hlo : lo ≤ w.heap.size) (hO : Own w lo w.heap.size 3 1 (some ⟨g, 0, none⟩) l.length c' (ni l)) :
    Calls Try.prog 92 #[.agg #[.int .i64 m, .slice A m c], .slice (some ⟨g, 0, none⟩) l.length c', .bool closed] w (seaS w lo 0 (sea (rw_ x) m closed 0 l)) := by
  obtain ⟨vg, hx⟩ := okB_vg hok
  have hn1 := vg.n1
  have hn7 := vg.n7
  have hl0 : l ≠ [] := by rintro rfl; simp at hlm; omega
  obtain ⟨W, hW⟩ : ∃ W : World, W = (w.alloc (Obj.cells #[Value.int IntKind.i64 m, Value.slice A m c] 42)) := ⟨_, rfl⟩
  have HB : Hid (Below w.heap.size w W) := by rw [hW]; exact ((Below.refl _ _).alloc (Nat.le_refl _) _)
  have a0 : w.heap.size < W.heap.size := by rw [hW]; simp
  have e0 : W.cell? ⟨w.heap.size, 0, none⟩ = some (.int .i64 m) := by rw [hW]; simp [go_sem]
  have e1 : W.cell? ⟨w.heap.size, 1, none⟩ = some (.slice A m c) := by rw [hW]; simp [go_sem]
  have hpos : 0 < l.length := List.length_pos_iff.2 hl0
  obtain ⟨g', eg, _, hg2, hg3, hcl, _⟩ := hO.at_ hpos
  simp only [Option.some.injEq, Addr.mk.injEq, and_true] at eg
  subst eg
  obtain ⟨m1, m2, m3, m4⟩ := last_mem hl0
  obtain ⟨j, hj⟩ : ∃ j, j = l.length - 1 := ⟨_, rfl⟩
  rw [← hj] at m2
  have q1 : W.cell? ⟨g, j, none⟩ = some (.int .i64 (l.getLastD 0 : Nat)) := (HB.out.cell (p := ⟨g, j, none⟩) (by show g < _; omega)).trans ((hcl j (by omega)).trans (by unfold ni; rw [m2]))
  have q2 : W.cell? ⟨g, 0, none⟩ = some (.int .i64 (l.headD 0 : Nat)) := (HB.out.cell (p := ⟨g, 0, none⟩) (by show g < _; omega)).trans ((hcl 0 (by omega)).trans (by unfold ni; rw [m4]))
  have hum := hway.lt _ m1
  have hhm := hway.lt _ m3
  have hfin : Hid (fin_ (rw_ x) closed l = (!closed || edg (rw_ x) (l.getLastD 0) (l.headD 0))) := rfl
  obtain ⟨u, hu⟩ : ∃ u, u = l.getLastD 0 := ⟨_, rfl⟩
  obtain ⟨h0, hh0⟩ : ∃ h0, h0 = l.headD 0 := ⟨_, rfl⟩
  rw [← hu] at q1 hum hfin
  rw [← hh0] at q2 hhm hfin
  obtain ⟨b, o, rfl, hb, hc⟩ := (hr.keep (HB.out.mono hB) (Nat.le_refl _)).pos (by omega)
  have q3 := hc u hum
  rw [hx u hum] at q3
  have hr128 := vg.lt128 hum
  have s1 : IntKind.i64.wrap ((l.length : Int) - 1) = (j : Int) := by
    have : (l.length : Int) - 1 = (j : Int) := by omega
    rw [this]; exact Go.IntWalk.i64_in (j : Int) (by omega)
  have i1 : (j : Int) < (l.length : Int) := by omega
  have i2 : (0 : Int) < (l.length : Int) := by omega
  have heq : ((l.length : Int) == (m : Int)) = true := by simp; omega
  have heq2 : (l.length = m) = True := by simp [hlm]
  have HO : Hid (Own W lo W.heap.size 3 1 (some ⟨g, 0, none⟩) l.length c' (ni l)) := (hO.keepB HB.out (Nat.le_refl _)).mono (Nat.le_refl _) HB.out.size
  have HW := Lib.hid hW
  have hs : sea (rw_ x) m closed 0 l = if fin_ (rw_ x) closed l = true then some l else none := rfl
  have Hs := Lib.hid hs
  have KE : Hid (∀ z : World, (z.cell? ⟨w.heap.size, 0, none⟩ = some (.int .i64 m) ∧ z.cell? ⟨w.heap.size, 1, none⟩ = some (.slice (some ⟨b, o, none⟩) m c) ∧ z.cell? ⟨g, j, none⟩ = some (.int .i64 u) ∧ z.cell? ⟨g, 0, none⟩ = some (.int .i64 h0) ∧ Below W.heap.size W z) → Calls Try.prog 73 #[.agg #[.int .i64 m, .slice (some ⟨b, o, none⟩) m c], .int .i64 u, .int .i64 h0] z fun e w' => e = .returned (.bool (edg (rw_ x) u h0)) ∧ (w'.cell? ⟨w.heap.size, 0, none⟩ = some (.int .i64 m) ∧ w'.cell? ⟨w.heap.size, 1, none⟩ = some (.slice (some ⟨b, o, none⟩) m c) ∧ w'.cell? ⟨g, j, none⟩ = some (.int .i64 u) ∧ w'.cell? ⟨g, 0, none⟩ = some (.int .i64 h0) ∧ Below W.heap.size W w')) := by
    rintro z ⟨t0, t1, t2, t3, t4⟩
    refine (l2Edge_any m b o m c z u h0 (rw_ x u) (up t4 q3 (by omega)) (by have := t4.size; omega) hum (by omega) (by omega) (by omega)).mono ?_
    rintro e w' ⟨rfl, hb⟩
    exact ⟨by rw [Int.toNat_natCast]; rfl, up hb t0 (World.block_lt_of_cell? _ _ t0), up hb t1 (World.block_lt_of_cell? _ _ t1), up hb t2 (World.block_lt_of_cell? _ _ t2), up hb t3 (World.block_lt_of_cell? _ _ t3), t4.trans (hb.mono t4.size)⟩
  have hd : Below W.heap.size W W.drew := (Below.refl _ _).drew
  have e0' : W.drew.cell? ⟨w.heap.size, 0, none⟩ = some (.int .i64 m) := e0
  have e1' : W.drew.cell? ⟨w.heap.size, 1, none⟩ = some (.slice (some ⟨b, o, none⟩) m c) := e1
  have q1' : W.drew.cell? ⟨g, j, none⟩ = some (.int .i64 u) := q1
  have q2' : W.drew.cell? ⟨g, 0, none⟩ = some (.int .i64 h0) := q2
  clear hW hr hO hcl hx vg hok hu hh0 m1 m2 m3 m4 hlm hc hs hway hl0 hj
  cases closed
  · have hs2 : Hid (sea (rw_ x) m false 0 l = some l) := rfl
    go_enter Try.func92, Try.ntmps92
    go_wp2_with fail
    rw [← HW.out]
    clear HW
    go_quiet (fail)
    go_wp2
    go_ret2
    rw [hs2.out]
    unfold seaS
    exact ⟨_, _, rfl, HO.out, below_drewN HB.out _⟩
  · go_enter Try.func92, Try.ntmps92
    go_wp2_with fail
    rw [← HW.out]
    clear HW
    go_region_held3 (fun z => z.cell? ⟨w.heap.size, 0, none⟩ = some (.int .i64 m) ∧ z.cell? ⟨w.heap.size, 1, none⟩ = some (.slice (some ⟨b, o, none⟩) m c) ∧ z.cell? ⟨g, j, none⟩ = some (.int .i64 u) ∧ z.cell? ⟨g, 0, none⟩ = some (.int .i64 h0) ∧ Below W.heap.size W z)
      (first | assumption | (refine ⟨?_, ?_, ?_, ?_, ?_⟩ <;> assumption) | fail)
      (first
        | (go_at_call 73; ((with_reducible refine (KE.out _ (by assumption)).mono ?_); rintro e w3 ⟨rfl, hS3⟩))
        | fail)
    have hb3 := hS3.2.2.2.2
    have HO3 : Hid (Own w3 lo w3.heap.size 3 1 (some ⟨g, 0, none⟩) l.length c' (ni l)) := (HO.out.keepB hb3 (Nat.le_refl _)).mono (Nat.le_refl _) hb3.size
    have HB3 : Hid (Below w.heap.size w w3) := HB.out.trans (hb3.mono (by omega))
    clear hS3 hb3 KE hd e0' e1' q1' q2' e0 e1 q1 q2
    cases he : edg (rw_ x) u h0
    · have hs2 : Hid (sea (rw_ x) m true 0 l = none) := by show _ = _; rw [Hs.out, hfin.out, he]; rfl
      clear he
      go_wp2
      go_ret2
      rw [hs2.out]
      unfold seaS
      exact ⟨_, _, _, rfl, fun h => absurd rfl h, HB3.out⟩
    · have hs2 : Hid (sea (rw_ x) m true 0 l = some l) := by show _ = _; rw [Hs.out, hfin.out, he]; rfl
      clear he
      go_wp2
      go_ret2
      rw [hs2.out]
      unfold seaS
      exact ⟨_, _, rfl, HO3.out, HB3.out⟩
end Go.Proofs.Ytccblehcemggjaa
