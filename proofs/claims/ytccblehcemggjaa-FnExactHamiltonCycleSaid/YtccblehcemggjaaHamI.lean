/-
  Contracts: is a list a way? a list's copy; a list and one vertex more: the program's.
-/
import Derived.Test.YtccblehcemggjaaHam
import Derived.ArgAppend
namespace Go.Proofs.Ytccblehcemggjaa
open Go.RowKit

/-- The tests of the edges, as far as they have been made. -/
theorem way_no {r : Nat → Nat} {l : List Nat} {i : Nat} (hi : i + 1 < l.length) (h : edg r (l.getD i 0) (l.getD (i + 1) 0) = false) : wayB r l = false := by
  unfold wayB
  have : ((List.range (l.length - 1)).all fun i => edg r (l.getD i 0) (l.getD (i + 1) 0)) = false := by
    rw [List.all_eq_false]
    exact ⟨i, by simp; omega, by show ¬ _ = true; rw [h]; simp⟩
  rw [this, Bool.and_false]
theorem way_yes {r : Nat → Nat} {l : List Nat} (h0 : l ≠ []) (hn : l.Nodup) (h : ∀ i, i + 1 < l.length → edg r (l.getD i 0) (l.getD (i + 1) 0) = true) : wayB r l = true := by
  unfold wayB
  have : ((List.range (l.length - 1)).all fun i => edg r (l.getD i 0) (l.getD (i + 1) 0)) = true := by
    rw [List.all_eq_true]
    intro i hi
    exact h i (by have := List.mem_range.1 hi; omega)
  rw [this, decide_eq_true hn]
  cases l
  · exact absurd rfl h0
  · rfl
theorem way_dup {r : Nat → Nat} {l : List Nat} (hn : ¬ l.Nodup) : wayB r l = false := by unfold wayB; rw [decide_eq_false hn]; simp

set_option maxHeartbeats 1600000 in
theorem IsWay_i (m : Nat) (A : Option Addr) (c : Nat) (x : Nat → Int) (Al : Option Addr) (nl cl : Nat) (l : List Nat) (w : World) (B : Nat) (h : Rd w B A m c x) (hl : RdN w B Al nl cl l) (hB : B ≤ w.heap.size) (hok : okB m m x = true) (hlen : l.length ≤ 7) (h0 : l ≠ []) (hall : ∀ v ∈ l, v < m) :
    Calls Try.prog 95 #[.agg #[.int .i64 m, .slice A m c], .slice Al nl cl] w fun e w' => e = .returned (.bool (wayB (rw_ x) l)) ∧ Below w.heap.size w w' := by
  obtain ⟨vg, hx⟩ := okB_vg hok
  have hn1 := vg.n1
  have hn7 := vg.n7
  obtain ⟨W, hW⟩ : ∃ W : World, W = (w.alloc (Obj.cells #[Value.int IntKind.i64 m, Value.slice A m c] 42)) := ⟨_, rfl⟩
  have HB : Hid (Below w.heap.size w W) := by rw [hW]; exact ((Below.refl _ _).alloc (Nat.le_refl _) _)
  have a0 : w.heap.size < W.heap.size := by rw [hW]; simp
  have e0 : W.cell? ⟨w.heap.size, 0, none⟩ = some (.int .i64 m) := by rw [hW]; simp [go_sem]
  have e1 : W.cell? ⟨w.heap.size, 1, none⟩ = some (.slice A m c) := by rw [hW]; simp [go_sem]
  have HK := Lib.hid (h.keep (HB.out.mono hB) (Nat.le_refl _))
  obtain ⟨hnl, hl2⟩ := hl
  have HL : Hid (RdN W B Al nl cl l) := ⟨hnl, hl2.keep (HB.out.mono hB) (Nat.le_refl _)⟩
  have HW := Lib.hid hW
  have Hok := Lib.hid hok
  have HX := Lib.hid hx
  have HV := Lib.hid vg
  have Hall := Lib.hid hall
  have hpos : 0 < l.length := List.length_pos_iff.2 h0
  have H0 := Lib.hid h0
  subst hnl
  have hne : ((l.length : Int) == 0) = false := by simp; omega
  clear hW h hl2 hok vg hall hx h0
  go_enter Try.func95, Try.ntmps95
  go_wp2_with fail
  rw [← HW.out]
  clear HW
  refine (areVertices_i m A c x Al l.length cl l W B HK.out HL.out (by omega) Hok.out hlen Hall.out).mono ?_
  rintro e w1 ⟨rfl, hb1⟩
  have z1 := hb1.size
  have f1 := up hb1 e1 a0
  have a1 : w.heap.size < w1.heap.size := by omega
  have HB1 : Hid (Below w.heap.size w w1) := HB.out.trans (hb1.mono (by omega))
  have HK1 : Hid (Rd w1 B A m c x) := HK.out.keep (hb1.mono (by omega)) (Nat.le_refl _)
  have HL1 : Hid (Rd w1 B Al l.length cl (fun j => ((l.getD j 0 : Nat) : Int))) := HL.out.2.keep (hb1.mono (by omega)) (Nat.le_refl _)
  clear hb1 e0 e1 HK HL
  by_cases hnd : l.Nodup
  · rw [decide_eq_true hnd]
    have Hnd := Lib.hid hnd
    obtain ⟨b, o, rfl, hb, hc⟩ := HK1.out.pos (by omega)
    obtain ⟨bl, ol, rfl, hbl, hcl⟩ := HL1.out.pos (by omega)
    have HC := Lib.hid hc
    have HCL := Lib.hid hcl
    clear hnd hc hcl
    go_wp2
    go_loopw [5] (fun i wr => ∃ k : Nat, 1 ≤ k ∧ k ≤ l.length ∧ i = .int .i64 k ∧ Hid (∀ i, i + 1 < k → edg (rw_ x) (l.getD i 0) (l.getD (i + 1) 0) = true) ∧ Hid (Below w1.heap.size w1 wr)) (fun i _ => l.length - (intOf i).toNat)
    case atStart => exact ⟨1, Nat.le_refl _, by omega, by go_num, (fun i hi => absurd hi (by omega)), Below.refl _ _⟩
    case round =>
      obtain ⟨k, hk1, hk, rfl, hall, hbr⟩ := hrel
      have zr := hbr.out.size
      by_cases hlt : k < l.length
      · obtain ⟨j, rfl⟩ : ∃ j, k = j + 1 := ⟨k - 1, by omega⟩
        obtain ⟨u, hu⟩ : ∃ u, u = l.getD j 0 := ⟨_, rfl⟩
        obtain ⟨v, hv⟩ : ∃ v, v = l.getD (j + 1) 0 := ⟨_, rfl⟩
        have hum : u < m := by rw [hu]; have : j < l.length := by omega
                               simpa [List.getD, this] using Hall.out _ (List.getElem_mem this)
        have hvm : v < m := by rw [hv]; simpa [List.getD, hlt] using Hall.out _ (List.getElem_mem hlt)
        have q1 := up hbr.out f1 a1
        have q2 := (hbr.out.cell (p := ⟨bl, ol + j, none⟩) (by show bl < _; omega)).trans (HCL.out j (by omega))
        have q3 := (hbr.out.cell (p := ⟨bl, ol + (j + 1), none⟩) (by show bl < _; omega)).trans (HCL.out (j + 1) hlt)
        have q4 := (hbr.out.cell (p := ⟨b, o + u, none⟩) (by show b < _; omega)).trans (HC.out u hum)
        rw [← hu] at q2
        rw [← hv] at q3
        rw [HX.out u hum] at q4
        have hr128 := HV.out.lt128 hum
        have i1 : ((j + 1 : Nat) : Int) < (l.length : Int) := by omega
        have i2 : (u : Int) < (m : Int) := by omega
        have s1 : IntKind.i64.wrap (((j + 1 : Nat) : Int) - 1) = (j : Int) := by
          have : ((j + 1 : Nat) : Int) - 1 = (j : Int) := by omega
          rw [this]; exact Go.IntWalk.i64_in (j : Int) (by omega)
        have i3 : (j : Int) < (l.length : Int) := by omega
        have K1 : Hid (∀ w, Calls Try.prog 76 #[.int .i64 (rw_ x u : Int), .int .i64 v] w fun e w' => e = .returned (.bool (edg (rw_ x) u v)) ∧ w' = w) := fun w => (has_any (rw_ x u) v w (by omega) (by omega) (by omega) (by omega)).mono fun _ _ ⟨h1, h2⟩ => ⟨by rw [h1, Int.toNat_natCast, Int.toNat_natCast]; rfl, h2.symm⟩
        have Hu := Lib.hid hu
        have Hv := Lib.hid hv
        clear hu hv
        cases he : edg (rw_ x) u v
        · have hno : Hid (wayB (rw_ x) l = false) := way_no hlt (by rw [← Hu.out, ← Hv.out]; exact he)
          rw [he] at K1
          clear he
          go_wp2
          go_quiet (first | (go_at_call 76; with_reducible exact Calls.quiet_of_same (K1.out _)))
          go_wp2
          go_ret
          exact ⟨ret_bool hno.out.symm, HB1.out.trans ((below_drewN hbr.out _).mono (by omega))⟩
        · have He : Hid (edg (rw_ x) (l.getD j 0) (l.getD (j + 1) 0) = true) := by show _ = _; rw [← Hu.out, ← Hv.out]; exact he
          rw [he] at K1
          clear he
          go_wp2
          go_quiet (first | (go_at_call 76; with_reducible exact Calls.quiet_of_same (K1.out _)))
          go_wp2
          refine ⟨⟨j + 1 + 1, by omega, by omega, by go_num, fun i hi => ?_, below_drewN hbr.out _⟩, by simp [intOf] <;> omega⟩
          by_cases hij : i + 1 < j + 1
          · exact hall.out i hij
          · obtain rfl : i = j := by omega
            exact He.out
      · have hyes : Hid (wayB (rw_ x) l = true) := way_yes H0.out Hnd.out fun i hi => hall.out i (by omega)
        have i1 : (l.length : Int) ≤ (k : Int) := by omega
        go_wp2
        go_ret
        exact ⟨ret_bool hyes.out.symm, HB1.out.trans (hbr.out.mono (by omega))⟩
  · rw [decide_eq_false hnd]
    have hno : Hid (wayB (rw_ x) l = false) := way_dup hnd
    clear hnd
    go_wp2
    go_ret
    exact ⟨ret_bool hno.out.symm, HB1.out⟩

/-! ### a list and one vertex more -/
theorem wpList_moreN (W : World) {ops : Array Oper} {rest : List Oper} {o : Oper} {a : Act} {Q : Exit → Act → World → Prop} (hgd : o.guard = none) (s y : Operand)
    (ho : o.op = .call { callee := .builtin .append, args := #[s, y], argTypes := #[37, 37] })
    (B : Nat) (A : Option Addr) (l : List Nat) (hA : A = none → l = []) (h : Rd W B A l.length l.length (fun j => ((l.getD j 0 : Nat) : Int))) (hB : B ≤ W.heap.size) (k : Nat) (hs : a.eval s = .slice A l.length l.length) (cx H : Nat) (hH : W.heap.size = H) (hy : a.eval y = .slice (some ⟨H, 0, none⟩) 1 cx)
    (hn : l.length ≤ 1073741824)
    (hK : ∀ g cap w', Own w' W.heap.size w'.heap.size 3 1 (some ⟨g, 0, none⟩) (l.length + 1) cap (ni (l ++ [k])) → Below W.heap.size W w' → wpList Try.prog ops Q rest (a.put o.dst (.slice (some ⟨g, 0, none⟩) (l.length + 1) cap)) w') :
    wpList Try.prog ops Q (o :: rest) a (W.alloc (Obj.cells #[.int .i64 (k : Int)] 3)) := by
  subst hH
  obtain ⟨i, hi', hzz⟩ := Option.map_eq_some_iff.1 info_int
  simp only [Prod.mk.injEq] at hzz
  obtain ⟨hz, hsize, hbytes⟩ := hzz
  have hr := h.keep ((Below.refl B W).alloc hB (Obj.cells #[.int .i64 (k : Int)] 3)) (Nat.le_refl _)
  refine wpList_append_grows (P := Try.prog) _ hgd s y 37 ho 3 i _ 1 8 Try.underlying37 hi' hz hsize hbytes rfl (by omega) A l.length l.length ((List.range l.length).map fun j => .int .i64 ((l.getD j 0 : Nat) : Int)) hs (fun e => by have := hA e; subst this; exact ⟨rfl, rfl⟩) (by simp) ?_ ⟨W.heap.size, 0, none⟩ 1 cx [.int .i64 (k : Int)] hy rfl (World.news_of_block (heap_alloc_new W (Obj.cells #[.int .i64 (k : Int)] 3))) (by simp [Value.oneCell']) (by omega) (by unfold maxLen; omega) (by omega) ?_
  · intro b e j u hj
    have hlt : j < l.length := by
      have := (List.getElem?_eq_some_iff.1 hj).1
      simpa using this
    obtain ⟨b', o', e2, _, hc⟩ := hr.2 (by omega)
    rw [e] at e2
    simp only [Option.some.injEq] at e2
    subst e2
    have hadd : (⟨b', o', none⟩ : Addr).add j = ⟨b', o' + j, none⟩ := by unfold Addr.add; split <;> simp_all
    rw [hadd, hc j hlt]
    simpa [hlt] using hj
  · intro v' w' hrow hg
    obtain ⟨g, cap, rfl, hge, hlt⟩ := hrow.form (by omega)
    refine hK g cap w' ((Own.of_row hrow (fun j hj => ?_)).mono (by simp) (Nat.le_refl _)) (((Below.refl _ _).alloc (Nat.le_refl _) _).trans ((Below.refl _ _).grown hg (by simp) (fun k hk => by cases hk)))
    rw [List.getElem?_append]
    simp only [List.length_map, List.length_range]
    by_cases hj2 : j < l.length
    · rw [if_pos hj2, ni_left (by omega)]; unfold ni; simp [hj2]
    · rw [if_neg hj2]
      obtain rfl : j = l.length := by omega
      rw [Nat.sub_self]
      have := ni_news (l := l) (k := k) 0 (by omega)
      rw [Nat.mul_one, Nat.add_zero] at this
      exact this
end Go.Proofs.Ytccblehcemggjaa
