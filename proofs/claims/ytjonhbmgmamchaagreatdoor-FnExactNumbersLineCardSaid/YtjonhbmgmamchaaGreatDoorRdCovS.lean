/-
  Contracts: a cover by cliques: the reference's.
-/
import Derived.Test.YtjonhbmgmamchaaGreatDoorRdNumS
import Derived.Test.YtjonhbmgmamchaaGreatDoorRdBarS
import Derived.Test.YtjonhbmgmamchaaGreatDoorRdColI
namespace Go.Proofs.YtjonhbmgmamchaaGreatDoor
open Go.RowKit

/-- The list of the first k sets. -/
def cvK (X : List Nat) (m k : Nat) : List Nat := (List.range k).map fun c => ccK X c m
theorem cvK_succ {X : List Nat} {m k : Nat} : cvK X m (k + 1) = cvK X m k ++ [ccK X k m] := by unfold cvK; rw [List.range_succ, List.map_append]; rfl
theorem cvK_len {X : List Nat} {m k : Nat} : (cvK X m k).length = k := by unfold cvK; simp
section
variable {A : Option Addr} {m c : Nat} {r : Nat → Nat}
theorem ComplementOf_sv {w : World} (h : GV w A m c r) :
    Calls Tryz.prog 47 #[.agg #[.int .i64 m, .slice A m c]] w fun e w' => ∃ A' c', e = .returned (.tuple #[.agg #[.int .i64 m, .slice A' m c'], .bool true]) ∧ GV w' A' m c' (coR r m) ∧ Below w.heap.size w w' := by
  have hk := ComplementOf_s (m : Int) A m c _ w ⟨h.rd⟩ (by have := h.vg.n7; omega)
  rw [h.ok] at hk
  refine hk.mono ?_
  rintro e w' ⟨sz', A', m', c', rfl, h2, h3⟩
  obtain ⟨rfl, rfl, h4⟩ := h2 rfl
  rw [rw_cast] at h4
  exact ⟨A', c', rfl, h4, h3⟩

set_option maxRecDepth 100000 in
set_option maxHeartbeats 3200000 in
theorem CliqueCoverOf_sv {w : World} (h : GV w A m c r) :
    Calls Tryz.prog 16 #[.agg #[.int .i64 m, .slice A m c]] w fun e w' => ∃ A' c', e = .returned (.slice A' (cvL r m).length c') ∧ ON w.heap.size w' A' c' (cvL r m) ∧ Below w.heap.size w w' := by
  have hn7 := h.vg.n7
  have hn1 := h.vg.n1
  obtain ⟨hcm, _, _⟩ := chN_spec (r := coR r m) hn1
  have hpos := chN_pos (r := coR r m) (m := m)
  have hcol := coL_some (r := coR r m) hn1
  obtain ⟨hx1, hx2⟩ := cOf_len hcol
  obtain ⟨K, hK⟩ : ∃ K, K = chN (coR r m) m := ⟨_, rfl⟩
  have HCV : Hid (cvL r m = cvK (coL (coR r m) m) m K) := by rw [hK]; exact rfl
  have KC : Hid (∀ {A' : Option Addr} {c' : Nat} {z : World}, GV z A' m c' (coR r m) → Calls Tryz.prog 13 #[.agg #[.int .i64 m, .slice A' m c']] z fun e w' => e = .returned (.int .i64 (K : Nat)) ∧ Below z.heap.size z w') := by rw [hK]; exact fun h => ChromaticNumber_sv h
  rw [← hK] at hcm hpos hcol hx2
  have hcolb : cOf (coR r m) m K = some (coL (coR r m) m) := hcol
  obtain ⟨X, hX⟩ : ∃ X, X = coL (coR r m) m := ⟨_, rfl⟩
  rw [← hX] at hx1 hx2 hcolb HCV
  have HX1 := Lib.hid hx1
  have HC := Lib.hid hcolb
  clear hK hcol hcolb hX hx2
  obtain ⟨W, hW⟩ : ∃ W : World, W = ((w.alloc (Obj.cells #[Value.int IntKind.i64 m, Value.slice A m c] 27)).alloc (Obj.cells #[] 3)) := ⟨_, rfl⟩
  have HB : Hid (From w W) := by rw [hW]; exact (From.alloc _ _).alloc_ _
  have HG : Hid (GBox W w.heap.size A m c r) := by rw [hW]; exact h.box.keep ((Below.refl _ _).alloc (Nat.le_refl _) _)
  have HO : Hid (ON (w.heap.size + 1) W (some ⟨w.heap.size + 1, 0, none⟩) 0 (cvK X m 0)) := by
    rw [hW]
    have := ON.nil (w.alloc (Obj.cells #[Value.int IntKind.i64 m, Value.slice A m c] 27))
    have e : (w.alloc (Obj.cells #[Value.int IntKind.i64 m, Value.slice A m c] 27)).heap.size = w.heap.size + 1 := by simp
    rw [e] at this
    exact this
  have hzW : W.heap.size = w.heap.size + 2 := by rw [hW]; simp
  have HW := Lib.hid hW
  clear hW h
  go_enter Tryz.func16, Tryz.ntmps16
  have e0 := HG.out.c0
  have e1 := HG.out.c1
  go_wp2_with fail
  rw [← HW.out]
  refine (ComplementOf_sv HG.out.gv).mono ?_
  rintro e w1 ⟨A2, c2, rfl, hG2, hb1⟩
  have hz1 := hb1.size
  clear HW
  clear e0 e1
  replace HB := Lib.hid (HB.out.keep hb1)
  replace HG := Lib.hid (HG.out.keep hb1)
  replace HO := Lib.hid (HO.out.keep hb1)
  clear hb1
  have e0 := HG.out.c0
  have e1 := HG.out.c1
  obtain ⟨W2, hW2⟩ : ∃ W2 : World, W2 = (w1.alloc (Obj.cells #[Value.int IntKind.i64 m, Value.slice A2 m c2] 27)) := ⟨_, rfl⟩
  have hb2 : Below w1.heap.size w1 W2 := by rw [hW2]; exact (Below.refl _ _).alloc (Nat.le_refl _) _
  have HG2 : Hid (GV W2 A2 m c2 (coR r m)) := hG2.keep hb2
  have HQ : Hid (GC W2 w1.heap.size m A2 m c2) := by rw [hW2]; exact GC.new _ _ _ _ _
  clear e0 e1
  replace HB := Lib.hid (HB.out.keep hb2)
  replace HG := Lib.hid (HG.out.keep hb2)
  replace HO := Lib.hid (HO.out.keep hb2)
  have e0 := HG.out.c0
  have e1 := HG.out.c1
  have HW2 := Lib.hid hW2
  clear hW2 hb2 hG2
  go_wp2_with fail
  rw [← HW2.out]
  clear HW2
  clear e0 e1
  have e0 := HG.out.c0
  have e1 := HG.out.c1
  have d0 := HQ.out.c0
  have d1 := HQ.out.c1
  have hq2 := HQ.out.lt
  refine (KC.out HG2.out).mono ?_
  rintro e w3 ⟨rfl, hb3⟩
  have hzb3 := hb3.size
  clear e0 e1 d0 d1
  replace HB := Lib.hid (HB.out.keep hb3)
  replace HG := Lib.hid (HG.out.keep hb3)
  replace HO := Lib.hid (HO.out.keep hb3)
  replace HQ := Lib.hid (HQ.out.keep hb3)
  replace HG2 := Lib.hid (HG2.out.keep hb3)
  clear hb3
  have e0 := HG.out.c0
  have e1 := HG.out.c1
  have d0 := HQ.out.c0
  have d1 := HQ.out.c1
  go_wp2_with fail
  refine (ColoringWith_sv HG2.out hpos (by omega)).mono ?_
  rintro e w5 ⟨A5, n5, c5, rfl, hx5, hb5⟩
  obtain ⟨rfl, hon⟩ := hx5 X HC.out
  have hz3 : w.heap.size + 2 ≤ w3.heap.size := by omega
  have HX5 : Hid (ON w3.heap.size w5 A5 c5 X) := hon
  clear e0 e1 d0 d1
  replace HB := Lib.hid (HB.out.keep hb5)
  replace HG := Lib.hid (HG.out.keep hb5)
  replace HO := Lib.hid (HO.out.keep hb5)
  replace HQ := Lib.hid (HQ.out.keep hb5)
  replace HG2 := Lib.hid (HG2.out.keep hb5)
  clear hb5 hx5 hon
  have e0 := HG.out.c0
  have e1 := HG.out.c1
  have d0 := HQ.out.c0
  have d1 := HQ.out.c1
  clear HQ HG2 d0 d1
  have HR0 : Hid (From w5 w5) := From.refl w5
  have hz5 : w.heap.size + 1 ≤ w5.heap.size := HG.out.lt
  have HO5 := HO
  go_wp2
  go_loopw [3, 9] (fun out iv wr => ∃ (k g c6 : Nat), k ≤ K ∧ out = .slice (some ⟨g, 0, none⟩) (cvK X m k).length c6 ∧ iv = .int .i64 k ∧ (g = w.heap.size + 1 ∨ w5.heap.size ≤ g) ∧ Hid (ON (w.heap.size + 1) wr (some ⟨g, 0, none⟩) c6 (cvK X m k)) ∧ Hid (Fr (w.heap.size + 1) (w.heap.size + 2) w5 wr)) (fun _ iv _ => K - (intOf iv).toNat)
  case atStart => exact ⟨0, w.heap.size + 1, 0, Nat.zero_le _, rfl, rfl, .inl rfl, HO5, Fr.refl _ _ _⟩
  case round =>
    clear HO5 HR0 e0 e1
    obtain ⟨k, g6, c6, hk, rfl, rfl, hg6, HO6, HBr⟩ := hrel
    have hz6 := HBr.out.size
    by_cases hkK : k < K
    · have i1 : (k : Int) < (K : Int) := by omega
      go_wp2
      go_loop [10, 11] (fun s i => ∃ v : Nat, v ≤ m ∧ i = .int .i64 v ∧ s = .int .i64 (ccK X k v : Nat)) (fun _ i => m - (intOf i).toNat)
      case atStart => exact ⟨0, Nat.zero_le _, rfl, rfl⟩
      case round =>
        obtain ⟨v, hv, rfl, rfl⟩ := hrel
        have e0 : wr.cell? ⟨w.heap.size, 0, none⟩ = some (.int .i64 m) := frC_ HBr.out HG.out.c0 HG.out.lt (.inl (Nat.lt_succ_self _))
        by_cases hvm : v < m
        · have hlt : v < X.length := by omega
          have HXr : Hid (LN wr A5 c5 X) := ⟨((HX5.out.own.keep HBr.out (.inr hz3)).mono (Nat.le_refl _) HBr.out.size).rd⟩
          obtain ⟨b5, o5, rfl⟩ := HXr.out.addr (by omega)
          have p0 := HXr.out.at hlt
          obtain ⟨y, hy⟩ : ∃ y, y = X[v] := ⟨_, rfl⟩
          rw [← hy] at p0
          have hy2 : X.getD v 0 = y := by rw [hy]; simp [List.getD, hlt]
          have hcl := ccK_lt (l := X) (c := k) v
          have h2v := two_pow_le (n := v) (by omega)
          obtain ⟨z, hz⟩ : ∃ z, z = 2 ^ v := ⟨_, rfl⟩
          have p1 : IntKind.i64.wrap ((2 : Int) ^ v) = (z : Int) := by rw [pow_shl v (by omega), hz]; simp
          have i2 : (v : Int) < (X.length : Int) := by omega
          have i3 : (v : Int) < (m : Int) := by omega
          have hst : ccK X k (v + 1) = if y = k then ccK X k v ||| 2 ^ v else ccK X k v := by rw [← hy2]; rfl
          by_cases hyk : y = k
          · have Hst : Hid (ccK X k (v + 1) = ccK X k v + z) := by show _ = _; rw [hst, if_pos hyk, ccK_add, hz]
            have d1 : ((y : Int) == (k : Int)) = true := by simp; omega
            obtain ⟨cc, hcc⟩ : ∃ cc, cc = ccK X k v := ⟨_, rfl⟩
            rw [← hcc] at Hst hcl ⊢
            have s1 : wrap64 ((cc : Int) + (z : Int)) = ((cc + z : Nat) : Int) := by rw [Go.IntWalk.wrap64_in _ (by omega)]; simp
            clear hst hyk hy hy2 hcl h2v hz hcc
            go_wp2
            go_round
            case rel => exact ⟨v + 1, by omega, by go_num, by rw [Hst.out]; first | rfl | exact congrArg (Value.int .i64) s1⟩
            case measure => (simp [intOf] <;> omega)
          · have Hst : Hid (ccK X k (v + 1) = ccK X k v) := by show _ = _; rw [hst, if_neg hyk]
            have d1 : ((y : Int) == (k : Int)) = false := by simp; omega
            clear hst hyk hy hy2 hcl h2v hz p1
            go_wp2
            go_round
            case rel => exact ⟨v + 1, by omega, by go_num, by rw [Hst.out]⟩
            case measure => (simp [intOf] <;> omega)
        · obtain rfl : m = v := by omega
          obtain ⟨sv, hsv⟩ : ∃ sv, sv = ccK X k m := ⟨_, rfl⟩
          rw [← hsv]
          have Hsv := Lib.hid hsv
          have Hlen : Hid ((cvK X m k).length = k) := cvK_len
          clear hsv
          go_wp2_with (first | (at_builtin; (refine wpList_pushT wr rfl _ _ rfl (w.heap.size + 1) g6 c6 (cvK X m k) HO6.out.own (by omega) sv rfl 1 wr.heap.size rfl rfl (by rw [Hlen.out]; omega) ?_; intro g cap w6 hOa hba hka hga)))
          have H5 : Hid (ON (w.heap.size + 1) w6 (some ⟨g, 0, none⟩) cap (cvK X m (k + 1))) := ⟨by rw [cvK_succ, List.length_append, ← Hsv.out]; exact hOa⟩
          have H6 : Hid (Fr (w.heap.size + 1) (w.heap.size + 2) w5 w6) := ⟨hba.os.trans HBr.out.os, hba.tape.trans HBr.out.tape, hba.output.trans HBr.out.output, Nat.le_trans hz6 hba.size, fun i hi ho => (hka i (by omega) (by omega)).trans (HBr.out.block i hi ho)⟩
          have hg' : g = w.heap.size + 1 ∨ w5.heap.size ≤ g := by omega
          have Hlen2 : Hid ((cvK X m (k + 1)).length = (cvK X m k).length + 1) := by show _ = _; rw [cvK_len, cvK_len]
          clear hOa hba hka hga
          go_roundw
          case rel => exact ⟨k + 1, g, cap, by omega, by rw [Hlen2.out], by go_num, hg', H5, H6⟩
          case measure => (simp [intOf] <;> omega)
    · obtain rfl : K = k := by omega
      have HBz : Hid (Below w.heap.size w wr) := HB.out.below.trans (HBr.out.below (by omega) HB.out.below.size)
      have Hl : Hid ((cvL r m).length = K) := by show _ = _; rw [HCV.out, cvK_len]
      go_wp2
      go_ret
      exact ⟨some ⟨g6, 0, none⟩, c6, by rw [HCV.out]; rfl, by rw [HCV.out]; exact HO6.out.mono (by omega), HBz.out⟩
end
end Go.Proofs.YtjonhbmgmamchaaGreatDoor
