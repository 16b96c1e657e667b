/-
  Contracts: the numbers of neighbours of both programs.
-/
import Derived.Test.YtppkokgiojcgbaaDoorQzDgP
import Derived.Test.YtppkokgiojcgbaaDoorQzDifI
import Derived.Test.YtppkokgiojcgbaaDoorQzRev
import Derived.Test.YtppkokgiojcgbaaDoorQzSrtS
import Derived.Test.YtppkokgiojcgbaaDoorQzCloI
namespace Go.Proofs.YtppkokgiojcgbaaDoor
open Go.RowKit Go.Sort

/-- A row of numbers that another routine has written is a list. -/
theorem holds_ln {w : World} {g c : Nat} {L : List Nat} {zs : List Int} (h : Holds (Value.int .i64) w g 0 zs.toArray) (hz : zs = L.map fun n : Nat => (n : Int)) (hc : L.length ≤ c) (hg : g < w.heap.size) : LN w (some ⟨g, 0, none⟩) c L :=
  ⟨⟨hc, fun _ => ⟨g, 0, rfl, hg, fun j hj => by
    have h1 := (h j (by rw [hz]; simpa using hj)).1
    rw [h1, hz]
    simp [List.getD, hj]⟩⟩⟩

set_option maxRecDepth 100000 in
set_option maxHeartbeats 3200000 in
theorem DegreesOf_v {A : Option Addr} {m c : Nat} {r : Nat → Nat} {w : World} (h : GV w A m c r) :
    Calls Tryd.prog 23 #[.agg #[.int .i64 m, .slice A m c]] w fun e w' => ∃ A' c', e = .returned (.slice A' m c') ∧ ON w.heap.size w' A' c' (dgL r m) ∧ Below w.heap.size w w' := by
  have hn7 := h.vg.n7
  have hn1 := h.vg.n1
  have HV := Lib.hid h.vg
  obtain ⟨b0, o0, rfl⟩ := h.addr
  obtain ⟨W0, hW0⟩ : ∃ W0 : World, W0 = (w.alloc (Obj.cells #[Value.int IntKind.i64 m, Value.slice (some ⟨b0, o0, none⟩) m c] 27)) := ⟨_, rfl⟩
  have HB0 : Hid (From w W0) := by rw [hW0]; exact From.alloc _ _
  have HG0 : Hid (GBox W0 w.heap.size (some ⟨b0, o0, none⟩) m c r) := by rw [hW0]; exact h.box
  obtain ⟨W, hW⟩ : ∃ W : World, W = W0.alloc (Obj.cells #[] 3) := ⟨_, rfl⟩
  have HR : Hid (From W0 W) := by rw [hW]; exact From.alloc _ _
  have HO : Hid (ON W0.heap.size W (some ⟨W0.heap.size, 0, none⟩) 0 []) := by rw [hW]; exact ON.nil W0
  have HG := Lib.hid (HG0.out.keep HR.out.below)
  have HZ0 : Hid (w.heap.size + 1 = W0.heap.size) := by rw [hW0]; simp [Hid]
  have HW := Lib.hid hW
  have HW0 := Lib.hid hW0
  clear hW hW0 h
  go_enter Tryd.func23, Tryd.ntmps23
  go_wp2_with fail
  rw [← HW0.out, ← HW.out]
  clear HW HW0
  have e0 := HG.out.c0
  have e1 := HG.out.c1
  refine (IsGraph_v HG.out.gv).mono ?_
  rintro e w1 ⟨rfl, hb1⟩
  clear e0 e1
  replace HR := Lib.hid (HR.out.keep hb1)
  replace HO := Lib.hid (HO.out.keep hb1)
  replace HG := Lib.hid (HG.out.keep hb1)
  clear hb1
  have e0 := HG.out.c0
  have e1 := HG.out.c1
  have HO1 : Hid (ON W0.heap.size w1 (some ⟨W0.heap.size, 0, none⟩) 0 (dgK r 0)) := HO.out
  have Hl1 : Hid ((dgK r 0).length = 0) := rfl
  have HRa := HR
  clear HO HR
  go_wp2
  go_loopw [3, 14] (fun l i wr => ∃ (k : Nat) (A' : Option Addr) (c' : Nat), k ≤ m ∧ i = .int .i64 k ∧ l = .slice A' (dgK r k).length c' ∧ Hid (ON W0.heap.size wr A' c' (dgK r k)) ∧ Hid (From W0 wr)) (fun _ i _ => m - (intOf i).toNat)
  case atStart => exact ⟨0, _, 0, Nat.zero_le _, rfl, by rw [Hl1.out, HZ0.out], HO1, HRa⟩
  case round =>
    clear HO1 Hl1 HRa e0 e1
    obtain ⟨k, A', c', hk, rfl, rfl, HO, HR⟩ := hrel
    have HG := Lib.hid (HG0.out.keep HR.out.below)
    have hl := dgK_len r k
    by_cases hlt : k < m
    · have i1 : (k : Int) < (m : Int) := by omega
      have q0 := HG.out.gv.row hlt
      have hr := HV.out.lt128 hlt
      have Hn := Lib.hid (dgK_succ r k)
      obtain ⟨x, hx⟩ : ∃ x, x = r k := ⟨_, rfl⟩
      rw [← hx] at q0 hr Hn
      obtain ⟨T, hT⟩ : ∃ T, T = dgK r k := ⟨_, rfl⟩
      rw [← hT] at Hn HO hl ⊢
      have KC : Hid (Calls Tryd.prog 46 #[.int .i64 x] wr fun e w' => e = .returned (.int .i64 (cn x : Int)) ∧ Below wr.heap.size wr w') := CountSet_v x (by omega) wr
      obtain ⟨y, hy⟩ : ∃ y, y = cn x := ⟨_, rfl⟩
      rw [← hy] at KC Hn
      have HLn := Lib.hid hl
      have hTl : T.length ≤ 7 := by omega
      clear hx hT hy hl
      go_wp2_with fail
      refine KC.out.mono ?_
      rintro e w2 ⟨rfl, hb2⟩
      have HO2 := Lib.hid (HO.out.keep hb2)
      have HR2 : Hid (From W0 w2) := ⟨HR.out.below.trans (hb2.mono HR.out.below.size)⟩
      have hzr := HR2.out.below.size
      clear hb2 HO HR q0 KC
      go_wp2_with (first | (at_builtin; (refine wpList_pushN w2 rfl _ _ rfl W0.heap.size w2.heap.size A' c' T HO2.out.own hzr y rfl 1 w2.heap.size rfl rfl (by omega) ?_; intro g3 c3 w3 hO3 hb3)))
      have HOn : Hid (ON W0.heap.size w3 (some ⟨g3, 0, none⟩) c3 (T ++ [y])) := ⟨by rw [List.length_append]; exact hO3⟩
      have HRn : Hid (From W0 w3) := ⟨HR2.out.below.trans hb3⟩
      clear hO3 hb3
      go_roundw
      case rel => exact ⟨k + 1, _, _, by omega, by go_num, by rw [Hn.out, List.length_append]; rfl, by rw [Hn.out]; exact HOn, HRn⟩
      case measure => simp [intOf]; omega
    · have i1 : (m : Int) ≤ (k : Int) := by omega
      obtain rfl : k = m := by omega
      have HBw : Hid (From w wr) := HB0.out.up HR.out
      have hz0 := HB0.out.below.size
      have Hfin : Hid (dgL r k = (srt (dgK r k)).reverse) := rfl
      have KS := Lib.hid (sorted_n HO.out.ln (by rw [hl]; omega) (by rw [hl]; omega))
      obtain ⟨T, hT⟩ : ∃ T, T = dgK r k := ⟨_, rfl⟩
      have hm1 := srt_merge T
      have hl2 := srt_len T
      rw [← hT] at KS HO hl Hfin ⊢
      have Hm1 : Hid (((zl T).mergeSort fun x y => decide (x ≤ y)) = (srt T).map fun n : Nat => (n : Int)) := hm1
      have HLn := Lib.hid hl
      have Hl2 := Lib.hid hl2
      clear hT hm1 hl hl2
      go_wp2_with fail
      refine KS.out.mono ?_
      rintro e w2 ⟨g2, c2, hg2, rfl, hc2, hH2, hb2⟩
      have hl := HLn.out
      have hl2 := Hl2.out
      have hg2w : g2 < w2.heap.size := World.block_lt_of_cell? _ _ (hH2 0 (by simp [zl_len]; omega)).1
      have HL2 : Hid (LN w2 (some ⟨g2, 0, none⟩) c2 (srt T)) := holds_ln hH2 Hm1.out (by omega) hg2w
      have KR := Lib.hid (reversed_i (some ⟨g2, 0, none⟩) c2 (srt T) w2 HL2.out (fun h => by rw [h] at hl2; simp at hl2; omega) (by omega))
      have HB2 : Hid (From w w2) := ⟨HBw.out.below.trans (hb2.mono HBw.out.below.size)⟩
      have hz2 := HB2.out.below.size
      rw [hl2] at KR
      clear hH2 hb2 KS HL2 hl hl2
      go_wp2_with fail
      refine KR.out.mono ?_
      rintro e w3 ⟨A3, c3, rfl, hO3, hb3⟩
      have HO3 : Hid (ON w.heap.size w3 A3 c3 (dgL r k)) := by rw [Hfin.out]; exact hO3.mono hz2
      have HB3 : Hid (Below w.heap.size w w3) := HB2.out.below.trans (hb3.mono hz2)
      clear hO3 hb3 KR
      go_wp2
      go_ret
      exact ⟨A3, c3, by (rw [HLn.out] <;> rfl), HO3.out, HB3.out⟩

set_option maxRecDepth 100000 in
set_option maxHeartbeats 3200000 in
theorem DegreesOf_sv {A : Option Addr} {m c : Nat} {r : Nat → Nat} {w : World} (h : GV w A m c r) :
    Calls Tryd.prog 13 #[.agg #[.int .i64 m, .slice A m c]] w fun e w' => ∃ A' c', e = .returned (.slice A' m c') ∧ ON w.heap.size w' A' c' (dgL r m) ∧ Below w.heap.size w w' := by
  have hn7 := h.vg.n7
  have hn1 := h.vg.n1
  have HV := Lib.hid h.vg
  obtain ⟨b0, o0, rfl⟩ := h.addr
  obtain ⟨W0, hW0⟩ : ∃ W0 : World, W0 = (w.alloc (Obj.cells #[Value.int IntKind.i64 m, Value.slice (some ⟨b0, o0, none⟩) m c] 27)) := ⟨_, rfl⟩
  have HB0 : Hid (From w W0) := by rw [hW0]; exact From.alloc _ _
  have HG0 : Hid (GBox W0 w.heap.size (some ⟨b0, o0, none⟩) m c r) := by rw [hW0]; exact h.box
  obtain ⟨W, hW⟩ : ∃ W : World, W = W0.alloc (Obj.cells #[] 3) := ⟨_, rfl⟩
  have HRa : Hid (From W0 W) := by rw [hW]; exact From.alloc _ _
  have HO1 : Hid (ON W0.heap.size W (some ⟨W0.heap.size, 0, none⟩) 0 (dgK r 0)) := by rw [hW]; exact ON.nil W0
  have Hl1 : Hid ((dgK r 0).length = 0) := rfl
  have HZ0 : Hid (w.heap.size + 1 = W0.heap.size) := by rw [hW0]; simp [Hid]
  have HW := Lib.hid hW
  have HW0 := Lib.hid hW0
  clear hW hW0 h
  go_enter Tryd.func13, Tryd.ntmps13
  go_wp2
  rw [← HW0.out, ← HW.out]
  clear HW HW0
  go_loopw [3, 4] (fun l i wr => ∃ (k : Nat) (A' : Option Addr) (c' : Nat), k ≤ m ∧ i = .int .i64 k ∧ l = .slice A' (dgK r k).length c' ∧ Hid (ON W0.heap.size wr A' c' (dgK r k)) ∧ Hid (From W0 wr)) (fun _ i _ => m - (intOf i).toNat)
  case atStart => exact ⟨0, _, 0, Nat.zero_le _, rfl, by rw [Hl1.out, HZ0.out], HO1, HRa⟩
  case round =>
    clear HO1 Hl1 HRa
    obtain ⟨k, A', c', hk, rfl, rfl, HO, HR⟩ := hrel
    have HG := Lib.hid (HG0.out.keep HR.out.below)
    have hl := dgK_len r k
    by_cases hlt : k < m
    · have i1 : (k : Int) < (m : Int) := by omega
      have hr := HV.out.lt128 hlt
      have Hn := Lib.hid (dgK_succ r k)
      obtain ⟨x, hx⟩ : ∃ x, x = r k := ⟨_, rfl⟩
      have HX := Lib.hid hx
      rw [← hx] at hr Hn
      obtain ⟨T, hT⟩ : ∃ T, T = dgK r k := ⟨_, rfl⟩
      rw [← hT] at Hn HO hl ⊢
      have KC : Hid (∀ z : World, Calls Tryd.prog 33 #[.int .i64 x] z fun e w' => e = .returned (.int .i64 (cn x : Int)) ∧ Below z.heap.size z w') := fun z => CountSet_sv x (by omega) z
      obtain ⟨y, hy⟩ : ∃ y, y = cn x := ⟨_, rfl⟩
      rw [← hy] at KC Hn
      have HLn := Lib.hid hl
      have hTl : T.length ≤ 7 := by omega
      clear hx hT hy hl
      have e0 := HG.out.c0
      have e1 := HG.out.c1
      go_wp2_with fail
      refine (IsGraph_sv HG.out.gv).mono ?_
      rintro e w1 ⟨rfl, hb1⟩
      clear e0 e1
      replace HO := Lib.hid (HO.out.keep hb1)
      replace HR := Lib.hid (HR.out.keep hb1)
      replace HG := Lib.hid (HG.out.keep hb1)
      clear hb1
      have e0 := HG.out.c0
      have e1 := HG.out.c1
      have q0 := HG.out.gv.row hlt
      rw [← HX.out] at q0
      go_wp2_with fail
      refine (KC.out w1).mono ?_
      rintro e w2 ⟨rfl, hb2⟩
      have HO2 := Lib.hid (HO.out.keep hb2)
      have HR2 : Hid (From W0 w2) := ⟨HR.out.below.trans (hb2.mono HR.out.below.size)⟩
      have hzr := HR2.out.below.size
      clear hb2 HO HR q0 KC e0 e1
      go_wp2_with (first | (at_builtin; (refine wpList_pushN w2 rfl _ _ rfl W0.heap.size w2.heap.size A' c' T HO2.out.own hzr y rfl 1 w2.heap.size rfl rfl (by omega) ?_; intro g3 c3 w3 hO3 hb3)))
      have HOn : Hid (ON W0.heap.size w3 (some ⟨g3, 0, none⟩) c3 (T ++ [y])) := ⟨by rw [List.length_append]; exact hO3⟩
      have HRn : Hid (From W0 w3) := ⟨HR2.out.below.trans hb3⟩
      clear hO3 hb3
      go_roundw
      case rel => exact ⟨k + 1, _, _, by omega, by go_num, by rw [Hn.out, List.length_append]; rfl, by rw [Hn.out]; exact HOn, HRn⟩
      case measure => simp [intOf]; omega
    · have i1 : (m : Int) ≤ (k : Int) := by omega
      obtain rfl : k = m := by omega
      have e0 := HG.out.c0
      have HBw : Hid (From w wr) := HB0.out.up HR.out
      have hz0 := HB0.out.below.size
      have Hfin : Hid (dgL r k = (srt (dgK r k)).reverse) := rfl
      have KS := Lib.hid (l8Sorted_s A' c' (dgK r k) wr HO.out.ln (by rw [hl]; omega))
      obtain ⟨T, hT⟩ : ∃ T, T = dgK r k := ⟨_, rfl⟩
      have hl2 := srt_len T
      rw [← hT] at KS HO hl Hfin ⊢
      have HLn := Lib.hid hl
      have Hl2 := Lib.hid hl2
      clear hT hl hl2
      go_wp2_with fail
      refine KS.out.mono ?_
      rintro e w2 ⟨A2, c2, rfl, hO2, hb2⟩
      have hl := HLn.out
      have hl2 := Hl2.out
      have KR := Lib.hid (l6Reverse_s A2 c2 (srt T) w2 hO2.ln (fun h => by rw [h] at hl2; simp at hl2; omega) (by omega))
      have HB2 : Hid (From w w2) := ⟨HBw.out.below.trans (hb2.mono HBw.out.below.size)⟩
      have hz2 := HB2.out.below.size
      rw [hl2] at KR
      clear hO2 hb2 KS hl hl2
      go_wp2_with fail
      refine KR.out.mono ?_
      rintro e w3 ⟨A3, c3, rfl, hO3, hb3⟩
      have HO3 : Hid (ON w.heap.size w3 A3 c3 (dgL r k)) := by rw [Hfin.out]; exact hO3.mono hz2
      have HB3 : Hid (Below w.heap.size w w3) := HB2.out.below.trans (hb3.mono hz2)
      clear hO3 hb3 KR
      go_wp2
      go_ret
      exact ⟨A3, c3, by (rw [HLn.out] <;> rfl), HO3.out, HB3.out⟩
end Go.Proofs.YtppkokgiojcgbaaDoor
