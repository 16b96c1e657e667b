/-
-/
import Derived.Test.YtdpkbfiggbcclaaGreatQmMdlP
import Derived.Test.YtdpkbfiggbcclaaGreatQmTwoS
import Derived.Test.YtdpkbfiggbcclaaGreatQmOrlS
import Derived.Test.YtdpkbfiggbcclaaGreatQmSplS
import Derived.Test.YtdpkbfiggbcclaaGreatQmSidS
import Derived.Test.YtdpkbfiggbcclaaGreatQmJoinS
namespace Go.Proofs.YtdpkbfiggbcclaaGreat
open Go.RowKit
set_option maxHeartbeats 3200000
section
variable (A : Option Addr) (m c : Nat) (r : Nat → Nat) (str : ByteArray) (w : World)
set_option maxRecDepth 100000 in
theorem mdl_s_chordal (h : GV w A m c r) (hs : str.toList = [99, 104, 111, 114, 100, 97, 108]) :
 Calls Tryz.prog 139 #[.agg #[.int .i64 m, .slice A m c], .string str] w (mrQ w (mdO r m str.toList)) := by
 obtain ⟨W, hW, HB, HG⟩ := gbW h;have HZ : Hid (w.heap.size ≤ W.heap.size) := HB.below.size;have HW := hh_ hW;have Hv : Hid (mdO r m str.toList = (redL (firstS r) (2 ^ m - 1)).map oneP) := by
  show _ = _;unfold mdO; rw [hs, if_pos rfl]
 obtain ⟨o, ho⟩ : ∃ o, o = redL (firstS r) (2 ^ m - 1) := ⟨_, rfl⟩;have KC : Hid (Calls Tryz.prog 178 #[.agg #[.int .i64 m, .slice A m c]] W (lsQ W o)) := by rw [ho]; have h1 := EliminationOf_sl (m : Int) A m c (fun v => (r v : Int)) W W.heap.size HG.gv.rd nr_ (by have := HG.gv.vg.n7; omega); rw [orG_yes HG.gv.ok, rw_cast] at h1; exact h1
 rw [← ho] at Hv;have f0 : (str.toList == [99, 104, 111, 114, 100, 97, 108]) = true := by rw [hs]; rfl
 have f1 : (str.toList == [105, 110, 116, 101, 114, 118, 97, 108]) = false := by rw [hs]; rfl
 have f2 : (str.toList == [112, 114, 111, 112, 101, 114]) = false := by rw [hs]; rfl
 have f3 : (str.toList == [99, 111, 103, 114, 97, 112, 104]) = false := by rw [hs]; rfl
 have f4 : (str.toList == [115, 112, 108, 105, 116]) = false := by rw [hs]; rfl
 have f5 : (str.toList == [116, 104, 114, 101, 115, 104, 111, 108, 100]) = false := by rw [hs]; rfl
 have f6 : (str.toList == [98, 105, 112, 97, 114, 116, 105, 116, 101]) = false := by rw [hs]; rfl
 have f7 : (str.toList == [115, 116, 114, 111, 110, 103]) = false := by rw [hs]; rfl
 clear hs;clear hW h ho;go_enter Tryz.func139, Tryz.ntmps139;obtain ⟨e0, e1⟩ := gx_ HG;go_wp2_with fail
 rw [← HW.out];refine (KC.out).mono ?_;rintro e w1 ⟨A1, c1, rfl, hL, hb1⟩;clear HW;clear e0 e1;obtain ⟨HB, HG, e0, e1⟩ := kG_ HB HG hb1;clear hb1;clear KC;go_wp2;go_ret3;rw [Hv.out];exact mrQ.ls2 hL HZ.out HB.below
set_option maxRecDepth 100000 in
theorem mdl_s_interval (h : GV w A m c r) (hs : str.toList = [105, 110, 116, 101, 114, 118, 97, 108]) :
 Calls Tryz.prog 139 #[.agg #[.int .i64 m, .slice A m c], .string str] w (mrQ w (mdO r m str.toList)) := by
 obtain ⟨W, hW, HB, HG⟩ := gbW h;have HZ : Hid (w.heap.size ≤ W.heap.size) := HB.below.size;have HW := hh_ hW;have Hv : Hid (mdO r m str.toList = ivO r m) := by
  show _ = _;unfold mdO; rw [hs, if_neg (by decide), if_pos rfl]
 have KC := hh_ (IntervalModelOf_sv HG.gv);have hsh : ∀ p, ivO r m = some p → short p := fun p hp => mdO_short h.vg.n7 (Hv.trans hp)
 obtain ⟨o, ho⟩ : ∃ o, o = ivO r m := ⟨_, rfl⟩;rw [← ho] at KC Hv hsh;obtain ⟨T, hT⟩ : ∃ T, T = (pG o).1 := ⟨_, rfl⟩;obtain ⟨U, hU⟩ : ∃ U, U = (pG o).2 := ⟨_, rfl⟩;have hTl : T.length ≤ 1000 := by
  rw [hT];cases o with
  | none => exact Nat.zero_le _
  | some p => exact Nat.le_trans (hsh p rfl).1 (by omega)
 have hUl : U.length ≤ 1000 := by
  rw [hU];cases o with
  | none => exact Nat.zero_le _
  | some p => exact Nat.le_trans (hsh p rfl).2 (by omega)
 obtain ⟨bb, hbb⟩ : ∃ bb, bb = o.isSome := ⟨_, rfl⟩;have KC2 : Hid (Calls Tryz.prog 270 #[.agg #[.int .i64 m, .slice A m c]] W fun e w' => ∃ A1 c1 A2 c2, e = .returned (.tuple #[.agg #[.slice A1 T.length c1, .slice A2 U.length c2], .bool bb]) ∧ TwoN w' W.heap.size A1 c1 T A2 c2 U ∧ Below W.heap.size W w') := by rw [hT, hU, hbb]; exact KC.out
 have HTU := hh_ (And.intro hT (And.intro hU hbb));have f0 : (str.toList == [99, 104, 111, 114, 100, 97, 108]) = false := by rw [hs]; rfl
 have f1 : (str.toList == [105, 110, 116, 101, 114, 118, 97, 108]) = true := by rw [hs]; rfl
 have f2 : (str.toList == [112, 114, 111, 112, 101, 114]) = false := by rw [hs]; rfl
 have f3 : (str.toList == [99, 111, 103, 114, 97, 112, 104]) = false := by rw [hs]; rfl
 have f4 : (str.toList == [115, 112, 108, 105, 116]) = false := by rw [hs]; rfl
 have f5 : (str.toList == [116, 104, 114, 101, 115, 104, 111, 108, 100]) = false := by rw [hs]; rfl
 have f6 : (str.toList == [98, 105, 112, 97, 114, 116, 105, 116, 101]) = false := by rw [hs]; rfl
 have f7 : (str.toList == [115, 116, 114, 111, 110, 103]) = false := by rw [hs]; rfl
 clear hs;clear hW h ho hT hU hbb KC hsh;go_enter Tryz.func139, Tryz.ntmps139;obtain ⟨e0, e1⟩ := gx_ HG;go_wp2_with fail
 rw [← HW.out];refine (KC2.out).mono ?_;rintro e w1 ⟨A1, c1, A2, c2, rfl, hX, hb1⟩;clear HW;clear e0 e1;obtain ⟨HB, HG, e0, e1⟩ := kG_ HB HG hb1;clear hb1;have HX := hh_ hX;clear KC2 hX e0 e1;go_wp2;obtain ⟨Y, hY⟩ : ∃ Y, Y = w1.alloc (Obj.cells #[.slice A1 T.length c1, .slice A2 U.length c2] 141) := ⟨_, rfl⟩;have hBY : Below w1.heap.size w1 Y := by rw [hY]; exact br_.alloc nr_ _
 have y0 : Y.cell? ⟨w1.heap.size, 0, none⟩ = some (.slice A1 T.length c1) := by rw [hY]; simp [go_sem]
 have y1 : Y.cell? ⟨w1.heap.size, 1, none⟩ = some (.slice A2 U.length c2) := by rw [hY]; simp [go_sem]
 have hzY : w1.heap.size < Y.heap.size := by rw [hY]; simp
 have hTN := HX.keep hBY;have HE0 := hh_ (HB.keep hBY).below;rw [← hY];have L1 : LN Y A1 c1 T := ⟨hTN.o1.rd⟩;have L2 : LN Y A2 c2 U := ⟨hTN.o2.rd⟩;have HL1 := hh_ L1;have HL2 := hh_ L2;have N1 : Hid (TwoN ((Y.alloc (Obj.cells #[] 3)).drew) Y.heap.size (some ⟨Y.heap.size, 0, none⟩) 0 [] none 0 []) := (((TwoN.nil Y Y.heap.size).addNew nr_).swap).drew;have N2 : Hid (TwoN (((Y.alloc (Obj.cells #[] 3)).alloc (Obj.cells #[] 3)).drew) Y.heap.size (some ⟨Y.heap.size, 0, none⟩) 0 [] (some ⟨Y.heap.size + 1, 0, none⟩) 0 []) := by
  have h1 := ((TwoN.nil Y Y.heap.size).addNew nr_).swap.addNew (by simp);have e : (Y.alloc (Obj.cells #[] 3)).heap.size = Y.heap.size + 1 := by simp
  rw [e] at h1;exact h1.drew
 have N3 : Hid (TwoN (((Y.alloc (Obj.cells #[] 3)).alloc (Obj.cells #[] 3)).drew) Y.heap.size (some ⟨Y.heap.size + 1, 0, none⟩) 0 [] (some ⟨Y.heap.size, 0, none⟩) 0 []) := N2.swap;have hy1 : Below Y.heap.size Y ((Y.alloc (Obj.cells #[] 3)).drew) := (br_.alloc nr_ _).drew;have hy2 : Below Y.heap.size Y (((Y.alloc (Obj.cells #[] 3)).alloc (Obj.cells #[] 3)).drew) := ((br_.alloc nr_ _).alloc (by simp) _).drew;have HY1 := hh_ hy1;have HY2 := hh_ hy2;have HSC : Hid (∀ z : World, Below Y.heap.size Y z → (Below Y.heap.size Y z ∧ z.cell? ⟨w1.heap.size, 0, none⟩ = some (.slice A1 T.length c1) ∧ z.cell? ⟨w1.heap.size, 1, none⟩ = some (.slice A2 U.length c2))) := fun z hz => ⟨hz, up hz y0 hzY, up hz y1 hzY⟩
 have HZ0 : Hid (Below Y.heap.size Y Y.drew) := br_.drew;clear hY hBY hTN L1 L2 hy1 hy2 y0 y1;go_region_held3 (fun z => Below Y.heap.size Y z ∧ z.cell? ⟨w1.heap.size, 0, none⟩ = some (.slice A1 T.length c1) ∧ z.cell? ⟨w1.heap.size, 1, none⟩ = some (.slice A2 U.length c2))
  (first | exact HSC.out _ HZ0.out | exact HSC.out _ HY1.out | exact HSC.out _ HY2.out | exact HSC.out _ hzB | exact HSC.out _ (hzA.alloc hzA.size _) | exact HSC.out _ hzA | fail)
  (first
    | ((refine step_two0 _ (by rfl) _ _ (by rfl) N1.out HY1.size (by rfl) A1 c1 T (by rfl) (HL1.keep HY1.out) hTl ?_; intro A3 c3 wA hTA hbA hgA; have hzA := HY1.trans hbA))
    | ((refine step_two0 _ (by rfl) _ _ (by rfl) N2.out HY2.size (by rfl) A1 c1 T (by rfl) (HL1.keep HY2.out) hTl ?_; intro A3 c3 wA hTA hbA hgA; have hzA := HY2.trans hbA))
    | ((refine step_two0 _ (by rfl) _ _ (by rfl) N3.out HY2.size (by rfl) A1 c1 T (by rfl) (HL1.keep HY2.out) hTl ?_; intro A3 c3 wA hTA hbA hgA; have hzA := HY2.trans hbA))
    | ((refine step_two0 _ (by rfl) _ _ (by rfl) ((hTA.addNew hzA.size).swap) ((hzA.alloc hzA.size _).size) (by rfl) A2 c2 U (by rfl) (HL2.keep (hzA.alloc hzA.size _)) hUl ?_; intro A4 c4 wB hTB hbB hgB; have hzB := (hzA.alloc hzA.size _).trans hbB))
    | ((refine step_two0 _ (by rfl) _ _ (by rfl) hTA.swap hzA.size (by rfl) A2 c2 U (by rfl) (HL2.keep hzA) hUl ?_; intro A4 c4 wB hTB hbB hgB; have hzB := hzA.trans hbB))
    | fail)
 all_goals
  have hTF := hh_ (hTB.swap.mono HE0.size);have HEF : Hid (Below w.heap.size w wB) := HE0.trans (hzB.mono HE0.size);clear hTA hbA hgA hzA hTB hbB hgB hzB HSC HZ0 N1 N2 N3 HY1 HY2;go_wp2;go_ret3;rw [Hv.out];obtain ⟨rfl, rfl, rfl⟩ := HTU.out;cases o with
  | none => exact mrQ.no HEF.out
  | some p => exact mrQ.yes hTF.out HEF.out
set_option maxRecDepth 100000 in
theorem mdl_s_proper (h : GV w A m c r) (hs : str.toList = [112, 114, 111, 112, 101, 114]) :
 Calls Tryz.prog 139 #[.agg #[.int .i64 m, .slice A m c], .string str] w (mrQ w (mdO r m str.toList)) := by
 obtain ⟨W, hW, HB, HG⟩ := gbW h;have HZ : Hid (w.heap.size ≤ W.heap.size) := HB.below.size;have HW := hh_ hW;have Hv : Hid (mdO r m str.toList = (umO r m).map oneP) := by
  show _ = _;unfold mdO; rw [hs, if_neg (by decide), if_neg (by decide), if_pos rfl]
 obtain ⟨o, ho⟩ : ∃ o, o = umO r m := ⟨_, rfl⟩;have KC : Hid (Calls Tryz.prog 271 #[.agg #[.int .i64 m, .slice A m c]] W (lsQ W o)) := by rw [ho]; exact UmbrellaOf_sv HG.gv
 rw [← ho] at Hv;have f0 : (str.toList == [99, 104, 111, 114, 100, 97, 108]) = false := by rw [hs]; rfl
 have f1 : (str.toList == [105, 110, 116, 101, 114, 118, 97, 108]) = false := by rw [hs]; rfl
 have f2 : (str.toList == [112, 114, 111, 112, 101, 114]) = true := by rw [hs]; rfl
 have f3 : (str.toList == [99, 111, 103, 114, 97, 112, 104]) = false := by rw [hs]; rfl
 have f4 : (str.toList == [115, 112, 108, 105, 116]) = false := by rw [hs]; rfl
 have f5 : (str.toList == [116, 104, 114, 101, 115, 104, 111, 108, 100]) = false := by rw [hs]; rfl
 have f6 : (str.toList == [98, 105, 112, 97, 114, 116, 105, 116, 101]) = false := by rw [hs]; rfl
 have f7 : (str.toList == [115, 116, 114, 111, 110, 103]) = false := by rw [hs]; rfl
 clear hs;clear hW h ho;go_enter Tryz.func139, Tryz.ntmps139;obtain ⟨e0, e1⟩ := gx_ HG;go_wp2_with fail
 rw [← HW.out];refine (KC.out).mono ?_;rintro e w1 ⟨A1, c1, rfl, hL, hb1⟩;clear HW;clear e0 e1;obtain ⟨HB, HG, e0, e1⟩ := kG_ HB HG hb1;clear hb1;clear KC;go_wp2;go_ret3;rw [Hv.out];exact mrQ.ls2 hL HZ.out HB.below
set_option maxRecDepth 100000 in
theorem mdl_s_cograph (h : GV w A m c r) (hs : str.toList = [99, 111, 103, 114, 97, 112, 104]) :
 Calls Tryz.prog 139 #[.agg #[.int .i64 m, .slice A m c], .string str] w (mrQ w (mdO r m str.toList)) := by
 obtain ⟨W, hW, HB, HG⟩ := gbW h;have HZ : Hid (w.heap.size ≤ W.heap.size) := HB.below.size;have HW := hh_ hW;have Hv : Hid (mdO r m str.toList = (redL (twF m r) (2 ^ m - 1)).map oneP) := by
  show _ = _;unfold mdO; rw [hs, if_neg (by decide), if_neg (by decide), if_neg (by decide), if_pos rfl]
 obtain ⟨o, ho⟩ : ∃ o, o = redL (twF m r) (2 ^ m - 1) := ⟨_, rfl⟩;have KC : Hid (Calls Tryz.prog 272 #[.agg #[.int .i64 m, .slice A m c]] W (lsQ W o)) := by rw [ho]; have h1 := TwinOrder_sl (m : Int) A m c (fun v => (r v : Int)) W W.heap.size HG.gv.rd nr_ (by have := HG.gv.vg.n7; omega); rw [orG_yes HG.gv.ok, rw_cast] at h1; exact h1
 rw [← ho] at Hv;have f0 : (str.toList == [99, 104, 111, 114, 100, 97, 108]) = false := by rw [hs]; rfl
 have f1 : (str.toList == [105, 110, 116, 101, 114, 118, 97, 108]) = false := by rw [hs]; rfl
 have f2 : (str.toList == [112, 114, 111, 112, 101, 114]) = false := by rw [hs]; rfl
 have f3 : (str.toList == [99, 111, 103, 114, 97, 112, 104]) = true := by rw [hs]; rfl
 have f4 : (str.toList == [115, 112, 108, 105, 116]) = false := by rw [hs]; rfl
 have f5 : (str.toList == [116, 104, 114, 101, 115, 104, 111, 108, 100]) = false := by rw [hs]; rfl
 have f6 : (str.toList == [98, 105, 112, 97, 114, 116, 105, 116, 101]) = false := by rw [hs]; rfl
 have f7 : (str.toList == [115, 116, 114, 111, 110, 103]) = false := by rw [hs]; rfl
 clear hs;clear hW h ho;go_enter Tryz.func139, Tryz.ntmps139;obtain ⟨e0, e1⟩ := gx_ HG;go_wp2_with fail
 rw [← HW.out];refine (KC.out).mono ?_;rintro e w1 ⟨A1, c1, rfl, hL, hb1⟩;clear HW;clear e0 e1;obtain ⟨HB, HG, e0, e1⟩ := kG_ HB HG hb1;clear hb1;clear KC;go_wp2;go_ret3;rw [Hv.out];exact mrQ.ls2 hL HZ.out HB.below
set_option maxRecDepth 100000 in
theorem mdl_s_split (h : GV w A m c r) (hs : str.toList = [115, 112, 108, 105, 116]) :
 Calls Tryz.prog 139 #[.agg #[.int .i64 m, .slice A m c], .string str] w (mrQ w (mdO r m str.toList)) := by
 obtain ⟨W, hW, HB, HG⟩ := gbW h;have HZ : Hid (w.heap.size ≤ W.heap.size) := HB.below.size;have HW := hh_ hW;have Hv : Hid (mdO r m str.toList = (slO r m).map oneS) := by
  show _ = _;unfold mdO; rw [hs, if_neg (by decide), if_neg (by decide), if_neg (by decide), if_neg (by decide), if_pos rfl]
 have KC := hh_ (SplitOf_sv HG.gv);obtain ⟨o, ho⟩ : ∃ o, o = slO r m := ⟨_, rfl⟩;rw [← ho] at KC Hv;have f0 : (str.toList == [99, 104, 111, 114, 100, 97, 108]) = false := by rw [hs]; rfl
 have f1 : (str.toList == [105, 110, 116, 101, 114, 118, 97, 108]) = false := by rw [hs]; rfl
 have f2 : (str.toList == [112, 114, 111, 112, 101, 114]) = false := by rw [hs]; rfl
 have f3 : (str.toList == [99, 111, 103, 114, 97, 112, 104]) = false := by rw [hs]; rfl
 have f4 : (str.toList == [115, 112, 108, 105, 116]) = true := by rw [hs]; rfl
 have f5 : (str.toList == [116, 104, 114, 101, 115, 104, 111, 108, 100]) = false := by rw [hs]; rfl
 have f6 : (str.toList == [98, 105, 112, 97, 114, 116, 105, 116, 101]) = false := by rw [hs]; rfl
 have f7 : (str.toList == [115, 116, 114, 111, 110, 103]) = false := by rw [hs]; rfl
 clear hs;clear hW h ho;cases o with
 | none =>
   go_enter Tryz.func139, Tryz.ntmps139;obtain ⟨e0, e1⟩ := gx_ HG;go_wp2_with fail
   rw [← HW.out];refine (KC.out).mono ?_;rintro e w1 ⟨rfl, hb1⟩;clear HW;clear e0 e1;obtain ⟨HB, HG, e0, e1⟩ := kG_ HB HG hb1;clear hb1;clear KC;rw [lsV_none];go_wp2;go_ret3;rw [Hv.out];exact mrQ.no ((HB.alloc_ _).alloc_ _).below
 | some s =>
   go_enter Tryz.func139, Tryz.ntmps139;obtain ⟨e0, e1⟩ := gx_ HG;go_wp2_with fail
   rw [← HW.out];refine (KC.out).mono ?_;rintro e w2 ⟨rfl, hb2⟩;clear HW;clear e0 e1;obtain ⟨HB, HG, e0, e1⟩ := kG_ HB HG hb2;clear hb2;clear KC;rw [lsV_some];go_wp2;go_ret3;rw [Hv.out];exact mrQ.one2 s HB.below
set_option maxRecDepth 100000 in
theorem mdl_s_threshold (h : GV w A m c r) (hs : str.toList = [116, 104, 114, 101, 115, 104, 111, 108, 100]) :
 Calls Tryz.prog 139 #[.agg #[.int .i64 m, .slice A m c], .string str] w (mrQ w (mdO r m str.toList)) := by
 obtain ⟨W, hW, HB, HG⟩ := gbW h;have HZ : Hid (w.heap.size ≤ W.heap.size) := HB.below.size;have HW := hh_ hW;have Hv : Hid (mdO r m str.toList = wgO r m) := by
  show _ = _;unfold mdO; rw [hs, if_neg (by decide), if_neg (by decide), if_neg (by decide), if_neg (by decide), if_neg (by decide), if_pos rfl]
 have KC := hh_ (WeightsOf_svl HG.gv);obtain ⟨bb, hbb⟩ : ∃ bb, bb = (thO r m).isSome := ⟨_, rfl⟩;have KC2 : Hid (Calls Tryz.prog 274 #[.agg #[.int .i64 m, .slice A m c]] W fun e w' => ∃ A' n' c' lim, e = .returned (.tuple #[.slice A' n' c', .int .i64 (lim : Nat), .bool bb]) ∧
  Hid (∀ x_1, thO r m = some x_1 → n' = m ∧ lim = wtL (joinOf r (2 ^ m - 1) x_1).reverse x_1.length ∧ Own w' W.heap.size w'.heap.size 3 1 A' m c' (fun j => .int .i64 (wtF x_1.reverse (joinOf r (2 ^ m - 1) x_1).reverse x_1.length j : Nat))) ∧ Below W.heap.size W w') := by rw [hbb]; exact KC.out
 have HBB := hh_ hbb;have f0 : (str.toList == [99, 104, 111, 114, 100, 97, 108]) = false := by rw [hs]; rfl
 have f1 : (str.toList == [105, 110, 116, 101, 114, 118, 97, 108]) = false := by rw [hs]; rfl
 have f2 : (str.toList == [112, 114, 111, 112, 101, 114]) = false := by rw [hs]; rfl
 have f3 : (str.toList == [99, 111, 103, 114, 97, 112, 104]) = false := by rw [hs]; rfl
 have f4 : (str.toList == [115, 112, 108, 105, 116]) = false := by rw [hs]; rfl
 have f5 : (str.toList == [116, 104, 114, 101, 115, 104, 111, 108, 100]) = true := by rw [hs]; rfl
 have f6 : (str.toList == [98, 105, 112, 97, 114, 116, 105, 116, 101]) = false := by rw [hs]; rfl
 have f7 : (str.toList == [115, 116, 114, 111, 110, 103]) = false := by rw [hs]; rfl
 clear hs;clear hW h KC hbb;go_enter Tryz.func139, Tryz.ntmps139;obtain ⟨e0, e1⟩ := gx_ HG;go_wp2_with fail
 rw [← HW.out];refine (KC2.out).mono ?_;rintro e w1 ⟨A1, n1, c1, lim, rfl, hX, hb1⟩;clear HW;clear e0 e1;obtain ⟨HB, HG, e0, e1⟩ := kG_ HB HG hb1;clear hb1;clear KC2;go_wp2;go_ret3;rw [Hv.out, HBB.out];exact mrQ.wg hX.out HZ.out HB.below
set_option maxRecDepth 100000 in
theorem mdl_s_bipartite (h : GV w A m c r) (hs : str.toList = [98, 105, 112, 97, 114, 116, 105, 116, 101]) :
 Calls Tryz.prog 139 #[.agg #[.int .i64 m, .slice A m c], .string str] w (mrQ w (mdO r m str.toList)) := by
 obtain ⟨W, hW, HB, HG⟩ := gbW h;have HZ : Hid (w.heap.size ≤ W.heap.size) := HB.below.size;have HW := hh_ hW;have Hv : Hid (mdO r m str.toList = (sdO r m).map oneS) := by
  show _ = _;unfold mdO; rw [hs, if_neg (by decide), if_neg (by decide), if_neg (by decide), if_neg (by decide), if_neg (by decide), if_neg (by decide), if_pos rfl]
 have KC := hh_ (SidesOf_sv HG.gv);obtain ⟨o, ho⟩ : ∃ o, o = sdO r m := ⟨_, rfl⟩;rw [← ho] at KC Hv;have f0 : (str.toList == [99, 104, 111, 114, 100, 97, 108]) = false := by rw [hs]; rfl
 have f1 : (str.toList == [105, 110, 116, 101, 114, 118, 97, 108]) = false := by rw [hs]; rfl
 have f2 : (str.toList == [112, 114, 111, 112, 101, 114]) = false := by rw [hs]; rfl
 have f3 : (str.toList == [99, 111, 103, 114, 97, 112, 104]) = false := by rw [hs]; rfl
 have f4 : (str.toList == [115, 112, 108, 105, 116]) = false := by rw [hs]; rfl
 have f5 : (str.toList == [116, 104, 114, 101, 115, 104, 111, 108, 100]) = false := by rw [hs]; rfl
 have f6 : (str.toList == [98, 105, 112, 97, 114, 116, 105, 116, 101]) = true := by rw [hs]; rfl
 have f7 : (str.toList == [115, 116, 114, 111, 110, 103]) = false := by rw [hs]; rfl
 clear hs;clear hW h ho;cases o with
 | none =>
   go_enter Tryz.func139, Tryz.ntmps139;obtain ⟨e0, e1⟩ := gx_ HG;go_wp2_with fail
   rw [← HW.out];refine (KC.out).mono ?_;rintro e w1 ⟨rfl, hb1⟩;clear HW;clear e0 e1;obtain ⟨HB, HG, e0, e1⟩ := kG_ HB HG hb1;clear hb1;clear KC;rw [lsV_none];go_wp2;go_ret3;rw [Hv.out];exact mrQ.no ((HB.alloc_ _).alloc_ _).below
 | some s =>
   go_enter Tryz.func139, Tryz.ntmps139;obtain ⟨e0, e1⟩ := gx_ HG;go_wp2_with fail
   rw [← HW.out];refine (KC.out).mono ?_;rintro e w2 ⟨rfl, hb2⟩;clear HW;clear e0 e1;obtain ⟨HB, HG, e0, e1⟩ := kG_ HB HG hb2;clear hb2;clear KC;rw [lsV_some];go_wp2;go_ret3;rw [Hv.out];exact mrQ.one2 s HB.below
set_option maxRecDepth 100000 in
theorem mdl_s_strong (h : GV w A m c r) (hs : str.toList = [115, 116, 114, 111, 110, 103]) :
 Calls Tryz.prog 139 #[.agg #[.int .i64 m, .slice A m c], .string str] w (mrQ w (mdO r m str.toList)) := by
 obtain ⟨W, hW, HB, HG⟩ := gbW h;have HZ : Hid (w.heap.size ≤ W.heap.size) := HB.below.size;have HW := hh_ hW;have Hv : Hid (mdO r m str.toList = (redL (sgF r) (2 ^ m - 1)).map oneP) := by
  show _ = _;unfold mdO; rw [hs, if_neg (by decide), if_neg (by decide), if_neg (by decide), if_neg (by decide), if_neg (by decide), if_neg (by decide), if_neg (by decide), if_pos rfl]
 obtain ⟨o, ho⟩ : ∃ o, o = redL (sgF r) (2 ^ m - 1) := ⟨_, rfl⟩;have KC : Hid (Calls Tryz.prog 276 #[.agg #[.int .i64 m, .slice A m c]] W (lsQ W o)) := by rw [ho]; have h1 := SimpleOrder_sl (m : Int) A m c (fun v => (r v : Int)) W W.heap.size HG.gv.rd nr_ (by have := HG.gv.vg.n7; omega); rw [orG_yes HG.gv.ok, rw_cast] at h1; exact h1
 rw [← ho] at Hv;have f0 : (str.toList == [99, 104, 111, 114, 100, 97, 108]) = false := by rw [hs]; rfl
 have f1 : (str.toList == [105, 110, 116, 101, 114, 118, 97, 108]) = false := by rw [hs]; rfl
 have f2 : (str.toList == [112, 114, 111, 112, 101, 114]) = false := by rw [hs]; rfl
 have f3 : (str.toList == [99, 111, 103, 114, 97, 112, 104]) = false := by rw [hs]; rfl
 have f4 : (str.toList == [115, 112, 108, 105, 116]) = false := by rw [hs]; rfl
 have f5 : (str.toList == [116, 104, 114, 101, 115, 104, 111, 108, 100]) = false := by rw [hs]; rfl
 have f6 : (str.toList == [98, 105, 112, 97, 114, 116, 105, 116, 101]) = false := by rw [hs]; rfl
 have f7 : (str.toList == [115, 116, 114, 111, 110, 103]) = true := by rw [hs]; rfl
 clear hs;clear hW h ho;go_enter Tryz.func139, Tryz.ntmps139;obtain ⟨e0, e1⟩ := gx_ HG;go_wp2_with fail
 rw [← HW.out];refine (KC.out).mono ?_;rintro e w1 ⟨A1, c1, rfl, hL, hb1⟩;clear HW;clear e0 e1;obtain ⟨HB, HG, e0, e1⟩ := kG_ HB HG hb1;clear hb1;clear KC;go_wp2;go_ret3;rw [Hv.out];exact mrQ.ls2 hL HZ.out HB.below
set_option maxRecDepth 100000 in
theorem mdl_s_none (h : GV w A m c r) (hs0 : str.toList ≠ [99, 104, 111, 114, 100, 97, 108]) (hs1 : str.toList ≠ [105, 110, 116, 101, 114, 118, 97, 108]) (hs2 : str.toList ≠ [112, 114, 111, 112, 101, 114]) (hs3 : str.toList ≠ [99, 111, 103, 114, 97, 112, 104]) (hs4 : str.toList ≠ [115, 112, 108, 105, 116]) (hs5 : str.toList ≠ [116, 104, 114, 101, 115, 104, 111, 108, 100]) (hs6 : str.toList ≠ [98, 105, 112, 97, 114, 116, 105, 116, 101]) (hs7 : str.toList ≠ [115, 116, 114, 111, 110, 103]) :
 Calls Tryz.prog 139 #[.agg #[.int .i64 m, .slice A m c], .string str] w (mrQ w (mdO r m str.toList)) := by
 obtain ⟨W, hW, HB, HG⟩ := gbW h;have HZ : Hid (w.heap.size ≤ W.heap.size) := HB.below.size;have HW := hh_ hW;have Hv : Hid (mdO r m str.toList = none) := by
  show _ = _;unfold mdO;rw [if_neg hs0, if_neg hs1, if_neg hs2, if_neg hs3, if_neg hs4, if_neg hs5, if_neg hs6, if_neg hs7]
 have f0 : (str.toList == [99, 104, 111, 114, 100, 97, 108]) = false := by simpa using hs0
 have f1 : (str.toList == [105, 110, 116, 101, 114, 118, 97, 108]) = false := by simpa using hs1
 have f2 : (str.toList == [112, 114, 111, 112, 101, 114]) = false := by simpa using hs2
 have f3 : (str.toList == [99, 111, 103, 114, 97, 112, 104]) = false := by simpa using hs3
 have f4 : (str.toList == [115, 112, 108, 105, 116]) = false := by simpa using hs4
 have f5 : (str.toList == [116, 104, 114, 101, 115, 104, 111, 108, 100]) = false := by simpa using hs5
 have f6 : (str.toList == [98, 105, 112, 97, 114, 116, 105, 116, 101]) = false := by simpa using hs6
 have f7 : (str.toList == [115, 116, 114, 111, 110, 103]) = false := by simpa using hs7
 clear hW h hs0 hs1 hs2 hs3 hs4 hs5 hs6 hs7;go_enter Tryz.func139, Tryz.ntmps139;go_wp2;rw [← HW.out];go_ret3;rw [Hv.out];exact mrQ.no ((HB.alloc_ _).alloc_ _).below
theorem l33Model_s (h : GV w A m c r) : Calls Tryz.prog 139 #[.agg #[.int .i64 m, .slice A m c], .string str] w (mrQ w (mdO r m str.toList)) := by
 by_cases h0 : str.toList = [99, 104, 111, 114, 100, 97, 108]
 ·exact mdl_s_chordal A m c r str w h h0
 by_cases h1 : str.toList = [105, 110, 116, 101, 114, 118, 97, 108]
 ·exact mdl_s_interval A m c r str w h h1
 by_cases h2 : str.toList = [112, 114, 111, 112, 101, 114]
 ·exact mdl_s_proper A m c r str w h h2
 by_cases h3 : str.toList = [99, 111, 103, 114, 97, 112, 104]
 ·exact mdl_s_cograph A m c r str w h h3
 by_cases h4 : str.toList = [115, 112, 108, 105, 116]
 ·exact mdl_s_split A m c r str w h h4
 by_cases h5 : str.toList = [116, 104, 114, 101, 115, 104, 111, 108, 100]
 ·exact mdl_s_threshold A m c r str w h h5
 by_cases h6 : str.toList = [98, 105, 112, 97, 114, 116, 105, 116, 101]
 ·exact mdl_s_bipartite A m c r str w h h6
 by_cases h7 : str.toList = [115, 116, 114, 111, 110, 103]
 ·exact mdl_s_strong A m c r str w h h7
 exact mdl_s_none A m c r str w h h0 h1 h2 h3 h4 h5 h6 h7
end
end Go.Proofs.YtdpkbfiggbcclaaGreat
