/-
-/
import Derived.Test.YtdpkbfiggbcclaaGreatQmMdlP
import Derived.Test.YtdpkbfiggbcclaaGreatQmHolI
import Derived.Test.YtdpkbfiggbcclaaGreatQmOrlI
import Derived.Test.YtdpkbfiggbcclaaGreatQmCmbI
namespace Go.Proofs.YtdpkbfiggbcclaaGreat
open Go.RowKit
set_option maxHeartbeats 3200000
section
variable {sz : Int} {A : Option Addr} {m c : Nat} {x : Nat → Int} {w : World}
set_option maxRecDepth 100000 in
theorem WeightsOf_no (h : GA w A m c x) (hm : m ≤ 1048576) (hok : okB sz m x = false) :
 Calls Tryz.prog 282 #[.agg #[.int .i64 sz, .slice A m c]] w fun e w' => ∃ A' n' c' lim, e = .returned (.tuple #[.slice A' n' c', .int .i64 (lim : Nat), .bool false]) ∧ Below w.heap.size w w' := by
 obtain ⟨W, hW, HB, HK, HC⟩ := gaW sz h;have HZ : Hid (w.heap.size ≤ W.heap.size) := HB.below.size;have HW := hh_ hW;have KT := hh_ (ThresholdOrder_no sz A m c x W HK hm hok);clear hW h hok;go_enter Tryz.func282, Tryz.ntmps282;obtain ⟨e0, e1⟩ := gc_ HC;go_wp2_with fail
 rw [← HW.out];refine (KT.out).mono ?_;rintro e w1 ⟨V1, V2, rfl, hb1⟩;clear HW;clear e0 e1;replace HB := hh_ (HB.keep hb1);replace HC := hh_ (HC.keep hb1);clear hb1;obtain ⟨e0, e1⟩ := gc_ HC;clear KT;go_wp2;go_ret3;exact ⟨none, 0, 0, 0, rfl, HB.below⟩
theorem UmbrellaOf_a (h : GA w A m c x) (hm : m ≤ 1048576) : Calls Tryz.prog 279 #[.agg #[.int .i64 sz, .slice A m c]] w (lsQ w (gA sz m x umO)) := by
 cases ho : okB sz m x
 ·rw [gA_no ho]; exact UmbrellaOf_no sz A m c x w h hm ho
 ·obtain ⟨_, es, _, _⟩ := okB_ok' ho;subst es;rw [gA_yes ho]; exact UmbrellaOf_v (h.gv ho)
theorem SplitOf_a (h : GA w A m c x) (hm : m ≤ 1048576) : Calls Tryz.prog 281 #[.agg #[.int .i64 sz, .slice A m c]] w fun e w' => e = .returned (lsV (gA sz m x slO)) ∧ Below w.heap.size w w' := by
 cases ho : okB sz m x
 ·rw [gA_no ho]; exact SplitOf_no sz A m c x w h hm ho
 ·obtain ⟨_, es, _, _⟩ := okB_ok' ho;subst es;rw [gA_yes ho]; exact SplitOf_v (h.gv ho)
theorem SidesOf_a (h : GA w A m c x) (hm : m ≤ 1048576) : Calls Tryz.prog 283 #[.agg #[.int .i64 sz, .slice A m c]] w fun e w' => e = .returned (lsV (gA sz m x sdO)) ∧ Below w.heap.size w w' := by
 cases ho : okB sz m x
 ·rw [gA_no ho]; exact SidesOf_no sz A m c x w h hm ho
 ·obtain ⟨_, es, _, _⟩ := okB_ok' ho;subst es;rw [gA_yes ho]; exact SidesOf_v (h.gv ho)
theorem IntervalModelOf_a (h : GA w A m c x) (hm : m ≤ 1048576) : Calls Tryz.prog 278 #[.agg #[.int .i64 sz, .slice A m c]] w (ivQ w (gA sz m x ivO)) := by
 cases ho : okB sz m x
 ·rw [gA_no ho]; exact IntervalModelOf_no sz A m c x w h hm ho
 ·obtain ⟨_, es, _, _⟩ := okB_ok' ho;subst es;rw [gA_yes ho]; exact IntervalModelOf_v (h.gv ho)
end
section
variable (sz : Int) (A : Option Addr) (m c : Nat) (x : Nat → Int) (str : ByteArray) (w : World)
set_option maxRecDepth 100000 in
theorem mdl_i_chordal (h : GA w A m c x) (hm : m ≤ 1048576) (hs : str.toList = [99, 104, 111, 114, 100, 97, 108]) :
 Calls Tryz.prog 140 #[.agg #[.int .i64 sz, .slice A m c], .string str] w (mrQ w (mdG sz m x str.toList)) := by
 obtain ⟨W, hW, HB, HK, HC⟩ := gaW sz h;have HZ : Hid (w.heap.size ≤ W.heap.size) := HB.below.size;have HW := hh_ hW;have Hv : Hid (mdG sz m x str.toList = (gA sz m x (fun r m => redL (firstS r) (2 ^ m - 1))).map oneP) := by
  show _ = _;rw [gA_map, mdG_is];congr 1;funext r m
  unfold mdO; rw [hs, if_pos rfl]
 obtain ⟨o, ho⟩ : ∃ o, o = gA sz m x (fun r m => redL (firstS r) (2 ^ m - 1)) := ⟨_, rfl⟩;have KC : Hid (Calls Tryz.prog 277 #[.agg #[.int .i64 sz, .slice A m c]] W (lsQ W o)) := by rw [ho]; exact EliminationOf_il sz A m c x W W.heap.size HK.rd nr_ hm
 rw [← ho] at Hv;have f0 : (str.toList == [99, 104, 111, 114, 100, 97, 108]) = true := by rw [hs]; rfl
 have f1 : (str.toList == [105, 110, 116, 101, 114, 118, 97, 108]) = false := by rw [hs]; rfl
 have f2 : (str.toList == [112, 114, 111, 112, 101, 114]) = false := by rw [hs]; rfl
 have f3 : (str.toList == [99, 111, 103, 114, 97, 112, 104]) = false := by rw [hs]; rfl
 have f4 : (str.toList == [115, 112, 108, 105, 116]) = false := by rw [hs]; rfl
 have f5 : (str.toList == [116, 104, 114, 101, 115, 104, 111, 108, 100]) = false := by rw [hs]; rfl
 have f6 : (str.toList == [98, 105, 112, 97, 114, 116, 105, 116, 101]) = false := by rw [hs]; rfl
 have f7 : (str.toList == [115, 116, 114, 111, 110, 103]) = false := by rw [hs]; rfl
 clear hs;clear hW h ho;go_enter Tryz.func140, Tryz.ntmps140;obtain ⟨e0, e1⟩ := gc_ HC;go_wp2_with fail
 rw [← HW.out];refine (KC.out).mono ?_;rintro e w1 ⟨A1, c1, rfl, hL, hb1⟩;clear HW;clear e0 e1;replace HB := hh_ (HB.keep hb1);replace HC := hh_ (HC.keep hb1);clear hb1;obtain ⟨e0, e1⟩ := gc_ HC;clear KC;go_wp2;go_ret3;rw [Hv.out];exact mrQ.ls hL HZ.out HB.below
set_option maxRecDepth 100000 in
theorem mdl_i_interval (h : GA w A m c x) (hm : m ≤ 1048576) (hs : str.toList = [105, 110, 116, 101, 114, 118, 97, 108]) :
 Calls Tryz.prog 140 #[.agg #[.int .i64 sz, .slice A m c], .string str] w (mrQ w (mdG sz m x str.toList)) := by
 obtain ⟨W, hW, HB, HK, HC⟩ := gaW sz h;have HZ : Hid (w.heap.size ≤ W.heap.size) := HB.below.size;have HW := hh_ hW;have Hv : Hid (mdG sz m x str.toList = gA sz m x ivO) := by
  show _ = _;rw [mdG_is];congr 1;funext r m
  unfold mdO; rw [hs, if_neg (by decide), if_pos rfl]
 have KC := hh_ (IntervalModelOf_a (sz := sz) HK hm);obtain ⟨o, ho⟩ : ∃ o, o = gA sz m x ivO := ⟨_, rfl⟩;rw [← ho] at KC Hv;obtain ⟨T, hT⟩ : ∃ T, T = (pG o).1 := ⟨_, rfl⟩;obtain ⟨U, hU⟩ : ∃ U, U = (pG o).2 := ⟨_, rfl⟩;obtain ⟨bb, hbb⟩ : ∃ bb, bb = o.isSome := ⟨_, rfl⟩;have KC2 : Hid (Calls Tryz.prog 278 #[.agg #[.int .i64 sz, .slice A m c]] W fun e w' => ∃ A1 c1 A2 c2, e = .returned (.tuple #[.agg #[.slice A1 T.length c1, .slice A2 U.length c2], .bool bb]) ∧ TwoN w' W.heap.size A1 c1 T A2 c2 U ∧ Below W.heap.size W w') := by rw [hT, hU, hbb]; exact KC.out
 have HTU := hh_ (And.intro hT (And.intro hU hbb));have f0 : (str.toList == [99, 104, 111, 114, 100, 97, 108]) = false := by rw [hs]; rfl
 have f1 : (str.toList == [105, 110, 116, 101, 114, 118, 97, 108]) = true := by rw [hs]; rfl
 have f2 : (str.toList == [112, 114, 111, 112, 101, 114]) = false := by rw [hs]; rfl
 have f3 : (str.toList == [99, 111, 103, 114, 97, 112, 104]) = false := by rw [hs]; rfl
 have f4 : (str.toList == [115, 112, 108, 105, 116]) = false := by rw [hs]; rfl
 have f5 : (str.toList == [116, 104, 114, 101, 115, 104, 111, 108, 100]) = false := by rw [hs]; rfl
 have f6 : (str.toList == [98, 105, 112, 97, 114, 116, 105, 116, 101]) = false := by rw [hs]; rfl
 have f7 : (str.toList == [115, 116, 114, 111, 110, 103]) = false := by rw [hs]; rfl
 clear hs;clear hW h ho hT hU hbb KC;go_enter Tryz.func140, Tryz.ntmps140;obtain ⟨e0, e1⟩ := gc_ HC;go_wp2_with fail
 rw [← HW.out];refine (KC2.out).mono ?_;rintro e w1 ⟨A1, c1, A2, c2, rfl, hX, hb1⟩;clear HW;clear e0 e1;replace HB := hh_ (HB.keep hb1);replace HC := hh_ (HC.keep hb1);clear hb1;obtain ⟨e0, e1⟩ := gc_ HC;have HX := hh_ hX;clear KC2 hX;go_wp2;obtain ⟨Y, hY⟩ : ∃ Y, Y = w1.alloc (Obj.cells #[.slice A1 T.length c1, .slice A2 U.length c2] 141) := ⟨_, rfl⟩;have hBY : Below w1.heap.size w1 Y := by rw [hY]; exact br_.alloc nr_ _
 have y0 : Y.cell? ⟨w1.heap.size, 0, none⟩ = some (.slice A1 T.length c1) := by rw [hY]; simp [go_sem]
 have y1 : Y.cell? ⟨w1.heap.size, 1, none⟩ = some (.slice A2 U.length c2) := by rw [hY]; simp [go_sem]
 rw [← hY];go_quiet (fail)
 go_wp2;go_ret3;rw [Hv.out];obtain ⟨rfl, rfl, rfl⟩ := HTU.out;cases o with
 | none => exact mrQ.no (HB.keep (below_drewN hBY _)).below
 | some p => exact mrQ.yes ((HX.keep (below_drewN hBY _)).mono HZ.out) (HB.keep (below_drewN hBY _)).below
set_option maxRecDepth 100000 in
theorem mdl_i_proper (h : GA w A m c x) (hm : m ≤ 1048576) (hs : str.toList = [112, 114, 111, 112, 101, 114]) :
 Calls Tryz.prog 140 #[.agg #[.int .i64 sz, .slice A m c], .string str] w (mrQ w (mdG sz m x str.toList)) := by
 obtain ⟨W, hW, HB, HK, HC⟩ := gaW sz h;have HZ : Hid (w.heap.size ≤ W.heap.size) := HB.below.size;have HW := hh_ hW;have Hv : Hid (mdG sz m x str.toList = (gA sz m x (umO)).map oneP) := by
  show _ = _;rw [gA_map, mdG_is];congr 1;funext r m
  unfold mdO; rw [hs, if_neg (by decide), if_neg (by decide), if_pos rfl]
 obtain ⟨o, ho⟩ : ∃ o, o = gA sz m x (umO) := ⟨_, rfl⟩;have KC : Hid (Calls Tryz.prog 279 #[.agg #[.int .i64 sz, .slice A m c]] W (lsQ W o)) := by rw [ho]; exact UmbrellaOf_a (sz := sz) HK hm
 rw [← ho] at Hv;have f0 : (str.toList == [99, 104, 111, 114, 100, 97, 108]) = false := by rw [hs]; rfl
 have f1 : (str.toList == [105, 110, 116, 101, 114, 118, 97, 108]) = false := by rw [hs]; rfl
 have f2 : (str.toList == [112, 114, 111, 112, 101, 114]) = true := by rw [hs]; rfl
 have f3 : (str.toList == [99, 111, 103, 114, 97, 112, 104]) = false := by rw [hs]; rfl
 have f4 : (str.toList == [115, 112, 108, 105, 116]) = false := by rw [hs]; rfl
 have f5 : (str.toList == [116, 104, 114, 101, 115, 104, 111, 108, 100]) = false := by rw [hs]; rfl
 have f6 : (str.toList == [98, 105, 112, 97, 114, 116, 105, 116, 101]) = false := by rw [hs]; rfl
 have f7 : (str.toList == [115, 116, 114, 111, 110, 103]) = false := by rw [hs]; rfl
 clear hs;clear hW h ho;go_enter Tryz.func140, Tryz.ntmps140;obtain ⟨e0, e1⟩ := gc_ HC;go_wp2_with fail
 rw [← HW.out];refine (KC.out).mono ?_;rintro e w1 ⟨A1, c1, rfl, hL, hb1⟩;clear HW;clear e0 e1;replace HB := hh_ (HB.keep hb1);replace HC := hh_ (HC.keep hb1);clear hb1;obtain ⟨e0, e1⟩ := gc_ HC;clear KC;go_wp2;go_ret3;rw [Hv.out];exact mrQ.ls hL HZ.out HB.below
set_option maxRecDepth 100000 in
theorem mdl_i_cograph (h : GA w A m c x) (hm : m ≤ 1048576) (hs : str.toList = [99, 111, 103, 114, 97, 112, 104]) :
 Calls Tryz.prog 140 #[.agg #[.int .i64 sz, .slice A m c], .string str] w (mrQ w (mdG sz m x str.toList)) := by
 obtain ⟨W, hW, HB, HK, HC⟩ := gaW sz h;have HZ : Hid (w.heap.size ≤ W.heap.size) := HB.below.size;have HW := hh_ hW;have Hv : Hid (mdG sz m x str.toList = (gA sz m x (fun r m => redL (twF m r) (2 ^ m - 1))).map oneP) := by
  show _ = _;rw [gA_map, mdG_is];congr 1;funext r m
  unfold mdO; rw [hs, if_neg (by decide), if_neg (by decide), if_neg (by decide), if_pos rfl]
 obtain ⟨o, ho⟩ : ∃ o, o = gA sz m x (fun r m => redL (twF m r) (2 ^ m - 1)) := ⟨_, rfl⟩;have KC : Hid (Calls Tryz.prog 280 #[.agg #[.int .i64 sz, .slice A m c]] W (lsQ W o)) := by rw [ho]; exact TwinOrder_il sz A m c x W W.heap.size HK.rd nr_ hm
 rw [← ho] at Hv;have f0 : (str.toList == [99, 104, 111, 114, 100, 97, 108]) = false := by rw [hs]; rfl
 have f1 : (str.toList == [105, 110, 116, 101, 114, 118, 97, 108]) = false := by rw [hs]; rfl
 have f2 : (str.toList == [112, 114, 111, 112, 101, 114]) = false := by rw [hs]; rfl
 have f3 : (str.toList == [99, 111, 103, 114, 97, 112, 104]) = true := by rw [hs]; rfl
 have f4 : (str.toList == [115, 112, 108, 105, 116]) = false := by rw [hs]; rfl
 have f5 : (str.toList == [116, 104, 114, 101, 115, 104, 111, 108, 100]) = false := by rw [hs]; rfl
 have f6 : (str.toList == [98, 105, 112, 97, 114, 116, 105, 116, 101]) = false := by rw [hs]; rfl
 have f7 : (str.toList == [115, 116, 114, 111, 110, 103]) = false := by rw [hs]; rfl
 clear hs;clear hW h ho;go_enter Tryz.func140, Tryz.ntmps140;obtain ⟨e0, e1⟩ := gc_ HC;go_wp2_with fail
 rw [← HW.out];refine (KC.out).mono ?_;rintro e w1 ⟨A1, c1, rfl, hL, hb1⟩;clear HW;clear e0 e1;replace HB := hh_ (HB.keep hb1);replace HC := hh_ (HC.keep hb1);clear hb1;obtain ⟨e0, e1⟩ := gc_ HC;clear KC;go_wp2;go_ret3;rw [Hv.out];exact mrQ.ls hL HZ.out HB.below
set_option maxRecDepth 100000 in
theorem mdl_i_split (h : GA w A m c x) (hm : m ≤ 1048576) (hs : str.toList = [115, 112, 108, 105, 116]) :
 Calls Tryz.prog 140 #[.agg #[.int .i64 sz, .slice A m c], .string str] w (mrQ w (mdG sz m x str.toList)) := by
 obtain ⟨W, hW, HB, HK, HC⟩ := gaW sz h;have HZ : Hid (w.heap.size ≤ W.heap.size) := HB.below.size;have HW := hh_ hW;have Hv : Hid (mdG sz m x str.toList = (gA sz m x slO).map oneS) := by
  show _ = _;rw [gA_map, mdG_is];congr 1;funext r m
  unfold mdO; rw [hs, if_neg (by decide), if_neg (by decide), if_neg (by decide), if_neg (by decide), if_pos rfl]
 have KC := hh_ (SplitOf_a (sz := sz) HK hm);obtain ⟨o, ho⟩ : ∃ o, o = gA sz m x slO := ⟨_, rfl⟩;rw [← ho] at KC Hv;have f0 : (str.toList == [99, 104, 111, 114, 100, 97, 108]) = false := by rw [hs]; rfl
 have f1 : (str.toList == [105, 110, 116, 101, 114, 118, 97, 108]) = false := by rw [hs]; rfl
 have f2 : (str.toList == [112, 114, 111, 112, 101, 114]) = false := by rw [hs]; rfl
 have f3 : (str.toList == [99, 111, 103, 114, 97, 112, 104]) = false := by rw [hs]; rfl
 have f4 : (str.toList == [115, 112, 108, 105, 116]) = true := by rw [hs]; rfl
 have f5 : (str.toList == [116, 104, 114, 101, 115, 104, 111, 108, 100]) = false := by rw [hs]; rfl
 have f6 : (str.toList == [98, 105, 112, 97, 114, 116, 105, 116, 101]) = false := by rw [hs]; rfl
 have f7 : (str.toList == [115, 116, 114, 111, 110, 103]) = false := by rw [hs]; rfl
 clear hs;clear hW h ho;cases o with
 | none =>
   go_enter Tryz.func140, Tryz.ntmps140;obtain ⟨e0, e1⟩ := gc_ HC;go_wp2_with fail
   rw [← HW.out];refine (KC.out).mono ?_;rintro e w1 ⟨rfl, hb1⟩;clear HW;clear e0 e1;replace HB := hh_ (HB.keep hb1);replace HC := hh_ (HC.keep hb1);clear hb1;obtain ⟨e0, e1⟩ := gc_ HC;clear KC;rw [lsV_none];go_wp2;go_ret3;rw [Hv.out];exact mrQ.no (HB.alloc_ _).below
 | some s =>
   go_enter Tryz.func140, Tryz.ntmps140;obtain ⟨e0, e1⟩ := gc_ HC;go_wp2_with fail
   rw [← HW.out];refine (KC.out).mono ?_;rintro e w2 ⟨rfl, hb2⟩;clear HW;clear e0 e1;replace HB := hh_ (HB.keep hb2);replace HC := hh_ (HC.keep hb2);clear hb2;obtain ⟨e0, e1⟩ := gc_ HC;clear KC;rw [lsV_some];go_wp2;go_ret3;rw [Hv.out];exact mrQ.one s HB.below
set_option maxRecDepth 100000 in
theorem mdl_i_threshold (h : GA w A m c x) (hm : m ≤ 1048576) (hs : str.toList = [116, 104, 114, 101, 115, 104, 111, 108, 100]) :
 Calls Tryz.prog 140 #[.agg #[.int .i64 sz, .slice A m c], .string str] w (mrQ w (mdG sz m x str.toList)) := by
 obtain ⟨W, hW, HB, HK, HC⟩ := gaW sz h;have HZ : Hid (w.heap.size ≤ W.heap.size) := HB.below.size;have HW := hh_ hW;have hs0 := hs;have f0 : (str.toList == [99, 104, 111, 114, 100, 97, 108]) = false := by rw [hs]; rfl
 have f1 : (str.toList == [105, 110, 116, 101, 114, 118, 97, 108]) = false := by rw [hs]; rfl
 have f2 : (str.toList == [112, 114, 111, 112, 101, 114]) = false := by rw [hs]; rfl
 have f3 : (str.toList == [99, 111, 103, 114, 97, 112, 104]) = false := by rw [hs]; rfl
 have f4 : (str.toList == [115, 112, 108, 105, 116]) = false := by rw [hs]; rfl
 have f5 : (str.toList == [116, 104, 114, 101, 115, 104, 111, 108, 100]) = true := by rw [hs]; rfl
 have f6 : (str.toList == [98, 105, 112, 97, 114, 116, 105, 116, 101]) = false := by rw [hs]; rfl
 have f7 : (str.toList == [115, 116, 114, 111, 110, 103]) = false := by rw [hs]; rfl
 clear hs;cases ho : okB sz m x
 ·have Hv : Hid (mdG sz m x str.toList = none) := mdG_no ho;have KC := hh_ (WeightsOf_no HK hm ho);clear hW h ho hs0;go_enter Tryz.func140, Tryz.ntmps140;obtain ⟨e0, e1⟩ := gc_ HC;go_wp2_with fail
  rw [← HW.out];refine (KC.out).mono ?_;rintro e w1 ⟨A1, n1, c1, lim, rfl, hb1⟩;clear HW;clear e0 e1;replace HB := hh_ (HB.keep hb1);replace HC := hh_ (HC.keep hb1);clear hb1;obtain ⟨e0, e1⟩ := gc_ HC;clear KC;go_wp2;go_ret3;rw [Hv.out];exact mrQ.no (HB.alloc_ _).below
 ·have Hv : Hid (mdG sz m x str.toList = wgO (rw_ x) m) := by
   show _ = _;rw [mdG_yes ho];have hs := hs0;unfold mdO; rw [hs, if_neg (by decide), if_neg (by decide), if_neg (by decide), if_neg (by decide), if_neg (by decide), if_pos rfl]
  obtain ⟨_, es, _, _⟩ := okB_ok' ho;subst es;have KC := hh_ (WeightsOf_vl (HK.gv ho));obtain ⟨bb, hbb⟩ : ∃ bb, bb = (thO (rw_ x) m).isSome := ⟨_, rfl⟩;have KC2 : Hid (Calls Tryz.prog 282 #[.agg #[.int .i64 m, .slice A m c]] W fun e w' => ∃ A' n' c' lim, e = .returned (.tuple #[.slice A' n' c', .int .i64 (lim : Nat), .bool bb]) ∧
   Hid (∀ x_1, thO (rw_ x) m = some x_1 → n' = m ∧ lim = wtL (joinOf (rw_ x) (2 ^ m - 1) x_1).reverse x_1.length ∧ Own w' W.heap.size w'.heap.size 3 1 A' m c' (fun j => .int .i64 (wtF x_1.reverse (joinOf (rw_ x) (2 ^ m - 1) x_1).reverse x_1.length j : Nat))) ∧ Below W.heap.size W w') := by rw [hbb]; exact KC.out
  have HBB := hh_ hbb;clear hW h ho hs0 KC hbb;go_enter Tryz.func140, Tryz.ntmps140;obtain ⟨e0, e1⟩ := gc_ HC;go_wp2_with fail
  rw [← HW.out];refine (KC2.out).mono ?_;rintro e w2 ⟨A1, n1, c1, lim, rfl, hX, hb2⟩;clear HW;clear e0 e1;replace HB := hh_ (HB.keep hb2);replace HC := hh_ (HC.keep hb2);clear hb2;obtain ⟨e0, e1⟩ := gc_ HC;clear KC2;go_wp2;go_ret3;rw [Hv.out, HBB.out];exact mrQ.wg hX.out HZ.out HB.below
set_option maxRecDepth 100000 in
theorem mdl_i_bipartite (h : GA w A m c x) (hm : m ≤ 1048576) (hs : str.toList = [98, 105, 112, 97, 114, 116, 105, 116, 101]) :
 Calls Tryz.prog 140 #[.agg #[.int .i64 sz, .slice A m c], .string str] w (mrQ w (mdG sz m x str.toList)) := by
 obtain ⟨W, hW, HB, HK, HC⟩ := gaW sz h;have HZ : Hid (w.heap.size ≤ W.heap.size) := HB.below.size;have HW := hh_ hW;have Hv : Hid (mdG sz m x str.toList = (gA sz m x sdO).map oneS) := by
  show _ = _;rw [gA_map, mdG_is];congr 1;funext r m
  unfold mdO; rw [hs, if_neg (by decide), if_neg (by decide), if_neg (by decide), if_neg (by decide), if_neg (by decide), if_neg (by decide), if_pos rfl]
 have KC := hh_ (SidesOf_a (sz := sz) HK hm);obtain ⟨o, ho⟩ : ∃ o, o = gA sz m x sdO := ⟨_, rfl⟩;rw [← ho] at KC Hv;have f0 : (str.toList == [99, 104, 111, 114, 100, 97, 108]) = false := by rw [hs]; rfl
 have f1 : (str.toList == [105, 110, 116, 101, 114, 118, 97, 108]) = false := by rw [hs]; rfl
 have f2 : (str.toList == [112, 114, 111, 112, 101, 114]) = false := by rw [hs]; rfl
 have f3 : (str.toList == [99, 111, 103, 114, 97, 112, 104]) = false := by rw [hs]; rfl
 have f4 : (str.toList == [115, 112, 108, 105, 116]) = false := by rw [hs]; rfl
 have f5 : (str.toList == [116, 104, 114, 101, 115, 104, 111, 108, 100]) = false := by rw [hs]; rfl
 have f6 : (str.toList == [98, 105, 112, 97, 114, 116, 105, 116, 101]) = true := by rw [hs]; rfl
 have f7 : (str.toList == [115, 116, 114, 111, 110, 103]) = false := by rw [hs]; rfl
 clear hs;clear hW h ho;cases o with
 | none =>
   go_enter Tryz.func140, Tryz.ntmps140;obtain ⟨e0, e1⟩ := gc_ HC;go_wp2_with fail
   rw [← HW.out];refine (KC.out).mono ?_;rintro e w1 ⟨rfl, hb1⟩;clear HW;clear e0 e1;replace HB := hh_ (HB.keep hb1);replace HC := hh_ (HC.keep hb1);clear hb1;obtain ⟨e0, e1⟩ := gc_ HC;clear KC;rw [lsV_none];go_wp2;go_ret3;rw [Hv.out];exact mrQ.no (HB.alloc_ _).below
 | some s =>
   go_enter Tryz.func140, Tryz.ntmps140;obtain ⟨e0, e1⟩ := gc_ HC;go_wp2_with fail
   rw [← HW.out];refine (KC.out).mono ?_;rintro e w2 ⟨rfl, hb2⟩;clear HW;clear e0 e1;replace HB := hh_ (HB.keep hb2);replace HC := hh_ (HC.keep hb2);clear hb2;obtain ⟨e0, e1⟩ := gc_ HC;clear KC;rw [lsV_some];go_wp2;go_ret3;rw [Hv.out];exact mrQ.one s HB.below
set_option maxRecDepth 100000 in
theorem mdl_i_strong (h : GA w A m c x) (hm : m ≤ 1048576) (hs : str.toList = [115, 116, 114, 111, 110, 103]) :
 Calls Tryz.prog 140 #[.agg #[.int .i64 sz, .slice A m c], .string str] w (mrQ w (mdG sz m x str.toList)) := by
 obtain ⟨W, hW, HB, HK, HC⟩ := gaW sz h;have HZ : Hid (w.heap.size ≤ W.heap.size) := HB.below.size;have HW := hh_ hW;have Hv : Hid (mdG sz m x str.toList = (gA sz m x (fun r m => redL (sgF r) (2 ^ m - 1))).map oneP) := by
  show _ = _;rw [gA_map, mdG_is];congr 1;funext r m
  unfold mdO; rw [hs, if_neg (by decide), if_neg (by decide), if_neg (by decide), if_neg (by decide), if_neg (by decide), if_neg (by decide), if_neg (by decide), if_pos rfl]
 obtain ⟨o, ho⟩ : ∃ o, o = gA sz m x (fun r m => redL (sgF r) (2 ^ m - 1)) := ⟨_, rfl⟩;have KC : Hid (Calls Tryz.prog 284 #[.agg #[.int .i64 sz, .slice A m c]] W (lsQ W o)) := by rw [ho]; exact SimpleOrder_il sz A m c x W W.heap.size HK.rd nr_ hm
 rw [← ho] at Hv;have f0 : (str.toList == [99, 104, 111, 114, 100, 97, 108]) = false := by rw [hs]; rfl
 have f1 : (str.toList == [105, 110, 116, 101, 114, 118, 97, 108]) = false := by rw [hs]; rfl
 have f2 : (str.toList == [112, 114, 111, 112, 101, 114]) = false := by rw [hs]; rfl
 have f3 : (str.toList == [99, 111, 103, 114, 97, 112, 104]) = false := by rw [hs]; rfl
 have f4 : (str.toList == [115, 112, 108, 105, 116]) = false := by rw [hs]; rfl
 have f5 : (str.toList == [116, 104, 114, 101, 115, 104, 111, 108, 100]) = false := by rw [hs]; rfl
 have f6 : (str.toList == [98, 105, 112, 97, 114, 116, 105, 116, 101]) = false := by rw [hs]; rfl
 have f7 : (str.toList == [115, 116, 114, 111, 110, 103]) = true := by rw [hs]; rfl
 clear hs;clear hW h ho;go_enter Tryz.func140, Tryz.ntmps140;obtain ⟨e0, e1⟩ := gc_ HC;go_wp2_with fail
 rw [← HW.out];refine (KC.out).mono ?_;rintro e w1 ⟨A1, c1, rfl, hL, hb1⟩;clear HW;clear e0 e1;replace HB := hh_ (HB.keep hb1);replace HC := hh_ (HC.keep hb1);clear hb1;obtain ⟨e0, e1⟩ := gc_ HC;clear KC;go_wp2;go_ret3;rw [Hv.out];exact mrQ.ls hL HZ.out HB.below
set_option maxRecDepth 100000 in
theorem mdl_i_none (h : GA w A m c x) (hs0 : str.toList ≠ [99, 104, 111, 114, 100, 97, 108]) (hs1 : str.toList ≠ [105, 110, 116, 101, 114, 118, 97, 108]) (hs2 : str.toList ≠ [112, 114, 111, 112, 101, 114]) (hs3 : str.toList ≠ [99, 111, 103, 114, 97, 112, 104]) (hs4 : str.toList ≠ [115, 112, 108, 105, 116]) (hs5 : str.toList ≠ [116, 104, 114, 101, 115, 104, 111, 108, 100]) (hs6 : str.toList ≠ [98, 105, 112, 97, 114, 116, 105, 116, 101]) (hs7 : str.toList ≠ [115, 116, 114, 111, 110, 103]) :
 Calls Tryz.prog 140 #[.agg #[.int .i64 sz, .slice A m c], .string str] w (mrQ w (mdG sz m x str.toList)) := by
 obtain ⟨W, hW, HB, HK, HC⟩ := gaW sz h;have HZ : Hid (w.heap.size ≤ W.heap.size) := HB.below.size;have HW := hh_ hW;have Hv : Hid (mdG sz m x str.toList = none) := by
  show _ = _;rw [mdG_is];cases ho : okB sz m x
  ·exact gA_no ho
  ·rw [gA_yes ho]; unfold mdO; rw [if_neg hs0, if_neg hs1, if_neg hs2, if_neg hs3, if_neg hs4, if_neg hs5, if_neg hs6, if_neg hs7]
 have f0 : (str.toList == [99, 104, 111, 114, 100, 97, 108]) = false := by simpa using hs0
 have f1 : (str.toList == [105, 110, 116, 101, 114, 118, 97, 108]) = false := by simpa using hs1
 have f2 : (str.toList == [112, 114, 111, 112, 101, 114]) = false := by simpa using hs2
 have f3 : (str.toList == [99, 111, 103, 114, 97, 112, 104]) = false := by simpa using hs3
 have f4 : (str.toList == [115, 112, 108, 105, 116]) = false := by simpa using hs4
 have f5 : (str.toList == [116, 104, 114, 101, 115, 104, 111, 108, 100]) = false := by simpa using hs5
 have f6 : (str.toList == [98, 105, 112, 97, 114, 116, 105, 116, 101]) = false := by simpa using hs6
 have f7 : (str.toList == [115, 116, 114, 111, 110, 103]) = false := by simpa using hs7
 clear hW h hs0 hs1 hs2 hs3 hs4 hs5 hs6 hs7;go_enter Tryz.func140, Tryz.ntmps140;go_wp2;rw [← HW.out];go_ret3;rw [Hv.out];exact mrQ.no HB.below
theorem modelFor_i (h : GA w A m c x) (hm : m ≤ 1048576) : Calls Tryz.prog 140 #[.agg #[.int .i64 sz, .slice A m c], .string str] w (mrQ w (mdG sz m x str.toList)) := by
 by_cases h0 : str.toList = [99, 104, 111, 114, 100, 97, 108]
 ·exact mdl_i_chordal sz A m c x str w h hm h0
 by_cases h1 : str.toList = [105, 110, 116, 101, 114, 118, 97, 108]
 ·exact mdl_i_interval sz A m c x str w h hm h1
 by_cases h2 : str.toList = [112, 114, 111, 112, 101, 114]
 ·exact mdl_i_proper sz A m c x str w h hm h2
 by_cases h3 : str.toList = [99, 111, 103, 114, 97, 112, 104]
 ·exact mdl_i_cograph sz A m c x str w h hm h3
 by_cases h4 : str.toList = [115, 112, 108, 105, 116]
 ·exact mdl_i_split sz A m c x str w h hm h4
 by_cases h5 : str.toList = [116, 104, 114, 101, 115, 104, 111, 108, 100]
 ·exact mdl_i_threshold sz A m c x str w h hm h5
 by_cases h6 : str.toList = [98, 105, 112, 97, 114, 116, 105, 116, 101]
 ·exact mdl_i_bipartite sz A m c x str w h hm h6
 by_cases h7 : str.toList = [115, 116, 114, 111, 110, 103]
 ·exact mdl_i_strong sz A m c x str w h hm h7
 exact mdl_i_none sz A m c x str w h h0 h1 h2 h3 h4 h5 h6 h7
end
end Go.Proofs.YtdpkbfiggbcclaaGreat
