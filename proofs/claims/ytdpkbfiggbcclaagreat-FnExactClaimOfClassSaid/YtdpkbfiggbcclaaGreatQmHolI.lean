/-
  Several texts in one.
-/
import Derived.Test.YtdpkbfiggbcclaaGreatQmMdlP
import Derived.Test.YtdpkbfiggbcclaaGreatQmMoiI
import Derived.Test.YtdpkbfiggbcclaaGreatQmUmbS
import Derived.Test.YtdpkbfiggbcclaaGreatQmObsP
/-
-/
namespace Go.Proofs.YtdpkbfiggbcclaaGreat
open Go.RowKit
set_option maxHeartbeats 3200000
section
variable {A : Option Addr} {m c : Nat} {r : Nat → Nat} {w : World}
set_option maxRecDepth 100000 in
theorem IntervalModelOf_v (h : GV w A m c r) : Calls Tryz.prog 278 #[.agg #[.int .i64 m, .slice A m c]] w (ivQ w (ivO r m)) := by
 obtain ⟨W, hW⟩ : ∃ W, W = ((w.alloc (Obj.cells #[.int .i64 m, .slice A m c] 28)).alloc (Obj.cells #[.slice none 0 0, .slice none 0 0] 141)) := ⟨_, rfl⟩;have HB : Hid (From w W) := by rw [hW]; exact (From.alloc _ _).alloc_ _
 have HG : Hid (GBox W w.heap.size A m c r) := by rw [hW]; exact h.box.keep (br_.alloc nr_ _)
 have HD : Hid (MB W (w.heap.size + 1) none 0 0 none 0 0) := by
  rw [hW];have := MB.new (w.alloc (Obj.cells #[.int .i64 m, .slice A m c] 28));have e : (w.alloc (Obj.cells #[.int .i64 m, .slice A m c] 28)).heap.size = w.heap.size + 1 := by simp
  rw [e] at this;exact this
 have HW := hh_ hW;have hn7 := h.vg.n7;have hn1 := h.vg.n1;obtain ⟨so, hso⟩ : ∃ so, so = clO r m := ⟨_, rfl⟩;have KC := hh_ (CliqueOrderOf_v HG.gv);rw [← hso] at KC;have Hso := hh_ hso;clear hW h hso;cases so with
 | none =>
   have Hn : Hid (ivO r m = none) := ivO_none Hso.symm;go_enter Tryz.func278, Tryz.ntmps278;obtain ⟨e0, e1⟩ := gx_ HG;have d0 := HD.c0;have d1 := HD.c1;have d2 := HD.f0;have d3 := HD.f1;go_wp2_with fail
   rw [← HW.out];refine (KC.out).mono ?_;rintro e w1 ⟨A1, c1, rfl, _, hb1⟩;clear HW;clear e0 e1 d0 d1 d2 d3;replace HB := hh_ (HB.keep hb1);replace HG := hh_ (HG.keep hb1);replace HD := hh_ (HD.keep hb1);clear hb1;obtain ⟨e0, e1⟩ := gx_ HG;have d0 := HD.c0;have d1 := HD.c1;have d2 := HD.f0;have d3 := HD.f1;clear KC;go_wp2;have HE := (HB.set (q := w.heap.size + 1) (by omega) (.slice none 0 0) (.slice none 0 0)).below;exact bodyPost_ret (v := .tuple #[.agg #[.slice none 0 0, .slice none 0 0], .bool false]) (by simp [results, Tryz.results278, go_sem, *]) rfl (by rw [Hn.out]; exact ivQ.no HE)
 | some l =>
   have Hn : Hid (ivO r m = mdV l m) := ivO_some Hso.symm;have hlen : l.length ≤ 1048576 := Nat.le_trans (clO_len hn7 Hso.symm) (by omega);go_enter Tryz.func278, Tryz.ntmps278;obtain ⟨e0, e1⟩ := gx_ HG;have d0 := HD.c0;have d1 := HD.c1;have d2 := HD.f0;have d3 := HD.f1;go_wp2_with fail
   rw [← HW.out];refine (KC.out).mono ?_;rintro e w2 ⟨A1, c1, rfl, hL, hb2⟩;clear HW;clear e0 e1 d0 d1 d2 d3;replace HB := hh_ (HB.keep hb2);replace HG := hh_ (HG.keep hb2);replace HD := hh_ (HD.keep hb2);clear hb2;obtain ⟨e0, e1⟩ := gx_ HG;have d0 := HD.c0;have d1 := HD.c1;have d2 := HD.f0;have d3 := HD.f1;have HL : Hid (ON W.heap.size w2 A1 c1 l) := hL;clear hL KC;have hq2 : w.heap.size + 1 < w2.heap.size := HD.lt;have hz2 := HB.below.size;go_wp2_with fail
   refine (ModelOfOrder_i HL.ln (clO_lt Hso.symm) hn1 hn7 hlen).mono ?_;rintro e w3 ⟨A2, c2, A3, c3, rfl, hx, hb3⟩;clear e0 e1 d0 d1 d2 d3;replace HB := hh_ (HB.keep hb3);replace HG := hh_ (HG.keep hb3);replace HD := hh_ (HD.keep hb3);clear hb3;obtain ⟨e0, e1⟩ := gx_ HG;have d0 := HD.c0;have d1 := HD.c1;have d2 := HD.f0;have d3 := HD.f1;have HX := hh_ hx;obtain ⟨n2, hn2⟩ : ∃ n2, n2 = (pG (mdV l m)).1.length := ⟨_, rfl⟩;obtain ⟨n3, hn3⟩ : ∃ n3, n3 = (pG (mdV l m)).2.length := ⟨_, rfl⟩;obtain ⟨bb, hbb⟩ : ∃ bb, bb = (mdV l m).isSome := ⟨_, rfl⟩;rw [← hn2, ← hn3, ← hbb];have HN2 := hh_ hn2;have HN3 := hh_ hn3;have HBB := hh_ hbb;clear hx hn2 hn3 hbb;go_wp2;have F := fr2 w3 (w.heap.size + 1) (.slice A2 n2 c2) (.slice A3 n3 c3);have HE := (HB.set (q := w.heap.size + 1) (by omega) (.slice A2 n2 c2) (.slice A3 n3 c3)).below;exact bodyPost_ret (v := .tuple #[.agg #[.slice A2 n2 c2, .slice A3 n3 c3], .bool bb]) (by simp [results, Tryz.results278, go_sem, *]) rfl (by
    rw [Hn.out];exact ⟨A2, c2, A3, c3, by rw [← HN2.out, ← HN3.out, ← HBB.out], (HX.keepF F (by omega)).mono hz2, HE⟩)
end
section
variable (sz : Int) (A : Option Addr) (m c : Nat) (x : Nat → Int) (w : World)
set_option maxRecDepth 100000 in
theorem IntervalModelOf_no (h : GA w A m c x) (hm : m ≤ 1048576) (hok : okB sz m x = false) : Calls Tryz.prog 278 #[.agg #[.int .i64 sz, .slice A m c]] w (ivQ w none) := by
 obtain ⟨W, hW⟩ : ∃ W, W = ((w.alloc (Obj.cells #[.int .i64 sz, .slice A m c] 28)).alloc (Obj.cells #[.slice none 0 0, .slice none 0 0] 141)) := ⟨_, rfl⟩;have HB : Hid (From w W) := by rw [hW]; exact (From.alloc _ _).alloc_ _
 have HK := hh_ (h.keep HB.below);have HC : Hid (GC W w.heap.size sz A m c) := by rw [hW]; exact (GC.new _ _ _ _ _).keep (br_.alloc nr_ _)
 have HD : Hid (MB W (w.heap.size + 1) none 0 0 none 0 0) := by
  rw [hW];have := MB.new (w.alloc (Obj.cells #[.int .i64 sz, .slice A m c] 28));have e : (w.alloc (Obj.cells #[.int .i64 sz, .slice A m c] 28)).heap.size = w.heap.size + 1 := by simp
  rw [e] at this;exact this
 have HW := hh_ hW;have KC := hh_ (CliqueOrderOf_no sz A m c x W HK hm hok);clear hW h hok;go_enter Tryz.func278, Tryz.ntmps278;obtain ⟨e0, e1⟩ := gc_ HC;have d0 := HD.c0;have d1 := HD.c1;have d2 := HD.f0;have d3 := HD.f1;go_wp2_with fail
 rw [← HW.out];refine (KC.out).mono ?_;rintro e w1 ⟨A1, c1, rfl, _, hb1⟩;clear HW;clear e0 e1 d0 d1 d2 d3;replace HB := hh_ (HB.keep hb1);replace HC := hh_ (HC.keep hb1);replace HD := hh_ (HD.keep hb1);clear hb1;obtain ⟨e0, e1⟩ := gc_ HC;have d0 := HD.c0;have d1 := HD.c1;have d2 := HD.f0;have d3 := HD.f1;clear KC;go_wp2;have HE := (HB.set (q := w.heap.size + 1) (by omega) (.slice none 0 0) (.slice none 0 0)).below;exact bodyPost_ret (v := .tuple #[.agg #[.slice none 0 0, .slice none 0 0], .bool false]) (by simp [results, Tryz.results278, go_sem, *]) rfl (by exact ivQ.no HE)
end
set_option maxHeartbeats 1600000
theorem IndexFunc_T (A : Option Addr) (c : Nat) (l : List Nat) (p : Nat → Bool) (bg bl : Nat) (w : World) (B : Nat) (h : Rd w B A l.length c (fun j => ((l.getD j 0 : Nat) : Int))) (hB : B ≤ w.heap.size) (hl : l.length ≤ 7)
 (HF : Hid (∀ (j : Nat) (hj : j < l.length) (w' : World), Below w.heap.size w w' → Calls Tryz.prog 357 #[.int .i64 (l[j] : Int), .pointer (some ⟨bg, 0, none⟩), .pointer (some ⟨bl, 0, none⟩)] w' fun e w'' => e = .returned (.bool (p j)) ∧ Below w'.heap.size w' w'')) :
 Calls Tryz.prog 353 #[.slice A l.length c, .func (.func 357) #[] #[.pointer (some ⟨bg, 0, none⟩), .pointer (some ⟨bl, 0, none⟩)]] w fun e w' => e = .returned (.int .i64 (fIdx p l.length)) ∧ Below w.heap.size w w' := by
 have HR := hh_ h;clear h;go_enter Tryz.func353, Tryz.ntmps353;go_wp2;go_loopw [8] (fun i wr => ∃ k : Nat, k ≤ l.length ∧ i = .int .i64 k ∧ Hid (∀ j, j < k → p j = false) ∧ Hid (Below w.heap.size w wr)) (fun i _ => l.length - (intOf i).toNat);case atStart => exact ⟨0, Nat.zero_le _, rfl, (fun j hj => absurd hj (by omega)), br_⟩
 case round =>
  obtain ⟨k, hk, rfl, hall, hbr⟩ := hrel;have zr := hbr.size;by_cases hlt : k < l.length
  ·obtain ⟨b, o, rfl, hb, hc⟩ := HR.pos (by omega);have q0 : wr.cell? ⟨b, o + k, none⟩ = some (.int .i64 (l[k] : Int)) := ((hbr.cell (p := ⟨b, o + k, none⟩) (by show b < _; omega)).trans (hc k hlt)).trans (by simp [List.getD, hlt]);have K1 := hh_ (HF.out k hlt wr hbr.out);obtain ⟨v, hv⟩ : ∃ v : Nat, v = l[k] := ⟨_, rfl⟩;rw [← hv] at q0 K1;have i1 : (k : Int) < l.length := by omega
   clear hc hv;cases hp : p k
   ·rw [hp] at K1;have Hp := hh_ hp;clear hp;go_wp2_with fail
    refine K1.mono ?_;rintro e w3 ⟨rfl, hb3⟩;have HB3 : Hid (Below w.heap.size w w3) := hbr.trans (hb3.mono zr);clear hb3 hbr q0;go_wp2;go_roundw;case rel =>
     refine ⟨k + 1, by omega, by go_num, fun j hj => ?_, HB3⟩;by_cases hjk : j < k
     ·exact hall.out j hjk
     ·obtain rfl : j = k := by omega
      exact Hp.out
    case measure => simp [intOf]; omega
   ·rw [hp] at K1;have Hi : Hid (fIdx p l.length = k) := fIdx_yes hlt hp hall.out;clear hp;go_wp2_with fail
    refine K1.mono ?_;rintro e w3 ⟨rfl, hb3⟩;have HB3 : Hid (Below w.heap.size w w3) := hbr.trans (hb3.mono zr);clear hb3 hbr q0;go_wp2;go_ret;exact ⟨ret_int Hi.symm, HB3⟩
  ·have Hi : Hid (fIdx p l.length = -1) := fIdx_no fun j hj => hall.out j (by omega)
   have i1 : (l.length : Int) ≤ (k : Int) := by omega
   go_wp2;go_ret;exact ⟨ret_int Hi.symm, hbr.out⟩
set_option maxRecDepth 100000 in
theorem two_i (m : Nat) (A : Option Addr) (c : Nat) (x : Nat → Int) (s v bg bl : Nat) (w : World) (B : Nat) (h : Rd w B A m c x) (hB : B ≤ w.heap.size) (hok : okB m m x = true) (hs : s < 2 ^ m) (hv : v < m)
 (e0 : w.cell? ⟨bg, 0, none⟩ = some (.int .i64 m)) (e1 : w.cell? ⟨bg, 1, none⟩ = some (.slice A m c)) (e2 : w.cell? ⟨bl, 0, none⟩ = some (.int .i64 s)) :
 Calls Tryz.prog 357 #[.int .i64 (v : Int), .pointer (some ⟨bg, 0, none⟩), .pointer (some ⟨bl, 0, none⟩)] w fun e w' => e = .returned (.bool (tkB (rw_ x) s v m)) ∧ Below w.heap.size w w' := by
 have HG : Hid (GV w A m c (rw_ x)) := GV.of h hB hok;have KS := hh_ (twinIn_v HG hs hv);have HF : Hid (From w w) := From.refl w;clear h hok;go_enter Tryz.func357, Tryz.ntmps357;go_wp2_with fail
 refine KS.mono ?_;rintro e w1 ⟨rfl, hb1⟩;replace HF := hh_ (HF.keep hb1);clear hb1;go_wp2;go_ret;exact ⟨rfl, HF.below⟩
set_option maxRecDepth 100000 in
theorem TwinOrder_il (sz : Int) (A : Option Addr) (m c : Nat) (x : Nat → Int) (w : World) (B : Nat) (h : Rd w B A m c x) (hB : B ≤ w.heap.size) (hm : m ≤ 1048576) :
 Calls Tryz.prog 280 #[.agg #[.int .i64 sz, .slice A m c]] w (lsQ w (orG (twF m) sz m x)) := by
 obtain ⟨W, hW⟩ : ∃ W, W = (w.alloc (Obj.cells #[.int .i64 sz, .slice A m c] 28)) := ⟨_, rfl⟩;have HB : Hid (Below w.heap.size w W) := by rw [hW]; exact (br_.alloc nr_ _)
 have a0 : w.heap.size < W.heap.size := by rw [hW]; simp
 have e0 : W.cell? ⟨w.heap.size, 0, none⟩ = some (.int .i64 sz) := by rw [hW]; simp [go_sem]
 have e1 : W.cell? ⟨w.heap.size, 1, none⟩ = some (.slice A m c) := by rw [hW]; simp [go_sem]
 have HK := hh_ (h.keep (HB.mono hB) nr_);have HW := hh_ hW;clear hW h;go_enter Tryz.func280, Tryz.ntmps280;go_wp2_with fail
 rw [← HW.out];refine (IsGraph_any sz A m c x W B HK (by omega) hm).mono ?_;rintro e w1 ⟨rfl, hb1⟩;have f0 := up hb1 e0 a0;have f1 := up hb1 e1 a0;have z1 := hb1.size;have HB1 : Hid (Below w.heap.size w w1) := HB.trans (hb1.mono (by omega));have HK1 : Hid (Rd w1 B A m c x) := HK.keep (hb1.mono (by omega)) nr_;clear hb1 e0 e1 HW HK HB;cases ho : okB sz m x
 ·have hno : Hid (orG (twF m) sz m x = none) := orG_no ho;clear ho;go_wp2;go_ret2;rw [hno.out];exact lsQ.no HB1
 ·have hok2 : OkG sz m x := by
   refine Classical.byContradiction fun h2 => ?_
   rw [okB_no h2] at ho; cases ho
  obtain ⟨_, es, vg0, _⟩ := hok2;subst es;have hn1 := vg0.n1;have hn7 := vg0.n7;have h128 := two_pow_le hn7;have hpos := Nat.two_pow_pos m;have Hok := hh_ ho;clear ho vg0;obtain ⟨W2, hW2⟩ : ∃ W2, W2 = w1.alloc (Obj.cells #[] 3) := ⟨_, rfl⟩;have hb2 : Below w1.heap.size w1 W2 := by rw [hW2]; exact br_.alloc nr_ _
  have z2 : w1.heap.size < W2.heap.size := by rw [hW2]; simp
  have hg : W2.heap[w1.heap.size]? = some (.cells #[] 3 (0, 0)) := by rw [hW2]; exact heap_alloc_new w1 _
  have b1 : w.heap.size < w1.heap.size := by omega
  have HW2 := hh_ hW2;have HG := hh_ hg;have HB2 := hh_ hb2;clear hW2 hg hb2;go_wp2_with fail
  rw [← HW2.out];clear HW2;refine (all_any m A c W2 hn7).mono ?_;rintro e w2 ⟨rfl, hb3⟩;have z3 := hb3.size;have b2 : w.heap.size < w2.heap.size := by omega
  have HB3 : Hid (Below w1.heap.size w1 w2) := HB2.trans (hb3.mono (by omega));have g0 := up HB3 f0 b1;have g1 := up HB3 f1 b1;have HO : Hid (Own w2 w1.heap.size (w1.heap.size + 1) 3 1 (some ⟨w1.heap.size, 0, none⟩) 0 0 (ni [])) :=
   .inr ⟨w1.heap.size, #[], rfl, nr_, Nat.lt_succ_self _, (hb3.block _ z2).trans HG, nr_, by unfold maxLen; omega, rfl, fun j hj => absurd hj (by omega)⟩
  have HK2 : Hid (Rd w2 B A m c x) := HK1.keep (HB3.mono (by omega)) nr_;have HB4 : Hid (Below w.heap.size w w2) := HB1.trans (HB3.mono (by omega));clear hb3 f0 f1 HG HB2 HK1 HB1;go_wp2;go_loopw [4] (fun l wr => ∃ (left : Nat) (T : List Nat) (g' c' : Nat), l = .slice (some ⟨g', 0, none⟩) T.length c' ∧ wr.cell? ⟨w2.heap.size, 0, none⟩ = some (.int .i64 left) ∧ wr.frozen? ⟨w2.heap.size, 0, none⟩ = false ∧ g' ≠ w2.heap.size ∧ g' < wr.heap.size ∧ w1.heap.size ≤ g' ∧ w2.heap.size < wr.heap.size ∧ T.length + left + 1 ≤ 2 ^ m ∧ Hid (Own wr g' (g' + 1) 3 1 (some ⟨g', 0, none⟩) T.length c' (ni T)) ∧ Hid (redL ((twF m) (rw_ x)) (2 ^ m - 1) = (redL ((twF m) (rw_ x)) left).map (T ++ ·)) ∧ Hid (Below w1.heap.size w2 wr)) (fun _ wr => match wr.cell? ⟨w2.heap.size, 0, none⟩ with | some v => (intOf v).toNat | none => 0);case atStart => exact ⟨2 ^ m - 1, [], w1.heap.size, 0, rfl, by simp [go_sem], by simp [go_sem], by omega, by simp; omega, nr_, by simp, by simp; omega, HO.alloc _, redL_start, br_.alloc (by omega) _⟩
  case round =>
   obtain ⟨left, T, g', c', rfl, l0, l1, d1, d2, d3, d4, hkl, HZ, HE, hbr⟩ := hrel;obtain ⟨k, hkT⟩ : ∃ k, k = T.length := ⟨_, rfl⟩;rw [← hkT] at hkl HZ ⊢;have HkT := hh_ hkT;clear hkT;have zr := hbr.size;have j0 := up hbr.out g0 b1;have j1 := up hbr.out g1 b1;go_wp2_with fail
   refine (CountSet_v left (by omega) wr).mono ?_;rintro e wq ⟨rfl, hbq⟩;have zq := hbq.size;have HM := hh_ l0;replace l0 := up hbq l0 d4;replace l1 := upf hbq l1 d4;replace j0 := up hbq j0 (by omega);replace j1 := up hbq j1 (by omega);replace HZ := hh_ (HZ.keepB hbq (by omega));replace hbr := hh_ (hbr.trans (hbq.mono (by omega)));replace d2 : g' < wq.heap.size := by omega
   replace d4 : w2.heap.size < wq.heap.size := by omega
   clear hbq;by_cases hl0 : cn left ≤ 1
   ·have hle : (cn left : Int) ≤ 1 := by omega
    have Hl1 := hh_ hl0;clear hl0;go_wp2_with fail
    refine (ListOf_i left (by omega) wq).mono ?_;rintro e w3 ⟨A3, c3, rfl, hO3, hb3⟩;have z4 := hb3.size;have hl7 := listN_len left;have HL3 : Hid (Rd w3 w3.heap.size A3 (listN left).length c3 (fun j => (((listN left).getD j 0 : Nat) : Int))) := hO3.rd;have HZ3 : Hid (Own w3 g' (g' + 1) 3 1 (some ⟨g', 0, none⟩) k c' (ni T)) := HZ.keepB hb3 (by omega);have HB5 : Hid (Below w.heap.size w w3) := HB4.trans ((hbr.trans (hb3.mono (by omega))).mono (by omega));have hyes : Hid (orG (twF m) (m : Int) m x = some (T ++ listN left)) := orG_eq Hok.out (tw_end Hl1.out (by omega) HE.out);obtain ⟨N, hN⟩ : ∃ N, N = (listN left).length := ⟨_, rfl⟩;have HN := hh_ hN;rw [← hN] at hl7 HL3 ⊢;clear hO3 hb3 hbr HZ l0 l1 j0 j1 hN HE;go_wp2_with (first | (at_builtin; (refine wpList_appendI _ rfl _ _ rfl rfl HZ3.out rfl HL3.out (by omega) (by omega) (by omega) ?_; intro A6 c6 w6 hO6 hb6)))
    have HO6 : Hid (Own w6 w.heap.size w6.heap.size 3 1 A6 (k + N) c6 (ni (T ++ listN left))) := (hO6.congr fun j _ => thenI_ni HkT.out).mono (by omega) nr_;have HB6 : Hid (Below w.heap.size w w6) := HB5.trans (hb6.mono (by omega));have He : Hid (k + N = (T ++ listN left).length) := by show _ = _; rw [List.length_append, HkT.out, HN.out]
    clear hO6 hb6;go_ret2;rw [hyes.out, He.out];exact lsQ.yes ⟨by rw [← He.out]; exact HO6.out⟩ HB6
   ·have hne : (1 : Int) < (cn left : Int) := by omega
    have Hl1 := hh_ hl0;have Hl0 := hh_ (cn_many hl0);clear hl0;go_wp2_with fail
    refine (ListOf_i left (by omega) wq).mono ?_;rintro e w3 ⟨A3, c3, rfl, hO3, hb3⟩;have z4 := hb3.size;have i0 := up hb3 l0 d4;have i1 := upf hb3 l1 d4;have i2 := up hb3 j0 (by omega);have i3 := up hb3 j1 (by omega);have HL3 : Hid (Rd w3 w3.heap.size A3 (listN left).length c3 (fun j => (((listN left).getD j 0 : Nat) : Int))) := hO3.rd;have HK3 : Hid (Rd w3 B A m c x) := (HK2.keep (hbr.mono (by omega)) nr_).keep (hb3.mono (by omega)) nr_;have HZ3 : Hid (Own w3 g' (g' + 1) 3 1 (some ⟨g', 0, none⟩) k c' (ni T)) := HZ.keepB hb3 (by omega);have HB5 : Hid (Below w1.heap.size w2 w3) := hbr.trans (hb3.mono (by omega));have hl7 := listN_len left;have HF : Hid (∀ (j : Nat) (hj : j < (listN left).length) (w' : World), Below w3.heap.size w3 w' → Calls Tryz.prog 357 #[.int .i64 ((listN left)[j] : Int), .pointer (some ⟨w.heap.size, 0, none⟩), .pointer (some ⟨w2.heap.size, 0, none⟩)] w' fun e w'' => e = .returned (.bool (tkB (rw_ x) left ((listN left).getD j 0) m)) ∧ Below w'.heap.size w' w'') := by
     intro j hj w' hb;have hv := listN_at hj;have hvm := bit_lt (by omega : left < 2 ^ m) hv.2;have e1 : (listN left).getD j 0 = (listN left)[j] := by simp [List.getD, hj]
     rw [e1];exact two_i m A c x left _ _ _ w' B (HK3.keep (hb.mono (by omega)) nr_) (by have := hb.size; omega) Hok.out (by omega) hvm (up hb i2 (by omega)) (up hb i3 (by omega)) (up hb i0 (by omega))
    clear hO3 hb3 hbr HZ l0 l1 j0 j1;go_wp2_with fail
    refine (IndexFunc_T A3 c3 (listN left) (fun j => tkB (rw_ x) left ((listN left).getD j 0) m) w.heap.size w2.heap.size w3 w3.heap.size HL3.out nr_ hl7 HF).mono ?_;rintro e w4 ⟨rfl, hb4⟩;have z5 := hb4.size;have k0 := up hb4 i0 (by omega);have k1 := upf hb4 i1 (by omega);have HZ4 : Hid (Own w4 g' (g' + 1) 3 1 (some ⟨g', 0, none⟩) k c' (ni T)) := HZ3.keepB hb4 (by omega);have HB6 : Hid (Below w1.heap.size w2 w4) := HB5.trans (hb4.mono (by omega));clear hb4 i0 i1 i2 i3 HF HL3 HK3 HZ3 HB5;cases hf : (twF m) (rw_ x) left with
    | none =>
      have HI : Hid (fIdx (fun j => tkB (rw_ x) left ((listN left).getD j 0) m) (listN left).length = -1) := fIdx_no fun j hj => by
       have := twF_none' Hl1.out hf j hj;simpa [List.getD, hj] using this
      have hno : Hid (orG (twF m) (m : Int) m x = none) := orG_eq Hok.out (redL_stuck Hl0.out hf HE.out);rw [HI.out];clear hf HI;go_wp2;go_ret2;rw [hno.out];exact lsQ.no (HB4.trans (HB6.mono (by omega)))
    | some v =>
      obtain ⟨kk, hkk, hv, hy, hmin⟩ := twF_place Hl1.out hf;have HI : Hid (fIdx (fun j => tkB (rw_ x) left ((listN left).getD j 0) m) (listN left).length = kk) := fIdx_yes hkk (by simpa [List.getD, hkk, hv] using hy) (fun j hj => by
       have := hmin j hj;have hj2 : j < (listN left).length := by omega
       simpa [List.getD, hj2] using this)
      have hbit := twF_bit Hl1.out hf;have HE2 : Hid (redL ((twF m) (rw_ x)) (2 ^ m - 1) = (redL ((twF m) (rw_ x)) (left ^^^ 2 ^ v)).map ((T ++ [v]) ++ ·)) := redL_step hbit.2 hf HE.out;have hlt := xor_bit_lt hbit.2;have hxs := xor_bit hbit.2;have Hv := hh_ hv;have Hbit := hh_ hbit.2;have hv7 := hbit.1;rw [HI.out];clear hf HI hy hmin hbit hv;have n1 : (0 : Int) ≤ kk := by omega
      have n2 : (kk : Int) < ((listN left).length : Int) := by omega
      go_wp2_with fail
      refine (ListOf_i left (by omega) w4).mono ?_;rintro e w5 ⟨A5, c5, rfl, hO5, hb5⟩;have z6 := hb5.size;obtain ⟨g5, rfl, _, hg5, _, hc5, _⟩ := hO5.at_ (by omega);have q0 : w5.cell? ⟨g5, kk, none⟩ = some (.int .i64 v) := (hc5 kk (by omega)).trans (by rw [ni_at hkk, Hv.out]);have m0 := up hb5 k0 (by omega);have m1 := upf hb5 k1 (by omega);have HZ5 : Hid (Own w5 g' (g' + 1) 3 1 (some ⟨g', 0, none⟩) k c' (ni T)) := HZ4.keepB hb5 (by omega);have HB7 : Hid (Below w1.heap.size w2 w5) := HB6.trans (hb5.mono (by omega));have E := i64_andNot_nat left (2 ^ v) (by omega) (by have := two_pow_le (n := v) (by omega); omega);have p1 := pow_shl v (by omega);have p2 : ((2 ^ v : Nat) : Int) = 2 ^ v := by simp
      rw [p2, hxs.1] at E;clear hb5 hO5 hc5 HB6 k0 k1 HZ4 p2;go_wp2;have hz := HZ5.out;have HP : Hid (Own ((w5.alloc (Obj.cells #[.int .i64 (v : Int)] 3)).drew) g' (g' + 1) 3 1 (some ⟨g', 0, none⟩) k c' (fun j => if j < k then ni T j else .int .i64 (v : Int))) := (hz.alloc _).congr (fun j hj => by rw [if_pos (by omega)]);have HXn : Hid (∀ i, i < 1 → (#[.int .i64 (v : Int)] : Array Value)[i]? = some ((fun j => if j < k then ni T j else Value.int .i64 (v : Int)) (k * 1 + i))) := by
       intro i hi;obtain rfl : i = 0 := by omega
       simp
      have M0 : Hid (((w5.alloc (Obj.cells #[.int .i64 (v : Int)] 3)).drew).cell? ⟨w2.heap.size, 0, none⟩ = some (.int .i64 left)) := (World.cell?_alloc_lt w5 _ ⟨w2.heap.size, 0, none⟩ (by show w2.heap.size < _; omega)).trans m0;have M3 : Hid (((w5.alloc (Obj.cells #[.int .i64 (v : Int)] 3)).drew).frozen? ⟨w2.heap.size, 0, none⟩ = false) := (World.frozen?_of_block (Below.heap_alloc w5 _ w2.heap.size (by omega))).trans m1;have M1 : Hid (w2.heap.size < ((w5.alloc (Obj.cells #[.int .i64 (v : Int)] 3)).drew).heap.size) := by show w2.heap.size < (w5.alloc _).heap.size; simp; omega
      have M2 : Hid (w2.heap.size < g' ∨ g' + 1 ≤ w2.heap.size) := by show _ ∨ _; omega
      have n5 : w2.heap.size < w5.heap.size := by omega
      go_region_law
       ((refine step_push _ (by rfl) _ _ _ (by rfl) 3 _ 1 8 Tryz.underlying22 info_int rfl (by omega) g' (g' + 1) (some ⟨g', 0, none⟩) k c' (fun j => if j < k then ni T j else .int .i64 (v : Int)) (by rfl) HP.out (by simp; omega) w5.heap.size #[.int .i64 (v : Int)] 3 (0, 0) 1 (heap_alloc_new w5 _) (by rfl) rfl HXn.out (by simp [Value.oneCell']) (by omega) (by omega) ?_; intro g6 cap w6 hp; have m2 := frZ hp.caged.2.2.2 M3.out M1.out M2.out; have m3 := frC hp.caged.2.2.2 M0.out M1.out M2.out))
      all_goals
       obtain ⟨hq1, hq2, hq3, hq4⟩ := hp.caged;have hq5 : Fr g' (g' + 1) w5 w6 := (((Fr.refl _ _ w5).alloc _).drew).trans hq4;have hq6 : g6 ≠ w2.heap.size ∧ w1.heap.size ≤ g6 := by
        rcases hq2 with h | h
        ·exact ⟨by omega, by omega⟩
        ·have h2 : g6 = w5.heap.size + 1 := by rw [h]; show (w5.alloc _).heap.size = _; simp
         exact ⟨by omega, by omega⟩
       have zz := hq5.size;have HF6 : Hid (Fr w2.heap.size (w2.heap.size + 1) w6 (w6.setCell ⟨w2.heap.size, 0, none⟩ (.int .i64 ((left ^^^ 2 ^ v : Nat) : Int)))) := (Fr.refl _ _ w6).setCell (p := ⟨w2.heap.size, 0, none⟩) nr_ (Nat.lt_succ_self _) _;have He9 : Hid ((T ++ [v]).length = k + 1) := by show _ = _; rw [HkT.out]; simp
       have HO6 : Hid (Own (w6.setCell ⟨w2.heap.size, 0, none⟩ (.int .i64 ((left ^^^ 2 ^ v : Nat) : Int))) g6 (g6 + 1) 3 1 (some ⟨g6, 0, none⟩) (T ++ [v]).length cap (ni (T ++ [v]))) := by
        rw [He9.out];exact (hq1.keep HF6.out (by omega)).congr (fun j hj => ni_snocL HkT.out (by omega))
       have HB8 : Hid (Below w1.heap.size w2 (w6.setCell ⟨w2.heap.size, 0, none⟩ (.int .i64 ((left ^^^ 2 ^ v : Nat) : Int)))) := (HB7.trans (hq5.below d3 (by omega))).setCell (p := ⟨w2.heap.size, 0, none⟩) (by show w1.heap.size ≤ w2.heap.size; omega) _;have y1 : g6 < (w6.setCell ⟨w2.heap.size, 0, none⟩ (.int .i64 ((left ^^^ 2 ^ v : Nat) : Int))).heap.size := Nat.lt_of_lt_of_le hq3 HF6.size;have y2 : w2.heap.size < (w6.setCell ⟨w2.heap.size, 0, none⟩ (.int .i64 ((left ^^^ 2 ^ v : Nat) : Int))).heap.size := Nat.lt_of_lt_of_le (by omega) HF6.size;obtain ⟨y3, y4⟩ := hq6;clear hp hq1 hq2 hq4 hq5 HP HXn M0 M1 M2 M3 hz q0 E m0 m1;go_wp2;go_roundw;case rel => exact ⟨left ^^^ 2 ^ v, T ++ [v], g6, cap, by rw [He9.out], by simp [go_sem, m3], by simp [go_sem, m2], y3, y1, y4, y2, by rw [He9.out]; omega, HO6, HE2, HB8⟩
       case measure => rw [HM.out]; simp [go_sem, m3, intOf]; omega
set_option maxHeartbeats 1600000
section
variable {A : Option Addr} {m c : Nat} {r : Nat → Nat}
theorem IsHole_v {w : World} (h : GV w A m c r) {Al : Option Addr} {cl : Nat} {l : List Nat} (hl : LN w Al cl l) (hlen : l.length ≤ 7) :
 Calls Tryz.prog 217 #[.agg #[.int .i64 m, .slice A m c], .slice Al l.length cl] w fun e w' => e = .returned (.bool (hoR r m l)) ∧ Below w.heap.size w w' :=
 IsHole_i m A m c _ Al l.length cl _ w h.ga hl.li (by have := h.vg.n7; omega) (by omega)
set_option maxRecDepth 100000 in
theorem HolM {q p n : Nat} {Al : Option Addr} {cl : Nat} {l : List Nat} {w : World} (h : GBox w q A m c r) (hp : w.cell? ⟨p, 0, none⟩ = some (.int .i64 n)) (hl : LN w Al cl l) (hlen : l.length ≤ 7) :
 Calls Tryz.prog 213 #[.slice Al l.length cl, .pointer (some ⟨p, 0, none⟩), .pointer (some ⟨q, 0, none⟩)] w fun e w' => e = .returned (.bool (mayI r m n l)) ∧ Below w.heap.size w w' := by
 have KP := hh_ (IsInducedPath_v h.gv hl hlen);have e0 := h.c0;have e1 := h.c1;have HF : Hid (From w w) := From.refl w;clear h hl;by_cases hn : l.length = n
 ·have Hv : Hid (mayI r m n l = true) := by unfold mayI; rw [decide_eq_true hn]; rfl
  have heq : ((l.length : Int) == (n : Int)) = true := by simp; omega
  have heq2 : (l.length = n) = True := by simp [hn]
  clear hn;go_enter Tryz.func213, Tryz.ntmps213;go_wp2;go_ret;exact ⟨by rw [Hv.out]; rfl, HF.below⟩
 ·have Hv : Hid (mayI r m n l = ptB r m l) := by unfold mayI; rw [decide_eq_false hn]; rfl
  have heq : ((l.length : Int) == (n : Int)) = false := by simp; omega
  have heq2 : (l.length = n) = False := by simp [hn]
  clear hn;go_enter Tryz.func213, Tryz.ntmps213;go_wp2_with fail
  refine KP.mono ?_;rintro e w1 ⟨rfl, hb1⟩;replace HF := hh_ (HF.keep hb1);clear hb1;go_wp2;go_ret;exact ⟨by rw [Hv.out]; rfl, HF.below⟩
set_option maxRecDepth 100000 in
theorem HolH {q : Nat} {Al : Option Addr} {cl : Nat} {l : List Nat} {w : World} (h : GBox w q A m c r) (hl : LN w Al cl l) (hlen : l.length ≤ 7) :
 Calls Tryz.prog 216 #[.slice Al l.length cl, .pointer (some ⟨q, 0, none⟩)] w fun e w' => e = .returned (.bool (hoR r m l)) ∧ Below w.heap.size w w' := by
 have KP := hh_ (IsHole_v h.gv hl hlen);have e0 := h.c0;have e1 := h.c1;have HF : Hid (From w w) := From.refl w;clear h hl;go_enter Tryz.func216, Tryz.ntmps216;go_wp2_with fail
 refine KP.mono ?_;rintro e w1 ⟨rfl, hb1⟩;replace HF := hh_ (HF.keep hb1);clear hb1;go_wp2;go_ret;exact ⟨rfl, HF.below⟩
end
end Go.Proofs.YtdpkbfiggbcclaaGreat
