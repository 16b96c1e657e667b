/-
  Several texts in one.
-/
import Derived.Test.YtdpkbfiggbcclaaGreatQmMdlP
import Derived.Test.YtdpkbfiggbcclaaGreatQmSimS
import Derived.Test.YtdpkbfiggbcclaaGreatQmCluS
import Derived.Test.YtdpkbfiggbcclaaGreatQmUmbS
import Derived.Test.YtdpkbfiggbcclaaGreatQmGC
/-
-/
namespace Go.Proofs.YtdpkbfiggbcclaaGreat
open Go.RowKit
set_option maxHeartbeats 3200000
section
variable {A : Option Addr} {m c : Nat} {r : Nat → Nat} {w : World}
set_option maxRecDepth 100000 in
theorem IntervalModelOf_sv (h : GV w A m c r) : Calls Tryz.prog 270 #[.agg #[.int .i64 m, .slice A m c]] w (ivQ w (ivO r m)) := by
 obtain ⟨W, hW⟩ : ∃ W, W = ((w.alloc (Obj.cells #[.int .i64 m, .slice A m c] 28)).alloc (Obj.cells #[.slice none 0 0, .slice none 0 0] 141)) := ⟨_, rfl⟩;have HB : Hid (From w W) := by rw [hW]; exact (From.alloc _ _).alloc_ _
 have HG : Hid (GBox W w.heap.size A m c r) := by rw [hW]; exact h.box.keep (br_.alloc nr_ _)
 have HD : Hid (MB W (w.heap.size + 1) none 0 0 none 0 0) := by
  rw [hW];have := MB.new (w.alloc (Obj.cells #[.int .i64 m, .slice A m c] 28));have e : (w.alloc (Obj.cells #[.int .i64 m, .slice A m c] 28)).heap.size = w.heap.size + 1 := by simp
  rw [e] at this;exact this
 have HW := hh_ hW;have hn7 := h.vg.n7;have hn1 := h.vg.n1;have KC := hh_ (CliqueOrderOf_sv HG.gv);clear hW h;cases ho : clO r m with
 | none =>
   have Hn : Hid (ivO r m = none) := ivO_none ho;rw [ho] at KC;clear ho;go_enter Tryz.func270, Tryz.ntmps270;obtain ⟨e0, e1⟩ := gx_ HG;have d0 := HD.c0;have d1 := HD.c1;have d2 := HD.f0;have d3 := HD.f1;go_wp2_with fail
   rw [← HW.out];refine (KC.out).mono ?_;rintro e w1 ⟨A1, n1, c1, rfl, _, hb1⟩;clear HW;clear e0 e1 d0 d1 d2 d3;replace HB := hh_ (HB.keep hb1);replace HG := hh_ (HG.keep hb1);replace HD := hh_ (HD.keep hb1);clear hb1;obtain ⟨e0, e1⟩ := gx_ HG;have d0 := HD.c0;have d1 := HD.c1;have d2 := HD.f0;have d3 := HD.f1;clear KC;go_wp2;have HE := (HB.set (q := w.heap.size + 1) (by omega) (.slice none 0 0) (.slice none 0 0)).below;exact bodyPost_ret (v := .tuple #[.agg #[.slice none 0 0, .slice none 0 0], .bool false]) (by simp [results, Tryz.results270, go_sem, *]) rfl (by rw [Hn.out]; exact ivQ.no HE)
 | some l =>
   have Hso := hh_ ho.symm;have Hn : Hid (ivO r m = mdV l m) := ivO_some ho;have hlen : l.length ≤ 1048576 := Nat.le_trans (clO_len hn7 ho) (by omega);rw [ho] at KC;clear ho;go_enter Tryz.func270, Tryz.ntmps270;obtain ⟨e0, e1⟩ := gx_ HG;have d0 := HD.c0;have d1 := HD.c1;have d2 := HD.f0;have d3 := HD.f1;go_wp2_with fail
   rw [← HW.out];refine (KC.out).mono ?_;rintro e w2 ⟨A1, n1, c1, rfl, hx, hb2⟩;clear HW;clear e0 e1 d0 d1 d2 d3;replace HB := hh_ (HB.keep hb2);replace HG := hh_ (HG.keep hb2);replace HD := hh_ (HD.keep hb2);clear hb2;obtain ⟨e0, e1⟩ := gx_ HG;have d0 := HD.c0;have d1 := HD.c1;have d2 := HD.f0;have d3 := HD.f1;obtain ⟨rfl, hL⟩ := hx l rfl;clear hx;have HL : Hid (ON W.heap.size w2 A1 c1 l) := hL;clear hL KC;have hq2 : w.heap.size + 1 < w2.heap.size := HD.lt;have hz2 := HB.below.size;go_wp2_with fail
   refine (ModelOfOrder_s HL.ln (clO_lt Hso.symm) hn1 hn7 hlen).mono ?_;rintro e w3 ⟨A2, c2, A3, c3, rfl, hx, hb3⟩;clear e0 e1 d0 d1 d2 d3;replace HB := hh_ (HB.keep hb3);replace HG := hh_ (HG.keep hb3);replace HD := hh_ (HD.keep hb3);clear hb3;obtain ⟨e0, e1⟩ := gx_ HG;have d0 := HD.c0;have d1 := HD.c1;have d2 := HD.f0;have d3 := HD.f1;have HX := hh_ hx;obtain ⟨n2, hn2⟩ : ∃ n2, n2 = (pG (mdV l m)).1.length := ⟨_, rfl⟩;obtain ⟨n3, hn3⟩ : ∃ n3, n3 = (pG (mdV l m)).2.length := ⟨_, rfl⟩;obtain ⟨bb, hbb⟩ : ∃ bb, bb = (mdV l m).isSome := ⟨_, rfl⟩;rw [← hn2, ← hn3, ← hbb];have HN2 := hh_ hn2;have HN3 := hh_ hn3;have HBB := hh_ hbb;clear hx hn2 hn3 hbb;have hq3 : w.heap.size + 1 < w3.heap.size := HD.lt;go_wp2;have F := fr2 w3 (w.heap.size + 1) (.slice A2 n2 c2) (.slice A3 n3 c3);have HE := ((HB.set (q := w.heap.size + 1) (by omega) (.slice A2 n2 c2) (.slice A3 n3 c3)).alloc_ (Obj.cells #[.slice A2 n2 c2, .slice A3 n3 c3] 141)).below
   exact bodyPost_ret (v := .tuple #[.agg #[.slice A2 n2 c2, .slice A3 n3 c3], .bool bb]) (by simp [results, Tryz.results270, go_sem, *]) rfl (by
    rw [Hn.out];exact ⟨A2, c2, A3, c3, by rw [← HN2.out, ← HN3.out, ← HBB.out], ((HX.keepF F (by omega)).alloc _).mono hz2, HE⟩)
end
set_option maxHeartbeats 1600000
def bv : Option Nat → Value
 | none => .int .i64 (-1)
 | some v => .int .i64 (v : Int)
def bz (c : Bool) (v : Nat) (z : Option Nat) : Value := bv (if c then some v else z)
set_option maxRecDepth 100000 in
theorem TwinOrder_sl (sz : Int) (A : Option Addr) (m c : Nat) (x : Nat → Int) (w : World) (B : Nat) (h : Rd w B A m c x) (hB : B ≤ w.heap.size) (hm : m ≤ 1048576) :
 Calls Tryz.prog 272 #[.agg #[.int .i64 sz, .slice A m c]] w (lsQ w (orG (twF m) sz m x)) := by
 obtain ⟨W, hW⟩ : ∃ W, W = ((w.alloc (Obj.cells #[.int .i64 sz, .slice A m c] 28)).alloc (Obj.cells #[] 3)) := ⟨_, rfl⟩;have HB : Hid (Below w.heap.size w W) := by rw [hW]; exact (br_.alloc nr_ _).alloc (by simp) _
 have HZ : Hid (w.heap.size + 2 = W.heap.size) := by rw [hW]; simp [Hid]
 have a0 : w.heap.size < W.heap.size := by have := HZ.out; omega
 have e0 : W.cell? ⟨w.heap.size, 0, none⟩ = some (.int .i64 sz) := by rw [hW]; simp [go_sem]
 have e1 : W.cell? ⟨w.heap.size, 1, none⟩ = some (.slice A m c) := by rw [hW]; simp [go_sem]
 have HG : Hid (W.heap[w.heap.size + 1]? = some (.cells #[] 3 (0, 0))) := by
  rw [hW];have := heap_alloc_new (w.alloc (Obj.cells #[.int .i64 sz, .slice A m c] 28)) (Obj.cells #[] 3);simpa [Hid] using this
 have HK := hh_ (h.keep (HB.mono hB) nr_);have HW := hh_ hW;clear hW h;go_enter Tryz.func272, Tryz.ntmps272;go_wp2_with fail
 rw [← HW.out];refine (IsGraph_sany sz A m c x W B HK (by omega) hm).mono ?_;rintro e w1 ⟨rfl, hb1⟩;have f0 := up hb1 e0 a0;have f1 := up hb1 e1 a0;have z1 := hb1.size;have HB1 : Hid (Below w.heap.size w w1) := HB.trans (hb1.mono (by omega));have HK1 : Hid (Rd w1 B A m c x) := HK.keep (hb1.mono (by omega)) nr_;have HG1 : Hid (w1.heap[w.heap.size + 1]? = some (.cells #[] 3 (0, 0))) := (hb1.block _ (by have := HZ.out; omega)).trans HG;clear hb1 e0 e1 HW HK HB HG;cases ho : okB sz m x
 ·have hno : Hid (orG (twF m) sz m x = none) := orG_no ho;have HON : Hid (ON w.heap.size w1 (some ⟨w.heap.size + 1, 0, none⟩) 0 []) := ⟨.inr ⟨w.heap.size + 1, #[], rfl, by omega, by have := HZ.out; omega, HG1, nr_, by unfold maxLen; omega, rfl, fun j hj => absurd hj (by simp)⟩⟩;clear ho;go_wp2;go_ret2;rw [hno.out];exact ⟨_, _, rfl, HON.out, HB1⟩
 ·have hok2 : OkG sz m x := by
   refine Classical.byContradiction fun h2 => ?_
   rw [okB_no h2] at ho; cases ho
  obtain ⟨_, es, vg0, _⟩ := hok2;subst es;have hn1 := vg0.n1;have hn7 := vg0.n7;have h128 := two_pow_le hn7;have hpos := Nat.two_pow_pos m;have Hok := hh_ ho;have p1 := pow_shl m hn7;have p2 := two_pow_int m hn7;have hall : (2 : Int) ^ m - 1 = ((2 ^ m - 1 : Nat) : Int) := by rw [Int.ofNat_sub hpos]; simp
  have Hall := hh_ hall;have b1 : w.heap.size < w1.heap.size := by omega
  have HO : Hid (Own w1 (w.heap.size + 1) w1.heap.size 3 1 (some ⟨w.heap.size + 1, 0, none⟩) 0 0 (ni [])) :=
   .inr ⟨w.heap.size + 1, #[], rfl, nr_, by have := HZ.out; omega, HG1, nr_, by unfold maxLen; omega, rfl, fun j hj => absurd hj (by omega)⟩
  obtain ⟨b0, o0, rfl⟩ := (GV.of HK1 (by omega) Hok.out).addr;clear ho vg0 hall HG1;go_wp2;rw [Hall.out];clear p1 p2;go_loopw [4, 5] (fun l i wr => ∃ (left : Nat) (A' : Option Addr) (c' : Nat) (T : List Nat), l = .slice A' T.length c' ∧ i = .int .i64 left ∧ T.length + left + 1 ≤ 2 ^ m ∧ Hid (Own wr (w.heap.size + 1) wr.heap.size 3 1 A' T.length c' (ni T)) ∧ Hid (redL ((twF m) (rw_ x)) (2 ^ m - 1) = (redL ((twF m) (rw_ x)) left).map (T ++ ·)) ∧ Hid (Below (w.heap.size + 1) w1 wr)) (fun _ i _ => (intOf i).toNat);case atStart => exact ⟨2 ^ m - 1, _, 0, [], rfl, rfl, by simp; omega, HO, redL_start, br_⟩
  case round =>
   obtain ⟨left, A', c', T, rfl, rfl, hkl, HY, HE, hbr⟩ := hrel;have zr := hbr.size;have j0 := up hbr.out f0 (by omega);have j1 := up hbr.out f1 (by omega);go_wp2_with fail
   refine (CountSet_sv left (by omega) wr).mono ?_;rintro e wq ⟨rfl, hbq⟩;have zq := hbq.size;replace j0 := up hbq j0 (by omega);replace j1 := up hbq j1 (by omega);replace HY := hh_ ((HY.keepB hbq nr_).mono nr_ zq);replace hbr := hh_ (hbr.trans (hbq.mono (by omega)));clear hbq;by_cases hl0 : cn left ≤ 1
   ·have hle : (cn left : Int) ≤ 1 := by omega
    have Hl1 := hh_ hl0;clear hl0;go_wp2_with fail
    refine (ListOf_s left (by omega) wq).mono ?_;rintro e w3 ⟨A3, c3, rfl, hO3, hb3⟩;have z4 := hb3.size;have hl7 := listN_len left;have HL3 : Hid (Rd w3 w3.heap.size A3 (listN left).length c3 (fun j => (((listN left).getD j 0 : Nat) : Int))) := hO3.rd;obtain ⟨k, hkT⟩ : ∃ k, k = T.length := ⟨_, rfl⟩;rw [← hkT] at hkl HY ⊢;have HkT := hh_ hkT;have HZ3 : Hid (Own w3 (w.heap.size + 1) wq.heap.size 3 1 A' k c' (ni T)) := HY.keepB hb3 nr_;have HB5 : Hid (Below w.heap.size w w3) := HB1.trans ((hbr.trans (hb3.mono (by omega))).mono (by omega));have hyes : Hid (orG (twF m) (m : Int) m x = some (T ++ listN left)) := orG_eq Hok.out (tw_end Hl1.out (by omega) HE.out);obtain ⟨N, hN⟩ : ∃ N, N = (listN left).length := ⟨_, rfl⟩;have HN := hh_ hN;rw [← hN] at hl7 HL3 ⊢;clear hO3 hb3 hbr HY j0 j1 hN HE hkT;go_wp2_with (first | (at_builtin; (refine wpList_appendI _ rfl _ _ rfl rfl HZ3.out rfl HL3.out (by omega) (by omega) (by omega) ?_; intro A6 c6 w6 hO6 hb6)))
    have HO6 : Hid (Own w6 w.heap.size w6.heap.size 3 1 A6 (k + N) c6 (ni (T ++ listN left))) := (hO6.congr fun j _ => thenI_ni HkT.out).mono (by omega) nr_;have HB6 : Hid (Below w.heap.size w w6) := HB5.trans (hb6.mono (by omega));have He : Hid (k + N = (T ++ listN left).length) := by show _ = _; rw [List.length_append, HkT.out, HN.out]
    clear hO6 hb6;go_ret2;rw [hyes.out, He.out];exact lsQ.yes ⟨by rw [← He.out]; exact HO6.out⟩ HB6
   ·have hgt : (1 : Int) < (cn left : Int) := by omega
    have Hl1 := hh_ hl0;have Hl0 := hh_ (cn_many hl0);clear hl0;go_wp2;obtain ⟨wo, rfl⟩ : ∃ wo, wo = wq := ⟨_, rfl⟩;go_loopw [6, 7] (fun b i wr => ∃ (t : Nat) (z : Option Nat), b = bv z ∧ t ≤ m ∧ i = .int .i64 ((t : Int) - 1) ∧ ((z = none ∧ Hid (∀ u, t ≤ u → left.testBit u = true → tkB (rw_ x) left u m = false)) ∨ ∃ v : Nat, z = some v ∧ v < m ∧ Hid (t ≤ v ∧ left.testBit v = true ∧ tkB (rw_ x) left v m = true ∧ ∀ u, t ≤ u → u < v → left.testBit u = true → tkB (rw_ x) left u m = false)) ∧ Hid (Below wo.heap.size wo wr)) (fun _ i _ => (intOf i + 1).toNat);case atStart => exact ⟨m, none, rfl, nr_, rfl, .inl ⟨rfl, fun u hu hb => by have := bit_lt (by omega : left < 2 ^ m) hb; omega⟩, br_⟩
    case round =>
     obtain ⟨t, z, rfl, htm, rfl, hbest, hbw⟩ := hrel;have zw := hbw.size;have i0 := up hbw.out j0 (by omega);have i1 := up hbw.out j1 (by omega);by_cases ht0 : t = 0
     ·have hneg : ((t : Int) - 1) < 0 := by omega
      have HYw : Hid (Own wr (w.heap.size + 1) wr.heap.size 3 1 A' T.length c' (ni T)) := (HY.keepB hbw.out nr_).mono nr_ zw;have HBw : Hid (Below (w.heap.size + 1) w1 wr) := hbr.trans (hbw.mono (by omega));rcases hbest with ⟨rfl, hno⟩ | ⟨v, rfl, hvm, hyes⟩
      ·rw [show bv none = Value.int .i64 (-1) from rfl];have hf : (twF m) (rw_ x) left = none := twF_no Hl1.out fun u _ hb => hno.out u (by omega) hb
       have hno2 : Hid (orG (twF m) (m : Int) m x = none) := orG_eq Hok.out (redL_stuck Hl0.out hf HE.out);have HON : Hid (ON w.heap.size (wr.alloc (Obj.cells #[] 3)) (some ⟨wr.heap.size, 0, none⟩) 0 []) := (ON.nil wr).mono (by omega);clear hno hf HE ht0;go_wp2;go_ret2;rw [hno2.out];exact ⟨_, _, rfl, HON.out, HB1.trans ((HBw.mono (by omega)).alloc (by omega) _)⟩
      ·rw [show bv (some v) = Value.int .i64 (v : Int) from rfl];obtain ⟨_, hbit, hcl, hmin⟩ := hyes.out;have hf : (twF m) (rw_ x) left = some v := twF_least Hl1.out (by omega) hbit hcl (fun u hu hb => hmin u (by omega) hu hb);have HE2 : Hid (redL ((twF m) (rw_ x)) (2 ^ m - 1) = (redL ((twF m) (rw_ x)) (left ^^^ 2 ^ v)).map ((T ++ [v]) ++ ·)) := redL_step hbit hf HE.out;have hlt := xor_bit_lt hbit;have hxs := (xor_bit hbit).2;have hE3 : Hid ((left : Int) - 2 ^ v = ((left ^^^ 2 ^ v : Nat) : Int)) := by
        show _ = _;have p3 : ((2 ^ v : Nat) : Int) = 2 ^ v := by simp
        rw [← p3];omega
       have p1 := pow_shl v (by omega);have p2 := two_pow_int v (by omega);have hge0 : (0 : Int) ≤ v := by omega
       clear hyes hbit hcl hmin hf HE hxs ht0;go_wp2_with (first | (at_builtin; (refine wpList_pushN wr rfl _ _ rfl (w.heap.size + 1) wr.heap.size A' c' T HYw.out (by omega) v rfl 1 wr.heap.size rfl rfl (by omega) ?_; intro g cap w3 hO2 hb2)))
       have H4 := hh_ hO2;have H5 : Hid (Below (w.heap.size + 1) w1 w3) := HBw.trans hb2;clear hO2 hb2;go_roundw;case rel => exact ⟨left ^^^ 2 ^ v, _, _, T ++ [v], by rw [List.length_append]; rfl, congrArg (Value.int .i64) hE3.out, by rw [List.length_append]; simp; omega, by rw [List.length_append]; exact H4.out, HE2, H5⟩
       case measure => simp [intOf] <;> omega
     ·obtain ⟨v, rfl⟩ : ∃ v, t = v + 1 := ⟨t - 1, by omega⟩;have ev : (((v + 1 : Nat) : Int) - 1) = (v : Int) := by omega
      rw [ev];have HBst := hh_ hbest;have hge0 : (0 : Int) ≤ v := by omega
      have HK2 : Hid (Rd wr B (some ⟨b0, o0, none⟩) m c x) := HK1.keep ((hbr.trans (hbw.mono (by omega))).mono (by omega)) nr_;have hleft : left < 2 ^ m := by omega
      have hBw : B ≤ wr.heap.size := by omega
      have HGw : Hid (GV wr (some ⟨b0, o0, none⟩) m c (rw_ x)) := GV.of HK2 hBw Hok.out;have hvm : v < m := by omega
      have h2v := two_pow_le (n := v) (by omega);obtain ⟨zv, hzv⟩ : ∃ z, z = 2 ^ v := ⟨_, rfl⟩;have p1 : IntKind.i64.wrap ((2 : Int) ^ v) = (zv : Int) := by rw [pow_shl v (by omega), hzv]; simp
      rw [← hzv] at h2v;have Hzv := hh_ hzv;obtain ⟨cv, hcv⟩ : ∃ c, c = left.testBit v := ⟨_, rfl⟩;have Hcv := hh_ hcv;clear ev ht0 hbest hzv hcv HK2;go_wp2;obtain ⟨wv, rfl⟩ : ∃ wv, wv = wr := ⟨_, rfl⟩;have HR0 : Hid (From wv wv) := From.refl wv;go_loopw [6, 8] (fun b i wz => ∃ u : Nat, u ≤ m ∧ i = .int .i64 u ∧ b = bz (cv && tkB (rw_ x) left v u) v z ∧ Hid (From wv wz)) (fun _ i _ => m - (intOf i).toNat);case atStart => exact ⟨0, Nat.zero_le _, rfl, by rw [show tkB (rw_ x) left v 0 = false from rfl, Bool.and_false]; rfl, HR0⟩
      case round =>
       clear HR0;obtain ⟨u, hu, rfl, rfl, HR⟩ := hrel;have k0 := up HR.below i0 (by omega);have k1 := up HR.below i1 (by omega);by_cases hun : u < m
       ·have i2 : (u : Int) < m := by omega
        have i3 : (v : Int) < m := by omega
        have HGr := hh_ (HGw.keep HR.below);have q0 := HGr.row hvm;have q1 := HGr.row hun;have hr0 := HGr.vg.lt128 hvm;have hr1 := HGr.vg.lt128 hun;have h2u := two_pow_le (n := u) (by omega);obtain ⟨zu, hzu⟩ : ∃ z, z = 2 ^ u := ⟨_, rfl⟩;have p2 : IntKind.i64.wrap ((2 : Int) ^ u) = (zu : Int) := by rw [pow_shl u (by omega), hzu]; simp
        rw [← hzu] at h2u;have E1 := i64_or_nat zv zu (by omega) (by omega);obtain ⟨pr, hpr⟩ : ∃ pr, pr = prN v u := ⟨_, rfl⟩;have hprlt : zv ||| zu < 2 ^ 8 := Nat.or_lt_two_pow (by omega) (by omega);rw [show zv ||| zu = pr by rw [hpr, Hzv.out, hzu]; rfl] at E1 hprlt;have E2 := i64_and_nat left pr (by omega) (by omega);have hstep : tkB (rw_ x) left v (u + 1) = (tkB (rw_ x) left v u || tpB (rw_ x) left v u) := rfl;by_cases hne : v = u
        ·have Hn : Hid ((cv && tkB (rw_ x) left v (u + 1)) = (cv && tkB (rw_ x) left v u)) := by show _ = _; rw [hstep, tp_no fun h => h.1 hne.symm, Bool.or_false]
         have d1 : ((v : Int) != (u : Int)) = false := by rw [hne]; simp
         clear hstep hzu hpr q0 q1 hne;obtain ⟨bb, hbb⟩ : ∃ bb, bb = bz (cv && tkB (rw_ x) left v u) v z := ⟨_, rfl⟩;rw [← hbb];have Hbb := hh_ hbb;clear hbb;go_wp2;go_quiet (fail)
         go_wp2;go_quiet (fail)
         go_wp2;go_roundw;case rel => exact ⟨u + 1, by omega, by go_num, by rw [Hbb.out, Hn.out], by first | exact HR.drewN _ | exact (HR.drewN _).drewN _⟩
         case measure => (simp [intOf] <;> omega)
        have d1 : ((v : Int) != (u : Int)) = true := by simp; omega
        by_cases hin : left &&& pr = pr
        rotate_left
        ·have Hn : Hid ((cv && tkB (rw_ x) left v (u + 1)) = (cv && tkB (rw_ x) left v u)) := by
          show _ = _;cases hc : cv
          ·rfl
          ·rw [hstep, tp_no fun h => hin (by rw [hpr]; exact (pr_in (by rw [← Hcv.out, hc])).2 h.2.1), Bool.or_false]
         obtain ⟨sp, hsp⟩ : ∃ sp, sp = left &&& pr := ⟨_, rfl⟩;rw [← hsp] at E2 hin;have d2 : ((sp : Int) == (pr : Int)) = false := by simp; omega
         clear hstep hzu hpr q0 q1 hne hin hsp;obtain ⟨bb, hbb⟩ : ∃ bb, bb = bz (cv && tkB (rw_ x) left v u) v z := ⟨_, rfl⟩;rw [← hbb];have Hbb := hh_ hbb;clear hbb;go_wp2;go_quiet (fail)
         go_wp2;go_quiet (fail)
         go_wp2;go_roundw;case rel => exact ⟨u + 1, by omega, by go_num, by rw [Hbb.out, Hn.out], by first | exact HR.drewN _ | exact (HR.drewN _).drewN _⟩
         case measure => (simp [intOf] <;> omega)
        have hbv : left.testBit v = true := by
         have := congrArg (fun t => t.testBit v) hin;simp only [Nat.testBit_and, hpr, pr_bit, decide_true, Bool.true_or, Bool.and_true] at this;exact this
        have hcv : cv = true := by rw [Hcv.out]; exact hbv
        have hbu := (pr_in (w := u) hbv).1 (by rw [← hpr]; exact hin);have htw := tw_s (r := rw_ x) (fun e => hne e.symm) hbu hbv;rw [← hpr] at htw;obtain ⟨hx1, hx2⟩ := pr_sub (v := v) (w := u) (s := left) (by omega) (by rw [← hpr]; exact hin);rw [← hpr] at hx1 hx2;rw [hin] at E2;have d2 : ((pr : Int) == (pr : Int)) = true := by simp
        obtain ⟨t, ht⟩ : ∃ t, t = left ^^^ pr := ⟨_, rfl⟩;rw [← ht] at htw hx1;have s4 : wrap64 ((left : Int) - (pr : Int)) = (t : Int) := by rw [Go.IntWalk.wrap64_in _ (by omega)]; omega
        have s5 : IntKind.i64.wrap ((left : Int) - (pr : Int)) = (t : Int) := by rw [Go.IntWalk.i64_in _ (by omega)]; omega
        obtain ⟨y, hy⟩ : ∃ y, y = rw_ x v := ⟨_, rfl⟩;obtain ⟨xx, hx⟩ : ∃ xx, xx = rw_ x u := ⟨_, rfl⟩;rw [← hy] at q0 hr0 htw;rw [← hx] at q1 hr1 htw;have E3 := i64_and_nat y t (by omega) (by omega);have E4 := i64_and_nat xx t (by omega) (by omega);obtain ⟨yt, hyt⟩ : ∃ yt, yt = y &&& t := ⟨_, rfl⟩;obtain ⟨xt, hxt⟩ : ∃ xt, xt = xx &&& t := ⟨_, rfl⟩;rw [← hyt] at E3 htw;rw [← hxt] at E4 htw;clear hzu hpr hne hin hx1 hx2 ht hy hx hyt hxt hbu hbv;by_cases heq : yt = xt
        ·have Hn : Hid ((cv && tkB (rw_ x) left v (u + 1)) = true) := by show _ = _; rw [hstep, tp_yes (htw.1 heq), hcv, Bool.or_true]; rfl
         have d3 : ((yt : Int) == (xt : Int)) = true := by simp; omega
         clear hstep htw heq hcv;obtain ⟨bb, hbb⟩ : ∃ bb, bb = bz (cv && tkB (rw_ x) left v u) v z := ⟨_, rfl⟩;rw [← hbb];clear hbb;go_wp2;go_quiet (fail)
         go_wp2;go_quiet (fail)
         go_wp2;go_roundw;case rel => exact ⟨u + 1, by omega, by go_num, by rw [Hn.out]; rfl, by first | exact HR.drewN _ | exact (HR.drewN _).drewN _⟩
         case measure => (simp [intOf] <;> omega)
        ·have Hn : Hid ((cv && tkB (rw_ x) left v (u + 1)) = (cv && tkB (rw_ x) left v u)) := by show _ = _; rw [hstep, tp_no fun h => heq (htw.2 h), Bool.or_false]
         have d3 : ((yt : Int) == (xt : Int)) = false := by simp; omega
         clear hstep htw heq hcv;obtain ⟨bb, hbb⟩ : ∃ bb, bb = bz (cv && tkB (rw_ x) left v u) v z := ⟨_, rfl⟩;rw [← hbb];have Hbb := hh_ hbb;clear hbb;go_wp2;go_quiet (fail)
         go_wp2;go_quiet (fail)
         go_wp2;go_roundw;case rel => exact ⟨u + 1, by omega, by go_num, by rw [Hbb.out, Hn.out], by first | exact HR.drewN _ | exact (HR.drewN _).drewN _⟩
         case measure => (simp [intOf] <;> omega)
       ·obtain rfl : m = u := by omega
        have HB3 : Hid (Below wo.heap.size wo wr) := hbw.trans (HR.below.mono zw);obtain ⟨cz, hcz⟩ : ∃ c, c = (cv && tkB (rw_ x) left v m) := ⟨_, rfl⟩;rw [← hcz];have Hcz := hh_ hcz;clear hcz;obtain ⟨bb, hbb⟩ : ∃ bb, bb = bz cz v z := ⟨_, rfl⟩;rw [← hbb];have Hbb := hh_ hbb;clear hbb;go_wp2;refine ⟨⟨v, if cz then some v else z, by rw [Hbb.out]; rfl, by omega, rfl, ?_, HB3⟩, by simp [intOf] <;> omega⟩;cases cz
        ·have Hno : Hid (left.testBit v = true → tkB (rw_ x) left v m = false) := fun hb => by
          have := Hcz.out;rw [Hcv.out, hb, Bool.true_and] at this;exact this.symm
         rcases HBst.out with ⟨rfl, hno⟩ | ⟨bv', rfl, hbm, hyes⟩
         ·refine .inl ⟨rfl, fun u hu hb => ?_⟩;by_cases huv : u = v
          ·subst huv; exact Hno.out hb
          ·exact hno.out u (by omega) hb
         ·refine .inr ⟨bv', rfl, hbm, by have := hyes.out.1; omega, hyes.out.2.1, hyes.out.2.2.1, fun u hu hub hb => ?_⟩;by_cases huv : u = v
          ·subst huv; exact Hno.out hb
          ·exact hyes.out.2.2.2 u (by omega) hub hb
        ·have := Hcz.out;rw [Hcv.out, eq_comm, Bool.and_eq_true] at this;exact .inr ⟨v, rfl, by omega, nr_, this.1, this.2, fun u hu hub _ => by omega⟩
end Go.Proofs.YtdpkbfiggbcclaaGreat
