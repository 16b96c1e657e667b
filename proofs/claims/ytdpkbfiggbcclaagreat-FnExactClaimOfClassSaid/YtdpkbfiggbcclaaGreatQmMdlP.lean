/-
  Several texts in one.
-/
import Derived.Test.YtdpkbfiggbcclaaGreatQmSimI
import Derived.Test.YtdpkbfiggbcclaaGreatQmThjI
import Derived.Test.YtdpkbfiggbcclaaGreatQmSidP
import Derived.Test.YtdpkbfiggbcclaaGreatQmMooP
import Derived.Test.YtdpkbfiggbcclaaGreatQmUmbS
import Derived.Test.YtdpkbfiggbcclaaGreatQmSidI
import Derived.Test.YtdpkbfiggbcclaaGreatQmCloI
import Derived.Test.YtdpkbfiggbcclaaGreatQmCluI
import Derived.Test.YtdpkbfiggbcclaaGreatQmObsP
/-
-/
namespace Go.Proofs.YtdpkbfiggbcclaaGreat
open Go.RowKit
set_option maxHeartbeats 3200000
section
variable {A : Option Addr} {m c : Nat} {r : Nat → Nat} {w : World}
def wgQ (w : World) (m : Nat) (r : Nat → Nat) (e : Ending) (w' : World) : Prop :=
 ∃ A' n' c' lim, e = .returned (.tuple #[.slice A' n' c', .int .i64 (lim : Nat), .bool (thO r m).isSome]) ∧
   (∀ x, thO r m = some x → n' = m ∧ lim = wtL (joinOf r (2 ^ m - 1) x).reverse x.length ∧ Own w' w.heap.size w'.heap.size 3 1 A' m c' (fun j => .int .i64 (wtF x.reverse (joinOf r (2 ^ m - 1) x).reverse x.length j : Nat))) ∧ Below w.heap.size w w'
set_option maxRecDepth 100000 in
theorem WeightsOf_vl (h : GV w A m c r) :
 Calls Tryz.prog 282 #[.agg #[.int .i64 m, .slice A m c]] w (wgQ w m r) := by
 have hn7 := h.vg.n7;have hn1 := h.vg.n1;have h128 := two_pow_le hn7;have hpos := Nat.two_pow_pos m;obtain ⟨W, hW, HB, HG⟩ := gbW h;have HW := hh_ hW;clear hW h;obtain ⟨e0, e1⟩ := gx_ HG;cases ho : thO r m with
 | none =>
   have Ho := hh_ ho;have KT : Hid (Calls Tryz.prog 313 #[.agg #[.int .i64 m, .slice A m c]] W fun e w' => ∃ A1 c1 A2 c2, e = .returned (.tuple #[.slice A1 0 c1, .slice A2 0 c2, .bool false]) ∧ Below W.heap.size W w') := (ThresholdOrder_vl HG.gv).mono fun e w' h => by
    rw [ho] at h;obtain ⟨A1, c1, A2, c2, he, _, _, hb⟩ := h;exact ⟨A1, c1, A2, c2, he, hb⟩
   clear ho;go_enter Tryz.func282, Tryz.ntmps282;go_wp2_with fail
   rw [← HW.out];refine (KT.out).mono ?_;rintro e w1 ⟨A1, c1, A2, c2, rfl, hb1⟩;clear HW;clear e0 e1;obtain ⟨HB, HG, e0, e1⟩ := kG_ HB HG hb1;clear hb1;clear KT;go_wp2;go_ret3;exact ⟨none, 0, 0, 0, by rw [Ho.out]; rfl, fun x hx => (by rw [Ho.out] at hx; cases hx), HB.below⟩
 | some x =>
   have Ho := hh_ ho;obtain ⟨hxm, _⟩ := redL_set _ _ ho;have hxl := redL_len _ _ ho;obtain ⟨l, hl⟩ : ∃ l, l = x.reverse := ⟨_, rfl⟩;obtain ⟨js, hjs⟩ : ∃ js, js = (joinOf r (2 ^ m - 1) x).reverse := ⟨_, rfl⟩;have hll : x.length = l.length := by rw [hl, List.length_reverse]
   have hlm : ∀ v ∈ l, v < m := fun v hv => by
    rw [hl, List.mem_reverse] at hv;exact bit_lt (show 2 ^ m - 1 < 2 ^ m by omega) (hxm v hv)
   have KT : Hid (Calls Tryz.prog 313 #[.agg #[.int .i64 m, .slice A m c]] W fun e w' => ∃ A1 c1 A2 c2, e = .returned (.tuple #[.slice A1 l.length c1, .slice A2 l.length c2, .bool true]) ∧ LN w' A1 c1 l ∧ RdV w' w'.heap.size A2 l.length c2 (fun t => .bool (js.getD t false)) ∧ Below W.heap.size W w') := (ThresholdOrder_vl HG.gv).mono fun e w' h => by
    rw [ho] at h;obtain ⟨A1, c1, A2, c2, he, h1, h2, hb⟩ := h;refine ⟨A1, c1, A2, c2, by rw [← hll]; exact he, ?_, ?_, hb⟩
    ·rw [hl]; exact h1.ln
    ·rw [← hll, hjs]; exact h2.rdV
   have HLM := hh_ hlm;have HLL := hh_ hll;have Hl := hh_ hl;have Hjs := hh_ hjs;have hlen : l.length ≤ 127 := by omega
   clear ho hxm hxl hl hjs hll hlm;go_enter Tryz.func282, Tryz.ntmps282;go_wp2_with fail
   rw [← HW.out];refine (KT.out).mono ?_;rintro e w2 ⟨A1, c1, A2, c2, rfl, hL, hJ, hb2⟩;clear HW;clear e0 e1;obtain ⟨HB, HG, e0, e1⟩ := kG_ HB HG hb2;clear hb2;clear KT;have HL := hh_ hL;have HJ := hh_ hJ;have hcap := hL.le;clear hL hJ;obtain ⟨W2, hmk, hO2, hb2⟩ := made_own w2 m (by omega);have HO2 : Hid (Own W2 w2.heap.size (w2.heap.size + 1) 3 1 (some ⟨w2.heap.size, 0, none⟩) m m (fun j => .int .i64 (wtF l js 0 j : Nat))) := hO2.congr fun j _ => rfl
   have HB2 : Hid (Below w2.heap.size w2 W2) := hb2;clear hO2 hb2;go_wp2;go_loopw [9, 27] (fun lm i wr => ∃ k : Nat, k ≤ l.length ∧ i = .int .i64 k ∧ lm = .int .i64 (wtL js k : Nat) ∧ Hid (Own wr w2.heap.size (w2.heap.size + 1) 3 1 (some ⟨w2.heap.size, 0, none⟩) m m (fun j => .int .i64 (wtF l js k j : Nat))) ∧ Hid (Below w2.heap.size w2 wr)) (fun _ i _ => l.length - (intOf i).toNat);case atStart => exact ⟨0, Nat.zero_le _, rfl, rfl, HO2, HB2⟩
   case round =>
    clear HO2 HB2;obtain ⟨k, hk, rfl, rfl, HO, HBr⟩ := hrel;by_cases hkl : k < l.length
    ·have i1 : (k : Int) < l.length := by omega
     have i2 : (k : Int) ≤ c1 := by omega
     have hwl := wtL_le (js := js) k;have HLr : Hid (LN wr A1 c1 l) := HL.keep HBr.out;have HJr : Hid (RdV wr wr.heap.size A2 l.length c2 (fun t => .bool (js.getD t false))) := HJ.keep HBr.out HBr.size;obtain ⟨b1, o1, rfl⟩ := HLr.addr (by omega);have p0 := HLr.at hkl;obtain ⟨b2, o2, e2, _, hj2⟩ := HJr.out.2 (by omega);subst e2;have p1 : wr.cell? ⟨b2, o2 + k, none⟩ = some (.bool (js.getD k false)) := hj2 k hkl;obtain ⟨v, hv⟩ : ∃ v, v = l[k] := ⟨_, rfl⟩;rw [← hv] at p0;have hvm : v < m := by rw [hv]; exact HLM.out _ (List.getElem_mem hkl)
     have hvd : v = l.getD k 0 := by rw [hv]; simp [List.getD, hkl]
     obtain ⟨t, ht⟩ : ∃ t, t = js.getD k false := ⟨_, rfl⟩;rw [← ht] at p1;have i3 : (v : Int) < m := by omega
     have Hvd := hh_ hvd;have Ht := hh_ ht;obtain ⟨g', e, _, _, _, h1, h2⟩ := HO.at_ (by omega);simp only [Option.some.injEq, Addr.mk.injEq, and_true] at e;subst e;obtain ⟨lm, hlm⟩ : ∃ lm, lm = wtL js k := ⟨_, rfl⟩;rw [← hlm] at hwl ⊢;have Hlm := hh_ hlm;clear hj2 hv hvd ht hlm;cases t
     ·have HLk : Hid (∀ j, wtF l js k j + (l.take 0).count j = wtF l js k j) := fun j => by simp
      have HOk : Hid (Own wr w2.heap.size (w2.heap.size + 1) 3 1 (some ⟨w2.heap.size, 0, none⟩) m m (fun j => .int .i64 (wtF l js k j + (l.take 0).count j : Nat))) := HO.congr fun j _ => by rw [HLk.out]
      have HBk : Hid (Below w2.heap.size w2 wr) := HBr;clear h1 h2;go_wp2;go_loopw [45] (fun i wz_ => ∃ q : Nat, q ≤ k ∧ i = .int .i64 q ∧ Hid (Own wz_ w2.heap.size (w2.heap.size + 1) 3 1 (some ⟨w2.heap.size, 0, none⟩) m m (fun j => .int .i64 (wtF l js k j + (l.take q).count j : Nat))) ∧ Hid (Below w2.heap.size w2 wz_)) (fun i _ => k - (intOf i).toNat);case atStart => exact ⟨0, Nat.zero_le _, rfl, HOk, HBk⟩
      case round =>
       clear HOk HBk HLr HJr p0 p1;obtain ⟨q, hq, rfl, HOz, HBz⟩ := hrel;by_cases hqk : q < k
       ·have i4 : (q : Int) < k := by omega
        have HLz : Hid (LN wr (some ⟨b1, o1, none⟩) c1 l) := HL.keep HBz.out;have p2 := HLz.at (show q < l.length by omega);obtain ⟨y, hy⟩ : ∃ y, y = l[q] := ⟨_, rfl⟩;rw [← hy] at p2;have hym : y < m := by rw [hy]; exact HLM.out _ (List.getElem_mem _)
        have i5 : (y : Int) < m := by omega
        obtain ⟨g', e, _, _, _, h1, h2⟩ := HOz.at_ (by omega);simp only [Option.some.injEq, Addr.mk.injEq, and_true] at e;subst e;have q0 := h1 y (by omega);have f0 := h2 y;have hc1 := wtF_le (l := l) (js := js) (u := y) k (by omega);have hc2 : (l.take q).count y ≤ 127 := Nat.le_trans List.count_le_length (by rw [List.length_take]; omega);obtain ⟨cc, hcc⟩ : ∃ cc, cc = wtF l js k y + (l.take q).count y := ⟨_, rfl⟩;have hccb : cc ≤ 100000 := by rw [hcc]; omega
        rw [← hcc] at q0;have Hst : Hid (∀ j, wtF l js k j + (l.take (q + 1)).count j = if j = y then cc + 1 else wtF l js k j + (l.take q).count j) := fun j => by
         rw [take_count (show q < l.length by omega), ← hy];by_cases e : j = y
         ·subst e; rw [if_pos rfl, if_pos rfl, hcc]; omega
         ·rw [if_neg e, if_neg (fun h => e h.symm)]; omega
        clear h1 h2 hy hcc hc1 hc2;go_wp2;have HO6 : Hid (Own (wr.setCell ⟨w2.heap.size, y, none⟩ (.int .i64 ((cc : Int) + 1))) w2.heap.size (w2.heap.size + 1) 3 1 (some ⟨w2.heap.size, 0, none⟩) m m (fun j => .int .i64 (wtF l js k j + (l.take (q + 1)).count j : Nat))) := (HOz.set_ y _).congr (fun j _ => by rw [Hst.out]; split <;> rfl);have HB6 : Hid (Below w2.heap.size w2 (wr.setCell ⟨w2.heap.size, y, none⟩ (.int .i64 ((cc : Int) + 1)))) := HBz.setCell (p := ⟨w2.heap.size, y, none⟩) nr_ _;go_roundw;case rel => exact ⟨q + 1, by omega, by go_num, HO6, HB6⟩
        case measure => (simp [intOf] <;> omega)
       ·obtain rfl : k = q := by omega
        have Hw : Hid (wtL js (k + 1) = lm + 2) := by show _ = _; rw [wtL, ← Ht.out, Hlm.out]; rfl
        have HOn : Hid (Own wr w2.heap.size (w2.heap.size + 1) 3 1 (some ⟨w2.heap.size, 0, none⟩) m m (fun j => .int .i64 (wtF l js (k + 1) j : Nat))) := HOz.congr (fun j _ => by rw [wtF, ← Ht.out]; rfl);go_wp2;go_roundw;case rel => exact ⟨k + 1, by omega, by go_num, by rw [Hw.out]; rfl, HOn, HBz⟩
        case measure => (simp [intOf] <;> omega)
     ·have q0 := h1 v (by omega);have f0 := h2 v;have Hw : Hid (wtL js (k + 1) = lm) := by show _ = _; rw [wtL, ← Ht.out, Hlm.out]; rfl
      have Hst : Hid (∀ j, wtF l js (k + 1) j = if j = v then lm + 1 else wtF l js k j) := fun j => by rw [wtF, ← Ht.out, ← Hvd.out, Hlm.out]; rfl
      obtain ⟨cc, hcc⟩ : ∃ cc, cc = wtF l js k v := ⟨_, rfl⟩;rw [← hcc] at q0;clear h1 h2 hcc;go_wp2;have HO6 : Hid (Own (wr.setCell ⟨w2.heap.size, v, none⟩ (.int .i64 ((lm : Int) + 1))) w2.heap.size (w2.heap.size + 1) 3 1 (some ⟨w2.heap.size, 0, none⟩) m m (fun j => .int .i64 (wtF l js (k + 1) j : Nat))) := (HO.set_ v _).congr (fun j _ => by rw [Hst.out]; split <;> rfl);have HB6 : Hid (Below w2.heap.size w2 (wr.setCell ⟨w2.heap.size, v, none⟩ (.int .i64 ((lm : Int) + 1)))) := HBr.setCell (p := ⟨w2.heap.size, v, none⟩) nr_ _;go_roundw;case rel => exact ⟨k + 1, by omega, by go_num, by rw [Hw.out], HO6, HB6⟩
      case measure => (simp [intOf] <;> omega)
    ·obtain rfl : k = l.length := by omega
     have hzb := HB.below.size;have HO6 : Hid (Own wr w.heap.size wr.heap.size 3 1 (some ⟨w2.heap.size, 0, none⟩) m m (fun j => .int .i64 (wtF l js l.length j : Nat))) := by
      obtain ⟨g', e, _, _, hlt, _⟩ := HO.at_ (by omega);simp only [Option.some.injEq, Addr.mk.injEq, and_true] at e;subst e;exact HO.mono hzb hlt
     go_wp2;go_ret3;refine ⟨_, _, _, _, by rw [Ho.out]; rfl, fun x' hx' => ?_, HB.below.trans (HBr.mono hzb)⟩;rw [Ho.out] at hx';cases hx'
     rw [← Hl.out, ← Hjs.out, HLL.out];exact ⟨rfl, rfl, HO6.out⟩
end
structure KB (w : World) (q : Nat) (k : Clm) : Prop where
 c0 : w.cell? ⟨q, 0, none⟩ = some (.int .i64 k.K)
 c1 : w.cell? ⟨q, 1, none⟩ = some (.int .i64 k.s)
 c2 : w.cell? ⟨q, 2, none⟩ = some (.slice k.A0 k.n0 k.c0)
 c3 : w.cell? ⟨q, 3, none⟩ = some (.string k.t)
 c4 : w.cell? ⟨q, 4, none⟩ = some (.slice k.A1 k.n1 k.c1)
 c5 : w.cell? ⟨q, 5, none⟩ = some (.slice k.A2 k.n2 k.c2)
 c6 : w.cell? ⟨q, 6, none⟩ = some (.slice k.A3 k.D.length k.c3)
 f0 : w.frozen? ⟨q, 0, none⟩ = false
 f1 : w.frozen? ⟨q, 1, none⟩ = false
 f2 : w.frozen? ⟨q, 2, none⟩ = false
 f3 : w.frozen? ⟨q, 3, none⟩ = false
 f4 : w.frozen? ⟨q, 4, none⟩ = false
 f5 : w.frozen? ⟨q, 5, none⟩ = false
 f6 : w.frozen? ⟨q, 6, none⟩ = false
def zeroK : Clm := ⟨0, 0, none, 0, 0, fun _ => 0, ⟨#[]⟩, none, 0, 0, fun _ => 0, none, 0, 0, fun _ => 0, none, 0, []⟩
def set7 (w : World) (q : Nat) (k : Clm) : World := (((((((w.setCell ⟨q, 0, none⟩ (.int .i64 k.K)).setCell ⟨q, 1, none⟩ (.int .i64 k.s)).setCell ⟨q, 2, none⟩ (.slice k.A0 k.n0 k.c0)).setCell ⟨q, 3, none⟩ (.string k.t)).setCell ⟨q, 4, none⟩ (.slice k.A1 k.n1 k.c1)).setCell ⟨q, 5, none⟩ (.slice k.A2 k.n2 k.c2)).setCell ⟨q, 6, none⟩ (.slice k.A3 k.D.length k.c3))
section
variable {w w' : World} {q : Nat} {k j : Clm}
theorem KB.lt (h : KB w q k) : q < w.heap.size := World.block_lt_of_cell? _ _ h.c0
theorem KB.keep (h : KB w q k) (hb : Below w.heap.size w w') : KB w' q k :=
 ⟨up hb h.c0 h.lt, up hb h.c1 h.lt, up hb h.c2 h.lt, up hb h.c3 h.lt, up hb h.c4 h.lt, up hb h.c5 h.lt, up hb h.c6 h.lt, upf hb h.f0 h.lt, upf hb h.f1 h.lt, upf hb h.f2 h.lt, upf hb h.f3 h.lt, upf hb h.f4 h.lt, upf hb h.f5 h.lt, upf hb h.f6 h.lt⟩
theorem KB.new (w : World) : KB (w.alloc (Obj.cells #[.int .i64 0, .int .i64 0, .slice none 0 0, .string ⟨#[]⟩, .slice none 0 0, .slice none 0 0, .slice none 0 0] 54)) w.heap.size zeroK := by
 unfold zeroK;constructor <;> simp [go_sem]
theorem fr7 (w : World) (q : Nat) (k : Clm) : Fr q (q + 1) w (set7 w q k) := by
 unfold set7;exact (((((((Fr.refl _ _ w).setCell (p := ⟨q, 0, none⟩) nr_ (Nat.lt_succ_self _) _).setCell (p := ⟨q, 1, none⟩) nr_ (Nat.lt_succ_self _) _).setCell (p := ⟨q, 2, none⟩) nr_ (Nat.lt_succ_self _) _).setCell (p := ⟨q, 3, none⟩) nr_ (Nat.lt_succ_self _) _).setCell (p := ⟨q, 4, none⟩) nr_ (Nat.lt_succ_self _) _).setCell (p := ⟨q, 5, none⟩) nr_ (Nat.lt_succ_self _) _).setCell (p := ⟨q, 6, none⟩) nr_ (Nat.lt_succ_self _) _
theorem From.set7 {w0 : World} (h : From w0 w) (hq : w0.heap.size ≤ q) (k : Clm) : From w0 (set7 w q k) := ⟨h.below.trans ((fr7 w q k).below hq h.below.size)⟩
theorem OwnK.zero (w : World) (lo hi : Nat) : OwnK w lo hi zeroK := ⟨Own.nil _ _ _ _ _ _, Own.nil _ _ _ _ _ _, Own.nil _ _ _ _ _ _, Own.nil _ _ _ _ _ _, (fun d hd => by cases hd), List.Pairwise.nil⟩
theorem ApK.zero : ApK zeroK := ⟨(fun a h => by cases h), (fun a h => by cases h), (fun a h => by cases h), (fun d hd => by cases hd), (fun d hd => by cases hd), (fun d hd => by cases hd)⟩
end
theorem own_one (w : World) (v : Int) : Own (w.alloc (Obj.cells #[.int .i64 v] 3)) w.heap.size (w.heap.size + 1) 3 1 (some ⟨w.heap.size, 0, none⟩) 1 1 (fun _ => .int .i64 v) :=
 .inr ⟨w.heap.size, #[.int .i64 v], rfl, nr_, Nat.lt_succ_self _, heap_alloc_new w _, nr_, by unfold maxLen; omega, rfl, fun j hj => by
  have e : j = 0 := by omega
  subst e; rfl⟩
noncomputable def ivO (r : Nat → Nat) (m : Nat) : Option (List Nat × List Nat) := (clO r m).bind fun l => mdV l m
theorem ivO_none {r : Nat → Nat} {m : Nat} (h : clO r m = none) : ivO r m = none := by unfold ivO; rw [h]; rfl
theorem ivO_some {r : Nat → Nat} {m : Nat} {l : List Nat} (h : clO r m = some l) : ivO r m = mdV l m := by unfold ivO; rw [h]; rfl
theorem cqS_mem {Q : List Nat} : ∀ (k : Nat) (l o : List Nat), cqS Q k l = some o → (∀ s ∈ l, s ∈ Q) → ∀ s ∈ o, s ∈ Q
 | 0, l, o, h, hl => by
   obtain rfl := Option.some.inj h
   exact hl
 | k + 1, l, o, h, hl => by
   unfold cqS at h
   obtain ⟨i, hi, h⟩ := List.exists_of_findSome?_eq_some h
   split at h
   ·refine cqS_mem k _ o h fun s hs => ?_
    rw [List.mem_append, List.mem_singleton] at hs
    rcases hs with hs | rfl
    ·exact hl s hs
    ·have := List.mem_range.1 hi
     rw [List.getD_eq_getElem?_getD, List.getElem?_eq_getElem this]
     exact List.getElem_mem this
   ·cases h
theorem clO_lt {r : Nat → Nat} {m : Nat} {l : List Nat} (h : clO r m = some l) : ∀ s ∈ l, s < 2 ^ m := by
 unfold clO at h;split at h
 ·intro s hs;exact (mem_mqL.1 (cqS_mem _ _ _ h (fun s hs => (by cases hs)) s hs)).1
 ·cases h
theorem cqS_len {Q : List Nat} : ∀ (k : Nat) (l o : List Nat), cqS Q k l = some o → o.length = l.length + k
 | 0, l, o, h => by
   obtain rfl := Option.some.inj h
   rfl
 | k + 1, l, o, h => by
   unfold cqS at h
   obtain ⟨i, hi, h⟩ := List.exists_of_findSome?_eq_some h
   split at h
   ·have := cqS_len k _ o h
    rw [List.length_append, List.length_singleton] at this
    omega
   ·cases h
theorem clO_len {r : Nat → Nat} {m : Nat} {l : List Nat} (hm : m ≤ 7) (h : clO r m = some l) : l.length ≤ 128 := by
 unfold clO at h;split at h
 ·have h1 := cqS_len _ _ _ h;have h2 : (mqL r m).length ≤ 2 ^ m := mqK_len r m (2 ^ m);have h3 := two_pow_le hm;rw [List.length_nil] at h1;omega
 ·cases h
noncomputable def wgO (r : Nat → Nat) (m : Nat) : Option (List Nat × List Nat) := (thO r m).map fun x => ((List.range m).map (wtF x.reverse (joinOf r (2 ^ m - 1) x).reverse x.length), [wtL (joinOf r (2 ^ m - 1) x).reverse x.length])
def oneP (l : List Nat) : List Nat × List Nat := (l, [])
def oneS (s : Nat) : List Nat × List Nat := ([s], [])
noncomputable def mdO (r : Nat → Nat) (m : Nat) (s : List UInt8) : Option (List Nat × List Nat) :=
 if s = [99, 104, 111, 114, 100, 97, 108] then (redL (firstS r) (2 ^ m - 1)).map oneP else if s = [105, 110, 116, 101, 114, 118, 97, 108] then ivO r m else if s = [112, 114, 111, 112, 101, 114] then (umO r m).map oneP else if s = [99, 111, 103, 114, 97, 112, 104] then (redL (twF m r) (2 ^ m - 1)).map oneP else if s = [115, 112, 108, 105, 116] then (slO r m).map oneS else if s = [116, 104, 114, 101, 115, 104, 111, 108, 100] then wgO r m else if s = [98, 105, 112, 97, 114, 116, 105, 116, 101] then (sdO r m).map oneS else if s = [115, 116, 114, 111, 110, 103] then (redL (sgF r) (2 ^ m - 1)).map oneP else none
noncomputable def mdG (sz : Int) (m : Nat) (x : Nat → Int) (s : List UInt8) : Option (List Nat × List Nat) := if okB sz m x = true then mdO (rw_ x) m s else none
theorem mdG_no {sz : Int} {m : Nat} {x : Nat → Int} {s : List UInt8} (h : okB sz m x = false) : mdG sz m x s = none := by unfold mdG; rw [h]; rfl
theorem mdG_yes {sz : Int} {m : Nat} {x : Nat → Int} {s : List UInt8} (h : okB sz m x = true) : mdG sz m x s = mdO (rw_ x) m s := by unfold mdG; rw [h]; rfl
theorem orG_yes {F : (Nat → Nat) → Nat → Option Nat} {sz : Int} {m : Nat} {x : Nat → Int} (h : okB sz m x = true) : orG F sz m x = redL (F (rw_ x)) (2 ^ m - 1) := by unfold orG; rw [if_pos h]
def short (p : List Nat × List Nat) : Prop := p.1.length ≤ 127 ∧ p.2.length ≤ 127
theorem short_map {o : Option (List Nat)} {p : List Nat × List Nat} (ho : ∀ l, o = some l → l.length ≤ 127) (h : o.map oneP = some p) : short p := by
 cases o with
 | none => cases h
 | some l =>
   obtain rfl := Option.some.inj h;exact ⟨ho l rfl, Nat.zero_le _⟩
theorem short_mapS {o : Option Nat} {p : List Nat × List Nat} (h : o.map oneS = some p) : short p := by
 cases o with
 | none => cases h
 | some l =>
   obtain rfl := Option.some.inj h;exact ⟨Nat.succ_le_succ (Nat.zero_le _), Nat.zero_le _⟩
theorem mdO_short {r : Nat → Nat} {m : Nat} {s : List UInt8} {p : List Nat × List Nat} (hm : m ≤ 7) (h : mdO r m s = some p) : short p := by
 have h128 := two_pow_le hm;unfold mdO at h;split at h
 ·exact short_map (fun l hl => by have := redL_len _ _ hl; omega) h
 split at h
 ·unfold ivO at h;cases hc : clO r m with
  | none => rw [hc] at h; cases h
  | some l =>
    rw [hc] at h;change mdV l m = some p at h;unfold mdV at h;split at h
    ·obtain rfl := Option.some.inj h;exact ⟨by show (mdL l m).length ≤ 127; rw [mdL_len]; omega, by show (mdR l m).length ≤ 127; rw [mdR_len]; omega⟩
    ·cases h
 split at h
 ·refine short_map (fun l hl => ?_) h;have h1 := (seaG_sound m [] l hl).2.1;rw [h1];simp only [List.length_nil];omega
 split at h
 ·exact short_map (fun l hl => by have := redL_len _ _ hl; omega) h
 split at h
 ·exact short_mapS h
 split at h
 ·unfold wgO at h;cases ht : thO r m with
  | none => rw [ht] at h; cases h
  | some l =>
    rw [ht] at h;obtain rfl := Option.some.inj h;exact ⟨by simp; omega, by simp⟩
 split at h
 ·exact short_mapS h
 split at h
 ·exact short_map (fun l hl => by have := redL_len _ _ hl; omega) h
 ·cases h
theorem mdG_short {sz : Int} {m : Nat} {x : Nat → Int} {s : List UInt8} {p : List Nat × List Nat} (h : mdG sz m x s = some p) : short p := by
 cases ho : okB sz m x
 ·rw [mdG_no ho] at h; cases h
 ·rw [mdG_yes ho] at h;obtain ⟨_, _, vg, _⟩ := okB_ok ho;exact mdO_short vg.n7 h
noncomputable def gA {α : Type} (sz : Int) (m : Nat) (x : Nat → Int) (f : (Nat → Nat) → Nat → Option α) : Option α := if okB sz m x = true then f (rw_ x) m else none
section
variable {α β : Type} {sz : Int} {m : Nat} {x : Nat → Int} {f : (Nat → Nat) → Nat → Option α}
theorem gA_no (h : okB sz m x = false) : gA sz m x f = none := by unfold gA; rw [h]; rfl
theorem gA_yes (h : okB sz m x = true) : gA sz m x f = f (rw_ x) m := by unfold gA; rw [if_pos h]
theorem gA_map {g : α → β} : (gA sz m x f).map g = gA sz m x fun r m => (f r m).map g := by
 cases h : okB sz m x
 ·rw [gA_no h, gA_no h]; rfl
 ·rw [gA_yes h, gA_yes h]
theorem mdG_is {s : List UInt8} : mdG sz m x s = gA sz m x fun r m => mdO r m s := rfl
end
def mrQ (w : World) (o : Option (List Nat × List Nat)) (e : Ending) (w' : World) : Prop :=
 ∃ A1 n1 c1 A2 n2 c2, e = .returned (.tuple #[.slice A1 n1 c1, .slice A2 n2 c2, .bool o.isSome]) ∧ (∀ p, o = some p → n1 = p.1.length ∧ n2 = p.2.length ∧ TwoN w' w.heap.size A1 c1 p.1 A2 c2 p.2) ∧ Below w.heap.size w w'
section
variable {w w' : World} {A1 A2 : Option Addr} {n1 c1 n2 c2 lo : Nat} {o : Option (List Nat)} {p : Option Nat}
theorem mrQ.no (hb : Below w.heap.size w w') : mrQ w none (.returned (.tuple #[.slice A1 n1 c1, .slice A2 n2 c2, .bool false])) w' := ⟨A1, n1, c1, A2, n2, c2, rfl, fun p h => (by cases h), hb⟩
theorem mrQ.yes {l k : List Nat} (h : TwoN w' w.heap.size A1 c1 l A2 c2 k) (hb : Below w.heap.size w w') : mrQ w (some (l, k)) (.returned (.tuple #[.slice A1 l.length c1, .slice A2 k.length c2, .bool true])) w' := ⟨A1, _, c1, A2, _, c2, rfl, fun p e => (by obtain rfl := Option.some.inj e; exact ⟨rfl, rfl, h⟩), hb⟩
theorem TwoN.of {l : List Nat} (hL : ON lo w' A1 c1 l) (hlo : w.heap.size ≤ lo) : TwoN w' w.heap.size A1 c1 l none 0 [] := ⟨hL.own.mono hlo nr_, Own.nil _ _ _ _ _ _, fun a _ e => (by cases e)⟩
theorem TwoN.one (s : Nat) (hb : Below w.heap.size w w') : TwoN (w'.alloc (Obj.cells #[.int .i64 (s : Int)] 3)) w.heap.size (some ⟨w'.heap.size, 0, none⟩) 1 [s] none 0 [] := by
 refine ⟨((own_one w' (s : Int)).congr fun j hj => ?_).mono hb.size (by simp), Own.nil _ _ _ _ _ _, fun a _ e => (by cases e)⟩;obtain rfl : j = 0 := by omega
 rfl
theorem mrQ.ls (hL : ON lo w' A1 c1 (o.getD [])) (hlo : w.heap.size ≤ lo) (hb : Below w.heap.size w w') : mrQ w (o.map oneP) (.returned (.tuple #[.slice A1 (o.getD []).length c1, .slice none 0 0, .bool o.isSome])) w' := by
 cases o with
 | none => exact mrQ.no hb
 | some l => exact mrQ.yes (TwoN.of hL hlo) hb
theorem mrQ.ls2 (hL : ON lo w' A1 c1 (o.getD [])) (hlo : w.heap.size ≤ lo) (hb : Below w.heap.size w w') : mrQ w (o.map oneP) (.returned (.tuple #[.slice A1 (o.getD []).length c1, .slice (some ⟨w'.heap.size, 0, none⟩) 0 0, .bool o.isSome])) (w'.alloc (Obj.cells #[] 3)) := by
 have hb2 : Below w.heap.size w (w'.alloc (Obj.cells #[] 3)) := hb.alloc hb.size _;cases o with
 | none => exact mrQ.no hb2
 | some l => exact mrQ.yes ((TwoN.of hL hlo).addNew hb.size) hb2
theorem mrQ.one (s : Nat) (hb : Below w.heap.size w w') : mrQ w (some (oneS s)) (.returned (.tuple #[.slice (some ⟨w'.heap.size, 0, none⟩) 1 1, .slice none 0 0, .bool true])) (w'.alloc (Obj.cells #[.int .i64 (s : Int)] 3)) := mrQ.yes (TwoN.one s hb) (hb.alloc hb.size _)
theorem mrQ.one2 (s : Nat) (hb : Below w.heap.size w w') : mrQ w (some (oneS s)) (.returned (.tuple #[.slice (some ⟨w'.heap.size, 0, none⟩) 1 1, .slice (some ⟨w'.heap.size + 1, 0, none⟩) 0 0, .bool true])) ((w'.alloc (Obj.cells #[.int .i64 (s : Int)] 3)).alloc (Obj.cells #[] 3)) := by
 have h := (TwoN.one s hb).addNew (by have := hb.size; simp; omega);have e : (w'.alloc (Obj.cells #[.int .i64 (s : Int)] 3)).heap.size = w'.heap.size + 1 := by simp
 rw [e] at h;exact mrQ.yes h ((hb.alloc hb.size _).alloc (by have := hb.size; simp; omega) _)
theorem mrQ.wg {r : Nat → Nat} {m n' c' lim : Nat} {A' : Option Addr} (hx : ∀ x, thO r m = some x → n' = m ∧ lim = wtL (joinOf r (2 ^ m - 1) x).reverse x.length ∧ Own w' lo w'.heap.size 3 1 A' m c' (fun j => .int .i64 (wtF x.reverse (joinOf r (2 ^ m - 1) x).reverse x.length j : Nat))) (hlo : w.heap.size ≤ lo) (hb : Below w.heap.size w w') :
 mrQ w (wgO r m) (.returned (.tuple #[.slice A' n' c', .slice (some ⟨w'.heap.size, 0, none⟩) 1 1, .bool (thO r m).isSome])) (w'.alloc (Obj.cells #[.int .i64 (lim : Int)] 3)) := by
 have hb2 : Below w.heap.size w (w'.alloc (Obj.cells #[.int .i64 (lim : Int)] 3)) := hb.alloc hb.size _;cases ho : thO r m with
 | none =>
   have e : wgO r m = none := by unfold wgO; rw [ho]; rfl
   rw [e];exact mrQ.no hb2
 | some x =>
   obtain ⟨rfl, rfl, hO⟩ := hx x ho;have e : wgO r n' = some ((List.range n').map (wtF x.reverse (joinOf r (2 ^ n' - 1) x).reverse x.length), [wtL (joinOf r (2 ^ n' - 1) x).reverse x.length]) := by unfold wgO; rw [ho]; rfl
   rw [e];refine ⟨_, _, _, _, _, _, rfl, fun p hp => ?_, hb2⟩;obtain rfl := Option.some.inj hp;have h1 := TwoN.one (wtL (joinOf r (2 ^ n' - 1) x).reverse x.length) hb;refine ⟨by simp, rfl, ⟨?_, h1.o1, fun a h2 h3 => ?_⟩⟩
   ·have h4 := ((hO.alloc (Obj.cells #[.int .i64 (wtL (joinOf r (2 ^ n' - 1) x).reverse x.length : Int)] 3)).mono hlo (show w'.heap.size ≤ (w'.alloc (Obj.cells #[.int .i64 (wtL (joinOf r (2 ^ n' - 1) x).reverse x.length : Int)] 3)).heap.size by simp));have e2 : ((List.range n').map (wtF x.reverse (joinOf r (2 ^ n' - 1) x).reverse x.length)).length = n' := by simp
    show Own _ _ _ _ _ _ ((List.range n').map (wtF x.reverse (joinOf r (2 ^ n' - 1) x).reverse x.length)).length _ _;rw [e2];refine h4.congr fun j hj => ?_
    unfold ni;simp [List.getD, show j < n' by omega]
   ·rcases hO.at_block with h' | ⟨g, h', _, hlt⟩
    ·rw [h'] at h2; cases h2
    ·rw [h'] at h2;rw [← h2] at h3;simp only [Option.some.injEq, Addr.mk.injEq, and_true] at h3;omega
end
end Go.Proofs.YtdpkbfiggbcclaaGreat
