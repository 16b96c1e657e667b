/-
  Several texts in one.
-/
import Derived.Test.YtdpkbfiggbcclaaGreatQmCmbI
import Derived.Test.YtdpkbfiggbcclaaGreatQmAvoidS
import Derived.Test.YtdpkbfiggbcclaaGreatQmJoinS
import Derived.Test.YtdpkbfiggbcclaaGreatQmJoinU
import Derived.Test.YtdpkbfiggbcclaaGreatQmMdlP
import Derived.Deep.RegionHeld3
import Derived.Test.YtdpkbfiggbcclaaGreatQmThjP
import Derived.Test.YtdpkbfiggbcclaaGreatQmHamT
import Derived.Test.YtdpkbfiggbcclaaGreatQmClaim
import Derived.Test.YtdpkbfiggbcclaaGreatQmBarS
import Derived.Test.YtdpkbfiggbcclaaGreatQmFouS
import Derived.Test.YtdpkbfiggbcclaaGreatQmSunS
/-
-/
namespace Go.Proofs.YtdpkbfiggbcclaaGreat
open Go.RowKit
set_option maxHeartbeats 6400000
section
variable (sz : Int) (A : Option Addr) (m cA : Nat) (x : Nat → Int) (a b c : Int) (w : World)
set_option maxRecDepth 100000 in
theorem IsTriple_s (h : GA w A m cA x) (hm : m ≤ 1048576) :
 Calls Tryz.prog 315 #[.agg #[.int .i64 sz, .slice A m cA], .int .i64 a, .int .i64 b, .int .i64 c] w fun e w' => e = .returned (.bool (trB sz m x a b c)) ∧ Below w.heap.size w w' := by
 obtain ⟨W, hW⟩ : ∃ W, W = (w.alloc (Obj.cells #[.int .i64 sz, .slice A m cA] 28)) := ⟨_, rfl⟩;have HB : Hid (From w W) := by rw [hW]; exact From.alloc _ _
 have HK := hh_ (h.keep HB.below);have HC : Hid (GC W w.heap.size sz A m cA) := by rw [hW]; exact GC.new _ _ _ _ _
 have HW := hh_ hW;clear hW h;have Heq : Hid (trB sz m x a b c = ((avB sz m x a b c && avB sz m x b c a && avB sz m x c a b) && ((a != b) && (b != c) && (a != c)))) := by
  show _ = _; unfold trB;by_cases h0 : a = b <;> by_cases h1 : b = c <;> by_cases h2 : a = c <;> simp [h0, h1, h2]
 go_enter Tryz.func315, Tryz.ntmps315;obtain ⟨e0, e1⟩ := gc_ HC;go_wp2_with fail
 rw [← HW.out];refine (AvoidingPath_s sz A m cA x a b c W HK hm).mono ?_;rintro e w1 ⟨A5, n5, c5, rfl, hb1⟩;clear HW;clear e0 e1;obtain ⟨HB, HK, HC, e0, e1⟩ := kC_ HB HK HC hb1;clear hb1;go_wp2_with fail
 refine (AvoidingPath_s sz A m cA x b c a w1 HK hm).mono ?_;rintro e w2 ⟨A6, n6, c6, rfl, hb2⟩;clear e0 e1;obtain ⟨HB, HK, HC, e0, e1⟩ := kC_ HB HK HC hb2;clear hb2;go_wp2_with fail
 refine (AvoidingPath_s sz A m cA x c a b w2 HK hm).mono ?_;rintro e w3 ⟨A7, n7, c7, rfl, hb3⟩;clear e0 e1;obtain ⟨HB, HK, HC, e0, e1⟩ := kC_ HB HK HC hb3;clear hb3;obtain ⟨t1, ht1⟩ : ∃ t, t = avB sz m x a b c := ⟨_, rfl⟩;obtain ⟨t2, ht2⟩ : ∃ t, t = avB sz m x b c a := ⟨_, rfl⟩;obtain ⟨t3, ht3⟩ : ∃ t, t = avB sz m x c a b := ⟨_, rfl⟩;obtain ⟨d1, hd1⟩ : ∃ d, d = (a != b) := ⟨_, rfl⟩;obtain ⟨d2, hd2⟩ : ∃ d, d = (b != c) := ⟨_, rfl⟩;obtain ⟨d3, hd3⟩ : ∃ d, d = (a != c) := ⟨_, rfl⟩;rw [← ht1, ← ht2, ← ht3, ← hd1, ← hd2, ← hd3] at Heq;simp only [← ht1, ← ht2, ← ht3];have i1 := hd1.symm;have i2 := hd2.symm;have i3 := hd3.symm;clear ht1 ht2 ht3 hd1 hd2 hd3 HK HC e0 e1;cases t1 <;> cases t2 <;> cases t3 <;> cases d1 <;> cases d2 <;> cases d3 <;> (go_wp2; go_ret; exact ⟨ret_bool (by rw [Heq.out]; rfl), HB.below⟩)
end
section
variable (sz : Int) (A : Option Addr) (m c : Nat) (x : Nat → Int) (Al : Option Addr) (n cl : Nat) (l : List Int) (w : World)
end
set_option maxHeartbeats 6400000
set_option maxRecDepth 100000 in
theorem FindTriple_sv {A : Option Addr} {m c : Nat} {r : Nat → Nat} {w : World} (h : GV w A m c r) : Calls Tryz.prog 204 #[.agg #[.int .i64 m, .slice A m c]] w (lsQ w (triO r m)) := by
 have hm7 := h.vg.n7;obtain ⟨W, hW, HB, HG⟩ := gbW h;have HW := hh_ hW;clear hW h;obtain ⟨e0, e1⟩ := gx_ HG;have HR0 : Hid (From W W) := From.refl W;go_enter Tryz.func204, Tryz.ntmps204;go_wp2_with fail
 rw [← HW.out];clear HW;go_wp2;go_loopw [4] (fun i wr => ∃ a : Nat, a ≤ m ∧ i = .int .i64 a ∧ Hid (∀ u, u < a → triA r m u = none) ∧ Hid (From W wr)) (fun i _ => m - (intOf i).toNat);case atStart => exact ⟨0, Nat.zero_le _, rfl, (fun u hu => absurd hu (by omega)), HR0⟩
 case round =>
  clear HR0 e0 e1;obtain ⟨a, ha, rfl, hall, HR⟩ := hrel;have HB1 := hh_ (HB.up HR.out);have HG1 := hh_ (HG.keep HR.below);have e0 := HG1.c0;have e1 := HG1.c1;by_cases ham : a < m
  ·have i1 : (a : Int) < m := by omega
   go_wp2_with fail
   refine (IsGraph_sv HG1.gv).mono ?_;rintro e w1 ⟨rfl, hb1⟩;clear e0 e1;replace HB1 := hh_ (HB1.keep hb1);replace HG1 := hh_ (HG1.keep hb1);replace HR := hh_ (HR.keep hb1);clear hb1;have e0 := HG1.c0;have e1 := HG1.c1;go_wp2;clear e0 e1 HB1 HG1;go_loopw [5] (fun i wr => ∃ b : Nat, a + 1 ≤ b ∧ b ≤ m ∧ i = .int .i64 b ∧ Hid (∀ u, u < b → triB r m a u = none) ∧ Hid (From W wr)) (fun i _ => m - (intOf i).toNat);case atStart => exact ⟨a + 1, nr_, by omega, by go_num, (fun u hu => triB_lo (by omega)), HR⟩
   case round =>
    clear HR;obtain ⟨b, hab, hb, rfl, hallb, HR⟩ := hrel;have HB1 := hh_ (HB.up HR.out);have HG1 := hh_ (HG.keep HR.below);have e0 := HG1.c0;have e1 := HG1.c1;by_cases hbm : b < m
    ·have i2 : (b : Int) < m := by omega
     go_wp2;clear e0 e1 HB1 HG1;go_loopw [6] (fun i wr => ∃ c : Nat, b + 1 ≤ c ∧ c ≤ m ∧ i = .int .i64 c ∧ Hid (∀ u, u < c → triC r m a b u = none) ∧ Hid (From W wr)) (fun i _ => m - (intOf i).toNat);case atStart => exact ⟨b + 1, nr_, by omega, by go_num, (fun u hu => triC_lo (by omega)), HR⟩
     case round =>
      clear HR;obtain ⟨k, hbk, hk, rfl, hallc, HR⟩ := hrel;have HB1 := hh_ (HB.up HR.out);have HG1 := hh_ (HG.keep HR.below);have e0 := HG1.c0;have e1 := HG1.c1;by_cases hkm : k < m
      ·have i3 : (k : Int) < m := by omega
       obtain ⟨t, ht⟩ : ∃ t, t = trB (m : Int) m (fun v => (r v : Int)) (a : Nat) (b : Nat) (k : Nat) := ⟨_, rfl⟩;have KT : Hid (∀ {z : World}, GV z A m c r → Calls Tryz.prog 315 #[.agg #[.int .i64 m, .slice A m c], .int .i64 a, .int .i64 b, .int .i64 k] z fun e w' => e = .returned (.bool t) ∧ Below z.heap.size z w') := by rw [ht]; exact fun h => IsTriple_s m A m c _ a b k _ h.ga (by omega)
       cases t
       ·have Hn : Hid (triC r m a b k = none) := triC_no ht.symm;clear ht;go_wp2_with fail
        refine (KT.out HG1.gv).mono ?_;rintro e w2 ⟨rfl, hb2⟩;clear e0 e1;replace HB1 := hh_ (HB1.keep hb2);replace HG1 := hh_ (HG1.keep hb2);replace HR := hh_ (HR.keep hb2);clear hb2;have e0 := HG1.c0;have e1 := HG1.c1;go_wp2;go_roundw;case rel =>
         refine ⟨k + 1, by omega, by omega, by go_num, fun u hu => ?_, HR⟩;by_cases huv : u < k
         ·exact hallc.out u huv
         ·obtain rfl : u = k := by omega
          exact Hn.out
        case measure => (simp [intOf] <;> omega)
       ·have Hs : Hid (triO r m = some [a, b, k]) := range_some ham (range_some hbm (range_some hkm (triC_yes (by omega) (by omega) ht.symm) hallc.out) hallb.out) hall.out;clear ht;go_wp2_with fail
        refine (KT.out HG1.gv).mono ?_;rintro e w3 ⟨rfl, hb3⟩;clear e0 e1;replace HB1 := hh_ (HB1.keep hb3);replace HG1 := hh_ (HG1.keep hb3);replace HR := hh_ (HR.keep hb3);clear hb3;have e0 := HG1.c0;have e1 := HG1.c1;have HON := hh_ (ON.three w3 a b k);have HBz := hh_ (HB1.alloc_ (Obj.cells #[.int .i64 (a : Int), .int .i64 (b : Int), .int .i64 (k : Int)] 3));go_wp2;go_ret2;rw [Hs.out];exact lsQ.yes (HON.mono HB1.below.size) HBz.below
      ·have Hn : Hid (triB r m a b = none) := range_none fun u hu => hallc.out u (by omega)
       have i3 : (m : Int) ≤ k := by omega
       go_wp2;go_roundw;case rel =>
        refine ⟨b + 1, by omega, by omega, by go_num, fun u hu => ?_, HR⟩;by_cases huv : u < b
        ·exact hallb.out u huv
        ·obtain rfl : u = b := by omega
         exact Hn.out
       case measure => (simp [intOf] <;> omega)
    ·have Hn : Hid (triA r m a = none) := range_none fun u hu => hallb.out u (by omega)
     have i3 : (m : Int) ≤ b := by omega
     go_wp2;go_roundw;case rel =>
      refine ⟨a + 1, by omega, by go_num, fun u hu => ?_, HR⟩;by_cases huv : u < a
      ·exact hall.out u huv
      ·obtain rfl : u = a := by omega
       exact Hn.out
     case measure => (simp [intOf] <;> omega)
  ·have Hn : Hid (triO r m = none) := range_none fun u hu => hall.out u (by omega)
   have i1 : (m : Int) ≤ a := by omega
   have HON : Hid (ON wr.heap.size (wr.alloc (Obj.cells #[] 3)) (some ⟨wr.heap.size, 0, none⟩) 0 []) := ON.nil wr;have HBz := hh_ (HB1.alloc_ (Obj.cells #[] 3));go_wp2;go_ret2;rw [Hn.out];exact ⟨_, _, rfl, HON.mono HB1.below.size, HBz.below⟩
set_option maxRecDepth 100000 in
theorem FindTriple_sno (sz : Int) (A : Option Addr) (m c : Nat) (x : Nat → Int) (w : World) (h : GA w A m c x) (hm : m ≤ 1048576) (hok : okB sz m x = false) :
 Calls Tryz.prog 204 #[.agg #[.int .i64 sz, .slice A m c]] w (lsQ w none) := by
 obtain ⟨W, hW, HB, HK, HC⟩ := gaW sz h;have HW := hh_ hW;have Ho := hh_ hok;have HR0 : Hid (From W W) := From.refl W;clear hW h hok;go_enter Tryz.func204, Tryz.ntmps204;obtain ⟨e0, e1⟩ := gc_ HC;go_wp2_with fail
 rw [← HW.out];clear HW;go_wp2;go_loopw [4] (fun i wr => i = .int .i64 0 ∧ Hid (From W wr)) (fun _ _ => 0);case atStart => exact ⟨rfl, HR0⟩
 case round =>
  clear HR0 e0 e1;obtain ⟨rfl, HR⟩ := hrel;have HB1 := hh_ (HB.up HR.out);have HK1 := hh_ (HK.keep HR.below);have HC1 := hh_ (HC.keep HR.below);have e0 := HC1.c0;have e1 := HC1.c1;by_cases hnm : 0 < sz
  ·skip;go_wp2_with fail
   refine (IsGraph_sany sz A m c x wr wr.heap.size HK1.rd nr_ hm).mono ?_;rintro e w5 ⟨rfl, hb1⟩;rw [Ho.out];clear e0 e1;replace HB1 := hh_ (HB1.keep hb1);replace HC1 := hh_ (HC1.keep hb1);clear hb1;have e0 := HC1.c0;have e1 := HC1.c1;have HON : Hid (ON w5.heap.size (w5.alloc (Obj.cells #[] 3)) (some ⟨w5.heap.size, 0, none⟩) 0 []) := ON.nil w5;have HBz := hh_ (HB1.alloc_ (Obj.cells #[] 3));go_wp2;go_ret2;exact ⟨_, _, rfl, HON.mono HB1.below.size, HBz.below⟩
  ·have i1 : sz ≤ 0 := by omega
   have HON : Hid (ON wr.heap.size (wr.alloc (Obj.cells #[] 3)) (some ⟨wr.heap.size, 0, none⟩) 0 []) := ON.nil wr;have HBz := hh_ (HB1.alloc_ (Obj.cells #[] 3));go_wp2;go_ret2;exact ⟨_, _, rfl, HON.mono HB1.below.size, HBz.below⟩
def st7 (w : World) (q : Nat) (v0 v1 v2 v3 v4 v5 v6 : Value) : World := ((((((w.setCell ⟨q, 0, none⟩ v0).setCell ⟨q, 1, none⟩ v1).setCell ⟨q, 2, none⟩ v2).setCell ⟨q, 3, none⟩ v3).setCell ⟨q, 4, none⟩ v4).setCell ⟨q, 5, none⟩ v5).setCell ⟨q, 6, none⟩ v6
theorem fr_st7 (w : World) (q : Nat) (v0 v1 v2 v3 v4 v5 v6 : Value) : Fr q (q + 1) w (st7 w q v0 v1 v2 v3 v4 v5 v6) := by
 unfold st7;exact (((((((Fr.refl _ _ w).setCell (p := ⟨q, 0, none⟩) nr_ (Nat.lt_succ_self _) _).setCell (p := ⟨q, 1, none⟩) nr_ (Nat.lt_succ_self _) _).setCell (p := ⟨q, 2, none⟩) nr_ (Nat.lt_succ_self _) _).setCell (p := ⟨q, 3, none⟩) nr_ (Nat.lt_succ_self _) _).setCell (p := ⟨q, 4, none⟩) nr_ (Nat.lt_succ_self _) _).setCell (p := ⟨q, 5, none⟩) nr_ (Nat.lt_succ_self _) _).setCell (p := ⟨q, 6, none⟩) nr_ (Nat.lt_succ_self _) _
theorem KB.st7 {X : World} {q : Nat} {k0 : Clm} (h : KB X q k0) (k : Clm) : KB (st7 X q (.int .i64 k.K) (.int .i64 k.s) (.slice k.A0 k.n0 k.c0) (.string k.t) (.slice k.A1 k.n1 k.c1) (.slice k.A2 k.n2 k.c2) (.slice k.A3 k.D.length k.c3)) q k := by
 have e0 := h.c0;have e1 := h.c1;have e2 := h.c2;have e3 := h.c3;have e4 := h.c4;have e5 := h.c5;have e6 := h.c6;have f0 := h.f0;have f1 := h.f1;have f2 := h.f2;have f3 := h.f3;have f4 := h.f4;have f5 := h.f5;have f6 := h.f6;unfold Go.Proofs.YtdpkbfiggbcclaaGreat.st7;constructor <;> simp [go_sem, e0, e1, e2, e3, e4, e5, e6, f0, f1, f2, f3, f4, f5, f6]
section
variable {A : Option Addr} {m c : Nat} {r : Nat → Nat}
theorem ComplementOf_sv {w : World} (h : GV w A m c r) :
 Calls Tryz.prog 290 #[.agg #[.int .i64 m, .slice A m c]] w fun e w' => ∃ A' c', e = .returned (.tuple #[.agg #[.int .i64 m, .slice A' m c'], .bool true]) ∧ GV w' A' m c' (coR r m) ∧ Below w.heap.size w w' := by
 have hk := ComplementOf_s (m : Int) A m c _ w ⟨h.rd⟩ (by have := h.vg.n7; omega);rw [h.ok] at hk;refine hk.mono ?_;rintro e w' ⟨sz', A', m', c', rfl, h2, h3⟩;obtain ⟨rfl, rfl, h4⟩ := h2 rfl;rw [rw_cast] at h4;exact ⟨A', c', rfl, h4, h3⟩
end
set_option maxHeartbeats 1600000
set_option maxRecDepth 100000 in
theorem FindAntihole_sv {A : Option Addr} {m c : Nat} {r : Nat → Nat} {w : World} (h : GV w A m c r) : Calls Tryz.prog 212 #[.agg #[.int .i64 m, .slice A m c]] w (lsQ w (ahO r m)) := by
 obtain ⟨W, hW, HB, HG⟩ := gbW h;have HW := hh_ hW;clear hW h;obtain ⟨e0, e1⟩ := gx_ HG;go_enter Tryz.func212, Tryz.ntmps212;go_wp2_with fail
 rw [← HW.out];refine (ComplementOf_sv HG.gv).mono ?_;rintro e w1 ⟨A2, c2, rfl, hG2, hb1⟩;clear HW;clear e0 e1;obtain ⟨HB, HG, e0, e1⟩ := kG_ HB HG hb1;clear hb1;obtain ⟨W2, hW2⟩ : ∃ W2, W2 = (w1.alloc (Obj.cells #[.int .i64 m, .slice A2 m c2] 28)) := ⟨_, rfl⟩;have hb2 : Below w1.heap.size w1 W2 := by rw [hW2]; exact br_.alloc nr_ _
 have HG2 : Hid (GV W2 A2 m c2 (coR r m)) := hG2.keep hb2;have HQ : Hid (GC W2 w1.heap.size m A2 m c2) := by rw [hW2]; exact GC.new _ _ _ _ _
 have HB2 : Hid (From w W2) := HB.keep hb2;have HZ2 : Hid (w.heap.size ≤ W2.heap.size) := HB2.below.size;have HW2 := hh_ hW2;clear hW2 hb2 hG2 HB HG e0 e1;have d0 := HQ.c0;have d1 := HQ.c1;go_wp2_with fail
 rw [← HW2.out];clear HW2;refine (FindOddHole_sv HG2).mono ?_;rintro e w3 ⟨A3, c3, rfl, ho3, hb3⟩;have HO3 := hh_ (ho3.mono HZ2.out);clear ho3;clear d0 d1;replace HB2 := hh_ (HB2.keep hb3);replace HQ := hh_ (HQ.keep hb3);clear hb3;have d0 := HQ.c0;have d1 := HQ.c1;go_wp2;go_ret2;exact ⟨_, _, rfl, HO3.out, HB2.below⟩
set_option maxRecDepth 100000 in
theorem FindAntihole_sno (sz : Int) (A : Option Addr) (m c : Nat) (x : Nat → Int) (w : World) (h : GA w A m c x) (hm : m ≤ 1048576) (hok : okB sz m x = false) :
 Calls Tryz.prog 212 #[.agg #[.int .i64 sz, .slice A m c]] w (lsQ w none) := by
 obtain ⟨W, hW, HB, HK, HC⟩ := gaW sz h;have HW := hh_ hW;have K1 := hh_ (ComplementOf_s sz A m c x W HK hm);rw [hok] at K1;clear hW h hok;go_enter Tryz.func212, Tryz.ntmps212;obtain ⟨e0, e1⟩ := gc_ HC;go_wp2_with fail
 rw [← HW.out];refine (K1.out).mono ?_;rintro e w1 ⟨z2, A2, m2, c2, rfl, _, hb1⟩;clear HW;clear e0 e1;obtain ⟨HB, HK, HC, e0, e1⟩ := kC_ HB HK HC hb1;clear hb1;clear K1;have HON : Hid (ON w1.heap.size ((w1.alloc (Obj.cells #[.int .i64 z2, .slice A2 m2 c2] 28)).alloc (Obj.cells #[] 3)) (some ⟨w1.heap.size + 1, 0, none⟩) 0 []) := by
  have := ON.nil (w1.alloc (Obj.cells #[.int .i64 z2, .slice A2 m2 c2] 28));have e : (w1.alloc (Obj.cells #[.int .i64 z2, .slice A2 m2 c2] 28)).heap.size = w1.heap.size + 1 := by simp
  rw [e] at this;exact this.mono (by omega)
 have HBz := hh_ ((HB.alloc_ (Obj.cells #[.int .i64 z2, .slice A2 m2 c2] 28)).alloc_ (Obj.cells #[] 3));go_wp2;go_ret2;exact ⟨_, _, rfl, HON.mono HB.below.size, HBz.below⟩
set_option maxHeartbeats 1600000
set_option maxRecDepth 100000 in
theorem IntervalObstacle_sv {A : Option Addr} {m c : Nat} {r : Nat → Nat} {w : World} (h : GV w A m c r) : Calls Tryz.prog 99 #[.agg #[.int .i64 m, .slice A m c]] w (lsQ w (ioO r m)) := by
 obtain ⟨W, hW, HB, HG⟩ := gbW h;have HW := hh_ hW;clear hW h;obtain ⟨e0, e1⟩ := gx_ HG;have HZ : Hid (w.heap.size ≤ W.heap.size) := HB.below.size;have K1 := hh_ (FindHole_sv HG.gv);have HD : Hid (ioO r m = (holeO r m).or (triO r m)) := rfl;rw [HD.out];obtain ⟨o1, h1⟩ : ∃ o, o = holeO r m := ⟨_, rfl⟩;rw [← h1] at K1 ⊢;clear h1 HD;go_enter Tryz.func99, Tryz.ntmps99;go_wp2_with fail
 rw [← HW.out];refine (K1.out).mono ?_;rintro e w1 ⟨A1, c1, rfl, ho1, hb1⟩;clear HW;clear e0 e1;obtain ⟨HB, HG, e0, e1⟩ := kG_ HB HG hb1;clear hb1;have HO1 := hh_ (ho1.mono HZ.out);clear ho1 K1;cases o1 with
 | none =>
   clear HO1;have HZ1 : Hid (w.heap.size ≤ w1.heap.size) := HB.below.size;have K2 := hh_ (FindTriple_sv HG.gv);go_wp2_with fail
   refine (K2.out).mono ?_;rintro e w2 ⟨A2, c2, rfl, ho2, hb2⟩;clear e0 e1;obtain ⟨HB, HG, e0, e1⟩ := kG_ HB HG hb2;clear hb2;have HO2 := hh_ (ho2.mono HZ1.out);clear ho2 K2;go_wp2;go_ret2;exact ⟨A2, c2, rfl, HO2.out, HB.below⟩
 | some l =>
   go_wp2;go_ret2;exact lsQ.yes HO1.out HB.below
set_option maxRecDepth 100000 in
theorem IntervalObstacle_sno (sz : Int) (A : Option Addr) (m c : Nat) (x : Nat → Int) (w : World) (h : GA w A m c x) (hm : m ≤ 1048576) (hok : okB sz m x = false) :
 Calls Tryz.prog 99 #[.agg #[.int .i64 sz, .slice A m c]] w (lsQ w none) := by
 obtain ⟨W, hW, HB, HK, HC⟩ := gaW sz h;have HW := hh_ hW;have K1 := hh_ (FindHole_sno sz A m c x W HK hm hok);have Hok := hh_ hok;clear hW h hok;go_enter Tryz.func99, Tryz.ntmps99;obtain ⟨e0, e1⟩ := gc_ HC;go_wp2_with fail
 rw [← HW.out];refine (K1.out).mono ?_;rintro e w1 ⟨A1, c1, rfl, _, hb1⟩;clear HW;clear e0 e1;obtain ⟨HB, HK, HC, e0, e1⟩ := kC_ HB HK HC hb1;clear hb1;clear K1;have HZ1 : Hid (w.heap.size ≤ w1.heap.size) := HB.below.size;have K2 := hh_ (FindTriple_sno sz A m c x w1 HK hm Hok.out);go_wp2_with fail
 refine (K2.out).mono ?_;rintro e w2 ⟨A2, c2, rfl, ho2, hb2⟩;clear e0 e1;obtain ⟨HB, HK, HC, e0, e1⟩ := kC_ HB HK HC hb2;clear hb2;have HO2 := hh_ (ho2.mono HZ1.out);clear ho2 K2;go_wp2;go_ret2;exact ⟨A2, c2, rfl, HO2.out, HB.below⟩
set_option maxRecDepth 100000 in
theorem ProperObstacle_sv {A : Option Addr} {m c : Nat} {r : Nat → Nat} {w : World} (h : GV w A m c r) : Calls Tryz.prog 100 #[.agg #[.int .i64 m, .slice A m c]] w (lsQ w (poO r m)) := by
 obtain ⟨W, hW, HB, HG⟩ := gbW h;have HW := hh_ hW;clear hW h;obtain ⟨e0, e1⟩ := gx_ HG;have HZ : Hid (w.heap.size ≤ W.heap.size) := HB.below.size;have K1 := hh_ (FindClaw_sv HG.gv);have HD : Hid (poO r m = (cwO r m).or (ioO r m)) := rfl;rw [HD.out];obtain ⟨o1, h1⟩ : ∃ o, o = cwO r m := ⟨_, rfl⟩;rw [← h1] at K1 ⊢;clear h1 HD;go_enter Tryz.func100, Tryz.ntmps100;go_wp2_with fail
 rw [← HW.out];refine (K1.out).mono ?_;rintro e w1 ⟨A1, c1, rfl, ho1, hb1⟩;clear HW;clear e0 e1;obtain ⟨HB, HG, e0, e1⟩ := kG_ HB HG hb1;clear hb1;have HO1 := hh_ (ho1.mono HZ.out);clear ho1 K1;cases o1 with
 | none =>
   clear HO1;have HZ1 : Hid (w.heap.size ≤ w1.heap.size) := HB.below.size;have K2 := hh_ (IntervalObstacle_sv HG.gv);go_wp2_with fail
   refine (K2.out).mono ?_;rintro e w2 ⟨A2, c2, rfl, ho2, hb2⟩;clear e0 e1;obtain ⟨HB, HG, e0, e1⟩ := kG_ HB HG hb2;clear hb2;have HO2 := hh_ (ho2.mono HZ1.out);clear ho2 K2;go_wp2;go_ret2;exact ⟨A2, c2, rfl, HO2.out, HB.below⟩
 | some l =>
   go_wp2;go_ret2;exact lsQ.yes HO1.out HB.below
set_option maxRecDepth 100000 in
theorem ProperObstacle_sno (sz : Int) (A : Option Addr) (m c : Nat) (x : Nat → Int) (w : World) (h : GA w A m c x) (hm : m ≤ 1048576) (hok : okB sz m x = false) :
 Calls Tryz.prog 100 #[.agg #[.int .i64 sz, .slice A m c]] w (lsQ w none) := by
 obtain ⟨W, hW, HB, HK, HC⟩ := gaW sz h;have HW := hh_ hW;have K1 := hh_ (FindClaw_sno sz A m c x W HK hm hok);have Hok := hh_ hok;clear hW h hok;go_enter Tryz.func100, Tryz.ntmps100;obtain ⟨e0, e1⟩ := gc_ HC;go_wp2_with fail
 rw [← HW.out];refine (K1.out).mono ?_;rintro e w1 ⟨A1, c1, rfl, _, hb1⟩;clear HW;clear e0 e1;obtain ⟨HB, HK, HC, e0, e1⟩ := kC_ HB HK HC hb1;clear hb1;clear K1;have HZ1 : Hid (w.heap.size ≤ w1.heap.size) := HB.below.size;have K2 := hh_ (IntervalObstacle_sno sz A m c x w1 HK hm Hok.out);go_wp2_with fail
 refine (K2.out).mono ?_;rintro e w2 ⟨A2, c2, rfl, ho2, hb2⟩;clear e0 e1;obtain ⟨HB, HK, HC, e0, e1⟩ := kC_ HB HK HC hb2;clear hb2;have HO2 := hh_ (ho2.mono HZ1.out);clear ho2 K2;go_wp2;go_ret2;exact ⟨A2, c2, rfl, HO2.out, HB.below⟩
set_option maxRecDepth 100000 in
theorem SplitObstacle_sv {A : Option Addr} {m c : Nat} {r : Nat → Nat} {w : World} (h : GV w A m c r) : Calls Tryz.prog 102 #[.agg #[.int .i64 m, .slice A m c]] w (lsQ w (soO r m)) := by
 obtain ⟨W, hW, HB, HG⟩ := gbW h;have HW := hh_ hW;clear hW h;obtain ⟨e0, e1⟩ := gx_ HG;have HZ : Hid (w.heap.size ≤ W.heap.size) := HB.below.size;have K1 := hh_ (FindTwoEdges_sv HG.gv);have HD : Hid (soO r m = (teO r m).or (holeO r m)) := rfl;rw [HD.out];obtain ⟨o1, h1⟩ : ∃ o, o = teO r m := ⟨_, rfl⟩;rw [← h1] at K1 ⊢;clear h1 HD;go_enter Tryz.func102, Tryz.ntmps102;go_wp2_with fail
 rw [← HW.out];refine (K1.out).mono ?_;rintro e w1 ⟨A1, c1, rfl, ho1, hb1⟩;clear HW;clear e0 e1;obtain ⟨HB, HG, e0, e1⟩ := kG_ HB HG hb1;clear hb1;have HO1 := hh_ (ho1.mono HZ.out);clear ho1 K1;cases o1 with
 | none =>
   clear HO1;have HZ1 : Hid (w.heap.size ≤ w1.heap.size) := HB.below.size;have K2 := hh_ (FindHole_sv HG.gv);go_wp2_with fail
   refine (K2.out).mono ?_;rintro e w2 ⟨A2, c2, rfl, ho2, hb2⟩;clear e0 e1;obtain ⟨HB, HG, e0, e1⟩ := kG_ HB HG hb2;clear hb2;have HO2 := hh_ (ho2.mono HZ1.out);clear ho2 K2;go_wp2;go_ret2;exact ⟨A2, c2, rfl, HO2.out, HB.below⟩
 | some l =>
   go_wp2;go_ret2;exact lsQ.yes HO1.out HB.below
set_option maxRecDepth 100000 in
theorem SplitObstacle_sno (sz : Int) (A : Option Addr) (m c : Nat) (x : Nat → Int) (w : World) (h : GA w A m c x) (hm : m ≤ 1048576) (hok : okB sz m x = false) :
 Calls Tryz.prog 102 #[.agg #[.int .i64 sz, .slice A m c]] w (lsQ w none) := by
 obtain ⟨W, hW, HB, HK, HC⟩ := gaW sz h;have HW := hh_ hW;have K1 := hh_ (FindTwoEdges_sno sz A m c x W HK hm hok);have Hok := hh_ hok;clear hW h hok;go_enter Tryz.func102, Tryz.ntmps102;obtain ⟨e0, e1⟩ := gc_ HC;go_wp2_with fail
 rw [← HW.out];refine (K1.out).mono ?_;rintro e w1 ⟨A1, c1, rfl, _, hb1⟩;clear HW;clear e0 e1;obtain ⟨HB, HK, HC, e0, e1⟩ := kC_ HB HK HC hb1;clear hb1;clear K1;have HZ1 : Hid (w.heap.size ≤ w1.heap.size) := HB.below.size;have K2 := hh_ (FindHole_sno sz A m c x w1 HK hm Hok.out);go_wp2_with fail
 refine (K2.out).mono ?_;rintro e w2 ⟨A2, c2, rfl, ho2, hb2⟩;clear e0 e1;obtain ⟨HB, HK, HC, e0, e1⟩ := kC_ HB HK HC hb2;clear hb2;have HO2 := hh_ (ho2.mono HZ1.out);clear ho2 K2;go_wp2;go_ret2;exact ⟨A2, c2, rfl, HO2.out, HB.below⟩
set_option maxRecDepth 100000 in
theorem StrongObstacle_sv {A : Option Addr} {m c : Nat} {r : Nat → Nat} {w : World} (h : GV w A m c r) : Calls Tryz.prog 105 #[.agg #[.int .i64 m, .slice A m c]] w (lsQ w (sgO r m)) := by
 obtain ⟨W, hW, HB, HG⟩ := gbW h;have HW := hh_ hW;clear hW h;obtain ⟨e0, e1⟩ := gx_ HG;have HZ : Hid (w.heap.size ≤ W.heap.size) := HB.below.size;have K1 := hh_ (FindHole_sv HG.gv);have HD : Hid (sgO r m = (holeO r m).or (snO r m)) := rfl;rw [HD.out];obtain ⟨o1, h1⟩ : ∃ o, o = holeO r m := ⟨_, rfl⟩;rw [← h1] at K1 ⊢;clear h1 HD;go_enter Tryz.func105, Tryz.ntmps105;go_wp2_with fail
 rw [← HW.out];refine (K1.out).mono ?_;rintro e w1 ⟨A1, c1, rfl, ho1, hb1⟩;clear HW;clear e0 e1;obtain ⟨HB, HG, e0, e1⟩ := kG_ HB HG hb1;clear hb1;have HO1 := hh_ (ho1.mono HZ.out);clear ho1 K1;cases o1 with
 | none =>
   clear HO1;have HZ1 : Hid (w.heap.size ≤ w1.heap.size) := HB.below.size;have K2 := hh_ (FindSun_sv HG.gv);go_wp2_with fail
   refine (K2.out).mono ?_;rintro e w2 ⟨A2, c2, rfl, ho2, hb2⟩;clear e0 e1;obtain ⟨HB, HG, e0, e1⟩ := kG_ HB HG hb2;clear hb2;have HO2 := hh_ (ho2.mono HZ1.out);clear ho2 K2;go_wp2;go_ret2;exact ⟨A2, c2, rfl, HO2.out, HB.below⟩
 | some l =>
   go_wp2;go_ret2;exact lsQ.yes HO1.out HB.below
set_option maxRecDepth 100000 in
theorem StrongObstacle_sno (sz : Int) (A : Option Addr) (m c : Nat) (x : Nat → Int) (w : World) (h : GA w A m c x) (hm : m ≤ 1048576) (hok : okB sz m x = false) :
 Calls Tryz.prog 105 #[.agg #[.int .i64 sz, .slice A m c]] w (lsQ w none) := by
 obtain ⟨W, hW, HB, HK, HC⟩ := gaW sz h;have HW := hh_ hW;have K1 := hh_ (FindHole_sno sz A m c x W HK hm hok);have Hok := hh_ hok;clear hW h hok;go_enter Tryz.func105, Tryz.ntmps105;obtain ⟨e0, e1⟩ := gc_ HC;go_wp2_with fail
 rw [← HW.out];refine (K1.out).mono ?_;rintro e w1 ⟨A1, c1, rfl, _, hb1⟩;clear HW;clear e0 e1;obtain ⟨HB, HK, HC, e0, e1⟩ := kC_ HB HK HC hb1;clear hb1;clear K1;have HZ1 : Hid (w.heap.size ≤ w1.heap.size) := HB.below.size;have K2 := hh_ (FindSun_sno sz A m c x w1 HK hm Hok.out);go_wp2_with fail
 refine (K2.out).mono ?_;rintro e w2 ⟨A2, c2, rfl, ho2, hb2⟩;clear e0 e1;obtain ⟨HB, HK, HC, e0, e1⟩ := kC_ HB HK HC hb2;clear hb2;have HO2 := hh_ (ho2.mono HZ1.out);clear ho2 K2;go_wp2;go_ret2;exact ⟨A2, c2, rfl, HO2.out, HB.below⟩
set_option maxRecDepth 100000 in
theorem PerfectObstacle_sv {A : Option Addr} {m c : Nat} {r : Nat → Nat} {w : World} (h : GV w A m c r) : Calls Tryz.prog 106 #[.agg #[.int .i64 m, .slice A m c]] w (lsQ w (pfcO r m)) := by
 obtain ⟨W, hW, HB, HG⟩ := gbW h;have HW := hh_ hW;clear hW h;obtain ⟨e0, e1⟩ := gx_ HG;have HZ : Hid (w.heap.size ≤ W.heap.size) := HB.below.size;have K1 := hh_ (FindOddHole_sv HG.gv);have HD : Hid (pfcO r m = (oddhO r m).or (ahO r m)) := rfl;rw [HD.out];obtain ⟨o1, h1⟩ : ∃ o, o = oddhO r m := ⟨_, rfl⟩;rw [← h1] at K1 ⊢;clear h1 HD;go_enter Tryz.func106, Tryz.ntmps106;go_wp2_with fail
 rw [← HW.out];refine (K1.out).mono ?_;rintro e w1 ⟨A1, c1, rfl, ho1, hb1⟩;clear HW;clear e0 e1;obtain ⟨HB, HG, e0, e1⟩ := kG_ HB HG hb1;clear hb1;have HO1 := hh_ (ho1.mono HZ.out);clear ho1 K1;cases o1 with
 | none =>
   clear HO1;have HZ1 : Hid (w.heap.size ≤ w1.heap.size) := HB.below.size;have K2 := hh_ (FindAntihole_sv HG.gv);go_wp2_with fail
   refine (K2.out).mono ?_;rintro e w2 ⟨A2, c2, rfl, ho2, hb2⟩;clear e0 e1;obtain ⟨HB, HG, e0, e1⟩ := kG_ HB HG hb2;clear hb2;have HO2 := hh_ (ho2.mono HZ1.out);clear ho2 K2;go_wp2;go_ret2;exact ⟨A2, c2, rfl, HO2.out, HB.below⟩
 | some l =>
   go_wp2;go_ret2;exact lsQ.yes HO1.out HB.below
set_option maxRecDepth 100000 in
theorem PerfectObstacle_sno (sz : Int) (A : Option Addr) (m c : Nat) (x : Nat → Int) (w : World) (h : GA w A m c x) (hm : m ≤ 1048576) (hok : okB sz m x = false) :
 Calls Tryz.prog 106 #[.agg #[.int .i64 sz, .slice A m c]] w (lsQ w none) := by
 obtain ⟨W, hW, HB, HK, HC⟩ := gaW sz h;have HW := hh_ hW;have K1 := hh_ (FindOddHole_sno sz A m c x W HK hm hok);have Hok := hh_ hok;clear hW h hok;go_enter Tryz.func106, Tryz.ntmps106;obtain ⟨e0, e1⟩ := gc_ HC;go_wp2_with fail
 rw [← HW.out];refine (K1.out).mono ?_;rintro e w1 ⟨A1, c1, rfl, _, hb1⟩;clear HW;clear e0 e1;obtain ⟨HB, HK, HC, e0, e1⟩ := kC_ HB HK HC hb1;clear hb1;clear K1;have HZ1 : Hid (w.heap.size ≤ w1.heap.size) := HB.below.size;have K2 := hh_ (FindAntihole_sno sz A m c x w1 HK hm Hok.out);go_wp2_with fail
 refine (K2.out).mono ?_;rintro e w2 ⟨A2, c2, rfl, ho2, hb2⟩;clear e0 e1;obtain ⟨HB, HK, HC, e0, e1⟩ := kC_ HB HK HC hb2;clear hb2;have HO2 := hh_ (ho2.mono HZ1.out);clear ho2 K2;go_wp2;go_ret2;exact ⟨A2, c2, rfl, HO2.out, HB.below⟩
end Go.Proofs.YtdpkbfiggbcclaaGreat
