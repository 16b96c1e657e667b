/-
  Several texts in one.
-/
import Derived.Test.YtdpkbfiggbcclaaGreatQmHolI
import Derived.Test.YtdpkbfiggbcclaaGreatQmCmbI
/-
-/
namespace Go.Proofs.YtdpkbfiggbcclaaGreat
open Go.RowKit
set_option maxHeartbeats 3200000
set_option maxRecDepth 100000 in
theorem FindOddCycle_c {A : Option Addr} {m c q : Nat} {r : Nat → Nat} {Al : Option Addr} {cl : Nat} {l : List Nat} {w : World} (h : GBox w q A m c r) (hl : LN w Al cl l) (hlen : l.length ≤ 7) :
 Calls Tryz.prog 225 #[.slice Al l.length cl, .pointer (some ⟨q, 0, none⟩)] w fun e w' => e = .returned (.bool (ocR r m l)) ∧ Below w.heap.size w w' := by
 have hm7 := h.gv.vg.n7;have KP := hh_ (IsOddCycle_i m A m c _ Al l.length cl _ w h.gv.ga hl.li (by omega) (by omega));have e0 := h.c0;have e1 := h.c1;have HF : Hid (From w w) := From.refl w;clear h hl;go_enter Tryz.func225, Tryz.ntmps225;go_wp2_with fail
 refine KP.mono ?_;rintro e w1 ⟨rfl, hb1⟩;replace HF := hh_ (HF.keep hb1);clear hb1;go_wp2;go_ret;exact ⟨rfl, HF.below⟩
set_option maxRecDepth 100000 in
theorem FindOddCycle_v {A : Option Addr} {m c : Nat} {r : Nat → Nat} {w : World} (h : GV w A m c r) : Calls Tryz.prog 113 #[.agg #[.int .i64 m, .slice A m c]] w (lsQ w (oddcO r m)) := by
 have hm7 := h.vg.n7;obtain ⟨W, hW, HB, HG⟩ := gbW h;have HW := hh_ hW;clear hW h;obtain ⟨e0, e1⟩ := gx_ HG;have HR0 : Hid (From W W) := From.refl W;go_enter Tryz.func113, Tryz.ntmps113;go_wp2_with fail
 rw [← HW.out];clear HW;go_wp2;go_loopw [4] (fun i wr => ∃ n : Nat, 3 ≤ n ∧ n ≤ 9 ∧ i = .int .i64 n ∧ Hid ((n - 3) % 2 = 0) ∧ Hid (∀ u, u < n → latO 3 2 (ocF r m) u = none) ∧ Hid (From W wr)) (fun i _ => 20 - (intOf i).toNat);case atStart => exact ⟨3, by omega, by omega, rfl, rfl, (fun u hu => latO_low hu), HR0⟩
 case round =>
  clear HR0 e0 e1;obtain ⟨n, hn4, hn9, rfl, Hst, hall, HR⟩ := hrel;have HB1 := hh_ (HB.up HR.out);have HG1 := hh_ (HG.keep HR.below);have e0 := HG1.c0;have e1 := HG1.c1;by_cases hnm : n ≤ m
  ·have i1 : (n : Int) ≤ m := by omega
   have KF := hh_ (firstList_g (m := m) (n := n) (A := A) (c := c) (r := r) (fm := 222) (cm := #[]) (fh := 225) (ch := #[.pointer (some ⟨w.heap.size, 0, none⟩)]) (may := freM) (hol := ocR r m) (lo := wr.heap.size) (hi := wr.heap.size) (J := fun _ z => GBox z w.heap.size A m c r)
    (ent_of Tryz.func222 (by kernel_rfl) rfl) (ent_of Tryz.func225 (by kernel_rfl) rfl) wr HG1.gv (by omega) nr_ (fun _ z z' hz hb => hz.keep hb) HG1
    (fun _ l A' c' z hz hr hl hv hn => always_n A' l.length c' z)
    (fun _ l A' c' z hz hr hl hv hn => (FindOddCycle_c hz ⟨hr⟩ (by have := nodup_len hn hv; omega)).mono fun e w' ⟨h1, h2⟩ => ⟨h1, hz.keep h2, Fr.of_below h2⟩))
   have Hat : Hid (latO 3 2 (ocF r m) n = ocF r m n) := latO_at hn4 Hst.out;have Hfd : Hid (ocF r m n = seaG m freM (ocR r m) n []) := rfl;rw [← Hfd.out] at KF;obtain ⟨so, hso⟩ : ∃ so, so = ocF r m n := ⟨_, rfl⟩;rw [← hso] at KF Hat;clear hso Hfd;go_wp2_with fail
   refine KF.mono ?_;rintro e w1 ⟨hfr, hp⟩;have hb1 : Below wr.heap.size wr w1 := hfr.below nr_ nr_;have HR1 := hh_ (HR.keep hb1);have HB2 := hh_ (HB1.keep hb1);have HZ : Hid (w.heap.size ≤ wr.heap.size) := HB1.below.size;clear hfr KF HG1 e0 e1 hb1 HR HB1;cases so with
   | none =>
     obtain ⟨rfl, _⟩ := hp;have Hn : Hid (∀ u, u < n + 2 → latO 3 2 (ocF r m) u = none) := fun u hu => by
      by_cases huv : u < n
      ·exact hall.out u huv
      ·by_cases hun : u = n
       ·subst hun; exact Hat.out
       ·exact latO_off (by have := Hst.out; omega)
     have Hst2 : Hid ((n + 2 - 3) % 2 = 0) := by show _ = _; have := Hst.out; omega
     go_wp2;go_roundw;case rel => exact ⟨n + 2, by omega, by omega, by go_num, Hst2, Hn, HR1⟩
     case measure => (simp [intOf] <;> omega)
   | some l =>
     obtain ⟨g, c', rfl, hO⟩ := hp;have HL : Hid (ON w.heap.size w1 (some ⟨g, 0, none⟩) c' l) := ⟨hO.mono HZ.out nr_⟩;have Hs : Hid (oddcO r m = some l) := ltO_some hnm Hat.out hall.out;clear hO;go_wp2;go_ret2;rw [Hs.out];exact lsQ.yes HL.out HB2.below
  ·have Hs : Hid (oddcO r m = none) := ltO_none fun u hu => hall.out u (by omega)
   have i1 : (m : Int) < n := by omega
   go_wp2;go_ret2;rw [Hs.out];exact lsQ.no HB1.below
set_option maxRecDepth 100000 in
theorem FindOddCycle_no (sz : Int) (A : Option Addr) (m c : Nat) (x : Nat → Int) (w : World) (h : GA w A m c x) (hm : m ≤ 1048576) (hok : okB sz m x = false) :
 Calls Tryz.prog 113 #[.agg #[.int .i64 sz, .slice A m c]] w (lsQ w none) := by
 obtain ⟨W, hW, HB, HK, HC⟩ := gaW sz h;have HW := hh_ hW;have Ho := hh_ hok;have HR0 : Hid (From W W) := From.refl W;obtain ⟨e0, e1⟩ := gc_ HC;clear hW h hok;go_enter Tryz.func113, Tryz.ntmps113;go_wp2_with fail
 rw [← HW.out];clear HW;go_wp2;go_loopw [4] (fun i wr => ∃ n : Nat, 3 ≤ n ∧ n ≤ 9 ∧ i = .int .i64 n ∧ Hid (From W wr)) (fun i _ => 20 - (intOf i).toNat);case atStart => exact ⟨3, by omega, by omega, rfl, HR0⟩
 case round =>
  clear HR0 e0 e1;obtain ⟨n, hn4, hn9, rfl, HR⟩ := hrel;have HB1 := hh_ (HB.up HR.out);have HK1 := hh_ (HK.keep HR.below);have HC1 := hh_ (HC.keep HR.below);have e0 := HC1.c0;have e1 := HC1.c1;by_cases h7 : sz ≤ 7
  ·by_cases hnm : (n : Int) ≤ sz
   ·have i7 : n ≤ 7 := by omega
    have KF := hh_ (firstList_noG (n := (n : Int)) (fm := 222) (cm := #[]) (fh := 225) (ch := #[.pointer (some ⟨w.heap.size, 0, none⟩)]) HK1 hm Ho.out);go_wp2_with fail
    refine KF.mono ?_;rintro e w1 ⟨rfl, hb1⟩;have HR1 := hh_ (HR.keep hb1);clear KF HK1 HC1 e0 e1 hb1 HR HB1;go_wp2;go_roundw;case rel => exact ⟨n + 2, by omega, by omega, by go_num, HR1⟩
    case measure => (simp [intOf] <;> omega)
   ·have i1 : sz < (n : Int) := by omega
    go_wp2;go_ret2;exact lsQ.no HB1.below
  ·by_cases hnm : (n : Int) ≤ 7
   ·have i7 : n ≤ 7 := by omega
    have KF := hh_ (firstList_noG (n := (n : Int)) (fm := 222) (cm := #[]) (fh := 225) (ch := #[.pointer (some ⟨w.heap.size, 0, none⟩)]) HK1 hm Ho.out);go_wp2_with fail
    refine KF.mono ?_;rintro e w1 ⟨rfl, hb1⟩;have HR1 := hh_ (HR.keep hb1);clear KF HK1 HC1 e0 e1 hb1 HR HB1;go_wp2;go_roundw;case rel => exact ⟨n + 2, by omega, by omega, by go_num, HR1⟩
    case measure => (simp [intOf] <;> omega)
   ·have i1 : 7 < (n : Int) := by omega
    go_wp2;go_ret2;exact lsQ.no HB1.below
set_option maxHeartbeats 6400000
noncomputable def p4O (r : Nat → Nat) (m : Nat) : Option (List Nat) := ptO r m 4
noncomputable def obO (sz : Int) (m : Nat) (x : Nat → Int) (s : List UInt8) : Option (List Nat) :=
 if s = [99, 104, 111, 114, 100, 97, 108] then gO sz m x holeO else if s = [105, 110, 116, 101, 114, 118, 97, 108] then gO sz m x ioO else if s = [112, 114, 111, 112, 101, 114] then gO sz m x poO else if s = [99, 111, 103, 114, 97, 112, 104] then gO sz m x p4O else if s = [115, 112, 108, 105, 116] then gO sz m x soO else if s = [116, 104, 114, 101, 115, 104, 111, 108, 100] then gO sz m x fhO else if s = [98, 105, 112, 97, 114, 116, 105, 116, 101] then gO sz m x oddcO else if s = [115, 116, 114, 111, 110, 103] then gO sz m x sgO else if s = [112, 101, 114, 102, 101, 99, 116] then gO sz m x pfcO else none
theorem FindHole_a (sz : Int) (A : Option Addr) (m c : Nat) (x : Nat → Int) (w : World) (h : GA w A m c x) (hm : m ≤ 1048576) :
 Calls Tryz.prog 107 #[.agg #[.int .i64 sz, .slice A m c]] w (lsQ w (gO sz m x holeO)) := by
 cases ho : okB sz m x
 ·rw [gO_no ho]; exact FindHole_no sz A m c x w h hm ho
 ·obtain ⟨_, es, _, _⟩ := okB_ok' ho;subst es;rw [gO_yes ho]; exact FindHole_v (h.gv ho)
theorem IntervalObstacle_a (sz : Int) (A : Option Addr) (m c : Nat) (x : Nat → Int) (w : World) (h : GA w A m c x) (hm : m ≤ 1048576) :
 Calls Tryz.prog 108 #[.agg #[.int .i64 sz, .slice A m c]] w (lsQ w (gO sz m x ioO)) := by
 cases ho : okB sz m x
 ·rw [gO_no ho]; exact IntervalObstacle_no sz A m c x w h hm ho
 ·obtain ⟨_, es, _, _⟩ := okB_ok' ho;subst es;rw [gO_yes ho]; exact IntervalObstacle_v (h.gv ho)
theorem ProperObstacle_a (sz : Int) (A : Option Addr) (m c : Nat) (x : Nat → Int) (w : World) (h : GA w A m c x) (hm : m ≤ 1048576) :
 Calls Tryz.prog 109 #[.agg #[.int .i64 sz, .slice A m c]] w (lsQ w (gO sz m x poO)) := by
 cases ho : okB sz m x
 ·rw [gO_no ho]; exact ProperObstacle_no sz A m c x w h hm ho
 ·obtain ⟨_, es, _, _⟩ := okB_ok' ho;subst es;rw [gO_yes ho]; exact ProperObstacle_v (h.gv ho)
theorem FindPathOfFour_a (sz : Int) (A : Option Addr) (m c : Nat) (x : Nat → Int) (w : World) (h : GA w A m c x) (hm : m ≤ 1048576) :
 Calls Tryz.prog 110 #[.agg #[.int .i64 sz, .slice A m c]] w (lsQ w (gO sz m x p4O)) := by
 cases ho : okB sz m x
 ·rw [gO_no ho]; exact FindPathOfFour_no sz A m c x w h hm ho
 ·obtain ⟨_, es, _, _⟩ := okB_ok' ho;subst es;rw [gO_yes ho]; exact FindPathOfFour_v (h.gv ho)
theorem SplitObstacle_a (sz : Int) (A : Option Addr) (m c : Nat) (x : Nat → Int) (w : World) (h : GA w A m c x) (hm : m ≤ 1048576) :
 Calls Tryz.prog 111 #[.agg #[.int .i64 sz, .slice A m c]] w (lsQ w (gO sz m x soO)) := by
 cases ho : okB sz m x
 ·rw [gO_no ho]; exact SplitObstacle_no sz A m c x w h hm ho
 ·obtain ⟨_, es, _, _⟩ := okB_ok' ho;subst es;rw [gO_yes ho]; exact SplitObstacle_v (h.gv ho)
theorem ThresholdObstacle_a (sz : Int) (A : Option Addr) (m c : Nat) (x : Nat → Int) (w : World) (h : GA w A m c x) (hm : m ≤ 1048576) :
 Calls Tryz.prog 112 #[.agg #[.int .i64 sz, .slice A m c]] w (lsQ w (gO sz m x fhO)) := by
 cases ho : okB sz m x
 ·rw [gO_no ho]; exact ThresholdObstacle_no sz A m c x w h hm ho
 ·obtain ⟨_, es, _, _⟩ := okB_ok' ho;subst es;rw [gO_yes ho]; exact ThresholdObstacle_v (h.gv ho)
theorem FindOddCycle_a (sz : Int) (A : Option Addr) (m c : Nat) (x : Nat → Int) (w : World) (h : GA w A m c x) (hm : m ≤ 1048576) :
 Calls Tryz.prog 113 #[.agg #[.int .i64 sz, .slice A m c]] w (lsQ w (gO sz m x oddcO)) := by
 cases ho : okB sz m x
 ·rw [gO_no ho]; exact FindOddCycle_no sz A m c x w h hm ho
 ·obtain ⟨_, es, _, _⟩ := okB_ok' ho;subst es;rw [gO_yes ho]; exact FindOddCycle_v (h.gv ho)
theorem StrongObstacle_a (sz : Int) (A : Option Addr) (m c : Nat) (x : Nat → Int) (w : World) (h : GA w A m c x) (hm : m ≤ 1048576) :
 Calls Tryz.prog 114 #[.agg #[.int .i64 sz, .slice A m c]] w (lsQ w (gO sz m x sgO)) := by
 cases ho : okB sz m x
 ·rw [gO_no ho]; exact StrongObstacle_no sz A m c x w h hm ho
 ·obtain ⟨_, es, _, _⟩ := okB_ok' ho;subst es;rw [gO_yes ho]; exact StrongObstacle_v (h.gv ho)
theorem PerfectObstacle_a (sz : Int) (A : Option Addr) (m c : Nat) (x : Nat → Int) (w : World) (h : GA w A m c x) (hm : m ≤ 1048576) :
 Calls Tryz.prog 115 #[.agg #[.int .i64 sz, .slice A m c]] w (lsQ w (gO sz m x pfcO)) := by
 cases ho : okB sz m x
 ·rw [gO_no ho]; exact PerfectObstacle_no sz A m c x w h hm ho
 ·obtain ⟨_, es, _, _⟩ := okB_ok' ho;subst es;rw [gO_yes ho]; exact PerfectObstacle_v (h.gv ho)
set_option maxRecDepth 100000 in
theorem ObstacleFor_i (sz : Int) (A : Option Addr) (m c : Nat) (x : Nat → Int) (str : ByteArray) (w : World) (h : GA w A m c x) (hm : m ≤ 1048576) :
 Calls Tryz.prog 30 #[.agg #[.int .i64 sz, .slice A m c], .string str] w (lsQ w (obO sz m x str.toList)) := by
 obtain ⟨W, hW, HB, HK, HC⟩ := gaW sz h;have HZ : Hid (w.heap.size ≤ W.heap.size) := HB.below.size;have HW := hh_ hW;have HR : Hid (obO sz m x str.toList = obO sz m x str.toList) := rfl;clear hW h;by_cases e0 : str.toList = [99, 104, 111, 114, 100, 97, 108]
 ·have r : Hid (obO sz m x str.toList = gO sz m x holeO) := by show _ = _; unfold obO; rw [if_pos e0]
  have f0 : (str.toList == [99, 104, 111, 114, 100, 97, 108]) = true := by simpa using e0
  clear HR e0;rw [r.out];go_enter Tryz.func30, Tryz.ntmps30;obtain ⟨e0, e1⟩ := gc_ HC;go_wp2_with fail
  rw [← HW.out];refine (FindHole_a sz A m c x W HK hm).mono ?_;rintro e w1 ⟨A1, c1, rfl, ho1, hb1⟩;clear HW;clear e0 e1;obtain ⟨HB, HK, HC, e0, e1⟩ := kC_ HB HK HC hb1;clear hb1;have HO1 := hh_ (ho1.mono HZ.out);clear ho1;go_wp2;go_ret2;exact ⟨A1, c1, rfl, HO1.out, HB.below⟩
 by_cases e1 : str.toList = [105, 110, 116, 101, 114, 118, 97, 108]
 ·have r : Hid (obO sz m x str.toList = gO sz m x ioO) := by show _ = _; unfold obO; rw [if_neg e0, if_pos e1]
  have f0 : (str.toList == [99, 104, 111, 114, 100, 97, 108]) = false := by simpa using e0
  have f1 : (str.toList == [105, 110, 116, 101, 114, 118, 97, 108]) = true := by simpa using e1
  clear HR e0 e1;rw [r.out];go_enter Tryz.func30, Tryz.ntmps30;obtain ⟨e0, e1⟩ := gc_ HC;go_wp2_with fail
  rw [← HW.out];refine (IntervalObstacle_a sz A m c x W HK hm).mono ?_;rintro e w2 ⟨A1, c1, rfl, ho1, hb2⟩;clear HW;clear e0 e1;obtain ⟨HB, HK, HC, e0, e1⟩ := kC_ HB HK HC hb2;clear hb2;have HO1 := hh_ (ho1.mono HZ.out);clear ho1;go_wp2;go_ret2;exact ⟨A1, c1, rfl, HO1.out, HB.below⟩
 by_cases e2 : str.toList = [112, 114, 111, 112, 101, 114]
 ·have r : Hid (obO sz m x str.toList = gO sz m x poO) := by show _ = _; unfold obO; rw [if_neg e0, if_neg e1, if_pos e2]
  have f0 : (str.toList == [99, 104, 111, 114, 100, 97, 108]) = false := by simpa using e0
  have f1 : (str.toList == [105, 110, 116, 101, 114, 118, 97, 108]) = false := by simpa using e1
  have f2 : (str.toList == [112, 114, 111, 112, 101, 114]) = true := by simpa using e2
  clear HR e0 e1 e2;rw [r.out];go_enter Tryz.func30, Tryz.ntmps30;obtain ⟨e0, e1⟩ := gc_ HC;go_wp2_with fail
  rw [← HW.out];refine (ProperObstacle_a sz A m c x W HK hm).mono ?_;rintro e w3 ⟨A1, c1, rfl, ho1, hb3⟩;clear HW;clear e0 e1;obtain ⟨HB, HK, HC, e0, e1⟩ := kC_ HB HK HC hb3;clear hb3;have HO1 := hh_ (ho1.mono HZ.out);clear ho1;go_wp2;go_ret2;exact ⟨A1, c1, rfl, HO1.out, HB.below⟩
 by_cases e3 : str.toList = [99, 111, 103, 114, 97, 112, 104]
 ·have r : Hid (obO sz m x str.toList = gO sz m x p4O) := by show _ = _; unfold obO; rw [if_neg e0, if_neg e1, if_neg e2, if_pos e3]
  have f0 : (str.toList == [99, 104, 111, 114, 100, 97, 108]) = false := by simpa using e0
  have f1 : (str.toList == [105, 110, 116, 101, 114, 118, 97, 108]) = false := by simpa using e1
  have f2 : (str.toList == [112, 114, 111, 112, 101, 114]) = false := by simpa using e2
  have f3 : (str.toList == [99, 111, 103, 114, 97, 112, 104]) = true := by simpa using e3
  clear HR e0 e1 e2 e3;rw [r.out];go_enter Tryz.func30, Tryz.ntmps30;obtain ⟨e0, e1⟩ := gc_ HC;go_wp2_with fail
  rw [← HW.out];refine (FindPathOfFour_a sz A m c x W HK hm).mono ?_;rintro e w4 ⟨A1, c1, rfl, ho1, hb4⟩;clear HW;clear e0 e1;obtain ⟨HB, HK, HC, e0, e1⟩ := kC_ HB HK HC hb4;clear hb4;have HO1 := hh_ (ho1.mono HZ.out);clear ho1;go_wp2;go_ret2;exact ⟨A1, c1, rfl, HO1.out, HB.below⟩
 by_cases e4 : str.toList = [115, 112, 108, 105, 116]
 ·have r : Hid (obO sz m x str.toList = gO sz m x soO) := by show _ = _; unfold obO; rw [if_neg e0, if_neg e1, if_neg e2, if_neg e3, if_pos e4]
  have f0 : (str.toList == [99, 104, 111, 114, 100, 97, 108]) = false := by simpa using e0
  have f1 : (str.toList == [105, 110, 116, 101, 114, 118, 97, 108]) = false := by simpa using e1
  have f2 : (str.toList == [112, 114, 111, 112, 101, 114]) = false := by simpa using e2
  have f3 : (str.toList == [99, 111, 103, 114, 97, 112, 104]) = false := by simpa using e3
  have f4 : (str.toList == [115, 112, 108, 105, 116]) = true := by simpa using e4
  clear HR e0 e1 e2 e3 e4;rw [r.out];go_enter Tryz.func30, Tryz.ntmps30;obtain ⟨e0, e1⟩ := gc_ HC;go_wp2_with fail
  rw [← HW.out];refine (SplitObstacle_a sz A m c x W HK hm).mono ?_;rintro e w5 ⟨A1, c1, rfl, ho1, hb5⟩;clear HW;clear e0 e1;obtain ⟨HB, HK, HC, e0, e1⟩ := kC_ HB HK HC hb5;clear hb5;have HO1 := hh_ (ho1.mono HZ.out);clear ho1;go_wp2;go_ret2;exact ⟨A1, c1, rfl, HO1.out, HB.below⟩
 by_cases e5 : str.toList = [116, 104, 114, 101, 115, 104, 111, 108, 100]
 ·have r : Hid (obO sz m x str.toList = gO sz m x fhO) := by show _ = _; unfold obO; rw [if_neg e0, if_neg e1, if_neg e2, if_neg e3, if_neg e4, if_pos e5]
  have f0 : (str.toList == [99, 104, 111, 114, 100, 97, 108]) = false := by simpa using e0
  have f1 : (str.toList == [105, 110, 116, 101, 114, 118, 97, 108]) = false := by simpa using e1
  have f2 : (str.toList == [112, 114, 111, 112, 101, 114]) = false := by simpa using e2
  have f3 : (str.toList == [99, 111, 103, 114, 97, 112, 104]) = false := by simpa using e3
  have f4 : (str.toList == [115, 112, 108, 105, 116]) = false := by simpa using e4
  have f5 : (str.toList == [116, 104, 114, 101, 115, 104, 111, 108, 100]) = true := by simpa using e5
  clear HR e0 e1 e2 e3 e4 e5;rw [r.out];go_enter Tryz.func30, Tryz.ntmps30;obtain ⟨e0, e1⟩ := gc_ HC;go_wp2_with fail
  rw [← HW.out];refine (ThresholdObstacle_a sz A m c x W HK hm).mono ?_;rintro e w6 ⟨A1, c1, rfl, ho1, hb6⟩;clear HW;clear e0 e1;obtain ⟨HB, HK, HC, e0, e1⟩ := kC_ HB HK HC hb6;clear hb6;have HO1 := hh_ (ho1.mono HZ.out);clear ho1;go_wp2;go_ret2;exact ⟨A1, c1, rfl, HO1.out, HB.below⟩
 by_cases e6 : str.toList = [98, 105, 112, 97, 114, 116, 105, 116, 101]
 ·have r : Hid (obO sz m x str.toList = gO sz m x oddcO) := by show _ = _; unfold obO; rw [if_neg e0, if_neg e1, if_neg e2, if_neg e3, if_neg e4, if_neg e5, if_pos e6]
  have f0 : (str.toList == [99, 104, 111, 114, 100, 97, 108]) = false := by simpa using e0
  have f1 : (str.toList == [105, 110, 116, 101, 114, 118, 97, 108]) = false := by simpa using e1
  have f2 : (str.toList == [112, 114, 111, 112, 101, 114]) = false := by simpa using e2
  have f3 : (str.toList == [99, 111, 103, 114, 97, 112, 104]) = false := by simpa using e3
  have f4 : (str.toList == [115, 112, 108, 105, 116]) = false := by simpa using e4
  have f5 : (str.toList == [116, 104, 114, 101, 115, 104, 111, 108, 100]) = false := by simpa using e5
  have f6 : (str.toList == [98, 105, 112, 97, 114, 116, 105, 116, 101]) = true := by simpa using e6
  clear HR e0 e1 e2 e3 e4 e5 e6;rw [r.out];go_enter Tryz.func30, Tryz.ntmps30;obtain ⟨e0, e1⟩ := gc_ HC;go_wp2_with fail
  rw [← HW.out];refine (FindOddCycle_a sz A m c x W HK hm).mono ?_;rintro e w7 ⟨A1, c1, rfl, ho1, hb7⟩;clear HW;clear e0 e1;obtain ⟨HB, HK, HC, e0, e1⟩ := kC_ HB HK HC hb7;clear hb7;have HO1 := hh_ (ho1.mono HZ.out);clear ho1;go_wp2;go_ret2;exact ⟨A1, c1, rfl, HO1.out, HB.below⟩
 by_cases e7 : str.toList = [115, 116, 114, 111, 110, 103]
 ·have r : Hid (obO sz m x str.toList = gO sz m x sgO) := by show _ = _; unfold obO; rw [if_neg e0, if_neg e1, if_neg e2, if_neg e3, if_neg e4, if_neg e5, if_neg e6, if_pos e7]
  have f0 : (str.toList == [99, 104, 111, 114, 100, 97, 108]) = false := by simpa using e0
  have f1 : (str.toList == [105, 110, 116, 101, 114, 118, 97, 108]) = false := by simpa using e1
  have f2 : (str.toList == [112, 114, 111, 112, 101, 114]) = false := by simpa using e2
  have f3 : (str.toList == [99, 111, 103, 114, 97, 112, 104]) = false := by simpa using e3
  have f4 : (str.toList == [115, 112, 108, 105, 116]) = false := by simpa using e4
  have f5 : (str.toList == [116, 104, 114, 101, 115, 104, 111, 108, 100]) = false := by simpa using e5
  have f6 : (str.toList == [98, 105, 112, 97, 114, 116, 105, 116, 101]) = false := by simpa using e6
  have f7 : (str.toList == [115, 116, 114, 111, 110, 103]) = true := by simpa using e7
  clear HR e0 e1 e2 e3 e4 e5 e6 e7;rw [r.out];go_enter Tryz.func30, Tryz.ntmps30;obtain ⟨e0, e1⟩ := gc_ HC;go_wp2_with fail
  rw [← HW.out];refine (StrongObstacle_a sz A m c x W HK hm).mono ?_;rintro e w8 ⟨A1, c1, rfl, ho1, hb8⟩;clear HW;clear e0 e1;obtain ⟨HB, HK, HC, e0, e1⟩ := kC_ HB HK HC hb8;clear hb8;have HO1 := hh_ (ho1.mono HZ.out);clear ho1;go_wp2;go_ret2;exact ⟨A1, c1, rfl, HO1.out, HB.below⟩
 by_cases e8 : str.toList = [112, 101, 114, 102, 101, 99, 116]
 ·have r : Hid (obO sz m x str.toList = gO sz m x pfcO) := by show _ = _; unfold obO; rw [if_neg e0, if_neg e1, if_neg e2, if_neg e3, if_neg e4, if_neg e5, if_neg e6, if_neg e7, if_pos e8]
  have f0 : (str.toList == [99, 104, 111, 114, 100, 97, 108]) = false := by simpa using e0
  have f1 : (str.toList == [105, 110, 116, 101, 114, 118, 97, 108]) = false := by simpa using e1
  have f2 : (str.toList == [112, 114, 111, 112, 101, 114]) = false := by simpa using e2
  have f3 : (str.toList == [99, 111, 103, 114, 97, 112, 104]) = false := by simpa using e3
  have f4 : (str.toList == [115, 112, 108, 105, 116]) = false := by simpa using e4
  have f5 : (str.toList == [116, 104, 114, 101, 115, 104, 111, 108, 100]) = false := by simpa using e5
  have f6 : (str.toList == [98, 105, 112, 97, 114, 116, 105, 116, 101]) = false := by simpa using e6
  have f7 : (str.toList == [115, 116, 114, 111, 110, 103]) = false := by simpa using e7
  have f8 : (str.toList == [112, 101, 114, 102, 101, 99, 116]) = true := by simpa using e8
  clear HR e0 e1 e2 e3 e4 e5 e6 e7 e8;rw [r.out];go_enter Tryz.func30, Tryz.ntmps30;obtain ⟨e0, e1⟩ := gc_ HC;go_wp2_with fail
  rw [← HW.out];refine (PerfectObstacle_a sz A m c x W HK hm).mono ?_;rintro e w9 ⟨A1, c1, rfl, ho1, hb9⟩;clear HW;clear e0 e1;obtain ⟨HB, HK, HC, e0, e1⟩ := kC_ HB HK HC hb9;clear hb9;have HO1 := hh_ (ho1.mono HZ.out);clear ho1;go_wp2;go_ret2;exact ⟨A1, c1, rfl, HO1.out, HB.below⟩
 have r : Hid (obO sz m x str.toList = none) := by show _ = _; unfold obO; rw [if_neg e0, if_neg e1, if_neg e2, if_neg e3, if_neg e4, if_neg e5, if_neg e6, if_neg e7, if_neg e8]
 have f0 : (str.toList == [99, 104, 111, 114, 100, 97, 108]) = false := by simpa using e0
 have f1 : (str.toList == [105, 110, 116, 101, 114, 118, 97, 108]) = false := by simpa using e1
 have f2 : (str.toList == [112, 114, 111, 112, 101, 114]) = false := by simpa using e2
 have f3 : (str.toList == [99, 111, 103, 114, 97, 112, 104]) = false := by simpa using e3
 have f4 : (str.toList == [115, 112, 108, 105, 116]) = false := by simpa using e4
 have f5 : (str.toList == [116, 104, 114, 101, 115, 104, 111, 108, 100]) = false := by simpa using e5
 have f6 : (str.toList == [98, 105, 112, 97, 114, 116, 105, 116, 101]) = false := by simpa using e6
 have f7 : (str.toList == [115, 116, 114, 111, 110, 103]) = false := by simpa using e7
 have f8 : (str.toList == [112, 101, 114, 102, 101, 99, 116]) = false := by simpa using e8
 clear e0 e1 e2 e3 e4 e5 e6 e7 e8;rw [r.out];go_enter Tryz.func30, Tryz.ntmps30;go_wp2;rw [← HW.out];go_ret2;exact lsQ.no HB.below
end Go.Proofs.YtdpkbfiggbcclaaGreat
