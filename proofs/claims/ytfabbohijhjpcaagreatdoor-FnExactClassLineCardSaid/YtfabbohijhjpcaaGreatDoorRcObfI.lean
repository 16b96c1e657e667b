/-
  Several texts in one.
-/
import Derived.Test.YtfabbohijhjpcaaGreatDoorRcHolI
import Derived.Test.YtfabbohijhjpcaaGreatDoorRcCmbI
/-
-/
namespace Go.Proofs.YtfabbohijhjpcaaGreatDoor
open Go.RowKit
set_option maxRecDepth 100000 in
set_option maxHeartbeats 1600000 in
theorem FindOddCycle_c {A : Option Addr} {m c q : Nat} {r : Nat → Nat} {Al : Option Addr} {cl : Nat} {l : List Nat} {w : World} (h : GBox w q A m c r) (hl : LN w Al cl l) (hlen : l.length ≤ 7) :
 Calls Tryz.prog 213 #[.slice Al l.length cl, .pointer (some ⟨q, 0, none⟩)] w fun e w' => e = .returned (.bool (ocR r m l)) ∧ Below w.heap.size w w' := by
 have hm7 := h.gv.vg.n7
 have KP := Lib.hid (IsOddCycle_i m A m c _ Al l.length cl _ w h.gv.ga hl.li (by omega) (by omega))
 have e0 := h.c0
 have e1 := h.c1
 have HF : Hid (From w w) := From.refl w
 clear h hl
 go_enter Tryz.func213, Tryz.ntmps213
 go_wp2_with fail
 refine KP.out.mono ?_
 rintro e w1 ⟨rfl, hb1⟩
 replace HF := Lib.hid (HF.out.keep hb1)
 clear hb1
 go_wp2
 go_ret
 exact ⟨rfl, HF.out.below⟩
set_option maxRecDepth 100000 in
set_option maxHeartbeats 3200000 in
theorem FindOddCycle_v {A : Option Addr} {m c : Nat} {r : Nat → Nat} {w : World} (h : GV w A m c r) : Calls Tryz.prog 141 #[.agg #[.int .i64 m, .slice A m c]] w (lsQ w (oddcO r m)) := by
 have hm7 := h.vg.n7
 obtain ⟨W, hW⟩ : ∃ W : World, W = (w.alloc (Obj.cells #[Value.int IntKind.i64 m, Value.slice A m c] 26)) := ⟨_, rfl⟩
 have HB : Hid (From w W) := by rw [hW]; exact From.alloc _ _
 have HG : Hid (GBox W w.heap.size A m c r) := by rw [hW]; exact h.box
 have HW := Lib.hid hW
 clear hW h
 have e0 := HG.out.c0
 have e1 := HG.out.c1
 have HR0 : Hid (From W W) := From.refl W
 go_enter Tryz.func141, Tryz.ntmps141
 go_wp2_with fail
 rw [← HW.out]
 clear HW
 go_wp2
 go_loopw [4] (fun i wr => ∃ n : Nat, 3 ≤ n ∧ n ≤ 9 ∧ i = .int .i64 n ∧ Hid ((n - 3) % 2 = 0) ∧ Hid (∀ u, u < n → latO 3 2 (ocF r m) u = none) ∧ Hid (From W wr)) (fun i _ => 20 - (intOf i).toNat)
 case atStart => exact ⟨3, by omega, by omega, rfl, rfl, (fun u hu => latO_low hu), HR0⟩
 case round =>
  clear HR0 e0 e1
  obtain ⟨n, hn4, hn9, rfl, Hst, hall, HR⟩ := hrel
  have HB1 := Lib.hid (HB.out.up HR.out)
  have HG1 := Lib.hid (HG.out.keep HR.out.below)
  have e0 := HG1.out.c0
  have e1 := HG1.out.c1
  by_cases hnm : n ≤ m
  ·have i1 : (n : Int) ≤ (m : Int) := by omega
   have KF := Lib.hid (firstList_g (m := m) (n := n) (A := A) (c := c) (r := r) (fm := 210) (cm := #[]) (fh := 213) (ch := #[.pointer (some ⟨w.heap.size, 0, none⟩)]) (may := freM) (hol := ocR r m) (lo := wr.heap.size) (hi := wr.heap.size) (J := fun _ z => GBox z w.heap.size A m c r)
    (ent_of Tryz.func210 (by kernel_rfl) rfl) (ent_of Tryz.func213 (by kernel_rfl) rfl) wr HG1.out.gv (by omega) (Nat.le_refl _) (fun _ z z' hz hb => hz.keep hb) HG1.out
    (fun _ l A' c' z hz hr hl hv hn => always_n A' l.length c' z)
    (fun _ l A' c' z hz hr hl hv hn => (FindOddCycle_c hz ⟨hr⟩ (by have := nodup_len hn hv; omega)).mono fun e w' ⟨h1, h2⟩ => ⟨h1, hz.keep h2, Fr.of_below h2⟩))
   have Hat : Hid (latO 3 2 (ocF r m) n = ocF r m n) := latO_at hn4 Hst.out
   have Hfd : Hid (ocF r m n = seaG m freM (ocR r m) n []) := rfl
   rw [← Hfd.out] at KF
   obtain ⟨so, hso⟩ : ∃ so, so = ocF r m n := ⟨_, rfl⟩
   rw [← hso] at KF Hat
   clear hso Hfd
   go_wp2_with fail
   refine KF.out.mono ?_
   rintro e w1 ⟨hfr, hp⟩
   have hb1 : Below wr.heap.size wr w1 := hfr.below (Nat.le_refl _) (Nat.le_refl _)
   have HR1 := Lib.hid (HR.out.keep hb1)
   have HB2 := Lib.hid (HB1.out.keep hb1)
   have HZ : Hid (w.heap.size ≤ wr.heap.size) := HB1.out.below.size
   clear hfr KF HG1 e0 e1 hb1 HR HB1
   cases so with
   | none =>
     obtain ⟨rfl, _⟩ := hp
     have Hn : Hid (∀ u, u < n + 2 → latO 3 2 (ocF r m) u = none) := fun u hu => by
      by_cases huv : u < n
      ·exact hall.out u huv
      ·by_cases hun : u = n
       ·subst hun; exact Hat.out
       ·exact latO_off (by have := Hst.out; omega)
     have Hst2 : Hid ((n + 2 - 3) % 2 = 0) := by show _ = _; have := Hst.out; omega
     go_wp2
     go_roundw
     case rel => exact ⟨n + 2, by omega, by omega, by go_num, Hst2, Hn, HR1⟩
     case measure => (simp [intOf] <;> omega)
   | some l =>
     obtain ⟨g, c', rfl, hO⟩ := hp
     have HL : Hid (ON w.heap.size w1 (some ⟨g, 0, none⟩) c' l) := ⟨hO.mono HZ.out (Nat.le_refl _)⟩
     have Hs : Hid (oddcO r m = some l) := ltO_some hnm Hat.out hall.out
     clear hO
     go_wp2
     go_ret2
     rw [Hs.out]
     exact lsQ.yes HL.out HB2.out.below
  ·have Hs : Hid (oddcO r m = none) := ltO_none fun u hu => hall.out u (by omega)
   have i1 : (m : Int) < (n : Int) := by omega
   go_wp2
   go_ret2
   rw [Hs.out]
   exact lsQ.no HB1.out.below
set_option maxRecDepth 100000 in
set_option maxHeartbeats 3200000 in
theorem FindOddCycle_no (sz : Int) (A : Option Addr) (m c : Nat) (x : Nat → Int) (w : World) (h : GA w A m c x) (hm : m ≤ 1048576) (hok : okB sz m x = false) :
 Calls Tryz.prog 141 #[.agg #[.int .i64 sz, .slice A m c]] w (lsQ w none) := by
 obtain ⟨W, hW⟩ : ∃ W : World, W = (w.alloc (Obj.cells #[Value.int IntKind.i64 sz, Value.slice A m c] 26)) := ⟨_, rfl⟩
 have HB : Hid (From w W) := by rw [hW]; exact From.alloc _ _
 have HK := Lib.hid (h.keep HB.out.below)
 have HC : Hid (GC W w.heap.size sz A m c) := by rw [hW]; exact GC.new _ _ _ _ _
 have HW := Lib.hid hW
 have Ho := Lib.hid hok
 have HR0 : Hid (From W W) := From.refl W
 have e0 := HC.out.c0
 have e1 := HC.out.c1
 clear hW h hok
 go_enter Tryz.func141, Tryz.ntmps141
 go_wp2_with fail
 rw [← HW.out]
 clear HW
 go_wp2
 go_loopw [4] (fun i wr => ∃ n : Nat, 3 ≤ n ∧ n ≤ 9 ∧ i = .int .i64 n ∧ Hid (From W wr)) (fun i _ => 20 - (intOf i).toNat)
 case atStart => exact ⟨3, by omega, by omega, rfl, HR0⟩
 case round =>
  clear HR0 e0 e1
  obtain ⟨n, hn4, hn9, rfl, HR⟩ := hrel
  have HB1 := Lib.hid (HB.out.up HR.out)
  have HK1 := Lib.hid (HK.out.keep HR.out.below)
  have HC1 := Lib.hid (HC.out.keep HR.out.below)
  have e0 := HC1.out.c0
  have e1 := HC1.out.c1
  by_cases h7 : sz ≤ 7
  ·by_cases hnm : (n : Int) ≤ sz
   ·have i7 : n ≤ 7 := by omega
    have KF := Lib.hid (firstList_noG (n := (n : Int)) (fm := 210) (cm := #[]) (fh := 213) (ch := #[.pointer (some ⟨w.heap.size, 0, none⟩)]) HK1.out hm Ho.out)
    go_wp2_with fail
    refine KF.out.mono ?_
    rintro e w1 ⟨rfl, hb1⟩
    have HR1 := Lib.hid (HR.out.keep hb1)
    clear KF HK1 HC1 e0 e1 hb1 HR HB1
    go_wp2
    go_roundw
    case rel => exact ⟨n + 2, by omega, by omega, by go_num, HR1⟩
    case measure => (simp [intOf] <;> omega)
   ·have i1 : sz < (n : Int) := by omega
    go_wp2
    go_ret2
    exact lsQ.no HB1.out.below
  ·by_cases hnm : (n : Int) ≤ 7
   ·have i7 : n ≤ 7 := by omega
    have KF := Lib.hid (firstList_noG (n := (n : Int)) (fm := 210) (cm := #[]) (fh := 213) (ch := #[.pointer (some ⟨w.heap.size, 0, none⟩)]) HK1.out hm Ho.out)
    go_wp2_with fail
    refine KF.out.mono ?_
    rintro e w1 ⟨rfl, hb1⟩
    have HR1 := Lib.hid (HR.out.keep hb1)
    clear KF HK1 HC1 e0 e1 hb1 HR HB1
    go_wp2
    go_roundw
    case rel => exact ⟨n + 2, by omega, by omega, by go_num, HR1⟩
    case measure => (simp [intOf] <;> omega)
   ·have i1 : 7 < (n : Int) := by omega
    go_wp2
    go_ret2
    exact lsQ.no HB1.out.below
end Go.Proofs.YtfabbohijhjpcaaGreatDoor

/-
-/
namespace Go.Proofs.YtfabbohijhjpcaaGreatDoor
open Go.RowKit
noncomputable def p4O (r : Nat → Nat) (m : Nat) : Option (List Nat) := ptO r m 4
noncomputable def obO (sz : Int) (m : Nat) (x : Nat → Int) (s : List UInt8) : Option (List Nat) :=
 if s = [99, 104, 111, 114, 100, 97, 108] then gO sz m x holeO else if s = [105, 110, 116, 101, 114, 118, 97, 108] then gO sz m x ioO else if s = [112, 114, 111, 112, 101, 114] then gO sz m x poO else if s = [99, 111, 103, 114, 97, 112, 104] then gO sz m x p4O else if s = [115, 112, 108, 105, 116] then gO sz m x soO else if s = [116, 104, 114, 101, 115, 104, 111, 108, 100] then gO sz m x fhO else if s = [98, 105, 112, 97, 114, 116, 105, 116, 101] then gO sz m x oddcO else if s = [115, 116, 114, 111, 110, 103] then gO sz m x sgO else if s = [112, 101, 114, 102, 101, 99, 116] then gO sz m x pfcO else none
theorem FindHole_a (sz : Int) (A : Option Addr) (m c : Nat) (x : Nat → Int) (w : World) (h : GA w A m c x) (hm : m ≤ 1048576) :
 Calls Tryz.prog 135 #[.agg #[.int .i64 sz, .slice A m c]] w (lsQ w (gO sz m x holeO)) := by
 cases ho : okB sz m x
 ·rw [gO_no ho]; exact FindHole_no sz A m c x w h hm ho
 ·obtain ⟨_, es, _, _⟩ := okB_ok' ho
  subst es
  rw [gO_yes ho]; exact FindHole_v (h.gv ho)
theorem IntervalObstacle_a (sz : Int) (A : Option Addr) (m c : Nat) (x : Nat → Int) (w : World) (h : GA w A m c x) (hm : m ≤ 1048576) :
 Calls Tryz.prog 136 #[.agg #[.int .i64 sz, .slice A m c]] w (lsQ w (gO sz m x ioO)) := by
 cases ho : okB sz m x
 ·rw [gO_no ho]; exact IntervalObstacle_no sz A m c x w h hm ho
 ·obtain ⟨_, es, _, _⟩ := okB_ok' ho
  subst es
  rw [gO_yes ho]; exact IntervalObstacle_v (h.gv ho)
theorem ProperObstacle_a (sz : Int) (A : Option Addr) (m c : Nat) (x : Nat → Int) (w : World) (h : GA w A m c x) (hm : m ≤ 1048576) :
 Calls Tryz.prog 137 #[.agg #[.int .i64 sz, .slice A m c]] w (lsQ w (gO sz m x poO)) := by
 cases ho : okB sz m x
 ·rw [gO_no ho]; exact ProperObstacle_no sz A m c x w h hm ho
 ·obtain ⟨_, es, _, _⟩ := okB_ok' ho
  subst es
  rw [gO_yes ho]; exact ProperObstacle_v (h.gv ho)
theorem FindPathOfFour_a (sz : Int) (A : Option Addr) (m c : Nat) (x : Nat → Int) (w : World) (h : GA w A m c x) (hm : m ≤ 1048576) :
 Calls Tryz.prog 138 #[.agg #[.int .i64 sz, .slice A m c]] w (lsQ w (gO sz m x p4O)) := by
 cases ho : okB sz m x
 ·rw [gO_no ho]; exact FindPathOfFour_no sz A m c x w h hm ho
 ·obtain ⟨_, es, _, _⟩ := okB_ok' ho
  subst es
  rw [gO_yes ho]; exact FindPathOfFour_v (h.gv ho)
theorem SplitObstacle_a (sz : Int) (A : Option Addr) (m c : Nat) (x : Nat → Int) (w : World) (h : GA w A m c x) (hm : m ≤ 1048576) :
 Calls Tryz.prog 139 #[.agg #[.int .i64 sz, .slice A m c]] w (lsQ w (gO sz m x soO)) := by
 cases ho : okB sz m x
 ·rw [gO_no ho]; exact SplitObstacle_no sz A m c x w h hm ho
 ·obtain ⟨_, es, _, _⟩ := okB_ok' ho
  subst es
  rw [gO_yes ho]; exact SplitObstacle_v (h.gv ho)
theorem ThresholdObstacle_a (sz : Int) (A : Option Addr) (m c : Nat) (x : Nat → Int) (w : World) (h : GA w A m c x) (hm : m ≤ 1048576) :
 Calls Tryz.prog 140 #[.agg #[.int .i64 sz, .slice A m c]] w (lsQ w (gO sz m x fhO)) := by
 cases ho : okB sz m x
 ·rw [gO_no ho]; exact ThresholdObstacle_no sz A m c x w h hm ho
 ·obtain ⟨_, es, _, _⟩ := okB_ok' ho
  subst es
  rw [gO_yes ho]; exact ThresholdObstacle_v (h.gv ho)
theorem FindOddCycle_a (sz : Int) (A : Option Addr) (m c : Nat) (x : Nat → Int) (w : World) (h : GA w A m c x) (hm : m ≤ 1048576) :
 Calls Tryz.prog 141 #[.agg #[.int .i64 sz, .slice A m c]] w (lsQ w (gO sz m x oddcO)) := by
 cases ho : okB sz m x
 ·rw [gO_no ho]; exact FindOddCycle_no sz A m c x w h hm ho
 ·obtain ⟨_, es, _, _⟩ := okB_ok' ho
  subst es
  rw [gO_yes ho]; exact FindOddCycle_v (h.gv ho)
theorem StrongObstacle_a (sz : Int) (A : Option Addr) (m c : Nat) (x : Nat → Int) (w : World) (h : GA w A m c x) (hm : m ≤ 1048576) :
 Calls Tryz.prog 142 #[.agg #[.int .i64 sz, .slice A m c]] w (lsQ w (gO sz m x sgO)) := by
 cases ho : okB sz m x
 ·rw [gO_no ho]; exact StrongObstacle_no sz A m c x w h hm ho
 ·obtain ⟨_, es, _, _⟩ := okB_ok' ho
  subst es
  rw [gO_yes ho]; exact StrongObstacle_v (h.gv ho)
theorem PerfectObstacle_a (sz : Int) (A : Option Addr) (m c : Nat) (x : Nat → Int) (w : World) (h : GA w A m c x) (hm : m ≤ 1048576) :
 Calls Tryz.prog 143 #[.agg #[.int .i64 sz, .slice A m c]] w (lsQ w (gO sz m x pfcO)) := by
 cases ho : okB sz m x
 ·rw [gO_no ho]; exact PerfectObstacle_no sz A m c x w h hm ho
 ·obtain ⟨_, es, _, _⟩ := okB_ok' ho
  subst es
  rw [gO_yes ho]; exact PerfectObstacle_v (h.gv ho)
set_option maxRecDepth 100000 in
set_option maxHeartbeats 6400000 in
theorem ObstacleFor_i (sz : Int) (A : Option Addr) (m c : Nat) (x : Nat → Int) (str : ByteArray) (w : World) (h : GA w A m c x) (hm : m ≤ 1048576) :
 Calls Tryz.prog 80 #[.agg #[.int .i64 sz, .slice A m c], .string str] w (lsQ w (obO sz m x str.toList)) := by
 obtain ⟨W, hW⟩ : ∃ W : World, W = (w.alloc (Obj.cells #[Value.int IntKind.i64 sz, Value.slice A m c] 26)) := ⟨_, rfl⟩
 have HB : Hid (From w W) := by rw [hW]; exact From.alloc _ _
 have HK := Lib.hid (h.keep HB.out.below)
 have HC : Hid (GC W w.heap.size sz A m c) := by rw [hW]; exact GC.new _ _ _ _ _
 have HZ : Hid (w.heap.size ≤ W.heap.size) := HB.out.below.size
 have HW := Lib.hid hW
 have HR : Hid (obO sz m x str.toList = obO sz m x str.toList) := rfl
 clear hW h
 by_cases e0 : str.toList = [99, 104, 111, 114, 100, 97, 108]
 ·have r : Hid (obO sz m x str.toList = gO sz m x holeO) := by show _ = _; unfold obO; rw [if_pos e0]
  have f0 : (str.toList == [99, 104, 111, 114, 100, 97, 108]) = true := by simpa using e0
  clear HR e0
  rw [r.out]
  go_enter Tryz.func80, Tryz.ntmps80
  have e0 := HC.out.c0
  have e1 := HC.out.c1
  go_wp2_with fail
  rw [← HW.out]
  refine (FindHole_a sz A m c x W HK.out hm).mono ?_
  rintro e w1 ⟨A1, c1, rfl, ho1, hb1⟩
  clear HW
  clear e0 e1
  replace HB := Lib.hid (HB.out.keep hb1)
  replace HK := Lib.hid (HK.out.keep hb1)
  replace HC := Lib.hid (HC.out.keep hb1)
  clear hb1
  have e0 := HC.out.c0
  have e1 := HC.out.c1
  have HO1 := Lib.hid (ho1.mono HZ.out)
  clear ho1
  go_wp2
  go_ret2
  exact ⟨A1, c1, rfl, HO1.out, HB.out.below⟩
 by_cases e1 : str.toList = [105, 110, 116, 101, 114, 118, 97, 108]
 ·have r : Hid (obO sz m x str.toList = gO sz m x ioO) := by show _ = _; unfold obO; rw [if_neg e0, if_pos e1]
  have f0 : (str.toList == [99, 104, 111, 114, 100, 97, 108]) = false := by simpa using e0
  have f1 : (str.toList == [105, 110, 116, 101, 114, 118, 97, 108]) = true := by simpa using e1
  clear HR e0 e1
  rw [r.out]
  go_enter Tryz.func80, Tryz.ntmps80
  have e0 := HC.out.c0
  have e1 := HC.out.c1
  go_wp2_with fail
  rw [← HW.out]
  refine (IntervalObstacle_a sz A m c x W HK.out hm).mono ?_
  rintro e w2 ⟨A1, c1, rfl, ho1, hb2⟩
  clear HW
  clear e0 e1
  replace HB := Lib.hid (HB.out.keep hb2)
  replace HK := Lib.hid (HK.out.keep hb2)
  replace HC := Lib.hid (HC.out.keep hb2)
  clear hb2
  have e0 := HC.out.c0
  have e1 := HC.out.c1
  have HO1 := Lib.hid (ho1.mono HZ.out)
  clear ho1
  go_wp2
  go_ret2
  exact ⟨A1, c1, rfl, HO1.out, HB.out.below⟩
 by_cases e2 : str.toList = [112, 114, 111, 112, 101, 114]
 ·have r : Hid (obO sz m x str.toList = gO sz m x poO) := by show _ = _; unfold obO; rw [if_neg e0, if_neg e1, if_pos e2]
  have f0 : (str.toList == [99, 104, 111, 114, 100, 97, 108]) = false := by simpa using e0
  have f1 : (str.toList == [105, 110, 116, 101, 114, 118, 97, 108]) = false := by simpa using e1
  have f2 : (str.toList == [112, 114, 111, 112, 101, 114]) = true := by simpa using e2
  clear HR e0 e1 e2
  rw [r.out]
  go_enter Tryz.func80, Tryz.ntmps80
  have e0 := HC.out.c0
  have e1 := HC.out.c1
  go_wp2_with fail
  rw [← HW.out]
  refine (ProperObstacle_a sz A m c x W HK.out hm).mono ?_
  rintro e w3 ⟨A1, c1, rfl, ho1, hb3⟩
  clear HW
  clear e0 e1
  replace HB := Lib.hid (HB.out.keep hb3)
  replace HK := Lib.hid (HK.out.keep hb3)
  replace HC := Lib.hid (HC.out.keep hb3)
  clear hb3
  have e0 := HC.out.c0
  have e1 := HC.out.c1
  have HO1 := Lib.hid (ho1.mono HZ.out)
  clear ho1
  go_wp2
  go_ret2
  exact ⟨A1, c1, rfl, HO1.out, HB.out.below⟩
 by_cases e3 : str.toList = [99, 111, 103, 114, 97, 112, 104]
 ·have r : Hid (obO sz m x str.toList = gO sz m x p4O) := by show _ = _; unfold obO; rw [if_neg e0, if_neg e1, if_neg e2, if_pos e3]
  have f0 : (str.toList == [99, 104, 111, 114, 100, 97, 108]) = false := by simpa using e0
  have f1 : (str.toList == [105, 110, 116, 101, 114, 118, 97, 108]) = false := by simpa using e1
  have f2 : (str.toList == [112, 114, 111, 112, 101, 114]) = false := by simpa using e2
  have f3 : (str.toList == [99, 111, 103, 114, 97, 112, 104]) = true := by simpa using e3
  clear HR e0 e1 e2 e3
  rw [r.out]
  go_enter Tryz.func80, Tryz.ntmps80
  have e0 := HC.out.c0
  have e1 := HC.out.c1
  go_wp2_with fail
  rw [← HW.out]
  refine (FindPathOfFour_a sz A m c x W HK.out hm).mono ?_
  rintro e w4 ⟨A1, c1, rfl, ho1, hb4⟩
  clear HW
  clear e0 e1
  replace HB := Lib.hid (HB.out.keep hb4)
  replace HK := Lib.hid (HK.out.keep hb4)
  replace HC := Lib.hid (HC.out.keep hb4)
  clear hb4
  have e0 := HC.out.c0
  have e1 := HC.out.c1
  have HO1 := Lib.hid (ho1.mono HZ.out)
  clear ho1
  go_wp2
  go_ret2
  exact ⟨A1, c1, rfl, HO1.out, HB.out.below⟩
 by_cases e4 : str.toList = [115, 112, 108, 105, 116]
 ·have r : Hid (obO sz m x str.toList = gO sz m x soO) := by show _ = _; unfold obO; rw [if_neg e0, if_neg e1, if_neg e2, if_neg e3, if_pos e4]
  have f0 : (str.toList == [99, 104, 111, 114, 100, 97, 108]) = false := by simpa using e0
  have f1 : (str.toList == [105, 110, 116, 101, 114, 118, 97, 108]) = false := by simpa using e1
  have f2 : (str.toList == [112, 114, 111, 112, 101, 114]) = false := by simpa using e2
  have f3 : (str.toList == [99, 111, 103, 114, 97, 112, 104]) = false := by simpa using e3
  have f4 : (str.toList == [115, 112, 108, 105, 116]) = true := by simpa using e4
  clear HR e0 e1 e2 e3 e4
  rw [r.out]
  go_enter Tryz.func80, Tryz.ntmps80
  have e0 := HC.out.c0
  have e1 := HC.out.c1
  go_wp2_with fail
  rw [← HW.out]
  refine (SplitObstacle_a sz A m c x W HK.out hm).mono ?_
  rintro e w5 ⟨A1, c1, rfl, ho1, hb5⟩
  clear HW
  clear e0 e1
  replace HB := Lib.hid (HB.out.keep hb5)
  replace HK := Lib.hid (HK.out.keep hb5)
  replace HC := Lib.hid (HC.out.keep hb5)
  clear hb5
  have e0 := HC.out.c0
  have e1 := HC.out.c1
  have HO1 := Lib.hid (ho1.mono HZ.out)
  clear ho1
  go_wp2
  go_ret2
  exact ⟨A1, c1, rfl, HO1.out, HB.out.below⟩
 by_cases e5 : str.toList = [116, 104, 114, 101, 115, 104, 111, 108, 100]
 ·have r : Hid (obO sz m x str.toList = gO sz m x fhO) := by show _ = _; unfold obO; rw [if_neg e0, if_neg e1, if_neg e2, if_neg e3, if_neg e4, if_pos e5]
  have f0 : (str.toList == [99, 104, 111, 114, 100, 97, 108]) = false := by simpa using e0
  have f1 : (str.toList == [105, 110, 116, 101, 114, 118, 97, 108]) = false := by simpa using e1
  have f2 : (str.toList == [112, 114, 111, 112, 101, 114]) = false := by simpa using e2
  have f3 : (str.toList == [99, 111, 103, 114, 97, 112, 104]) = false := by simpa using e3
  have f4 : (str.toList == [115, 112, 108, 105, 116]) = false := by simpa using e4
  have f5 : (str.toList == [116, 104, 114, 101, 115, 104, 111, 108, 100]) = true := by simpa using e5
  clear HR e0 e1 e2 e3 e4 e5
  rw [r.out]
  go_enter Tryz.func80, Tryz.ntmps80
  have e0 := HC.out.c0
  have e1 := HC.out.c1
  go_wp2_with fail
  rw [← HW.out]
  refine (ThresholdObstacle_a sz A m c x W HK.out hm).mono ?_
  rintro e w6 ⟨A1, c1, rfl, ho1, hb6⟩
  clear HW
  clear e0 e1
  replace HB := Lib.hid (HB.out.keep hb6)
  replace HK := Lib.hid (HK.out.keep hb6)
  replace HC := Lib.hid (HC.out.keep hb6)
  clear hb6
  have e0 := HC.out.c0
  have e1 := HC.out.c1
  have HO1 := Lib.hid (ho1.mono HZ.out)
  clear ho1
  go_wp2
  go_ret2
  exact ⟨A1, c1, rfl, HO1.out, HB.out.below⟩
 by_cases e6 : str.toList = [98, 105, 112, 97, 114, 116, 105, 116, 101]
 ·have r : Hid (obO sz m x str.toList = gO sz m x oddcO) := by show _ = _; unfold obO; rw [if_neg e0, if_neg e1, if_neg e2, if_neg e3, if_neg e4, if_neg e5, if_pos e6]
  have f0 : (str.toList == [99, 104, 111, 114, 100, 97, 108]) = false := by simpa using e0
  have f1 : (str.toList == [105, 110, 116, 101, 114, 118, 97, 108]) = false := by simpa using e1
  have f2 : (str.toList == [112, 114, 111, 112, 101, 114]) = false := by simpa using e2
  have f3 : (str.toList == [99, 111, 103, 114, 97, 112, 104]) = false := by simpa using e3
  have f4 : (str.toList == [115, 112, 108, 105, 116]) = false := by simpa using e4
  have f5 : (str.toList == [116, 104, 114, 101, 115, 104, 111, 108, 100]) = false := by simpa using e5
  have f6 : (str.toList == [98, 105, 112, 97, 114, 116, 105, 116, 101]) = true := by simpa using e6
  clear HR e0 e1 e2 e3 e4 e5 e6
  rw [r.out]
  go_enter Tryz.func80, Tryz.ntmps80
  have e0 := HC.out.c0
  have e1 := HC.out.c1
  go_wp2_with fail
  rw [← HW.out]
  refine (FindOddCycle_a sz A m c x W HK.out hm).mono ?_
  rintro e w7 ⟨A1, c1, rfl, ho1, hb7⟩
  clear HW
  clear e0 e1
  replace HB := Lib.hid (HB.out.keep hb7)
  replace HK := Lib.hid (HK.out.keep hb7)
  replace HC := Lib.hid (HC.out.keep hb7)
  clear hb7
  have e0 := HC.out.c0
  have e1 := HC.out.c1
  have HO1 := Lib.hid (ho1.mono HZ.out)
  clear ho1
  go_wp2
  go_ret2
  exact ⟨A1, c1, rfl, HO1.out, HB.out.below⟩
 by_cases e7 : str.toList = [115, 116, 114, 111, 110, 103]
 ·have r : Hid (obO sz m x str.toList = gO sz m x sgO) := by show _ = _; unfold obO; rw [if_neg e0, if_neg e1, if_neg e2, if_neg e3, if_neg e4, if_neg e5, if_neg e6, if_pos e7]
  have f0 : (str.toList == [99, 104, 111, 114, 100, 97, 108]) = false := by simpa using e0
  have f1 : (str.toList == [105, 110, 116, 101, 114, 118, 97, 108]) = false := by simpa using e1
  have f2 : (str.toList == [112, 114, 111, 112, 101, 114]) = false := by simpa using e2
  have f3 : (str.toList == [99, 111, 103, 114, 97, 112, 104]) = false := by simpa using e3
  have f4 : (str.toList == [115, 112, 108, 105, 116]) = false := by simpa using e4
  have f5 : (str.toList == [116, 104, 114, 101, 115, 104, 111, 108, 100]) = false := by simpa using e5
  have f6 : (str.toList == [98, 105, 112, 97, 114, 116, 105, 116, 101]) = false := by simpa using e6
  have f7 : (str.toList == [115, 116, 114, 111, 110, 103]) = true := by simpa using e7
  clear HR e0 e1 e2 e3 e4 e5 e6 e7
  rw [r.out]
  go_enter Tryz.func80, Tryz.ntmps80
  have e0 := HC.out.c0
  have e1 := HC.out.c1
  go_wp2_with fail
  rw [← HW.out]
  refine (StrongObstacle_a sz A m c x W HK.out hm).mono ?_
  rintro e w8 ⟨A1, c1, rfl, ho1, hb8⟩
  clear HW
  clear e0 e1
  replace HB := Lib.hid (HB.out.keep hb8)
  replace HK := Lib.hid (HK.out.keep hb8)
  replace HC := Lib.hid (HC.out.keep hb8)
  clear hb8
  have e0 := HC.out.c0
  have e1 := HC.out.c1
  have HO1 := Lib.hid (ho1.mono HZ.out)
  clear ho1
  go_wp2
  go_ret2
  exact ⟨A1, c1, rfl, HO1.out, HB.out.below⟩
 by_cases e8 : str.toList = [112, 101, 114, 102, 101, 99, 116]
 ·have r : Hid (obO sz m x str.toList = gO sz m x pfcO) := by show _ = _; unfold obO; rw [if_neg e0, if_neg e1, if_neg e2, if_neg e3, if_neg e4, if_neg e5, if_neg e6, if_neg e7, if_pos e8]
  have f0 : (str.toList == [99, 104, 111, 114, 100, 97, 108]) = false := by simpa using e0
  have f1 : (str.toList == [105, 110, 116, 101, 114, 118, 97, 108]) = false := by simpa using e1
  have f2 : (str.toList == [112, 114, 111, 112, 101, 114]) = false := by simpa using e2
  have f3 : (str.toList == [99, 111, 103, 114, 97, 112, 104]) = false := by simpa using e3
  have f4 : (str.toList == [115, 112, 108, 105, 116]) = false := by simpa using e4
  have f5 : (str.toList == [116, 104, 114, 101, 115, 104, 111, 108, 100]) = false := by simpa using e5
  have f6 : (str.toList == [98, 105, 112, 97, 114, 116, 105, 116, 101]) = false := by simpa using e6
  have f7 : (str.toList == [115, 116, 114, 111, 110, 103]) = false := by simpa using e7
  have f8 : (str.toList == [112, 101, 114, 102, 101, 99, 116]) = true := by simpa using e8
  clear HR e0 e1 e2 e3 e4 e5 e6 e7 e8
  rw [r.out]
  go_enter Tryz.func80, Tryz.ntmps80
  have e0 := HC.out.c0
  have e1 := HC.out.c1
  go_wp2_with fail
  rw [← HW.out]
  refine (PerfectObstacle_a sz A m c x W HK.out hm).mono ?_
  rintro e w9 ⟨A1, c1, rfl, ho1, hb9⟩
  clear HW
  clear e0 e1
  replace HB := Lib.hid (HB.out.keep hb9)
  replace HK := Lib.hid (HK.out.keep hb9)
  replace HC := Lib.hid (HC.out.keep hb9)
  clear hb9
  have e0 := HC.out.c0
  have e1 := HC.out.c1
  have HO1 := Lib.hid (ho1.mono HZ.out)
  clear ho1
  go_wp2
  go_ret2
  exact ⟨A1, c1, rfl, HO1.out, HB.out.below⟩
 have r : Hid (obO sz m x str.toList = none) := by show _ = _; unfold obO; rw [if_neg e0, if_neg e1, if_neg e2, if_neg e3, if_neg e4, if_neg e5, if_neg e6, if_neg e7, if_neg e8]
 have f0 : (str.toList == [99, 104, 111, 114, 100, 97, 108]) = false := by simpa using e0
 have f1 : (str.toList == [105, 110, 116, 101, 114, 118, 97, 108]) = false := by simpa using e1
 have f2 : (str.toList == [112, 114, 111, 112, 101, 114]) = false := by simpa using e2
 have f3 : (str.toList == [99, 111, 103, 114, 97, 112, 104]) = false := by simpa using e3
 have f4 : (str.toList == [115, 112, 108, 105, 116]) = false := by simpa using e4
 have f5 : (str.toList == [116, 104, 114, 101, 115, 104, 111, 108, 100]) = false := by simpa using e5
 have f6 : (str.toList == [98, 105, 112, 97, 114, 116, 105, 116, 101]) = false := by simpa using e6
 have f7 : (str.toList == [115, 116, 114, 111, 110, 103]) = false := by simpa using e7
 have f8 : (str.toList == [112, 101, 114, 102, 101, 99, 116]) = false := by simpa using e8
 clear e0 e1 e2 e3 e4 e5 e6 e7 e8
 rw [r.out]
 go_enter Tryz.func80, Tryz.ntmps80
 go_wp2
 rw [← HW.out]
 go_ret2
 exact lsQ.no HB.out.below
end Go.Proofs.YtfabbohijhjpcaaGreatDoor
