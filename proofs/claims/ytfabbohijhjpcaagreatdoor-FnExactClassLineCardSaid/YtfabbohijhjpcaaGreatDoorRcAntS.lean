/-
  Several texts in one.
-/
import Derived.Test.YtfabbohijhjpcaaGreatDoorRcAntI
import Derived.Test.YtfabbohijhjpcaaGreatDoorRcAvoidS
import Derived.Test.YtfabbohijhjpcaaGreatDoorRcJoinS
import Derived.Test.YtfabbohijhjpcaaGreatDoorRcJoinU
import Derived.Test.YtfabbohijhjpcaaGreatDoorRcGB
import Derived.Test.YtfabbohijhjpcaaGreatDoorRcPthI
import Derived.Test.YtfabbohijhjpcaaGreatDoorRcBarP
import Derived.Test.YtfabbohijhjpcaaGreatDoorRcFirst
import Derived.Test.YtfabbohijhjpcaaGreatDoorRcListZ
import Derived.Test.YtfabbohijhjpcaaGreatDoorRcHamT
import Derived.Deep.RegionHeld3
import Derived.Test.YtfabbohijhjpcaaGreatDoorRcBarS
import Derived.Test.YtfabbohijhjpcaaGreatDoorRcHolS
/-
-/
namespace Go.Proofs.YtfabbohijhjpcaaGreatDoor
open Go.RowKit
section
variable (sz : Int) (A : Option Addr) (m cA : Nat) (x : Nat → Int) (a b c : Int) (w : World)
set_option maxRecDepth 100000 in
set_option maxHeartbeats 6400000 in
theorem IsTriple_s (h : GA w A m cA x) (hm : m ≤ 1048576) :
 Calls Tryz.prog 273 #[.agg #[.int .i64 sz, .slice A m cA], .int .i64 a, .int .i64 b, .int .i64 c] w fun e w' => e = .returned (.bool (trB sz m x a b c)) ∧ Below w.heap.size w w' := by
 obtain ⟨W, hW⟩ : ∃ W : World, W = (w.alloc (Obj.cells #[Value.int IntKind.i64 sz, Value.slice A m cA] 26)) := ⟨_, rfl⟩
 have HB : Hid (From w W) := by rw [hW]; exact From.alloc _ _
 have HK := Lib.hid (h.keep HB.out.below)
 have HC : Hid (GC W w.heap.size sz A m cA) := by rw [hW]; exact GC.new _ _ _ _ _
 have HW := Lib.hid hW
 clear hW h
 have Heq : Hid (trB sz m x a b c = ((avB sz m x a b c && avB sz m x b c a && avB sz m x c a b) && ((a != b) && (b != c) && (a != c)))) := by
  show _ = _; unfold trB
  by_cases h0 : a = b <;> by_cases h1 : b = c <;> by_cases h2 : a = c <;> simp [h0, h1, h2]
 go_enter Tryz.func273, Tryz.ntmps273
 have e0 := HC.out.c0
 have e1 := HC.out.c1
 go_wp2_with fail
 rw [← HW.out]
 refine (AvoidingPath_s sz A m cA x a b c W HK.out hm).mono ?_
 rintro e w1 ⟨A5, n5, c5, rfl, hb1⟩
 clear HW
 clear e0 e1
 replace HB := Lib.hid (HB.out.keep hb1)
 replace HK := Lib.hid (HK.out.keep hb1)
 replace HC := Lib.hid (HC.out.keep hb1)
 clear hb1
 have e0 := HC.out.c0
 have e1 := HC.out.c1
 go_wp2_with fail
 refine (AvoidingPath_s sz A m cA x b c a w1 HK.out hm).mono ?_
 rintro e w2 ⟨A6, n6, c6, rfl, hb2⟩
 clear e0 e1
 replace HB := Lib.hid (HB.out.keep hb2)
 replace HK := Lib.hid (HK.out.keep hb2)
 replace HC := Lib.hid (HC.out.keep hb2)
 clear hb2
 have e0 := HC.out.c0
 have e1 := HC.out.c1
 go_wp2_with fail
 refine (AvoidingPath_s sz A m cA x c a b w2 HK.out hm).mono ?_
 rintro e w3 ⟨A7, n7, c7, rfl, hb3⟩
 clear e0 e1
 replace HB := Lib.hid (HB.out.keep hb3)
 replace HK := Lib.hid (HK.out.keep hb3)
 replace HC := Lib.hid (HC.out.keep hb3)
 clear hb3
 have e0 := HC.out.c0
 have e1 := HC.out.c1
 obtain ⟨t1, ht1⟩ : ∃ t, t = avB sz m x a b c := ⟨_, rfl⟩
 obtain ⟨t2, ht2⟩ : ∃ t, t = avB sz m x b c a := ⟨_, rfl⟩
 obtain ⟨t3, ht3⟩ : ∃ t, t = avB sz m x c a b := ⟨_, rfl⟩
 obtain ⟨d1, hd1⟩ : ∃ d, d = (a != b) := ⟨_, rfl⟩
 obtain ⟨d2, hd2⟩ : ∃ d, d = (b != c) := ⟨_, rfl⟩
 obtain ⟨d3, hd3⟩ : ∃ d, d = (a != c) := ⟨_, rfl⟩
 rw [← ht1, ← ht2, ← ht3, ← hd1, ← hd2, ← hd3] at Heq
 simp only [← ht1, ← ht2, ← ht3]
 have i1 := hd1.symm
 have i2 := hd2.symm
 have i3 := hd3.symm
 clear ht1 ht2 ht3 hd1 hd2 hd3 HK HC e0 e1
 cases t1 <;> cases t2 <;> cases t3 <;> cases d1 <;> cases d2 <;> cases d3 <;> (go_wp2; go_ret; exact ⟨ret_bool (by rw [Heq.out]; rfl), HB.out.below⟩)
end
section
variable (sz : Int) (A : Option Addr) (m c : Nat) (x : Nat → Int) (Al : Option Addr) (n cl : Nat) (l : List Int) (w : World)
end
end Go.Proofs.YtfabbohijhjpcaaGreatDoor

/-
-/
namespace Go.Proofs.YtfabbohijhjpcaaGreatDoor
open Go.RowKit
set_option maxRecDepth 100000 in
set_option maxHeartbeats 6400000 in
theorem FindTriple_sv {A : Option Addr} {m c : Nat} {r : Nat → Nat} {w : World} (h : GV w A m c r) : Calls Tryz.prog 189 #[.agg #[.int .i64 m, .slice A m c]] w (lsQ w (triO r m)) := by
 have hm7 := h.vg.n7
 obtain ⟨W, hW⟩ : ∃ W : World, W = (w.alloc (Obj.cells #[Value.int IntKind.i64 m, Value.slice A m c] 26)) := ⟨_, rfl⟩
 have HB : Hid (From w W) := by rw [hW]; exact From.alloc _ _
 have HG : Hid (GBox W w.heap.size A m c r) := by rw [hW]; exact h.box
 have HW := Lib.hid hW
 clear hW h
 have e0 := HG.out.c0
 have e1 := HG.out.c1
 have HR0 : Hid (From W W) := From.refl W
 go_enter Tryz.func189, Tryz.ntmps189
 go_wp2_with fail
 rw [← HW.out]
 clear HW
 go_wp2
 go_loopw [4] (fun i wr => ∃ a : Nat, a ≤ m ∧ i = .int .i64 a ∧ Hid (∀ u, u < a → triA r m u = none) ∧ Hid (From W wr)) (fun i _ => m - (intOf i).toNat)
 case atStart => exact ⟨0, Nat.zero_le _, rfl, (fun u hu => absurd hu (by omega)), HR0⟩
 case round =>
  clear HR0 e0 e1
  obtain ⟨a, ha, rfl, hall, HR⟩ := hrel
  have HB1 := Lib.hid (HB.out.up HR.out)
  have HG1 := Lib.hid (HG.out.keep HR.out.below)
  have e0 := HG1.out.c0
  have e1 := HG1.out.c1
  by_cases ham : a < m
  ·have i1 : (a : Int) < (m : Int) := by omega
   go_wp2_with fail
   refine (IsGraph_sv HG1.out.gv).mono ?_
   rintro e w1 ⟨rfl, hb1⟩
   clear e0 e1
   replace HB1 := Lib.hid (HB1.out.keep hb1)
   replace HG1 := Lib.hid (HG1.out.keep hb1)
   replace HR := Lib.hid (HR.out.keep hb1)
   clear hb1
   have e0 := HG1.out.c0
   have e1 := HG1.out.c1
   go_wp2
   clear e0 e1 HB1 HG1
   go_loopw [5] (fun i wr => ∃ b : Nat, a + 1 ≤ b ∧ b ≤ m ∧ i = .int .i64 b ∧ Hid (∀ u, u < b → triB r m a u = none) ∧ Hid (From W wr)) (fun i _ => m - (intOf i).toNat)
   case atStart => exact ⟨a + 1, Nat.le_refl _, by omega, by go_num, (fun u hu => triB_lo (by omega)), HR⟩
   case round =>
    clear HR
    obtain ⟨b, hab, hb, rfl, hallb, HR⟩ := hrel
    have HB1 := Lib.hid (HB.out.up HR.out)
    have HG1 := Lib.hid (HG.out.keep HR.out.below)
    have e0 := HG1.out.c0
    have e1 := HG1.out.c1
    by_cases hbm : b < m
    ·have i2 : (b : Int) < (m : Int) := by omega
     go_wp2
     clear e0 e1 HB1 HG1
     go_loopw [6] (fun i wr => ∃ c : Nat, b + 1 ≤ c ∧ c ≤ m ∧ i = .int .i64 c ∧ Hid (∀ u, u < c → triC r m a b u = none) ∧ Hid (From W wr)) (fun i _ => m - (intOf i).toNat)
     case atStart => exact ⟨b + 1, Nat.le_refl _, by omega, by go_num, (fun u hu => triC_lo (by omega)), HR⟩
     case round =>
      clear HR
      obtain ⟨k, hbk, hk, rfl, hallc, HR⟩ := hrel
      have HB1 := Lib.hid (HB.out.up HR.out)
      have HG1 := Lib.hid (HG.out.keep HR.out.below)
      have e0 := HG1.out.c0
      have e1 := HG1.out.c1
      by_cases hkm : k < m
      ·have i3 : (k : Int) < (m : Int) := by omega
       obtain ⟨t, ht⟩ : ∃ t, t = trB (m : Int) m (fun v => (r v : Int)) (a : Nat) (b : Nat) (k : Nat) := ⟨_, rfl⟩
       have KT : Hid (∀ {z : World}, GV z A m c r → Calls Tryz.prog 273 #[.agg #[.int .i64 m, .slice A m c], .int .i64 a, .int .i64 b, .int .i64 k] z fun e w' => e = .returned (.bool t) ∧ Below z.heap.size z w') := by rw [ht]; exact fun h => IsTriple_s m A m c _ a b k _ h.ga (by omega)
       cases t
       ·have Hn : Hid (triC r m a b k = none) := triC_no ht.symm
        clear ht
        go_wp2_with fail
        refine (KT.out HG1.out.gv).mono ?_
        rintro e w2 ⟨rfl, hb2⟩
        clear e0 e1
        replace HB1 := Lib.hid (HB1.out.keep hb2)
        replace HG1 := Lib.hid (HG1.out.keep hb2)
        replace HR := Lib.hid (HR.out.keep hb2)
        clear hb2
        have e0 := HG1.out.c0
        have e1 := HG1.out.c1
        go_wp2
        go_roundw
        case rel =>
         refine ⟨k + 1, by omega, by omega, by go_num, fun u hu => ?_, HR⟩
         by_cases huv : u < k
         ·exact hallc.out u huv
         ·obtain rfl : u = k := by omega
          exact Hn.out
        case measure => (simp [intOf] <;> omega)
       ·have Hs : Hid (triO r m = some [a, b, k]) := range_some ham (range_some hbm (range_some hkm (triC_yes (by omega) (by omega) ht.symm) hallc.out) hallb.out) hall.out
        clear ht
        go_wp2_with fail
        refine (KT.out HG1.out.gv).mono ?_
        rintro e w3 ⟨rfl, hb3⟩
        clear e0 e1
        replace HB1 := Lib.hid (HB1.out.keep hb3)
        replace HG1 := Lib.hid (HG1.out.keep hb3)
        replace HR := Lib.hid (HR.out.keep hb3)
        clear hb3
        have e0 := HG1.out.c0
        have e1 := HG1.out.c1
        have HON := Lib.hid (ON.three w3 a b k)
        have HBz := Lib.hid (HB1.out.alloc_ (Obj.cells #[.int .i64 (a : Int), .int .i64 (b : Int), .int .i64 (k : Int)] 3))
        go_wp2
        go_ret2
        rw [Hs.out]
        exact lsQ.yes (HON.out.mono HB1.out.below.size) HBz.out.below
      ·have Hn : Hid (triB r m a b = none) := range_none fun u hu => hallc.out u (by omega)
       have i3 : (m : Int) ≤ (k : Int) := by omega
       go_wp2
       go_roundw
       case rel =>
        refine ⟨b + 1, by omega, by omega, by go_num, fun u hu => ?_, HR⟩
        by_cases huv : u < b
        ·exact hallb.out u huv
        ·obtain rfl : u = b := by omega
         exact Hn.out
       case measure => (simp [intOf] <;> omega)
    ·have Hn : Hid (triA r m a = none) := range_none fun u hu => hallb.out u (by omega)
     have i3 : (m : Int) ≤ (b : Int) := by omega
     go_wp2
     go_roundw
     case rel =>
      refine ⟨a + 1, by omega, by go_num, fun u hu => ?_, HR⟩
      by_cases huv : u < a
      ·exact hall.out u huv
      ·obtain rfl : u = a := by omega
       exact Hn.out
     case measure => (simp [intOf] <;> omega)
  ·have Hn : Hid (triO r m = none) := range_none fun u hu => hall.out u (by omega)
   have i1 : (m : Int) ≤ (a : Int) := by omega
   have HON : Hid (ON wr.heap.size (wr.alloc (Obj.cells #[] 3)) (some ⟨wr.heap.size, 0, none⟩) 0 []) := ON.nil wr
   have HBz := Lib.hid (HB1.out.alloc_ (Obj.cells #[] 3))
   go_wp2
   go_ret2
   rw [Hn.out]
   exact ⟨_, _, rfl, HON.out.mono HB1.out.below.size, HBz.out.below⟩
set_option maxRecDepth 100000 in
set_option maxHeartbeats 3200000 in
theorem FindTriple_sno (sz : Int) (A : Option Addr) (m c : Nat) (x : Nat → Int) (w : World) (h : GA w A m c x) (hm : m ≤ 1048576) (hok : okB sz m x = false) :
 Calls Tryz.prog 189 #[.agg #[.int .i64 sz, .slice A m c]] w (lsQ w none) := by
 obtain ⟨W, hW⟩ : ∃ W : World, W = (w.alloc (Obj.cells #[Value.int IntKind.i64 sz, Value.slice A m c] 26)) := ⟨_, rfl⟩
 have HB : Hid (From w W) := by rw [hW]; exact From.alloc _ _
 have HK := Lib.hid (h.keep HB.out.below)
 have HC : Hid (GC W w.heap.size sz A m c) := by rw [hW]; exact GC.new _ _ _ _ _
 have HW := Lib.hid hW
 have Ho := Lib.hid hok
 have HR0 : Hid (From W W) := From.refl W
 clear hW h hok
 go_enter Tryz.func189, Tryz.ntmps189
 have e0 := HC.out.c0
 have e1 := HC.out.c1
 go_wp2_with fail
 rw [← HW.out]
 clear HW
 go_wp2
 go_loopw [4] (fun i wr => i = .int .i64 0 ∧ Hid (From W wr)) (fun _ _ => 0)
 case atStart => exact ⟨rfl, HR0⟩
 case round =>
  clear HR0 e0 e1
  obtain ⟨rfl, HR⟩ := hrel
  have HB1 := Lib.hid (HB.out.up HR.out)
  have HK1 := Lib.hid (HK.out.keep HR.out.below)
  have HC1 := Lib.hid (HC.out.keep HR.out.below)
  have e0 := HC1.out.c0
  have e1 := HC1.out.c1
  by_cases hnm : 0 < sz
  ·skip
   go_wp2_with fail
   refine (IsGraph_sany sz A m c x wr wr.heap.size HK1.out.rd (Nat.le_refl _) hm).mono ?_
   rintro e w5 ⟨rfl, hb1⟩
   rw [Ho.out]
   clear e0 e1
   replace HB1 := Lib.hid (HB1.out.keep hb1)
   replace HC1 := Lib.hid (HC1.out.keep hb1)
   clear hb1
   have e0 := HC1.out.c0
   have e1 := HC1.out.c1
   have HON : Hid (ON w5.heap.size (w5.alloc (Obj.cells #[] 3)) (some ⟨w5.heap.size, 0, none⟩) 0 []) := ON.nil w5
   have HBz := Lib.hid (HB1.out.alloc_ (Obj.cells #[] 3))
   go_wp2
   go_ret2
   exact ⟨_, _, rfl, HON.out.mono HB1.out.below.size, HBz.out.below⟩
  ·have i1 : sz ≤ 0 := by omega
   have HON : Hid (ON wr.heap.size (wr.alloc (Obj.cells #[] 3)) (some ⟨wr.heap.size, 0, none⟩) 0 []) := ON.nil wr
   have HBz := Lib.hid (HB1.out.alloc_ (Obj.cells #[] 3))
   go_wp2
   go_ret2
   exact ⟨_, _, rfl, HON.out.mono HB1.out.below.size, HBz.out.below⟩
end Go.Proofs.YtfabbohijhjpcaaGreatDoor

/-
-/
namespace Go.Proofs.YtfabbohijhjpcaaGreatDoor
open Go.RowKit
structure Clm where
 K : Int
 s : Int
 A0 : Option Addr
 n0 : Nat
 c0 : Nat
 x0 : Nat → Int
 t : ByteArray
 A1 : Option Addr
 n1 : Nat
 c1 : Nat
 x1 : Nat → Int
 A2 : Option Addr
 n2 : Nat
 c2 : Nat
 x2 : Nat → Int
 A3 : Option Addr
 c3 : Nat
 D : List Dsc
section
variable {w w' : World} {lo hi lo' hi' B B' : Nat} {k j : Clm}
end
end Go.Proofs.YtfabbohijhjpcaaGreatDoor

/-
-/
namespace Go.Proofs.YtfabbohijhjpcaaGreatDoor
open Go.RowKit
section
variable {A : Option Addr} {m c : Nat} {r : Nat → Nat}
theorem ComplementOf_sv {w : World} (h : GV w A m c r) :
 Calls Tryz.prog 94 #[.agg #[.int .i64 m, .slice A m c]] w fun e w' => ∃ A' c', e = .returned (.tuple #[.agg #[.int .i64 m, .slice A' m c'], .bool true]) ∧ GV w' A' m c' (coR r m) ∧ Below w.heap.size w w' := by
 have hk := ComplementOf_s (m : Int) A m c _ w ⟨h.rd⟩ (by have := h.vg.n7; omega)
 rw [h.ok] at hk
 refine hk.mono ?_
 rintro e w' ⟨sz', A', m', c', rfl, h2, h3⟩
 obtain ⟨rfl, rfl, h4⟩ := h2 rfl
 rw [rw_cast] at h4
 exact ⟨A', c', rfl, h4, h3⟩
end
end Go.Proofs.YtfabbohijhjpcaaGreatDoor

/-
-/
namespace Go.Proofs.YtfabbohijhjpcaaGreatDoor
open Go.RowKit
set_option maxRecDepth 100000 in
set_option maxHeartbeats 1600000 in
theorem FindAntihole_sv {A : Option Addr} {m c : Nat} {r : Nat → Nat} {w : World} (h : GV w A m c r) : Calls Tryz.prog 196 #[.agg #[.int .i64 m, .slice A m c]] w (lsQ w (ahO r m)) := by
 obtain ⟨W, hW⟩ : ∃ W : World, W = (w.alloc (Obj.cells #[Value.int IntKind.i64 m, Value.slice A m c] 26)) := ⟨_, rfl⟩
 have HB : Hid (From w W) := by rw [hW]; exact From.alloc _ _
 have HG : Hid (GBox W w.heap.size A m c r) := by rw [hW]; exact h.box
 have HW := Lib.hid hW
 clear hW h
 have e0 := HG.out.c0
 have e1 := HG.out.c1
 go_enter Tryz.func196, Tryz.ntmps196
 go_wp2_with fail
 rw [← HW.out]
 refine (ComplementOf_sv HG.out.gv).mono ?_
 rintro e w1 ⟨A2, c2, rfl, hG2, hb1⟩
 clear HW
 clear e0 e1
 replace HB := Lib.hid (HB.out.keep hb1)
 replace HG := Lib.hid (HG.out.keep hb1)
 clear hb1
 have e0 := HG.out.c0
 have e1 := HG.out.c1
 obtain ⟨W2, hW2⟩ : ∃ W2 : World, W2 = (w1.alloc (Obj.cells #[Value.int IntKind.i64 m, Value.slice A2 m c2] 26)) := ⟨_, rfl⟩
 have hb2 : Below w1.heap.size w1 W2 := by rw [hW2]; exact (Below.refl _ _).alloc (Nat.le_refl _) _
 have HG2 : Hid (GV W2 A2 m c2 (coR r m)) := hG2.keep hb2
 have HQ : Hid (GC W2 w1.heap.size m A2 m c2) := by rw [hW2]; exact GC.new _ _ _ _ _
 have HB2 : Hid (From w W2) := HB.out.keep hb2
 have HZ2 : Hid (w.heap.size ≤ W2.heap.size) := HB2.out.below.size
 have HW2 := Lib.hid hW2
 clear hW2 hb2 hG2 HB HG e0 e1
 have d0 := HQ.out.c0
 have d1 := HQ.out.c1
 go_wp2_with fail
 rw [← HW2.out]
 clear HW2
 refine (FindOddHole_sv HG2.out).mono ?_
 rintro e w3 ⟨A3, c3, rfl, ho3, hb3⟩
 have HO3 := Lib.hid (ho3.mono HZ2.out)
 clear ho3
 clear d0 d1
 replace HB2 := Lib.hid (HB2.out.keep hb3)
 replace HQ := Lib.hid (HQ.out.keep hb3)
 clear hb3
 have d0 := HQ.out.c0
 have d1 := HQ.out.c1
 go_wp2
 go_ret2
 exact ⟨_, _, rfl, HO3.out, HB2.out.below⟩
set_option maxRecDepth 100000 in
set_option maxHeartbeats 1600000 in
theorem FindAntihole_sno (sz : Int) (A : Option Addr) (m c : Nat) (x : Nat → Int) (w : World) (h : GA w A m c x) (hm : m ≤ 1048576) (hok : okB sz m x = false) :
 Calls Tryz.prog 196 #[.agg #[.int .i64 sz, .slice A m c]] w (lsQ w none) := by
 obtain ⟨W, hW⟩ : ∃ W : World, W = (w.alloc (Obj.cells #[Value.int IntKind.i64 sz, Value.slice A m c] 26)) := ⟨_, rfl⟩
 have HB : Hid (From w W) := by rw [hW]; exact From.alloc _ _
 have HK := Lib.hid (h.keep HB.out.below)
 have HC : Hid (GC W w.heap.size sz A m c) := by rw [hW]; exact GC.new _ _ _ _ _
 have HW := Lib.hid hW
 have K1 := Lib.hid (ComplementOf_s sz A m c x W HK.out hm)
 rw [hok] at K1
 clear hW h hok
 go_enter Tryz.func196, Tryz.ntmps196
 have e0 := HC.out.c0
 have e1 := HC.out.c1
 go_wp2_with fail
 rw [← HW.out]
 refine (K1.out).mono ?_
 rintro e w1 ⟨z2, A2, m2, c2, rfl, _, hb1⟩
 clear HW
 clear e0 e1
 replace HB := Lib.hid (HB.out.keep hb1)
 replace HK := Lib.hid (HK.out.keep hb1)
 replace HC := Lib.hid (HC.out.keep hb1)
 clear hb1
 have e0 := HC.out.c0
 have e1 := HC.out.c1
 clear K1
 have HON : Hid (ON w1.heap.size ((w1.alloc (Obj.cells #[Value.int IntKind.i64 z2, Value.slice A2 m2 c2] 26)).alloc (Obj.cells #[] 3)) (some ⟨w1.heap.size + 1, 0, none⟩) 0 []) := by
  have := ON.nil (w1.alloc (Obj.cells #[Value.int IntKind.i64 z2, Value.slice A2 m2 c2] 26))
  have e : (w1.alloc (Obj.cells #[Value.int IntKind.i64 z2, Value.slice A2 m2 c2] 26)).heap.size = w1.heap.size + 1 := by simp
  rw [e] at this
  exact this.mono (by omega)
 have HBz := Lib.hid ((HB.out.alloc_ (Obj.cells #[Value.int IntKind.i64 z2, Value.slice A2 m2 c2] 26)).alloc_ (Obj.cells #[] 3))
 go_wp2
 go_ret2
 exact ⟨_, _, rfl, HON.out.mono HB.out.below.size, HBz.out.below⟩
end Go.Proofs.YtfabbohijhjpcaaGreatDoor
