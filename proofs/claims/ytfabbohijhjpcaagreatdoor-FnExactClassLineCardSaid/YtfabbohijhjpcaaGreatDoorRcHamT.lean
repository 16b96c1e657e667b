/-
  Several texts in one.
-/
import Derived.Test.YtfabbohijhjpcaaGreatDoorRcPthI
import Derived.Test.YtfabbohijhjpcaaGreatDoorRcTake
import Derived.Test.YtfabbohijhjpcaaGreatDoorRcGC
import Derived.Test.YtfabbohijhjpcaaGreatDoorRcJoinS
/-
-/
namespace Go.Proofs.YtfabbohijhjpcaaGreatDoor
open Go.RowKit
theorem okG_pt {r : Nat → Nat} {m v : Nat} {l : List Nat} : okG (ptB r m) l v = ptB r m (l ++ [v]) := by
 by_cases h : v ∈ l
 ·rw [okG_in h, ptB_dup]
  intro hn
  rw [List.nodup_append] at hn
  exact hn.2.2 v h v (by simp) rfl
 ·exact okG_out h
theorem l1In_y {n lo hi : Int} (w : World) (h1 : lo ≤ n) (h2 : n ≤ hi) : Calls Tryz.prog 68 #[.int .i64 n, .int .i64 lo, .int .i64 hi] w fun e w' => e = .returned (.bool true) ∧ Below w.heap.size w w' :=
 (l1In_yes n lo hi w h1 h2).mono fun _ _ ⟨h1, h2⟩ => ⟨h1, h2 ▸ Below.refl _ _⟩
theorem l1In_z {n lo hi : Int} (w : World) (h : n < lo ∨ hi < n) : Calls Tryz.prog 68 #[.int .i64 n, .int .i64 lo, .int .i64 hi] w fun e w' => e = .returned (.bool false) ∧ Below w.heap.size w w' :=
 (l1In_no n lo hi w h).mono fun _ _ ⟨h1, h2⟩ => ⟨h1, h2 ▸ Below.refl _ _⟩
theorem IsInducedPath_sv {A : Option Addr} {m c : Nat} {r : Nat → Nat} {w : World} (h : GV w A m c r) {Al : Option Addr} {cl : Nat} {l : List Nat} (hl : LN w Al cl l) (hlen : l.length ≤ 7) :
 Calls Tryz.prog 272 #[.agg #[.int .i64 m, .slice A m c], .slice Al l.length cl] w fun e w' => e = .returned (.bool (ptB r m l)) ∧ Below w.heap.size w w' :=
 IsInducedPath_s m A m c _ Al l.length cl _ w h.ga hl.li (by have := h.vg.n7; omega) (by omega)
set_option maxRecDepth 100000 in
set_option maxHeartbeats 6400000 in
theorem l4_s {A : Option Addr} {m c n : Nat} {r : Nat → Nat} (hn7 : n ≤ 7) : ∀ (j : Nat) (l : List Nat) (Al : Option Addr) (cl : Nat) (w : World) (lo : Nat), l.length + j = n → GV w A m c r → ON lo w Al cl l → lo ≤ w.heap.size →
 Calls Tryz.prog 188 #[.agg #[.int .i64 m, .slice A m c], .slice Al l.length cl, .int .i64 n, .bool false] w fun e w' => ∃ A' c', e = .returned (.tuple #[.slice A' ((seaG m (ptB r m) (fun _ => true) j l).getD []).length c', .bool (seaG m (ptB r m) (fun _ => true) j l).isSome]) ∧ ON lo w' A' c' ((seaG m (ptB r m) (fun _ => true) j l).getD []) ∧ Below w.heap.size w w' := by
 intro j
 induction j with
 | zero =>
   intro l Al cl w lo hlm h hO hlo
   have heq : ((l.length : Int) == (n : Int)) = true := by simp; omega
   have heq2 : (l.length = n) = True := by simp; omega
   have HO := Lib.hid hO
   have HS : Hid (seaG m (ptB r m) (fun _ => true) 0 l = some l) := rfl
   clear hO hlm
   obtain ⟨W, hW⟩ : ∃ W : World, W = (w.alloc (Obj.cells #[Value.int IntKind.i64 m, Value.slice A m c] 26)) := ⟨_, rfl⟩
   have HB : Hid (From w W) := by rw [hW]; exact From.alloc _ _
   have HG : Hid (GBox W w.heap.size A m c r) := by rw [hW]; exact h.box
   have HW := Lib.hid hW
   clear hW h
   have e0 := HG.out.c0
   have e1 := HG.out.c1
   replace HO := Lib.hid (HO.out.keep HB.out.below)
   go_enter Tryz.func188, Tryz.ntmps188
   go_wp2_with fail
   rw [← HW.out]
   go_wp2
   go_ret2
   exact ⟨_, _, by rw [HS.out]; rfl, by rw [HS.out]; exact HO.out, HB.out.below⟩
 | succ j ih =>
   intro l Al cl w lo hlm h hO hlo
   have IH := Lib.hid ih
   have hne : ((l.length : Int) == (n : Int)) = false := by simp; omega
   have hne2 : (l.length = n) = False := by simp; omega
   have hm7 := h.vg.n7
   have Hlm := Lib.hid hlm
   have hl7 : l.length ≤ 6 := by omega
   have HO := Lib.hid hO
   clear ih hO hlm
   obtain ⟨W, hW⟩ : ∃ W : World, W = (w.alloc (Obj.cells #[Value.int IntKind.i64 m, Value.slice A m c] 26)) := ⟨_, rfl⟩
   have HB : Hid (From w W) := by rw [hW]; exact From.alloc _ _
   have HG : Hid (GBox W w.heap.size A m c r) := by rw [hW]; exact h.box
   have HW := Lib.hid hW
   clear hW h
   have e0 := HG.out.c0
   have e1 := HG.out.c1
   replace HO := Lib.hid (HO.out.keep HB.out.below)
   have hz := HB.out.below.size
   have HR0 : Hid (From W W) := From.refl W
   go_enter Tryz.func188, Tryz.ntmps188
   go_wp2_with fail
   rw [← HW.out]
   go_wp2
   go_loopw [10] (fun i wr => ∃ v : Nat, v ≤ m ∧ i = .int .i64 v ∧ Hid (∀ u, u < v → atG m (ptB r m) (fun _ => true) j l u = none) ∧ Hid (From W wr)) (fun i _ => m - (intOf i).toNat)
   case atStart => exact ⟨0, Nat.zero_le _, rfl, (fun u hu => absurd hu (by omega)), HR0⟩
   case round =>
    clear HR0 e0 e1
    obtain ⟨v, hv, rfl, hall, HR⟩ := hrel
    by_cases hvm : v < m
    ·have i1 : (v : Int) < (m : Int) := by omega
     have HBr := Lib.hid (HB.out.up HR.out)
     have HGr := Lib.hid (HG.out.keep HR.out.below)
     have HOr := Lib.hid (HO.out.keep HR.out.below)
     have HLr : Hid (LN wr Al cl l) := HOr.out.ln
     have hzr := HBr.out.below.size
     have e0 := HGr.out.c0
     have e1 := HGr.out.c1
     go_wp2_with (first | (at_builtin; (refine wpList_copyN wr rfl _ _ rfl Al cl l HLr.out (by omega) wr.heap.size rfl rfl rfl ?_; intro A2 c2 w2 hO2 hb2)) | (at_builtin; (refine wpList_pushN w2 rfl _ _ rfl wr.heap.size w2.heap.size A2 c2 l hO2 hb2.size v rfl 1 w2.heap.size rfl rfl (by omega) ?_; intro g3 c3 w3 hO3 hb3; replace hb3 := hb2.trans hb3; have m0 := (HGr.out.keep hb3).c0; have m1 := (HGr.out.keep hb3).c1; clear hO2 hb2)))
     have HOx : Hid (ON wr.heap.size w3 (some ⟨g3, 0, none⟩) c3 (l ++ [v])) := ⟨by rw [List.length_append]; exact hO3⟩
     have HR3 := Lib.hid (HR.out.keep hb3)
     have HB3 := Lib.hid (HBr.out.keep hb3)
     have HG3 := Lib.hid (HGr.out.keep hb3)
     have HO3 := Lib.hid (HOr.out.keep hb3)
     have hla : (l ++ [v]).length = l.length + 1 := by rw [List.length_append]; rfl
     have Hla := Lib.hid hla
     clear hO3 hb3 HBr HGr HOr HLr HR e0 e1 m0 m1
     have e0 := HG3.out.c0
     have e1 := HG3.out.c1
     have Hok : Hid (okG (ptB r m) l v = ptB r m (l ++ [v])) := okG_pt
     have KU := Lib.hid (IsInducedPath_sv HG3.out.gv HOx.out.ln (by rw [Hla.out]; omega))
     rw [Hla.out] at KU
     go_wp2_with fail
     refine (KU.out).mono ?_
     rintro e w1 ⟨rfl, hb1⟩
     clear e0 e1
     replace HR3 := Lib.hid (HR3.out.keep hb1)
     replace HB3 := Lib.hid (HB3.out.keep hb1)
     replace HO3 := Lib.hid (HO3.out.keep hb1)
     replace HOx := Lib.hid (HOx.out.keep hb1)
     replace HG3 := Lib.hid (HG3.out.keep hb1)
     clear hb1
     have e0 := HG3.out.c0
     have e1 := HG3.out.c1
     cases hu : ptB r m (l ++ [v])
     ·have Hno : Hid (atG m (ptB r m) (fun _ => true) j l v = none) := atG_no (Hok.out.trans hu)
      clear hu
      go_wp2
      go_roundw
      case rel =>
       refine ⟨v + 1, by omega, by go_num, fun u hu => ?_, HR3⟩
       by_cases huv : u < v
       ·exact hall.out u huv
       ·obtain rfl : u = v := by omega
        exact Hno.out
      case measure => (simp [intOf] <;> omega)
     ·have Hyes : Hid (atG m (ptB r m) (fun _ => true) j l v = seaG m (ptB r m) (fun _ => true) j (l ++ [v])) := atG_yes (Hok.out.trans hu)
      have KI := Lib.hid (IH.out (l ++ [v]) (some ⟨g3, 0, none⟩) c3 w1 lo (by rw [Hla.out]; have := Hlm.out; omega) HG3.out.gv (HOx.out.mono (by omega)) (by have := HB3.out.below.size; omega))
      rw [Hla.out] at KI
      obtain ⟨so, hso⟩ : ∃ so, so = seaG m (ptB r m) (fun _ => true) j (l ++ [v]) := ⟨_, rfl⟩
      have Hso := Lib.hid hso
      rw [← hso] at KI Hyes
      clear hu hso HO3
      go_wp2_with fail
      refine (KI.out).mono ?_
      rintro e w2 ⟨A5, c5, rfl, ho5, hb2⟩
      clear e0 e1
      replace HR3 := Lib.hid (HR3.out.keep hb2)
      replace HB3 := Lib.hid (HB3.out.keep hb2)
      replace HG3 := Lib.hid (HG3.out.keep hb2)
      clear hb2
      have e0 := HG3.out.c0
      have e1 := HG3.out.c1
      have HO5 := Lib.hid ho5
      clear ho5 KI
      cases so with
      | none =>
        go_wp2
        go_roundw
        case rel =>
         refine ⟨v + 1, by omega, by go_num, fun u hu => ?_, HR3⟩
         by_cases huv : u < v
         ·exact hall.out u huv
         ·obtain rfl : u = v := by omega
          exact Hyes.out
        case measure => (simp [intOf] <;> omega)
      | some x =>
        have Hs : Hid (seaG m (ptB r m) (fun _ => true) (j + 1) l = some x) := seaG_some hvm Hyes.out hall.out
        go_wp2
        go_ret2
        exact ⟨_, _, by rw [Hs.out]; rfl, by rw [Hs.out]; exact HO5.out, HB3.out.below⟩
    ·have Hn : Hid (seaG m (ptB r m) (fun _ => true) (j + 1) l = none) := seaG_none fun u hu => hall.out u (by omega)
     have i1 : (m : Int) ≤ (v : Int) := by omega
     have HBr := Lib.hid (HB.out.up HR.out)
     have HGr := Lib.hid (HG.out.keep HR.out.below)
     have e0 := HGr.out.c0
     have hzr := HBr.out.below.size
     have HON : Hid (ON wr.heap.size (wr.alloc (Obj.cells #[] 3)) (some ⟨wr.heap.size, 0, none⟩) 0 []) := ON.nil wr
     have HBz := Lib.hid (HBr.out.alloc_ (Obj.cells #[] 3))
     go_wp2
     go_ret2
     exact ⟨_, _, by rw [Hn.out]; rfl, by rw [Hn.out]; exact HON.out.mono (by omega), HBz.out.below⟩
section
variable {A : Option Addr} {m c : Nat} {r : Nat → Nat}
set_option maxRecDepth 100000 in
set_option maxHeartbeats 1600000 in
theorem FindInducedPath_sv {w : World} (h : GV w A m c r) {n : Nat} (hn : 1 ≤ n) (hn7 : n ≤ 7) : Calls Tryz.prog 173 #[.agg #[.int .i64 m, .slice A m c], .int .i64 n] w (lsQ w (ptO r m n)) := by
 have hm7 := h.vg.n7
 obtain ⟨W, hW⟩ : ∃ W : World, W = (w.alloc (Obj.cells #[Value.int IntKind.i64 m, Value.slice A m c] 26)) := ⟨_, rfl⟩
 have HB : Hid (From w W) := by rw [hW]; exact From.alloc _ _
 have HG : Hid (GBox W w.heap.size A m c r) := by rw [hW]; exact h.box
 have HW := Lib.hid hW
 clear hW h
 have e0 := HG.out.c0
 have e1 := HG.out.c1
 by_cases hnm : n ≤ m
 ·have HO : Hid (ptO r m n = seaG m (ptB r m) (fun _ => true) n []) := ptO_yes hnm
  have i1 : (1 : Int) ≤ (n : Int) := by omega
  have i2 : (n : Int) ≤ (m : Int) := by omega
  go_enter Tryz.func173, Tryz.ntmps173
  go_wp2_with fail
  rw [← HW.out]
  refine (IsGraph_sv HG.out.gv).mono ?_
  rintro e w1 ⟨rfl, hb1⟩
  clear HW
  clear e0 e1
  replace HB := Lib.hid (HB.out.keep hb1)
  replace HG := Lib.hid (HG.out.keep hb1)
  clear hb1
  have e0 := HG.out.c0
  have e1 := HG.out.c1
  go_wp2_with fail
  refine (l1In_y w1 i1 i2).mono ?_
  rintro e w2 ⟨rfl, hb2⟩
  clear e0 e1
  replace HB := Lib.hid (HB.out.keep hb2)
  replace HG := Lib.hid (HG.out.keep hb2)
  clear hb2
  have e0 := HG.out.c0
  have e1 := HG.out.c1
  have HZ1 : Hid (w.heap.size ≤ w2.heap.size) := HB.out.below.size
  have HON : Hid (ON w2.heap.size (w2.alloc (Obj.cells #[] 3)) (some ⟨w2.heap.size, 0, none⟩) 0 []) := ON.nil w2
  have HG2 : Hid (GBox (w2.alloc (Obj.cells #[] 3)) w.heap.size A m c r) := HG.out.keep ((Below.refl _ _).alloc (Nat.le_refl _) _)
  have HB2 : Hid (From w (w2.alloc (Obj.cells #[] 3))) := HB.out.alloc_ _
  have KI := Lib.hid (l4_s hn7 n [] (some ⟨w2.heap.size, 0, none⟩) 0 (w2.alloc (Obj.cells #[] 3)) w.heap.size (by simp) HG2.out.gv (HON.out.mono HZ1.out) HB2.out.below.size)
  rw [← HO.out] at KI
  clear HG2 HO
  go_wp2_with fail
  refine KI.out.mono ?_
  rintro e w3 ⟨A5, c5, rfl, ho5, hb5⟩
  have HO5 := Lib.hid ho5
  have HB5 : Hid (From w w3) := HB2.out.keep hb5
  clear ho5 hb5 KI HON HB2 e0 e1
  go_wp2
  go_ret2
  exact ⟨_, _, rfl, HO5.out, HB5.out.below⟩
 ·have HO : Hid (ptO r m n = none) := ptO_no hnm
  have i2 : (m : Int) < (n : Int) := by omega
  go_enter Tryz.func173, Tryz.ntmps173
  go_wp2_with fail
  rw [← HW.out]
  refine (IsGraph_sv HG.out.gv).mono ?_
  rintro e w3 ⟨rfl, hb3⟩
  clear HW
  clear e0 e1
  replace HB := Lib.hid (HB.out.keep hb3)
  replace HG := Lib.hid (HG.out.keep hb3)
  clear hb3
  have e0 := HG.out.c0
  have e1 := HG.out.c1
  go_wp2_with fail
  refine (l1In_z w3 (.inr i2)).mono ?_
  rintro e w4 ⟨rfl, hb4⟩
  clear e0 e1
  replace HB := Lib.hid (HB.out.keep hb4)
  replace HG := Lib.hid (HG.out.keep hb4)
  clear hb4
  have e0 := HG.out.c0
  have e1 := HG.out.c1
  have HZ1 : Hid (w.heap.size ≤ w4.heap.size) := HB.out.below.size
  have HON : Hid (ON w4.heap.size (w4.alloc (Obj.cells #[] 3)) (some ⟨w4.heap.size, 0, none⟩) 0 []) := ON.nil w4
  have HB2 : Hid (From w (w4.alloc (Obj.cells #[] 3))) := HB.out.alloc_ _
  go_wp2
  go_ret2
  rw [HO.out]
  exact ⟨_, _, rfl, HON.out.mono HZ1.out, HB2.out.below⟩
set_option maxHeartbeats 1000000 in
theorem FindPathOfFour_sv {w : World} (h : GV w A m c r) : Calls Tryz.prog 110 #[.agg #[.int .i64 m, .slice A m c]] w (lsQ w (ptO r m 4)) := by
 obtain ⟨W, hW⟩ : ∃ W : World, W = (w.alloc (Obj.cells #[Value.int IntKind.i64 m, Value.slice A m c] 26)) := ⟨_, rfl⟩
 have HB : Hid (From w W) := by rw [hW]; exact From.alloc _ _
 have HG : Hid (GBox W w.heap.size A m c r) := by rw [hW]; exact h.box
 have HW := Lib.hid hW
 clear hW h
 have e0 := HG.out.c0
 have e1 := HG.out.c1
 have KF := Lib.hid (FindInducedPath_sv HG.out.gv (n := 4) (by omega) (by omega))
 have HZ : Hid (w.heap.size ≤ W.heap.size) := HB.out.below.size
 go_enter Tryz.func110, Tryz.ntmps110
 go_wp2_with fail
 rw [← HW.out]
 refine (KF.out).mono ?_
 rintro e w1 ⟨A', c', rfl, ho, hb1⟩
 clear HW
 replace HB := Lib.hid (HB.out.keep hb1)
 clear hb1
 have HO := Lib.hid ho
 clear ho
 go_wp2
 go_ret2
 exact ⟨_, _, rfl, HO.out.mono HZ.out, HB.out.below⟩
end
section
variable (sz : Int) (A : Option Addr) (m c : Nat) (x : Nat → Int) (w : World)
set_option maxRecDepth 100000 in
set_option maxHeartbeats 1600000 in
theorem FindInducedPath_sno (n : Nat) (h : GA w A m c x) (hm : m ≤ 1048576) (hok : okB sz m x = false) :
 Calls Tryz.prog 173 #[.agg #[.int .i64 sz, .slice A m c], .int .i64 n] w (lsQ w none) := by
 obtain ⟨W, hW⟩ : ∃ W : World, W = (w.alloc (Obj.cells #[Value.int IntKind.i64 sz, Value.slice A m c] 26)) := ⟨_, rfl⟩
 have HB : Hid (From w W) := by rw [hW]; exact From.alloc _ _
 have HK := Lib.hid (h.keep HB.out.below)
 have HC : Hid (GC W w.heap.size sz A m c) := by rw [hW]; exact GC.new _ _ _ _ _
 have HW := Lib.hid hW
 have Ho := Lib.hid hok
 clear hW h hok
 go_enter Tryz.func173, Tryz.ntmps173
 have e0 := HC.out.c0
 have e1 := HC.out.c1
 go_wp2_with fail
 rw [← HW.out]
 clear HW
 refine (IsGraph_sany sz A m c x W W.heap.size HK.out.rd (Nat.le_refl _) hm).mono ?_
 rintro e w1 ⟨rfl, hb1⟩
 rw [Ho.out]
 clear e0 e1
 replace HB := Lib.hid (HB.out.keep hb1)
 replace HK := Lib.hid (HK.out.keep hb1)
 replace HC := Lib.hid (HC.out.keep hb1)
 clear hb1
 have e0 := HC.out.c0
 have e1 := HC.out.c1
 have HZ1 : Hid (w.heap.size ≤ w1.heap.size) := HB.out.below.size
 have HON : Hid (ON w1.heap.size (w1.alloc (Obj.cells #[] 3)) (some ⟨w1.heap.size, 0, none⟩) 0 []) := ON.nil w1
 have HB2 : Hid (From w (w1.alloc (Obj.cells #[] 3))) := HB.out.alloc_ _
 go_wp2
 go_ret2
 exact ⟨_, _, rfl, HON.out.mono HZ1.out, HB2.out.below⟩
set_option maxHeartbeats 1000000 in
theorem FindPathOfFour_sno (h : GA w A m c x) (hm : m ≤ 1048576) (hok : okB sz m x = false) :
 Calls Tryz.prog 110 #[.agg #[.int .i64 sz, .slice A m c]] w (lsQ w none) := by
 obtain ⟨W, hW⟩ : ∃ W : World, W = (w.alloc (Obj.cells #[Value.int IntKind.i64 sz, Value.slice A m c] 26)) := ⟨_, rfl⟩
 have HB : Hid (From w W) := by rw [hW]; exact From.alloc _ _
 have HK := Lib.hid (h.keep HB.out.below)
 have HC : Hid (GC W w.heap.size sz A m c) := by rw [hW]; exact GC.new _ _ _ _ _
 have HW := Lib.hid hW
 have KF := Lib.hid (FindInducedPath_sno sz A m c x W 4 HK.out hm hok)
 clear hW h hok
 have HZ : Hid (w.heap.size ≤ W.heap.size) := HB.out.below.size
 go_enter Tryz.func110, Tryz.ntmps110
 have e0 := HC.out.c0
 have e1 := HC.out.c1
 go_wp2_with fail
 rw [← HW.out]
 refine (KF.out).mono ?_
 rintro e w1 ⟨A', c', rfl, ho, hb1⟩
 clear HW
 clear e0 e1
 replace HB := Lib.hid (HB.out.keep hb1)
 replace HK := Lib.hid (HK.out.keep hb1)
 replace HC := Lib.hid (HC.out.keep hb1)
 clear hb1
 have e0 := HC.out.c0
 have e1 := HC.out.c1
 have HO := Lib.hid ho
 clear ho
 go_wp2
 go_ret2
 exact ⟨_, _, rfl, HO.out.mono HZ.out, HB.out.below⟩
end
end Go.Proofs.YtfabbohijhjpcaaGreatDoor

/-
-/
namespace Go.Proofs.YtfabbohijhjpcaaGreatDoor
open Go.RowKit
theorem step_appendG0 (w : World) {ops : Array Oper} {o : Oper} {a : Act} {K : Act → World → Prop} {Q : Exit → Act → World → Prop} {E : Prop} {lo hi B c m c2 : Nat} {A A2 : Option Addr} {x : Nat → Value} {y : Nat → Int} (hgd : o.guard = none) (s z : Operand)
 (ho : o.op = .call { callee := .builtin .append, args := #[s, z], argTypes := #[24, 24] })
 (hs : a.eval s = .slice A 0 c) (h : Own w lo hi 3 1 A 0 c x) (hz : a.eval z = .slice A2 m c2) (hr : Rd w B A2 m c2 y) (hlo : lo ≤ w.heap.size) (hm : m ≤ 1073741824)
 (hK : ∀ A' c' w', Own w' lo w'.heap.size 3 1 A' m c' (fun j => .int .i64 (y j)) → Below lo w w' → w.grownBy w' (Value.slice A 0 c).ownBlock → K (a.put o.dst (.slice A' m c')) w') :
 if Region.wanted o (yielded ops a.tmps) = true then Oper.wp Tryz.prog o a w K Q else E := by
 refine step_appendG w hgd s z ho hs h hz hr hlo (by omega) hm ?_
 intro A' c' w' h1 h2 h3
 rw [Nat.zero_add] at h1 ⊢
 exact hK A' c' w' (h1.congr (fun j _ => by unfold thenI; simp)) h2 h3
end Go.Proofs.YtfabbohijhjpcaaGreatDoor
