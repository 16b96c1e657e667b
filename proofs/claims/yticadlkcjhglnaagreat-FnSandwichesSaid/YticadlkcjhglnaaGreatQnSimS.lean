/-
  Several texts in one.
-/
import Derived.Test.YticadlkcjhglnaaGreatQnSimP
import Derived.Test.YticadlkcjhglnaaGreatQnWgtS
import Derived.Test.YticadlkcjhglnaaGreatQnGC
import Derived.Test.YticadlkcjhglnaaGreatQnListS
/-
-/
namespace Go.Proofs.YticadlkcjhglnaaGreat
open Go.RowKit
set_option maxRecDepth 100000 in
set_option maxHeartbeats 6400000 in
theorem l12_s {A : Option Addr} {m c : Nat} {r : Nat → Nat} : ∀ (j : Nat) (l : List Nat) (Al : Option Addr) (cl : Nat) (w : World) (lo : Nat), l.length + j = m → (∀ v ∈ l, v < m) → GV w A m c r → ON lo w Al cl l → lo ≤ w.heap.size →
 Calls Tryz.prog 152 #[.agg #[.int .i64 m, .slice A m c], .slice Al l.length cl] w fun e w' => ∃ A' c', e = .returned (.tuple #[.slice A' ((seaG m (umB r) (fun _ => true) j l).getD []).length c', .bool (seaG m (umB r) (fun _ => true) j l).isSome]) ∧ ON lo w' A' c' ((seaG m (umB r) (fun _ => true) j l).getD []) ∧ Below w.heap.size w w' := by
 intro j
 induction j with
 | zero =>
   intro l Al cl w lo hlm hlt h hO hlo
   have heq : ((l.length : Int) == (m : Int)) = true := by simp; omega
   have heq2 : (l.length = m) = True := by simp; omega
   have HO := Lib.hid hO
   have HS : Hid (seaG m (umB r) (fun _ => true) 0 l = some l) := rfl
   clear hO hlm hlt
   obtain ⟨W, hW⟩ : ∃ W : World, W = (w.alloc (Obj.cells #[Value.int IntKind.i64 m, Value.slice A m c] 26)) := ⟨_, rfl⟩
   have HB : Hid (From w W) := by rw [hW]; exact From.alloc _ _
   have HG : Hid (GBox W w.heap.size A m c r) := by rw [hW]; exact h.box
   have HW := Lib.hid hW
   clear hW h
   have e0 := HG.out.c0
   have e1 := HG.out.c1
   replace HO := Lib.hid (HO.out.keep HB.out.below)
   go_enter Tryz.func152, Tryz.ntmps152
   go_wp2_with fail
   rw [← HW.out]
   go_wp2
   go_ret2
   exact ⟨_, _, by rw [HS.out]; rfl, by rw [HS.out]; exact HO.out, HB.out.below⟩
 | succ j ih =>
   intro l Al cl w lo hlm hlt h hO hlo
   have IH := Lib.hid ih
   have hne : ((l.length : Int) == (m : Int)) = false := by simp; omega
   have hne2 : (l.length = m) = False := by simp; omega
   have hn7 := h.vg.n7
   have Hlm := Lib.hid hlm
   have Hlt := Lib.hid hlt
   have hl7 : l.length ≤ 6 := by omega
   have HO := Lib.hid hO
   clear ih hO hlm hlt
   obtain ⟨W, hW⟩ : ∃ W : World, W = (w.alloc (Obj.cells #[Value.int IntKind.i64 m, Value.slice A m c] 26)) := ⟨_, rfl⟩
   have HB : Hid (From w W) := by rw [hW]; exact From.alloc _ _
   have HG : Hid (GBox W w.heap.size A m c r) := by rw [hW]; exact h.box
   have HW := Lib.hid hW
   clear hW h
   have e0 := HG.out.c0
   have e1 := HG.out.c1
   replace HO := Lib.hid (HO.out.keep HB.out.below)
   have hz := HB.out.below.size
   have HR0 : Hid (From W W) := From.refl W
   go_enter Tryz.func152, Tryz.ntmps152
   go_wp2_with fail
   rw [← HW.out]
   go_wp2
   go_loopw [6] (fun i wr => ∃ v : Nat, v ≤ m ∧ i = .int .i64 v ∧ Hid (∀ u, u < v → atG m (umB r) (fun _ => true) j l u = none) ∧ Hid (From W wr)) (fun i _ => m - (intOf i).toNat)
   case atStart => exact ⟨0, Nat.zero_le _, rfl, (fun u hu => absurd hu (by omega)), HR0⟩
   case round =>
    clear HR0 e0 e1
    obtain ⟨v, hv, rfl, hall, HR⟩ := hrel
    by_cases hvm : v < m
    ·have i1 : (v : Int) < (m : Int) := by omega
     have HBr := Lib.hid (HB.out.up HR.out)
     have HGr := Lib.hid (HG.out.keep HR.out.below)
     have HOr := Lib.hid (HO.out.keep HR.out.below)
     have HLr : Hid (LN wr Al cl l) := HOr.out.ln
     have hzr := HBr.out.below.size
     have e0 := HGr.out.c0
     have e1 := HGr.out.c1
     go_wp2_with (first | (at_builtin; (refine wpList_copyN wr rfl _ _ rfl Al cl l HLr.out (by omega) wr.heap.size rfl rfl rfl ?_; intro A2 c2 w2 hO2 hb2)) | (at_builtin; (refine wpList_pushN w2 rfl _ _ rfl wr.heap.size w2.heap.size A2 c2 l hO2 hb2.size v rfl 1 w2.heap.size rfl rfl (by omega) ?_; intro g3 c3 w3 hO3 hb3; replace hb3 := hb2.trans hb3; clear hO2 hb2)))
     have HOx : Hid (ON wr.heap.size w3 (some ⟨g3, 0, none⟩) c3 (l ++ [v])) := ⟨by rw [List.length_append]; exact hO3⟩
     have HR3 := Lib.hid (HR.out.keep hb3)
     have HB3 := Lib.hid (HBr.out.keep hb3)
     have HG3 := Lib.hid (HGr.out.keep hb3)
     have HO3 := Lib.hid (HOr.out.keep hb3)
     have hla : (l ++ [v]).length = l.length + 1 := by rw [List.length_append]; rfl
     have Hla := Lib.hid hla
     clear hO3 hb3 HBr HGr HOr HLr HR e0 e1
     have e0 := HG3.out.c0
     have e1 := HG3.out.c1
     go_wp2_with fail
     refine (l8Has_s Al l.length cl l v w3 w3.heap.size ⟨rfl, HO3.out.ln.rd⟩ (by omega)).mono ?_
     rintro e w4 ⟨rfl, rfl⟩
     by_cases hvl : v ∈ l
     ·have Hno : Hid (atG m (umB r) (fun _ => true) j l v = none) := atG_no (okG_in hvl)
      rw [decide_eq_true hvl]
      clear hvl
      go_wp2
      go_roundw
      case rel =>
       refine ⟨v + 1, by omega, by go_num, fun u hu => ?_, HR3⟩
       by_cases huv : u < v
       ·exact hall.out u huv
       ·obtain rfl : u = v := by omega
        exact Hno.out
      case measure => (simp [intOf] <;> omega)
     ·have Hok : Hid (okG (umB r) l v = umB r (l ++ [v])) := okG_out hvl
      have Hlt2 : Hid (∀ u ∈ l ++ [v], u < m) := by
       intro u hu
       rw [List.mem_append, List.mem_singleton] at hu
       rcases hu with hu | rfl
       ·exact Hlt.out u hu
       ·exact hvm
      rw [decide_eq_false hvl]
      clear hvl
      have KU := Lib.hid (l12Umbrella_v HG3.out.gv HOx.out.ln Hlt2.out (by rw [Hla.out]; omega))
      rw [Hla.out] at KU
      go_wp2_with fail
      refine (KU.out).mono ?_
      rintro e w1 ⟨rfl, hb1⟩
      clear e0 e1
      replace HR3 := Lib.hid (HR3.out.keep hb1)
      replace HB3 := Lib.hid (HB3.out.keep hb1)
      replace HO3 := Lib.hid (HO3.out.keep hb1)
      replace HOx := Lib.hid (HOx.out.keep hb1)
      replace HG3 := Lib.hid (HG3.out.keep hb1)
      clear hb1
      have e0 := HG3.out.c0
      have e1 := HG3.out.c1
      cases hu : umB r (l ++ [v])
      ·have Hno : Hid (atG m (umB r) (fun _ => true) j l v = none) := atG_no (Hok.out.trans hu)
       clear hu
       go_wp2
       go_roundw
       case rel =>
        refine ⟨v + 1, by omega, by go_num, fun u hu => ?_, HR3⟩
        by_cases huv : u < v
        ·exact hall.out u huv
        ·obtain rfl : u = v := by omega
         exact Hno.out
       case measure => (simp [intOf] <;> omega)
      ·have Hyes : Hid (atG m (umB r) (fun _ => true) j l v = seaG m (umB r) (fun _ => true) j (l ++ [v])) := atG_yes (Hok.out.trans hu)
       have KI := Lib.hid (IH.out (l ++ [v]) (some ⟨g3, 0, none⟩) c3 w1 lo (by rw [Hla.out]; have := Hlm.out; omega) Hlt2.out HG3.out.gv (HOx.out.mono (by omega)) (by have := HB3.out.below.size; omega))
       rw [Hla.out] at KI
       obtain ⟨so, hso⟩ : ∃ so, so = seaG m (umB r) (fun _ => true) j (l ++ [v]) := ⟨_, rfl⟩
       have Hso := Lib.hid hso
       rw [← hso] at KI Hyes
       clear hu hso HO3
       go_wp2_with fail
       refine (KI.out).mono ?_
       rintro e w2 ⟨A5, c5, rfl, ho5, hb2⟩
       clear e0 e1
       replace HR3 := Lib.hid (HR3.out.keep hb2)
       replace HB3 := Lib.hid (HB3.out.keep hb2)
       replace HG3 := Lib.hid (HG3.out.keep hb2)
       clear hb2
       have e0 := HG3.out.c0
       have e1 := HG3.out.c1
       have HO5 := Lib.hid ho5
       clear ho5 KI
       cases so with
       | none =>
         go_wp2
         go_roundw
         case rel =>
          refine ⟨v + 1, by omega, by go_num, fun u hu => ?_, HR3⟩
          by_cases huv : u < v
          ·exact hall.out u huv
          ·obtain rfl : u = v := by omega
           exact Hyes.out
         case measure => (simp [intOf] <;> omega)
       | some x =>
         have Hs : Hid (seaG m (umB r) (fun _ => true) (j + 1) l = some x) := seaG_some hvm Hyes.out hall.out
         go_wp2
         go_ret2
         exact ⟨_, _, by rw [Hs.out]; rfl, by rw [Hs.out]; exact HO5.out, HB3.out.below⟩
    ·have Hn : Hid (seaG m (umB r) (fun _ => true) (j + 1) l = none) := seaG_none fun u hu => hall.out u (by omega)
     have i1 : (m : Int) ≤ (v : Int) := by omega
     have HBr := Lib.hid (HB.out.up HR.out)
     have HGr := Lib.hid (HG.out.keep HR.out.below)
     have e0 := HGr.out.c0
     have hzr := HBr.out.below.size
     have HON : Hid (ON wr.heap.size (wr.alloc (Obj.cells #[] 3)) (some ⟨wr.heap.size, 0, none⟩) 0 []) := ON.nil wr
     have HBz := Lib.hid (HBr.out.alloc_ (Obj.cells #[] 3))
     go_wp2
     go_ret2
     exact ⟨_, _, by rw [Hn.out]; rfl, by rw [Hn.out]; exact HON.out.mono (by omega), HBz.out.below⟩
section
variable {A : Option Addr} {m c : Nat} {r : Nat → Nat}
set_option maxRecDepth 100000 in
set_option maxHeartbeats 1600000 in
theorem UmbrellaOf_sv {w : World} (h : GV w A m c r) : Calls Tryz.prog 103 #[.agg #[.int .i64 m, .slice A m c]] w (lsQ w (umO r m)) := by
 obtain ⟨W, hW⟩ : ∃ W : World, W = (w.alloc (Obj.cells #[Value.int IntKind.i64 m, Value.slice A m c] 26)) := ⟨_, rfl⟩
 have HB : Hid (From w W) := by rw [hW]; exact From.alloc _ _
 have HG : Hid (GBox W w.heap.size A m c r) := by rw [hW]; exact h.box
 have HW := Lib.hid hW
 clear hW h
 have e0 := HG.out.c0
 have e1 := HG.out.c1
 have HZ : Hid (w.heap.size ≤ W.heap.size) := HB.out.below.size
 go_enter Tryz.func103, Tryz.ntmps103
 go_wp2_with fail
 rw [← HW.out]
 refine (IsGraph_sv HG.out.gv).mono ?_
 rintro e w1 ⟨rfl, hb1⟩
 clear HW
 clear e0 e1
 replace HB := Lib.hid (HB.out.keep hb1)
 replace HG := Lib.hid (HG.out.keep hb1)
 clear hb1
 have e0 := HG.out.c0
 have e1 := HG.out.c1
 have HZ1 : Hid (w.heap.size ≤ w1.heap.size) := HB.out.below.size
 have HON : Hid (ON w1.heap.size (w1.alloc (Obj.cells #[] 3)) (some ⟨w1.heap.size, 0, none⟩) 0 []) := ON.nil w1
 have HG2 : Hid (GBox (w1.alloc (Obj.cells #[] 3)) w.heap.size A m c r) := HG.out.keep ((Below.refl _ _).alloc (Nat.le_refl _) _)
 have HB2 : Hid (From w (w1.alloc (Obj.cells #[] 3))) := HB.out.alloc_ _
 have KI := Lib.hid (l12_s m [] (some ⟨w1.heap.size, 0, none⟩) 0 (w1.alloc (Obj.cells #[] 3)) w.heap.size (by simp) (fun v hv => by cases hv) HG2.out.gv (HON.out.mono HZ1.out) HB2.out.below.size)
 have HU : Hid (seaG m (umB r) (fun _ => true) m [] = umO r m) := rfl
 rw [HU.out] at KI
 clear HG2 HU
 go_wp2_with fail
 refine KI.out.mono ?_
 rintro e w2 ⟨A5, c5, rfl, ho5, hb5⟩
 have HO5 := Lib.hid ho5
 have HB5 : Hid (From w w2) := HB2.out.keep hb5
 clear ho5 hb5 KI HON HB2 e0 e1
 go_wp2
 go_ret2
 exact ⟨_, _, rfl, HO5.out, HB5.out.below⟩
end
section
variable (sz : Int) (A : Option Addr) (m c : Nat) (x : Nat → Int) (w : World)
set_option maxRecDepth 100000 in
set_option maxHeartbeats 1600000 in
theorem UmbrellaOf_sno (h : GA w A m c x) (hm : m ≤ 1048576) (hok : okB sz m x = false) :
 Calls Tryz.prog 103 #[.agg #[.int .i64 sz, .slice A m c]] w (lsQ w none) := by
 obtain ⟨W, hW⟩ : ∃ W : World, W = (w.alloc (Obj.cells #[Value.int IntKind.i64 sz, Value.slice A m c] 26)) := ⟨_, rfl⟩
 have HB : Hid (From w W) := by rw [hW]; exact From.alloc _ _
 have HK := Lib.hid (h.keep HB.out.below)
 have HC : Hid (GC W w.heap.size sz A m c) := by rw [hW]; exact GC.new _ _ _ _ _
 have HW := Lib.hid hW
 have Ho := Lib.hid hok
 clear hW h hok
 go_enter Tryz.func103, Tryz.ntmps103
 have e0 := HC.out.c0
 have e1 := HC.out.c1
 go_wp2_with fail
 rw [← HW.out]
 clear HW
 refine (IsGraph_sany sz A m c x W W.heap.size HK.out.rd (Nat.le_refl _) hm).mono ?_
 rintro e w1 ⟨rfl, hb1⟩
 rw [Ho.out]
 clear e0 e1
 replace HB := Lib.hid (HB.out.keep hb1)
 replace HK := Lib.hid (HK.out.keep hb1)
 replace HC := Lib.hid (HC.out.keep hb1)
 clear hb1
 have e0 := HC.out.c0
 have e1 := HC.out.c1
 have HZ1 : Hid (w.heap.size ≤ w1.heap.size) := HB.out.below.size
 have HON : Hid (ON w1.heap.size (w1.alloc (Obj.cells #[] 3)) (some ⟨w1.heap.size, 0, none⟩) 0 []) := ON.nil w1
 have HB2 : Hid (From w (w1.alloc (Obj.cells #[] 3))) := HB.out.alloc_ _
 go_wp2
 go_ret2
 exact ⟨_, _, rfl, HON.out.mono HZ1.out, HB2.out.below⟩
set_option maxRecDepth 100000 in
set_option maxHeartbeats 1600000 in
theorem IsProper_s (h : GA w A m c x) (hm : m ≤ 1048576) :
 Calls Tryz.prog 53 #[.agg #[.int .i64 sz, .slice A m c]] w fun e w' => e = .returned (.bool (ppB sz m x)) ∧ Below w.heap.size w w' := by
 obtain ⟨W, hW⟩ : ∃ W : World, W = (w.alloc (Obj.cells #[Value.int IntKind.i64 sz, Value.slice A m c] 26)) := ⟨_, rfl⟩
 have HB : Hid (From w W) := by rw [hW]; exact From.alloc _ _
 have HK := Lib.hid (h.keep HB.out.below)
 have HC : Hid (GC W w.heap.size sz A m c) := by rw [hW]; exact GC.new _ _ _ _ _
 have HW := Lib.hid hW
 clear hW h
 go_enter Tryz.func53, Tryz.ntmps53
 cases ho : okB sz m x
 ·have Hn : Hid (ppB sz m x = false) := ppB_no ho
  have KF := Lib.hid (UmbrellaOf_sno sz A m c x W HK.out hm ho)
  clear ho
  have e0 := HC.out.c0
  have e1 := HC.out.c1
  go_wp2_with fail
  rw [← HW.out]
  refine (KF.out).mono ?_
  rintro e w1 ⟨A', c', rfl, _, hb1⟩
  clear HW
  clear e0 e1
  replace HB := Lib.hid (HB.out.keep hb1)
  replace HK := Lib.hid (HK.out.keep hb1)
  replace HC := Lib.hid (HC.out.keep hb1)
  clear hb1
  have e0 := HC.out.c0
  have e1 := HC.out.c1
  clear KF
  go_wp2
  go_ret
  exact ⟨ret_bool Hn.out.symm, HB.out.below⟩
 obtain ⟨_, es, _, _⟩ := okB_ok' ho
 subst es
 have Hn : Hid (ppB (m : Int) m x = (umO (rw_ x) m).isSome) := ppB_yes ho
 have HG : Hid (GBox W w.heap.size A m c (rw_ x)) := ⟨HK.out.gv ho, HC.out.c0, HC.out.c1, HC.out.lt⟩
 have KF := Lib.hid (UmbrellaOf_sv HG.out.gv)
 obtain ⟨o, ho2⟩ : ∃ o, o = umO (rw_ x) m := ⟨_, rfl⟩
 rw [← ho2] at Hn KF
 clear ho ho2 HC HK
 cases o
 ·skip
  have e0 := HG.out.c0
  have e1 := HG.out.c1
  go_wp2_with fail
  rw [← HW.out]
  refine (KF.out).mono ?_
  rintro e w2 ⟨A', c', rfl, _, hb2⟩
  clear HW
  clear e0 e1
  replace HB := Lib.hid (HB.out.keep hb2)
  replace HG := Lib.hid (HG.out.keep hb2)
  clear hb2
  have e0 := HG.out.c0
  have e1 := HG.out.c1
  clear KF
  go_wp2
  go_ret
  exact ⟨ret_bool Hn.out.symm, HB.out.below⟩
 ·skip
  have e0 := HG.out.c0
  have e1 := HG.out.c1
  go_wp2_with fail
  rw [← HW.out]
  refine (KF.out).mono ?_
  rintro e w3 ⟨A', c', rfl, _, hb3⟩
  clear HW
  clear e0 e1
  replace HB := Lib.hid (HB.out.keep hb3)
  replace HG := Lib.hid (HG.out.keep hb3)
  clear hb3
  have e0 := HG.out.c0
  have e1 := HG.out.c1
  clear KF
  go_wp2
  go_ret
  exact ⟨ret_bool Hn.out.symm, HB.out.below⟩
end
end Go.Proofs.YticadlkcjhglnaaGreat

/-
-/
namespace Go.Proofs.YticadlkcjhglnaaGreat
open Go.RowKit
theorem l1In_ts {n lo hi : Int} (w : World) (h1 : lo ≤ n) (h2 : n ≤ hi) : Calls Tryz.prog 110 #[.int .i64 n, .int .i64 lo, .int .i64 hi] w fun e w' => e = .returned (.bool true) ∧ Below w.heap.size w w' :=
 (l1In_yes n lo hi w h1 h2).mono fun _ _ ⟨h1, h2⟩ => ⟨h1, h2 ▸ Below.refl _ _⟩
theorem sim_no' {r : Nat → Nat} {s v i k : Nat} {T : List Nat} (hT : T = listN (nN r s v)) (hi : i < T.length) (hk : k < i) (h1 : nN r s (T.getD i 0) &&& nN r s (T.getD k 0) ≠ nN r s (T.getD i 0)) (h2 : nN r s (T.getD i 0) &&& nN r s (T.getD k 0) ≠ nN r s (T.getD k 0)) : simB r v s = false :=
 sim_no hT hi hk fun h => by rcases h with h | h <;> contradiction
theorem nN_read {r : Nat → Nat} {m s u : Nat} (hV : VG m r) (hu : u < m) (hs : s < 128) : ∃ y z nu : Nat, y = r u ∧ IntKind.i64.wrap ((2 : Int) ^ u) = (z : Int) ∧ bits .or .i64 (y : Int) (z : Int) = ((y ||| z : Nat) : Int) ∧ bits .and .i64 ((y ||| z : Nat) : Int) (s : Int) = (nu : Int) ∧ nu = nN r s u ∧ nu < 128 := by
 have hn7 := hV.n7
 have hr := hV.lt128 hu
 have h2u := two_pow_le (n := u) (by omega)
 have hor : r u ||| 2 ^ u < 2 ^ 8 := Nat.or_lt_two_pow (by omega) (by omega)
 refine ⟨r u, 2 ^ u, nN r s u, rfl, ?_, i64_or_nat _ _ (by omega) (by omega), i64_and_nat _ _ (by omega) (by omega), rfl, ?_⟩
 ·rw [pow_shl u (by omega)]; simp
 ·exact Nat.lt_of_le_of_lt Nat.and_le_right hs
set_option maxRecDepth 100000 in
set_option maxHeartbeats 6400000 in
theorem IsSimple_sv {A : Option Addr} {m c : Nat} {r : Nat → Nat} {s v : Nat} {w : World} (h : GV w A m c r) (hs : s < 2 ^ m) (hv : v < m) :
 Calls Tryz.prog 158 #[.agg #[.int .i64 m, .slice A m c], .int .i64 v, .int .i64 s] w fun e w' => e = .returned (.bool (simB r v s)) ∧ Below w.heap.size w w' := by
 have hn7 := h.vg.n7
 have h128 := two_pow_le hn7
 have HV := Lib.hid h.vg
 obtain ⟨b0, o0, rfl⟩ := h.addr
 obtain ⟨W, hW⟩ : ∃ W : World, W = (w.alloc (Obj.cells #[Value.int IntKind.i64 m, Value.slice (some ⟨b0, o0, none⟩) m c] 26)) := ⟨_, rfl⟩
 have HB : Hid (From w W) := by rw [hW]; exact From.alloc _ _
 have HG : Hid (GBox W w.heap.size (some ⟨b0, o0, none⟩) m c r) := by rw [hW]; exact h.box
 have HW := Lib.hid hW
 clear hW h
 have e0 := HG.out.c0
 have e1 := HG.out.c1
 go_enter Tryz.func158, Tryz.ntmps158
 go_wp2_with fail
 rw [← HW.out]
 refine (IsSet_sv HG.out.gv hs).mono ?_
 rintro e w1 ⟨rfl, hb1⟩
 clear HW
 clear e0 e1
 replace HB := Lib.hid (HB.out.keep hb1)
 replace HG := Lib.hid (HG.out.keep hb1)
 clear hb1
 have e0 := HG.out.c0
 have e1 := HG.out.c1
 have s1 : wrap64 ((m : Int) - 1) = (m : Int) - 1 := Go.IntWalk.wrap64_in _ (by omega)
 go_wp2_with fail
 refine (l1In_ts (n := (v : Int)) (lo := 0) (hi := (m : Int) - 1) w1 (by omega) (by omega)).mono ?_
 rintro e w2 ⟨rfl, hb2⟩
 clear e0 e1
 replace HB := Lib.hid (HB.out.keep hb2)
 replace HG := Lib.hid (HG.out.keep hb2)
 clear hb2
 have e0 := HG.out.c0
 have e1 := HG.out.c1
 have E0 : (bits .and .i64 ((s : Int) / 2 ^ v) 1 == 0) = !s.testBit v := by
  have := and_one_i64' (s : Int) v (by omega) (by omega)
  simpa using this
 cases hb : s.testBit v
 ·have Hn : Hid (simB r v s = false) := sim_out hb
  rw [hb] at E0
  clear hb
  go_wp2
  go_ret
  exact ⟨ret_bool Hn.out.symm, HB.out.below⟩
 rw [hb] at E0
 have Hb := Lib.hid hb
 clear hb
 have q0 := HG.out.gv.row hv
 obtain ⟨y, z, t, hy, p1, E1, E2, ht, ht7⟩ := nN_read (s := s) HV.out hv (by omega)
 rw [← hy] at q0
 have i1 : (v : Int) < (m : Int) := by omega
 have KL : Hid (∀ z : World, Below w2.heap.size w2 z → Calls Tryz.prog 95 #[.int .i64 (t : Int)] z fun e w' => ∃ A c, e = .returned (.slice A (listN t).length c) ∧ ON w2.heap.size w' A c (listN t) ∧ Below z.heap.size z w') := fun z hz =>
  (ListOf_sv t ht7 z).mono fun _ _ ⟨A, c, h1, h2, h3⟩ => ⟨A, c, h1, h2.mono hz.size, h3⟩
 have hL7 : (listN t).length ≤ 7 := listN_len t
 have htm : t < 2 ^ m := by rw [ht]; exact nN_lt hs
 have HTm : Hid (∀ j, j < (listN t).length → (listN t).getD j 0 < m) := fun j hj => listN_lt htm hj
 obtain ⟨T, hT⟩ : ∃ T, T = listN t := ⟨_, rfl⟩
 rw [← hT] at KL hL7 HTm
 have HT : Hid (T = listN (nN r s v)) := by rw [← ht]; exact hT
 clear ht hT htm s1 hy
 go_wp2
 have HSC : Hid (∀ z : World, Below w2.heap.size w2 z → (Below w2.heap.size w2 z ∧ z.cell? ⟨w.heap.size, 0, none⟩ = some (.int .i64 m) ∧ z.cell? ⟨w.heap.size, 1, none⟩ = some (.slice (some ⟨b0, o0, none⟩) m c) ∧ z.cell? ⟨b0, o0 + v, none⟩ = some (.int .i64 (y : Int)))) := fun z hz => ⟨hz, up_ hz e0, up_ hz e1, up_ hz q0⟩
 have HZ0 : Hid (Below w2.heap.size w2 w2.drew) := (Below.refl _ _).drew
 have HS1 := Lib.hid (HSC.out _ HZ0.out)
 have KR1 : Hid (∀ z : World, Below w2.heap.size w2 z → _) := fun z hz => KL.out _ hz
 go_region_held3 (fun z => Below w2.heap.size w2 z ∧ z.cell? ⟨w.heap.size, 0, none⟩ = some (.int .i64 m) ∧ z.cell? ⟨w.heap.size, 1, none⟩ = some (.slice (some ⟨b0, o0, none⟩) m c) ∧ z.cell? ⟨b0, o0 + v, none⟩ = some (.int .i64 (y : Int)))
  (first | exact HS1.out | assumption | exact HSC.out _ hz3 | fail)
  (first | (go_at_call 95; ((with_reducible refine (KR1.out _ HZ0.out).mono ?_); rintro e w3 ⟨AL, cL, rfl, hOL, hb3⟩; have hz3 := bl_trans HZ0.out hb3)))
 clear e0 e1
 replace HB := Lib.hid (HB.out.keep hz3)
 replace HG := Lib.hid (HG.out.keep hz3)
 clear hb3 hz3 HSC HZ0 HS1 KR1
 have e0 := HG.out.c0
 have e1 := HG.out.c1
 have HOL : Hid (LN w3 AL cL T) := hOL.ln
 have HR0 : Hid (From w3 w3) := From.refl w3
 clear hOL KL p1 E0 E1 E2 q0 e0 e1
 go_wp2
 go_loopw [8] (fun iv wr => ∃ i : Nat, i ≤ T.length ∧ iv = .int .i64 i ∧ Hid (Sm1 r s T i) ∧ Hid (From w3 wr)) (fun iv _ => T.length - (intOf iv).toNat)
 case atStart => exact ⟨0, Nat.zero_le _, rfl, Sm1.zero, HR0⟩
 case round =>
  clear HR0
  obtain ⟨i, hi, rfl, H1, HR⟩ := hrel
  by_cases hiT : i < T.length
  ·have i1 : (i : Int) < (T.length : Int) := by omega
   go_wp2
   go_loopw [9] (fun kv wr => ∃ k : Nat, k ≤ i ∧ kv = .int .i64 k ∧ Hid (∀ j, j < k → Cm (nN r s (T.getD i 0)) (nN r s (T.getD j 0))) ∧ Hid (From w3 wr)) (fun kv _ => i - (intOf kv).toNat)
   case atStart => exact ⟨0, Nat.zero_le _, rfl, (fun j hj => absurd hj (by omega)), HR⟩
   case round =>
    clear HR
    obtain ⟨k, hk, rfl, H2, HR⟩ := hrel
    by_cases hki : k < i
    ·have i2 : (k : Int) < (i : Int) := by omega
     have i3 : (k : Int) < (T.length : Int) := by omega
     have HBr := Lib.hid (HB.out.up HR.out)
     have HLr := Lib.hid (HOL.out.keep HR.out.below)
     have HGr := Lib.hid (HG.out.keep HR.out.below)
     have e0 := HGr.out.c0
     have e1 := HGr.out.c1
     obtain ⟨bl, ol, rfl⟩ := HLr.out.addr (by omega)
     have p0 := HLr.out.cell hiT
     have p1 := HLr.out.cell (show k < T.length by omega)
     have hu := HTm.out i hiT
     have hu2 := HTm.out k (by omega)
     obtain ⟨u, hu'⟩ : ∃ u, u = T.getD i 0 := ⟨_, rfl⟩
     obtain ⟨u2, hu2'⟩ : ∃ u2, u2 = T.getD k 0 := ⟨_, rfl⟩
     rw [← hu'] at p0 hu
     rw [← hu2'] at p1 hu2
     have q0 := HGr.out.gv.row hu
     have q1 := HGr.out.gv.row hu2
     obtain ⟨y1, z1, a, hy1, P1, E1, E2, ha, ha7⟩ := nN_read (s := s) HV.out hu (by omega)
     obtain ⟨y2, z2, b, hy2, P2, E3, E4, hb, hb7⟩ := nN_read (s := s) HV.out hu2 (by omega)
     rw [← hy1] at q0
     rw [← hy2] at q1
     have i4 : (u : Int) < (m : Int) := by omega
     have i5 : (u2 : Int) < (m : Int) := by omega
     have E5 := i64_and_nat a b (by omega) (by omega)
     have Hp : Hid ((a &&& b = a ∨ a &&& b = b) → Cm (nN r s (T.getD i 0)) (nN r s (T.getD k 0))) := fun h => by rw [← hu', ← hu2', ← ha, ← hb]; exact h
     have Hq : Hid (a &&& b ≠ a → a &&& b ≠ b → simB r v s = false) := fun h1 h2 => sim_no' HT.out hiT hki (by rw [← hu', ← hu2', ← ha, ← hb]; exact h1) (by rw [← hu', ← hu2', ← ha, ← hb]; exact h2)
     obtain ⟨ab, hab⟩ : ∃ ab, ab = a &&& b := ⟨_, rfl⟩
     rw [← hab] at E5 Hp Hq
     clear hu' hu2' hy1 hy2 ha hb hab
     by_cases h1 : ab = a
     ·have H2' : Hid (∀ j, j < k + 1 → Cm (nN r s (T.getD i 0)) (nN r s (T.getD j 0))) := fun j hj => by
       by_cases e : j < k
       ·exact H2.out j e
       ·obtain rfl : j = k := by omega
        exact Hp.out (.inl h1)
      have d1 : ((ab : Int) != (a : Int)) = false := by simp; omega
      clear h1 hu hu2
      go_wp2
      go_quiet (fail)
      go_wp2
      go_quiet (fail)
      go_wp2
      go_roundw
      case rel => exact ⟨k + 1, by omega, by go_num, H2', HR.out.drewN _⟩
      case measure => (simp [intOf] <;> omega)
     ·have d1 : ((ab : Int) != (a : Int)) = true := by simp; omega
      by_cases h2 : ab = b
      ·have H2' : Hid (∀ j, j < k + 1 → Cm (nN r s (T.getD i 0)) (nN r s (T.getD j 0))) := fun j hj => by
        by_cases e : j < k
        ·exact H2.out j e
        ·obtain rfl : j = k := by omega
         exact Hp.out (.inr h2)
       have d2 : ((ab : Int) != (b : Int)) = false := by simp; omega
       clear h1 h2 hu hu2
       go_wp2
       go_quiet (fail)
       go_wp2
       go_quiet (fail)
       go_wp2
       go_roundw
       case rel => exact ⟨k + 1, by omega, by go_num, H2', HR.out.drewN _⟩
       case measure => (simp [intOf] <;> omega)
      ·have d2 : ((ab : Int) != (b : Int)) = true := by simp; omega
       have Hn := Lib.hid (Hq.out h1 h2)
       clear h1 h2 hu hu2
       go_wp2
       go_quiet (fail)
       go_wp2
       go_quiet (fail)
       go_wp2
       go_ret
       exact ⟨ret_bool Hn.out.symm, (HBr.out.drewN _).below⟩
    ·have H1' : Hid (Sm1 r s T (i + 1)) := H1.out.step fun j hj => H2.out j (by omega)
     have i2 : (i : Int) ≤ (k : Int) := by omega
     go_wp2
     go_roundw
     case rel => exact ⟨i + 1, by omega, by go_num, H1', HR⟩
     case measure => (simp [intOf] <;> omega)
  ·have Hy : Hid (simB r v s = true) := sim_yes Hb.out (by rw [← HT.out]; exact fun i' hi' => H1.out i' (by omega))
   have HBr := Lib.hid (HB.out.up HR.out)
   have i1 : (T.length : Int) ≤ (i : Int) := by omega
   go_wp2
   go_ret
   exact ⟨ret_bool Hy.out.symm, HBr.out.below⟩
end Go.Proofs.YticadlkcjhglnaaGreat
