/-
-/
import Derived.Test.YtfabbohijhjpcaaGreatDoorRcHolI
import Derived.Test.YtfabbohijhjpcaaGreatDoorRcHamT
import Derived.Test.YtfabbohijhjpcaaGreatDoorRcBarP
import Derived.Test.YtfabbohijhjpcaaGreatDoorRcFirst
import Derived.Test.YtfabbohijhjpcaaGreatDoorRcListZ
namespace Go.Proofs.YtfabbohijhjpcaaGreatDoor
open Go.RowKit
theorem mayH_dup {r : Nat → Nat} {m n : Nat} {l : List Nat} (h : ¬ l.Nodup) : mayH r m n l = false := by
 unfold mayH
 rw [ptB_dup h]
 cases hh : hoR r m l
 ·simp
 ·exact absurd (hoR_nodup hh) h
theorem okG_mayH {r : Nat → Nat} {m n v : Nat} {l : List Nat} : okG (mayH r m n) l v = mayH r m n (l ++ [v]) := by
 by_cases h : v ∈ l
 ·rw [okG_in h, mayH_dup]
  intro hn
  rw [List.nodup_append] at hn
  exact hn.2.2 v h v (by simp) rfl
 ·exact okG_out h
theorem IsHole_sv {A : Option Addr} {m c : Nat} {r : Nat → Nat} {w : World} (h : GV w A m c r) {Al : Option Addr} {cl : Nat} {l : List Nat} (hl : LN w Al cl l) (hlen : l.length ≤ 7) :
 Calls Tryz.prog 271 #[.agg #[.int .i64 m, .slice A m c], .slice Al l.length cl] w fun e w' => e = .returned (.bool (hoR r m l)) ∧ Below w.heap.size w w' :=
 IsHole_s m A m c _ Al l.length cl _ w h.ga hl.li (by have := h.vg.n7; omega) (by omega)
def seQ (w : World) (lo : Nat) (o : Option (List Nat)) (e : Ending) (w' : World) : Prop :=
 ∃ A' n' c', e = .returned (.tuple #[.slice A' n' c', .bool o.isSome]) ∧ (∀ x, o = some x → n' = x.length ∧ ON lo w' A' c' x) ∧ Below w.heap.size w w'
theorem seQ.none_ {w w' : World} {lo n' c' : Nat} {A' : Option Addr} (hb : Below w.heap.size w w') : seQ w lo none (.returned (.tuple #[.slice A' n' c', .bool false])) w' := ⟨A', n', c', rfl, (fun x h => by cases h), hb⟩
theorem seQ.some_ {w w' : World} {lo c' : Nat} {A' : Option Addr} {x : List Nat} (ho : ON lo w' A' c' x) (hb : Below w.heap.size w w') : seQ w lo (some x) (.returned (.tuple #[.slice A' x.length c', .bool true])) w' := ⟨A', x.length, c', rfl, (fun y h => by obtain rfl := Option.some.inj h; exact ⟨rfl, ho⟩), hb⟩
set_option maxRecDepth 100000 in
set_option maxHeartbeats 6400000 in
theorem l4h_s {A : Option Addr} {m c n : Nat} {r : Nat → Nat} (hn7 : n ≤ 7) : ∀ (j : Nat) (l : List Nat) (Al : Option Addr) (cl : Nat) (w : World) (lo : Nat), l.length + j = n → GV w A m c r → ON lo w Al cl l → lo ≤ w.heap.size →
 Calls Tryz.prog 188 #[.agg #[.int .i64 m, .slice A m c], .slice Al l.length cl, .int .i64 n, .bool true] w (seQ w lo (seaG m (mayH r m n) (hoR r m) j l)) := by
 intro j
 induction j with
 | zero =>
   intro l Al cl w lo hlm h hO hlo
   have heq : ((l.length : Int) == (n : Int)) = true := by simp; omega
   have heq2 : (l.length = n) = True := by simp; omega
   have hl7 : l.length ≤ 7 := by omega
   have HO := Lib.hid hO
   have HS : Hid (seaG m (mayH r m n) (hoR r m) 0 l = if hoR r m l = true then some l else none) := by show _ = _; unfold seaG; rfl
   clear hO hlm
   obtain ⟨W, hW⟩ : ∃ W : World, W = (w.alloc (Obj.cells #[Value.int IntKind.i64 m, Value.slice A m c] 26)) := ⟨_, rfl⟩
   have HB : Hid (From w W) := by rw [hW]; exact From.alloc _ _
   have HG : Hid (GBox W w.heap.size A m c r) := by rw [hW]; exact h.box
   have HW := Lib.hid hW
   clear hW h
   have e0 := HG.out.c0
   have e1 := HG.out.c1
   replace HO := Lib.hid (HO.out.keep HB.out.below)
   have KH := Lib.hid (IsHole_sv HG.out.gv HO.out.ln hl7)
   cases hh : hoR r m l
   ·rw [hh] at KH HS
    clear hh
    go_enter Tryz.func188, Tryz.ntmps188
    go_wp2_with fail
    rw [← HW.out]
    refine (KH.out).mono ?_
    rintro e w1 ⟨rfl, hb1⟩
    clear HW
    clear e0 e1
    replace HB := Lib.hid (HB.out.keep hb1)
    replace HO := Lib.hid (HO.out.keep hb1)
    replace HG := Lib.hid (HG.out.keep hb1)
    clear hb1
    have e0 := HG.out.c0
    have e1 := HG.out.c1
    go_wp2
    go_ret2
    rw [HS.out]
    exact seQ.none_ HB.out.below
   ·rw [hh] at KH HS
    clear hh
    go_enter Tryz.func188, Tryz.ntmps188
    go_wp2_with fail
    rw [← HW.out]
    refine (KH.out).mono ?_
    rintro e w2 ⟨rfl, hb2⟩
    clear HW
    clear e0 e1
    replace HB := Lib.hid (HB.out.keep hb2)
    replace HO := Lib.hid (HO.out.keep hb2)
    replace HG := Lib.hid (HG.out.keep hb2)
    clear hb2
    have e0 := HG.out.c0
    have e1 := HG.out.c1
    go_wp2
    go_ret2
    rw [HS.out]
    exact seQ.some_ HO.out HB.out.below
 | succ j ih =>
   intro l Al cl w lo hlm h hO hlo
   have IH := Lib.hid ih
   have hne : ((l.length : Int) == (n : Int)) = false := by simp; omega
   have hne2 : (l.length = n) = False := by simp; omega
   have hm7 := h.vg.n7
   have Hlm := Lib.hid hlm
   have hl7 : l.length ≤ 6 := by omega
   have HO := Lib.hid hO
   clear ih hO hlm
   obtain ⟨W, hW⟩ : ∃ W : World, W = (w.alloc (Obj.cells #[Value.int IntKind.i64 m, Value.slice A m c] 26)) := ⟨_, rfl⟩
   have HB : Hid (From w W) := by rw [hW]; exact From.alloc _ _
   have HG : Hid (GBox W w.heap.size A m c r) := by rw [hW]; exact h.box
   have HW := Lib.hid hW
   clear hW h
   have e0 := HG.out.c0
   have e1 := HG.out.c1
   replace HO := Lib.hid (HO.out.keep HB.out.below)
   have hz := HB.out.below.size
   have HR0 : Hid (From W W) := From.refl W
   go_enter Tryz.func188, Tryz.ntmps188
   go_wp2_with fail
   rw [← HW.out]
   go_wp2
   go_loopw [10] (fun i wr => ∃ v : Nat, v ≤ m ∧ i = .int .i64 v ∧ Hid (∀ u, u < v → atG m (mayH r m n) (hoR r m) j l u = none) ∧ Hid (From W wr)) (fun i _ => m - (intOf i).toNat)
   case atStart => exact ⟨0, Nat.zero_le _, rfl, (fun u hu => absurd hu (by omega)), HR0⟩
   case round =>
    clear HR0 e0 e1
    obtain ⟨v, hv, rfl, hall, HR⟩ := hrel
    by_cases hvm : v < m
    ·have i1 : (v : Int) < (m : Int) := by omega
     have HBr := Lib.hid (HB.out.up HR.out)
     have HGr := Lib.hid (HG.out.keep HR.out.below)
     have HOr := Lib.hid (HO.out.keep HR.out.below)
     have HLr : Hid (LN wr Al cl l) := HOr.out.ln
     have hzr := HBr.out.below.size
     have e0 := HGr.out.c0
     have e1 := HGr.out.c1
     go_wp2_with (first | (at_builtin; (refine wpList_copyN wr rfl _ _ rfl Al cl l HLr.out (by omega) wr.heap.size rfl rfl rfl ?_; intro A2 c2 w2 hO2 hb2)) | (at_builtin; (refine wpList_pushN w2 rfl _ _ rfl wr.heap.size w2.heap.size A2 c2 l hO2 hb2.size v rfl 1 w2.heap.size rfl rfl (by omega) ?_; intro g3 c3 wp hO3 hb3; replace hb3 := hb2.trans hb3; have m0 := (HGr.out.keep hb3).c0; have m1 := (HGr.out.keep hb3).c1; clear hO2 hb2)))
     have HOx : Hid (ON wr.heap.size wp (some ⟨g3, 0, none⟩) c3 (l ++ [v])) := ⟨by rw [List.length_append]; exact hO3⟩
     have HR3 := Lib.hid (HR.out.keep hb3)
     have HB3 := Lib.hid (HBr.out.keep hb3)
     have HG3 := Lib.hid (HGr.out.keep hb3)
     have hla : (l ++ [v]).length = l.length + 1 := by rw [List.length_append]; rfl
     have Hla := Lib.hid hla
     have hlx : (l ++ [v]).length ≤ 7 := by omega
     have KU := Lib.hid (IsInducedPath_sv HG3.out.gv HOx.out.ln hlx)
     rw [Hla.out] at KU
     clear hO3 hb3 HBr HGr HOr HLr HR e0 e1 m0 m1 hla
     have e0 := HG3.out.c0
     have e1 := HG3.out.c1
     have Hok : Hid (okG (mayH r m n) l v = mayH r m n (l ++ [v])) := okG_mayH
     have Hdef : Hid (mayH r m n (l ++ [v]) = (ptB r m (l ++ [v]) || (decide (l.length + 1 = n) && hoR r m (l ++ [v])))) := by show _ = _; unfold mayH; rw [Hla.out]
     go_wp2_with fail
     refine (KU.out).mono ?_
     rintro e w3 ⟨rfl, hb3⟩
     clear e0 e1
     replace HR3 := Lib.hid (HR3.out.keep hb3)
     replace HB3 := Lib.hid (HB3.out.keep hb3)
     replace HOx := Lib.hid (HOx.out.keep hb3)
     replace HG3 := Lib.hid (HG3.out.keep hb3)
     clear hb3
     have e0 := HG3.out.c0
     have e1 := HG3.out.c1
     cases hu : ptB r m (l ++ [v])
     ·by_cases hj : l.length + 1 = n
      ·have heq : (((l.length : Int) + 1) == (n : Int)) = true := by simp; omega
       have heq2 : (((l.length + 1 : Nat) : Int) == (n : Int)) = true := by simp; omega
       have heq3 : (l.length + 1 = n) = True := by simp [hj]
       have KH := Lib.hid (IsHole_sv HG3.out.gv HOx.out.ln (by rw [Hla.out]; omega))
       rw [Hla.out] at KH
       rw [hu, decide_eq_true hj] at Hdef
       cases hh : hoR r m (l ++ [v])
       ·rw [hh] at KH Hdef
        have Hno : Hid (atG m (mayH r m n) (hoR r m) j l v = none) := atG_no (Hok.out.trans Hdef.out)
        clear hh hu hj
        go_wp2_with fail
        refine (KH.out).mono ?_
        rintro e w4 ⟨rfl, hb4⟩
        clear e0 e1
        replace HR3 := Lib.hid (HR3.out.keep hb4)
        replace HB3 := Lib.hid (HB3.out.keep hb4)
        replace HOx := Lib.hid (HOx.out.keep hb4)
        replace HG3 := Lib.hid (HG3.out.keep hb4)
        clear hb4
        have e0 := HG3.out.c0
        have e1 := HG3.out.c1
        go_wp2
        go_roundw
        case rel =>
         refine ⟨v + 1, by omega, by go_num, fun u hu => ?_, HR3⟩
         by_cases huv : u < v
         ·exact hall.out u huv
         ·obtain rfl : u = v := by omega
          exact Hno.out
        case measure => (simp [intOf] <;> omega)
       ·rw [hh] at KH Hdef
        have Hm : Hid (mayH r m n (l ++ [v]) = true) := Hdef.out
        clear hh hu hj
        go_wp2_with fail
        refine (KH.out).mono ?_
        rintro e w5 ⟨rfl, hb5⟩
        clear e0 e1
        replace HR3 := Lib.hid (HR3.out.keep hb5)
        replace HB3 := Lib.hid (HB3.out.keep hb5)
        replace HOx := Lib.hid (HOx.out.keep hb5)
        replace HG3 := Lib.hid (HG3.out.keep hb5)
        clear hb5
        have e0 := HG3.out.c0
        have e1 := HG3.out.c1
        have Hyes : Hid (atG m (mayH r m n) (hoR r m) j l v = seaG m (mayH r m n) (hoR r m) j (l ++ [v])) := atG_yes (Hok.out.trans Hm.out)
        have KI : Hid (Calls Tryz.prog 188 #[.agg #[.int .i64 m, .slice A m c], .slice (some ⟨g3, 0, none⟩) (l.length + 1) c3, .int .i64 n, .bool true] w5 (seQ w5 lo (seaG m (mayH r m n) (hoR r m) j (l ++ [v])))) := by
         have hk := IH.out (l ++ [v]) (some ⟨g3, 0, none⟩) c3 w5 lo (by rw [Hla.out]; have := Hlm.out; omega) HG3.out.gv (HOx.out.mono (by omega)) (by have := HB3.out.below.size; omega)
         rw [Hla.out] at hk
         exact hk
        obtain ⟨so, hso⟩ : ∃ so, so = seaG m (mayH r m n) (hoR r m) j (l ++ [v]) := ⟨_, rfl⟩
        rw [← hso] at KI Hyes
        clear hso
        go_wp2_with fail
        refine (KI.out).mono ?_
        rintro e w6 ⟨A5, n5, c5, rfl, hx5, hb6⟩
        clear e0 e1
        replace HR3 := Lib.hid (HR3.out.keep hb6)
        replace HB3 := Lib.hid (HB3.out.keep hb6)
        replace HG3 := Lib.hid (HG3.out.keep hb6)
        clear hb6
        have e0 := HG3.out.c0
        have e1 := HG3.out.c1
        clear KI
        cases so with
        | none =>
          clear hx5
          go_wp2
          go_roundw
          case rel =>
           refine ⟨v + 1, by omega, by go_num, fun u hu => ?_, HR3⟩
           by_cases huv : u < v
           ·exact hall.out u huv
           ·obtain rfl : u = v := by omega
            exact Hyes.out
          case measure => (simp [intOf] <;> omega)
        | some x =>
          obtain ⟨rfl, ho5⟩ := hx5 x rfl
          have HO5 := Lib.hid ho5
          have Hs : Hid (seaG m (mayH r m n) (hoR r m) (j + 1) l = some x) := seaG_some hvm Hyes.out hall.out
          clear ho5 hx5
          go_wp2
          go_ret2
          rw [Hs.out]
          exact seQ.some_ HO5.out HB3.out.below
      ·have heq : (((l.length : Int) + 1) == (n : Int)) = false := by simp; omega
       have heq2 : (((l.length + 1 : Nat) : Int) == (n : Int)) = false := by simp; omega
       have heq3 : (l.length + 1 = n) = False := by simp [hj]
       have Hno : Hid (atG m (mayH r m n) (hoR r m) j l v = none) := atG_no (Hok.out.trans (Hdef.out.trans (by rw [hu, decide_eq_false hj]; rfl)))
       clear hu hj
       go_wp2
       go_roundw
       case rel =>
        refine ⟨v + 1, by omega, by go_num, fun u hu => ?_, HR3⟩
        by_cases huv : u < v
        ·exact hall.out u huv
        ·obtain rfl : u = v := by omega
         exact Hno.out
       case measure => (simp [intOf] <;> omega)
     ·have Hm : Hid (mayH r m n (l ++ [v]) = true) := Hdef.out.trans (by rw [hu]; rfl)
      clear hu
      have Hyes : Hid (atG m (mayH r m n) (hoR r m) j l v = seaG m (mayH r m n) (hoR r m) j (l ++ [v])) := atG_yes (Hok.out.trans Hm.out)
      have KI : Hid (Calls Tryz.prog 188 #[.agg #[.int .i64 m, .slice A m c], .slice (some ⟨g3, 0, none⟩) (l.length + 1) c3, .int .i64 n, .bool true] w3 (seQ w3 lo (seaG m (mayH r m n) (hoR r m) j (l ++ [v])))) := by
       have hk := IH.out (l ++ [v]) (some ⟨g3, 0, none⟩) c3 w3 lo (by rw [Hla.out]; have := Hlm.out; omega) HG3.out.gv (HOx.out.mono (by omega)) (by have := HB3.out.below.size; omega)
       rw [Hla.out] at hk
       exact hk
      obtain ⟨so, hso⟩ : ∃ so, so = seaG m (mayH r m n) (hoR r m) j (l ++ [v]) := ⟨_, rfl⟩
      rw [← hso] at KI Hyes
      clear hso
      go_wp2_with fail
      refine (KI.out).mono ?_
      rintro e w7 ⟨A5, n5, c5, rfl, hx5, hb7⟩
      clear e0 e1
      replace HR3 := Lib.hid (HR3.out.keep hb7)
      replace HB3 := Lib.hid (HB3.out.keep hb7)
      replace HG3 := Lib.hid (HG3.out.keep hb7)
      clear hb7
      have e0 := HG3.out.c0
      have e1 := HG3.out.c1
      clear KI
      cases so with
      | none =>
        clear hx5
        go_wp2
        go_roundw
        case rel =>
         refine ⟨v + 1, by omega, by go_num, fun u hu => ?_, HR3⟩
         by_cases huv : u < v
         ·exact hall.out u huv
         ·obtain rfl : u = v := by omega
          exact Hyes.out
        case measure => (simp [intOf] <;> omega)
      | some x =>
        obtain ⟨rfl, ho5⟩ := hx5 x rfl
        have HO5 := Lib.hid ho5
        have Hs : Hid (seaG m (mayH r m n) (hoR r m) (j + 1) l = some x) := seaG_some hvm Hyes.out hall.out
        clear ho5 hx5
        go_wp2
        go_ret2
        rw [Hs.out]
        exact seQ.some_ HO5.out HB3.out.below
    ·have Hn : Hid (seaG m (mayH r m n) (hoR r m) (j + 1) l = none) := seaG_none fun u hu => hall.out u (by omega)
     have i1 : (m : Int) ≤ (v : Int) := by omega
     have HBr := Lib.hid (HB.out.up HR.out)
     have HGr := Lib.hid (HG.out.keep HR.out.below)
     have e0 := HGr.out.c0
     have hzr := HBr.out.below.size
     have HBz := Lib.hid (HBr.out.alloc_ (Obj.cells #[] 3))
     go_wp2
     go_ret2
     rw [Hn.out]
     exact seQ.none_ HBz.out.below
set_option maxRecDepth 100000 in
set_option maxHeartbeats 3200000 in
theorem FindHole_sv {A : Option Addr} {m c : Nat} {r : Nat → Nat} {w : World} (h : GV w A m c r) : Calls Tryz.prog 124 #[.agg #[.int .i64 m, .slice A m c]] w (lsQ w (holeO r m)) := by
 have hm7 := h.vg.n7
 obtain ⟨W, hW⟩ : ∃ W : World, W = (w.alloc (Obj.cells #[Value.int IntKind.i64 m, Value.slice A m c] 26)) := ⟨_, rfl⟩
 have HB : Hid (From w W) := by rw [hW]; exact From.alloc _ _
 have HG : Hid (GBox W w.heap.size A m c r) := by rw [hW]; exact h.box
 have HW := Lib.hid hW
 clear hW h
 have e0 := HG.out.c0
 have e1 := HG.out.c1
 have HR0 : Hid (From W W) := From.refl W
 go_enter Tryz.func124, Tryz.ntmps124
 go_wp2_with fail
 rw [← HW.out]
 clear HW
 go_wp2
 go_loopw [4] (fun i wr => ∃ n : Nat, 4 ≤ n ∧ n ≤ 9 ∧ Hid ((n - 4) % 1 = 0) ∧ i = .int .i64 n ∧ Hid (∀ u, u < n → latO 4 1 (hoF r m) u = none) ∧ Hid (From W wr)) (fun i _ => 20 - (intOf i).toNat)
 case atStart => exact ⟨4, by omega, by omega, rfl, rfl, (fun u hu => latO_low hu), HR0⟩
 case round =>
  clear HR0 e0 e1
  obtain ⟨n, hn4, hn9, Hst, rfl, hall, HR⟩ := hrel
  have HB1 := Lib.hid (HB.out.up HR.out)
  have HG1 := Lib.hid (HG.out.keep HR.out.below)
  have e0 := HG1.out.c0
  have e1 := HG1.out.c1
  by_cases hnm : n ≤ m
  ·have i1 : (n : Int) ≤ (m : Int) := by omega
   go_wp2_with fail
   refine (IsGraph_sv HG1.out.gv).mono ?_
   rintro e w1 ⟨rfl, hb1⟩
   clear e0 e1
   replace HR := Lib.hid (HR.out.keep hb1)
   replace HB1 := Lib.hid (HB1.out.keep hb1)
   replace HG1 := Lib.hid (HG1.out.keep hb1)
   clear hb1
   have e0 := HG1.out.c0
   have e1 := HG1.out.c1
   have HZ1 : Hid (w.heap.size ≤ w1.heap.size) := HB1.out.below.size
   have HON : Hid (ON w1.heap.size (w1.alloc (Obj.cells #[] 3)) (some ⟨w1.heap.size, 0, none⟩) 0 []) := ON.nil w1
   have HG2 : Hid (GBox (w1.alloc (Obj.cells #[] 3)) w.heap.size A m c r) := HG1.out.keep ((Below.refl _ _).alloc (Nat.le_refl _) _)
   have HB2 : Hid (From w (w1.alloc (Obj.cells #[] 3))) := HB1.out.alloc_ _
   have HR2 : Hid (From W (w1.alloc (Obj.cells #[] 3))) := HR.out.alloc_ _
   have KI := Lib.hid (l4h_s (n := n) (by omega) n [] (some ⟨w1.heap.size, 0, none⟩) 0 (w1.alloc (Obj.cells #[] 3)) w.heap.size (by simp) HG2.out.gv (HON.out.mono HZ1.out) HB2.out.below.size)
   rw [hoF_s] at KI
   have Hat : Hid (latO 4 1 (hoF r m) n = hoF r m n) := latO_at hn4 Hst.out
   obtain ⟨so, hso⟩ : ∃ so, so = hoF r m n := ⟨_, rfl⟩
   rw [← hso] at KI Hat
   have HG3 := Lib.hid (HG2.out)
   clear hso
   go_wp2_with fail
   refine KI.out.mono ?_
   rintro e w3 ⟨A5, n5, c5, rfl, hx5, hb5⟩
   have HB5 : Hid (From w w3) := HB2.out.keep hb5
   have HR5 : Hid (From W w3) := HR2.out.keep hb5
   clear hb5 KI HON HB2 HR2 HG2 HG3 e0 e1
   cases so with
   | none =>
     have Hn : Hid (∀ u, u < n + 1 → latO 4 1 (hoF r m) u = none) := fun u hu => by
      by_cases huv : u < n
      ·exact hall.out u huv
      ·by_cases hun : u = n
       ·subst hun; exact Hat.out
       ·exact latO_off (by have := Hst.out; omega)
     have Hst2 : Hid ((n + 1 - 4) % 1 = 0) := by show _ = _; have := Hst.out; omega
     clear hx5
     go_wp2
     go_roundw
     case rel => exact ⟨n + 1, by omega, by omega, Hst2, by go_num, Hn, HR5⟩
     case measure => (simp [intOf] <;> omega)
   | some x =>
     obtain ⟨rfl, ho5⟩ := hx5 x rfl
     have HO5 := Lib.hid ho5
     have Hs : Hid (holeO r m = some x) := ltO_some hnm Hat.out hall.out
     clear ho5 hx5
     go_wp2
     go_ret2
     rw [Hs.out]
     exact lsQ.yes HO5.out HB5.out.below
  ·have Hs : Hid (holeO r m = none) := ltO_none fun u hu => hall.out u (by omega)
   have i1 : (m : Int) < (n : Int) := by omega
   have HON : Hid (ON wr.heap.size (wr.alloc (Obj.cells #[] 3)) (some ⟨wr.heap.size, 0, none⟩) 0 []) := ON.nil wr
   have HBz := Lib.hid (HB1.out.alloc_ (Obj.cells #[] 3))
   go_wp2
   go_ret2
   rw [Hs.out]
   exact ⟨_, _, rfl, HON.out.mono HB1.out.below.size, HBz.out.below⟩
set_option maxRecDepth 100000 in
set_option maxHeartbeats 3200000 in
theorem FindHole_sno (sz : Int) (A : Option Addr) (m c : Nat) (x : Nat → Int) (w : World) (h : GA w A m c x) (hm : m ≤ 1048576) (hok : okB sz m x = false) :
 Calls Tryz.prog 124 #[.agg #[.int .i64 sz, .slice A m c]] w (lsQ w none) := by
 obtain ⟨W, hW⟩ : ∃ W : World, W = (w.alloc (Obj.cells #[Value.int IntKind.i64 sz, Value.slice A m c] 26)) := ⟨_, rfl⟩
 have HB : Hid (From w W) := by rw [hW]; exact From.alloc _ _
 have HK := Lib.hid (h.keep HB.out.below)
 have HC : Hid (GC W w.heap.size sz A m c) := by rw [hW]; exact GC.new _ _ _ _ _
 have HW := Lib.hid hW
 have Ho := Lib.hid hok
 have HR0 : Hid (From W W) := From.refl W
 clear hW h hok
 go_enter Tryz.func124, Tryz.ntmps124
 have e0 := HC.out.c0
 have e1 := HC.out.c1
 go_wp2_with fail
 rw [← HW.out]
 clear HW
 go_wp2
 go_loopw [4] (fun i wr => i = .int .i64 4 ∧ Hid (From W wr)) (fun _ _ => 0)
 case atStart => exact ⟨rfl, HR0⟩
 case round =>
  clear HR0 e0 e1
  obtain ⟨rfl, HR⟩ := hrel
  have HB1 := Lib.hid (HB.out.up HR.out)
  have HK1 := Lib.hid (HK.out.keep HR.out.below)
  have HC1 := Lib.hid (HC.out.keep HR.out.below)
  have e0 := HC1.out.c0
  have e1 := HC1.out.c1
  by_cases hnm : 4 ≤ sz
  ·skip
   go_wp2_with fail
   refine (IsGraph_sany sz A m c x wr wr.heap.size HK1.out.rd (Nat.le_refl _) hm).mono ?_
   rintro e w5 ⟨rfl, hb1⟩
   rw [Ho.out]
   clear e0 e1
   replace HB1 := Lib.hid (HB1.out.keep hb1)
   replace HC1 := Lib.hid (HC1.out.keep hb1)
   clear hb1
   have e0 := HC1.out.c0
   have e1 := HC1.out.c1
   have HON : Hid (ON w5.heap.size (w5.alloc (Obj.cells #[] 3)) (some ⟨w5.heap.size, 0, none⟩) 0 []) := ON.nil w5
   have HBz := Lib.hid (HB1.out.alloc_ (Obj.cells #[] 3))
   go_wp2
   go_ret2
   exact ⟨_, _, rfl, HON.out.mono HB1.out.below.size, HBz.out.below⟩
  ·have i1 : sz < 4 := by omega
   have HON : Hid (ON wr.heap.size (wr.alloc (Obj.cells #[] 3)) (some ⟨wr.heap.size, 0, none⟩) 0 []) := ON.nil wr
   have HBz := Lib.hid (HB1.out.alloc_ (Obj.cells #[] 3))
   go_wp2
   go_ret2
   exact ⟨_, _, rfl, HON.out.mono HB1.out.below.size, HBz.out.below⟩
set_option maxRecDepth 100000 in
set_option maxHeartbeats 3200000 in
theorem FindOddHole_sv {A : Option Addr} {m c : Nat} {r : Nat → Nat} {w : World} (h : GV w A m c r) : Calls Tryz.prog 195 #[.agg #[.int .i64 m, .slice A m c]] w (lsQ w (oddhO r m)) := by
 have hm7 := h.vg.n7
 obtain ⟨W, hW⟩ : ∃ W : World, W = (w.alloc (Obj.cells #[Value.int IntKind.i64 m, Value.slice A m c] 26)) := ⟨_, rfl⟩
 have HB : Hid (From w W) := by rw [hW]; exact From.alloc _ _
 have HG : Hid (GBox W w.heap.size A m c r) := by rw [hW]; exact h.box
 have HW := Lib.hid hW
 clear hW h
 have e0 := HG.out.c0
 have e1 := HG.out.c1
 have HR0 : Hid (From W W) := From.refl W
 go_enter Tryz.func195, Tryz.ntmps195
 go_wp2_with fail
 rw [← HW.out]
 clear HW
 go_wp2
 go_loopw [4] (fun i wr => ∃ n : Nat, 5 ≤ n ∧ n ≤ 9 ∧ Hid ((n - 5) % 2 = 0) ∧ i = .int .i64 n ∧ Hid (∀ u, u < n → latO 5 2 (hoF r m) u = none) ∧ Hid (From W wr)) (fun i _ => 20 - (intOf i).toNat)
 case atStart => exact ⟨5, by omega, by omega, rfl, rfl, (fun u hu => latO_low hu), HR0⟩
 case round =>
  clear HR0 e0 e1
  obtain ⟨n, hn4, hn9, Hst, rfl, hall, HR⟩ := hrel
  have HB1 := Lib.hid (HB.out.up HR.out)
  have HG1 := Lib.hid (HG.out.keep HR.out.below)
  have e0 := HG1.out.c0
  have e1 := HG1.out.c1
  by_cases hnm : n ≤ m
  ·have i1 : (n : Int) ≤ (m : Int) := by omega
   go_wp2_with fail
   refine (IsGraph_sv HG1.out.gv).mono ?_
   rintro e w1 ⟨rfl, hb1⟩
   clear e0 e1
   replace HR := Lib.hid (HR.out.keep hb1)
   replace HB1 := Lib.hid (HB1.out.keep hb1)
   replace HG1 := Lib.hid (HG1.out.keep hb1)
   clear hb1
   have e0 := HG1.out.c0
   have e1 := HG1.out.c1
   have HZ1 : Hid (w.heap.size ≤ w1.heap.size) := HB1.out.below.size
   have HON : Hid (ON w1.heap.size (w1.alloc (Obj.cells #[] 3)) (some ⟨w1.heap.size, 0, none⟩) 0 []) := ON.nil w1
   have HG2 : Hid (GBox (w1.alloc (Obj.cells #[] 3)) w.heap.size A m c r) := HG1.out.keep ((Below.refl _ _).alloc (Nat.le_refl _) _)
   have HB2 : Hid (From w (w1.alloc (Obj.cells #[] 3))) := HB1.out.alloc_ _
   have HR2 : Hid (From W (w1.alloc (Obj.cells #[] 3))) := HR.out.alloc_ _
   have KI := Lib.hid (l4h_s (n := n) (by omega) n [] (some ⟨w1.heap.size, 0, none⟩) 0 (w1.alloc (Obj.cells #[] 3)) w.heap.size (by simp) HG2.out.gv (HON.out.mono HZ1.out) HB2.out.below.size)
   rw [hoF_s] at KI
   have Hat : Hid (latO 5 2 (hoF r m) n = hoF r m n) := latO_at hn4 Hst.out
   obtain ⟨so, hso⟩ : ∃ so, so = hoF r m n := ⟨_, rfl⟩
   rw [← hso] at KI Hat
   have HG3 := Lib.hid (HG2.out)
   clear hso
   go_wp2_with fail
   refine KI.out.mono ?_
   rintro e w3 ⟨A5, n5, c5, rfl, hx5, hb5⟩
   have HB5 : Hid (From w w3) := HB2.out.keep hb5
   have HR5 : Hid (From W w3) := HR2.out.keep hb5
   clear hb5 KI HON HB2 HR2 HG2 HG3 e0 e1
   cases so with
   | none =>
     have Hn : Hid (∀ u, u < n + 2 → latO 5 2 (hoF r m) u = none) := fun u hu => by
      by_cases huv : u < n
      ·exact hall.out u huv
      ·by_cases hun : u = n
       ·subst hun; exact Hat.out
       ·exact latO_off (by have := Hst.out; omega)
     have Hst2 : Hid ((n + 2 - 5) % 2 = 0) := by show _ = _; have := Hst.out; omega
     clear hx5
     go_wp2
     go_roundw
     case rel => exact ⟨n + 2, by omega, by omega, Hst2, by go_num, Hn, HR5⟩
     case measure => (simp [intOf] <;> omega)
   | some x =>
     obtain ⟨rfl, ho5⟩ := hx5 x rfl
     have HO5 := Lib.hid ho5
     have Hs : Hid (oddhO r m = some x) := ltO_some hnm Hat.out hall.out
     clear ho5 hx5
     go_wp2
     go_ret2
     rw [Hs.out]
     exact lsQ.yes HO5.out HB5.out.below
  ·have Hs : Hid (oddhO r m = none) := ltO_none fun u hu => hall.out u (by omega)
   have i1 : (m : Int) < (n : Int) := by omega
   have HON : Hid (ON wr.heap.size (wr.alloc (Obj.cells #[] 3)) (some ⟨wr.heap.size, 0, none⟩) 0 []) := ON.nil wr
   have HBz := Lib.hid (HB1.out.alloc_ (Obj.cells #[] 3))
   go_wp2
   go_ret2
   rw [Hs.out]
   exact ⟨_, _, rfl, HON.out.mono HB1.out.below.size, HBz.out.below⟩
set_option maxRecDepth 100000 in
set_option maxHeartbeats 3200000 in
theorem FindOddHole_sno (sz : Int) (A : Option Addr) (m c : Nat) (x : Nat → Int) (w : World) (h : GA w A m c x) (hm : m ≤ 1048576) (hok : okB sz m x = false) :
 Calls Tryz.prog 195 #[.agg #[.int .i64 sz, .slice A m c]] w (lsQ w none) := by
 obtain ⟨W, hW⟩ : ∃ W : World, W = (w.alloc (Obj.cells #[Value.int IntKind.i64 sz, Value.slice A m c] 26)) := ⟨_, rfl⟩
 have HB : Hid (From w W) := by rw [hW]; exact From.alloc _ _
 have HK := Lib.hid (h.keep HB.out.below)
 have HC : Hid (GC W w.heap.size sz A m c) := by rw [hW]; exact GC.new _ _ _ _ _
 have HW := Lib.hid hW
 have Ho := Lib.hid hok
 have HR0 : Hid (From W W) := From.refl W
 clear hW h hok
 go_enter Tryz.func195, Tryz.ntmps195
 have e0 := HC.out.c0
 have e1 := HC.out.c1
 go_wp2_with fail
 rw [← HW.out]
 clear HW
 go_wp2
 go_loopw [4] (fun i wr => i = .int .i64 5 ∧ Hid (From W wr)) (fun _ _ => 0)
 case atStart => exact ⟨rfl, HR0⟩
 case round =>
  clear HR0 e0 e1
  obtain ⟨rfl, HR⟩ := hrel
  have HB1 := Lib.hid (HB.out.up HR.out)
  have HK1 := Lib.hid (HK.out.keep HR.out.below)
  have HC1 := Lib.hid (HC.out.keep HR.out.below)
  have e0 := HC1.out.c0
  have e1 := HC1.out.c1
  by_cases hnm : 5 ≤ sz
  ·skip
   go_wp2_with fail
   refine (IsGraph_sany sz A m c x wr wr.heap.size HK1.out.rd (Nat.le_refl _) hm).mono ?_
   rintro e w5 ⟨rfl, hb1⟩
   rw [Ho.out]
   clear e0 e1
   replace HB1 := Lib.hid (HB1.out.keep hb1)
   replace HC1 := Lib.hid (HC1.out.keep hb1)
   clear hb1
   have e0 := HC1.out.c0
   have e1 := HC1.out.c1
   have HON : Hid (ON w5.heap.size (w5.alloc (Obj.cells #[] 3)) (some ⟨w5.heap.size, 0, none⟩) 0 []) := ON.nil w5
   have HBz := Lib.hid (HB1.out.alloc_ (Obj.cells #[] 3))
   go_wp2
   go_ret2
   exact ⟨_, _, rfl, HON.out.mono HB1.out.below.size, HBz.out.below⟩
  ·have i1 : sz < 5 := by omega
   have HON : Hid (ON wr.heap.size (wr.alloc (Obj.cells #[] 3)) (some ⟨wr.heap.size, 0, none⟩) 0 []) := ON.nil wr
   have HBz := Lib.hid (HB1.out.alloc_ (Obj.cells #[] 3))
   go_wp2
   go_ret2
   exact ⟨_, _, rfl, HON.out.mono HB1.out.below.size, HBz.out.below⟩
end Go.Proofs.YtfabbohijhjpcaaGreatDoor
