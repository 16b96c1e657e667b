/-
  Several texts in one.
-/
import Derived.Test.YtdpkbfiggbcclaaGreatQmHolI
import Derived.Test.YtdpkbfiggbcclaaGreatQmHamT
import Derived.Test.YtdpkbfiggbcclaaGreatQmThjP
/-
-/
namespace Go.Proofs.YtdpkbfiggbcclaaGreat
open Go.RowKit
set_option maxHeartbeats 6400000
theorem mayH_dup {r : Nat → Nat} {m n : Nat} {l : List Nat} (h : ¬ l.Nodup) : mayH r m n l = false := by
 unfold mayH;rw [ptB_dup h];cases hh : hoR r m l
 ·simp
 ·exact absurd (hoR_nodup hh) h
theorem okG_mayH {r : Nat → Nat} {m n v : Nat} {l : List Nat} : okG (mayH r m n) l v = mayH r m n (l ++ [v]) := by
 by_cases h : v ∈ l
 ·rw [okG_in h, mayH_dup];intro hn;rw [List.nodup_append] at hn;exact hn.2.2 v h v (by simp) rfl
 ·exact okG_out h
theorem IsHole_sv {A : Option Addr} {m c : Nat} {r : Nat → Nat} {w : World} (h : GV w A m c r) {Al : Option Addr} {cl : Nat} {l : List Nat} (hl : LN w Al cl l) (hlen : l.length ≤ 7) :
 Calls Tryz.prog 238 #[.agg #[.int .i64 m, .slice A m c], .slice Al l.length cl] w fun e w' => e = .returned (.bool (hoR r m l)) ∧ Below w.heap.size w w' :=
 IsHole_s m A m c _ Al l.length cl _ w h.ga hl.li (by have := h.vg.n7; omega) (by omega)
def seQ (w : World) (lo : Nat) (o : Option (List Nat)) (e : Ending) (w' : World) : Prop :=
 ∃ A' n' c', e = .returned (.tuple #[.slice A' n' c', .bool o.isSome]) ∧ (∀ x, o = some x → n' = x.length ∧ ON lo w' A' c' x) ∧ Below w.heap.size w w'
theorem seQ.none_ {w w' : World} {lo n' c' : Nat} {A' : Option Addr} (hb : Below w.heap.size w w') : seQ w lo none (.returned (.tuple #[.slice A' n' c', .bool false])) w' := ⟨A', n', c', rfl, (fun x h => by cases h), hb⟩
theorem seQ.some_ {w w' : World} {lo c' : Nat} {A' : Option Addr} {x : List Nat} (ho : ON lo w' A' c' x) (hb : Below w.heap.size w w') : seQ w lo (some x) (.returned (.tuple #[.slice A' x.length c', .bool true])) w' := ⟨A', x.length, c', rfl, (fun y h => by obtain rfl := Option.some.inj h; exact ⟨rfl, ho⟩), hb⟩
set_option maxRecDepth 100000 in
theorem l4h_s {A : Option Addr} {m c n : Nat} {r : Nat → Nat} (hn7 : n ≤ 7) : ∀ (j : Nat) (l : List Nat) (Al : Option Addr) (cl : Nat) (w : World) (lo : Nat), l.length + j = n → GV w A m c r → ON lo w Al cl l → lo ≤ w.heap.size →
 Calls Tryz.prog 203 #[.agg #[.int .i64 m, .slice A m c], .slice Al l.length cl, .int .i64 n, .bool true] w (seQ w lo (seaG m (mayH r m n) (hoR r m) j l)) := by
 intro j;induction j with
 | zero =>
   intro l Al cl w lo hlm h hO hlo;have heq : ((l.length : Int) == (n : Int)) = true := by simp; omega
   have heq2 : (l.length = n) = True := by simp; omega
   have hl7 : l.length ≤ 7 := by omega
   have HO := hh_ hO;have HS : Hid (seaG m (mayH r m n) (hoR r m) 0 l = if hoR r m l = true then some l else none) := by show _ = _; unfold seaG; rfl
   clear hO hlm;obtain ⟨W, hW, HB, HG⟩ := gbW h;have HW := hh_ hW;clear hW h;obtain ⟨e0, e1⟩ := gx_ HG;replace HO := hh_ (HO.keep HB.below);have KH := hh_ (IsHole_sv HG.gv HO.ln hl7);cases hh : hoR r m l
   ·rw [hh] at KH HS;clear hh;go_enter Tryz.func203, Tryz.ntmps203;go_wp2_with fail
    rw [← HW.out];refine (KH.out).mono ?_;rintro e w1 ⟨rfl, hb1⟩;clear HW;clear e0 e1;replace HB := hh_ (HB.keep hb1);replace HO := hh_ (HO.keep hb1);replace HG := hh_ (HG.keep hb1);clear hb1;obtain ⟨e0, e1⟩ := gx_ HG;go_wp2;go_ret2;rw [HS.out];exact seQ.none_ HB.below
   ·rw [hh] at KH HS;clear hh;go_enter Tryz.func203, Tryz.ntmps203;go_wp2_with fail
    rw [← HW.out];refine (KH.out).mono ?_;rintro e w2 ⟨rfl, hb2⟩;clear HW;clear e0 e1;replace HB := hh_ (HB.keep hb2);replace HO := hh_ (HO.keep hb2);replace HG := hh_ (HG.keep hb2);clear hb2;obtain ⟨e0, e1⟩ := gx_ HG;go_wp2;go_ret2;rw [HS.out];exact seQ.some_ HO.out HB.below
 | succ j ih =>
   intro l Al cl w lo hlm h hO hlo;have IH := hh_ ih;have hne : ((l.length : Int) == (n : Int)) = false := by simp; omega
   have hne2 : (l.length = n) = False := by simp; omega
   have hm7 := h.vg.n7;have Hlm := hh_ hlm;have hl7 : l.length ≤ 6 := by omega
   have HO := hh_ hO;clear ih hO hlm;obtain ⟨W, hW, HB, HG⟩ := gbW h;have HW := hh_ hW;clear hW h;obtain ⟨e0, e1⟩ := gx_ HG;replace HO := hh_ (HO.keep HB.below);have hz := HB.below.size;have HR0 : Hid (From W W) := From.refl W;go_enter Tryz.func203, Tryz.ntmps203;go_wp2_with fail
   rw [← HW.out];go_wp2;go_loopw [10] (fun i wr => ∃ v : Nat, v ≤ m ∧ i = .int .i64 v ∧ Hid (∀ u, u < v → atG m (mayH r m n) (hoR r m) j l u = none) ∧ Hid (From W wr)) (fun i _ => m - (intOf i).toNat);case atStart => exact ⟨0, Nat.zero_le _, rfl, (fun u hu => absurd hu (by omega)), HR0⟩
   case round =>
    clear HR0 e0 e1;obtain ⟨v, hv, rfl, hall, HR⟩ := hrel;by_cases hvm : v < m
    ·have i1 : (v : Int) < m := by omega
     have HBr := hh_ (HB.up HR.out);have HGr := hh_ (HG.keep HR.below);have HOr := hh_ (HO.keep HR.below);have HLr : Hid (LN wr Al cl l) := HOr.ln;have hzr := HBr.below.size;have e0 := HGr.c0;have e1 := HGr.c1;go_wp2_with (first | (at_builtin; (refine wpList_copyN wr rfl _ _ rfl Al cl l HLr.out (by omega) wr.heap.size rfl rfl rfl ?_; intro A2 c2 w2 hO2 hb2)) | (at_builtin; (refine wpList_pushN w2 rfl _ _ rfl wr.heap.size w2.heap.size A2 c2 l hO2 hb2.size v rfl 1 w2.heap.size rfl rfl (by omega) ?_; intro g3 c3 wp hO3 hb3; replace hb3 := hb2.trans hb3; have m0 := (HGr.keep hb3).c0; have m1 := (HGr.keep hb3).c1; clear hO2 hb2)))
     have HOx : Hid (ON wr.heap.size wp (some ⟨g3, 0, none⟩) c3 (l ++ [v])) := ⟨by rw [List.length_append]; exact hO3⟩;have HR3 := hh_ (HR.keep hb3);have HB3 := hh_ (HBr.keep hb3);have HG3 := hh_ (HGr.keep hb3);have hla : (l ++ [v]).length = l.length + 1 := by rw [List.length_append]; rfl
     have Hla := hh_ hla;have hlx : (l ++ [v]).length ≤ 7 := by omega
     have KU := hh_ (IsInducedPath_sv HG3.gv HOx.ln hlx);rw [Hla.out] at KU;clear hO3 hb3 HBr HGr HOr HLr HR e0 e1 m0 m1 hla;have e0 := HG3.c0;have e1 := HG3.c1;have Hok : Hid (okG (mayH r m n) l v = mayH r m n (l ++ [v])) := okG_mayH;have Hdef : Hid (mayH r m n (l ++ [v]) = (ptB r m (l ++ [v]) || (decide (l.length + 1 = n) && hoR r m (l ++ [v])))) := by show _ = _; unfold mayH; rw [Hla.out]
     go_wp2_with fail
     refine (KU.out).mono ?_;rintro e w3 ⟨rfl, hb3⟩;clear e0 e1;replace HR3 := hh_ (HR3.keep hb3);replace HB3 := hh_ (HB3.keep hb3);replace HOx := hh_ (HOx.keep hb3);replace HG3 := hh_ (HG3.keep hb3);clear hb3;have e0 := HG3.c0;have e1 := HG3.c1;cases hu : ptB r m (l ++ [v])
     ·by_cases hj : l.length + 1 = n
      ·have heq : (((l.length : Int) + 1) == (n : Int)) = true := by simp; omega
       have heq2 : (((l.length + 1 : Nat) : Int) == (n : Int)) = true := by simp; omega
       have heq3 : (l.length + 1 = n) = True := by simp [hj]
       have KH := hh_ (IsHole_sv HG3.gv HOx.ln (by rw [Hla.out]; omega));rw [Hla.out] at KH;rw [hu, decide_eq_true hj] at Hdef;cases hh : hoR r m (l ++ [v])
       ·rw [hh] at KH Hdef;have Hno : Hid (atG m (mayH r m n) (hoR r m) j l v = none) := atG_no (Hok.trans Hdef.out);clear hh hu hj;go_wp2_with fail
        refine (KH.out).mono ?_;rintro e w4 ⟨rfl, hb4⟩;clear e0 e1;replace HR3 := hh_ (HR3.keep hb4);replace HB3 := hh_ (HB3.keep hb4);replace HOx := hh_ (HOx.keep hb4);replace HG3 := hh_ (HG3.keep hb4);clear hb4;have e0 := HG3.c0;have e1 := HG3.c1;go_wp2;go_roundw;case rel =>
         refine ⟨v + 1, by omega, by go_num, fun u hu => ?_, HR3⟩;by_cases huv : u < v
         ·exact hall.out u huv
         ·obtain rfl : u = v := by omega
          exact Hno.out
        case measure => (simp [intOf] <;> omega)
       ·rw [hh] at KH Hdef;have Hm : Hid (mayH r m n (l ++ [v]) = true) := Hdef.out;clear hh hu hj;go_wp2_with fail
        refine (KH.out).mono ?_;rintro e w5 ⟨rfl, hb5⟩;clear e0 e1;replace HR3 := hh_ (HR3.keep hb5);replace HB3 := hh_ (HB3.keep hb5);replace HOx := hh_ (HOx.keep hb5);replace HG3 := hh_ (HG3.keep hb5);clear hb5;have e0 := HG3.c0;have e1 := HG3.c1;have Hyes : Hid (atG m (mayH r m n) (hoR r m) j l v = seaG m (mayH r m n) (hoR r m) j (l ++ [v])) := atG_yes (Hok.trans Hm.out);have KI : Hid (Calls Tryz.prog 203 #[.agg #[.int .i64 m, .slice A m c], .slice (some ⟨g3, 0, none⟩) (l.length + 1) c3, .int .i64 n, .bool true] w5 (seQ w5 lo (seaG m (mayH r m n) (hoR r m) j (l ++ [v])))) := by
         have hk := IH.out (l ++ [v]) (some ⟨g3, 0, none⟩) c3 w5 lo (by rw [Hla.out]; have := Hlm.out; omega) HG3.gv (HOx.mono (by omega)) (by have := HB3.below.size; omega);rw [Hla.out] at hk;exact hk
        obtain ⟨so, hso⟩ : ∃ so, so = seaG m (mayH r m n) (hoR r m) j (l ++ [v]) := ⟨_, rfl⟩;rw [← hso] at KI Hyes;clear hso;go_wp2_with fail
        refine (KI.out).mono ?_;rintro e w6 ⟨A5, n5, c5, rfl, hx5, hb6⟩;clear e0 e1;replace HR3 := hh_ (HR3.keep hb6);replace HB3 := hh_ (HB3.keep hb6);replace HG3 := hh_ (HG3.keep hb6);clear hb6;have e0 := HG3.c0;have e1 := HG3.c1;clear KI;cases so with
        | none =>
          clear hx5;go_wp2;go_roundw;case rel =>
           refine ⟨v + 1, by omega, by go_num, fun u hu => ?_, HR3⟩;by_cases huv : u < v
           ·exact hall.out u huv
           ·obtain rfl : u = v := by omega
            exact Hyes.out
          case measure => (simp [intOf] <;> omega)
        | some x =>
          obtain ⟨rfl, ho5⟩ := hx5 x rfl;have HO5 := hh_ ho5;have Hs : Hid (seaG m (mayH r m n) (hoR r m) (j + 1) l = some x) := seaG_some hvm Hyes.out hall.out;clear ho5 hx5;go_wp2;go_ret2;rw [Hs.out];exact seQ.some_ HO5.out HB3.below
      ·have heq : (((l.length : Int) + 1) == (n : Int)) = false := by simp; omega
       have heq2 : (((l.length + 1 : Nat) : Int) == (n : Int)) = false := by simp; omega
       have heq3 : (l.length + 1 = n) = False := by simp [hj]
       have Hno : Hid (atG m (mayH r m n) (hoR r m) j l v = none) := atG_no (Hok.trans (Hdef.trans (by rw [hu, decide_eq_false hj]; rfl)));clear hu hj;go_wp2;go_roundw;case rel =>
        refine ⟨v + 1, by omega, by go_num, fun u hu => ?_, HR3⟩;by_cases huv : u < v
        ·exact hall.out u huv
        ·obtain rfl : u = v := by omega
         exact Hno.out
       case measure => (simp [intOf] <;> omega)
     ·have Hm : Hid (mayH r m n (l ++ [v]) = true) := Hdef.trans (by rw [hu]; rfl);clear hu;have Hyes : Hid (atG m (mayH r m n) (hoR r m) j l v = seaG m (mayH r m n) (hoR r m) j (l ++ [v])) := atG_yes (Hok.trans Hm.out);have KI : Hid (Calls Tryz.prog 203 #[.agg #[.int .i64 m, .slice A m c], .slice (some ⟨g3, 0, none⟩) (l.length + 1) c3, .int .i64 n, .bool true] w3 (seQ w3 lo (seaG m (mayH r m n) (hoR r m) j (l ++ [v])))) := by
       have hk := IH.out (l ++ [v]) (some ⟨g3, 0, none⟩) c3 w3 lo (by rw [Hla.out]; have := Hlm.out; omega) HG3.gv (HOx.mono (by omega)) (by have := HB3.below.size; omega);rw [Hla.out] at hk;exact hk
      obtain ⟨so, hso⟩ : ∃ so, so = seaG m (mayH r m n) (hoR r m) j (l ++ [v]) := ⟨_, rfl⟩;rw [← hso] at KI Hyes;clear hso;go_wp2_with fail
      refine (KI.out).mono ?_;rintro e w7 ⟨A5, n5, c5, rfl, hx5, hb7⟩;clear e0 e1;replace HR3 := hh_ (HR3.keep hb7);replace HB3 := hh_ (HB3.keep hb7);replace HG3 := hh_ (HG3.keep hb7);clear hb7;have e0 := HG3.c0;have e1 := HG3.c1;clear KI;cases so with
      | none =>
        clear hx5;go_wp2;go_roundw;case rel =>
         refine ⟨v + 1, by omega, by go_num, fun u hu => ?_, HR3⟩;by_cases huv : u < v
         ·exact hall.out u huv
         ·obtain rfl : u = v := by omega
          exact Hyes.out
        case measure => (simp [intOf] <;> omega)
      | some x =>
        obtain ⟨rfl, ho5⟩ := hx5 x rfl;have HO5 := hh_ ho5;have Hs : Hid (seaG m (mayH r m n) (hoR r m) (j + 1) l = some x) := seaG_some hvm Hyes.out hall.out;clear ho5 hx5;go_wp2;go_ret2;rw [Hs.out];exact seQ.some_ HO5.out HB3.below
    ·have Hn : Hid (seaG m (mayH r m n) (hoR r m) (j + 1) l = none) := seaG_none fun u hu => hall.out u (by omega)
     have i1 : (m : Int) ≤ v := by omega
     have HBr := hh_ (HB.up HR.out);have HGr := hh_ (HG.keep HR.below);have e0 := HGr.c0;have hzr := HBr.below.size;have HBz := hh_ (HBr.alloc_ (Obj.cells #[] 3));go_wp2;go_ret2;rw [Hn.out];exact seQ.none_ HBz.below
set_option maxRecDepth 100000 in
theorem FindHole_sv {A : Option Addr} {m c : Nat} {r : Nat → Nat} {w : World} (h : GV w A m c r) : Calls Tryz.prog 98 #[.agg #[.int .i64 m, .slice A m c]] w (lsQ w (holeO r m)) := by
 have hm7 := h.vg.n7;obtain ⟨W, hW, HB, HG⟩ := gbW h;have HW := hh_ hW;clear hW h;obtain ⟨e0, e1⟩ := gx_ HG;have HR0 : Hid (From W W) := From.refl W;go_enter Tryz.func98, Tryz.ntmps98;go_wp2_with fail
 rw [← HW.out];clear HW;go_wp2;go_loopw [4] (fun i wr => ∃ n : Nat, 4 ≤ n ∧ n ≤ 9 ∧ Hid ((n - 4) % 1 = 0) ∧ i = .int .i64 n ∧ Hid (∀ u, u < n → latO 4 1 (hoF r m) u = none) ∧ Hid (From W wr)) (fun i _ => 20 - (intOf i).toNat);case atStart => exact ⟨4, by omega, by omega, rfl, rfl, (fun u hu => latO_low hu), HR0⟩
 case round =>
  clear HR0 e0 e1;obtain ⟨n, hn4, hn9, Hst, rfl, hall, HR⟩ := hrel;have HB1 := hh_ (HB.up HR.out);have HG1 := hh_ (HG.keep HR.below);have e0 := HG1.c0;have e1 := HG1.c1;by_cases hnm : n ≤ m
  ·have i1 : (n : Int) ≤ m := by omega
   go_wp2_with fail
   refine (IsGraph_sv HG1.gv).mono ?_;rintro e w1 ⟨rfl, hb1⟩;clear e0 e1;replace HR := hh_ (HR.keep hb1);replace HB1 := hh_ (HB1.keep hb1);replace HG1 := hh_ (HG1.keep hb1);clear hb1;have e0 := HG1.c0;have e1 := HG1.c1;have HZ1 : Hid (w.heap.size ≤ w1.heap.size) := HB1.below.size;have HON : Hid (ON w1.heap.size (w1.alloc (Obj.cells #[] 3)) (some ⟨w1.heap.size, 0, none⟩) 0 []) := ON.nil w1;have HG2 : Hid (GBox (w1.alloc (Obj.cells #[] 3)) w.heap.size A m c r) := HG1.keep (br_.alloc nr_ _);have HB2 : Hid (From w (w1.alloc (Obj.cells #[] 3))) := HB1.alloc_ _;have HR2 : Hid (From W (w1.alloc (Obj.cells #[] 3))) := HR.alloc_ _;have KI := hh_ (l4h_s (n := n) (by omega) n [] (some ⟨w1.heap.size, 0, none⟩) 0 (w1.alloc (Obj.cells #[] 3)) w.heap.size (by simp) HG2.gv (HON.mono HZ1.out) HB2.below.size);rw [hoF_s] at KI;have Hat : Hid (latO 4 1 (hoF r m) n = hoF r m n) := latO_at hn4 Hst.out
   obtain ⟨so, hso⟩ : ∃ so, so = hoF r m n := ⟨_, rfl⟩;rw [← hso] at KI Hat;have HG3 := hh_ (HG2);clear hso;go_wp2_with fail
   refine KI.mono ?_;rintro e w3 ⟨A5, n5, c5, rfl, hx5, hb5⟩;have HB5 : Hid (From w w3) := HB2.keep hb5;have HR5 : Hid (From W w3) := HR2.keep hb5;clear hb5 KI HON HB2 HR2 HG2 HG3 e0 e1;cases so with
   | none =>
     have Hn : Hid (∀ u, u < n + 1 → latO 4 1 (hoF r m) u = none) := fun u hu => by
      by_cases huv : u < n
      ·exact hall.out u huv
      ·by_cases hun : u = n
       ·subst hun; exact Hat.out
       ·exact latO_off (by have := Hst.out; omega)
     have Hst2 : Hid ((n + 1 - 4) % 1 = 0) := by show _ = _; have := Hst.out; omega
     clear hx5;go_wp2;go_roundw;case rel => exact ⟨n + 1, by omega, by omega, Hst2, by go_num, Hn, HR5⟩
     case measure => (simp [intOf] <;> omega)
   | some x =>
     obtain ⟨rfl, ho5⟩ := hx5 x rfl;have HO5 := hh_ ho5;have Hs : Hid (holeO r m = some x) := ltO_some hnm Hat.out hall.out;clear ho5 hx5;go_wp2;go_ret2;rw [Hs.out];exact lsQ.yes HO5.out HB5.below
  ·have Hs : Hid (holeO r m = none) := ltO_none fun u hu => hall.out u (by omega)
   have i1 : (m : Int) < n := by omega
   have HON : Hid (ON wr.heap.size (wr.alloc (Obj.cells #[] 3)) (some ⟨wr.heap.size, 0, none⟩) 0 []) := ON.nil wr;have HBz := hh_ (HB1.alloc_ (Obj.cells #[] 3));go_wp2;go_ret2;rw [Hs.out];exact ⟨_, _, rfl, HON.mono HB1.below.size, HBz.below⟩
set_option maxRecDepth 100000 in
theorem FindHole_sno (sz : Int) (A : Option Addr) (m c : Nat) (x : Nat → Int) (w : World) (h : GA w A m c x) (hm : m ≤ 1048576) (hok : okB sz m x = false) :
 Calls Tryz.prog 98 #[.agg #[.int .i64 sz, .slice A m c]] w (lsQ w none) := by
 obtain ⟨W, hW, HB, HK, HC⟩ := gaW sz h;have HW := hh_ hW;have Ho := hh_ hok;have HR0 : Hid (From W W) := From.refl W;clear hW h hok;go_enter Tryz.func98, Tryz.ntmps98;obtain ⟨e0, e1⟩ := gc_ HC;go_wp2_with fail
 rw [← HW.out];clear HW;go_wp2;go_loopw [4] (fun i wr => i = .int .i64 4 ∧ Hid (From W wr)) (fun _ _ => 0);case atStart => exact ⟨rfl, HR0⟩
 case round =>
  clear HR0 e0 e1;obtain ⟨rfl, HR⟩ := hrel;have HB1 := hh_ (HB.up HR.out);have HK1 := hh_ (HK.keep HR.below);have HC1 := hh_ (HC.keep HR.below);have e0 := HC1.c0;have e1 := HC1.c1;by_cases hnm : 4 ≤ sz
  ·skip;go_wp2_with fail
   refine (IsGraph_sany sz A m c x wr wr.heap.size HK1.rd nr_ hm).mono ?_;rintro e w5 ⟨rfl, hb1⟩;rw [Ho.out];clear e0 e1;replace HB1 := hh_ (HB1.keep hb1);replace HC1 := hh_ (HC1.keep hb1);clear hb1;have e0 := HC1.c0;have e1 := HC1.c1;have HON : Hid (ON w5.heap.size (w5.alloc (Obj.cells #[] 3)) (some ⟨w5.heap.size, 0, none⟩) 0 []) := ON.nil w5;have HBz := hh_ (HB1.alloc_ (Obj.cells #[] 3));go_wp2;go_ret2;exact ⟨_, _, rfl, HON.mono HB1.below.size, HBz.below⟩
  ·have i1 : sz < 4 := by omega
   have HON : Hid (ON wr.heap.size (wr.alloc (Obj.cells #[] 3)) (some ⟨wr.heap.size, 0, none⟩) 0 []) := ON.nil wr;have HBz := hh_ (HB1.alloc_ (Obj.cells #[] 3));go_wp2;go_ret2;exact ⟨_, _, rfl, HON.mono HB1.below.size, HBz.below⟩
set_option maxRecDepth 100000 in
theorem FindOddHole_sv {A : Option Addr} {m c : Nat} {r : Nat → Nat} {w : World} (h : GV w A m c r) : Calls Tryz.prog 211 #[.agg #[.int .i64 m, .slice A m c]] w (lsQ w (oddhO r m)) := by
 have hm7 := h.vg.n7;obtain ⟨W, hW, HB, HG⟩ := gbW h;have HW := hh_ hW;clear hW h;obtain ⟨e0, e1⟩ := gx_ HG;have HR0 : Hid (From W W) := From.refl W;go_enter Tryz.func211, Tryz.ntmps211;go_wp2_with fail
 rw [← HW.out];clear HW;go_wp2;go_loopw [4] (fun i wr => ∃ n : Nat, 5 ≤ n ∧ n ≤ 9 ∧ Hid ((n - 5) % 2 = 0) ∧ i = .int .i64 n ∧ Hid (∀ u, u < n → latO 5 2 (hoF r m) u = none) ∧ Hid (From W wr)) (fun i _ => 20 - (intOf i).toNat);case atStart => exact ⟨5, by omega, by omega, rfl, rfl, (fun u hu => latO_low hu), HR0⟩
 case round =>
  clear HR0 e0 e1;obtain ⟨n, hn4, hn9, Hst, rfl, hall, HR⟩ := hrel;have HB1 := hh_ (HB.up HR.out);have HG1 := hh_ (HG.keep HR.below);have e0 := HG1.c0;have e1 := HG1.c1;by_cases hnm : n ≤ m
  ·have i1 : (n : Int) ≤ m := by omega
   go_wp2_with fail
   refine (IsGraph_sv HG1.gv).mono ?_;rintro e w1 ⟨rfl, hb1⟩;clear e0 e1;replace HR := hh_ (HR.keep hb1);replace HB1 := hh_ (HB1.keep hb1);replace HG1 := hh_ (HG1.keep hb1);clear hb1;have e0 := HG1.c0;have e1 := HG1.c1;have HZ1 : Hid (w.heap.size ≤ w1.heap.size) := HB1.below.size;have HON : Hid (ON w1.heap.size (w1.alloc (Obj.cells #[] 3)) (some ⟨w1.heap.size, 0, none⟩) 0 []) := ON.nil w1;have HG2 : Hid (GBox (w1.alloc (Obj.cells #[] 3)) w.heap.size A m c r) := HG1.keep (br_.alloc nr_ _);have HB2 : Hid (From w (w1.alloc (Obj.cells #[] 3))) := HB1.alloc_ _;have HR2 : Hid (From W (w1.alloc (Obj.cells #[] 3))) := HR.alloc_ _;have KI := hh_ (l4h_s (n := n) (by omega) n [] (some ⟨w1.heap.size, 0, none⟩) 0 (w1.alloc (Obj.cells #[] 3)) w.heap.size (by simp) HG2.gv (HON.mono HZ1.out) HB2.below.size);rw [hoF_s] at KI;have Hat : Hid (latO 5 2 (hoF r m) n = hoF r m n) := latO_at hn4 Hst.out
   obtain ⟨so, hso⟩ : ∃ so, so = hoF r m n := ⟨_, rfl⟩;rw [← hso] at KI Hat;have HG3 := hh_ (HG2);clear hso;go_wp2_with fail
   refine KI.mono ?_;rintro e w3 ⟨A5, n5, c5, rfl, hx5, hb5⟩;have HB5 : Hid (From w w3) := HB2.keep hb5;have HR5 : Hid (From W w3) := HR2.keep hb5;clear hb5 KI HON HB2 HR2 HG2 HG3 e0 e1;cases so with
   | none =>
     have Hn : Hid (∀ u, u < n + 2 → latO 5 2 (hoF r m) u = none) := fun u hu => by
      by_cases huv : u < n
      ·exact hall.out u huv
      ·by_cases hun : u = n
       ·subst hun; exact Hat.out
       ·exact latO_off (by have := Hst.out; omega)
     have Hst2 : Hid ((n + 2 - 5) % 2 = 0) := by show _ = _; have := Hst.out; omega
     clear hx5;go_wp2;go_roundw;case rel => exact ⟨n + 2, by omega, by omega, Hst2, by go_num, Hn, HR5⟩
     case measure => (simp [intOf] <;> omega)
   | some x =>
     obtain ⟨rfl, ho5⟩ := hx5 x rfl;have HO5 := hh_ ho5;have Hs : Hid (oddhO r m = some x) := ltO_some hnm Hat.out hall.out;clear ho5 hx5;go_wp2;go_ret2;rw [Hs.out];exact lsQ.yes HO5.out HB5.below
  ·have Hs : Hid (oddhO r m = none) := ltO_none fun u hu => hall.out u (by omega)
   have i1 : (m : Int) < n := by omega
   have HON : Hid (ON wr.heap.size (wr.alloc (Obj.cells #[] 3)) (some ⟨wr.heap.size, 0, none⟩) 0 []) := ON.nil wr;have HBz := hh_ (HB1.alloc_ (Obj.cells #[] 3));go_wp2;go_ret2;rw [Hs.out];exact ⟨_, _, rfl, HON.mono HB1.below.size, HBz.below⟩
set_option maxRecDepth 100000 in
theorem FindOddHole_sno (sz : Int) (A : Option Addr) (m c : Nat) (x : Nat → Int) (w : World) (h : GA w A m c x) (hm : m ≤ 1048576) (hok : okB sz m x = false) :
 Calls Tryz.prog 211 #[.agg #[.int .i64 sz, .slice A m c]] w (lsQ w none) := by
 obtain ⟨W, hW, HB, HK, HC⟩ := gaW sz h;have HW := hh_ hW;have Ho := hh_ hok;have HR0 : Hid (From W W) := From.refl W;clear hW h hok;go_enter Tryz.func211, Tryz.ntmps211;obtain ⟨e0, e1⟩ := gc_ HC;go_wp2_with fail
 rw [← HW.out];clear HW;go_wp2;go_loopw [4] (fun i wr => i = .int .i64 5 ∧ Hid (From W wr)) (fun _ _ => 0);case atStart => exact ⟨rfl, HR0⟩
 case round =>
  clear HR0 e0 e1;obtain ⟨rfl, HR⟩ := hrel;have HB1 := hh_ (HB.up HR.out);have HK1 := hh_ (HK.keep HR.below);have HC1 := hh_ (HC.keep HR.below);have e0 := HC1.c0;have e1 := HC1.c1;by_cases hnm : 5 ≤ sz
  ·skip;go_wp2_with fail
   refine (IsGraph_sany sz A m c x wr wr.heap.size HK1.rd nr_ hm).mono ?_;rintro e w5 ⟨rfl, hb1⟩;rw [Ho.out];clear e0 e1;replace HB1 := hh_ (HB1.keep hb1);replace HC1 := hh_ (HC1.keep hb1);clear hb1;have e0 := HC1.c0;have e1 := HC1.c1;have HON : Hid (ON w5.heap.size (w5.alloc (Obj.cells #[] 3)) (some ⟨w5.heap.size, 0, none⟩) 0 []) := ON.nil w5;have HBz := hh_ (HB1.alloc_ (Obj.cells #[] 3));go_wp2;go_ret2;exact ⟨_, _, rfl, HON.mono HB1.below.size, HBz.below⟩
  ·have i1 : sz < 5 := by omega
   have HON : Hid (ON wr.heap.size (wr.alloc (Obj.cells #[] 3)) (some ⟨wr.heap.size, 0, none⟩) 0 []) := ON.nil wr;have HBz := hh_ (HB1.alloc_ (Obj.cells #[] 3));go_wp2;go_ret2;exact ⟨_, _, rfl, HON.mono HB1.below.size, HBz.below⟩
set_option maxHeartbeats 6400000
set_option maxRecDepth 100000 in
theorem ComplementOf_s (sz : Int) (A : Option Addr) (m c : Nat) (x : Nat → Int) (w : World) (h : GA w A m c x) (hm : m ≤ 1048576) :
 Calls Tryz.prog 290 #[.agg #[.int .i64 sz, .slice A m c]] w fun e w' => ∃ sz' A' m' c', e = .returned (.tuple #[.agg #[.int .i64 sz', .slice A' m' c'], .bool (okB sz m x)]) ∧ (okB sz m x = true → sz' = (m : Int) ∧ m' = m ∧ GV w' A' m c' (coR (rw_ x) m)) ∧ Below w.heap.size w w' := by
 obtain ⟨W, hW⟩ : ∃ W, W = ((w.alloc (Obj.cells #[.int .i64 sz, .slice A m c] 28)).alloc (Obj.cells #[.int .i64 0, .slice none 0 0] 28)) := ⟨_, rfl⟩;have HB : Hid (From w W) := by rw [hW]; exact (From.alloc _ _).alloc_ _
 have HZ : Hid (w.heap.size + 2 = W.heap.size) := by rw [hW]; simp [Hid]
 have HS : Hid (From W W) := From.refl W;have HK := hh_ (h.keep HB.below);have HC : Hid (GC W w.heap.size sz A m c) := by rw [hW]; exact (GC.new _ _ _ _ _).keep (br_.alloc nr_ _)
 have HD : Hid (GC W (w.heap.size + 1) 0 none 0 0) := by rw [hW]; constructor <;> simp [go_sem]
 have HW := hh_ hW;clear hW h;go_enter Tryz.func290, Tryz.ntmps290;obtain ⟨e0, e1⟩ := gc_ HC;have d0 := HD.c0;have d1 := HD.c1;have d2 := HD.f0;have d3 := HD.f1;go_wp2_with fail
 rw [← HW.out];refine (IsGraph_sany sz A m c x W W.heap.size HK.rd nr_ hm).mono ?_;rintro e w1 ⟨rfl, hb1⟩;clear HW;clear e0 e1 d0 d1 d2 d3;replace HB := hh_ (HB.keep hb1);replace HS := hh_ (HS.keep hb1);replace HK := hh_ (HK.keep hb1);replace HC := hh_ (HC.keep hb1);replace HD := hh_ (HD.keep hb1);clear hb1;obtain ⟨e0, e1⟩ := gc_ HC;have d0 := HD.c0;have d1 := HD.c1;have d2 := HD.f0;have d3 := HD.f1;cases ho : okB sz m x
 ·have Ho := hh_ ho;clear ho;go_wp2;have HE := (HB.set (q := w.heap.size + 1) (by omega) (.int .i64 0) (.slice none 0 0)).below;exact bodyPost_ret (v := .tuple #[.agg #[.int .i64 0, .slice none 0 0], .bool false]) (by simp [results, Tryz.results290, go_sem, *]) rfl ⟨0, none, 0, 0, by rw [Ho.out], (fun h => by rw [Ho.out] at h; cases h), HE⟩
 ·obtain ⟨_, es, vg0, _⟩ := okB_ok' ho;subst es;have hn1 := vg0.n1;have hn7 := vg0.n7;have HG : Hid (GV w1 A m c (rw_ x)) := HK.gv ho;have Ho := hh_ ho;have HY : Hid (w.heap.size + 2 ≤ w1.heap.size) := by have := HS.below.size; have := HZ.out; show _ ≤ _; omega
  obtain ⟨b, o, rfl⟩ := HG.addr;obtain ⟨W2, hW2⟩ : ∃ W2, W2 = (w1.alloc (Obj.cells #[.int .i64 (m : Int), Value.slice none 0 0] 28)) := ⟨_, rfl⟩;have HR2 : Hid (From w1 W2) := by rw [hW2]; exact From.alloc _ _
  have HQ : Hid (GC W2 w1.heap.size m none 0 0) := by rw [hW2]; exact GC.new _ _ _ _ _
  have hz2 : w1.heap.size + 1 = W2.heap.size := by rw [hW2]; simp
  have HW2 := hh_ hW2;clear hW2 ho vg0;go_wp2_with fail
  rw [← HW2.out];clear HW2;go_loopw [5] (fun k wr => ∃ (K : Nat) (A' : Option Addr) (c' : Nat), K ≤ m ∧ k = .int .i64 K ∧ Hid (GC wr w1.heap.size m A' K c') ∧ Hid (Own wr (w1.heap.size + 1) wr.heap.size 3 1 A' K c' (fun j => .int .i64 (coR (rw_ x) m j : Nat))) ∧ Hid (From w1 wr) ∧ Hid (w1.heap.size + 1 ≤ wr.heap.size)) (fun k _ => m - (intOf k).toNat);case atStart => exact ⟨0, none, 0, Nat.zero_le _, rfl, HQ, Own.nil _ _ _ _ _ _, HR2, Nat.le_of_eq hz2⟩
  case round =>
   obtain ⟨K, A', c', hK, rfl, HQr, HOr, HRr, HZr⟩ := hrel;have HCr := hh_ (HC.keep HRr.below);have e0 := HCr.c0;have e1 := HCr.c1;have g0 := HQr.c0;have g1 := HQr.c1;have g2 := HQr.f0;have g3 := HQr.f1;by_cases hlt : K < m
   ·have HGr := hh_ (HG.keep HRr.below);have q0 := HGr.row hlt;have hr := HGr.vg.lt K hlt;obtain ⟨y, hy⟩ : ∃ y, y = rw_ x K := ⟨_, rfl⟩;have hirr := HGr.vg.irr K hlt;have hco : coR (rw_ x) m K = 2 ^ m - 1 - y - 2 ^ K ∧ y + 2 ^ K ≤ 2 ^ m - 1 := by rw [hy]; exact coR_sub HGr.vg hlt
    rw [← hy] at q0 hr;have t1 := two_pow_int m hn7;have t2 := two_pow_int K (by omega);have p1 := pow_shl m hn7;have p2 := pow_shl K (by omega);have c1 : ((2 ^ m : Nat) : Int) = 2 ^ m := by simp
    have c2 : ((2 ^ K : Nat) : Int) = 2 ^ K := by simp
    have hle := hco.2;have t3 : (y : Int) + 2 ^ K ≤ 2 ^ m - 1 := by rw [← c1, ← c2]; omega
    have s1 : IntKind.i64.wrap ((2 : Int) ^ m - 1) = 2 ^ m - 1 := Go.IntWalk.i64_in _ (by omega);have s2 : IntKind.i64.wrap ((2 : Int) ^ m - 1 - (y : Int)) = 2 ^ m - 1 - (y : Int) := Go.IntWalk.i64_in _ (by omega);have s3 : IntKind.i64.wrap ((2 : Int) ^ m - 1 - (y : Int) - 2 ^ K) = ((coR (rw_ x) m K : Nat) : Int) := by
     rw [hco.1, Go.IntWalk.i64_in _ (by omega)];omega
    have i1 : (K : Int) < m := by omega
    obtain ⟨v, hv⟩ : ∃ v, v = coR (rw_ x) m K := ⟨_, rfl⟩;rw [← hv] at s3;have Hv := hh_ hv;have HP : Hid (Own ((wr.alloc (Obj.cells #[.int .i64 (v : Int)] 3)).drew) (w1.heap.size + 1) wr.heap.size 3 1 A' K c' (fun j => .int .i64 (coR (rw_ x) m j : Nat))) := HOr.alloc _;have HXn : Hid (∀ i, i < 1 → (#[.int .i64 (v : Int)] : Array Value)[i]? = some ((fun j => Value.int .i64 ((coR (rw_ x) m j : Nat) : Int)) (K * 1 + i))) := by
     intro i hi;obtain rfl : i = 0 := by omega
     simp [Hv.out]
    have n5 : w1.heap.size < wr.heap.size := by have := HZr.out; omega
    have M0 : Hid (GC ((wr.alloc (Obj.cells #[.int .i64 (v : Int)] 3)).drew) w1.heap.size m A' K c') := (HQr.keep (br_.alloc nr_ _)).drew;have n6 : K ≤ 1000 := by omega
    clear hv hco hle t1 t2 t3 c1 c2 hr hy hirr HGr HCr;go_wp2;go_region_law
     ((refine step_push _ (by rfl) _ _ _ (by rfl) 3 _ 1 8 Tryz.underlying22 info_int rfl (by omega) (w1.heap.size + 1) wr.heap.size A' K c' (fun j => .int .i64 (coR (rw_ x) m j : Nat)) (by rfl) HP.out (by have := HZr.out; simp; omega) wr.heap.size #[.int .i64 (v : Int)] 3 (0, 0) 1 (heap_alloc_new wr _) (by rfl) rfl HXn.out (by simp [Value.oneCell']) (by omega) (by omega) ?_; intro g6 cap w6 hp; have m0 := (hp.below.cell (p := ⟨w1.heap.size, 0, none⟩) (Nat.lt_succ_self _)).trans M0.c0; have m1 := (hp.below.cell (p := ⟨w1.heap.size, 1, none⟩) (Nat.lt_succ_self _)).trans M0.c1; have m3 := (World.frozen?_of_block (hp.below.block w1.heap.size (Nat.lt_succ_self _))).trans M0.f1; have m2 := (World.frozen?_of_block (hp.below.block w1.heap.size (Nat.lt_succ_self _))).trans M0.f0))
    all_goals
     obtain ⟨W7, hW7⟩ : ∃ W7, W7 = (w6.setCell ⟨w1.heap.size, 1, none⟩ (.slice (some ⟨g6, 0, none⟩) (K + 1) cap)) := ⟨_, rfl⟩;rw [← hW7];have F7 : Fr w1.heap.size (w1.heap.size + 1) w6 W7 := by rw [hW7]; exact (Fr.refl _ _ w6).setCell (p := ⟨w1.heap.size, 1, none⟩) nr_ (Nat.lt_succ_self _) _
     have HQ6 : Hid (GC W7 w1.heap.size m (some ⟨g6, 0, none⟩) (K + 1) cap) := by rw [hW7]; constructor <;> simp [go_sem, m0, m1, m2, m3]
     have HO6 : Hid (Own W7 (w1.heap.size + 1) W7.heap.size 3 1 (some ⟨g6, 0, none⟩) (K + 1) cap (fun j => .int .i64 (coR (rw_ x) m j : Nat))) := (hp.own.keep F7 (.inr nr_)).mono nr_ F7.size;have HR6 : Hid (From w1 W7) := by rw [hW7]; exact ⟨((HRr.below.trans ((Below.refl w1.heap.size wr).alloc (by omega) _).drew).trans (hp.below.mono (by omega))).setCell (p := ⟨w1.heap.size, 1, none⟩) nr_ _⟩
     have HZ6 : Hid (w1.heap.size + 1 ≤ W7.heap.size) := by
      show _ ≤ _;have h1 := hp.below.size;have h2 : ((wr.alloc (Obj.cells #[.int .i64 (v : Int)] 3)).drew).heap.size = wr.heap.size + 1 := by simp
      have h3 := F7.size;omega
     clear hp m0 m1 m2 m3 hW7 F7 HP HXn M0;go_wp2;go_roundw;case rel => exact ⟨K + 1, some ⟨g6, 0, none⟩, cap, by omega, by go_num, HQ6, HO6, HR6, HZ6⟩
     case measure => (simp [intOf] <;> omega)
   ·obtain rfl : m = K := by omega
    have i1 : (m : Int) ≤ m := Int.le_refl _;have HDr := hh_ (HD.keep HRr.below);have d0 := HDr.c0;have d1 := HDr.c1;have d2 := HDr.f0;have d3 := HDr.f1;go_wp2;have F := fr2 wr (w.heap.size + 1) (.int .i64 (m : Int)) (.slice A' m c');have O1 := (HOr.keep F (.inr (by have := HY.out; omega))).mono nr_ F.size;have HE := (((HB.keep HRr.below).set (q := w.heap.size + 1) (by omega) (.int .i64 (m : Int)) (.slice A' m c'))).below;exact bodyPost_ret (v := .tuple #[.agg #[.int .i64 (m : Int), .slice A' m c'], .bool true]) (by simp [results, Tryz.results290, go_sem, *]) rfl ⟨m, A', m, c', by rw [Ho.out], (fun _ => ⟨rfl, rfl, ⟨coR_vg HG.vg, O1.rd⟩⟩), HE⟩
end Go.Proofs.YtdpkbfiggbcclaaGreat
