/-
  Several texts in one.
-/
import Derived.Test.YtdpkbfiggbcclaaGreatQmCloI
import Derived.Test.YtdpkbfiggbcclaaGreatQmUmbS
import Derived.Test.YtdpkbfiggbcclaaGreatQmGC
import Derived.Test.YtdpkbfiggbcclaaGreatQmJoinI
/-
-/
namespace Go.Proofs.YtdpkbfiggbcclaaGreat
open Go.RowKit
set_option maxHeartbeats 6400000
set_option maxRecDepth 100000 in
theorem l12_s {A : Option Addr} {m c : Nat} {r : Nat → Nat} : ∀ (j : Nat) (l : List Nat) (Al : Option Addr) (cl : Nat) (w : World) (lo : Nat), l.length + j = m → (∀ v ∈ l, v < m) → GV w A m c r → ON lo w Al cl l → lo ≤ w.heap.size →
 Calls Tryz.prog 350 #[.agg #[.int .i64 m, .slice A m c], .slice Al l.length cl] w fun e w' => ∃ A' c', e = .returned (.tuple #[.slice A' ((seaG m (umB r) (fun _ => true) j l).getD []).length c', .bool (seaG m (umB r) (fun _ => true) j l).isSome]) ∧ ON lo w' A' c' ((seaG m (umB r) (fun _ => true) j l).getD []) ∧ Below w.heap.size w w' := by
 intro j;induction j with
 | zero =>
   intro l Al cl w lo hlm hlt h hO hlo;have heq : ((l.length : Int) == (m : Int)) = true := by simp; omega
   have heq2 : (l.length = m) = True := by simp; omega
   have HO := hh_ hO;have HS : Hid (seaG m (umB r) (fun _ => true) 0 l = some l) := rfl;clear hO hlm hlt;obtain ⟨W, hW, HB, HG⟩ := gbW h;have HW := hh_ hW;clear hW h;obtain ⟨e0, e1⟩ := gx_ HG;replace HO := hh_ (HO.keep HB.below);go_enter Tryz.func350, Tryz.ntmps350;go_wp2_with fail
   rw [← HW.out];go_wp2;go_ret2;exact ⟨_, _, by rw [HS.out]; rfl, by rw [HS.out]; exact HO.out, HB.below⟩
 | succ j ih =>
   intro l Al cl w lo hlm hlt h hO hlo;have IH := hh_ ih;have hne : ((l.length : Int) == (m : Int)) = false := by simp; omega
   have hne2 : (l.length = m) = False := by simp; omega
   have hn7 := h.vg.n7;have Hlm := hh_ hlm;have Hlt := hh_ hlt;have hl7 : l.length ≤ 6 := by omega
   have HO := hh_ hO;clear ih hO hlm hlt;obtain ⟨W, hW, HB, HG⟩ := gbW h;have HW := hh_ hW;clear hW h;obtain ⟨e0, e1⟩ := gx_ HG;replace HO := hh_ (HO.keep HB.below);have hz := HB.below.size;have HR0 : Hid (From W W) := From.refl W;go_enter Tryz.func350, Tryz.ntmps350;go_wp2_with fail
   rw [← HW.out];go_wp2;go_loopw [6] (fun i wr => ∃ v : Nat, v ≤ m ∧ i = .int .i64 v ∧ Hid (∀ u, u < v → atG m (umB r) (fun _ => true) j l u = none) ∧ Hid (From W wr)) (fun i _ => m - (intOf i).toNat);case atStart => exact ⟨0, Nat.zero_le _, rfl, (fun u hu => absurd hu (by omega)), HR0⟩
   case round =>
    clear HR0 e0 e1;obtain ⟨v, hv, rfl, hall, HR⟩ := hrel;by_cases hvm : v < m
    ·have i1 : (v : Int) < m := by omega
     have HBr := hh_ (HB.up HR.out);have HGr := hh_ (HG.keep HR.below);have HOr := hh_ (HO.keep HR.below);have HLr : Hid (LN wr Al cl l) := HOr.ln;have hzr := HBr.below.size;have e0 := HGr.c0;have e1 := HGr.c1;go_wp2_with (first | (at_builtin; (refine wpList_copyN wr rfl _ _ rfl Al cl l HLr.out (by omega) wr.heap.size rfl rfl rfl ?_; intro A2 c2 w2 hO2 hb2)) | (at_builtin; (refine wpList_pushN w2 rfl _ _ rfl wr.heap.size w2.heap.size A2 c2 l hO2 hb2.size v rfl 1 w2.heap.size rfl rfl (by omega) ?_; intro g3 c3 w3 hO3 hb3; replace hb3 := hb2.trans hb3; clear hO2 hb2)))
     have HOx : Hid (ON wr.heap.size w3 (some ⟨g3, 0, none⟩) c3 (l ++ [v])) := ⟨by rw [List.length_append]; exact hO3⟩;have HR3 := hh_ (HR.keep hb3);have HB3 := hh_ (HBr.keep hb3);have HG3 := hh_ (HGr.keep hb3);have HO3 := hh_ (HOr.keep hb3);have hla : (l ++ [v]).length = l.length + 1 := by rw [List.length_append]; rfl
     have Hla := hh_ hla;clear hO3 hb3 HBr HGr HOr HLr HR e0 e1;have e0 := HG3.c0;have e1 := HG3.c1;go_wp2_with fail
     refine (l8Has_s Al l.length cl l v w3 w3.heap.size ⟨rfl, HO3.ln.rd⟩ (by omega)).mono ?_;rintro e w4 ⟨rfl, rfl⟩;by_cases hvl : v ∈ l
     ·have Hno : Hid (atG m (umB r) (fun _ => true) j l v = none) := atG_no (okG_in hvl);rw [decide_eq_true hvl];clear hvl;go_wp2;go_roundw;case rel =>
       refine ⟨v + 1, by omega, by go_num, fun u hu => ?_, HR3⟩;by_cases huv : u < v
       ·exact hall.out u huv
       ·obtain rfl : u = v := by omega
        exact Hno.out
      case measure => (simp [intOf] <;> omega)
     ·have Hok : Hid (okG (umB r) l v = umB r (l ++ [v])) := okG_out hvl;have Hlt2 : Hid (∀ u ∈ l ++ [v], u < m) := by
       intro u hu;rw [List.mem_append, List.mem_singleton] at hu;rcases hu with hu | rfl
       ·exact Hlt.out u hu
       ·exact hvm
      rw [decide_eq_false hvl];clear hvl;have KU := hh_ (l12Umbrella_v HG3.gv HOx.ln Hlt2.out (by rw [Hla.out]; omega));rw [Hla.out] at KU;go_wp2_with fail
      refine (KU.out).mono ?_;rintro e w1 ⟨rfl, hb1⟩;clear e0 e1;replace HR3 := hh_ (HR3.keep hb1);replace HB3 := hh_ (HB3.keep hb1);replace HO3 := hh_ (HO3.keep hb1);replace HOx := hh_ (HOx.keep hb1);replace HG3 := hh_ (HG3.keep hb1);clear hb1;have e0 := HG3.c0;have e1 := HG3.c1;cases hu : umB r (l ++ [v])
      ·have Hno : Hid (atG m (umB r) (fun _ => true) j l v = none) := atG_no (Hok.trans hu);clear hu;go_wp2;go_roundw;case rel =>
        refine ⟨v + 1, by omega, by go_num, fun u hu => ?_, HR3⟩;by_cases huv : u < v
        ·exact hall.out u huv
        ·obtain rfl : u = v := by omega
         exact Hno.out
       case measure => (simp [intOf] <;> omega)
      ·have Hyes : Hid (atG m (umB r) (fun _ => true) j l v = seaG m (umB r) (fun _ => true) j (l ++ [v])) := atG_yes (Hok.trans hu);have KI := hh_ (IH.out (l ++ [v]) (some ⟨g3, 0, none⟩) c3 w1 lo (by rw [Hla.out]; have := Hlm.out; omega) Hlt2.out HG3.gv (HOx.mono (by omega)) (by have := HB3.below.size; omega));rw [Hla.out] at KI;obtain ⟨so, hso⟩ : ∃ so, so = seaG m (umB r) (fun _ => true) j (l ++ [v]) := ⟨_, rfl⟩;have Hso := hh_ hso;rw [← hso] at KI Hyes;clear hu hso HO3;go_wp2_with fail
       refine (KI.out).mono ?_;rintro e w2 ⟨A5, c5, rfl, ho5, hb2⟩;clear e0 e1;replace HR3 := hh_ (HR3.keep hb2);replace HB3 := hh_ (HB3.keep hb2);replace HG3 := hh_ (HG3.keep hb2);clear hb2;have e0 := HG3.c0;have e1 := HG3.c1;have HO5 := hh_ ho5;clear ho5 KI;cases so with
       | none =>
         go_wp2;go_roundw;case rel =>
          refine ⟨v + 1, by omega, by go_num, fun u hu => ?_, HR3⟩;by_cases huv : u < v
          ·exact hall.out u huv
          ·obtain rfl : u = v := by omega
           exact Hyes.out
         case measure => (simp [intOf] <;> omega)
       | some x =>
         have Hs : Hid (seaG m (umB r) (fun _ => true) (j + 1) l = some x) := seaG_some hvm Hyes.out hall.out;go_wp2;go_ret2;exact ⟨_, _, by rw [Hs.out]; rfl, by rw [Hs.out]; exact HO5.out, HB3.below⟩
    ·have Hn : Hid (seaG m (umB r) (fun _ => true) (j + 1) l = none) := seaG_none fun u hu => hall.out u (by omega)
     have i1 : (m : Int) ≤ v := by omega
     have HBr := hh_ (HB.up HR.out);have HGr := hh_ (HG.keep HR.below);have e0 := HGr.c0;have hzr := HBr.below.size;have HON : Hid (ON wr.heap.size (wr.alloc (Obj.cells #[] 3)) (some ⟨wr.heap.size, 0, none⟩) 0 []) := ON.nil wr;have HBz := hh_ (HBr.alloc_ (Obj.cells #[] 3));go_wp2;go_ret2;exact ⟨_, _, by rw [Hn.out]; rfl, by rw [Hn.out]; exact HON.mono (by omega), HBz.below⟩
section
variable {A : Option Addr} {m c : Nat} {r : Nat → Nat}
set_option maxRecDepth 100000 in
theorem UmbrellaOf_sv {w : World} (h : GV w A m c r) : Calls Tryz.prog 271 #[.agg #[.int .i64 m, .slice A m c]] w (lsQ w (umO r m)) := by
 obtain ⟨W, hW, HB, HG⟩ := gbW h;have HW := hh_ hW;clear hW h;obtain ⟨e0, e1⟩ := gx_ HG;have HZ : Hid (w.heap.size ≤ W.heap.size) := HB.below.size;go_enter Tryz.func271, Tryz.ntmps271;go_wp2_with fail
 rw [← HW.out];refine (IsGraph_sv HG.gv).mono ?_;rintro e w1 ⟨rfl, hb1⟩;clear HW;clear e0 e1;obtain ⟨HB, HG, e0, e1⟩ := kG_ HB HG hb1;clear hb1;have HZ1 : Hid (w.heap.size ≤ w1.heap.size) := HB.below.size;have HON : Hid (ON w1.heap.size (w1.alloc (Obj.cells #[] 3)) (some ⟨w1.heap.size, 0, none⟩) 0 []) := ON.nil w1;have HG2 : Hid (GBox (w1.alloc (Obj.cells #[] 3)) w.heap.size A m c r) := HG.keep (br_.alloc nr_ _);have HB2 : Hid (From w (w1.alloc (Obj.cells #[] 3))) := HB.alloc_ _;have KI := hh_ (l12_s m [] (some ⟨w1.heap.size, 0, none⟩) 0 (w1.alloc (Obj.cells #[] 3)) w.heap.size (by simp) (fun v hv => by cases hv) HG2.gv (HON.mono HZ1.out) HB2.below.size);have HU : Hid (seaG m (umB r) (fun _ => true) m [] = umO r m) := rfl;rw [HU.out] at KI;clear HG2 HU;go_wp2_with fail
 refine KI.mono ?_;rintro e w2 ⟨A5, c5, rfl, ho5, hb5⟩;have HO5 := hh_ ho5;have HB5 : Hid (From w w2) := HB2.keep hb5;clear ho5 hb5 KI HON HB2 e0 e1;go_wp2;go_ret2;exact ⟨_, _, rfl, HO5.out, HB5.below⟩
end
section
variable (sz : Int) (A : Option Addr) (m c : Nat) (x : Nat → Int) (w : World)
end
set_option maxHeartbeats 6400000
section
variable (sz : Int) (A : Option Addr) (m c : Nat) (x : Nat → Int) (Al : Option Addr) (n cl : Nat) (l : List Int) (w : World)
set_option maxRecDepth 100000 in
theorem IsInducedPath_s (h : GA w A m c x) (hl : LI w Al n cl l) (hm : m ≤ 1048576) (hn : n ≤ 1048576) :
 Calls Tryz.prog 241 #[.agg #[.int .i64 sz, .slice A m c], .slice Al n cl] w fun e w' => e = .returned (.bool (ipB sz m x l)) ∧ Below w.heap.size w w' := by
 obtain ⟨W, hW⟩ : ∃ W, W = (w.alloc (Obj.cells #[.int .i64 sz, .slice A m c] 28)) := ⟨_, rfl⟩;have HB : Hid (From w W) := by rw [hW]; exact From.alloc _ _
 have HK := hh_ (h.keep HB.below);have HL := hh_ (hl.keep HB.below);have HC : Hid (GC W w.heap.size sz A m c) := by rw [hW]; exact GC.new _ _ _ _ _
 have HW := hh_ hW;have HN := hh_ hl.len;clear hW h hl;go_enter Tryz.func241, Tryz.ntmps241;obtain ⟨e0, e1⟩ := gc_ HC;go_wp2_with fail
 rw [← HW.out];refine (l4Distinct_z sz A m c x Al n cl l W HK HL.out hm hn).mono ?_;rintro e w1 ⟨rfl, hb1⟩;clear HW;clear e0 e1;replace HB := hh_ (HB.keep hb1);replace HK := hh_ (HK.keep hb1);replace HL := hh_ (HL.keep hb1);replace HC := hh_ (HC.keep hb1);clear hb1;obtain ⟨e0, e1⟩ := gc_ HC;cases hv : vrB sz m x l
 ·have hno : Hid (ipB sz m x l = false) := by show _ = _; unfold ipB; rw [ajB_bad hv, Bool.and_false]
  clear hv;go_wp2;go_ret;exact ⟨ret_bool hno.symm, HB.below⟩
 ·obtain ⟨ho, hV⟩ := vrB_parts hv;obtain ⟨_, es, vg0, _⟩ := okB_ok' ho;subst es;have hn7 := vg0.n7;have HG : Hid (GV w1 A m c (rw_ x)) := HK.gv ho;have HV := hh_ hV;have Hv := hh_ hv;have hn7' : n ≤ 7 := by rw [HN.out]; have := hV.len; omega
  clear hv ho hV vg0;by_cases h0 : n = 0
  ·have hno : Hid (ipB (m : Int) m x l = false) := by show _ = _; unfold ipB; rw [decide_eq_false (by rw [← HN.out]; omega)]; rfl
   have i9 : ((n : Int) == 0) = true := by simp; omega
   go_wp2;go_ret;exact ⟨ret_bool hno.symm, HB.below⟩
  have i9 : ((n : Int) == 0) = false := by simp; omega
  have h0p : 0 < n := by omega
  clear h0;go_wp2;go_loopw [5] (fun k wr => ∃ K : Nat, K ≤ n ∧ k = .int .i64 K ∧ Hid (∀ k, k < K → ∀ i, i < k → edZ x (l.getD i 0) (l.getD k 0) = pathJ i k) ∧ Hid (From w1 wr)) (fun k _ => n - (intOf k).toNat);case atStart => exact ⟨0, Nat.zero_le _, rfl, fun k hk => absurd hk (by omega), From.refl _⟩
  case round =>
   obtain ⟨K, hK, rfl, hall, HR⟩ := hrel;by_cases hlt : K < n
   ·have i1 : (K : Int) < n := by omega
    have HRo := HR;have Hlt := hh_ hlt;go_wp2;go_loopw [6] (fun i wz => ∃ j : Nat, j ≤ K ∧ i = .int .i64 j ∧ Hid (∀ i, i < j → edZ x (l.getD i 0) (l.getD K 0) = pathJ i K) ∧ Hid (From w1 wz)) (fun i _ => K - (intOf i).toNat);case atStart => exact ⟨0, Nat.zero_le _, rfl, fun i hi => absurd hi (by omega), HRo⟩
    case round =>
     clear HR HRo;obtain ⟨j, hj, rfl, hin, HR⟩ := hrel;by_cases hjK : j < K
     ·have i2 : (j : Int) < K := by omega
      have HLr := hh_ (HL.keep HR.below);have HGr := hh_ (HG.keep HR.below);have HCr := hh_ (HC.keep HR.below);have HBr := hh_ (HB.keep HR.below);obtain ⟨b2, o2, rfl⟩ := HLr.addr (by omega);have p0 := HLr.at (j := j) (by omega);have p1 := HLr.at (j := K) (by omega);have hmj := getD_mem (l := l) (k := j) (by rw [← HN.out]; omega);have hmk := getD_mem (l := l) (k := K) (by rw [← HN.out]; omega);obtain ⟨a0, a1⟩ := HV.out.2 _ hmj;obtain ⟨d0, d1⟩ := HV.out.2 _ hmk;obtain ⟨u, hu⟩ := Int.eq_ofNat_of_zero_le a0;obtain ⟨v, hvv⟩ := Int.eq_ofNat_of_zero_le d0;have Hed : Hid (edZ x (l.getD j 0) (l.getD K 0) = (rw_ x u).testBit v) := by show _ = _; unfold edZ; rw [hu, hvv, Int.toNat_natCast, Int.toNat_natCast]
      rw [hu] at p0 a1;rw [hvv] at p1 d1;have hum : u < m := by omega
      have hvm : v < m := by omega
      have hsym : (rw_ x v).testBit u = (rw_ x u).testBit v := HGr.vg.sym _ _ hvm hum;obtain ⟨t, ht⟩ : ∃ t, t = (rw_ x u).testBit v := ⟨_, rfl⟩;rw [← ht] at Hed hsym;have KE : Hid (∀ z : World, Below wr.heap.size wr z → Calls Tryz.prog 85 #[.agg #[.int .i64 m, .slice A m c], .int .i64 v, .int .i64 u] z fun e w' => e = .returned (.bool t) ∧ Below z.heap.size z w') := fun z hz => by
       have := l2Edge_v (HGr.keep hz) hvm hum;rwa [hsym] at this
      have i3 : (j : Int) < n := by omega
      have i4 : (K : Int) < n := by omega
      have s1 : IntKind.i64.wrap ((K : Int) - 1) = (K : Int) - 1 := Go.IntWalk.i64_in _ (by omega);have s2 : IntKind.i64.wrap ((n : Int) - 1) = (n : Int) - 1 := Go.IntWalk.i64_in _ (by omega);clear hmj hmk hu hvv ht a0 d0 hsym;have e0 := HCr.c0;have e1 := HCr.c1;by_cases h1 : j + 1 = K
      ·have q1 : ((j : Int) == (K : Int) - 1) = true := by simp; omega
       have HJ : Hid (pathJ j K = true) := by show _ = _; unfold pathJ; simp; omega
       go_wp2;obtain ⟨HSC, HZ0, HS1⟩ := hsc4 e0 e1 p0 p1;have KR1 : Hid (∀ z : World, Below wr.heap.size wr z → _) := fun z hz => KE.out z hz
       go_region_held3 (fun z => Below wr.heap.size wr z ∧ z.cell? ⟨w.heap.size, 0, none⟩ = some (.int .i64 m) ∧ z.cell? ⟨w.heap.size, 1, none⟩ = some (.slice A m c) ∧ z.cell? ⟨b2, o2 + j, none⟩ = some (.int .i64 u) ∧ z.cell? ⟨b2, o2 + K, none⟩ = some (.int .i64 v))
        (first | exact HS1.out | assumption | exact HSC.out _ hz2 | fail)
        (first | (go_at_call 85; ((with_reducible refine (KR1.out _ HZ0.out).mono ?_); rintro e w2 ⟨rfl, hb2⟩; have hz2 := bl_trans HZ0.out hb2)))
       clear e0 e1;replace HCr := hh_ (HCr.keep hz2);replace HR := hh_ (HR.keep hz2);replace HBr := hh_ (HBr.keep hz2);clear hb2 hz2 HSC HZ0 HS1 KR1;have e0 := HCr.c0;have e1 := HCr.c1;cases t
       ·have hno : Hid (ajB (m : Int) m x l pathJ = false) := ajB_no (i := j) (k := K) hjK (by rw [← HN.out]; exact Hlt.out) (by rw [Hed.out, HJ.out]; decide);have hno2 : Hid (ipB (m : Int) m x l = false) := by show _ = _; unfold ipB; rw [hno.out, Bool.and_false]
        go_wp2;go_ret;exact ⟨ret_bool hno2.symm, HBr.below⟩
       ·go_wp2;go_roundw;case rel =>
         refine ⟨j + 1, by omega, by go_num, fun i hi => ?_, HR⟩;by_cases hij : i < j
         ·exact hin.out i hij
         ·obtain rfl : i = j := by omega
          rw [Hed.out, HJ.out]
        case measure => (simp [intOf] <;> omega)
      ·have q1 : ((j : Int) == (K : Int) - 1) = false := by simp; omega
       have HJ : Hid (pathJ j K = false) := by show _ = _; unfold pathJ; simp; omega
       go_wp2;obtain ⟨HSC, HZ0, HS1⟩ := hsc4 e0 e1 p0 p1;have KR1 : Hid (∀ z : World, Below wr.heap.size wr z → _) := fun z hz => KE.out z hz
       go_region_held3 (fun z => Below wr.heap.size wr z ∧ z.cell? ⟨w.heap.size, 0, none⟩ = some (.int .i64 m) ∧ z.cell? ⟨w.heap.size, 1, none⟩ = some (.slice A m c) ∧ z.cell? ⟨b2, o2 + j, none⟩ = some (.int .i64 u) ∧ z.cell? ⟨b2, o2 + K, none⟩ = some (.int .i64 v))
        (first | exact HS1.out | assumption | exact HSC.out _ hz3 | fail)
        (first | (go_at_call 85; ((with_reducible refine (KR1.out _ HZ0.out).mono ?_); rintro e w3 ⟨rfl, hb3⟩; have hz3 := bl_trans HZ0.out hb3)))
       clear e0 e1;replace HCr := hh_ (HCr.keep hz3);replace HR := hh_ (HR.keep hz3);replace HBr := hh_ (HBr.keep hz3);clear hb3 hz3 HSC HZ0 HS1 KR1;have e0 := HCr.c0;have e1 := HCr.c1;cases t
       ·go_wp2;go_roundw;case rel =>
         refine ⟨j + 1, by omega, by go_num, fun i hi => ?_, HR⟩;by_cases hij : i < j
         ·exact hin.out i hij
         ·obtain rfl : i = j := by omega
          rw [Hed.out, HJ.out]
        case measure => (simp [intOf] <;> omega)
       ·have hno : Hid (ajB (m : Int) m x l pathJ = false) := ajB_no (i := j) (k := K) hjK (by rw [← HN.out]; exact Hlt.out) (by rw [Hed.out, HJ.out]; decide);have hno2 : Hid (ipB (m : Int) m x l = false) := by show _ = _; unfold ipB; rw [hno.out, Bool.and_false]
        go_wp2;go_ret;exact ⟨ret_bool hno2.symm, HBr.below⟩
     ·obtain rfl : j = K := by omega
      go_wp2;go_roundw;case rel =>
       refine ⟨j + 1, by omega, by go_num, fun k hk i hi => ?_, HR⟩;by_cases hkj : k < j
       ·exact hall.out k hkj i hi
       ·obtain rfl : k = j := by omega
        exact hin.out i hi
      case measure => (simp [intOf] <;> omega)
   ·have hyes : Hid (ajB (m : Int) m x l pathJ = true) := ajB_yes Hv.out fun k hk i hi => hall.out k (by rw [← HN.out] at hk; omega) i hi
    have hyes2 : Hid (ipB (m : Int) m x l = true) := by show _ = _; unfold ipB; rw [hyes.out, decide_eq_true (by rw [← HN.out]; omega)]; rfl
    have i1 : (n : Int) ≤ K := by omega
    have HBr := hh_ (HB.keep HR.below);go_wp2;go_ret;exact ⟨ret_bool hyes2.symm, HBr.below⟩
set_option maxRecDepth 100000 in
theorem IsHole_s (h : GA w A m c x) (hl : LI w Al n cl l) (hm : m ≤ 1048576) (hn : n ≤ 1048576) :
 Calls Tryz.prog 238 #[.agg #[.int .i64 sz, .slice A m c], .slice Al n cl] w fun e w' => e = .returned (.bool (hoB sz m x l)) ∧ Below w.heap.size w w' := by
 obtain ⟨W, hW⟩ : ∃ W, W = (w.alloc (Obj.cells #[.int .i64 sz, .slice A m c] 28)) := ⟨_, rfl⟩;have HB : Hid (From w W) := by rw [hW]; exact From.alloc _ _
 have HK := hh_ (h.keep HB.below);have HL := hh_ (hl.keep HB.below);have HC : Hid (GC W w.heap.size sz A m c) := by rw [hW]; exact GC.new _ _ _ _ _
 have HW := hh_ hW;have HN := hh_ hl.len;clear hW h hl;go_enter Tryz.func238, Tryz.ntmps238;obtain ⟨e0, e1⟩ := gc_ HC;go_wp2_with fail
 rw [← HW.out];refine (l4Distinct_z sz A m c x Al n cl l W HK HL.out hm hn).mono ?_;rintro e w1 ⟨rfl, hb1⟩;clear HW;clear e0 e1;replace HB := hh_ (HB.keep hb1);replace HK := hh_ (HK.keep hb1);replace HL := hh_ (HL.keep hb1);replace HC := hh_ (HC.keep hb1);clear hb1;obtain ⟨e0, e1⟩ := gc_ HC;cases hv : vrB sz m x l
 ·have hno : Hid (hoB sz m x l = false) := by show _ = _; unfold hoB; rw [ajB_bad hv, Bool.and_false]
  clear hv;go_wp2;go_ret;exact ⟨ret_bool hno.symm, HB.below⟩
 ·obtain ⟨ho, hV⟩ := vrB_parts hv;obtain ⟨_, es, vg0, _⟩ := okB_ok' ho;subst es;have hn7 := vg0.n7;have HG : Hid (GV w1 A m c (rw_ x)) := HK.gv ho;have HV := hh_ hV;have Hv := hh_ hv;have hn7' : n ≤ 7 := by rw [HN.out]; have := hV.len; omega
  clear hv ho hV vg0;by_cases h0 : n < 4
  ·have hno : Hid (hoB (m : Int) m x l = false) := by show _ = _; unfold hoB; rw [decide_eq_false (by rw [← HN.out]; omega)]; rfl
   have i9 : (n : Int) < 4 := by omega
   go_wp2;go_ret;exact ⟨ret_bool hno.symm, HB.below⟩
  have i9 : 4 ≤ (n : Int) := by omega
  have h0p : 4 ≤ n := by omega
  clear h0;go_wp2;go_loopw [5] (fun k wr => ∃ K : Nat, K ≤ n ∧ k = .int .i64 K ∧ Hid (∀ k, k < K → ∀ i, i < k → edZ x (l.getD i 0) (l.getD k 0) = holeJ n i k) ∧ Hid (From w1 wr)) (fun k _ => n - (intOf k).toNat);case atStart => exact ⟨0, Nat.zero_le _, rfl, fun k hk => absurd hk (by omega), From.refl _⟩
  case round =>
   obtain ⟨K, hK, rfl, hall, HR⟩ := hrel;by_cases hlt : K < n
   ·have i1 : (K : Int) < n := by omega
    have HRo := HR;have Hlt := hh_ hlt;go_wp2;go_loopw [6] (fun i wz => ∃ j : Nat, j ≤ K ∧ i = .int .i64 j ∧ Hid (∀ i, i < j → edZ x (l.getD i 0) (l.getD K 0) = holeJ n i K) ∧ Hid (From w1 wz)) (fun i _ => K - (intOf i).toNat);case atStart => exact ⟨0, Nat.zero_le _, rfl, fun i hi => absurd hi (by omega), HRo⟩
    case round =>
     clear HR HRo;obtain ⟨j, hj, rfl, hin, HR⟩ := hrel;by_cases hjK : j < K
     ·have i2 : (j : Int) < K := by omega
      have HLr := hh_ (HL.keep HR.below);have HGr := hh_ (HG.keep HR.below);have HCr := hh_ (HC.keep HR.below);have HBr := hh_ (HB.keep HR.below);obtain ⟨b2, o2, rfl⟩ := HLr.addr (by omega);have p0 := HLr.at (j := j) (by omega);have p1 := HLr.at (j := K) (by omega);have hmj := getD_mem (l := l) (k := j) (by rw [← HN.out]; omega);have hmk := getD_mem (l := l) (k := K) (by rw [← HN.out]; omega);obtain ⟨a0, a1⟩ := HV.out.2 _ hmj;obtain ⟨d0, d1⟩ := HV.out.2 _ hmk;obtain ⟨u, hu⟩ := Int.eq_ofNat_of_zero_le a0;obtain ⟨v, hvv⟩ := Int.eq_ofNat_of_zero_le d0;have Hed : Hid (edZ x (l.getD j 0) (l.getD K 0) = (rw_ x u).testBit v) := by show _ = _; unfold edZ; rw [hu, hvv, Int.toNat_natCast, Int.toNat_natCast]
      rw [hu] at p0 a1;rw [hvv] at p1 d1;have hum : u < m := by omega
      have hvm : v < m := by omega
      have hsym : (rw_ x v).testBit u = (rw_ x u).testBit v := HGr.vg.sym _ _ hvm hum;obtain ⟨t, ht⟩ : ∃ t, t = (rw_ x u).testBit v := ⟨_, rfl⟩;rw [← ht] at Hed hsym;have KE : Hid (∀ z : World, Below wr.heap.size wr z → Calls Tryz.prog 85 #[.agg #[.int .i64 m, .slice A m c], .int .i64 v, .int .i64 u] z fun e w' => e = .returned (.bool t) ∧ Below z.heap.size z w') := fun z hz => by
       have := l2Edge_v (HGr.keep hz) hvm hum;rwa [hsym] at this
      have i3 : (j : Int) < n := by omega
      have i4 : (K : Int) < n := by omega
      have s1 : IntKind.i64.wrap ((K : Int) - 1) = (K : Int) - 1 := Go.IntWalk.i64_in _ (by omega);have s2 : IntKind.i64.wrap ((n : Int) - 1) = (n : Int) - 1 := Go.IntWalk.i64_in _ (by omega);clear hmj hmk hu hvv ht a0 d0 hsym;have e0 := HCr.c0;have e1 := HCr.c1;by_cases h1 : j + 1 = K
      ·have q1 : ((j : Int) == (K : Int) - 1) = true := by simp; omega
       have HJ : Hid (holeJ n j K = true) := by show _ = _; unfold holeJ; rw [show (K == j + 1) = true by simp; omega]; rfl
       go_wp2;obtain ⟨HSC, HZ0, HS1⟩ := hsc4 e0 e1 p0 p1;have KR1 : Hid (∀ z : World, Below wr.heap.size wr z → _) := fun z hz => KE.out z hz
       refine wpH HS1.out (fun hHeld => ?_);refine pcY 0 ?_;iterate 8 (refine ptY ?_)
       refine pcY 10 ?_;iterate 3 (refine ptY ?_)
       refine w1H 9 (fun K hK => ?_);go_simp;go_at_call 85; refine (KR1.out _ HZ0.out).mono ?_
       rintro e w2 ⟨rfl, hb2⟩;have hz2 := bl_trans HZ0.out hb2;refine hK.out _ _ (HSC.out _ hz2) (fun hHeld => ?_);clear hK K;try simp only [Act.put, sl0, sl1, sl2]
       refine pcY 14 ?_;iterate 9 (refine ptN ?_)
       iterate 2 (refine ptY ?_)
       refine wpAnyH_done (by kernel_rfl) ?_ _;clear e0 e1;replace HCr := hh_ (HCr.keep hz2);replace HR := hh_ (HR.keep hz2);replace HBr := hh_ (HBr.keep hz2);clear hb2 hz2 HSC HZ0 HS1 KR1;have e0 := HCr.c0;have e1 := HCr.c1;cases t
       ·have hno : Hid (ajB (m : Int) m x l (holeJ l.length) = false) := ajB_no (i := j) (k := K) hjK (by rw [← HN.out]; exact Hlt.out) (by rw [Hed.out, ← HN.out, HJ.out]; decide);have hno2 : Hid (hoB (m : Int) m x l = false) := by show _ = _; unfold hoB; rw [hno.out, Bool.and_false]
        go_wp2;go_ret;exact ⟨ret_bool hno2.symm, HBr.below⟩
       ·go_wp2;go_roundw;case rel =>
         refine ⟨j + 1, by omega, by go_num, fun i hi => ?_, HR⟩;by_cases hij : i < j
         ·exact hin.out i hij
         ·obtain rfl : i = j := by omega
          rw [Hed.out, HJ.out]
        case measure => (simp [intOf] <;> omega)
      ·by_cases h2 : j = 0
       ·by_cases h3 : K + 1 = n
        ·subst h2;have i2 : (0 : Int) < K := by omega
         have i3 : (0 : Int) < n := by omega
         have i5 : 0 < n := by omega
         have p0 : wr.cell? ⟨b2, o2, none⟩ = some (.int .i64 u) := p0;have q1 : ((0 : Int) == (K : Int) - 1) = false := by simp; omega
         have q2 : ((0 : Int) == 0) = true := rfl;have q3 : ((K : Int) == (n : Int) - 1) = true := by simp; omega
         have HJ : Hid (holeJ n 0 K = true) := by show _ = _; unfold holeJ; rw [show (0 == 0) = true by simp, show (K + 1 == n) = true by simpa using h3, Bool.and_self, Bool.or_true]
         go_wp2;obtain ⟨HSC, HZ0, HS1⟩ := hsc4 e0 e1 p0 p1;have KR1 : Hid (∀ z : World, Below wr.heap.size wr z → _) := fun z hz => KE.out z hz
         refine wpH HS1.out (fun hHeld => ?_);refine pcY 0 ?_;iterate 8 (refine ptY ?_)
         refine pcY 10 ?_;iterate 3 (refine ptY ?_)
         refine w1H 9 (fun K hK => ?_);go_simp;go_at_call 85; refine (KR1.out _ HZ0.out).mono ?_
         rintro e w3 ⟨rfl, hb3⟩;have hz3 := bl_trans HZ0.out hb3;refine hK.out _ _ (HSC.out _ hz3) (fun hHeld => ?_);clear hK K;try simp only [Act.put, sl0, sl1, sl2]
         refine pcY 14 ?_;iterate 11 (refine ptY ?_)
         refine wpAnyH_done (by kernel_rfl) ?_ _;clear e0 e1;replace HCr := hh_ (HCr.keep hz3);replace HR := hh_ (HR.keep hz3);replace HBr := hh_ (HBr.keep hz3);clear hb3 hz3 HSC HZ0 HS1 KR1;have e0 := HCr.c0;have e1 := HCr.c1;cases t
         ·have hno : Hid (ajB (m : Int) m x l (holeJ l.length) = false) := ajB_no (i := 0) (k := K) hjK (by rw [← HN.out]; exact Hlt.out) (by rw [Hed.out, ← HN.out, HJ.out]; decide);have hno2 : Hid (hoB (m : Int) m x l = false) := by show _ = _; unfold hoB; rw [hno.out, Bool.and_false]
          go_wp2;go_ret;exact ⟨ret_bool hno2.symm, HBr.below⟩
         ·go_wp2;go_roundw;case rel =>
           refine ⟨0 + 1, by omega, by go_num, fun i hi => ?_, HR⟩;by_cases hij : i < 0
           ·exact hin.out i hij
           ·obtain rfl : i = 0 := by omega
            rw [Hed.out, HJ.out]
          case measure => (simp [intOf] <;> omega)
        ·subst h2;have i2 : (0 : Int) < K := by omega
         have i3 : (0 : Int) < n := by omega
         have i5 : 0 < n := by omega
         have p0 : wr.cell? ⟨b2, o2, none⟩ = some (.int .i64 u) := p0;have q1 : ((0 : Int) == (K : Int) - 1) = false := by simp; omega
         have q2 : ((0 : Int) == 0) = true := rfl;have q3 : ((K : Int) == (n : Int) - 1) = false := by simp; omega
         have HJ : Hid (holeJ n 0 K = false) := by show _ = _; unfold holeJ; rw [show (K == 0 + 1) = false by simp; omega, show (K + 1 == n) = false by simpa using h3, Bool.and_false, Bool.or_false]
         go_wp2;obtain ⟨HSC, HZ0, HS1⟩ := hsc4 e0 e1 p0 p1;have KR1 : Hid (∀ z : World, Below wr.heap.size wr z → _) := fun z hz => KE.out z hz
         refine wpH HS1.out (fun hHeld => ?_);refine pcY 0 ?_;iterate 8 (refine ptY ?_)
         refine pcY 10 ?_;iterate 3 (refine ptY ?_)
         refine w1H 9 (fun K hK => ?_);go_simp;go_at_call 85; refine (KR1.out _ HZ0.out).mono ?_
         rintro e w4 ⟨rfl, hb4⟩;have hz4 := bl_trans HZ0.out hb4;refine hK.out _ _ (HSC.out _ hz4) (fun hHeld => ?_);clear hK K;try simp only [Act.put, sl0, sl1, sl2]
         refine pcY 14 ?_;iterate 11 (refine ptY ?_)
         refine wpAnyH_done (by kernel_rfl) ?_ _;clear e0 e1;replace HCr := hh_ (HCr.keep hz4);replace HR := hh_ (HR.keep hz4);replace HBr := hh_ (HBr.keep hz4);clear hb4 hz4 HSC HZ0 HS1 KR1;have e0 := HCr.c0;have e1 := HCr.c1;cases t
         ·go_wp2;go_roundw;case rel =>
           refine ⟨0 + 1, by omega, by go_num, fun i hi => ?_, HR⟩;by_cases hij : i < 0
           ·exact hin.out i hij
           ·obtain rfl : i = 0 := by omega
            rw [Hed.out, HJ.out]
          case measure => (simp [intOf] <;> omega)
         ·have hno : Hid (ajB (m : Int) m x l (holeJ l.length) = false) := ajB_no (i := 0) (k := K) hjK (by rw [← HN.out]; exact Hlt.out) (by rw [Hed.out, ← HN.out, HJ.out]; decide);have hno2 : Hid (hoB (m : Int) m x l = false) := by show _ = _; unfold hoB; rw [hno.out, Bool.and_false]
          go_wp2;go_ret;exact ⟨ret_bool hno2.symm, HBr.below⟩
       ·have q1 : ((j : Int) == (K : Int) - 1) = false := by simp; omega
        have q2 : ((j : Int) == 0) = false := by simp; omega
        have HJ : Hid (holeJ n j K = false) := by show _ = _; unfold holeJ; rw [show (K == j + 1) = false by simp; omega, show (j == 0) = false by simpa using h2, Bool.false_and, Bool.or_false]
        go_wp2;obtain ⟨HSC, HZ0, HS1⟩ := hsc4 e0 e1 p0 p1;have KR1 : Hid (∀ z : World, Below wr.heap.size wr z → _) := fun z hz => KE.out z hz
        refine wpH HS1.out (fun hHeld => ?_);refine pcY 0 ?_;iterate 8 (refine ptY ?_)
        refine pcY 10 ?_;iterate 3 (refine ptY ?_)
        refine w1H 9 (fun K hK => ?_);go_simp;go_at_call 85; refine (KR1.out _ HZ0.out).mono ?_
        rintro e w5 ⟨rfl, hb5⟩;have hz5 := bl_trans HZ0.out hb5;refine hK.out _ _ (HSC.out _ hz5) (fun hHeld => ?_);clear hK K;try simp only [Act.put, sl0, sl1, sl2]
        refine pcY 14 ?_;iterate 3 (refine ptY ?_)
        iterate 5 (refine ptN ?_)
        iterate 3 (refine ptY ?_)
        refine wpAnyH_done (by kernel_rfl) ?_ _;clear e0 e1;replace HCr := hh_ (HCr.keep hz5);replace HR := hh_ (HR.keep hz5);replace HBr := hh_ (HBr.keep hz5);clear hb5 hz5 HSC HZ0 HS1 KR1;have e0 := HCr.c0;have e1 := HCr.c1;cases t
        ·go_wp2;go_roundw;case rel =>
          refine ⟨j + 1, by omega, by go_num, fun i hi => ?_, HR⟩;by_cases hij : i < j
          ·exact hin.out i hij
          ·obtain rfl : i = j := by omega
           rw [Hed.out, HJ.out]
         case measure => (simp [intOf] <;> omega)
        ·have hno : Hid (ajB (m : Int) m x l (holeJ l.length) = false) := ajB_no (i := j) (k := K) hjK (by rw [← HN.out]; exact Hlt.out) (by rw [Hed.out, ← HN.out, HJ.out]; decide);have hno2 : Hid (hoB (m : Int) m x l = false) := by show _ = _; unfold hoB; rw [hno.out, Bool.and_false]
         go_wp2;go_ret;exact ⟨ret_bool hno2.symm, HBr.below⟩
     ·obtain rfl : j = K := by omega
      go_wp2;go_roundw;case rel =>
       refine ⟨j + 1, by omega, by go_num, fun k hk i hi => ?_, HR⟩;by_cases hkj : k < j
       ·exact hall.out k hkj i hi
       ·obtain rfl : k = j := by omega
        exact hin.out i hi
      case measure => (simp [intOf] <;> omega)
   ·have hyes : Hid (ajB (m : Int) m x l (holeJ l.length) = true) := ajB_yes Hv.out fun k hk i hi => (by rw [← HN.out]; exact hall.out k (by rw [← HN.out] at hk; omega) i hi)
    have hyes2 : Hid (hoB (m : Int) m x l = true) := by show _ = _; unfold hoB; rw [hyes.out, decide_eq_true (by rw [← HN.out]; omega)]; rfl
    have i1 : (n : Int) ≤ K := by omega
    have HBr := hh_ (HB.keep HR.below);go_wp2;go_ret;exact ⟨ret_bool hyes2.symm, HBr.below⟩
end
end Go.Proofs.YtdpkbfiggbcclaaGreat
