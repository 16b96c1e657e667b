/-
-/
import Derived.Test.YtppkokgiojcgbaaGreatDoorQxLexP
namespace Go.Proofs.YtppkokgiojcgbaaGreatDoor
open Go.RowKit
def ivB (sz : Int) (l : List Int) : Bool := l.all fun v => decide (0 ≤ v ∧ v < sz)
theorem ivB_no {sz : Int} {l : List Int} {k : Nat} (hk : k < l.length) (h : ¬(0 ≤ l.getD k 0 ∧ l.getD k 0 < sz)) : ivB sz l = false := by
 unfold ivB
 rw [List.all_eq_false]
 exact ⟨l.getD k 0, getD_mem hk, by simpa using h⟩
theorem ivB_yes {sz : Int} {l : List Int} (h : ∀ k, k < l.length → 0 ≤ l.getD k 0 ∧ l.getD k 0 < sz) : ivB sz l = true := by
 unfold ivB
 rw [List.all_eq_true]
 intro v hv
 obtain ⟨i, hi, rfl⟩ := List.mem_iff_getElem.1 hv
 have := h i hi
 simpa [List.getD, hi] using this
set_option maxHeartbeats 1000000 in
theorem isVertex_z (sz : Int) (A : Option Addr) (m c : Nat) (x : Nat → Int) (Al : Option Addr) (n cl : Nat) (l : List Int) (w : World) (h : GA w A m c x) (hl : LI w Al n cl l) (hm : m ≤ 1048576) (hn : n ≤ 1048576) :
 Calls Tryz.prog 171 #[.agg #[.int .i64 sz, .slice A m c], .slice Al n cl] w fun e w' => e = .returned (.bool (ivB sz l && okB sz m x)) ∧ Below w.heap.size w w' := by
 obtain ⟨W, hW⟩ : ∃ W : World, W = (w.alloc (Obj.cells #[Value.int IntKind.i64 sz, Value.slice A m c] 29)) := ⟨_, rfl⟩
 have HB : Hid (From w W) := by rw [hW]; exact From.alloc _ _
 have HK := Lib.hid (h.keep HB.out.below)
 have HL := Lib.hid (hl.keep HB.out.below)
 have HC : Hid (GC W w.heap.size sz A m c) := by rw [hW]; exact GC.new _ _ _ _ _
 have HW := Lib.hid hW
 have HN := Lib.hid hl.len
 have e0 := HC.out.c0
 have e1 := HC.out.c1
 clear hW h hl
 cases ho : okB sz m x
 ·have Ho := Lib.hid ho
  clear ho
  go_enter Tryz.func171, Tryz.ntmps171
  go_wp2
  rw [← HW.out]
  clear HW
  go_loop [9] (fun i => ∃ k : Nat, k ≤ n ∧ i = .int .i64 k) (fun i => n - (intOf i).toNat)
  case atStart => exact ⟨0, Nat.zero_le _, rfl⟩
  case round =>
   obtain ⟨k, hk, rfl⟩ := hrel
   by_cases hlt : k < n
   ·obtain ⟨b, o, rfl⟩ := HL.out.addr (by omega)
    have q0 := HL.out.at hlt
    obtain ⟨u, hu⟩ : ∃ u : Int, u = l.getD k 0 := ⟨_, rfl⟩
    rw [← hu] at q0
    have i1 : (k : Int) < (n : Int) := by omega
    clear hu
    by_cases hr : 0 ≤ u ∧ u ≤ wrap64 (sz - 1)
    ·obtain ⟨r1, r2⟩ := hr
     go_wp2_with (first | (go_at_call 85; refine (within_yes _ _ _ _ r1 r2).mono ?_; rintro e w' ⟨rfl, rfl⟩))
     go_round
     case rel => exact ⟨k + 1, by omega, by go_num⟩
     case measure => simp [intOf]; omega
    ·have hr' : Hid (u < 0 ∨ wrap64 (sz - 1) < u) := by show _ ∨ _; omega
     clear hr
     go_wp2_with (first | (go_at_call 85; refine (within_no _ _ _ _ hr'.out).mono ?_; rintro e w' ⟨rfl, rfl⟩))
     go_ret
     exact ⟨ret_bool (Bool.and_false _).symm, HB.out.below⟩
   ·have i1 : (n : Int) ≤ (k : Int) := by omega
    go_wp2_with fail
    refine (IsGraph_any sz A m c x W W.heap.size HK.out.rd (Nat.le_refl _) hm).mono ?_
    rintro e w1 ⟨rfl, hb1⟩
    rw [Ho.out]
    have HB1 := Lib.hid (HB.out.keep hb1)
    clear hb1
    go_wp2
    go_ret
    exact ⟨ret_bool (Bool.and_false _).symm, HB1.out.below⟩
 ·obtain ⟨_, es, vg0, _⟩ := okB_ok' ho
  subst es
  have hn7 := vg0.n7
  rw [← ho]
  clear ho vg0
  go_enter Tryz.func171, Tryz.ntmps171
  go_wp2
  rw [← HW.out]
  clear HW
  go_loop [9] (fun i => ∃ k : Nat, k ≤ n ∧ i = .int .i64 k ∧ Hid (∀ j, j < k → 0 ≤ l.getD j 0 ∧ l.getD j 0 < (m : Int))) (fun i => n - (intOf i).toNat)
  case atStart => exact ⟨0, Nat.zero_le _, rfl, fun v hv => absurd hv (by omega)⟩
  case round =>
   obtain ⟨k, hk, rfl, hall⟩ := hrel
   by_cases hlt : k < n
   ·obtain ⟨b, o, rfl⟩ := HL.out.addr (by omega)
    have q0 := HL.out.at hlt
    obtain ⟨u, hu⟩ : ∃ u : Int, u = l.getD k 0 := ⟨_, rfl⟩
    rw [← hu] at q0
    have Hu := Lib.hid hu
    have i1 : (k : Int) < (n : Int) := by omega
    clear hu
    by_cases hr : 0 ≤ u ∧ u < (m : Int)
    ·have Hr := Lib.hid hr
     obtain ⟨r1, r2⟩ := hr
     go_wp2_with (first | (go_at_call 85; refine (within_yes _ _ _ _ r1 (by omega)).mono ?_; rintro e w' ⟨rfl, rfl⟩))
     go_round
     case rel =>
      refine ⟨k + 1, by omega, by go_num, fun j hj => ?_⟩
      by_cases hjk : j < k
      ·exact hall.out j hjk
      ·obtain rfl : j = k := by omega
       rw [← Hu.out]; exact Hr.out
     case measure => simp [intOf]; omega
    ·have hno : Hid (ivB (m : Int) l = false) := ivB_no (k := k) (by rw [← HN.out]; exact hlt) (by rw [← Hu.out]; exact hr)
     have hr' : Hid (u < 0 ∨ (m : Int) - 1 < u) := by show _ ∨ _; omega
     clear hr
     go_wp2_with (first | (go_at_call 85; refine (within_no _ _ _ _ hr'.out).mono ?_; rintro e w' ⟨rfl, rfl⟩))
     go_ret
     exact ⟨ret_bool (by rw [hno.out]; rfl), HB.out.below⟩
   ·have hyes : Hid (ivB (m : Int) l = true) := ivB_yes fun j hj => hall.out j (by rw [← HN.out] at hj; omega)
    have i1 : (n : Int) ≤ (k : Int) := by omega
    clear hall
    go_wp2_with fail
    refine (IsGraph_any (m : Int) A m c x W W.heap.size HK.out.rd (Nat.le_refl _) hm).mono ?_
    rintro e w1 ⟨rfl, hb1⟩
    have HB1 := Lib.hid (HB.out.keep hb1)
    clear hb1
    go_wp2
    go_ret
    exact ⟨ret_bool (by rw [hyes.out]; rfl), HB1.out.below⟩
theorem own_1 (w : World) (v : Int) : Own (w.alloc (Obj.cells #[.int .i64 v] 3)) w.heap.size (w.heap.size + 1) 3 1 (some ⟨w.heap.size, 0, none⟩) 1 1 (fun _ => .int .i64 v) :=
 .inr ⟨w.heap.size, #[.int .i64 v], rfl, Nat.le_refl _, Nat.lt_succ_self _, heap_alloc_new w _, Nat.le_refl _, by unfold maxLen; omega, rfl, fun j hj => by
  have e : j = 0 := by omega
  subst e; rfl⟩
theorem one_li (z : World) (v : Int) : LI (z.alloc (Obj.cells #[Value.int .i64 v] 3)) (some ⟨z.heap.size, 0, none⟩) 1 1 [v] :=
 ⟨rfl, Nat.le_refl _, fun _ => ⟨z.heap.size, 0, rfl, by simp, fun j hj => by
   obtain rfl : j = 0 := by omega
   simp [go_sem]⟩⟩
theorem one_on (z : World) (v : Nat) : ON z.heap.size (z.alloc (Obj.cells #[Value.int .i64 (v : Int)] 3)) (some ⟨z.heap.size, 0, none⟩) 1 [v] :=
 ⟨((own_1 z (v : Int)).mono (Nat.le_refl _) (by simp)).congr (fun j hj => by
   have : j = 0 := by simp at hj; omega
   subst this; rfl)⟩
theorem Contains_n (A : Option Addr) (c : Nat) (l : List Nat) (v : Nat) (w : World) (h : LN w A c l) (hl : l.length ≤ 1048576) :
 Calls Tryz.prog 210 #[.slice A l.length c, .int .i64 v] w fun e w' => e = .returned (.bool (decide (v ∈ l))) ∧ w = w' := by
 have := Contains_z A l.length c _ v w h.li hl
 have e : decide ((v : Int) ∈ l.map fun v : Nat => (v : Int)) = decide (v ∈ l) := by
  rw [decide_eq_decide, List.mem_map]
  exact ⟨fun ⟨a, ha, e⟩ => by have : a = v := by omega
                              rw [← this]; exact ha, fun h => ⟨v, h, rfl⟩⟩
 rwa [e] at this
section
variable {A : Option Addr} {m c : Nat} {r : Nat → Nat} {fn : FuncId} {caps : Array Value} {f : List Nat → Nat → Nat}
def bsI (o : Option Nat) : Int := match o with | none => -1 | some b => (b : Int)
def msI (f : Nat → Nat) (o : Option Nat) : Int := match o with | none => -1 | some b => (f b : Int)
set_option maxRecDepth 100000 in
set_option maxHeartbeats 3200000 in
theorem greedy_g (hef : Ent fn) (w : World) (h : GV w A m c r) (s : Nat) (hs : s < m)
 (HF : ∀ (l : List Nat) (v : Nat) (A' : Option Addr) (c' : Nat) (z : World), Below w.heap.size w z → LN z A' c' l → l.length ≤ m → (∀ u ∈ l, u < m) → v < m → Calls Tryz.prog fn (#[.int .i64 v, .slice A' l.length c'] ++ caps) z (fun e z' => e = .returned (.int .i64 (f l v : Nat)) ∧ f l v ≤ 1048576 ∧ Below z.heap.size z z')) :
 Calls Tryz.prog 159 #[.agg #[.int .i64 m, .slice A m c], .int .i64 s, .func (.func fn) #[] caps] w fun e w' => ∃ A' c', e = .returned (.tuple #[.slice A' (grN f m s (m - 1)).length c', .bool true]) ∧ ON w.heap.size w' A' c' (grN f m s (m - 1)) ∧ Below w.heap.size w w' := by
 have hn1 := h.vg.n1
 have hn7 := h.vg.n7
 unfold Ent at hef
 have hok := Lib.hid h.ok
 obtain ⟨W, hW⟩ : ∃ W : World, W = ((w.alloc (Obj.cells #[Value.int IntKind.i64 m, Value.slice A m c] 29)).alloc (Obj.cells #[Value.int .i64 (s : Int)] 3)) := ⟨_, rfl⟩
 have HB : Hid (From w W) := by rw [hW]; exact (From.alloc _ _).alloc_ _
 have HG : Hid (GV W A m c r) := h.keep HB.out.below
 have HC : Hid (GC W w.heap.size m A m c) := by rw [hW]; exact (GC.new _ _ _ _ _).keep ((Below.refl _ _).alloc (Nat.le_refl _) _)
 have HL : Hid (LI W (some ⟨w.heap.size + 1, 0, none⟩) 1 1 [(s : Int)]) := by
  rw [hW]
  have := one_li (w.alloc (Obj.cells #[Value.int IntKind.i64 m, Value.slice A m c] 29)) (s : Int)
  have e : (w.alloc (Obj.cells #[Value.int IntKind.i64 m, Value.slice A m c] 29)).heap.size = w.heap.size + 1 := by simp
  rw [e] at this
  exact this
 have HF := Lib.hid HF
 have HW := Lib.hid hW
 clear hW h
 go_enter Tryz.func159, Tryz.ntmps159
 have e0 := HC.out.c0
 have e1 := HC.out.c1
 go_wp2_with fail
 rw [← HW.out]
 refine (isVertex_z m A m c _ (some ⟨w.heap.size + 1, 0, none⟩) 1 1 [(s : Int)] W HG.out.ga HL.out (by omega) (by omega)).mono ?_
 rintro e w1 ⟨rfl, hb1⟩
 clear HW
 clear e0 e1
 replace HB := Lib.hid (HB.out.keep hb1)
 replace HG := Lib.hid (HG.out.keep hb1)
 replace HC := Lib.hid (HC.out.keep hb1)
 clear hb1
 have e0 := HC.out.c0
 have e1 := HC.out.c1
 have hyes : (ivB (m : Int) [(s : Int)] && okB (m : Int) m (fun v => (r v : Int))) = true := by
  rw [hok.out, Bool.and_true]
  refine ivB_yes fun k hk => ?_
  obtain rfl : k = 0 := by simpa using hk
  show 0 ≤ (s : Int) ∧ (s : Int) < m
  omega
 rw [hyes]
 clear hyes HL
 obtain ⟨W2, hW2⟩ : ∃ W : World, W = w1.alloc (Obj.cells #[Value.int .i64 (s : Int)] 3) := ⟨_, rfl⟩
 have H2 : Hid (From w1 W2) := by rw [hW2]; exact From.alloc _ _
 have z1 := HB.out.below.size
 have HO0 : Hid (ON w1.heap.size W2 (some ⟨w1.heap.size, 0, none⟩) 1 (grN f m s 0)) := by
  rw [hW2]; exact one_on w1 s
 have HW2 := Lib.hid hW2
 clear hW2
 go_wp2
 rw [← HW2.out]
 clear HW2
 go_loopw [8] (fun l wr => ∃ (k : Nat) (A' : Option Addr) (c' : Nat), k < m ∧ l = .slice A' (grN f m s k).length c' ∧ Hid (ON w1.heap.size wr A' c' (grN f m s k)) ∧ Hid (From w1 wr)) (fun l _ => match l with | .slice _ n _ => m - n | _ => 0)
 case atStart => exact ⟨0, _, 1, by omega, rfl, HO0, H2⟩
 case round =>
  clear HO0 H2
  obtain ⟨k, A', c', hk, rfl, HO, HR⟩ := hrel
  have hlen := grN_len f m s k
  by_cases hlt : k + 1 < m
  ·have i1 : ((grN f m s k).length : Int) < (m : Int) := by omega
   have HBr := Lib.hid (HB.out.keep HR.out.below)
   have HGr := Lib.hid (HG.out.keep HR.out.below)
   have HCr := Lib.hid (HC.out.keep HR.out.below)
   have HBo := HBr
   have e0 := HCr.out.c0
   obtain ⟨b, hb, hbm, hbn, hgr⟩ := grN_step (f := f) (s := s) hlt
   obtain ⟨hnd, hin⟩ := grN_fine (f := f) hs k (by omega)
   have Hb := Lib.hid hb
   have Hgr := Lib.hid hgr
   have Hin := Lib.hid hin
   have Hlen := Lib.hid hlen
   obtain ⟨L, hL⟩ : ∃ L, L = grN f m s k := ⟨_, rfl⟩
   rw [← hL] at Hb Hgr Hin Hlen HO i1 ⊢
   have hl1 : L.length ≤ k + 1 := by rw [Hlen.out]; exact Nat.le_refl _
   have hl2 : k + 1 ≤ L.length := by rw [Hlen.out]; exact Nat.le_refl _
   clear hb hgr hin hlen hnd hbn hL
   go_wp2
   go_loopw [9, 10, 27] (fun a y i wz => ∃ v : Nat, v ≤ m ∧ i = .int .i64 v ∧ a = .int .i64 (bsI (bestK (f L) (fun v => !decide (v ∈ L)) v)) ∧ y = .int .i64 (msI (f L) (bestK (f L) (fun v => !decide (v ∈ L)) v)) ∧ Hid (From wr wz)) (fun _ _ i _ => m - (intOf i).toNat)
   case atStart => exact ⟨0, Nat.zero_le _, rfl, rfl, rfl, From.refl _⟩
   case round =>
    obtain ⟨v, hv, rfl, rfl, rfl, HZ⟩ := hrel
    by_cases hvm : v < m
    ·have i2 : (v : Int) < (m : Int) := by omega
     have HOz := Lib.hid (HO.out.keep HZ.out.below)
     have HBz := Lib.hid (HBo.out.keep HZ.out.below)
     have KF := Lib.hid (HF.out L v A' c' _ HBz.out.below HOz.out.ln (by have := Hlen.out; omega) Hin.out hvm)
     obtain ⟨o, ho⟩ : ∃ o, o = bestK (f L) (fun v => !decide (v ∈ L)) v := ⟨_, rfl⟩
     rw [← ho]
     have Ho := Lib.hid ho
     clear ho
     obtain ⟨y, hy⟩ : ∃ y, y = f L v := ⟨_, rfl⟩
     rw [← hy] at KF
     have Hy := Lib.hid hy
     clear hy
     go_wp2_with fail
     refine KF.out.mono ?_
     rintro e w3 ⟨rfl, hy20, hb3⟩
     have HZ3 := Lib.hid (HZ.out.keep hb3)
     have HO3 := Lib.hid (HOz.out.keep hb3)
     have KC := Lib.hid (Contains_n A' c' L v w3 HO3.out.ln (by have := Hlen.out; omega))
     clear hb3 KF HOz HBz HZ
     clear HO3
     by_cases hin : v ∈ L
     ·have Hno : Hid (bestK (f L) (fun v => !decide (v ∈ L)) (v + 1) = o) := by show _ = _; rw [bestK_no (by simpa using hin), Ho.out]
      rw [decide_eq_true hin] at KC
      clear hin
      go_wp2_with fail
      refine KC.out.mono ?_
      rintro e w' ⟨rfl, rfl⟩
      go_wp2
      go_roundw
      case rel => exact ⟨v + 1, by omega, by go_num, by rw [Hno.out], by rw [Hno.out], HZ3⟩
      case measure => simp [intOf]; omega
     ·rw [decide_eq_false hin] at KC
      cases o with
      | none =>
        have Hn : Hid (bestK (f L) (fun v => !decide (v ∈ L)) (v + 1) = some v) := bestK_first (by simpa using hin) Ho.out.symm
        have hq : msI (f L) none = -1 := rfl
        have hq2 : bsI none = -1 := rfl
        rw [hq, hq2]
        have i3 : (-1 : Int) < (y : Int) := by omega
        clear hin hq hq2
        go_wp2_with fail
        refine KC.out.mono ?_
        rintro e w' ⟨rfl, rfl⟩
        go_wp2
        go_roundw
        case rel => exact ⟨v + 1, by omega, by go_num, by rw [Hn.out]; rfl, by rw [Hn.out, Hy.out]; rfl, HZ3⟩
        case measure => simp [intOf]; omega
      | some b2 =>
        obtain ⟨t, ht⟩ : ∃ t, t = f L b2 := ⟨_, rfl⟩
        have hq : msI (f L) (some b2) = (t : Int) := by rw [ht]; rfl
        have hq2 : bsI (some b2) = (b2 : Int) := rfl
        rw [hq, hq2]
        have Ht := Lib.hid ht
        clear hq hq2 ht
        by_cases hf : t < y
        ·have Hn : Hid (bestK (f L) (fun v => !decide (v ∈ L)) (v + 1) = some v) := bestK_more (by simpa using hin) Ho.out.symm (by rw [← Ht.out, ← Hy.out]; exact hf)
         have i3 : (t : Int) < (y : Int) := by omega
         clear hin
         go_wp2_with fail
         refine KC.out.mono ?_
         rintro e w' ⟨rfl, rfl⟩
         go_wp2
         go_roundw
         case rel => exact ⟨v + 1, by omega, by go_num, by rw [Hn.out]; rfl, by rw [Hn.out, Hy.out]; rfl, HZ3⟩
         case measure => simp [intOf]; omega
        ·have Hn : Hid (bestK (f L) (fun v => !decide (v ∈ L)) (v + 1) = some b2) := bestK_less Ho.out.symm (by rw [← Ht.out, ← Hy.out]; exact hf)
         have i3 : (y : Int) ≤ (t : Int) := by omega
         clear hin
         go_wp2_with fail
         refine KC.out.mono ?_
         rintro e w' ⟨rfl, rfl⟩
         go_wp2
         go_roundw
         case rel => exact ⟨v + 1, by omega, by go_num, by rw [Hn.out]; rfl, by rw [Hn.out, Ht.out]; rfl, HZ3⟩
         case measure => simp [intOf]; omega
    ·have hvm' : v = m := by omega
     have i2 : (m : Int) ≤ (v : Int) := by omega
     have HO3 := Lib.hid (HO.out.keep HZ.out.below)
     have HR3 : Hid (From w1 wr) := HR.out.keep HZ.out.below
     have zz := HR3.out.below.size
     have hq : bsI (bestK (f L) (fun v => !decide (v ∈ L)) v) = (b : Int) := by rw [hvm', Hb.out]; rfl
     rw [hq]
     clear hq hvm' HZ
     go_wp2_with (first | (at_builtin; (refine wpList_pushN wr rfl _ _ rfl w1.heap.size wr.heap.size A' c' L HO3.out.own (by omega) b rfl 1 wr.heap.size rfl rfl (by omega) ?_; intro g cap w4 hO4 hb4)))
     have H4 : Hid (ON w1.heap.size w4 (some ⟨g, 0, none⟩) cap (L ++ [b])) := ⟨by rw [List.length_append]; exact hO4⟩
     have H5 : Hid (From w1 w4) := ⟨HR3.out.below.trans hb4⟩
     clear hO4 hb4 HO3 HR3
     go_roundw
     case rel => exact ⟨k + 1, some ⟨g, 0, none⟩, cap, by omega, by rw [Hgr.out, List.length_append]; rfl, by rw [Hgr.out]; exact H4, H5⟩
     case measure => simp; omega
  ·have hkm : k = m - 1 := by omega
   have i1 : (m : Int) ≤ ((grN f m s k).length : Int) := by omega
   have HBr := Lib.hid (HB.out.keep HR.out.below)
   have HCr := Lib.hid (HC.out.keep HR.out.below)
   have e0 := HCr.out.c0
   subst hkm
   go_wp2
   go_ret2
   exact ⟨A', c', rfl, HO.out.mono z1, HBr.out.below⟩
theorem and_one_val (s : Int) (v : Nat) (h0 : 0 ≤ s) (h1 : s < 16777216) : bits .and .i64 (s / 2 ^ v) 1 = if s.toNat.testBit v = true then 1 else 0 := by
 have h := and_one_i64 s v h0 h1
 have h2 := and_one_i64' s v h0 h1
 split
 ·rename_i ht
  rw [ht] at h
  simpa using h
 ·rename_i ht
  have ht' : s.toNat.testBit v = false := by simpa using ht
  rw [ht'] at h2
  simpa using h2
set_option maxHeartbeats 1600000 in
theorem label_v {w : World} (h : GV w A m c r) {Al : Option Addr} {cl : Nat} {l : List Nat} (hl : LN w Al cl l) (hlm : l.length ≤ m) (hin : ∀ u ∈ l, u < m) {v : Nat} (hv : v < m) :
 Calls Tryz.prog 161 #[.agg #[.int .i64 m, .slice A m c], .int .i64 v, .slice Al l.length cl] w (fun e w' => e = .returned (.int .i64 (labN r l v : Nat)) ∧ Below w.heap.size w w') := by
 have hn7 := h.vg.n7
 obtain ⟨b, o, rfl⟩ := h.addr
 have HV := Lib.hid h.vg
 obtain ⟨W, hW⟩ : ∃ W : World, W = (w.alloc (Obj.cells #[Value.int IntKind.i64 m, Value.slice (some ⟨b, o, none⟩) m c] 29)) := ⟨_, rfl⟩
 have HB : Hid (From w W) := by rw [hW]; exact From.alloc _ _
 have HG : Hid (GBox W w.heap.size (some ⟨b, o, none⟩) m c r) := by rw [hW]; exact h.box
 have HL : Hid (LN W Al cl l) := hl.keep HB.out.below
 have HW := Lib.hid hW
 have q0 := HG.out.gv.row hv
 have hr := HV.out.lt128 hv
 have e1 := HG.out.c1
 have Hin := Lib.hid hin
 obtain ⟨y, hy⟩ : ∃ y, y = r v := ⟨_, rfl⟩
 rw [← hy] at q0 hr
 have Hy := Lib.hid hy
 clear hW h hl hin hy
 go_enter Tryz.func161, Tryz.ntmps161
 go_wp2
 rw [← HW.out]
 clear HW
 go_loop [7, 12] (fun a i => ∃ k : Nat, k ≤ l.length ∧ i = .int .i64 k ∧ a = .int .i64 (labN r (l.take k) v : Nat)) (fun _ i => l.length - (intOf i).toNat)
 case atStart => exact ⟨0, Nat.zero_le _, rfl, rfl⟩
 case round =>
  obtain ⟨k, hk, rfl, rfl⟩ := hrel
  by_cases hlt : k < l.length
  ·obtain ⟨b2, o2, rfl⟩ := HL.out.addr (by omega)
   have p0 := HL.out.at hlt
   have hum := Hin.out _ (List.getElem_mem hlt)
   have hst : labN r (l.take (k + 1)) v = 2 * labN r (l.take k) v + (if (r v).testBit l[k] = true then 1 else 0) := by
    rw [List.take_succ_eq_append_getElem hlt, labN_one]
   have hlb := labN_lt r v (l.take k)
   have hp : 2 ^ (l.take k).length ≤ 128 := two_pow_le (by rw [List.length_take]; omega)
   obtain ⟨u, hu⟩ : ∃ u, u = l[k] := ⟨_, rfl⟩
   rw [← hu] at p0 hum hst
   have E := and_one_val (y : Int) u (by omega) (by omega)
   rw [Int.toNat_natCast] at E
   rw [← Hy.out] at hst
   obtain ⟨a, ha⟩ : ∃ a, a = labN r (l.take k) v := ⟨_, rfl⟩
   rw [← ha] at hst hlb ⊢
   obtain ⟨a', ha'⟩ : ∃ a', a' = labN r (l.take (k + 1)) v := ⟨_, rfl⟩
   rw [← ha'] at hst
   have Ha' := Lib.hid ha'
   have i1 : (k : Int) < (l.length : Int) := by omega
   clear hu ha ha'
   cases ht : y.testBit u
   ·rw [ht] at hst E
    simp only [Bool.false_eq_true, if_false] at hst E
    have Hst : Hid ((2 : Int) * (a : Int) = (a' : Int)) := by show _ = _; omega
    clear ht hst
    go_wp2
    go_round
    case rel => exact ⟨k + 1, by omega, by go_num, by rw [← Ha'.out, ← Hst.out]⟩
    case measure => simp [intOf]; omega
   ·rw [ht] at hst E
    simp only [if_true] at hst E
    have Hst : Hid ((2 : Int) * (a : Int) + 1 = (a' : Int)) := by show _ = _; omega
    clear ht hst
    go_wp2
    go_round
    case rel => exact ⟨k + 1, by omega, by go_num, by rw [← Ha'.out, ← Hst.out]⟩
    case measure => simp [intOf]; omega
  ·have hkl : k = l.length := by omega
   have i1 : (l.length : Int) ≤ (k : Int) := by omega
   have Hf : Hid (labN r (l.take k) v = labN r l v) := by rw [hkl, List.take_length]; exact rfl
   clear hkl
   go_wp2
   go_ret
   exact ⟨ret_int (by rw [Hf.out]), HB.out.below⟩
theorem LexOrder1_i {w : World} (h : GV w A m c r) {q : Nat} (q0 : w.cell? ⟨q, 0, none⟩ = some (.int .i64 m)) (q1 : w.cell? ⟨q, 1, none⟩ = some (.slice A m c)) {Al : Option Addr} {cl : Nat} {l : List Nat} (hl : LN w Al cl l) (hlm : l.length ≤ m) (hin : ∀ u ∈ l, u < m) {v : Nat} (hv : v < m) :
 Calls Tryz.prog 160 #[.int .i64 v, .slice Al l.length cl, .pointer (some ⟨q, 0, none⟩)] w (fun e w' => e = .returned (.int .i64 (labN r l v : Nat)) ∧ Below w.heap.size w w') := by
 have K := Lib.hid (label_v h hl hlm hin hv)
 clear h hl hin
 go_enter Tryz.func160, Tryz.ntmps160
 go_wp2_with fail
 refine K.out.mono ?_
 rintro e w1 ⟨rfl, hb1⟩
 go_wp2
 go_ret
 exact ⟨rfl, hb1⟩
end
noncomputable def lxB (sz : Int) (m : Nat) (x : Nat → Int) (s : Int) : Bool := decide (0 ≤ s ∧ s < sz) && okB sz m x
noncomputable def lxL (sz : Int) (m : Nat) (x : Nat → Int) (s : Int) : List Nat := if lxB sz m x s = true then lexN (rw_ x) m s.toNat else []
theorem lxL_no {sz : Int} {m : Nat} {x : Nat → Int} {s : Int} (h : lxB sz m x s = false) : lxL sz m x s = [] := by unfold lxL; rw [h]; rfl
theorem lxL_yes {sz : Int} {m : Nat} {x : Nat → Int} {s : Int} (h : lxB sz m x s = true) : lxL sz m x s = lexN (rw_ x) m s.toNat := by unfold lxL; rw [h]; rfl
theorem greedy_no (sz : Int) (A : Option Addr) (m c : Nat) (x : Nat → Int) (s : Int) (fn : FuncId) (caps : Array Value) (w : World) (h : GA w A m c x) (hm : m ≤ 1048576) (hno : lxB sz m x s = false) :
 Calls Tryz.prog 159 #[.agg #[.int .i64 sz, .slice A m c], .int .i64 s, .func (.func fn) #[] caps] w fun e w' => e = .returned (.tuple #[.slice none 0 0, .bool false]) ∧ Below w.heap.size w w' := by
 obtain ⟨W, hW⟩ : ∃ W : World, W = ((w.alloc (Obj.cells #[Value.int IntKind.i64 sz, Value.slice A m c] 29)).alloc (Obj.cells #[Value.int .i64 s] 3)) := ⟨_, rfl⟩
 have HB : Hid (From w W) := by rw [hW]; exact (From.alloc _ _).alloc_ _
 have HK := Lib.hid (h.keep HB.out.below)
 have HL : Hid (LI W (some ⟨w.heap.size + 1, 0, none⟩) 1 1 [s]) := by
  rw [hW]
  have := one_li (w.alloc (Obj.cells #[Value.int IntKind.i64 sz, Value.slice A m c] 29)) s
  have e : (w.alloc (Obj.cells #[Value.int IntKind.i64 sz, Value.slice A m c] 29)).heap.size = w.heap.size + 1 := by simp
  rw [e] at this
  exact this
 have HW := Lib.hid hW
 have Hno : Hid ((ivB sz [s] && okB sz m x) = false) := by
  show _ = _; rw [← hno]; unfold lxB ivB; simp
 clear hW h hno
 go_enter Tryz.func159, Tryz.ntmps159
 go_wp2_with fail
 rw [← HW.out]
 clear HW
 refine (isVertex_z sz A m c x (some ⟨w.heap.size + 1, 0, none⟩) 1 1 [s] W HK.out HL.out hm (by omega)).mono ?_
 rintro e w1 ⟨rfl, hb1⟩
 rw [Hno.out]
 have HB1 := Lib.hid (HB.out.keep hb1)
 clear hb1
 go_wp2
 go_ret2
 exact ⟨rfl, HB1.out.below⟩
set_option maxHeartbeats 1600000 in
theorem LexOrder_i (sz : Int) (A : Option Addr) (m c : Nat) (x : Nat → Int) (s : Int) (w : World) (h : GA w A m c x) (hm : m ≤ 1048576) :
 Calls Tryz.prog 107 #[.agg #[.int .i64 sz, .slice A m c], .int .i64 s] w fun e w' => ∃ A' c', e = .returned (.tuple #[.slice A' (lxL sz m x s).length c', .bool (lxB sz m x s)]) ∧ ON w.heap.size w' A' c' (lxL sz m x s) ∧ Below w.heap.size w w' := by
 obtain ⟨W, hW⟩ : ∃ W : World, W = (w.alloc (Obj.cells #[Value.int IntKind.i64 sz, Value.slice A m c] 29)) := ⟨_, rfl⟩
 have HB : Hid (From w W) := by rw [hW]; exact From.alloc _ _
 have HK := Lib.hid (h.keep HB.out.below)
 have HC : Hid (GC W w.heap.size sz A m c) := by rw [hW]; exact GC.new _ _ _ _ _
 have HW := Lib.hid hW
 have e0 := HC.out.c0
 have e1 := HC.out.c1
 clear hW h
 cases hb : lxB sz m x s
 ·have HE := Lib.hid (lxL_no hb)
  have K := Lib.hid (greedy_no sz A m c x s 160 #[.pointer (some ⟨w.heap.size, 0, none⟩)] W HK.out hm hb)
  rw [HE.out]
  clear hb HE
  go_enter Tryz.func107, Tryz.ntmps107
  go_wp2_with fail
  rw [← HW.out]
  clear HW
  refine K.out.mono ?_
  rintro e w1 ⟨rfl, hb1⟩
  have HB1 := Lib.hid (HB.out.keep hb1)
  clear hb1
  go_wp2
  go_ret2
  exact ⟨none, 0, rfl, ⟨Own.nil _ _ _ _ _ _⟩, HB1.out.below⟩
 ·have HE := Lib.hid (lxL_yes hb)
  unfold lxB at hb
  rw [Bool.and_eq_true, decide_eq_true_eq] at hb
  obtain ⟨⟨s0, s1⟩, ho⟩ := hb
  obtain ⟨_, es, vg0, _⟩ := okB_ok' ho
  subst es
  obtain ⟨v, rfl⟩ := Int.eq_ofNat_of_zero_le s0
  rw [Int.toNat_natCast] at HE
  have HG : Hid (GV W A m c (rw_ x)) := HK.out.gv ho
  have hvm : v < m := by omega
  have K := Lib.hid (greedy_g (fn := 160) (caps := #[.pointer (some ⟨w.heap.size, 0, none⟩)]) (f := labN (rw_ x)) (ent_of Tryz.func160 (by kernel_rfl) rfl) W HG.out v hvm
   (fun l u A' c' z hb hl hlm hin hu => (LexOrder1_i (HG.out.keep hb) (up_ hb HC.out.c0) (up_ hb HC.out.c1) hl hlm hin hu).mono fun _ _ ⟨h1, h2⟩ => ⟨h1, (by
     have h3 := labN_lt (rw_ x) u l
     have h4 : 2 ^ l.length ≤ 128 := two_pow_le (by have := HG.out.vg.n7; omega)
     omega), h2⟩))
  rw [HE.out]
  obtain ⟨L, hL⟩ : ∃ L, L = lexN (rw_ x) m v := ⟨_, rfl⟩
  have HL : Hid (L = grN (labN (rw_ x)) m v (m - 1)) := hL
  rw [← HL.out] at K
  rw [← hL]
  have zW := HB.out.below.size
  clear hL HE ho vg0 HL
  go_enter Tryz.func107, Tryz.ntmps107
  go_wp2_with fail
  rw [← HW.out]
  clear HW
  refine K.out.mono ?_
  rintro e w1 ⟨A', c', rfl, hO, hb1⟩
  have HB1 := Lib.hid (HB.out.keep hb1)
  have HO := Lib.hid hO
  clear hb1 hO
  go_wp2
  go_ret2
  exact ⟨A', c', rfl, HO.out.mono zW, HB1.out.below⟩
end Go.Proofs.YtppkokgiojcgbaaGreatDoor
