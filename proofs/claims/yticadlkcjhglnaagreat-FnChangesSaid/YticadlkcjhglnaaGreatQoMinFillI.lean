/-
  Several texts in one.
-/
import Derived.Test.YticadlkcjhglnaaGreatQoIndI
import Derived.Test.YticadlkcjhglnaaGreatQoV
import Derived.Test.YticadlkcjhglnaaGreatQoGB
import Derived.Lib.AppendZeros
import Derived.Test.YticadlkcjhglnaaGreatQoBoxG
import Derived.Test.YticadlkcjhglnaaGreatQoDrwI
import Derived.Test.YticadlkcjhglnaaGreatQoGC
import Derived.Test.YticadlkcjhglnaaGreatQoSetG
import Derived.Test.YticadlkcjhglnaaGreatQoGA
import Derived.Test.YticadlkcjhglnaaGreatQoLater
import Derived.Test.YticadlkcjhglnaaGreatQoChoP
import Derived.Test.YticadlkcjhglnaaGreatQoDrwA
/-
-/
namespace Go.Proofs.YticadlkcjhglnaaGreat
open Go.RowKit
theorem lists_eq {D E : List Dsc} (hlen : D.length = E.length) (h : ∀ j, j < D.length → (D.getD j (none, 0, [])).2.2 = (E.getD j (none, 0, [])).2.2) : lists D = lists E := by
 unfold lists;refine List.ext_getElem (by simp [hlen]) fun i hi hi' => ?_
 simp at hi hi';have := h i hi;simpa [List.getD, hi, hi'] using this
theorem lists_ne {D E : List Dsc} (j : Nat) (hj : j < D.length) (hj' : j < E.length) (h : (D.getD j (none, 0, [])).2.2 ≠ (E.getD j (none, 0, [])).2.2) : lists D ≠ lists E := by
 intro e;apply h;have := congrArg (fun l => l[j]?) e;simpa [lists, List.getD, hj, hj'] using this
theorem dvs_atD {D : List Dsc} {j : Nat} (h : j < D.length) : D[j]? = some (D.getD j (none, 0, [])) ∧ D.getD j (none, 0, []) ∈ D ∧ dvs D j = dv (D.getD j (none, 0, [])) := by
 obtain ⟨d, h1, h2, h3⟩ := dvs_at h;have : D.getD j (none, 0, []) = d := by simp [List.getD, h1]
 rw [this];exact ⟨h1, h2, h3⟩
set_option maxHeartbeats 1000000
theorem sameInts_any (A1 A2 : Option Addr) (n1 n2 c1 c2 : Nat) (x1 x2 : Nat → Int) (w : World) (B : Nat) (h1 : Rd w B A1 n1 c1 x1) (h2 : Rd w B A2 n2 c2 x2) (hB : B ≤ w.heap.size) (hn1 : n1 ≤ 1073741824) (hn2 : n2 ≤ 1073741824) :
 Calls Tryz.prog 50 #[.slice A1 n1 c1, .slice A2 n2 c2] w fun e w' => e = .returned (.bool (sl n1 x1 n2 x2)) ∧ Below w.heap.size w w' := by
 by_cases hne : n1 = n2
 rotate_left
 ·have e := hh_ (sl_len (x := x1) (y := x2) hne);have hne' : (n1 : Int) ≠ (n2 : Int) := by omega
  go_enter Tryz.func50, Tryz.ntmps50;go_wp2;go_ret;exact ⟨ret_bool e.symm, br_⟩
 subst hne;have H1 := hh_ h1;have H2 := hh_ h2;clear h1 h2;go_enter Tryz.func50, Tryz.ntmps50;go_wp2;go_loopw [5] (fun i wr => ∃ k : Nat, k ≤ n1 ∧ i = .int .i64 k ∧ Hid (∀ j, j < k → x1 j = x2 j) ∧ Below w.heap.size w wr) (fun i _ => n1 - (intOf i).toNat);case atStart => exact ⟨0, Nat.zero_le _, rfl, (fun j hj => absurd hj (by omega)), br_⟩
 case round =>
  obtain ⟨k, hk, rfl, hall, hbr⟩ := hrel;by_cases hlt : k < n1
  ·obtain ⟨b1, o1, rfl, l1, c1'⟩ := H1.pos (by omega);obtain ⟨b2, o2, rfl, l2, c2'⟩ := H2.pos (by omega);have f1 := (hbr.cell (p := ⟨b1, o1 + k, none⟩) (by show b1 < _; omega)).trans (c1' k hlt);have f2 := (hbr.cell (p := ⟨b2, o2 + k, none⟩) (by show b2 < _; omega)).trans (c2' k hlt);have hi : (k : Int) < n1 := by omega
   clear c1' c2';by_cases hq : x1 k = x2 k
   ·have HB := hh_ hbr;have Hq := hh_ hq;rw [← hq] at f2;clear hbr hq;go_wp2;go_quiet (fail)
    go_wp2;go_roundw;case rel =>
     refine ⟨k + 1, by omega, by go_num, fun j hj => ?_, below_drewN HB _⟩;by_cases hjk : j < k
     ·exact hall.out j hjk
     ·obtain rfl : j = k := by omega
      exact Hq.out
    case measure => simp [intOf]; omega
   ·have HB := hh_ hbr;have e := hh_ (sl_no hlt hq);clear hbr;go_wp2;go_quiet (fail)
    go_wp2;go_ret;exact ⟨ret_bool e.symm, below_drewN HB _⟩
  ·have hge : (n1 : Int) ≤ k := by omega
   have HB := hh_ hbr;have e := hh_ (sl_yes (n := n1) (x := x1) (y := x2) fun j hj => hall.out j (by omega));clear hbr;go_wp2;go_ret;exact ⟨ret_bool e.symm, HB⟩
theorem sameLists_any (A1 A2 : Option Addr) (c1 c2 : Nat) (D E : List Dsc) (w : World) (B : Nat) (h1 : RdD w B A1 c1 D) (h2 : RdD w B A2 c2 E) (hB : B ≤ w.heap.size) (hn : D.length ≤ 1073741824) (ht : tot D ≤ 1073741824) (_hn2 : E.length ≤ 1073741824) (ht2 : tot E ≤ 1073741824) :
 Calls Tryz.prog 14 #[.slice A1 D.length c1, .slice A2 E.length c2] w fun e w' => e = .returned (.bool (decide (lists D = lists E))) ∧ Below w.heap.size w w' := by
 obtain ⟨n, hnn⟩ : ∃ n, n = D.length := ⟨_, rfl⟩;by_cases hle : D.length = E.length
 rotate_left
 ·have e : Hid (decide (lists D = lists E) = false) := decide_eq_false fun h => hle (len_lists h)
  obtain ⟨n2, hnn2⟩ : ∃ n, n = E.length := ⟨_, rfl⟩;rw [← hnn] at hn hle ⊢;rw [← hnn2] at _hn2 hle ⊢;have hne' : (n : Int) ≠ (n2 : Int) := by omega
  clear h1 h2;go_enter Tryz.func14, Tryz.ntmps14;go_wp2;go_ret;exact ⟨ret_bool e.symm, br_⟩
 rw [← hle];rw [← hnn] at hn hle ⊢;have Hn := hh_ hnn;have Hl := hh_ hle;clear hnn hle _hn2;go_enter Tryz.func14, Tryz.ntmps14;go_wp2;go_loopw [5] (fun i wr => ∃ k : Nat, k ≤ n ∧ i = .int .i64 k ∧ Hid (∀ j, j < k → (D.getD j (none, 0, [])).2.2 = (E.getD j (none, 0, [])).2.2) ∧ Below w.heap.size w wr) (fun i _ => n - (intOf i).toNat);case atStart => exact ⟨0, Nat.zero_le _, rfl, (fun j hj => absurd hj (by omega)), br_⟩
 case round =>
  obtain ⟨k, hk, rfl, hall, hbr⟩ := hrel;by_cases hlt : k < n
  ·have hkD : k < D.length := by rw [← Hn.out]; exact hlt
   have hkE : k < E.length := by rw [← Hl.out]; exact hlt
   obtain ⟨hd, hm, hdv⟩ := dvs_atD hkD;obtain ⟨hd', hm', hdv'⟩ := dvs_atD hkE;obtain ⟨d, hdd⟩ : ∃ d, d = D.getD k (none, 0, []) := ⟨_, rfl⟩;obtain ⟨d', hdd'⟩ : ∃ d, d = E.getD k (none, 0, []) := ⟨_, rfl⟩;have Hs : Hid (d.2.2 = d'.2.2 → ∀ j, j < k + 1 → (D.getD j (none, 0, [])).2.2 = (E.getD j (none, 0, [])).2.2) := by
    intro h j hj;by_cases hjk : j < k
    ·exact hall.out j hjk
    ·obtain rfl : j = k := by omega
     rw [← hdd, ← hdd']; exact h
   have Hx : Hid (d.2.2 ≠ d'.2.2 → decide (lists D = lists E) = false) := fun h => decide_eq_false (lists_ne k hkD hkE (by rw [← hdd, ← hdd']; exact h))
   rw [← hdd] at hd hm hdv;rw [← hdd'] at hd' hm' hdv';have r1 := (h1.2 d hm).keep (hbr.drew.mono hB) nr_;have r2 := (h2.2 d' hm').keep (hbr.drew.mono hB) nr_;obtain ⟨b1, o1, rfl, l1, c1'⟩ := h1.1.2 (by rw [← Hn.out]; omega);obtain ⟨b2, o2, rfl, l2, c2'⟩ := h2.1.2 (by rw [← Hl.out]; omega);have f1 := (hbr.cell (p := ⟨b1, o1 + k, none⟩) (by show b1 < _; omega)).trans (c1' k hkD);have f2 := (hbr.cell (p := ⟨b2, o2 + k, none⟩) (by show b2 < _; omega)).trans (c2' k hkE);rw [hdv] at f1;rw [hdv'] at f2;have hm7 : d.2.2.length ≤ 1073741824 := by
    have h3 := tot_take_le D (k + 1);rw [take_at hd, tot_snoc] at h3;omega
   have hm8 : d'.2.2.length ≤ 1073741824 := by
    have h3 := tot_take_le E (k + 1);rw [take_at hd', tot_snoc] at h3;omega
   have hsl := sl_list d.2.2 d'.2.2;obtain ⟨da, dc, dl⟩ := d;obtain ⟨ea, ec, el⟩ := d';simp only [dv] at f1 f2 r1 r2 hm7 hm8 hsl Hs Hx;have i1 : (k : Int) < n := by omega
   have hz := hbr.size;have K := hh_ (fun z (hb : Below wr.drew.heap.size wr.drew z) => sameInts_any da ea dl.length el.length dc ec _ _ z B (r1.keep (hb.mono (Nat.le_trans hB hz)) nr_) (r2.keep (hb.mono (Nat.le_trans hB hz)) nr_) (Nat.le_trans hB (Nat.le_trans hz hb.size)) hm7 hm8);simp only [hsl] at K;clear c1' c2' h1 h2 hd hd' hm hm' hdv hdv' r1 r2 hsl hdd hdd' hkD hkE;obtain ⟨m, hm2⟩ : ∃ m, m = dl.length := ⟨_, rfl⟩;obtain ⟨m', hm2'⟩ : ∃ m, m = el.length := ⟨_, rfl⟩;rw [← hm2] at f1 hm7 K;rw [← hm2'] at f2 hm8 K;clear hm2 hm2';go_wp2_with fail
   by_cases hq : dl = el
   ·have hqd : decide (dl = el) = true := decide_eq_true hq;rw [hqd] at K;have HQ := hh_ (Hs.out hq);clear hqd hq Hs Hx;go_region_held3 (fun z => z.cell? ⟨b1, o1 + k, none⟩ = some (.slice da m dc) ∧ z.cell? ⟨b2, o2 + k, none⟩ = some (.slice ea m' ec))
     (first | (refine ⟨?_, ?_⟩ <;> assumption) | (refine ⟨?_, ?_⟩ <;> (refine (hb.cell (by first | (show b1 < wr.heap.size; omega) | (show b2 < wr.heap.size; omega))).trans ?_; assumption)))
     ((go_at_call 50; (refine (K.out _ br_).mono ?_); rintro e w1 ⟨rfl, hb⟩))
    have HB := hh_ (hbr.drew.trans (hb.mono hbr.size));clear f1 f2 hb hbr;go_wp2;go_roundw;case rel => exact ⟨k + 1, by omega, by go_num, HQ, HB⟩
    case measure => simp [intOf]; omega
   ·have hqd : decide (dl = el) = false := decide_eq_false hq;rw [hqd] at K;have HQ := hh_ (Hx.out hq);clear hqd hq Hs Hx;go_region_held3 (fun z => z.cell? ⟨b1, o1 + k, none⟩ = some (.slice da m dc) ∧ z.cell? ⟨b2, o2 + k, none⟩ = some (.slice ea m' ec))
     (first | (refine ⟨?_, ?_⟩ <;> assumption) | (refine ⟨?_, ?_⟩ <;> (refine (hb.cell (by first | (show b1 < wr.heap.size; omega) | (show b2 < wr.heap.size; omega))).trans ?_; assumption)))
     ((go_at_call 50; (refine (K.out _ br_).mono ?_); rintro e w1 ⟨rfl, hb⟩))
    have HB := hh_ (hbr.drew.trans (hb.mono hbr.size));clear f1 f2 hb hbr;go_wp2;go_ret;exact ⟨ret_bool HQ.symm, HB⟩
  ·have hge : (n : Int) ≤ k := by omega
   have HB := hh_ hbr;have e : Hid (decide (lists D = lists E) = true) := decide_eq_true (lists_eq (Hn.out ▸ Hl.out) fun j hj => hall.out j (by rw [← Hn.out] at hj; omega));clear hbr h1 h2;go_wp2;go_ret;exact ⟨ret_bool e.symm, HB⟩
set_option maxHeartbeats 1600000
theorem zeroCells_size (n : Nat) : (Builtin.zeroCells #[.slice none 0 0] n).size = n := by
 simp [Builtin.zeroCells]
theorem Grow_i (n : Nat) (w : World) (hn : n ≤ 2097152) :
 Calls Tryz.prog 166 #[.slice none 0 0, .int .i64 n] w fun e w' => ∃ A' c', e = .returned (.slice A' 0 c') ∧ (∀ x, Own w' w.heap.size w'.heap.size 24 1 A' 0 c' x) ∧ Below w.heap.size w w' := by
 by_cases h0 : n = 0
 ·subst h0;go_enter Tryz.func166, Tryz.ntmps166;go_wp2;go_ret;exact ⟨none, 0, rfl, fun x => Own.nil _ _ _ _ _ _, br_⟩
 ·obtain ⟨i, hi', hzz⟩ := Option.map_eq_some_iff.1 info_ints;simp only [Prod.mk.injEq] at hzz;obtain ⟨hz, hsize, hbytes⟩ := hzz;have hp : 0 < n := by omega
  have i1 : (0 : Int) < n := by omega
  have hr := fun (ty : TypeId) => Lib.run_append_nil_zeros (P := Tryz.prog) w 32 3 ty 24 i (.slice none 0 0) .i64 .i64 Tryz.underlying32 Tryz.underlying3 hi' hz n hp (by omega) (by omega) (by rw [hbytes]; omega)
  have HR := hh_ hr;have hge := grownCap_ge w n 0 24;have hle := grownCap_le_maxLen w n 0 24 (by unfold maxLen; omega);obtain ⟨cap, hcap⟩ : ∃ cap, cap = grownCap w n 0 24 := ⟨_, rfl⟩;rw [← hcap] at hge hle hr;have Hr := hh_ hr;have Hle := hh_ hle;have Hge := hh_ hge;clear hr h0 hz hsize hbytes hi' HR hcap hle hge;go_enter Tryz.func166, Tryz.ntmps166;go_wp2_with (first | (at_builtin; (refine Lib.wpList_append_run _ rfl _ _ 32 3 rfl _ _ rfl rfl _ _ (Hr.out _) ?_)))
  go_ret;refine ⟨_, _, rfl, fun x => .inr ⟨w.heap.size, _, rfl, nr_, by simp, heap_alloc_new w.drew _, Nat.zero_le _, Hle.out, ?_, fun j hj => absurd hj (by omega)⟩, (br_.drew).alloc nr_ _⟩;have := Hge.out;rw [Array.size_append, zeroCells_size, zeroCells_size];omega
structure LV (w : World) (A : Option Addr) (n c : Nat) (x : Nat → Value) : Prop where
 rd : RdV w w.heap.size A n c x
theorem LV.keep {w w' : World} {A : Option Addr} {n c : Nat} {x : Nat → Value} (h : LV w A n c x) (hb : Below w.heap.size w w') : LV w' A n c x := ⟨h.rd.keep hb hb.size⟩
set_option maxRecDepth 100000 in
theorem Concat_i (q : Nat) (A1 A2 : Option Addr) (n1 n2 c1 c2 : Nat) (y1 y2 : Nat → Value) (w : World) (q0 : w.cell? ⟨q, 0, none⟩ = some (.slice A1 n1 c1)) (q1 : w.cell? ⟨q, 1, none⟩ = some (.slice A2 n2 c2)) (h1 : LV w A1 n1 c1 y1) (h2 : LV w A2 n2 c2 y2) (o1 : ∀ k, (y1 k).oneCell' = true) (o2 : ∀ k, (y2 k).oneCell' = true) (hn1 : n1 ≤ 1048576) (hn2 : n2 ≤ 1048576) :
 Calls Tryz.prog 124 #[.slice (some ⟨q, 0, none⟩) 2 2] w fun e w' => ∃ A' c', e = .returned (.slice A' (n1 + n2) c') ∧ Own w' w.heap.size w'.heap.size 24 1 A' (n1 + n2) c' (thenV n1 y1 y2) ∧ Below w.heap.size w w' := by
 have H1 := hh_ h1;have H2 := hh_ h2;have O1 := hh_ o1;have O2 := hh_ o2;have HQ0 : Hid (CL w q 0 (.slice A1 n1 c1)) := ⟨q0⟩;have HQ1 : Hid (CL w q 1 (.slice A2 n2 c2)) := ⟨q1⟩;clear h1 h2 o1 o2;go_enter Tryz.func124, Tryz.ntmps124;go_wp2;go_loop [3, 11] (fun s i => ∃ k : Nat, k ≤ 2 ∧ i = .int .i64 k ∧ ∃ t : Nat, s = .int .i64 t ∧ Hid (t = if k = 0 then 0 else if k = 1 then n1 else n1 + n2) ∧ t ≤ 2097152) (fun _ i => 2 - (intOf i).toNat);case atStart => exact ⟨0, by omega, rfl, 0, rfl, by simp [Hid], by omega⟩
 case round =>
  obtain ⟨k, hk, rfl, t, rfl, ht, htl⟩ := hrel;by_cases hlt : k < 2
  ·have : k = 0 ∨ k = 1 := by omega
   rcases this with rfl | rfl
   ·have e0 : t = 0 := ht.out;subst e0;go_wp2;go_round;case rel => exact ⟨1, by omega, by go_num, n1, by go_num, rfl, by omega⟩
    case measure => simp [intOf]
   ·have e0 : t = n1 := ht.out;subst e0;have e1 : ¬ (t : Int) + n2 < 0 := by omega
    go_wp2;go_round;case rel => exact ⟨2, by omega, by go_num, t + n2, by go_num, rfl, by omega⟩
    case measure => simp [intOf]
  ·obtain rfl : k = 2 := by omega
   have e0 : t = n1 + n2 := ht.out;subst e0;clear q0 q1;go_wp2_with fail
   refine (Grow_i (n1 + n2) w (by omega)).mono ?_;rintro e w1 ⟨A, c, rfl, hO, hb1⟩;have HO := hh_ (hO (thenV n1 y1 y2));have HB : Hid (From w w1) := ⟨hb1⟩;clear hO hb1;go_wp2;go_loopw [6, 27] (fun s i wr => ∃ (k t : Nat) (A' : Option Addr) (c' : Nat), k ≤ 2 ∧ i = .int .i64 k ∧ s = .slice A' t c' ∧ Hid (t = if k = 0 then 0 else if k = 1 then n1 else n1 + n2) ∧ Hid (Own wr w.heap.size wr.heap.size 24 1 A' t c' (thenV n1 y1 y2)) ∧ Hid (From w wr)) (fun _ i _ => 2 - (intOf i).toNat);case atStart => exact ⟨0, 0, A, c, by omega, rfl, rfl, rfl, HO, HB⟩
   case round =>
    obtain ⟨k, t, A', c', hk, rfl, rfl, ht, HOr, HR⟩ := hrel;have zr := HR.below.size;by_cases hlt : k < 2
    ·have : k = 0 ∨ k = 1 := by omega
     have q0 := (HQ0.keep HR.below).c;have q1 := (HQ1.keep HR.below).c;have HL1 := hh_ (H1.keep HR.below);have HL2 := hh_ (H2.keep HR.below);rcases this with rfl | rfl
     ·have e0 : t = 0 := ht.out;subst e0;go_wp2_with (first | (at_builtin; (refine wpList_appendV wr rfl _ _ rfl rfl HOr.out rfl HL1.rd O1.out zr (by omega) (by omega) ?_; intro A3 c3 w3 hO3 hb3)))
      have HO3 : Hid (Own w3 w.heap.size w3.heap.size 24 1 A3 (0 + n1) c3 (thenV n1 y1 y2)) := hO3.congr (fun j hj => by unfold thenV; rw [if_neg (by omega), if_pos (by omega)]; rfl);have HB3 : Hid (From w w3) := ⟨HR.below.trans hb3⟩;clear hO3 hb3 HOr HR;go_roundw;case rel => exact ⟨1, n1, A3, c3, by omega, by go_num, rfl, rfl, by have := HO3; rw [Nat.zero_add] at this; exact this, HB3⟩
      case measure => simp [intOf]
     ·have e0 : t = n1 := ht.out;subst e0;go_wp2_with (first | (at_builtin; (refine wpList_appendV wr rfl _ _ rfl rfl HOr.out rfl HL2.rd O2.out zr (by omega) (by omega) ?_; intro A3 c3 w3 hO3 hb3)))
      have HO3 : Hid (Own w3 w.heap.size w3.heap.size 24 1 A3 (t + n2) c3 (thenV t y1 y2)) := hO3.congr (fun j hj => by unfold thenV; by_cases h : j < t <;> simp [h]);have HB3 : Hid (From w w3) := ⟨HR.below.trans hb3⟩;clear hO3 hb3 HOr HR;go_roundw;case rel => exact ⟨2, t + n2, A3, c3, by omega, by go_num, rfl, rfl, HO3, HB3⟩
      case measure => simp [intOf]
    ·obtain rfl : k = 2 := by omega
     have e0 : t = n1 + n2 := ht.out;subst e0;go_wp2;go_ret;exact ⟨A', c', rfl, HOr.out, HR.below⟩
structure LD (w : World) (A : Option Addr) (c : Nat) (D : List Dsc) : Prop where
 rd : RdD w w.heap.size A c D
theorem LD.keep {w w' : World} {A : Option Addr} {c : Nat} {D : List Dsc} (h : LD w A c D) (hb : Below w.heap.size w w') : LD w' A c D := ⟨h.rd.keep hb hb.size⟩
theorem dvs_one (D : List Dsc) (k : Nat) : (dvs D k).oneCell' = true := rfl
theorem getD_erase (D : List Dsc) (i j : Nat) (d : Dsc) : (D.eraseIdx i).getD j d = if j < i then D.getD j d else D.getD (j + 1) d := by
 simp only [List.getD, List.getElem?_eraseIdx];split <;> rfl
theorem lists_erase (D : List Dsc) (i : Nat) : lists (D.eraseIdx i) = (lists D).eraseIdx i := by
 unfold lists;apply List.ext_getElem?;intro j;simp only [List.getElem?_map, List.getElem?_eraseIdx];split <;> rfl
theorem LD.pre {w : World} {A : Option Addr} {c i : Nat} {D : List Dsc} (h : LD w A c D) (hi : i ≤ D.length) : LV w A i c (dvs D) :=
 ⟨by have := h.rd.1.1; omega, fun hn => by
   obtain ⟨b, o, e, hb, hc⟩ := h.rd.1.2 (by omega)
   exact ⟨b, o, e, hb, fun k hk => hc k (by omega)⟩⟩
theorem LD.post {w : World} {b o c i : Nat} {D : List Dsc} (h : LD w (some ⟨b, o, none⟩) c D) (hi : i < D.length) (hc : i + 1 < c) : LV w (some ⟨b, o + (i + 1), none⟩) (D.length - (i + 1)) (c - (i + 1)) (fun j => dvs D (i + 1 + j)) :=
 ⟨by have := h.rd.1.1; omega, fun hn => by
   obtain ⟨b', o', e, hb, hc⟩ := h.rd.1.2 (by omega)
   simp only [Option.some.injEq, Addr.mk.injEq, and_true] at e
   obtain ⟨rfl, rfl⟩ := e
   exact ⟨b, o + (i + 1), rfl, hb, fun k hk => by rw [Nat.add_assoc]; exact hc (i + 1 + k) (by omega)⟩⟩
theorem LD.erase {w' : World} {A A' : Option Addr} {c c' i lo : Nat} {D : List Dsc} (h : LD w' A c D) (hi : i < D.length) (hO : Own w' lo w'.heap.size 24 1 A' (i + (D.length - (i + 1))) c' (thenV i (dvs D) (fun j => dvs D (i + 1 + j)))) : LD w' A' c' (D.eraseIdx i) := by
 have hl : (D.eraseIdx i).length = i + (D.length - (i + 1)) := by rw [List.length_eraseIdx_of_lt hi]; omega
 refine ⟨?_, fun d hd => h.rd.2 d (List.mem_of_mem_eraseIdx hd)⟩;rw [hl];refine (hO.congr (fun j hj => ?_)).rdV;unfold thenV dvs;rw [getD_erase];by_cases hj2 : j < i
 ·rw [if_pos hj2, if_pos hj2]
 ·rw [if_neg hj2, if_neg hj2];show dv (D.getD (i + 1 + (j - i)) _) = _;rw [show i + 1 + (j - i) = j + 1 by omega]
set_option maxRecDepth 100000 in
theorem withoutEdge_i (A : Option Addr) (c : Nat) (D : List Dsc) (i : Nat) (w : World) (h : LD w A c D) (hi : i < D.length) (hd : D.length ≤ 1048576) :
 Calls Tryz.prog 74 #[.slice A D.length c, .int .i64 i] w fun e w' => ∃ A' c', e = .returned (.slice A' (D.eraseIdx i).length c') ∧ LD w' A' c' (D.eraseIdx i) ∧ Below w.heap.size w w' := by
 have hl : (D.eraseIdx i).length = i + (D.length - (i + 1)) := by rw [List.length_eraseIdx_of_lt hi]; omega
 rw [hl];obtain ⟨b, o, rfl, hb, _⟩ := h.rd.1.2 (by omega);have hc := h.rd.1.1;have H := hh_ h;have H1 := hh_ (h.pre (i := i) (by omega));obtain ⟨n, hn⟩ : ∃ n, n = D.length := ⟨_, rfl⟩;have i1 : (0 : Int) ≤ i := by omega
 have i2 : (i : Int) ≤ c := by omega
 have i3 : IntKind.i64.wrap ((i : Int) + 1) = (i : Int) + 1 := Go.IntWalk.i64_in _ (by omega);have i4 : (0 : Int) ≤ i + 1 := by omega
 have i5 : (i : Int) + 1 ≤ (D.length : Int) := by omega
 have i6 : ((i : Int) + 1).toNat = i + 1 := by omega
 have HZ1 : Hid (Below w.heap.size w w.drew) := br_.drew;have post : ∀ (A2 : Option Addr) (c2 : Nat), LV w A2 (D.length - (i + 1)) c2 (fun j => dvs D (i + 1 + j)) → ∀ W : World, Below w.heap.size w W → W.cell? ⟨w.heap.size, 0, none⟩ = some (.slice (some ⟨b, o, none⟩) i c) → W.cell? ⟨w.heap.size, 1, none⟩ = some (.slice A2 (D.length - (i + 1)) c2) → Calls Tryz.prog 124 #[.slice (some ⟨w.heap.size, 0, none⟩) 2 2] W fun e w' => ∃ A' c', e = .returned (.slice A' (i + (D.length - (i + 1))) c') ∧ LD w' A' c' (D.eraseIdx i) ∧ Below w.heap.size w w' := by
  intro A2 c2 h2 W hb q0 q1;refine (Concat_i w.heap.size (some ⟨b, o, none⟩) A2 i (D.length - (i + 1)) c c2 _ _ W q0 q1 (H1.keep hb) (h2.keep hb) (dvs_one D) (fun _ => dvs_one D _) (by omega) (by omega)).mono ?_;rintro e w' ⟨A', c', he, hO, hb2⟩;exact ⟨A', c', he, LD.erase ((H.keep hb).keep hb2) hi hO, bl_trans hb hb2⟩
 have HP := hh_ post;by_cases hic : i + 1 < c
 ·have H2 := hh_ (h.post hi hic);have hci : (c = i + 1) = False := by simp; omega
  have KC : Hid (∀ W : World, W = (w.alloc (Obj.cells #[.slice (some ⟨b, o, none⟩) i c, .slice (some ⟨b, o + (i + 1), none⟩) (D.length - (i + 1)) (c - (i + 1))] 32)).drew → _) := fun W hW => HP.out _ _ H2.out W (by rw [hW]; exact bl_drew (bl_alloc br_)) (by rw [hW]; simp [go_sem]) (by rw [hW]; simp [go_sem])
  clear h post hi hic;go_enter Tryz.func74, Tryz.ntmps74;go_wp2;go_region_held3 (fun z => Below w.heap.size w z)
   (first | exact HZ1.out | assumption | exact bl_alloc HZ1.out | fail)
   (first | (go_at_call 124; ((with_reducible refine (KC.out _ rfl).mono ?_); rintro e w1 ⟨A', c', rfl, hL, hb⟩)))
  have HL := hh_ hL;have HB := hh_ hb;clear hL hb;go_wp2;go_ret;exact ⟨A', c', rfl, HL.out, HB⟩
 ·have hci : (c = i + 1) = True := by simp; omega
  have hz : D.length - (i + 1) = 0 := by omega
  have H2 : Hid (LV w (some ⟨b, o, none⟩) (D.length - (i + 1)) (c - (i + 1)) (fun j => dvs D (i + 1 + j))) := ⟨⟨by omega, fun h => by omega⟩⟩;have KC : Hid (∀ W : World, W = (w.alloc (Obj.cells #[.slice (some ⟨b, o, none⟩) i c, .slice (some ⟨b, o, none⟩) (D.length - (i + 1)) (c - (i + 1))] 32)).drew → _) := fun W hW => HP.out _ _ H2.out W (by rw [hW]; exact bl_drew (bl_alloc br_)) (by rw [hW]; simp [go_sem]) (by rw [hW]; simp [go_sem])
  clear h post hi hic hz;go_enter Tryz.func74, Tryz.ntmps74;go_wp2;go_region_held3 (fun z => Below w.heap.size w z)
   (first | exact HZ1.out | assumption | exact bl_alloc HZ1.out | fail)
   (first | (go_at_call 124; ((with_reducible refine (KC.out _ rfl).mono ?_); rintro e w1 ⟨A', c', rfl, hL, hb⟩)))
  have HL := hh_ hL;have HB := hh_ hb;clear hL hb;go_wp2;go_ret;exact ⟨A', c', rfl, HL.out, HB⟩
theorem lists_small {D : List Dsc} {F : List (List Int)} (h : lists D = F) (h1 : F.length ≤ 21) (h2 : ∀ l ∈ F, l.length = 2) : D.length ≤ 21 ∧ tot D ≤ 1073741824 := by
 have := sum_two h2;rw [tot_eq h, this];have h3 : D.length = F.length := by rw [← h]; unfold lists; rw [List.length_map]
 omega
theorem same_graphs {s : Int} {A1 A2 : Option Addr} {n c1 c2 : Nat} {x : Nat → Int} {W : World} (h1 : GA W A1 n c1 x) (h2 : GA W A2 n c2 x) (hn : n ≤ 1073741824) :
 Calls Tryz.prog 12 #[.agg #[.int .i64 s, .slice A1 n c1], .agg #[.int .i64 s, .slice A2 n c2]] W fun e w' => e = .returned (.bool true) ∧ Below W.heap.size W w' := by
 have := EqualGraphs_s s s A1 A2 n n c1 c2 x x W W.heap.size h1.rd h2.rd nr_ hn hn;rwa [gsl_rows, sl_yes (fun _ _ => rfl)] at this
theorem same_lists {A1 A2 : Option Addr} {c1 c2 : Nat} {D E : List Dsc} {F : List (List Int)} {W : World} (h1 : LD W A1 c1 D) (h2 : LD W A2 c2 E) (e1 : lists D = F) (e2 : lists E = F) (hF : F.length ≤ 21) (h2F : ∀ l ∈ F, l.length = 2) :
 Calls Tryz.prog 14 #[.slice A1 D.length c1, .slice A2 E.length c2] W fun e w' => e = .returned (.bool true) ∧ Below W.heap.size W w' := by
 have a := lists_small e1 hF h2F;have b := lists_small e2 hF h2F;have := sameLists_any A1 A2 c1 c2 D E W W.heap.size h1.rd h2.rd nr_ (by omega) a.2 (by omega) b.2;rwa [decide_eq_true (e1.trans e2.symm)] at this
set_option maxHeartbeats 1600000
noncomputable def fiB (sz : Int) (m : Nat) (x : Nat → Int) (L : List (List Int)) : Bool := chB (aaZ sz m x L) (aaN sz m x L) (aaX sz m x L)
theorem fiB_no {sz : Int} {m : Nat} {x : Nat → Int} {L : List (List Int)} (h : aaB sz m x L = false) : fiB sz m x L = false := by
 have h2 : aaZ sz m x L = 0 := by unfold aaZ; rw [h]; rfl
 unfold fiB;exact chB_no (by rw [h2]; exact okB_far (.inl (by omega)))
noncomputable def imfB (sz : Int) (m : Nat) (x : Nat → Int) (L : List (List Int)) : Bool := fiB sz m x L && (List.range L.length).all fun i => !fiB sz m x (L.eraseIdx i)
theorem imB_bad {sz : Int} {m : Nat} {x : Nat → Int} {L : List (List Int)} (h : fiB sz m x L = false) : imfB sz m x L = false := by unfold imfB; rw [h]; rfl
theorem imB_no {sz : Int} {m : Nat} {x : Nat → Int} {L : List (List Int)} {i : Nat} (hi : i < L.length) (h : fiB sz m x (L.eraseIdx i) = true) : imfB sz m x L = false := by
 unfold imfB;have : ((List.range L.length).all fun i => !fiB sz m x (L.eraseIdx i)) = false := by
  rw [List.all_eq_false];exact ⟨i, List.mem_range.2 hi, by simp [h]⟩
 rw [this, Bool.and_false]
theorem imB_yes {sz : Int} {m : Nat} {x : Nat → Int} {L : List (List Int)} (h0 : fiB sz m x L = true) (h : ∀ i, i < L.length → fiB sz m x (L.eraseIdx i) = false) : imfB sz m x L = true := by
 unfold imfB;rw [h0, Bool.true_and, List.all_eq_true];intro i hi;simp [h i (List.mem_range.1 hi)]
theorem tot_erase (D : List Dsc) (i : Nat) : tot (D.eraseIdx i) ≤ tot D := by
 unfold tot;induction D generalizing i with
 | nil => simp
 | cons d D ih =>
   cases i with
   | zero => simp
   | succ i => have := ih i; simp only [List.eraseIdx_cons_succ, List.map_cons, List.sum_cons]; omega
theorem fills_i (s1 : Int) (A1 : Option Addr) (m1 c1 : Nat) (x1 : Nat → Int) (A2 : Option Addr) (c2 : Nat) (D : List Dsc) (w : World) (h1 : Rd w w.heap.size A1 m1 c1 x1) (h2 : LD w A2 c2 D) (hm1 : m1 ≤ 1048576) (hd : D.length ≤ 1048576) (ht : tot D ≤ 1048576) :
 Calls Tryz.prog 75 #[.agg #[.int .i64 s1, .slice A1 m1 c1], .slice A2 D.length c2] w fun e w' => e = .returned (.bool (fiB s1 m1 x1 (lists D))) ∧ Below w.heap.size w w' := by
 obtain ⟨W, hW⟩ : ∃ W, W = (w.alloc (Obj.cells #[.int .i64 s1, .slice A1 m1 c1] 26)) := ⟨_, rfl⟩;have HB : Hid (From w W) := by rw [hW]; exact From.alloc _ _
 have HK : Hid (Rd W W.heap.size A1 m1 c1 x1) := h1.keep HB.below HB.below.size;have HD := hh_ (h2.keep HB.below);have HW := hh_ hW;clear hW h1 h2;go_enter Tryz.func75, Tryz.ntmps75;go_wp2_with fail
 rw [← HW.out];clear HW;refine (AddAll_i s1 A1 m1 c1 x1 A2 c2 D W W.heap.size HK HD.rd nr_ hm1 hd ht _ rfl).mono ?_;rintro e w1 ⟨A', c', rfl, hO, hb1⟩;have HB1 := hh_ (HB.keep hb1);have HO := hh_ hO;have hN : aaN s1 m1 x1 (lists D) ≤ m1 := aaN_le;clear hO hb1 HB HK HD;cases hb : aaB s1 m1 x1 (lists D)
 ·have hno : Hid (fiB s1 m1 x1 (lists D) = false) := fiB_no hb;clear hb;go_wp2;go_ret;exact ⟨ret_bool hno.symm, (HB1.alloc_ _).below⟩
 ·obtain ⟨W2, hW2⟩ : ∃ W2, W2 = w1.alloc (Obj.cells #[.int .i64 (aaZ s1 m1 x1 (lists D)), .slice A' (aaN s1 m1 x1 (lists D)) c'] 26) := ⟨_, rfl⟩;have HB2 : Hid (From w W2) := by rw [hW2]; exact HB1.alloc_ _
  have HR2 : Hid (Rd W2 W2.heap.size A' (aaN s1 m1 x1 (lists D)) c' (aaX s1 m1 x1 (lists D))) := by
   rw [hW2];exact HO.rd.keep (br_.alloc nr_ _) (by simp)
  have HW2 := hh_ hW2;clear hW2 hb;go_wp2_with fail
  rw [← HW2.out];clear HW2;refine (IsChordal_ix _ A' _ c' _ W2 W2.heap.size HR2.out nr_ (by omega)).mono ?_;rintro e w3 ⟨rfl, hb3⟩;have HB3 := hh_ (HB2.keep hb3);clear hb3;go_wp2;go_ret;exact ⟨rfl, HB3.below⟩
set_option maxRecDepth 100000 in
theorem IsMinimalFill_i (s1 : Int) (A1 : Option Addr) (m1 c1 : Nat) (x1 : Nat → Int) (A2 : Option Addr) (c2 : Nat) (D : List Dsc) (w : World) (B : Nat) (h1 : Rd w B A1 m1 c1 x1) (h2 : RdD w B A2 c2 D) (hB : B ≤ w.heap.size) (hm1 : m1 ≤ 1048576) (hd : D.length ≤ 1048576) (ht : tot D ≤ 1048576) (L : List (List Int)) (hL : lists D = L) :
 Calls Tryz.prog 28 #[.agg #[.int .i64 s1, .slice A1 m1 c1], .slice A2 D.length c2] w fun e w' => e = .returned (.bool (imfB s1 m1 x1 L)) ∧ Below w.heap.size w w' := by
 subst hL;obtain ⟨W, hW⟩ : ∃ W, W = (w.alloc (Obj.cells #[.int .i64 s1, .slice A1 m1 c1] 26)) := ⟨_, rfl⟩;have HB : Hid (From w W) := by rw [hW]; exact From.alloc _ _
 have HK : Hid (Rd W W.heap.size A1 m1 c1 x1) := h1.keep (HB.below.mono hB) (by have := HB.below.size; omega);have HD : Hid (LD W A2 c2 D) := ⟨h2.keep (HB.below.mono hB) (by have := HB.below.size; omega)⟩;have HC : Hid (GC W w.heap.size s1 A1 m1 c1) := by rw [hW]; exact GC.new _ _ _ _ _
 have HW := hh_ hW;clear hW h1 h2;go_enter Tryz.func28, Tryz.ntmps28;go_wp2_with fail
 rw [← HW.out];clear HW;refine (fills_i s1 A1 m1 c1 x1 A2 c2 D W HK HD.out hm1 (by omega) ht).mono ?_;rintro e w1 ⟨rfl, hb1⟩;have HK1 : Hid (Rd w1 w1.heap.size A1 m1 c1 x1) := HK.keep hb1 hb1.size;replace HB := hh_ (HB.keep hb1);replace HD := hh_ (HD.keep hb1);replace HC := hh_ (HC.keep hb1);clear hb1 HK;cases hf : fiB s1 m1 x1 (lists D)
 ·have hno : Hid (imfB s1 m1 x1 (lists D) = false) := imB_bad hf;clear hf;go_wp2;go_ret;exact ⟨ret_bool hno.symm, HB.below⟩
 have Hf := hh_ hf;have hll : (lists D).length = D.length := by simp [lists]
 have Hll := hh_ hll;clear hf hll;go_wp2;go_loopw [12] (fun i wr => ∃ k : Nat, k ≤ D.length ∧ i = .int .i64 k ∧ Hid (∀ j, j < k → fiB s1 m1 x1 ((lists D).eraseIdx j) = false) ∧ Hid (From w1 wr)) (fun i _ => D.length - (intOf i).toNat);case atStart => exact ⟨0, Nat.zero_le _, rfl, (fun j hj => absurd hj (by omega)), From.refl _⟩
 case round =>
  obtain ⟨k, hk, rfl, hall, HR⟩ := hrel;have HBr := hh_ (HB.keep HR.below);by_cases hlt : k < D.length
  ·have HCr := hh_ (HC.keep HR.below);have HDr := hh_ (HD.keep HR.below);have HKr : Hid (Rd wr wr.heap.size A1 m1 c1 x1) := HK1.keep HR.below HR.below.size;have i1 : (k : Int) < D.length := by omega
   have q0 := HCr.c0;have q1 := HCr.c1;have HSC : Hid (∀ z : World, Below wr.heap.size wr z → (Below wr.heap.size wr z ∧ z.cell? ⟨w.heap.size, 0, none⟩ = some (.int .i64 s1) ∧ z.cell? ⟨w.heap.size, 1, none⟩ = some (.slice A1 m1 c1))) := fun z hz => ⟨hz, up_ hz q0, up_ hz q1⟩
   have HZ1 : Hid (Below wr.heap.size wr wr.drew) := br_.drew;have HS1 := hh_ (HSC.out _ HZ1.out);have K1 := hh_ (withoutEdge_i A2 c2 D k wr.drew (HDr.keep HZ1.out) hlt hd);have hte := tot_erase D k;have hle : (D.eraseIdx k).length ≤ D.length := List.length_eraseIdx_le ..;have K2 : Hid (∀ (z : World) (A' : Option Addr) (c' : Nat), Below wr.heap.size wr z → LD z A' c' (D.eraseIdx k) → _) := fun z A' c' hz hl => fills_i s1 A1 m1 c1 x1 A' c' (D.eraseIdx k) z (HKr.keep hz hz.size) hl hm1 (by omega) (by omega)
   have He : Hid (lists (D.eraseIdx k) = (lists D).eraseIdx k) := lists_erase D k;obtain ⟨t, ht2⟩ : ∃ t, t = fiB s1 m1 x1 ((lists D).eraseIdx k) := ⟨_, rfl⟩;rw [He.out, ← ht2] at K2;have Ht := hh_ ht2;clear ht2 q0 q1 hte hle;go_wp2;go_region_held3 (fun z => Below wr.heap.size wr z ∧ z.cell? ⟨w.heap.size, 0, none⟩ = some (.int .i64 s1) ∧ z.cell? ⟨w.heap.size, 1, none⟩ = some (.slice A1 m1 c1))
    (first | exact HS1.out | assumption | exact HSC.out _ (by assumption) | exact HSC.out _ (bl_trans HZ1.out hb2) | fail)
    (first | (go_at_call 74; ((with_reducible refine K1.out.mono ?_); rintro e w2 ⟨A', c', rfl, hL2, hb2⟩)) | (go_at_call 75; ((with_reducible refine (K2.out _ _ _ (bl_trans HZ1.out hb2) hL2).mono ?_); rintro e w3 ⟨rfl, hb3⟩; have hz3 := bl_trans (bl_trans HZ1.out hb2) hb3)))
   have HR3 := hh_ (HR.keep hz3);have HB3 := hh_ (HBr.keep hz3);clear hb2 hb3 hz3 hL2 HSC HZ1 HS1 K1 K2 HR HBr HCr HDr HKr;cases t
   ·go_wp2;go_roundw;case rel =>
     refine ⟨k + 1, by omega, by go_num, fun j hj => ?_, HR3⟩;by_cases hjk : j < k
     ·exact hall.out j hjk
     ·obtain rfl : j = k := by omega
      exact Ht.symm
    case measure => simp [intOf]; omega
   ·have hno : Hid (imfB s1 m1 x1 (lists D) = false) := imB_no (by rw [Hll.out]; exact hlt) Ht.symm;go_wp2;go_ret;exact ⟨ret_bool hno.symm, HB3.below⟩
  ·have hyes : Hid (imfB s1 m1 x1 (lists D) = true) := imB_yes Hf.out fun i hi => hall.out i (by rw [Hll.out] at hi; omega)
   have i1 : (D.length : Int) ≤ (k : Int) := by omega
   go_wp2;go_ret;exact ⟨ret_bool hyes.symm, HBr.below⟩
end Go.Proofs.YticadlkcjhglnaaGreat
