/-
  Several texts in one.
-/
import Derived.Test.YticadlkcjhglnaaGreatQoFewP
import Derived.Test.YticadlkcjhglnaaGreatQoGC
/-
-/
namespace Go.Proofs.YticadlkcjhglnaaGreat
open Go.RowKit
set_option maxHeartbeats 3200000
def ci (l : List Nat) : List Int := l.map fun v : Nat => (v : Int)
def nl (L : List (List Nat)) : List (List Int) := L.map ci
def exTo (l : List Nat) (v : Nat) : List (List Nat) := ((List.range v).filter fun v => !decide (v ∈ l)).map fun v => l ++ [v]
def orTo (n : Nat) (L : List (List Nat)) (j v : Nat) : List (List Nat) := (L.take j).flatMap (extN n) ++ exTo (L.getD j []) v
theorem orTo_zero (n : Nat) (L : List (List Nat)) : orTo n L 0 0 = [] := by simp [orTo, exTo]
theorem orTo_yes {n : Nat} {L : List (List Nat)} {j v : Nat} (h : v ∉ L.getD j []) : orTo n L j (v + 1) = orTo n L j v ++ [L.getD j [] ++ [v]] := by
 unfold orTo exTo;rw [List.range_succ, List.filter_append, List.map_append, List.append_assoc];obtain ⟨l, hl⟩ : ∃ l, l = L.getD j [] := ⟨_, rfl⟩;rw [← hl] at h ⊢;simp [h]
theorem orTo_no {n : Nat} {L : List (List Nat)} {j v : Nat} (h : v ∈ L.getD j []) : orTo n L j (v + 1) = orTo n L j v := by
 unfold orTo exTo;rw [List.range_succ, List.filter_append, List.map_append];obtain ⟨l, hl⟩ : ∃ l, l = L.getD j [] := ⟨_, rfl⟩;rw [← hl] at h ⊢;simp [h]
theorem orTo_row {n : Nat} {L : List (List Nat)} {j : Nat} (h : j < L.length) : orTo n L (j + 1) 0 = orTo n L j n := by
 unfold orTo;rw [List.take_succ_eq_append_getElem h, List.flatMap_append];simp [exTo, extN, List.getD, h]
theorem orTo_all {n k : Nat} : orTo n (ordN n k) (ordN n k).length 0 = ordN n (k + 1) := by
 unfold orTo; rw [List.take_length]; simp [exTo, ordN]
theorem exTo_len {v : Nat} {l : List Nat} : (exTo l v).length ≤ v := by
 unfold exTo; rw [List.length_map]; have := List.length_filter_le (fun v => !decide (v ∈ l)) (List.range v); simpa using this
theorem flat_len {n : Nat} : ∀ (L : List (List Nat)), (L.flatMap (extN n)).length ≤ L.length * n := by
 intro L;induction L with
 | nil => simp
 | cons l L ih =>
   rw [List.flatMap_cons, List.length_append, List.length_cons, Nat.succ_mul];have : (extN n l).length ≤ n := exTo_len (l := l) (v := n);omega
theorem ordN_len (n : Nat) : ∀ k, (ordN n k).length ≤ n ^ k
 | 0 => nr_
 | k + 1 => by
   have h1 := flat_len (n := n) (ordN n k)
   have h2 := Nat.mul_le_mul_right n (ordN_len n k)
   rw [Nat.pow_succ]
   exact Nat.le_trans h1 h2
theorem pow5 {n k : Nat} (hn : n ≤ 5) (hk : k ≤ 5) : n ^ k ≤ 3125 :=
 Nat.le_trans (Nat.pow_le_pow_left hn k) (Nat.pow_le_pow_right (by omega) hk)
theorem orTo_len {n k j v : Nat} (hn : n ≤ 5) (hk : k < 5) (hv : v ≤ n) : (orTo n (ordN n k) j v).length ≤ 20000 := by
 unfold orTo;rw [List.length_append];have h1 := flat_len (n := n) ((ordN n k).take j);have h2 := exTo_len (l := (ordN n k).getD j []) (v := v);have h3 : ((ordN n k).take j).length ≤ (ordN n k).length := List.length_take_le' j (ordN n k);have h4 := Nat.le_trans (ordN_len n k) (pow5 hn (by omega : k ≤ 5));have h5 : ((ordN n k).take j).length * n ≤ 3125 * 5 := Nat.mul_le_mul (by omega) hn;omega
theorem nl_len {D : List Dsc} {L : List (List Nat)} (h : lists D = nl L) : D.length = L.length := by
 have := congrArg List.length h;rw [lists, nl, List.length_map, List.length_map] at this;exact this
theorem nl_at {w : World} {lo hi c k : Nat} {A : Option Addr} {D : List Dsc} {L : List (List Nat)} (h : OwnD w lo hi A c D) (hhi : hi ≤ w.heap.size) (hD : lists D = nl L) (hk : k < D.length) :
 ∃ g Ad cd, A = some ⟨g, 0, none⟩ ∧ g < hi ∧ w.cell? ⟨g, k, none⟩ = some (.slice Ad (L.getD k []).length cd) ∧ LN w Ad cd (L.getD k []) := by
 obtain ⟨g, e1, _, g2, _, h1, _⟩ := h.1.at_ (by omega);have hkL : k < L.length := by rw [← nl_len hD]; exact hk
 have he : (D[k]).2.2 = ci (L.getD k []) := by
  have h2 : (lists D)[k]? = (nl L)[k]? := by rw [hD]
  unfold lists nl at h2;rw [List.getElem?_map, List.getElem?_map, List.getElem?_eq_getElem hk, List.getElem?_eq_getElem hkL] at h2;simp only [Option.map_some, Option.some.injEq] at h2;rw [h2]; simp [List.getD, hkL]
 have hl : (D[k]).2.2.length = (L.getD k []).length := by rw [he]; unfold ci; rw [List.length_map]
 have ho := h.2.1 D[k] (List.getElem_mem hk);rw [hl] at ho;refine ⟨g, (D[k]).1, (D[k]).2.1, e1, g2, ?_, ⟨(ho.mono nr_ hhi).rd.congr (fun j hj => ?_)⟩⟩
 ·rw [h1 k (by omega)];unfold dvs dv;simp [List.getD, hk];rw [hl]; simp [List.getD]
 ·rw [he]; unfold ci;obtain ⟨l, hl⟩ : ∃ l, l = L.getD k [] := ⟨_, rfl⟩;rw [← hl] at hj ⊢;simp [List.getD, hj]
theorem one_rd (z : World) (v : Nat) : Rd (z.alloc (Obj.cells #[.int .i64 v] 3)) (z.heap.size + 1) (some ⟨z.heap.size, 0, none⟩) 1 1 (fun _ => (v : Int)) := by
 refine ⟨nr_, fun _ => ⟨z.heap.size, 0, rfl, Nat.lt_succ_self _, fun j hj => ?_⟩⟩;obtain rfl : j = 0 := by omega
 simp [go_sem]
theorem own_snoc {w : World} {lo hi lo' hi' c : Nat} {A : Option Addr} {l : List Nat} {v : Nat} (h : Own w lo hi 3 1 A (l.length + 1) c (thenI l.length (thenI 0 (ni []) (fun j => ((l.getD j 0 : Nat) : Int))) (fun _ => (v : Int)))) (h1 : lo' ≤ lo) (h2 : hi ≤ hi') :
 Own w lo' hi' 3 1 A (ci (l ++ [v])).length c (ii (ci (l ++ [v]))) := by
 have hl : (ci (l ++ [v])).length = l.length + 1 := by unfold ci; simp
 rw [hl];refine (h.mono h1 h2).congr (fun j hj => ?_);have hj' : j < l.length + 1 := by omega
 unfold thenI ii ci;by_cases hjl : j < l.length
 ·simp [hjl, List.getD, List.getElem?_append]
 ·obtain rfl : j = l.length := by omega
  simp [List.getD]
theorem dv_snoc (A : Option Addr) (c : Nat) (l : List Nat) (v : Nat) : dv (A, c, ci (l ++ [v])) = .slice A (l.length + 1) c := by simp [dv, ci]
set_option maxRecDepth 100000 in
theorem l30Orders_s (m : Nat) (w : World) (hm : m ≤ 5) :
 Calls Tryz.prog 99 #[.int .i64 m] w fun e w' => ∃ A c D, e = .returned (.slice A D.length c) ∧ lists D = nl (ordN m m) ∧ OwnD w' w.heap.size w'.heap.size A c D ∧ Below w.heap.size w w' := by
 obtain ⟨W, hW⟩ : ∃ W, W = (w.alloc (Obj.cells #[] 3)).alloc (Obj.cells #[.slice (some ⟨w.heap.size, 0, none⟩) 0 0] 24) := ⟨_, rfl⟩;have HB : Hid (From w W) := by rw [hW]; exact (From.alloc _ _).alloc_ _
 have hz : W.heap.size = w.heap.size + 2 := by rw [hW]; simp
 have HD : Hid (OwnD W w.heap.size W.heap.size (some ⟨w.heap.size + 1, 0, none⟩) 1 [(some ⟨w.heap.size, 0, none⟩, 0, [])]) := by
  refine ⟨.inr ⟨w.heap.size + 1, #[.slice (some ⟨w.heap.size, 0, none⟩) 0 0], rfl, by omega, by omega, ?_, nr_, by unfold maxLen; omega, rfl, ?_⟩, ?_, by simp [Apart]⟩
  ·rw [hW];have := heap_alloc_new (w.alloc (Obj.cells #[] 3)) (Obj.cells #[.slice (some ⟨w.heap.size, 0, none⟩) 0 0] 24);simpa using this
  ·intro j hj;have : j = 0 := by simp at hj; omega
   subst this; rfl
  ·intro d hd;rw [List.mem_singleton] at hd;subst hd;refine .inr ⟨w.heap.size, #[], rfl, nr_, by omega, ?_, nr_, Nat.zero_le _, rfl, fun j hj => absurd hj (by simp)⟩;rw [hW];exact (((Below.refl (w.heap.size + 1) (w.alloc (Obj.cells #[] 3))).alloc (by simp) _).block _ (by omega)).trans (heap_alloc_new w _)
 have HW := hh_ hW;have HZ := hh_ hz;clear hW hz;go_enter Tryz.func99, Tryz.ntmps99;go_wp2;rw [← HW.out];clear HW;go_loopw [3, 4] (fun out i wr => ∃ (k : Nat) (A : Option Addr) (c : Nat) (D : List Dsc), k ≤ m ∧ i = .int .i64 k ∧ out = .slice A D.length c ∧ Hid (lists D = nl (ordN m k)) ∧ Hid (OwnD wr w.heap.size wr.heap.size A c D) ∧ Hid (From w wr)) (fun _ i _ => m - (intOf i).toNat);case atStart => exact ⟨0, _, 1, _, Nat.zero_le _, rfl, rfl, by rfl, HD, HB⟩
 case round =>
  clear HD HB;obtain ⟨k, A, c, D, hk, rfl, rfl, hD, HD, HF⟩ := hrel;by_cases hkm : k < m
  ·have i1 : (k : Int) < m := by omega
   have HDl := hh_ (nl_len hD.out);have hDl3 : D.length ≤ 3125 := by
    have h1 := HDl.out;have h2 := Nat.le_trans (ordN_len m k) (pow5 hm (by omega : k ≤ 5));omega
   obtain ⟨W5, hW5⟩ : ∃ W5, W5 = wr.alloc (Obj.cells #[] 24) := ⟨_, rfl⟩;have hz5 : W5.heap.size = wr.heap.size + 1 := by rw [hW5]; simp
   have HE0 : Hid (OwnD W5 wr.heap.size W5.heap.size (some ⟨wr.heap.size, 0, none⟩) 0 []) := OwnD.none_ _ _ _ _ nr_ (by omega) (by rw [hW5]; exact heap_alloc_new wr _);have HB5 : Hid (Below wr.heap.size wr W5) := by rw [hW5]; exact br_.alloc nr_ _
   have HD5 : Hid (OwnD W5 w.heap.size wr.heap.size A c D) := HD.keepB HB5 nr_;have HF5 := hh_ (HF.keep HB5);have HW5 := hh_ hW5;have zwr := HF.below.size;clear hW5 hz5;obtain ⟨wo, hwo⟩ : ∃ wo, wo = wr := ⟨_, rfl⟩;have HW5 : Hid (W5 = wr.alloc (Obj.cells #[] 24)) := HW5.out;rw [← hwo] at HE0 HB5 HD HF zwr;have HWO := hh_ hwo;clear hwo HD5;go_wp2;rw [← HW5.out, ← HWO.out];clear HW5 HWO;go_loopw [5, 6] (fun nx i wz => ∃ (j : Nat) (A2 : Option Addr) (c2 : Nat) (E : List Dsc), j ≤ D.length ∧ i = .int .i64 j ∧ nx = .slice A2 E.length c2 ∧ Hid (lists E = nl (orTo m (ordN m k) j 0)) ∧ Hid (OwnD wz wo.heap.size wz.heap.size A2 c2 E) ∧ Hid (Below wo.heap.size wo wz)) (fun _ i _ => D.length - (intOf i).toNat);case atStart => exact ⟨0, _, 0, [], Nat.zero_le _, rfl, rfl, by rw [orTo_zero]; rfl, HE0, HB5⟩
   case round =>
    obtain ⟨j, A2, c2, E, hj, rfl, rfl, hE, HE, HBz⟩ := hrel;by_cases hjl : j < D.length
    ·have i2 : (j : Int) < D.length := by omega
     have Hjl := hh_ hjl;have hjL : j < (ordN m k).length := by have := HDl.out; omega
     obtain ⟨l, hl⟩ : ∃ l, l = (ordN m k).getD j [] := ⟨_, rfl⟩;have hlm : l ∈ ordN m k := by rw [hl]; simp [List.getD, hjL]
     have hlk : l.length = k := (mem_ordN.1 hlm).1;have hl5 : l.length ≤ 5 := by omega
     have Hl := hh_ hl;have HRow := hh_ (orTo_row (n := m) hjL);clear hl hlm hlk hjL;go_wp2;go_loopw [5, 7] (fun nx i wz => ∃ (v : Nat) (A2 : Option Addr) (c2 : Nat) (E : List Dsc), v ≤ m ∧ i = .int .i64 v ∧ nx = .slice A2 E.length c2 ∧ Hid (lists E = nl (orTo m (ordN m k) j v)) ∧ Hid (OwnD wz wo.heap.size wz.heap.size A2 c2 E) ∧ Hid (Below wo.heap.size wo wz)) (fun _ i _ => m - (intOf i).toNat);case atStart => exact ⟨0, A2, c2, E, Nat.zero_le _, rfl, rfl, hE, HE, HBz⟩
     case round =>
      clear hE HE HBz;obtain ⟨v, A2, c2, E, hv, rfl, rfl, hE, HE, HBz⟩ := hrel;by_cases hvm : v < m
      ·have i3 : (v : Int) < m := by omega
       have hDz := HD.keepB HBz.out nr_;obtain ⟨g, Ad, cd, rfl, hg, q0, hLN⟩ := nl_at hDz HBz.size hD.out hjl;rw [← Hl.out] at q0 hLN;have HLN := hh_ hLN;have hElen : E.length ≤ 20000 := by rw [nl_len hE.out]; exact orTo_len hm (by omega) hv
       have zz := HBz.size;have hgz : g < wr.heap.size := by omega
       clear hDz hLN;go_wp2_with fail
       refine (l8Has_s Ad l.length cd l v wr wr.heap.size ⟨rfl, HLN.rd⟩ (by omega)).mono ?_;rintro e w3 ⟨rfl, rfl⟩;by_cases hm2 : v ∈ l
       ·have Hno : Hid (orTo m (ordN m k) j (v + 1) = orTo m (ordN m k) j v) := orTo_no (by rw [← Hl.out]; exact hm2);rw [decide_eq_true hm2];clear hm2;go_wp2;go_roundw;case rel => exact ⟨v + 1, A2, c2, E, by omega, by go_num, rfl, by rw [Hno.out]; exact hE, HE, HBz⟩
        case measure => simp [intOf]; omega
       ·have Hyes : Hid (orTo m (ordN m k) j (v + 1) = orTo m (ordN m k) j v ++ [l ++ [v]]) := by show _ = _; rw [orTo_yes (by rw [← Hl.out]; exact hm2), ← Hl.out]
        rw [decide_eq_false hm2];clear hm2;have HO : Hid (Own (wr.alloc (Obj.cells #[] 3)) wr.heap.size (wr.heap.size + 1) 3 1 (some ⟨wr.heap.size, 0, none⟩) 0 0 (ni [])) :=
         .inr ⟨wr.heap.size, #[], rfl, nr_, Nat.lt_succ_self _, heap_alloc_new wr _, nr_, by unfold maxLen; omega, rfl, fun j hj => absurd hj (by omega)⟩
        have HR : Hid (Rd (wr.alloc (Obj.cells #[] 3)) wr.heap.size Ad l.length cd (fun j => ((l.getD j 0 : Nat) : Int))) := HLN.rd.keep (br_.alloc nr_ _) nr_;go_wp2_with (first
         | (at_builtin; (refine wpList_appendI _ rfl _ _ rfl rfl HO.out rfl HR.out (by simp) (by omega) (by omega) ?_; intro A3 c3 w3 hO3 hb3; rw [Nat.zero_add] at hO3; have HO3 := hh_ hO3; have HB3 := hh_ (((Below.refl wr.heap.size wr).alloc nr_ (Obj.cells #[] 3)).trans hb3); clear hO3 hb3))
         | (at_builtin; (refine wpList_appendI _ rfl _ _ rfl rfl (HO3.alloc _) rfl (one_rd w3 v) (by have := HB3.size; simp; omega) (by omega) (by omega) ?_; intro A4 c4 w4 hO4 hb4; have HO4 := hh_ hO4; have HB4 := hh_ hb4; clear hO4 hb4))
         | (at_builtin; (rw [← dv_snoc A4 c4 l v]; obtain ⟨g4, rfl, hg4, _⟩ := HO4.at_ (by omega); have HB5 : Hid (Below wr.heap.size wr w4) := HB3.trans ((((Below.refl w3.heap.size w3).alloc nr_ _).mono HB3.size).trans HB4); have hE5 := HE.keepB HB5 nr_; refine wpList_pushD w4 rfl _ _ rfl wo.heap.size w4.heap.size A2 c2 E (hE5.mono nr_ HB5.size) (by have := HB5.size; omega) nr_ (some ⟨g4, 0, none⟩, c4, ci (l ++ [v])) (own_snoc HO4.out zz nr_) (hE5.fresh hg4) rfl 1 w4.heap.size rfl rfl (by omega) ?_; intro g5 c5 w5 hO5 hb5)))
        have hO6 : Hid (OwnD w5 wo.heap.size w5.heap.size (some ⟨g5, 0, none⟩) c5 (E ++ [(some ⟨g4, 0, none⟩, c4, ci (l ++ [v]))])) := hO5;have hB6 : Hid (Below wo.heap.size wo w5) := HBz.trans ((HB5.mono zz).trans hb5);have hE6 : Hid (lists (E ++ [(some ⟨g4, 0, none⟩, c4, ci (l ++ [v]))]) = nl (orTo m (ordN m k) j (v + 1))) := by
         show _ = _;rw [Hyes.out];unfold lists nl;rw [List.map_append, List.map_append];have := hE.out;unfold lists nl at this;rw [this];rfl
        clear hO5 hb5;go_roundw;case rel => exact ⟨v + 1, some ⟨g5, 0, none⟩, c5, _, by omega, by go_num, by rw [List.length_append]; rfl, hE6, hO6, hB6⟩
        case measure => simp [intOf]; omega
      ·obtain rfl : m = v := by omega
       go_wp2;go_roundw;case rel => exact ⟨j + 1, A2, c2, E, by have := Hjl.out; omega, by go_num, rfl, by rw [HRow.out]; exact hE, HE, HBz⟩
       case measure => have := Hjl.out; simp [intOf]; omega
    ·obtain rfl : j = D.length := by omega
     have hend : Hid (lists E = nl (ordN m (k + 1))) := by
      have := hE.out;rw [HDl.out, orTo_all] at this;exact this
     have HE2 : Hid (OwnD wr w.heap.size wr.heap.size A2 c2 E) := HE.mono zwr nr_;have HF2 : Hid (From w wr) := HF.keep HBz.out;go_wp2;go_roundw;case rel => exact ⟨k + 1, A2, c2, E, by omega, by go_num, rfl, hend, HE2, HF2⟩
     case measure => simp [intOf]; omega
  ·obtain rfl : m = k := by omega
   go_wp2;go_ret;exact ⟨A, c, D, rfl, hD.out, HD.out, HF.below⟩
def bestK (f : Nat → Nat) (p : Nat → Bool) : Nat → Option Nat
 | 0 => none
 | k + 1 => match bestK f p k with
   | none => if p k = true then some k else none
   | some b => if p k = true ∧ f b < f k then some k else some b
theorem bestK_no {f : Nat → Nat} {p : Nat → Bool} {k : Nat} (h : p k = false) : bestK f p (k + 1) = bestK f p k := by
 rw [bestK]; cases bestK f p k <;> simp [h]
theorem bestK_first {f : Nat → Nat} {p : Nat → Bool} {k : Nat} (h : p k = true) (hb : bestK f p k = none) : bestK f p (k + 1) = some k := by
 rw [bestK, hb]; simp [h]
theorem bestK_more {f : Nat → Nat} {p : Nat → Bool} {k b : Nat} (h : p k = true) (hb : bestK f p k = some b) (hf : f b < f k) : bestK f p (k + 1) = some k := by
 rw [bestK, hb]; simp [h, hf]
theorem bestK_less {f : Nat → Nat} {p : Nat → Bool} {k b : Nat} (hb : bestK f p k = some b) (hf : ¬ f b < f k) : bestK f p (k + 1) = some b := by
 rw [bestK, hb]; simp [hf]
theorem bestK_in {f : Nat → Nat} {p : Nat → Bool} : ∀ {k b : Nat}, bestK f p k = some b → b < k ∧ p b = true := by
 intro k;induction k with
 | zero => intro b h; simp [bestK] at h
 | succ k ih =>
   intro b h;rw [bestK] at h;cases hb : bestK f p k with
   | none =>
     rw [hb] at h;simp only at h;split at h
     ·injection h with h; subst h; exact ⟨Nat.lt_succ_self _, by assumption⟩
     ·cases h
   | some a =>
     rw [hb] at h;simp only at h;have ha := ih hb;split at h
     ·rename_i hp;injection h with h; subst h; exact ⟨Nat.lt_succ_self _, hp.1⟩
     ·injection h with h; subst h; exact ⟨by omega, ha.2⟩
theorem bestK_some {f : Nat → Nat} {p : Nat → Bool} : ∀ {k v : Nat}, v < k → p v = true → bestK f p k ≠ none := by
 intro k;induction k with
 | zero => intro v h; omega
 | succ k ih =>
   intro v h hp hn;by_cases hv : v < k
   ·have := ih hv hp;rw [bestK] at hn;cases hb : bestK f p k with
    | none => exact this hb
    | some a => rw [hb] at hn; simp only at hn; split at hn <;> cases hn
   ·obtain rfl : v = k := by omega
    rw [bestK] at hn;cases hb : bestK f p v with
    | none => rw [hb] at hn; simp [hp] at hn
    | some a => rw [hb] at hn; simp only at hn; split at hn <;> cases hn
def grN (f : List Nat → Nat → Nat) (m s : Nat) : Nat → List Nat
 | 0 => [s]
 | k + 1 => grN f m s k ++ [(bestK (f (grN f m s k)) (fun v => !decide (v ∈ grN f m s k)) m).getD 0]
theorem grN_len (f : List Nat → Nat → Nat) (m s : Nat) : ∀ k, (grN f m s k).length = k + 1
 | 0 => rfl
 | k + 1 => by rw [grN, List.length_append, grN_len f m s k]; rfl
theorem range_nodup_sub {m : Nat} {l : List Nat} (hl : l.length < m) : ∃ v, v < m ∧ v ∉ l := by
 refine Classical.byContradiction fun h => ?_
 have h2 : ∀ v ∈ List.range m, v ∈ l := fun v hv => Classical.byContradiction fun hn => h ⟨v, List.mem_range.1 hv, hn⟩
 have := (List.nodup_range (n := m)).length_le_of_subset h2;rw [List.length_range] at this;omega
theorem grN_step {f : List Nat → Nat → Nat} {m s k : Nat} (hk : k + 1 < m) :
 ∃ b, bestK (f (grN f m s k)) (fun v => !decide (v ∈ grN f m s k)) m = some b ∧ b < m ∧ b ∉ grN f m s k ∧ grN f m s (k + 1) = grN f m s k ++ [b] := by
 obtain ⟨v, hv, hn⟩ := range_nodup_sub (l := grN f m s k) (m := m) (by rw [grN_len]; exact hk);cases hb : bestK (f (grN f m s k)) (fun v => !decide (v ∈ grN f m s k)) m with
 | none => exact absurd hb (bestK_some hv (by simp [hn]))
 | some b =>
   have := bestK_in hb;exact ⟨b, rfl, this.1, by simpa using this.2, by rw [grN, hb]; rfl⟩
theorem grN_fine {f : List Nat → Nat → Nat} {m s : Nat} (hs : s < m) : ∀ k, k < m → (grN f m s k).Nodup ∧ ∀ v ∈ grN f m s k, v < m := by
 intro k;induction k with
 | zero => intro _; exact ⟨by simp [grN], fun v hv => by simp [grN] at hv; omega⟩
 | succ k ih =>
   intro hk;obtain ⟨b, _, hbm, hbn, he⟩ := grN_step (f := f) (s := s) hk;obtain ⟨h1, h2⟩ := ih (by omega);rw [he];refine ⟨?_, fun v hv => ?_⟩
   ·rw [List.nodup_append];exact ⟨h1, by simp, fun a ha c hc e => by rw [List.mem_singleton] at hc; subst hc; subst e; exact hbn ha⟩
   ·rw [List.mem_append, List.mem_singleton] at hv;rcases hv with hv | rfl
    ·exact h2 v hv
    ·exact hbm
def labN (r : Nat → Nat) (l : List Nat) (v : Nat) : Nat := l.foldl (fun a u => 2 * a + (if (r v).testBit u = true then 1 else 0)) 0
theorem labN_one (r : Nat → Nat) (l : List Nat) (u v : Nat) : labN r (l ++ [u]) v = 2 * labN r l v + (if (r v).testBit u = true then 1 else 0) := by
 unfold labN; rw [List.foldl_append]; rfl
theorem labN_lt (r : Nat → Nat) (v : Nat) : ∀ l : List Nat, labN r l v < 2 ^ l.length := by
 have key : ∀ (n : Nat) (l : List Nat), l.length = n → labN r l v < 2 ^ n := by
  intro n;induction n with
  | zero => intro l hl; rw [List.length_eq_zero_iff.1 hl]; simp [labN]
  | succ n ih =>
    intro l hl;have e : l.take n ++ [l[n]'(by omega)] = l := by rw [← List.take_succ_eq_append_getElem (by omega), List.take_of_length_le (by omega)]
    have := ih (l.take n) (by rw [List.length_take]; omega);rw [← e, labN_one, Nat.pow_succ];split <;> omega
 exact fun l => key l.length l rfl
def lexN (r : Nat → Nat) (m s : Nat) : List Nat := grN (labN r) m s (m - 1)
theorem lexN_len {r : Nat → Nat} {m s : Nat} (hm : 1 ≤ m) : (lexN r m s).length = m := by unfold lexN; rw [grN_len]; omega
theorem stN_ci_bit {l : List Nat} {v : Nat} : (stN (ci l)).testBit v = decide (v ∈ l) := by
 rw [Bool.eq_iff_iff, decide_eq_true_eq];rw [stN_bit (fun u hu => by unfold ci at hu; obtain ⟨a, _, rfl⟩ := List.mem_map.1 hu; omega)];unfold ci;rw [List.mem_map]
 exact ⟨fun ⟨a, ha, e⟩ => by have : a = v := by omega
                             rw [← this]; exact ha, fun h => ⟨v, h, rfl⟩⟩
theorem stN_ci_lt {l : List Nat} {m : Nat} (h : ∀ v ∈ l, v < m) : stN (ci l) < 2 ^ m :=
 stN_lt (fun u hu => by unfold ci at hu; obtain ⟨a, ha, rfl⟩ := List.mem_map.1 hu; have := h a ha; omega)
theorem stN_ci_one {l : List Nat} {b : Nat} (h : b ∉ l) : stN (ci (l ++ [b])) = stN (ci l) + 2 ^ b := by
 have hb : (stN (ci l)).testBit b = false := by rw [stN_ci_bit, decide_eq_false h]
 have e : ci (l ++ [b]) = ci l ++ [(b : Int)] := by unfold ci; rw [List.map_append]; rfl
 rw [e, stN_append];show stN (ci l) ||| (2 ^ (b : Int).toNat ||| 0) = _;rw [Nat.or_zero, Int.toNat_natCast];exact (or_of_add hb).symm
end Go.Proofs.YticadlkcjhglnaaGreat
