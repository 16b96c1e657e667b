/-
  Several texts in one.
-/
import Derived.Test.YtdpkbfiggbcclaaGreatQmMooP
import Derived.Test.YtdpkbfiggbcclaaGreatQmSidP
import Derived.Test.YtdpkbfiggbcclaaGreatQmCloS
import Derived.Test.YtdpkbfiggbcclaaGreatQmSimI
import Derived.Test.YtdpkbfiggbcclaaGreatQmClaim
/-
-/
namespace Go.Proofs.YtdpkbfiggbcclaaGreat
open Go.RowKit
set_option maxHeartbeats 6400000
def fsK (l : List Nat) (v : Nat) : Nat → Int
 | 0 => -1
 | i + 1 => if (l.getD i 0).testBit v = true then (if fsK l v i < 0 then (i : Int) else fsK l v i) else fsK l v i
theorem fsK_yes {l : List Nat} {v i : Nat} (h : (l.getD i 0).testBit v = true) : fsK l v (i + 1) = if fsK l v i < 0 then (i : Int) else fsK l v i := by rw [fsK, if_pos h]
theorem fsK_no {l : List Nat} {v i : Nat} (h : (l.getD i 0).testBit v = false) : fsK l v (i + 1) = fsK l v i := by rw [fsK, if_neg (by rw [h]; simp)]
theorem fsK_inv {l : List Nat} {v : Nat} : ∀ i, (fsK l v i = -1 ∧ ∀ j, j < i → (l.getD j 0).testBit v = false) ∨ ∃ f : Nat, fsK l v i = (f : Int) ∧ f < i ∧ (l.getD f 0).testBit v = true ∧ ∀ j, j < f → (l.getD j 0).testBit v = false
 | 0 => .inl ⟨rfl, fun j hj => absurd hj (by omega)⟩
 | i + 1 => by
   cases hb : (l.getD i 0).testBit v
   ·rw [fsK_no hb]
    rcases fsK_inv (l := l) (v := v) i with ⟨h1, h2⟩ | ⟨f, h1, h2, h3, h4⟩
    ·refine .inl ⟨h1, fun j hj => ?_⟩
     by_cases e : j < i
     ·exact h2 j e
     ·obtain rfl : j = i := by omega
      exact hb
    ·exact .inr ⟨f, h1, by omega, h3, h4⟩
   ·rw [fsK_yes hb]
    rcases fsK_inv (l := l) (v := v) i with ⟨h1, h2⟩ | ⟨f, h1, h2, h3, h4⟩
    ·exact .inr ⟨i, by rw [h1, if_pos (by omega)], by omega, hb, h2⟩
    ·exact .inr ⟨f, by rw [h1, if_neg (by omega)], by omega, h3, h4⟩
theorem fsK_all {l : List Nat} {v : Nat} : fsK l v l.length = match fpO l v with | some k => (k : Int) | none => -1 := by
 refine Eq.trans ?_ (fpO_idx (l := l) (v := v));rcases fsK_inv (l := l) (v := v) l.length with ⟨h1, h2⟩ | ⟨f, h1, h2, h3, h4⟩
 ·rw [h1, fIdx_no h2]
 ·rw [h1, fIdx_yes h2 h3 h4]
theorem lpK_end {l : List Nat} {v f : Nat} (h : fpO l v = some f) : lpK l v l.length = ((lpK l v l.length).toNat : Int) := by
 obtain ⟨h1, h2, _⟩ := fpO_some h;have := lpK_ge h2 l.length h1;omega
theorem MB.set0 {w : World} {q n1 c1 n2 c2 m1 d1 : Nat} {A1 A2 B1 : Option Addr} (h : MB w q A1 n1 c1 A2 n2 c2) : MB (w.setCell ⟨q, 0, none⟩ (.slice B1 m1 d1)) q B1 m1 d1 A2 n2 c2 := by
 have h0 := h.c0;have h1 := h.c1;have h2 := h.f0;have h3 := h.f1;constructor <;> simp [go_sem, h0, h1, h2, h3]
theorem MB.set1 {w : World} {q n1 c1 n2 c2 m1 d1 : Nat} {A1 A2 B1 : Option Addr} (h : MB w q A1 n1 c1 A2 n2 c2) : MB (w.setCell ⟨q, 1, none⟩ (.slice B1 m1 d1)) q A1 n1 c1 B1 m1 d1 := by
 have h0 := h.c0;have h1 := h.c1;have h2 := h.f0;have h3 := h.f1;constructor <;> simp [go_sem, h0, h1, h2, h3]
theorem frOne (w : World) (q j : Nat) (x : Value) : Fr q (q + 1) w (w.setCell ⟨q, j, none⟩ x) := (Fr.refl _ _ w).setCell (p := ⟨q, j, none⟩) nr_ (Nat.lt_succ_self _) _
section
variable {A : Option Addr} {c n : Nat} {l : List Nat} {w : World}
set_option maxRecDepth 100000 in
theorem ModelOfOrder_s (hl : LN w A c l) (hlt : ∀ s ∈ l, s < 2 ^ n) (hn1 : 1 ≤ n) (hn7 : n ≤ 7) (hlen : l.length ≤ 1048576) :
 Calls Tryz.prog 349 #[.slice A l.length c, .int .i64 n] w (ivQ w (mdV l n)) := by
 obtain ⟨W, hW⟩ : ∃ W, W = (w.alloc (Obj.cells #[.slice none 0 0, .slice none 0 0] 141)) := ⟨_, rfl⟩;have HB : Hid (From w W) := by rw [hW]; exact From.alloc _ _
 have HL := hh_ (hl.keep HB.below);have HD : Hid (MB W w.heap.size none 0 0 none 0 0) := by rw [hW]; exact MB.new w
 have HW := hh_ hW;have HT := hh_ hlt;have KN : Hid (decide ((1 : Int) ≤ n ∧ (n : Int) ≤ 7) = true) := by show _ = _; exact decide_eq_true (by omega)
 clear hW hl hlt;by_cases hk : 1 ≤ l.length ∧ l.length ≤ 20
 rotate_left
 ·have Hn : Hid (mdV l n = none) := mdV_no (mdF_len hk);have KW : Hid (decide ((1 : Int) ≤ l.length ∧ (l.length : Int) ≤ 20) = false) := by show _ = _; exact decide_eq_false (by omega)
  clear hk;go_enter Tryz.func349, Tryz.ntmps349;have d0 := HD.c0;have d1 := HD.c1;have d2 := HD.f0;have d3 := HD.f1;go_wp2_with fail
  rw [← HW.out];refine (l1In_b (n := (n : Int)) (lo := 1) (hi := 7) W KN.out).mono ?_;rintro e w1 ⟨rfl, hb1⟩;clear HW;clear d0 d1 d2 d3;replace HB := hh_ (HB.keep hb1);replace HD := hh_ (HD.keep hb1);clear hb1;have d0 := HD.c0;have d1 := HD.c1;have d2 := HD.f0;have d3 := HD.f1;go_wp2_with fail
  refine (l1In_b (n := (l.length : Int)) (lo := 1) (hi := 20) _ KW.out).mono ?_;rintro e w2 ⟨rfl, hb2⟩;clear d0 d1 d2 d3;replace HB := hh_ (HB.keep hb2);replace HD := hh_ (HD.keep hb2);clear hb2;have d0 := HD.c0;have d1 := HD.c1;have d2 := HD.f0;have d3 := HD.f1;go_wp2;have HE := (HB.set (q := w.heap.size) nr_ (.slice none 0 0) (.slice none 0 0)).below;exact bodyPost_ret (v := .tuple #[.agg #[.slice none 0 0, .slice none 0 0], .bool false]) (by simp [results, Tryz.results349, go_sem, *]) rfl (by rw [Hn.out]; exact ivQ.no HE)
 obtain ⟨hk1, hk2⟩ := hk;have KW : Hid (decide ((1 : Int) ≤ l.length ∧ (l.length : Int) ≤ 20) = true) := by show _ = _; exact decide_eq_true (by omega)
 have hmz : Hid (∀ s ∈ l, s < 128) := fun s hs => Nat.lt_of_lt_of_le (HT.out s hs) (two_pow_le hn7)
 have t1 := two_pow_int n hn7;have t2 := pow_shl n hn7;have t3 : Hid (((2 ^ n : Nat) : Int) = 2 ^ n) := by show _ = _; simp
 go_enter Tryz.func349, Tryz.ntmps349;go_wp2_with fail
 rw [← HW.out];refine (l1In_b (n := (n : Int)) (lo := 1) (hi := 7) W KN.out).mono ?_;rintro e w3 ⟨rfl, hb3⟩;clear HW;replace HB := hh_ (HB.keep hb3);replace HL := hh_ (HL.keep hb3);replace HD := hh_ (HD.keep hb3);clear hb3;go_wp2_with fail
 refine (l1In_b (n := (l.length : Int)) (lo := 1) (hi := 20) _ KW.out).mono ?_;rintro e w4 ⟨rfl, hb4⟩;replace HB := hh_ (HB.keep hb4);replace HL := hh_ (HL.keep hb4);replace HD := hh_ (HD.keep hb4);clear hb4;clear KN KW;obtain ⟨W3, hW3⟩ : ∃ W3, W3 = (w4.alloc (Obj.cells #[.slice none 0 0, .slice none 0 0] 141)) := ⟨_, rfl⟩;have HB3 : Hid (Below w4.heap.size w4 W3) := by rw [hW3]; exact br_.alloc nr_ _
 have HM3 : Hid (MB W3 w4.heap.size none 0 0 none 0 0) := by rw [hW3]; exact MB.new _
 have hq3 : w.heap.size < w4.heap.size := HD.lt;have HWx := hh_ hW3;clear hW3;go_wp2_with fail
 rw [← HWx.out];clear HWx;go_loopw [7] (fun iv wr => ∃ i : Nat, i ≤ l.length ∧ iv = .int .i64 i ∧ Hid (Below W3.heap.size W3 wr)) (fun iv _ => l.length - (intOf iv).toNat);case atStart => exact ⟨0, Nat.zero_le _, rfl, br_⟩
 case round =>
  obtain ⟨i, hil, rfl, HBr⟩ := hrel;by_cases hik : i < l.length
  ·have i3 : (i : Int) < l.length := by omega
   have HLz := hh_ ((HL.keep HB3).keep HBr.out);obtain ⟨b, o, rfl⟩ := HLz.addr (by omega);have p0 := HLz.at hik;obtain ⟨s, hs⟩ : ∃ s, s = l[i] := ⟨_, rfl⟩;have hs2 : s < 2 ^ n := by rw [hs]; exact HT.out _ (List.getElem_mem _)
   rw [← hs] at p0;have i4 : ¬ ((s : Int) < 0) := by omega
   have i5 : (s : Int) < 2 ^ n := by rw [← t3.out]; omega
   have i6 : ¬ ((2 : Int) ^ n ≤ (s : Int)) := by omega
   clear hs hs2;go_wp2;go_quiet (fail)
   go_wp2;go_roundw;case rel => exact ⟨i + 1, by omega, by go_num, below_drewN HBr.out _⟩
   case measure => (simp [intOf] <;> omega)
  ·obtain rfl : i = l.length := by omega
   have i4 : (l.length : Int) ≤ (l.length : Int) := Int.le_refl _;have HM4 : Hid (MB wr w4.heap.size none 0 0 none 0 0) := HM3.keep HBr.out;have HB4 : Hid (Below w4.heap.size w4 wr) := bl_trans HB3 HBr.out;clear HBr HM3 HB3 t1 t2 t3;go_wp2;go_loopw [8] (fun i wr => ∃ (k : Nat) (T U : List Nat) (A1 : Option Addr) (k1 : Nat) (A2 : Option Addr) (k2 : Nat), k ≤ n ∧ i = .int .i64 k ∧ Hid (T = mdL l k) ∧ Hid (U = mdR l k) ∧ Hid (TwoN wr (w4.heap.size + 1) A1 k1 T A2 k2 U) ∧ Hid (MB wr w4.heap.size A1 T.length k1 A2 U.length k2) ∧ Hid (Below w4.heap.size w4 wr) ∧ Hid (∀ v, v < k → ∃ f, fpO l v = some f)) (fun i _ => n - (intOf i).toNat);case atStart => exact ⟨0, [], [], none, 0, none, 0, Nat.zero_le _, rfl, rfl, rfl, TwoN.nil _ _, HM4, HB4, (fun v hv => absurd hv (by omega))⟩
   case round =>
    obtain ⟨k, T, U, A1, k1, A2, k2, hkn, rfl, HTe, HUe, HTr, HMr, HBr, HFr⟩ := hrel;obtain ⟨wo, rfl⟩ : ∃ wo, wo = wr := ⟨_, rfl⟩;have hqr : w4.heap.size < wo.heap.size := HMr.lt;by_cases hlt : k < n
    ·have i1 : (k : Int) < n := by omega
     have HLx := hh_ (HL.keep HBr.out);go_wp2;go_loopw [9, 10, 11] (fun fa la iv wz => ∃ i : Nat, i ≤ l.length ∧ iv = .int .i64 i ∧ fa = .int .i64 (fsK l k i) ∧ la = .int .i64 (lpK l k i) ∧ wz = wo) (fun _ _ iv _ => l.length - (intOf iv).toNat);case atStart => exact ⟨0, Nat.zero_le _, rfl, rfl, rfl, rfl⟩
     case round =>
      obtain ⟨i, hil, rfl, rfl, rfl, rfl⟩ := hrel;by_cases hik : i < l.length
      ·have i3 : (i : Int) < l.length := by omega
       obtain ⟨b, o, rfl⟩ := HLx.addr (by omega);have p0 := HLx.at hik;obtain ⟨s, hs⟩ : ∃ s, s = l[i] := ⟨_, rfl⟩;have hs128 : s < 128 := by rw [hs]; exact hmz.out _ (List.getElem_mem _)
       have hsd : l.getD i 0 = s := by rw [hs]; simp [List.getD, hik]
       rw [← hs] at p0;have E1 := and_one_i64 (s : Int) k (by omega) (by omega);rw [Int.toNat_natCast] at E1;cases hb : s.testBit k
       ·rw [hb] at E1;have Hs : Hid (lpK l k (i + 1) = lpK l k i) := lpK_no (by rw [hsd]; exact hb);have Hf : Hid (fsK l k (i + 1) = fsK l k i) := fsK_no (by rw [hsd]; exact hb);clear hs hsd hb;go_wp2;go_roundw;case rel => exact ⟨i + 1, by omega, by go_num, by rw [Hf.out], by rw [Hs.out], by first | rfl | trivial⟩
        case measure => (simp [intOf] <;> omega)
       ·rw [hb] at E1;have Hs : Hid (lpK l k (i + 1) = (i : Int)) := lpK_yes (by rw [hsd]; exact hb);have hf : fsK l k (i + 1) = if fsK l k i < 0 then (i : Int) else fsK l k i := fsK_yes (by rw [hsd]; exact hb)
        obtain ⟨x, hx⟩ : ∃ x, x = fsK l k i := ⟨_, rfl⟩;rw [← hx] at hf ⊢;clear hs hsd hb hx;by_cases hx0 : x < 0
        ·rw [if_pos hx0] at hf;have Hf := hh_ hf;clear hf;go_wp2;go_roundw;case rel => exact ⟨i + 1, by omega, by go_num, by rw [Hf.out], by rw [Hs.out], by first | rfl | trivial⟩
         case measure => (simp [intOf] <;> omega)
        ·rw [if_neg hx0] at hf;have Hf := hh_ hf;clear hf;have hx1 : (0 : Int) ≤ x := by omega
         go_wp2;go_roundw;case rel => exact ⟨i + 1, by omega, by go_num, by rw [Hf.out], by rw [Hs.out], by first | rfl | trivial⟩
         case measure => (simp [intOf] <;> omega)
      ·obtain rfl : i = l.length := by omega
       have i4 : (l.length : Int) ≤ (l.length : Int) := Int.le_refl _;rw [fsK_all];cases ho : fpO l k with
       | none =>
         have Hn : Hid (mdV l n = none) := mdV_no (by rw [mdF_is hk1 hk2]; exact mdB_no hlt ho);have hdx := HD.keepB HBr.out hq3;have d0 := hdx.c0;have d1 := hdx.c1;have d2 := hdx.f0;have d3 := hdx.f1;clear ho hdx;go_wp2;have HE := ((HB.keep HBr.out).set (q := w.heap.size) nr_ (.slice none 0 0) (.slice none 0 0)).below;exact bodyPost_ret (v := .tuple #[.agg #[.slice none 0 0, .slice none 0 0], .bool false]) (by simp [results, Tryz.results349, go_sem, *]) rfl (by rw [Hn.out]; exact ivQ.no HE)
       | some f =>
         have HF2 : Hid (∀ v, v < k + 1 → ∃ f, fpO l v = some f) := fun v hv => by
          by_cases e : v < k
          ·exact HFr.out v e
          ·obtain rfl : v = k := by omega
           exact ⟨f, ho⟩
         have HTf := hh_ (mdL_succ ho);have hend := lpK_end ho;obtain ⟨z, hz⟩ : ∃ z, z = (lpK l k l.length).toNat := ⟨_, rfl⟩;rw [← hz] at hend;have HUf := hh_ (mdR_succ hend);rw [hend];have i2 : (0 : Int) ≤ f := by omega
         have hTl : T.length ≤ 7 := by rw [HTe.out, mdL_len]; omega
         have hUl : U.length ≤ 7 := by rw [HUe.out, mdR_len]; omega
         have c0 := HMr.c0;have c1 := HMr.c1;have f0 := HMr.f0;have f1 := HMr.f1;have n6 : T.length ≤ 1073741824 := by omega
         have n7 : U.length ≤ 1073741824 := by omega
         have TT1 : Hid (TwoN (wr.alloc (Obj.cells #[.int .i64 (f : Int)] 3)) (w4.heap.size + 1) A1 k1 T A2 k2 U) := HTr.alloc _;have MM1 : Hid (MB (wr.alloc (Obj.cells #[.int .i64 (f : Int)] 3)) w4.heap.size A1 T.length k1 A2 U.length k2) := HMr.keep (br_.alloc nr_ _);have LL1 : Hid (w4.heap.size + 1 ≤ (wr.alloc (Obj.cells #[.int .i64 (f : Int)] 3)).heap.size) := by show _ ≤ _; simp; omega
         have LL0 : Hid (w4.heap.size + 1 ≤ wr.heap.size) := hqr;clear ho hz hend;go_wp2_with (first
          | ((refine wpList_twoN _ (by rfl) _ _ (by rfl) TT1.out LL1.out (by rfl) wr.heap.size 1 f (by rfl) (heap_alloc_new wr _) n6 ?_; intro gA kA wA hTA hbA; have hMA := MM1.keepB hbA (Nat.lt_succ_self _); have mA0 := hMA.c0; have mA1 := hMA.c1; have mA2 := hMA.f0; have mA3 := hMA.f1; have nA := hMA.lt))
          | ((refine wpList_twoN _ (by rfl) _ _ (by rfl) (((hTA.keepF (frOne wA w4.heap.size 0 (.slice (some ⟨gA, 0, none⟩) (T.length + 1) kA)) nr_).alloc (Obj.cells #[.int .i64 (z : Int)] 3)).swap) (by show _ ≤ _; simp [World.setCell]; omega) (by rfl) wA.heap.size 1 z (by rfl) (by have hh := heap_alloc_new (wA.setCell ⟨w4.heap.size, 0, none⟩ (.slice (some ⟨gA, 0, none⟩) (T.length + 1) kA)) (Obj.cells #[.int .i64 (z : Int)] 3); have he : (wA.setCell ⟨w4.heap.size, 0, none⟩ (.slice (some ⟨gA, 0, none⟩) (T.length + 1) kA)).heap.size = wA.heap.size := (by simp [World.setCell]); rw [he] at hh; exact hh) n7 ?_; intro gB kB wB hTB hbB; have hMB := ((hMA.set0 (B1 := some ⟨gA, 0, none⟩) (m1 := T.length + 1) (d1 := kA)).keep (br_.alloc nr_ (Obj.cells #[.int .i64 (z : Int)] 3))).keepB hbB (Nat.lt_succ_self _); have m0 := hMB.c0; have m1 := hMB.c1; have m2 := hMB.f0; have m3 := hMB.f1))
          | fail)
         obtain ⟨W9, hW9⟩ : ∃ W9, W9 = wB.setCell ⟨w4.heap.size, 1, none⟩ (.slice (some ⟨gB, 0, none⟩) (U.length + 1) kB) := ⟨_, rfl⟩;rw [← hW9];have hla : (T ++ [f]).length = T.length + 1 := by rw [List.length_append]; rfl
         have hlb : (U ++ [z]).length = U.length + 1 := by rw [List.length_append]; rfl
         have HM9 : Hid (MB W9 w4.heap.size (some ⟨gA, 0, none⟩) (T ++ [f]).length kA (some ⟨gB, 0, none⟩) (U ++ [z]).length kB) := by rw [hW9, hla, hlb]; exact hMB.set1
         have HF9 : Hid (Fr w4.heap.size (w4.heap.size + 1) wB W9) := by rw [hW9]; exact frOne _ _ _ _
         have HT9 : Hid (TwoN W9 (w4.heap.size + 1) (some ⟨gA, 0, none⟩) kA (T ++ [f]) (some ⟨gB, 0, none⟩) kB (U ++ [z])) := hTB.swap.keepF HF9.out nr_;have HB9 : Hid (Below w4.heap.size w4 W9) := by
          have h1 : Below w4.heap.size w4 (wr.alloc (Obj.cells #[.int .i64 (f : Int)] 3)) := HBr.trans (br_.alloc (Nat.le_of_lt hqr) _);have h2 := (h1.trans (hbA.mono (Nat.le_succ _))).trans ((frOne wA w4.heap.size 0 (.slice (some ⟨gA, 0, none⟩) (T.length + 1) kA)).below nr_ (Nat.le_of_lt nA));have h3 : Below w4.heap.size (wA.setCell ⟨w4.heap.size, 0, none⟩ (.slice (some ⟨gA, 0, none⟩) (T.length + 1) kA)) ((wA.setCell ⟨w4.heap.size, 0, none⟩ (.slice (some ⟨gA, 0, none⟩) (T.length + 1) kA)).alloc (Obj.cells #[.int .i64 (z : Int)] 3)) := br_.alloc (by simp [World.setCell]; omega) _;exact ((h2.trans h3).trans (hbB.mono (Nat.le_succ _))).trans (HF9.below nr_ (Nat.le_of_lt hMB.lt))
         have HTn : Hid (T ++ [f] = mdL l (k + 1)) := by show _ = _; rw [HTf.out, HTe.out]
         have HUn : Hid (U ++ [z] = mdR l (k + 1)) := by show _ = _; rw [HUf.out, HUe.out]
         clear hW9 hla hlb hTA hbA hMA mA0 mA1 mA2 mA3 nA hTB hbB hMB m0 m1 m2 m3 TT1 MM1 LL1 c0 c1 f0 f1;go_wp2;go_roundw;case rel => exact ⟨k + 1, T ++ [f], U ++ [z], _, _, _, _, by omega, by go_num, HTn, HUn, HT9, HM9, HB9, HF2⟩
         case measure => (simp [intOf] <;> omega)
    ·obtain rfl : n = k := by omega
     have Hy : Hid (mdV l n = some (mdL l n, mdR l n)) := mdV_yes (by rw [mdF_is hk1 hk2]; exact mdB_yes HFr.out);have i1 : (n : Int) ≤ n := Int.le_refl _;have c0 := HMr.c0;have c1 := HMr.c1;have hdx := HD.keepB HBr.out hq3;have d0 := hdx.c0;have d1 := hdx.c1;have d2 := hdx.f0;have d3 := hdx.f1;clear hdx;go_wp2;have F := fr2 wo w.heap.size (.slice A1 T.length k1) (.slice A2 U.length k2);have O1 := (HTr.keepF F (by omega)).mono (show w.heap.size ≤ w4.heap.size + 1 by omega);have HE := ((HB.keep HBr.out).set (q := w.heap.size) nr_ (.slice A1 T.length k1) (.slice A2 U.length k2)).below;exact bodyPost_ret (v := .tuple #[.agg #[.slice A1 T.length k1, .slice A2 U.length k2], .bool true]) (by simp [results, Tryz.results349, go_sem, *]) rfl (by rw [Hy.out, ← HTe.out, ← HUe.out]; exact ivQ.yes O1 HE)
end
set_option maxHeartbeats 6400000
theorem l1In_ts {n lo hi : Int} (w : World) (h1 : lo ≤ n) (h2 : n ≤ hi) : Calls Tryz.prog 191 #[.int .i64 n, .int .i64 lo, .int .i64 hi] w fun e w' => e = .returned (.bool true) ∧ Below w.heap.size w w' :=
 (l1In_yes n lo hi w h1 h2).mono fun _ _ ⟨h1, h2⟩ => ⟨h1, h2 ▸ br_⟩
theorem sim_no' {r : Nat → Nat} {s v i k : Nat} {T : List Nat} (hT : T = listN (nN r s v)) (hi : i < T.length) (hk : k < i) (h1 : nN r s (T.getD i 0) &&& nN r s (T.getD k 0) ≠ nN r s (T.getD i 0)) (h2 : nN r s (T.getD i 0) &&& nN r s (T.getD k 0) ≠ nN r s (T.getD k 0)) : simB r v s = false :=
 sim_no hT hi hk fun h => by rcases h with h | h <;> contradiction
theorem nN_read {r : Nat → Nat} {m s u : Nat} (hV : VG m r) (hu : u < m) (hs : s < 128) : ∃ y z nu : Nat, y = r u ∧ IntKind.i64.wrap ((2 : Int) ^ u) = (z : Int) ∧ bits .or .i64 (y : Int) (z : Int) = ((y ||| z : Nat) : Int) ∧ bits .and .i64 ((y ||| z : Nat) : Int) (s : Int) = nu ∧ nu = nN r s u ∧ nu < 128 := by
 have hn7 := hV.n7;have hr := hV.lt128 hu;have h2u := two_pow_le (n := u) (by omega);have hor : r u ||| 2 ^ u < 2 ^ 8 := Nat.or_lt_two_pow (by omega) (by omega);refine ⟨r u, 2 ^ u, nN r s u, rfl, ?_, i64_or_nat _ _ (by omega) (by omega), i64_and_nat _ _ (by omega) (by omega), rfl, ?_⟩
 ·rw [pow_shl u (by omega)]; simp
 ·exact Nat.lt_of_le_of_lt Nat.and_le_right hs
set_option maxRecDepth 100000 in
theorem IsSimple_sv {A : Option Addr} {m c : Nat} {r : Nat → Nat} {s v : Nat} {w : World} (h : GV w A m c r) (hs : s < 2 ^ m) (hv : v < m) :
 Calls Tryz.prog 340 #[.agg #[.int .i64 m, .slice A m c], .int .i64 v, .int .i64 s] w fun e w' => e = .returned (.bool (simB r v s)) ∧ Below w.heap.size w w' := by
 have hn7 := h.vg.n7;have h128 := two_pow_le hn7;have HV := hh_ h.vg;obtain ⟨b0, o0, rfl⟩ := h.addr;obtain ⟨W, hW⟩ : ∃ W, W = (w.alloc (Obj.cells #[.int .i64 m, .slice (some ⟨b0, o0, none⟩) m c] 28)) := ⟨_, rfl⟩;have HB : Hid (From w W) := by rw [hW]; exact From.alloc _ _
 have HG : Hid (GBox W w.heap.size (some ⟨b0, o0, none⟩) m c r) := by rw [hW]; exact h.box
 have HW := hh_ hW;clear hW h;obtain ⟨e0, e1⟩ := gx_ HG;go_enter Tryz.func340, Tryz.ntmps340;go_wp2_with fail
 rw [← HW.out];refine (IsSet_sv HG.gv hs).mono ?_;rintro e w1 ⟨rfl, hb1⟩;clear HW;clear e0 e1;obtain ⟨HB, HG, e0, e1⟩ := kG_ HB HG hb1;clear hb1;have s1 : wrap64 ((m : Int) - 1) = (m : Int) - 1 := Go.IntWalk.wrap64_in _ (by omega);go_wp2_with fail
 refine (l1In_ts (n := (v : Int)) (lo := 0) (hi := (m : Int) - 1) w1 (by omega) (by omega)).mono ?_;rintro e w2 ⟨rfl, hb2⟩;clear e0 e1;obtain ⟨HB, HG, e0, e1⟩ := kG_ HB HG hb2;clear hb2;have E0 : (bits .and .i64 ((s : Int) / 2 ^ v) 1 == 0) = !s.testBit v := by
  have := and_one_i64' (s : Int) v (by omega) (by omega);simpa using this
 cases hb : s.testBit v
 ·have Hn : Hid (simB r v s = false) := sim_out hb;rw [hb] at E0;clear hb;go_wp2;go_ret;exact ⟨ret_bool Hn.symm, HB.below⟩
 rw [hb] at E0;have Hb := hh_ hb;clear hb;have q0 := HG.gv.row hv;obtain ⟨y, z, t, hy, p1, E1, E2, ht, ht7⟩ := nN_read (s := s) HV hv (by omega);rw [← hy] at q0;have i1 : (v : Int) < m := by omega
 have KL : Hid (∀ z : World, Below w2.heap.size w2 z → Calls Tryz.prog 187 #[.int .i64 (t : Int)] z fun e w' => ∃ A c, e = .returned (.slice A (listN t).length c) ∧ ON w2.heap.size w' A c (listN t) ∧ Below z.heap.size z w') := fun z hz =>
  (ListOf_sv t ht7 z).mono fun _ _ ⟨A, c, h1, h2, h3⟩ => ⟨A, c, h1, h2.mono hz.size, h3⟩
 have hL7 : (listN t).length ≤ 7 := listN_len t;have htm : t < 2 ^ m := by rw [ht]; exact nN_lt hs
 have HTm : Hid (∀ j, j < (listN t).length → (listN t).getD j 0 < m) := fun j hj => listN_lt htm hj
 obtain ⟨T, hT⟩ : ∃ T, T = listN t := ⟨_, rfl⟩;rw [← hT] at KL hL7 HTm;have HT : Hid (T = listN (nN r s v)) := by rw [← ht]; exact hT
 clear ht hT htm s1 hy;go_wp2;obtain ⟨HSC, HZ0, HS1⟩ := hsc3 e0 e1 q0;have KR1 : Hid (∀ z : World, Below w2.heap.size w2 z → _) := fun z hz => KL.out _ hz
 go_region_held3 (fun z => Below w2.heap.size w2 z ∧ z.cell? ⟨w.heap.size, 0, none⟩ = some (.int .i64 m) ∧ z.cell? ⟨w.heap.size, 1, none⟩ = some (.slice (some ⟨b0, o0, none⟩) m c) ∧ z.cell? ⟨b0, o0 + v, none⟩ = some (.int .i64 (y : Int)))
  (first | exact HS1.out | assumption | exact HSC.out _ hz3 | fail)
  (first | (go_at_call 187; ((with_reducible refine (KR1.out _ HZ0.out).mono ?_); rintro e w3 ⟨AL, cL, rfl, hOL, hb3⟩; have hz3 := bl_trans HZ0.out hb3)))
 clear e0 e1;replace HB := hh_ (HB.keep hz3);replace HG := hh_ (HG.keep hz3);clear hb3 hz3 HSC HZ0 HS1 KR1;obtain ⟨e0, e1⟩ := gx_ HG;have HOL : Hid (LN w3 AL cL T) := hOL.ln;have HR0 : Hid (From w3 w3) := From.refl w3;clear hOL KL p1 E0 E1 E2 q0 e0 e1;go_wp2;go_loopw [8] (fun iv wr => ∃ i : Nat, i ≤ T.length ∧ iv = .int .i64 i ∧ Hid (Sm1 r s T i) ∧ Hid (From w3 wr)) (fun iv _ => T.length - (intOf iv).toNat);case atStart => exact ⟨0, Nat.zero_le _, rfl, Sm1.zero, HR0⟩
 case round =>
  clear HR0;obtain ⟨i, hi, rfl, H1, HR⟩ := hrel;by_cases hiT : i < T.length
  ·have i1 : (i : Int) < T.length := by omega
   go_wp2;go_loopw [9] (fun kv wr => ∃ k : Nat, k ≤ i ∧ kv = .int .i64 k ∧ Hid (∀ j, j < k → Cm (nN r s (T.getD i 0)) (nN r s (T.getD j 0))) ∧ Hid (From w3 wr)) (fun kv _ => i - (intOf kv).toNat);case atStart => exact ⟨0, Nat.zero_le _, rfl, (fun j hj => absurd hj (by omega)), HR⟩
   case round =>
    clear HR;obtain ⟨k, hk, rfl, H2, HR⟩ := hrel;by_cases hki : k < i
    ·have i2 : (k : Int) < i := by omega
     have i3 : (k : Int) < T.length := by omega
     have HBr := hh_ (HB.up HR.out);have HLr := hh_ (HOL.keep HR.below);have HGr := hh_ (HG.keep HR.below);have e0 := HGr.c0;have e1 := HGr.c1;obtain ⟨bl, ol, rfl⟩ := HLr.addr (by omega);have p0 := HLr.cell hiT;have p1 := HLr.cell (show k < T.length by omega);have hu := HTm.out i hiT;have hu2 := HTm.out k (by omega);obtain ⟨u, hu'⟩ : ∃ u, u = T.getD i 0 := ⟨_, rfl⟩;obtain ⟨u2, hu2'⟩ : ∃ u2, u2 = T.getD k 0 := ⟨_, rfl⟩;rw [← hu'] at p0 hu;rw [← hu2'] at p1 hu2;have q0 := HGr.gv.row hu;have q1 := HGr.gv.row hu2;obtain ⟨y1, z1, a, hy1, P1, E1, E2, ha, ha7⟩ := nN_read (s := s) HV hu (by omega);obtain ⟨y2, z2, b, hy2, P2, E3, E4, hb, hb7⟩ := nN_read (s := s) HV hu2 (by omega);rw [← hy1] at q0;rw [← hy2] at q1;have i4 : (u : Int) < m := by omega
     have i5 : (u2 : Int) < m := by omega
     have E5 := i64_and_nat a b (by omega) (by omega);have Hp : Hid ((a &&& b = a ∨ a &&& b = b) → Cm (nN r s (T.getD i 0)) (nN r s (T.getD k 0))) := fun h => by rw [← hu', ← hu2', ← ha, ← hb]; exact h
     have Hq : Hid (a &&& b ≠ a → a &&& b ≠ b → simB r v s = false) := fun h1 h2 => sim_no' HT.out hiT hki (by rw [← hu', ← hu2', ← ha, ← hb]; exact h1) (by rw [← hu', ← hu2', ← ha, ← hb]; exact h2)
     obtain ⟨ab, hab⟩ : ∃ ab, ab = a &&& b := ⟨_, rfl⟩;rw [← hab] at E5 Hp Hq;clear hu' hu2' hy1 hy2 ha hb hab;by_cases h1 : ab = a
     ·have H2' : Hid (∀ j, j < k + 1 → Cm (nN r s (T.getD i 0)) (nN r s (T.getD j 0))) := fun j hj => by
       by_cases e : j < k
       ·exact H2.out j e
       ·obtain rfl : j = k := by omega
        exact Hp.out (.inl h1)
      have d1 : ((ab : Int) != (a : Int)) = false := by simp; omega
      clear h1 hu hu2;go_wp2;go_quiet (fail)
      go_wp2;go_quiet (fail)
      go_wp2;go_roundw;case rel => exact ⟨k + 1, by omega, by go_num, H2', HR.drewN _⟩
      case measure => (simp [intOf] <;> omega)
     ·have d1 : ((ab : Int) != (a : Int)) = true := by simp; omega
      by_cases h2 : ab = b
      ·have H2' : Hid (∀ j, j < k + 1 → Cm (nN r s (T.getD i 0)) (nN r s (T.getD j 0))) := fun j hj => by
        by_cases e : j < k
        ·exact H2.out j e
        ·obtain rfl : j = k := by omega
         exact Hp.out (.inr h2)
       have d2 : ((ab : Int) != (b : Int)) = false := by simp; omega
       clear h1 h2 hu hu2;go_wp2;go_quiet (fail)
       go_wp2;go_quiet (fail)
       go_wp2;go_roundw;case rel => exact ⟨k + 1, by omega, by go_num, H2', HR.drewN _⟩
       case measure => (simp [intOf] <;> omega)
      ·have d2 : ((ab : Int) != (b : Int)) = true := by simp; omega
       have Hn := hh_ (Hq.out h1 h2);clear h1 h2 hu hu2;go_wp2;go_quiet (fail)
       go_wp2;go_quiet (fail)
       go_wp2;go_ret;exact ⟨ret_bool Hn.symm, (HBr.drewN _).below⟩
    ·have H1' : Hid (Sm1 r s T (i + 1)) := H1.step fun j hj => H2.out j (by omega)
     have i2 : (i : Int) ≤ k := by omega
     go_wp2;go_roundw;case rel => exact ⟨i + 1, by omega, by go_num, H1', HR⟩
     case measure => (simp [intOf] <;> omega)
  ·have Hy : Hid (simB r v s = true) := sim_yes Hb.out (by rw [← HT.out]; exact fun i' hi' => H1.out i' (by omega));have HBr := hh_ (HB.up HR.out);have i1 : (T.length : Int) ≤ (i : Int) := by omega
   go_wp2;go_ret;exact ⟨ret_bool Hy.symm, HBr.below⟩
end Go.Proofs.YtdpkbfiggbcclaaGreat
