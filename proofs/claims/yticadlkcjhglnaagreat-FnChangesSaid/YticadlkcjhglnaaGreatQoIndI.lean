/-
  Several texts in one.
-/
import Derived.Test.YticadlkcjhglnaaGreatQoDrwD
import Derived.Test.YticadlkcjhglnaaGreatQoGB
import Derived.Test.YticadlkcjhglnaaGreatQoFillS
import Derived.Test.YticadlkcjhglnaaGreatQoWgtS
import Derived.Test.YticadlkcjhglnaaGreatQoColP
import Derived.Test.YticadlkcjhglnaaGreatQoListS
import Derived.Test.YticadlkcjhglnaaGreatQoLater
/-
-/
namespace Go.Proofs.YticadlkcjhglnaaGreat
open Go.RowKit
set_option maxHeartbeats 6400000
section
variable {w : World} {q nb cb : Nat} {A : Option Addr}
set_option maxRecDepth 100000 in
theorem l4Holey_s (hc : Cu w q A nb cb) : Calls Tryz.prog 70 #[.pointer (some ⟨q, 0, none⟩)] w (dgQ w q A nb cb) := by
 obtain ⟨W, hW⟩ : ∃ W, W = (w.alloc (Obj.cells #[.int .i64 0, .slice none 0 0] 26)) := ⟨_, rfl⟩;have HD : Hid (D0 w W q A nb cb) := by rw [hW]; exact D0.new hc
 have HW := hh_ hW;have KB := hh_ (l1Once_s (k := 3) HD.cu (by omega) (by omega));clear hW hc;go_enter Tryz.func70, Tryz.ntmps70;go_wp2_with fail
 rw [← HW.out];clear HW;refine KB.mono ?_;rintro e w1 ⟨y, rfl, hd⟩;replace HD := hh_ (HD.draw hd);clear hd KB;cases y
 rotate_left
 ·have KR := hh_ (l2Any_s HD.cu);have hq2 := HD.lt;go_wp2_with fail
  refine KR.mono ?_;rintro e w3 ⟨sz, B, m, d, x, rfl, hm1, hm7, ho, hd⟩;have HD3 := hh_ (HD.draw hd);have HF := hh_ (dgQ.fin0 (sz := sz) hm1 hm7 HD3.cu HD3.fr HD3.l1 ho hq2);have d0 := HD3.d.c0;have d1 := HD3.d.c1;have d2 := HD3.d.f0;have d3 := HD3.d.f1;clear ho hd KR HD;go_wp2;exact bodyPost_ret (v := .agg #[.int .i64 sz, .slice B m d]) (by simp [results, Tryz.results70, go_sem, *]) rfl HF.out
 ·have KB := hh_ (l1Below_s (k := 3) HD.cu (by omega) (by omega));go_wp2_with fail
  refine KB.mono ?_;rintro e w4 ⟨v, rfl, hv, hd⟩;have HD4 := hh_ (HD.draw hd);obtain ⟨n, hn⟩ : ∃ n, n = v + 4 := ⟨_, rfl⟩;have hv2 : (4 : Int) + (v : Int) = n := by omega
  have hn1 : 1 ≤ n := by omega
  have hn6 : n ≤ 6 := by omega
  have hv9 := hv;clear hn;rename ∀ (a : Act) (w' : World), _ → _ => hK
  refine hK _ _ ?_;have hw4 := HD4.lt;have KG := hh_ (NamedGraph_s w4 (t := ⟨#[99, 121, 99, 108, 101]⟩) (.inr (.inl (by decide +kernel))) hn1 (by omega));clear hd KB HD;go_wp2_with fail
  refine KG.mono ?_;rintro e w5 ⟨A1, c1, x1, rfl, ho, hb⟩;have HD5 := hh_ (HD4.keep hb);have hw5 := hb.size;obtain ⟨W6, hW6⟩ : ∃ W6, W6 = (w5.alloc (Obj.cells #[.int .i64 n, .slice A1 n c1] 26)) := ⟨_, rfl⟩;have hb6 : Below w5.heap.size w5 W6 := by rw [hW6]; exact br_.alloc nr_ _
  have hg6 : GU W6 w5.heap.size (w.heap.size + 1) n := by
   rw [hW6];refine ⟨A1, c1, x1, GC.new _ _ _ _ _, (ho.alloc _).mono (by omega) (by simp), fun e => ?_⟩;rcases ho.at_block with h | ⟨g, h, _, hlt⟩
   ·rw [h] at e; cases e
   ·rw [h] at e;simp only [Option.some.injEq, Addr.mk.injEq, and_true] at e;omega
  have HS := hh_ ((HD5.keep hb6).ds hg6 (Nat.lt_succ_self _) (by omega));have KB := hh_ (l1Below_s HS.cu (show 0 < n from hn1) (by omega));have HW6 := hh_ hW6;clear hW6 hb6 hg6 ho hb KG HD4 HD5;go_wp2_with fail
  rw [← HW6.out];clear HW6;refine KB.mono ?_;rintro e w7 ⟨a, rfl, ha, hd⟩;replace HS := hh_ (HS.draw hd);clear hd KB;have KB := hh_ (l1Below_s HS.cu (show 0 < n from hn1) (by omega));obtain ⟨_, _, _, hgA, _, _⟩ := HS.gu.ex;have e0 := hgA.c0;clear hgA;go_wp2_with fail
  refine KB.mono ?_;rintro e w8 ⟨b, rfl, hb, hd⟩;replace HS := hh_ (HS.draw hd);clear hd KB;have KB := hh_ (l1Once_s (k := 3) HS.cu (by omega) (by omega));go_wp2_with fail
  refine KB.mono ?_;rintro e w9 ⟨y, rfl, hd⟩;replace HS := hh_ (HS.draw hd);clear hd KB;obtain ⟨A2, c2, x2, hg1, ho1, hne⟩ := HS.gu.ex;have e0 := hg1.c0;have e1 := hg1.c1;have HG1 := hh_ hg1;have hz1 : w5.heap.size < w9.heap.size := hg1.lt;cases y
  ·have HF := hh_ (dgQ.fin hn1 (by omega) HS.out ho1);have d0 := HS.d.c0;have d1 := HS.d.c1;have d2 := HS.d.f0;have d3 := HS.d.f1;clear hg1 ho1 hne;go_wp2;exact bodyPost_ret (v := .agg #[.int .i64 n, .slice A2 n c2]) (by simp [results, Tryz.results70, go_sem, *]) rfl HF.out
  ·have KA : Hid (Calls Tryz.prog 98 #[.agg #[.int .i64 n, .slice A2 n c2], .int .i64 a, .int .i64 b] w9 _) := AddEdge_s (n : Int) A2 n c2 x2 a b w9 w9.heap.size ho1.rd nr_ (by omega);clear hg1 ho1 hne;go_wp2_with fail
   refine KA.mono ?_;rintro e v5 ⟨A5, c5, rfl, hO5, hb5⟩;have hn5 := HG1.keep hb5;have n0 := hn5.c0;have n1 := hn5.c1;have n2 := hn5.f0;have n3 := hn5.f1;obtain ⟨V6, hV6⟩ : ∃ V6, V6 = ((v5.setCell ⟨w5.heap.size, 0, none⟩ (.int .i64 n)).setCell ⟨w5.heap.size, 1, none⟩ (.slice A5 n c5)) := ⟨_, rfl⟩;have HS6 : Hid (DS w V6 q A nb cb w5.heap.size (w.heap.size + 1) n) := by rw [hV6]; exact HS.set hb5 (hO5.mono (by omega) nr_)
   have HG6 : Hid (GC V6 w5.heap.size n A5 n c5) := by rw [hV6]; exact hn5.set
   have ho6 : Own V6 (w.heap.size + 1) V6.heap.size 3 1 A5 n c5 (fun j => .int .i64 (aeX (n : Int) n x2 a b j)) := by
    rw [hV6];exact (hO5.keep (fr2 v5 w5.heap.size (.int .i64 n) (.slice A5 n c5)) (.inr (by omega))).mono (by omega) (fr2 v5 w5.heap.size (.int .i64 n) (.slice A5 n c5)).size
   have HF := hh_ (dgQ.fin hn1 (by omega) HS6.out ho6);have hd5 := HS.d.keep hb5;have d0 := hd5.c0;have d1 := hd5.c1;have d2 := hd5.f0;have d3 := hd5.f1;have j1 : (w.heap.size = w5.heap.size) = False := by simp; omega
   have j2 : (w5.heap.size = w.heap.size) = False := by simp; omega
   have HV6 := hh_ hV6;clear hO5 hb5 hn5 ho6 hV6 KA e0 e1 hd5;go_wp2;rw [← HV6.out];have r0 := HS6.d.c0;have r1 := HS6.d.c1;exact bodyPost_ret (v := .agg #[.int .i64 n, .slice A5 n c5]) (by simp [results, Tryz.results70, go_sem, *]) rfl HF.out
end
def sl (n : Nat) (x : Nat → Int) (m : Nat) (y : Nat → Int) : Bool := decide (n = m ∧ ∀ i, i < n → x i = y i)
theorem sl_len {n m : Nat} {x y : Nat → Int} (h : n ≠ m) : sl n x m y = false := by
 unfold sl; exact decide_eq_false fun k => h k.1
theorem sl_no {n : Nat} {x y : Nat → Int} {k : Nat} (hk : k < n) (h : x k ≠ y k) : sl n x n y = false := by
 unfold sl; exact decide_eq_false fun q => h (q.2 k hk)
theorem sl_yes {n : Nat} {x y : Nat → Int} (h : ∀ i, i < n → x i = y i) : sl n x n y = true := by
 unfold sl; exact decide_eq_true ⟨rfl, h⟩
theorem sl_list (l l' : List Int) : sl l.length (fun i => l.getD i 0) l'.length (fun i => l'.getD i 0) = decide (l = l') := by
 unfold sl;refine decide_eq_decide.2 ⟨fun ⟨h1, h2⟩ => List.ext_getElem h1 fun i hi hi' => ?_, fun h => by subst h; exact ⟨rfl, fun _ _ => rfl⟩⟩;have := h2 i hi;simpa [List.getD, hi, hi'] using this
set_option maxHeartbeats 1000000
def gsl (s : Int) (n : Nat) (x : Nat → Int) (t : Int) (m : Nat) (y : Nat → Int) : Bool := decide (s = t) && sl n x m y
theorem gsl_sz {s t : Int} {n m : Nat} {x y : Nat → Int} (h : s ≠ t) : gsl s n x t m y = false := by
 unfold gsl; rw [decide_eq_false h]; rfl
theorem gsl_rows {s : Int} {n m : Nat} {x y : Nat → Int} : gsl s n x s m y = sl n x m y := by
 unfold gsl; rw [decide_eq_true rfl]; rfl
theorem EqualGraphs_s (s1 s2 : Int) (A1 A2 : Option Addr) (n1 n2 c1 c2 : Nat) (x1 x2 : Nat → Int) (w : World) (B : Nat) (h1 : Rd w B A1 n1 c1 x1) (h2 : Rd w B A2 n2 c2 x2) (hB : B ≤ w.heap.size) (hn1 : n1 ≤ 1073741824) (hn2 : n2 ≤ 1073741824) :
 Calls Tryz.prog 12 #[.agg #[.int .i64 s1, .slice A1 n1 c1], .agg #[.int .i64 s2, .slice A2 n2 c2]] w fun e w' => e = .returned (.bool (gsl s1 n1 x1 s2 n2 x2)) ∧ Below w.heap.size w w' := by
 obtain ⟨W, hW⟩ : ∃ W, W = ((w.alloc (Obj.cells #[.int .i64 s1, .slice A1 n1 c1] 26)).alloc (Obj.cells #[.int .i64 s2, .slice A2 n2 c2] 26)) := ⟨_, rfl⟩;have HB : Hid (Below w.heap.size w W) := by rw [hW]; exact (br_.alloc nr_ _).alloc (by simp) _
 have hWz : W.heap.size = w.heap.size + 1 + 1 := by rw [hW]; simp
 have g1 : W.cell? ⟨w.heap.size, 1, none⟩ = some (.slice A1 n1 c1) := by rw [hW]; simp [go_sem]
 have g2 : W.cell? ⟨w.heap.size + 1, 1, none⟩ = some (.slice A2 n2 c2) := by rw [hW]; simp [go_sem]
 by_cases hs : s1 = s2
 rotate_left
 ·have e := hh_ (gsl_sz (n := n1) (m := n2) (x := x1) (y := x2) hs);have HW := hh_ hW;clear h1 h2 g1 g2 hW hWz;go_enter Tryz.func12, Tryz.ntmps12;go_wp2;go_ret;rw [← HW.out];exact ⟨ret_bool e.symm, HB⟩
 subst hs;rw [gsl_rows];by_cases hne : n1 = n2
 rotate_left
 ·have e := hh_ (sl_len (x := x1) (y := x2) hne);have hne' : (n1 : Int) ≠ (n2 : Int) := by omega
  have HW := hh_ hW;clear h1 h2 g1 g2 hW hWz;go_enter Tryz.func12, Tryz.ntmps12;go_wp2;go_ret;rw [← HW.out];exact ⟨ret_bool e.symm, HB⟩
 subst hne;have H1 := hh_ h1;have H2 := hh_ h2;have G1 := hh_ g1;have G2 := hh_ g2;have HW := hh_ hW;clear h1 h2 g1 g2 hW;go_enter Tryz.func12, Tryz.ntmps12;go_wp2;rw [← HW.out];go_loopw [5] (fun i wr => ∃ k : Nat, k ≤ n1 ∧ i = .int .i64 k ∧ Hid (∀ j, j < k → x1 j = x2 j) ∧ Below W.heap.size W wr) (fun i _ => n1 - (intOf i).toNat);case atStart => exact ⟨0, Nat.zero_le _, rfl, (fun j hj => absurd hj (by omega)), br_⟩
 case round =>
  obtain ⟨k, hk, rfl, hall, hbr⟩ := hrel;have q1 := up hbr G1.out (by omega);have q2 := up hbr G2.out (by omega);by_cases hlt : k < n1
  ·have hbw := HB.trans (hbr.mono HB.size);obtain ⟨b1, o1, rfl, l1, c1'⟩ := H1.pos (by omega);obtain ⟨b2, o2, rfl, l2, c2'⟩ := H2.pos (by omega);have f1 := (hbw.cell (p := ⟨b1, o1 + k, none⟩) (by show b1 < _; omega)).trans (c1' k hlt);have f2 := (hbw.cell (p := ⟨b2, o2 + k, none⟩) (by show b2 < _; omega)).trans (c2' k hlt);have hi : (k : Int) < n1 := by omega
   clear c1' c2';by_cases hq : x1 k = x2 k
   ·have HB := hh_ hbr;have Hq := hh_ hq;rw [← hq] at f2;clear hbr hq hbw;go_wp2;go_quiet (fail)
    go_wp2;go_roundw;case rel =>
     refine ⟨k + 1, by omega, by go_num, fun j hj => ?_, below_drewN HB _⟩;by_cases hjk : j < k
     ·exact hall.out j hjk
     ·obtain rfl : j = k := by omega
      exact Hq.out
    case measure => simp [intOf]; omega
   ·have HBW := hh_ hbw;have e := hh_ (sl_no hlt hq);clear hbr hbw;go_wp2;go_quiet (fail)
    go_wp2;go_ret;exact ⟨ret_bool e.symm, below_drewN HBW.out _⟩
  ·have hge : (n1 : Int) ≤ k := by omega
   have HBW : Hid (Below w.heap.size w wr) := HB.trans (hbr.mono HB.size);have e := hh_ (sl_yes (n := n1) (x := x1) (y := x2) fun j hj => hall.out j (by omega));clear hbr;go_wp2;go_ret;exact ⟨ret_bool e.symm, HBW.out⟩
def bmK (P : Nat → Bool) : Nat → Nat
 | 0 => 0
 | n + 1 => if P n = true then bmK P n ||| 2 ^ n else bmK P n
theorem bmK_bit {P : Nat → Bool} {i : Nat} : ∀ n, (bmK P n).testBit i = (decide (i < n) && P i) := by
 intro n;induction n with
 | zero => simp [bmK]
 | succ n ih =>
   rw [bmK];by_cases h : P n = true
   ·rw [if_pos h, Nat.testBit_or, ih, Nat.testBit_two_pow];by_cases e : n = i
    ·subst e; simp [h]
    ·by_cases e2 : i < n
     ·simp [e, e2, show i < n + 1 by omega]
     ·simp [e, e2, show ¬ i < n + 1 by omega]
   ·rw [if_neg h, ih];by_cases e : i = n
    ·subst e; simp [h]
    ·by_cases e2 : i < n
     ·simp [e2, show i < n + 1 by omega]
     ·simp [e2, show ¬ i < n + 1 by omega]
theorem bmK_lt {P : Nat → Bool} : ∀ n, bmK P n < 2 ^ n := by
 intro n;induction n with
 | zero => exact Nat.one_pos
 | succ n ih =>
   have h1 : 2 ^ n < 2 ^ (n + 1) := Nat.pow_lt_pow_right (by omega) (Nat.lt_succ_self _);rw [bmK];split
   ·exact Nat.or_lt_two_pow (by omega) h1
   ·omega
def lsN (s i : Nat) : Nat := (listN s).getD i 0
def inR (r : Nat → Nat) (s i : Nat) : Nat := bmK (fun k => (r (lsN s i)).testBit (lsN s k)) (cn s)
theorem lsN_at {s i : Nat} (hi : i < cn s) : (listN s)[i]'hi = lsN s i := by unfold lsN; rw [List.getD_eq_getElem?_getD, List.getElem?_eq_getElem (show i < (listN s).length from hi)]; rfl
theorem lsN_bit {s m i : Nat} (hs : s < 2 ^ m) (hi : i < cn s) : lsN s i < m ∧ s.testBit (lsN s i) = true := by
 have h := listN_at (s := s) (j := i) hi;rw [lsN_at hi] at h;exact ⟨bit_lt hs h.2, h.2⟩
theorem cn_one {s : Nat} (hs : s < 128) (h : s ≠ 0) : 1 ≤ cn s := by
 obtain ⟨v, l, e, _⟩ := list_ne hs h;unfold cn; rw [e]; simp
theorem inR_vg {r : Nat → Nat} {m s : Nat} (vg : VG m r) (hs : s < 2 ^ m) (h0 : s ≠ 0) : VG (cn s) (inR r s) := by
 have h128 := two_pow_le vg.n7;refine ⟨cn_one (by omega) h0, cn_le s, fun v _ => bmK_lt _, fun v hv => ?_, fun v w hv hw => ?_⟩
 ·unfold inR; rw [bmK_bit, vg.irr _ (lsN_bit hs hv).1]; simp
 ·unfold inR; rw [bmK_bit, bmK_bit, decide_eq_true hv, decide_eq_true hw, vg.sym _ _ (lsN_bit hs hv).1 (lsN_bit hs hw).1]
def iK (r : Nat → Nat) (s i k j : Nat) : Nat := if j < i then inR r s j else if j = i then bmK (fun q => (r (lsN s i)).testBit (lsN s q)) k else 0
theorem iK_zero (r : Nat → Nat) (s j : Nat) : iK r s 0 0 j = 0 := by
 unfold iK; rw [if_neg (by omega)]; split <;> rfl
theorem iK_next (r : Nat → Nat) (s i j : Nat) : iK r s i (cn s) j = iK r s (i + 1) 0 j := by
 unfold iK;by_cases h1 : j < i
 ·rw [if_pos h1, if_pos (by omega)]
 ·by_cases h2 : j = i
  ·subst h2; rw [if_neg (by omega), if_pos rfl, if_pos (by omega)]; rfl
  ·rw [if_neg h1, if_neg h2, if_neg (by omega)]; split <;> rfl
theorem iK_end {r : Nat → Nat} {s j : Nat} (h : j < cn s) : iK r s (cn s) 0 j = inR r s j := by unfold iK; rw [if_pos h]
theorem iK_no {r : Nat → Nat} {s i k : Nat} (h : (r (lsN s i)).testBit (lsN s k) = false) (j : Nat) : iK r s i (k + 1) j = iK r s i k j := by
 have e : bmK (fun q => (r (lsN s i)).testBit (lsN s q)) (k + 1) = bmK (fun q => (r (lsN s i)).testBit (lsN s q)) k := by rw [bmK, if_neg (by rw [h]; simp)]
 unfold iK;rw [e]
theorem iK_yes {r : Nat → Nat} {s i k : Nat} (h : (r (lsN s i)).testBit (lsN s k) = true) (j : Nat) : iK r s i (k + 1) j = if j = i then iK r s i k i ||| 2 ^ k else iK r s i k j := by
 have e : bmK (fun q => (r (lsN s i)).testBit (lsN s q)) (k + 1) = bmK (fun q => (r (lsN s i)).testBit (lsN s q)) k ||| 2 ^ k := by rw [bmK, if_pos h]
 unfold iK;rw [e];by_cases h2 : j = i
 ·subst h2; simp
 ·rw [if_neg h2, if_neg h2, if_neg h2]
theorem iK_at {r : Nat → Nat} {s i k : Nat} : iK r s i k i = bmK (fun q => (r (lsN s i)).testBit (lsN s q)) k := by
 unfold iK; rw [if_neg (by omega), if_pos rfl]
def rwL (r : Nat → Nat) (s i : Nat) : List Nat := (List.range i).map (inR r s)
theorem rwL_len (r : Nat → Nat) (s i : Nat) : (rwL r s i).length = i := by unfold rwL; simp
theorem rwL_snoc (r : Nat → Nat) (s i : Nat) : rwL r s i ++ [inR r s i] = rwL r s (i + 1) := by unfold rwL; rw [List.range_succ, List.map_append]; rfl
theorem rwL_at {r : Nat → Nat} {s i j : Nat} (h : j < i) : (rwL r s i).getD j 0 = inR r s j := by unfold rwL; simp [List.getD, h]
def bmR (r : Nat → Nat) (s i k : Nat) : Nat := bmK (fun q => (r (lsN s i)).testBit (lsN s q)) k
theorem bmR_zero (r : Nat → Nat) (s i : Nat) : bmR r s i 0 = 0 := rfl
theorem bmR_all (r : Nat → Nat) (s i : Nat) : bmR r s i (cn s) = inR r s i := rfl
theorem bmR_lt (r : Nat → Nat) (s i k : Nat) : bmR r s i k < 2 ^ k := bmK_lt k
theorem bmR_no {r : Nat → Nat} {s i k : Nat} (h : (r (lsN s i)).testBit (lsN s k) = false) : bmR r s i (k + 1) = bmR r s i k := by
 unfold bmR; rw [bmK, if_neg (by rw [h]; simp)]
theorem bmR_yes {r : Nat → Nat} {s i k : Nat} (h : (r (lsN s i)).testBit (lsN s k) = true) : bmR r s i (k + 1) = bmR r s i k + 2 ^ k := by
 have : (bmR r s i k).testBit k = false := by unfold bmR; rw [bmK_bit]; simp
 rw [show bmR r s i (k + 1) = bmR r s i k ||| 2 ^ k by unfold bmR; rw [bmK, if_pos h], ← or_of_add this]
def pfB (r : Nat → Nat) (s : Nat) : Bool := !(s == 0) && decide (cn (lqN (inR r s) (cn s)) < chN (inR r s) (cn s))
theorem pfB_zero (r : Nat → Nat) : pfB r 0 = false := rfl
theorem pfB_not {r : Nat → Nat} {s : Nat} (h : s ≠ 0) : pfB r s = decide (cn (lqN (inR r s) (cn s)) < chN (inR r s) (cn s)) := by
 unfold pfB; simp [h]
theorem frK_congr {r q : Nat → Nat} {l : List Nat} {v c : Nat} (h : r v = q v) : ∀ j, frK r l v c j = frK q l v c j := by
 intro j;induction j with
 | zero => rfl
 | succ j ih => rw [frK, frK, ih, h]
theorem colS_congr {r q : Nat → Nat} {k m : Nat} (h : ∀ v, v < m → r v = q v) : ∀ (j : Nat) (l : List Nat), l.length + j = m → colS r k j l = colS q k j l := by
 intro j;induction j with
 | zero => intro l _; rfl
 | succ j ih =>
   intro l hl;rw [colS, colS];congr 1;funext c
   rw [frK_congr (h _ (by omega)), ih (l ++ [c]) (by rw [List.length_append]; simp; omega)]
theorem chN_congr {r q : Nat → Nat} {m : Nat} (h : ∀ v, v < m → r v = q v) : chN r m = chN q m := by
 have e : (fun k => (cOf r m (k + 1)).isSome) = fun k => (cOf q m (k + 1)).isSome := by
  funext k
  unfold cOf;rw [colS_congr h m [] (by simp)]
 unfold chN;rw [e]
theorem lgK_congr {p q : Nat → Bool} : ∀ k, (∀ s, s < k → p s = q s) → lgK p k = lgK q k := by
 intro k;induction k with
 | zero => intro _; rfl
 | succ k ih =>
   intro h;rw [lgK, lgK, ih fun s hs => h s (by omega), h k (by omega)]
theorem cliq_congr {r q : Nat → Nat} {m s : Nat} (h : ∀ v, v < m → r v = q v) (hs : s < 2 ^ m) : cliq r s = cliq q s := by
 unfold cliq;rw [Bool.eq_iff_iff, List.all_eq_true, List.all_eq_true];constructor
 ·intro a v hv;rw [← h v (bit_lt hs (mem_listN.1 hv).2)];exact a v hv
 ·intro a v hv;rw [h v (bit_lt hs (mem_listN.1 hv).2)];exact a v hv
theorem lqN_congr {r q : Nat → Nat} {m : Nat} (h : ∀ v, v < m → r v = q v) : lqN r m = lqN q m := lgK_congr _ fun _ hs => cliq_congr h hs
def pP (v w : Nat) : Nat := if v < w then (if v = 0 then w - 1 else v + w) else (if w = 0 then v - 1 else v + w)
def gC (c n v : Nat) : Nat := bmK (fun w => !(v == w) && c.testBit (pP v w)) n
theorem small_table : ∀ n, n < 4 → ∀ c, c < 64 → chN (gC c (n + 1)) (n + 1) ≤ cn (lqN (gC c (n + 1)) (n + 1)) := by decide +kernel
theorem small_fit {n : Nat} {r : Nat → Nat} (vg : VG n r) (h : n ≤ 4) : ∃ c, c < 64 ∧ ∀ v, v < n → r v = gC c n v := by
 refine ⟨bmK (fun i => match i with | 0 => (r 0).testBit 1 | 1 => (r 0).testBit 2 | 2 => (r 0).testBit 3 | 3 => (r 1).testBit 2 | 4 => (r 1).testBit 3 | _ => (r 2).testBit 3) 6, bmK_lt 6, fun v hv => ?_⟩;apply Nat.eq_of_testBit_eq;intro w;unfold gC;rw [bmK_bit, bmK_bit];by_cases hw : w < n
 ·rw [decide_eq_true hw, Bool.true_and];have hv4 : v = 0 ∨ v = 1 ∨ v = 2 ∨ v = 3 := by omega
  have hw4 : w = 0 ∨ w = 1 ∨ w = 2 ∨ w = 3 := by omega
  have hi := vg.irr v hv;have hs := vg.sym v w hv hw;rcases hv4 with rfl | rfl | rfl | rfl <;> rcases hw4 with rfl | rfl | rfl | rfl <;> first | exact hi | (simp [pP]; done) | (simp [pP, hs]; done)
 ·rw [decide_eq_false hw, Bool.false_and];cases hb : (r v).testBit w
  ·rfl
  ·exact absurd (bit_lt (vg.lt v hv) hb) hw
theorem small_perfect {n : Nat} {r : Nat → Nat} (vg : VG n r) (h : n ≤ 4) : chN r n ≤ cn (lqN r n) := by
 obtain ⟨c, hc, e⟩ := small_fit vg h;have n1 := vg.n1;rw [chN_congr e, lqN_congr e];have := small_table (n - 1) (by omega) c hc;rwa [show n - 1 + 1 = n by omega] at this
theorem pfB_small {r : Nat → Nat} {m s : Nat} (vg : VG m r) (hs : s < 2 ^ m) (h0 : s ≠ 0) (h : cn s ≤ 4) : pfB r s = false := by
 rw [pfB_not h0];have := small_perfect (inR_vg vg hs h0) h;exact decide_eq_false (by omega)
set_option maxHeartbeats 6400000
set_option maxRecDepth 100000 in
theorem induced_v {A : Option Addr} {m c : Nat} {r : Nat → Nat} {s : Nat} {w : World} (h : GV w A m c r) (hs : s < 2 ^ m) (h0 : s ≠ 0) :
 Calls Tryz.prog 136 #[.agg #[.int .i64 m, .slice A m c], .int .i64 s] w fun e w' => ∃ A' c', e = .returned (.agg #[.int .i64 (cn s : Nat), .slice A' (cn s) c']) ∧ Own w' w.heap.size w'.heap.size 3 1 A' (cn s) c' (fun j => .int .i64 (inR r s j : Nat)) ∧ Below w.heap.size w w' := by
 have hn7 := h.vg.n7;have h128 := two_pow_le hn7;have HV := hh_ h.vg;have HS := hh_ hs;have hc7 := cn_le s;have hc1 := cn_one (by omega) h0;have Hat : Hid (∀ i, (hi : i < (listN s).length) → (listN s)[i] = lsN s i) := fun i hi => lsN_at hi
 have Hls : Hid (∀ i, i < (listN s).length → lsN s i < m) := fun i hi => (lsN_bit hs hi).1
 obtain ⟨b0, o0, rfl⟩ := h.addr;obtain ⟨W, hW⟩ : ∃ W, W = ((w.alloc (Obj.cells #[.int .i64 m, .slice (some ⟨b0, o0, none⟩) m c] 26)).alloc (Obj.cells #[.int .i64 0, .slice none 0 0] 26)) := ⟨_, rfl⟩;have HB : Hid (From w W) := by rw [hW]; exact (From.alloc _ _).alloc_ _
 have HG : Hid (GBox W w.heap.size (some ⟨b0, o0, none⟩) m c r) := by rw [hW]; exact h.box.keep (br_.alloc nr_ _)
 have HQ : Hid (GC W (w.heap.size + 1) 0 none 0 0) := by
  rw [hW];have := GC.new (w.alloc (Obj.cells #[.int .i64 m, .slice (some ⟨b0, o0, none⟩) m c] 26)) 0 none 0 0;show GC _ _ _ _ _ _;simpa using this
 have HW := hh_ hW;have KL := hh_ (ListOf_v s (by omega) W);have Hfin : Hid (∀ j, j < (listN s).length → iK r s (listN s).length 0 j = inR r s j) := fun j hj => iK_end hj
 have Hnx : Hid (∀ i j, iK r s i (listN s).length j = iK r s (i + 1) 0 j) := fun i j => iK_next r s i j
 rw [show cn s = (listN s).length from rfl] at hc7 hc1 ⊢;obtain ⟨n, hn⟩ : ∃ n, n = (listN s).length := ⟨_, rfl⟩;have Hn := hh_ hn;clear hW h h0 hs;go_enter Tryz.func136, Tryz.ntmps136;obtain ⟨e0, e1⟩ := gx_ HG;go_wp2_with fail
 rw [← HW.out];clear HW;refine KL.mono ?_;rintro e w1 ⟨Al, cl, rfl, ho1, hb1⟩;have HL := hh_ ho1;clear e0 e1;replace HB := hh_ (HB.keep hb1);replace HQ := hh_ (HQ.keep hb1);replace HG := hh_ (HG.keep hb1);clear hb1 ho1 KL;obtain ⟨e0, e1⟩ := gx_ HG;rw [← hn] at hc7 hc1 ⊢;clear hn;obtain ⟨W2, hmk, hO2, hb2⟩ := made_own w1 n (by omega);have hz2 : w1.heap.size + 1 ≤ W2.heap.size := by
  obtain ⟨_, e, _, _, h, _⟩ := hO2.at_ (by omega);injection e with e
  injection e with e
  omega
 obtain ⟨W3, hW3⟩ : ∃ W3, W3 = (W2.alloc (Obj.cells #[.int .i64 n, .slice (some ⟨w1.heap.size, 0, none⟩) n n] 26)) := ⟨_, rfl⟩;have hb3 : Below W2.heap.size W2 W3 := by rw [hW3]; exact br_.alloc nr_ _
 have HO3 : Hid (Own W3 w1.heap.size (w1.heap.size + 1) 3 1 (some ⟨w1.heap.size, 0, none⟩) n n (fun j => .int .i64 (iK r s 0 0 j : Nat))) := (hO2.keepB hb3 hz2).congr fun j _ => by rw [iK_zero]; rfl
 have HU3 : Hid (GC W3 W2.heap.size n (some ⟨w1.heap.size, 0, none⟩) n n) := by rw [hW3]; exact GC.new _ _ _ _ _
 have HR3 : Hid (Below w1.heap.size w1 W3) := hb2.trans (hb3.mono (by omega));have HW3 := hh_ hW3;clear hW3 hb3 hb2 hO2;go_wp2_with fail
 rw [← HW3.out];clear HW3 hmk e0 e1;go_loopw [21] (fun iv wr => ∃ i : Nat, i ≤ n ∧ iv = .int .i64 i ∧ Hid (Own wr w1.heap.size (w1.heap.size + 1) 3 1 (some ⟨w1.heap.size, 0, none⟩) n n (fun j => .int .i64 (iK r s i 0 j : Nat))) ∧ Hid (GC wr W2.heap.size n (some ⟨w1.heap.size, 0, none⟩) n n) ∧ Hid (Below w1.heap.size w1 wr)) (fun iv _ => n - (intOf iv).toNat);case atStart => exact ⟨0, Nat.zero_le _, rfl, HO3, HU3, HR3⟩
 case round =>
  clear HO3 HU3 HR3;obtain ⟨i, hi, rfl, HO, HU, HR⟩ := hrel;by_cases hin : i < n
  ·have i1 : (i : Int) < n := by omega
   have HLr := hh_ (HL.keep HR.out);obtain ⟨b5, o5, rfl⟩ := HL.ln.addr (by rw [← Hn.out]; omega);have p0 := HLr.ln.at (j := i) (by rw [← Hn.out]; omega);rw [Hat.out i (by rw [← Hn.out]; omega)] at p0;obtain ⟨y, hy⟩ : ∃ y, y = lsN s i := ⟨_, rfl⟩;have hym : y < m := by rw [hy]; exact Hls.out i (by rw [← Hn.out]; omega)
   rw [← hy] at p0;have Hy := hh_ hy;clear hy HLr;go_wp2;go_loopw [28] (fun kv wr => ∃ k : Nat, k ≤ n ∧ kv = .int .i64 k ∧ Hid (Own wr w1.heap.size (w1.heap.size + 1) 3 1 (some ⟨w1.heap.size, 0, none⟩) n n (fun j => .int .i64 (iK r s i k j : Nat))) ∧ Hid (GC wr W2.heap.size n (some ⟨w1.heap.size, 0, none⟩) n n) ∧ Hid (Below w1.heap.size w1 wr)) (fun kv _ => n - (intOf kv).toNat);case atStart => exact ⟨0, Nat.zero_le _, rfl, HO, HU, HR⟩
   case round =>
    clear HO HU HR p0;obtain ⟨k, hk, rfl, HO, HU, HR⟩ := hrel;by_cases hkn : k < n
    ·have i2 : (k : Int) < n := by omega
     have HLr := hh_ (HL.keep HR.out);have p1 := HLr.ln.at (j := k) (by rw [← Hn.out]; omega);rw [Hat.out k (by rw [← Hn.out]; omega)] at p1;obtain ⟨u, hu⟩ : ∃ u, u = lsN s k := ⟨_, rfl⟩;have hum : u < m := by rw [hu]; exact Hls.out k (by rw [← Hn.out]; omega)
     rw [← hu] at p1;have HGr := hh_ (HG.keep HR.out);have e0 := HGr.c0;have e1 := HGr.c1;have q0 := HGr.gv.row hym;have hr := HV.lt128 hym;have hbit : (r (lsN s i)).testBit (lsN s k) = (r y).testBit u := by rw [Hy.out, hu]
     obtain ⟨x, hx⟩ : ∃ x, x = r y := ⟨_, rfl⟩;rw [← hx] at q0 hr hbit;have i3 : (y : Int) < m := by omega
     clear hu hx HLr HGr;cases hb : x.testBit u
     ·have K1 := hh_ (has_q hr (by omega) hb wr);have HO' : Hid (Own wr w1.heap.size (w1.heap.size + 1) 3 1 (some ⟨w1.heap.size, 0, none⟩) n n (fun j => .int .i64 (iK r s i (k + 1) j : Nat))) := HO.congr fun j _ => by rw [iK_no (hbit.trans hb)]
      clear hb hbit;go_wp2_with fail
      refine K1.mono ?_;rintro e wr ⟨rfl, rfl⟩;go_wp2;go_roundw;case rel => exact ⟨k + 1, by omega, by go_num, HO', HU, HR⟩
      case measure => (simp [intOf] <;> omega)
     ·have K1 := hh_ (has_q hr (by omega) hb wr);have Hst : Hid (∀ j, iK r s i (k + 1) j = if j = i then iK r s i k i ||| 2 ^ k else iK r s i k j) := iK_yes (hbit.trans hb);clear hb hbit;go_wp2_with fail
      refine K1.mono ?_;rintro e wr ⟨rfl, rfl⟩;obtain ⟨_, ea, _, _, _, h1, h2⟩ := HO.at_ (by omega);simp only [Option.some.injEq, Addr.mk.injEq, and_true] at ea;subst ea;have q1 := h1 i (by omega);have f1 := h2 i;have hcl : iK r s i k i < 2 ^ k := by rw [iK_at]; exact bmK_lt k
      have h2k := two_pow_le (n := k) (by omega);obtain ⟨z, hz⟩ : ∃ z, z = 2 ^ k := ⟨_, rfl⟩;have p2 : IntKind.i64.wrap ((2 : Int) ^ k) = (z : Int) := by rw [pow_shl k (by omega), hz]; simp
      obtain ⟨cc, hcc⟩ : ∃ cc, cc = iK r s i k i := ⟨_, rfl⟩;obtain ⟨t, ht⟩ : ∃ t, t = cc ||| z := ⟨_, rfl⟩;have E2 : bits .or .i64 (cc : Int) (z : Int) = t := by rw [ht]; exact i64_or_nat _ _ (by omega) (by omega)
      have HO' : Hid (Own (wr.setCell ⟨w1.heap.size, i, none⟩ (.int .i64 (t : Nat))).drew w1.heap.size (w1.heap.size + 1) 3 1 (some ⟨w1.heap.size, 0, none⟩) n n (fun j => .int .i64 (iK r s i (k + 1) j : Nat))) := ((HO.set_ i _).drew).congr fun j _ => by
       rw [Hst.out];by_cases e : j = i
       ·rw [if_pos e, if_pos e, ht, hcc, hz]
       ·rw [if_neg e, if_neg e]
      rw [← hcc] at q1;have d0 := HU.c0;have d1 := HU.c1;have F : Hid (Fr w1.heap.size (w1.heap.size + 1) wr (wr.setCell ⟨w1.heap.size, i, none⟩ (.int .i64 (t : Nat))).drew) := ((Fr.refl _ _ wr).setCell (p := ⟨w1.heap.size, i, none⟩) nr_ (Nat.lt_succ_self _) _).drew;have HU' : Hid (GC (wr.setCell ⟨w1.heap.size, i, none⟩ (.int .i64 (t : Nat))).drew W2.heap.size n (some ⟨w1.heap.size, 0, none⟩) n n) := HU.keepF F.out (.inr hz2);have HR' : Hid (Below w1.heap.size w1 (wr.setCell ⟨w1.heap.size, i, none⟩ (.int .i64 (t : Nat))).drew) := (HR.setCell (p := ⟨w1.heap.size, i, none⟩) nr_ _).drew;clear h1 h2 hz ht hcc hcl h2k e0 e1 q0 p1 K1 F;go_wp2;go_region
      clear q1 f1 p2 E2 d0 d1;go_wp2;go_roundw;case rel => exact ⟨k + 1, by omega, by go_num, HO', HU', HR'⟩
      case measure => (simp [intOf] <;> omega)
    ·obtain rfl : n = k := by omega
     have HO' : Hid (Own wr w1.heap.size (w1.heap.size + 1) 3 1 (some ⟨w1.heap.size, 0, none⟩) n n (fun j => .int .i64 (iK r s (i + 1) 0 j : Nat))) := HO.congr fun j _ => by
      have := Hnx.out i j;rw [← Hn.out] at this;rw [this]
     go_wp2;go_roundw;case rel => exact ⟨i + 1, by omega, by go_num, HO', HU, HR⟩
     case measure => (simp [intOf] <;> omega)
  ·obtain rfl : n = i := by omega
   have e0 := HU.c0;have e1 := HU.c1;have HQr := hh_ (HQ.keep HR.out);have d0 := HQr.c0;have d1 := HQr.c1;have d2 := HQr.f0;have d3 := HQr.f1;have F := fr2 wr (w.heap.size + 1) (.int .i64 (n : Int)) (.slice (some ⟨w1.heap.size, 0, none⟩) n n);have hz1 := HB.below.size;have hq1 := HQ.lt;have HBz : Hid (From w wr) := ⟨HB.below.trans (HR.mono hz1)⟩;have HE := (HBz.set (q := w.heap.size + 1) (Nat.le_succ _) (.int .i64 (n : Int)) (.slice (some ⟨w1.heap.size, 0, none⟩) n n)).below;have hgl := HU.lt;have HOE := (HO.keep F (.inr (by omega))).mono (by omega : w.heap.size ≤ w1.heap.size) (Nat.le_trans (show w1.heap.size + 1 ≤ wr.heap.size by omega) F.size);have HOF : Hid (Own ((wr.setCell ⟨w.heap.size + 1, 0, none⟩ (.int .i64 (n : Int))).setCell ⟨w.heap.size + 1, 1, none⟩ (.slice (some ⟨w1.heap.size, 0, none⟩) n n)) w.heap.size ((wr.setCell ⟨w.heap.size + 1, 0, none⟩ (.int .i64 (n : Int))).setCell ⟨w.heap.size + 1, 1, none⟩ (.slice (some ⟨w1.heap.size, 0, none⟩) n n)).heap.size 3 1 (some ⟨w1.heap.size, 0, none⟩) n n (fun j => .int .i64 (inR r s j : Nat))) := HOE.congr fun j hj => by
    have := Hfin.out j (by rw [← Hn.out]; omega);rw [← Hn.out] at this;rw [this]
   clear HOE;go_wp2;exact bodyPost_ret (v := .agg #[.int .i64 (n : Int), .slice (some ⟨w1.heap.size, 0, none⟩) n n]) (by simp [results, Tryz.results136, go_sem, *]) rfl ⟨some ⟨w1.heap.size, 0, none⟩, n, by rw [← Hn.out], by rw [← Hn.out]; exact HOF.out, HE⟩
theorem ind_gv {A' : Option Addr} {m c' : Nat} {r : Nat → Nat} {s lo hi : Nat} {w' : World} (vg : VG m r) (hs : s < 2 ^ m) (h0 : s ≠ 0) (h : Own w' lo hi 3 1 A' (cn s) c' (fun j => .int .i64 (inR r s j : Nat))) (hhi : hi ≤ w'.heap.size) : GV w' A' (cn s) c' (inR r s) := by
 exact ⟨inR_vg vg hs h0, h.rd.keep br_ hhi⟩
end Go.Proofs.YticadlkcjhglnaaGreat
