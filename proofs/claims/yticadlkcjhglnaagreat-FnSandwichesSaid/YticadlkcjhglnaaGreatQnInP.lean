/-
  Several texts in one.
-/
import Derived.Test.YticadlkcjhglnaaGreatQnGB
import Derived.Test.YticadlkcjhglnaaGreatQnOptS
import Derived.Test.YticadlkcjhglnaaGreatQnWgtS
import Derived.Test.YticadlkcjhglnaaGreatQnColP
import Derived.Test.YticadlkcjhglnaaGreatQnListS
/-
-/
namespace Go.Proofs.YticadlkcjhglnaaGreat
open Go.RowKit
def sl (n : Nat) (x : Nat → Int) (m : Nat) (y : Nat → Int) : Bool := decide (n = m ∧ ∀ i, i < n → x i = y i)
theorem sl_len {n m : Nat} {x y : Nat → Int} (h : n ≠ m) : sl n x m y = false := by
 unfold sl; exact decide_eq_false fun k => h k.1
theorem sl_no {n : Nat} {x y : Nat → Int} {k : Nat} (hk : k < n) (h : x k ≠ y k) : sl n x n y = false := by
 unfold sl; exact decide_eq_false fun q => h (q.2 k hk)
theorem sl_yes {n : Nat} {x y : Nat → Int} (h : ∀ i, i < n → x i = y i) : sl n x n y = true := by
 unfold sl; exact decide_eq_true ⟨rfl, h⟩
theorem sl_list (l l' : List Int) : sl l.length (fun i => l.getD i 0) l'.length (fun i => l'.getD i 0) = decide (l = l') := by
 unfold sl
 refine decide_eq_decide.2 ⟨fun ⟨h1, h2⟩ => List.ext_getElem h1 fun i hi hi' => ?_, fun h => by subst h; exact ⟨rfl, fun _ _ => rfl⟩⟩
 have := h2 i hi
 simpa [List.getD, hi, hi'] using this
end Go.Proofs.YticadlkcjhglnaaGreat

/-
-/
namespace Go.Proofs.YticadlkcjhglnaaGreat
open Go.RowKit
def gsl (s : Int) (n : Nat) (x : Nat → Int) (t : Int) (m : Nat) (y : Nat → Int) : Bool := decide (s = t) && sl n x m y
theorem gsl_sz {s t : Int} {n m : Nat} {x y : Nat → Int} (h : s ≠ t) : gsl s n x t m y = false := by
 unfold gsl; rw [decide_eq_false h]; rfl
theorem gsl_rows {s : Int} {n m : Nat} {x y : Nat → Int} : gsl s n x s m y = sl n x m y := by
 unfold gsl; rw [decide_eq_true rfl]; rfl
set_option maxHeartbeats 1000000 in
theorem EqualGraphs_s (s1 s2 : Int) (A1 A2 : Option Addr) (n1 n2 c1 c2 : Nat) (x1 x2 : Nat → Int) (w : World) (B : Nat) (h1 : Rd w B A1 n1 c1 x1) (h2 : Rd w B A2 n2 c2 x2) (hB : B ≤ w.heap.size) (hn1 : n1 ≤ 1073741824) (hn2 : n2 ≤ 1073741824) :
 Calls Tryz.prog 12 #[.agg #[.int .i64 s1, .slice A1 n1 c1], .agg #[.int .i64 s2, .slice A2 n2 c2]] w fun e w' => e = .returned (.bool (gsl s1 n1 x1 s2 n2 x2)) ∧ Below w.heap.size w w' := by
 obtain ⟨W, hW⟩ : ∃ W : World, W = ((w.alloc (Obj.cells #[Value.int IntKind.i64 s1, Value.slice A1 n1 c1] 26)).alloc (Obj.cells #[Value.int IntKind.i64 s2, Value.slice A2 n2 c2] 26)) := ⟨_, rfl⟩
 have HB : Hid (Below w.heap.size w W) := by rw [hW]; exact ((Below.refl _ _).alloc (Nat.le_refl _) _).alloc (by simp) _
 have hWz : W.heap.size = w.heap.size + 1 + 1 := by rw [hW]; simp
 have g1 : W.cell? ⟨w.heap.size, 1, none⟩ = some (.slice A1 n1 c1) := by rw [hW]; simp [go_sem]
 have g2 : W.cell? ⟨w.heap.size + 1, 1, none⟩ = some (.slice A2 n2 c2) := by rw [hW]; simp [go_sem]
 by_cases hs : s1 = s2
 rotate_left
 ·have e := Lib.hid (gsl_sz (n := n1) (m := n2) (x := x1) (y := x2) hs)
  have HW := Lib.hid hW
  clear h1 h2 g1 g2 hW hWz
  go_enter Tryz.func12, Tryz.ntmps12
  go_wp2
  go_ret
  rw [← HW.out]
  exact ⟨ret_bool e.out.symm, HB.out⟩
 subst hs
 rw [gsl_rows]
 by_cases hne : n1 = n2
 rotate_left
 ·have e := Lib.hid (sl_len (x := x1) (y := x2) hne)
  have hne' : (n1 : Int) ≠ (n2 : Int) := by omega
  have HW := Lib.hid hW
  clear h1 h2 g1 g2 hW hWz
  go_enter Tryz.func12, Tryz.ntmps12
  go_wp2
  go_ret
  rw [← HW.out]
  exact ⟨ret_bool e.out.symm, HB.out⟩
 subst hne
 have H1 := Lib.hid h1
 have H2 := Lib.hid h2
 have G1 := Lib.hid g1
 have G2 := Lib.hid g2
 have HW := Lib.hid hW
 clear h1 h2 g1 g2 hW
 go_enter Tryz.func12, Tryz.ntmps12
 go_wp2
 rw [← HW.out]
 go_loopw [5] (fun i wr => ∃ k : Nat, k ≤ n1 ∧ i = .int .i64 k ∧ Hid (∀ j, j < k → x1 j = x2 j) ∧ Below W.heap.size W wr) (fun i _ => n1 - (intOf i).toNat)
 case atStart => exact ⟨0, Nat.zero_le _, rfl, (fun j hj => absurd hj (by omega)), Below.refl _ _⟩
 case round =>
  obtain ⟨k, hk, rfl, hall, hbr⟩ := hrel
  have q1 := up hbr G1.out (by omega)
  have q2 := up hbr G2.out (by omega)
  by_cases hlt : k < n1
  ·have hbw := HB.out.trans (hbr.mono HB.out.size)
   obtain ⟨b1, o1, rfl, l1, c1'⟩ := H1.out.pos (by omega)
   obtain ⟨b2, o2, rfl, l2, c2'⟩ := H2.out.pos (by omega)
   have f1 := (hbw.cell (p := ⟨b1, o1 + k, none⟩) (by show b1 < _; omega)).trans (c1' k hlt)
   have f2 := (hbw.cell (p := ⟨b2, o2 + k, none⟩) (by show b2 < _; omega)).trans (c2' k hlt)
   have hi : (k : Int) < (n1 : Int) := by omega
   clear c1' c2'
   by_cases hq : x1 k = x2 k
   ·have HB := Lib.hid hbr
    have Hq := Lib.hid hq
    rw [← hq] at f2
    clear hbr hq hbw
    go_wp2
    go_quiet (fail)
    go_wp2
    go_roundw
    case rel =>
     refine ⟨k + 1, by omega, by go_num, fun j hj => ?_, below_drewN HB.out _⟩
     by_cases hjk : j < k
     ·exact hall.out j hjk
     ·obtain rfl : j = k := by omega
      exact Hq.out
    case measure => simp [intOf]; omega
   ·have HBW := Lib.hid hbw
    have e := Lib.hid (sl_no hlt hq)
    clear hbr hbw
    go_wp2
    go_quiet (fail)
    go_wp2
    go_ret
    exact ⟨ret_bool e.out.symm, below_drewN HBW.out _⟩
  ·have hge : (n1 : Int) ≤ (k : Int) := by omega
   have HBW : Hid (Below w.heap.size w wr) := HB.out.trans (hbr.mono HB.out.size)
   have e := Lib.hid (sl_yes (n := n1) (x := x1) (y := x2) fun j hj => hall.out j (by omega))
   clear hbr
   go_wp2
   go_ret
   exact ⟨ret_bool e.out.symm, HBW.out⟩
end Go.Proofs.YticadlkcjhglnaaGreat

/-
-/
namespace Go.Proofs.YticadlkcjhglnaaGreat
open Go.RowKit
def bmK (P : Nat → Bool) : Nat → Nat
 | 0 => 0
 | n + 1 => if P n = true then bmK P n ||| 2 ^ n else bmK P n
theorem bmK_bit {P : Nat → Bool} {i : Nat} : ∀ n, (bmK P n).testBit i = (decide (i < n) && P i) := by
 intro n
 induction n with
 | zero => simp [bmK]
 | succ n ih =>
   rw [bmK]
   by_cases h : P n = true
   ·rw [if_pos h, Nat.testBit_or, ih, Nat.testBit_two_pow]
    by_cases e : n = i
    ·subst e; simp [h]
    ·by_cases e2 : i < n
     ·simp [e, e2, show i < n + 1 by omega]
     ·simp [e, e2, show ¬ i < n + 1 by omega]
   ·rw [if_neg h, ih]
    by_cases e : i = n
    ·subst e; simp [h]
    ·by_cases e2 : i < n
     ·simp [e2, show i < n + 1 by omega]
     ·simp [e2, show ¬ i < n + 1 by omega]
theorem bmK_lt {P : Nat → Bool} : ∀ n, bmK P n < 2 ^ n := by
 intro n
 induction n with
 | zero => exact Nat.one_pos
 | succ n ih =>
   have h1 : 2 ^ n < 2 ^ (n + 1) := Nat.pow_lt_pow_right (by omega) (Nat.lt_succ_self _)
   rw [bmK]
   split
   ·exact Nat.or_lt_two_pow (by omega) h1
   ·omega
end Go.Proofs.YticadlkcjhglnaaGreat

/-
-/
namespace Go.Proofs.YticadlkcjhglnaaGreat
open Go.RowKit
def lsN (s i : Nat) : Nat := (listN s).getD i 0
def inR (r : Nat → Nat) (s i : Nat) : Nat := bmK (fun k => (r (lsN s i)).testBit (lsN s k)) (cn s)
theorem lsN_at {s i : Nat} (hi : i < cn s) : (listN s)[i]'hi = lsN s i := by unfold lsN; rw [List.getD_eq_getElem?_getD, List.getElem?_eq_getElem (show i < (listN s).length from hi)]; rfl
theorem lsN_bit {s m i : Nat} (hs : s < 2 ^ m) (hi : i < cn s) : lsN s i < m ∧ s.testBit (lsN s i) = true := by
 have h := listN_at (s := s) (j := i) hi
 rw [lsN_at hi] at h
 exact ⟨bit_lt hs h.2, h.2⟩
theorem cn_one {s : Nat} (hs : s < 128) (h : s ≠ 0) : 1 ≤ cn s := by
 obtain ⟨v, l, e, _⟩ := list_ne hs h
 unfold cn; rw [e]; simp
theorem inR_vg {r : Nat → Nat} {m s : Nat} (vg : VG m r) (hs : s < 2 ^ m) (h0 : s ≠ 0) : VG (cn s) (inR r s) := by
 have h128 := two_pow_le vg.n7
 refine ⟨cn_one (by omega) h0, cn_le s, fun v _ => bmK_lt _, fun v hv => ?_, fun v w hv hw => ?_⟩
 ·unfold inR; rw [bmK_bit, vg.irr _ (lsN_bit hs hv).1]; simp
 ·unfold inR; rw [bmK_bit, bmK_bit, decide_eq_true hv, decide_eq_true hw, vg.sym _ _ (lsN_bit hs hv).1 (lsN_bit hs hw).1]
def iK (r : Nat → Nat) (s i k j : Nat) : Nat := if j < i then inR r s j else if j = i then bmK (fun q => (r (lsN s i)).testBit (lsN s q)) k else 0
theorem iK_zero (r : Nat → Nat) (s j : Nat) : iK r s 0 0 j = 0 := by
 unfold iK; rw [if_neg (by omega)]; split <;> rfl
theorem iK_next (r : Nat → Nat) (s i j : Nat) : iK r s i (cn s) j = iK r s (i + 1) 0 j := by
 unfold iK
 by_cases h1 : j < i
 ·rw [if_pos h1, if_pos (by omega)]
 ·by_cases h2 : j = i
  ·subst h2; rw [if_neg (by omega), if_pos rfl, if_pos (by omega)]; rfl
  ·rw [if_neg h1, if_neg h2, if_neg (by omega)]; split <;> rfl
theorem iK_end {r : Nat → Nat} {s j : Nat} (h : j < cn s) : iK r s (cn s) 0 j = inR r s j := by unfold iK; rw [if_pos h]
theorem iK_no {r : Nat → Nat} {s i k : Nat} (h : (r (lsN s i)).testBit (lsN s k) = false) (j : Nat) : iK r s i (k + 1) j = iK r s i k j := by
 have e : bmK (fun q => (r (lsN s i)).testBit (lsN s q)) (k + 1) = bmK (fun q => (r (lsN s i)).testBit (lsN s q)) k := by rw [bmK, if_neg (by rw [h]; simp)]
 unfold iK
 rw [e]
theorem iK_yes {r : Nat → Nat} {s i k : Nat} (h : (r (lsN s i)).testBit (lsN s k) = true) (j : Nat) : iK r s i (k + 1) j = if j = i then iK r s i k i ||| 2 ^ k else iK r s i k j := by
 have e : bmK (fun q => (r (lsN s i)).testBit (lsN s q)) (k + 1) = bmK (fun q => (r (lsN s i)).testBit (lsN s q)) k ||| 2 ^ k := by rw [bmK, if_pos h]
 unfold iK
 rw [e]
 by_cases h2 : j = i
 ·subst h2; simp
 ·rw [if_neg h2, if_neg h2, if_neg h2]
theorem iK_at {r : Nat → Nat} {s i k : Nat} : iK r s i k i = bmK (fun q => (r (lsN s i)).testBit (lsN s q)) k := by
 unfold iK; rw [if_neg (by omega), if_pos rfl]
def rwL (r : Nat → Nat) (s i : Nat) : List Nat := (List.range i).map (inR r s)
theorem rwL_len (r : Nat → Nat) (s i : Nat) : (rwL r s i).length = i := by unfold rwL; simp
theorem rwL_snoc (r : Nat → Nat) (s i : Nat) : rwL r s i ++ [inR r s i] = rwL r s (i + 1) := by unfold rwL; rw [List.range_succ, List.map_append]; rfl
theorem rwL_at {r : Nat → Nat} {s i j : Nat} (h : j < i) : (rwL r s i).getD j 0 = inR r s j := by unfold rwL; simp [List.getD, h]
def bmR (r : Nat → Nat) (s i k : Nat) : Nat := bmK (fun q => (r (lsN s i)).testBit (lsN s q)) k
theorem bmR_zero (r : Nat → Nat) (s i : Nat) : bmR r s i 0 = 0 := rfl
theorem bmR_all (r : Nat → Nat) (s i : Nat) : bmR r s i (cn s) = inR r s i := rfl
theorem bmR_lt (r : Nat → Nat) (s i k : Nat) : bmR r s i k < 2 ^ k := bmK_lt k
theorem bmR_no {r : Nat → Nat} {s i k : Nat} (h : (r (lsN s i)).testBit (lsN s k) = false) : bmR r s i (k + 1) = bmR r s i k := by
 unfold bmR; rw [bmK, if_neg (by rw [h]; simp)]
theorem bmR_yes {r : Nat → Nat} {s i k : Nat} (h : (r (lsN s i)).testBit (lsN s k) = true) : bmR r s i (k + 1) = bmR r s i k + 2 ^ k := by
 have : (bmR r s i k).testBit k = false := by unfold bmR; rw [bmK_bit]; simp
 rw [show bmR r s i (k + 1) = bmR r s i k ||| 2 ^ k by unfold bmR; rw [bmK, if_pos h], ← or_of_add this]
def pfB (r : Nat → Nat) (s : Nat) : Bool := !(s == 0) && decide (cn (lqN (inR r s) (cn s)) < chN (inR r s) (cn s))
theorem pfB_zero (r : Nat → Nat) : pfB r 0 = false := rfl
theorem pfB_not {r : Nat → Nat} {s : Nat} (h : s ≠ 0) : pfB r s = decide (cn (lqN (inR r s) (cn s)) < chN (inR r s) (cn s)) := by
 unfold pfB; simp [h]
theorem frK_congr {r q : Nat → Nat} {l : List Nat} {v c : Nat} (h : r v = q v) : ∀ j, frK r l v c j = frK q l v c j := by
 intro j
 induction j with
 | zero => rfl
 | succ j ih => rw [frK, frK, ih, h]
theorem colS_congr {r q : Nat → Nat} {k m : Nat} (h : ∀ v, v < m → r v = q v) : ∀ (j : Nat) (l : List Nat), l.length + j = m → colS r k j l = colS q k j l := by
 intro j
 induction j with
 | zero => intro l _; rfl
 | succ j ih =>
   intro l hl
   rw [colS, colS]
   congr 1
   funext c
   rw [frK_congr (h _ (by omega)), ih (l ++ [c]) (by rw [List.length_append]; simp; omega)]
theorem chN_congr {r q : Nat → Nat} {m : Nat} (h : ∀ v, v < m → r v = q v) : chN r m = chN q m := by
 have e : (fun k => (cOf r m (k + 1)).isSome) = fun k => (cOf q m (k + 1)).isSome := by
  funext k
  unfold cOf
  rw [colS_congr h m [] (by simp)]
 unfold chN
 rw [e]
theorem lgK_congr {p q : Nat → Bool} : ∀ k, (∀ s, s < k → p s = q s) → lgK p k = lgK q k := by
 intro k
 induction k with
 | zero => intro _; rfl
 | succ k ih =>
   intro h
   rw [lgK, lgK, ih fun s hs => h s (by omega), h k (by omega)]
theorem cliq_congr {r q : Nat → Nat} {m s : Nat} (h : ∀ v, v < m → r v = q v) (hs : s < 2 ^ m) : cliq r s = cliq q s := by
 unfold cliq
 rw [Bool.eq_iff_iff, List.all_eq_true, List.all_eq_true]
 constructor
 ·intro a v hv
  rw [← h v (bit_lt hs (mem_listN.1 hv).2)]
  exact a v hv
 ·intro a v hv
  rw [h v (bit_lt hs (mem_listN.1 hv).2)]
  exact a v hv
theorem lqN_congr {r q : Nat → Nat} {m : Nat} (h : ∀ v, v < m → r v = q v) : lqN r m = lqN q m := lgK_congr _ fun _ hs => cliq_congr h hs
def pP (v w : Nat) : Nat := if v < w then (if v = 0 then w - 1 else v + w) else (if w = 0 then v - 1 else v + w)
def gC (c n v : Nat) : Nat := bmK (fun w => !(v == w) && c.testBit (pP v w)) n
theorem small_table : ∀ n, n < 4 → ∀ c, c < 64 → chN (gC c (n + 1)) (n + 1) ≤ cn (lqN (gC c (n + 1)) (n + 1)) := by decide +kernel
theorem small_fit {n : Nat} {r : Nat → Nat} (vg : VG n r) (h : n ≤ 4) : ∃ c, c < 64 ∧ ∀ v, v < n → r v = gC c n v := by
 refine ⟨bmK (fun i => match i with | 0 => (r 0).testBit 1 | 1 => (r 0).testBit 2 | 2 => (r 0).testBit 3 | 3 => (r 1).testBit 2 | 4 => (r 1).testBit 3 | _ => (r 2).testBit 3) 6, bmK_lt 6, fun v hv => ?_⟩
 apply Nat.eq_of_testBit_eq
 intro w
 unfold gC
 rw [bmK_bit, bmK_bit]
 by_cases hw : w < n
 ·rw [decide_eq_true hw, Bool.true_and]
  have hv4 : v = 0 ∨ v = 1 ∨ v = 2 ∨ v = 3 := by omega
  have hw4 : w = 0 ∨ w = 1 ∨ w = 2 ∨ w = 3 := by omega
  have hi := vg.irr v hv
  have hs := vg.sym v w hv hw
  rcases hv4 with rfl | rfl | rfl | rfl <;> rcases hw4 with rfl | rfl | rfl | rfl <;> first | exact hi | (simp [pP]; done) | (simp [pP, hs]; done)
 ·rw [decide_eq_false hw, Bool.false_and]
  cases hb : (r v).testBit w
  ·rfl
  ·exact absurd (bit_lt (vg.lt v hv) hb) hw
theorem small_perfect {n : Nat} {r : Nat → Nat} (vg : VG n r) (h : n ≤ 4) : chN r n ≤ cn (lqN r n) := by
 obtain ⟨c, hc, e⟩ := small_fit vg h
 have n1 := vg.n1
 rw [chN_congr e, lqN_congr e]
 have := small_table (n - 1) (by omega) c hc
 rwa [show n - 1 + 1 = n by omega] at this
theorem pfB_small {r : Nat → Nat} {m s : Nat} (vg : VG m r) (hs : s < 2 ^ m) (h0 : s ≠ 0) (h : cn s ≤ 4) : pfB r s = false := by
 rw [pfB_not h0]
 have := small_perfect (inR_vg vg hs h0) h
 exact decide_eq_false (by omega)
end Go.Proofs.YticadlkcjhglnaaGreat
