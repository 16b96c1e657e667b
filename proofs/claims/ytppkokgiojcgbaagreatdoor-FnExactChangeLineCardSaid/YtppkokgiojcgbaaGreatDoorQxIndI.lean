/-
  Several texts in one.
-/
import Derived.Test.YtppkokgiojcgbaaGreatDoorQxColI
import Derived.Test.YtppkokgiojcgbaaGreatDoorQxSet2I
import Derived.Test.YtppkokgiojcgbaaGreatDoorQxJoinI
import Derived.Test.YtppkokgiojcgbaaGreatDoorQxSimP
import Derived.Test.YtppkokgiojcgbaaGreatDoorQxUmbS
import Derived.Test.YtppkokgiojcgbaaGreatDoorQxGB
import Derived.Test.YtppkokgiojcgbaaGreatDoorQxFmS
import Derived.Test.YtppkokgiojcgbaaGreatDoorQxColP
import Derived.Test.YtppkokgiojcgbaaGreatDoorQxListS
import Derived.Test.YtppkokgiojcgbaaGreatDoorQxLater
/-
-/
namespace Go.Proofs.YtppkokgiojcgbaaGreatDoor
open Go.RowKit
section
variable {A : Option Addr} {m c : Nat} {r : Nat → Nat}
set_option maxHeartbeats 1000000 in
theorem LargestClique_v {w : World} (h : GV w A m c r) :
 Calls Tryz.prog 274 #[.agg #[.int .i64 m, .slice A m c]] w fun e w' => e = .returned (.int .i64 (lqN r m : Nat)) ∧ Below w.heap.size w w' := by
 obtain ⟨W, hW⟩ : ∃ W : World, W = (w.alloc (Obj.cells #[Value.int IntKind.i64 m, Value.slice A m c] 29)) := ⟨_, rfl⟩
 have HB : Hid (From w W) := by rw [hW]; exact From.alloc _ _
 have HG : Hid (GBox W w.heap.size A m c r) := by rw [hW]; exact h.box
 have HW := Lib.hid hW
 clear hW h
 have e0 := HG.out.c0
 have e1 := HG.out.c1
 go_enter Tryz.func274, Tryz.ntmps274
 go_wp2_with fail
 rw [← HW.out]
 refine (largest_g (p := cliq r) (caps := #[]) (ent_of Tryz.func270 (by kernel_rfl) rfl) W HG.out.gv (fun s z hs hb => IsClique_v (HG.out.gv.keep hb) hs)).mono ?_
 rintro e w1 ⟨rfl, hb1⟩
 clear HW
 clear e0 e1
 replace HB := Lib.hid (HB.out.keep hb1)
 replace HG := Lib.hid (HG.out.keep hb1)
 clear hb1
 have e0 := HG.out.c0
 have e1 := HG.out.c1
 go_wp2
 go_ret
 exact ⟨rfl, HB.out.below⟩
set_option maxHeartbeats 1000000 in
theorem CliqueNumber_v {w : World} (h : GV w A m c r) :
 Calls Tryz.prog 241 #[.agg #[.int .i64 m, .slice A m c]] w fun e w' => e = .returned (.int .i64 (cn (lqN r m) : Nat)) ∧ Below w.heap.size w w' := by
 have hl : lqN r m < 128 := Nat.lt_of_lt_of_le (lq_lt r m) (two_pow_le h.vg.n7)
 obtain ⟨W, hW⟩ : ∃ W : World, W = (w.alloc (Obj.cells #[Value.int IntKind.i64 m, Value.slice A m c] 29)) := ⟨_, rfl⟩
 have HB : Hid (From w W) := by rw [hW]; exact From.alloc _ _
 have HG : Hid (GBox W w.heap.size A m c r) := by rw [hW]; exact h.box
 have HW := Lib.hid hW
 clear hW h
 have e0 := HG.out.c0
 have e1 := HG.out.c1
 go_enter Tryz.func241, Tryz.ntmps241
 go_wp2_with fail
 rw [← HW.out]
 refine (IsGraph_v HG.out.gv).mono ?_
 rintro e w1 ⟨rfl, hb1⟩
 clear HW
 clear e0 e1
 replace HB := Lib.hid (HB.out.keep hb1)
 replace HG := Lib.hid (HG.out.keep hb1)
 clear hb1
 have e0 := HG.out.c0
 have e1 := HG.out.c1
 go_wp2_with fail
 refine (LargestClique_v HG.out.gv).mono ?_
 rintro e w2 ⟨rfl, hb2⟩
 clear e0 e1
 replace HB := Lib.hid (HB.out.keep hb2)
 replace HG := Lib.hid (HG.out.keep hb2)
 clear hb2
 have e0 := HG.out.c0
 have e1 := HG.out.c1
 go_wp2_with fail
 refine (CountSet_v (lqN r m) hl _).mono ?_
 rintro e w3 ⟨rfl, hb3⟩
 clear e0 e1
 replace HB := Lib.hid (HB.out.keep hb3)
 replace HG := Lib.hid (HG.out.keep hb3)
 clear hb3
 have e0 := HG.out.c0
 have e1 := HG.out.c1
 go_wp2
 go_ret
 exact ⟨rfl, HB.out.below⟩
set_option maxRecDepth 100000 in
set_option maxHeartbeats 1600000 in
theorem ChromaticNumber_v {w : World} (h : GV w A m c r) :
 Calls Tryz.prog 240 #[.agg #[.int .i64 m, .slice A m c]] w fun e w' => e = .returned (.int .i64 (chN r m : Nat)) ∧ Below w.heap.size w w' := by
 have hn7 := h.vg.n7
 have hn1 := h.vg.n1
 obtain ⟨hcm, hsome, hmin⟩ := chN_spec (r := r) hn1
 have hpos := chN_pos (r := r) (m := m)
 have HS := Lib.hid hsome
 have HM := Lib.hid hmin
 obtain ⟨K, hK⟩ : ∃ K, K = chN r m := ⟨_, rfl⟩
 rw [← hK] at hcm HS HM hpos ⊢
 clear hsome hmin hK
 obtain ⟨W, hW⟩ : ∃ W : World, W = (w.alloc (Obj.cells #[Value.int IntKind.i64 m, Value.slice A m c] 29)) := ⟨_, rfl⟩
 have HB : Hid (From w W) := by rw [hW]; exact From.alloc _ _
 have HG : Hid (GBox W w.heap.size A m c r) := by rw [hW]; exact h.box
 have HW := Lib.hid hW
 clear hW h
 have e0 := HG.out.c0
 have e1 := HG.out.c1
 have HR0 : Hid (From W W) := From.refl W
 go_enter Tryz.func240, Tryz.ntmps240
 go_wp2_with fail
 rw [← HW.out]
 go_wp2
 go_loopw [3] (fun i wr => ∃ k : Nat, 1 ≤ k ∧ k ≤ K ∧ i = .int .i64 k ∧ Hid (From W wr)) (fun i _ => K - (intOf i).toNat)
 case atStart => exact ⟨1, Nat.le_refl _, hpos, rfl, HR0⟩
 case round =>
  clear HR0
  obtain ⟨k, hk1, hk, rfl, HR⟩ := hrel
  clear e0 e1
  replace HB := Lib.hid (HB.out.keep HR.out.below)
  replace HG := Lib.hid (HG.out.keep HR.out.below)
  have e0 := HG.out.c0
  have e1 := HG.out.c1
  have i1 : (k : Int) ≤ 7 := by omega
  cases hs : (cOf r m k).isSome
  ·have hlt : k < K := by
    by_cases e : k = K
    ·subst e; rw [HS.out] at hs; cases hs
    ·omega
   have Hs := Lib.hid hs
   clear hs
   go_wp2_with fail
   refine (ColoringWith_v HG.out.gv hk1 (by omega)).mono ?_
   rintro e w5 ⟨A5, n5, c5, rfl, _, hb5⟩
   rw [Hs.out]
   clear e0 e1
   replace HB := Lib.hid (HB.out.keep hb5)
   replace HG := Lib.hid (HG.out.keep hb5)
   replace HR := Lib.hid (HR.out.keep hb5)
   clear hb5
   have e0 := HG.out.c0
   have e1 := HG.out.c1
   go_wp2
   go_roundw
   case rel => exact ⟨k + 1, by omega, by omega, by go_num, HR⟩
   case measure => (simp [intOf] <;> omega)
  ·have hKe : k = K := by
    by_cases e : k < K
    ·rw [HM.out k hk1 e] at hs; cases hs
    ·omega
   have Hs := Lib.hid hs
   have HKe := Lib.hid hKe
   clear hs hKe
   go_wp2_with fail
   refine (ColoringWith_v HG.out.gv hk1 (by omega)).mono ?_
   rintro e w5 ⟨A5, n5, c5, rfl, _, hb5⟩
   rw [Hs.out]
   clear e0 e1
   replace HB := Lib.hid (HB.out.keep hb5)
   replace HG := Lib.hid (HG.out.keep hb5)
   replace HR := Lib.hid (HR.out.keep hb5)
   clear hb5
   have e0 := HG.out.c0
   have e1 := HG.out.c1
   go_wp2
   go_ret
   exact ⟨ret_int (by rw [HKe.out]), HB.out.below⟩
end
end Go.Proofs.YtppkokgiojcgbaaGreatDoor

/-
-/
namespace Go.Proofs.YtppkokgiojcgbaaGreatDoor
open Go.RowKit
section
variable {A : Option Addr} {m c : Nat} {r : Nat → Nat}
theorem made_own (w : World) (n : Nat) (hn : n ≤ 1048576) : ∃ W : World, (Instr.makeSlice 22 (.int .i64 (n : Int)) (.int .i64 (n : Int))).run Tryz.prog w = .ok (.slice (some ⟨w.heap.size, 0, none⟩) n n) W ∧ Own W w.heap.size (w.heap.size + 1) 3 1 (some ⟨w.heap.size, 0, none⟩) n n (fun _ => .int .i64 0) ∧ Below w.heap.size w W := by
 refine ⟨_, run_make_row' (P := Tryz.prog) 22 3 (.int .i64 0) 8 Tryz.underlying22 info_int rfl .i64 .i64 n (by omega) (by omega) w, ?_, (Below.refl _ _).alloc (Nat.le_refl _) _⟩
 obtain ⟨cc, q1, q2, q3⟩ := World.rowIs_made w (.int .i64 0) n 3
 exact .inr ⟨_, cc, rfl, Nat.le_refl _, Nat.lt_succ_self _, q1, Nat.le_refl _, by unfold maxLen; omega, by omega, fun j hj => by rw [q3 j (by omega)]⟩
end
end Go.Proofs.YtppkokgiojcgbaaGreatDoor

/-
-/
namespace Go.Proofs.YtppkokgiojcgbaaGreatDoor
open Go.RowKit
def bmK (P : Nat → Bool) : Nat → Nat
 | 0 => 0
 | n + 1 => if P n = true then bmK P n ||| 2 ^ n else bmK P n
theorem bmK_bit {P : Nat → Bool} {i : Nat} : ∀ n, (bmK P n).testBit i = (decide (i < n) && P i) := by
 intro n
 induction n with
 | zero => simp [bmK]
 | succ n ih =>
   rw [bmK]
   by_cases h : P n = true
   ·rw [if_pos h, Nat.testBit_or, ih, Nat.testBit_two_pow]
    by_cases e : n = i
    ·subst e; simp [h]
    ·by_cases e2 : i < n
     ·simp [e, e2, show i < n + 1 by omega]
     ·simp [e, e2, show ¬ i < n + 1 by omega]
   ·rw [if_neg h, ih]
    by_cases e : i = n
    ·subst e; simp [h]
    ·by_cases e2 : i < n
     ·simp [e2, show i < n + 1 by omega]
     ·simp [e2, show ¬ i < n + 1 by omega]
theorem bmK_lt {P : Nat → Bool} : ∀ n, bmK P n < 2 ^ n := by
 intro n
 induction n with
 | zero => exact Nat.one_pos
 | succ n ih =>
   have h1 : 2 ^ n < 2 ^ (n + 1) := Nat.pow_lt_pow_right (by omega) (Nat.lt_succ_self _)
   rw [bmK]
   split
   ·exact Nat.or_lt_two_pow (by omega) h1
   ·omega
end Go.Proofs.YtppkokgiojcgbaaGreatDoor

/-
-/
namespace Go.Proofs.YtppkokgiojcgbaaGreatDoor
open Go.RowKit
def lsN (s i : Nat) : Nat := (listN s).getD i 0
def inR (r : Nat → Nat) (s i : Nat) : Nat := bmK (fun k => (r (lsN s i)).testBit (lsN s k)) (cn s)
theorem lsN_at {s i : Nat} (hi : i < cn s) : (listN s)[i]'hi = lsN s i := by unfold lsN; rw [List.getD_eq_getElem?_getD, List.getElem?_eq_getElem (show i < (listN s).length from hi)]; rfl
theorem lsN_bit {s m i : Nat} (hs : s < 2 ^ m) (hi : i < cn s) : lsN s i < m ∧ s.testBit (lsN s i) = true := by
 have h := listN_at (s := s) (j := i) hi
 rw [lsN_at hi] at h
 exact ⟨bit_lt hs h.2, h.2⟩
theorem cn_one {s : Nat} (hs : s < 128) (h : s ≠ 0) : 1 ≤ cn s := by
 obtain ⟨v, l, e, _⟩ := list_ne hs h
 unfold cn; rw [e]; simp
theorem inR_vg {r : Nat → Nat} {m s : Nat} (vg : VG m r) (hs : s < 2 ^ m) (h0 : s ≠ 0) : VG (cn s) (inR r s) := by
 have h128 := two_pow_le vg.n7
 refine ⟨cn_one (by omega) h0, cn_le s, fun v _ => bmK_lt _, fun v hv => ?_, fun v w hv hw => ?_⟩
 ·unfold inR; rw [bmK_bit, vg.irr _ (lsN_bit hs hv).1]; simp
 ·unfold inR; rw [bmK_bit, bmK_bit, decide_eq_true hv, decide_eq_true hw, vg.sym _ _ (lsN_bit hs hv).1 (lsN_bit hs hw).1]
def iK (r : Nat → Nat) (s i k j : Nat) : Nat := if j < i then inR r s j else if j = i then bmK (fun q => (r (lsN s i)).testBit (lsN s q)) k else 0
theorem iK_zero (r : Nat → Nat) (s j : Nat) : iK r s 0 0 j = 0 := by
 unfold iK; rw [if_neg (by omega)]; split <;> rfl
theorem iK_next (r : Nat → Nat) (s i j : Nat) : iK r s i (cn s) j = iK r s (i + 1) 0 j := by
 unfold iK
 by_cases h1 : j < i
 ·rw [if_pos h1, if_pos (by omega)]
 ·by_cases h2 : j = i
  ·subst h2; rw [if_neg (by omega), if_pos rfl, if_pos (by omega)]; rfl
  ·rw [if_neg h1, if_neg h2, if_neg (by omega)]; split <;> rfl
theorem iK_end {r : Nat → Nat} {s j : Nat} (h : j < cn s) : iK r s (cn s) 0 j = inR r s j := by unfold iK; rw [if_pos h]
theorem iK_no {r : Nat → Nat} {s i k : Nat} (h : (r (lsN s i)).testBit (lsN s k) = false) (j : Nat) : iK r s i (k + 1) j = iK r s i k j := by
 have e : bmK (fun q => (r (lsN s i)).testBit (lsN s q)) (k + 1) = bmK (fun q => (r (lsN s i)).testBit (lsN s q)) k := by rw [bmK, if_neg (by rw [h]; simp)]
 unfold iK
 rw [e]
theorem iK_yes {r : Nat → Nat} {s i k : Nat} (h : (r (lsN s i)).testBit (lsN s k) = true) (j : Nat) : iK r s i (k + 1) j = if j = i then iK r s i k i ||| 2 ^ k else iK r s i k j := by
 have e : bmK (fun q => (r (lsN s i)).testBit (lsN s q)) (k + 1) = bmK (fun q => (r (lsN s i)).testBit (lsN s q)) k ||| 2 ^ k := by rw [bmK, if_pos h]
 unfold iK
 rw [e]
 by_cases h2 : j = i
 ·subst h2; simp
 ·rw [if_neg h2, if_neg h2, if_neg h2]
theorem iK_at {r : Nat → Nat} {s i k : Nat} : iK r s i k i = bmK (fun q => (r (lsN s i)).testBit (lsN s q)) k := by
 unfold iK; rw [if_neg (by omega), if_pos rfl]
def rwL (r : Nat → Nat) (s i : Nat) : List Nat := (List.range i).map (inR r s)
theorem rwL_len (r : Nat → Nat) (s i : Nat) : (rwL r s i).length = i := by unfold rwL; simp
theorem rwL_snoc (r : Nat → Nat) (s i : Nat) : rwL r s i ++ [inR r s i] = rwL r s (i + 1) := by unfold rwL; rw [List.range_succ, List.map_append]; rfl
theorem rwL_at {r : Nat → Nat} {s i j : Nat} (h : j < i) : (rwL r s i).getD j 0 = inR r s j := by unfold rwL; simp [List.getD, h]
def bmR (r : Nat → Nat) (s i k : Nat) : Nat := bmK (fun q => (r (lsN s i)).testBit (lsN s q)) k
theorem bmR_zero (r : Nat → Nat) (s i : Nat) : bmR r s i 0 = 0 := rfl
theorem bmR_all (r : Nat → Nat) (s i : Nat) : bmR r s i (cn s) = inR r s i := rfl
theorem bmR_lt (r : Nat → Nat) (s i k : Nat) : bmR r s i k < 2 ^ k := bmK_lt k
theorem bmR_no {r : Nat → Nat} {s i k : Nat} (h : (r (lsN s i)).testBit (lsN s k) = false) : bmR r s i (k + 1) = bmR r s i k := by
 unfold bmR; rw [bmK, if_neg (by rw [h]; simp)]
theorem bmR_yes {r : Nat → Nat} {s i k : Nat} (h : (r (lsN s i)).testBit (lsN s k) = true) : bmR r s i (k + 1) = bmR r s i k + 2 ^ k := by
 have : (bmR r s i k).testBit k = false := by unfold bmR; rw [bmK_bit]; simp
 rw [show bmR r s i (k + 1) = bmR r s i k ||| 2 ^ k by unfold bmR; rw [bmK, if_pos h], ← or_of_add this]
def pfB (r : Nat → Nat) (s : Nat) : Bool := !(s == 0) && decide (cn (lqN (inR r s) (cn s)) < chN (inR r s) (cn s))
theorem pfB_zero (r : Nat → Nat) : pfB r 0 = false := rfl
theorem pfB_not {r : Nat → Nat} {s : Nat} (h : s ≠ 0) : pfB r s = decide (cn (lqN (inR r s) (cn s)) < chN (inR r s) (cn s)) := by
 unfold pfB; simp [h]
theorem frK_congr {r q : Nat → Nat} {l : List Nat} {v c : Nat} (h : r v = q v) : ∀ j, frK r l v c j = frK q l v c j := by
 intro j
 induction j with
 | zero => rfl
 | succ j ih => rw [frK, frK, ih, h]
theorem colS_congr {r q : Nat → Nat} {k m : Nat} (h : ∀ v, v < m → r v = q v) : ∀ (j : Nat) (l : List Nat), l.length + j = m → colS r k j l = colS q k j l := by
 intro j
 induction j with
 | zero => intro l _; rfl
 | succ j ih =>
   intro l hl
   rw [colS, colS]
   congr 1
   funext c
   rw [frK_congr (h _ (by omega)), ih (l ++ [c]) (by rw [List.length_append]; simp; omega)]
theorem chN_congr {r q : Nat → Nat} {m : Nat} (h : ∀ v, v < m → r v = q v) : chN r m = chN q m := by
 have e : (fun k => (cOf r m (k + 1)).isSome) = fun k => (cOf q m (k + 1)).isSome := by
  funext k
  unfold cOf
  rw [colS_congr h m [] (by simp)]
 unfold chN
 rw [e]
theorem lgK_congr {p q : Nat → Bool} : ∀ k, (∀ s, s < k → p s = q s) → lgK p k = lgK q k := by
 intro k
 induction k with
 | zero => intro _; rfl
 | succ k ih =>
   intro h
   rw [lgK, lgK, ih fun s hs => h s (by omega), h k (by omega)]
theorem cliq_congr {r q : Nat → Nat} {m s : Nat} (h : ∀ v, v < m → r v = q v) (hs : s < 2 ^ m) : cliq r s = cliq q s := by
 unfold cliq
 rw [Bool.eq_iff_iff, List.all_eq_true, List.all_eq_true]
 constructor
 ·intro a v hv
  rw [← h v (bit_lt hs (mem_listN.1 hv).2)]
  exact a v hv
 ·intro a v hv
  rw [h v (bit_lt hs (mem_listN.1 hv).2)]
  exact a v hv
theorem lqN_congr {r q : Nat → Nat} {m : Nat} (h : ∀ v, v < m → r v = q v) : lqN r m = lqN q m := lgK_congr _ fun _ hs => cliq_congr h hs
def pP (v w : Nat) : Nat := if v < w then (if v = 0 then w - 1 else v + w) else (if w = 0 then v - 1 else v + w)
def gC (c n v : Nat) : Nat := bmK (fun w => !(v == w) && c.testBit (pP v w)) n
theorem small_table : ∀ n, n < 4 → ∀ c, c < 64 → chN (gC c (n + 1)) (n + 1) ≤ cn (lqN (gC c (n + 1)) (n + 1)) := by decide +kernel
theorem small_fit {n : Nat} {r : Nat → Nat} (vg : VG n r) (h : n ≤ 4) : ∃ c, c < 64 ∧ ∀ v, v < n → r v = gC c n v := by
 refine ⟨bmK (fun i => match i with | 0 => (r 0).testBit 1 | 1 => (r 0).testBit 2 | 2 => (r 0).testBit 3 | 3 => (r 1).testBit 2 | 4 => (r 1).testBit 3 | _ => (r 2).testBit 3) 6, bmK_lt 6, fun v hv => ?_⟩
 apply Nat.eq_of_testBit_eq
 intro w
 unfold gC
 rw [bmK_bit, bmK_bit]
 by_cases hw : w < n
 ·rw [decide_eq_true hw, Bool.true_and]
  have hv4 : v = 0 ∨ v = 1 ∨ v = 2 ∨ v = 3 := by omega
  have hw4 : w = 0 ∨ w = 1 ∨ w = 2 ∨ w = 3 := by omega
  have hi := vg.irr v hv
  have hs := vg.sym v w hv hw
  rcases hv4 with rfl | rfl | rfl | rfl <;> rcases hw4 with rfl | rfl | rfl | rfl <;> first | exact hi | (simp [pP]; done) | (simp [pP, hs]; done)
 ·rw [decide_eq_false hw, Bool.false_and]
  cases hb : (r v).testBit w
  ·rfl
  ·exact absurd (bit_lt (vg.lt v hv) hb) hw
theorem small_perfect {n : Nat} {r : Nat → Nat} (vg : VG n r) (h : n ≤ 4) : chN r n ≤ cn (lqN r n) := by
 obtain ⟨c, hc, e⟩ := small_fit vg h
 have n1 := vg.n1
 rw [chN_congr e, lqN_congr e]
 have := small_table (n - 1) (by omega) c hc
 rwa [show n - 1 + 1 = n by omega] at this
theorem pfB_small {r : Nat → Nat} {m s : Nat} (vg : VG m r) (hs : s < 2 ^ m) (h0 : s ≠ 0) (h : cn s ≤ 4) : pfB r s = false := by
 rw [pfB_not h0]
 have := small_perfect (inR_vg vg hs h0) h
 exact decide_eq_false (by omega)
end Go.Proofs.YtppkokgiojcgbaaGreatDoor

/-
-/
namespace Go.Proofs.YtppkokgiojcgbaaGreatDoor
open Go.RowKit
set_option maxRecDepth 100000 in
set_option maxHeartbeats 6400000 in
theorem induced_v {A : Option Addr} {m c : Nat} {r : Nat → Nat} {s : Nat} {w : World} (h : GV w A m c r) (hs : s < 2 ^ m) (h0 : s ≠ 0) :
 Calls Tryz.prog 158 #[.agg #[.int .i64 m, .slice A m c], .int .i64 s] w fun e w' => ∃ A' c', e = .returned (.agg #[.int .i64 (cn s : Nat), .slice A' (cn s) c']) ∧ Own w' w.heap.size w'.heap.size 3 1 A' (cn s) c' (fun j => .int .i64 (inR r s j : Nat)) ∧ Below w.heap.size w w' := by
 have hn7 := h.vg.n7
 have h128 := two_pow_le hn7
 have HV := Lib.hid h.vg
 have HS := Lib.hid hs
 have hc7 := cn_le s
 have hc1 := cn_one (by omega) h0
 have Hat : Hid (∀ i, (hi : i < (listN s).length) → (listN s)[i] = lsN s i) := fun i hi => lsN_at hi
 have Hls : Hid (∀ i, i < (listN s).length → lsN s i < m) := fun i hi => (lsN_bit hs hi).1
 obtain ⟨b0, o0, rfl⟩ := h.addr
 obtain ⟨W, hW⟩ : ∃ W : World, W = ((w.alloc (Obj.cells #[Value.int IntKind.i64 m, Value.slice (some ⟨b0, o0, none⟩) m c] 29)).alloc (Obj.cells #[Value.int IntKind.i64 0, Value.slice none 0 0] 29)) := ⟨_, rfl⟩
 have HB : Hid (From w W) := by rw [hW]; exact (From.alloc _ _).alloc_ _
 have HG : Hid (GBox W w.heap.size (some ⟨b0, o0, none⟩) m c r) := by rw [hW]; exact h.box.keep ((Below.refl _ _).alloc (Nat.le_refl _) _)
 have HQ : Hid (GC W (w.heap.size + 1) 0 none 0 0) := by
  rw [hW]
  have := GC.new (w.alloc (Obj.cells #[Value.int IntKind.i64 m, Value.slice (some ⟨b0, o0, none⟩) m c] 29)) 0 none 0 0
  show GC _ _ _ _ _ _
  simpa using this
 have HW := Lib.hid hW
 have KL := Lib.hid (ListOf_v s (by omega) W)
 have Hfin : Hid (∀ j, j < (listN s).length → iK r s (listN s).length 0 j = inR r s j) := fun j hj => iK_end hj
 have Hnx : Hid (∀ i j, iK r s i (listN s).length j = iK r s (i + 1) 0 j) := fun i j => iK_next r s i j
 rw [show cn s = (listN s).length from rfl] at hc7 hc1 ⊢
 obtain ⟨n, hn⟩ : ∃ n, n = (listN s).length := ⟨_, rfl⟩
 have Hn := Lib.hid hn
 clear hW h h0 hs
 go_enter Tryz.func158, Tryz.ntmps158
 have e0 := HG.out.c0
 have e1 := HG.out.c1
 go_wp2_with fail
 rw [← HW.out]
 clear HW
 refine KL.out.mono ?_
 rintro e w1 ⟨Al, cl, rfl, ho1, hb1⟩
 have HL := Lib.hid ho1
 clear e0 e1
 replace HB := Lib.hid (HB.out.keep hb1)
 replace HQ := Lib.hid (HQ.out.keep hb1)
 replace HG := Lib.hid (HG.out.keep hb1)
 clear hb1 ho1 KL
 have e0 := HG.out.c0
 have e1 := HG.out.c1
 rw [← hn] at hc7 hc1 ⊢
 clear hn
 obtain ⟨W2, hmk, hO2, hb2⟩ := made_own w1 n (by omega)
 have hz2 : w1.heap.size + 1 ≤ W2.heap.size := by
  obtain ⟨_, e, _, _, h, _⟩ := hO2.at_ (by omega)
  injection e with e
  injection e with e
  omega
 obtain ⟨W3, hW3⟩ : ∃ W3 : World, W3 = (W2.alloc (Obj.cells #[Value.int IntKind.i64 n, Value.slice (some ⟨w1.heap.size, 0, none⟩) n n] 29)) := ⟨_, rfl⟩
 have hb3 : Below W2.heap.size W2 W3 := by rw [hW3]; exact (Below.refl _ _).alloc (Nat.le_refl _) _
 have HO3 : Hid (Own W3 w1.heap.size (w1.heap.size + 1) 3 1 (some ⟨w1.heap.size, 0, none⟩) n n (fun j => .int .i64 (iK r s 0 0 j : Nat))) := (hO2.keepB hb3 hz2).congr fun j _ => by rw [iK_zero]; rfl
 have HU3 : Hid (GC W3 W2.heap.size n (some ⟨w1.heap.size, 0, none⟩) n n) := by rw [hW3]; exact GC.new _ _ _ _ _
 have HR3 : Hid (Below w1.heap.size w1 W3) := hb2.trans (hb3.mono (by omega))
 have HW3 := Lib.hid hW3
 clear hW3 hb3 hb2 hO2
 go_wp2_with fail
 rw [← HW3.out]
 clear HW3 hmk e0 e1
 go_loopw [21] (fun iv wr => ∃ i : Nat, i ≤ n ∧ iv = .int .i64 i ∧ Hid (Own wr w1.heap.size (w1.heap.size + 1) 3 1 (some ⟨w1.heap.size, 0, none⟩) n n (fun j => .int .i64 (iK r s i 0 j : Nat))) ∧ Hid (GC wr W2.heap.size n (some ⟨w1.heap.size, 0, none⟩) n n) ∧ Hid (Below w1.heap.size w1 wr)) (fun iv _ => n - (intOf iv).toNat)
 case atStart => exact ⟨0, Nat.zero_le _, rfl, HO3, HU3, HR3⟩
 case round =>
  clear HO3 HU3 HR3
  obtain ⟨i, hi, rfl, HO, HU, HR⟩ := hrel
  by_cases hin : i < n
  ·have i1 : (i : Int) < (n : Int) := by omega
   have HLr := Lib.hid (HL.out.keep HR.out)
   obtain ⟨b5, o5, rfl⟩ := HL.out.ln.addr (by rw [← Hn.out]; omega)
   have p0 := HLr.out.ln.at (j := i) (by rw [← Hn.out]; omega)
   rw [Hat.out i (by rw [← Hn.out]; omega)] at p0
   obtain ⟨y, hy⟩ : ∃ y, y = lsN s i := ⟨_, rfl⟩
   have hym : y < m := by rw [hy]; exact Hls.out i (by rw [← Hn.out]; omega)
   rw [← hy] at p0
   have Hy := Lib.hid hy
   clear hy HLr
   go_wp2
   go_loopw [28] (fun kv wr => ∃ k : Nat, k ≤ n ∧ kv = .int .i64 k ∧ Hid (Own wr w1.heap.size (w1.heap.size + 1) 3 1 (some ⟨w1.heap.size, 0, none⟩) n n (fun j => .int .i64 (iK r s i k j : Nat))) ∧ Hid (GC wr W2.heap.size n (some ⟨w1.heap.size, 0, none⟩) n n) ∧ Hid (Below w1.heap.size w1 wr)) (fun kv _ => n - (intOf kv).toNat)
   case atStart => exact ⟨0, Nat.zero_le _, rfl, HO, HU, HR⟩
   case round =>
    clear HO HU HR p0
    obtain ⟨k, hk, rfl, HO, HU, HR⟩ := hrel
    by_cases hkn : k < n
    ·have i2 : (k : Int) < (n : Int) := by omega
     have HLr := Lib.hid (HL.out.keep HR.out)
     have p1 := HLr.out.ln.at (j := k) (by rw [← Hn.out]; omega)
     rw [Hat.out k (by rw [← Hn.out]; omega)] at p1
     obtain ⟨u, hu⟩ : ∃ u, u = lsN s k := ⟨_, rfl⟩
     have hum : u < m := by rw [hu]; exact Hls.out k (by rw [← Hn.out]; omega)
     rw [← hu] at p1
     have HGr := Lib.hid (HG.out.keep HR.out)
     have e0 := HGr.out.c0
     have e1 := HGr.out.c1
     have q0 := HGr.out.gv.row hym
     have hr := HV.out.lt128 hym
     have hbit : (r (lsN s i)).testBit (lsN s k) = (r y).testBit u := by rw [Hy.out, hu]
     obtain ⟨x, hx⟩ : ∃ x, x = r y := ⟨_, rfl⟩
     rw [← hx] at q0 hr hbit
     have i3 : (y : Int) < (m : Int) := by omega
     clear hu hx HLr HGr
     cases hb : x.testBit u
     ·have K1 := Lib.hid (has_q hr (by omega) hb wr)
      have HO' : Hid (Own wr w1.heap.size (w1.heap.size + 1) 3 1 (some ⟨w1.heap.size, 0, none⟩) n n (fun j => .int .i64 (iK r s i (k + 1) j : Nat))) := HO.out.congr fun j _ => by rw [iK_no (hbit.trans hb)]
      clear hb hbit
      go_wp2_with fail
      refine K1.out.mono ?_
      rintro e wr ⟨rfl, rfl⟩
      go_wp2
      go_roundw
      case rel => exact ⟨k + 1, by omega, by go_num, HO', HU, HR⟩
      case measure => (simp [intOf] <;> omega)
     ·have K1 := Lib.hid (has_q hr (by omega) hb wr)
      have Hst : Hid (∀ j, iK r s i (k + 1) j = if j = i then iK r s i k i ||| 2 ^ k else iK r s i k j) := iK_yes (hbit.trans hb)
      clear hb hbit
      go_wp2_with fail
      refine K1.out.mono ?_
      rintro e wr ⟨rfl, rfl⟩
      obtain ⟨_, ea, _, _, _, h1, h2⟩ := HO.out.at_ (by omega)
      simp only [Option.some.injEq, Addr.mk.injEq, and_true] at ea
      subst ea
      have q1 := h1 i (by omega)
      have f1 := h2 i
      have hcl : iK r s i k i < 2 ^ k := by rw [iK_at]; exact bmK_lt k
      have h2k := two_pow_le (n := k) (by omega)
      obtain ⟨z, hz⟩ : ∃ z, z = 2 ^ k := ⟨_, rfl⟩
      have p2 : IntKind.i64.wrap ((2 : Int) ^ k) = (z : Int) := by rw [pow_shl k (by omega), hz]; simp
      obtain ⟨cc, hcc⟩ : ∃ cc, cc = iK r s i k i := ⟨_, rfl⟩
      obtain ⟨t, ht⟩ : ∃ t, t = cc ||| z := ⟨_, rfl⟩
      have E2 : bits .or .i64 (cc : Int) (z : Int) = (t : Int) := by rw [ht]; exact i64_or_nat _ _ (by omega) (by omega)
      have HO' : Hid (Own (wr.setCell ⟨w1.heap.size, i, none⟩ (.int .i64 (t : Nat))).drew w1.heap.size (w1.heap.size + 1) 3 1 (some ⟨w1.heap.size, 0, none⟩) n n (fun j => .int .i64 (iK r s i (k + 1) j : Nat))) := ((HO.out.set_ i _).drew).congr fun j _ => by
       rw [Hst.out]
       by_cases e : j = i
       ·rw [if_pos e, if_pos e, ht, hcc, hz]
       ·rw [if_neg e, if_neg e]
      rw [← hcc] at q1
      have d0 := HU.out.c0
      have d1 := HU.out.c1
      have F : Hid (Fr w1.heap.size (w1.heap.size + 1) wr (wr.setCell ⟨w1.heap.size, i, none⟩ (.int .i64 (t : Nat))).drew) := ((Fr.refl _ _ wr).setCell (p := ⟨w1.heap.size, i, none⟩) (Nat.le_refl _) (Nat.lt_succ_self _) _).drew
      have HU' : Hid (GC (wr.setCell ⟨w1.heap.size, i, none⟩ (.int .i64 (t : Nat))).drew W2.heap.size n (some ⟨w1.heap.size, 0, none⟩) n n) := HU.out.keepF F.out (.inr hz2)
      have HR' : Hid (Below w1.heap.size w1 (wr.setCell ⟨w1.heap.size, i, none⟩ (.int .i64 (t : Nat))).drew) := (HR.out.setCell (p := ⟨w1.heap.size, i, none⟩) (Nat.le_refl _) _).drew
      clear h1 h2 hz ht hcc hcl h2k e0 e1 q0 p1 K1 F
      go_wp2
      go_region
      clear q1 f1 p2 E2 d0 d1
      go_wp2
      go_roundw
      case rel => exact ⟨k + 1, by omega, by go_num, HO', HU', HR'⟩
      case measure => (simp [intOf] <;> omega)
    ·obtain rfl : n = k := by omega
     have HO' : Hid (Own wr w1.heap.size (w1.heap.size + 1) 3 1 (some ⟨w1.heap.size, 0, none⟩) n n (fun j => .int .i64 (iK r s (i + 1) 0 j : Nat))) := HO.out.congr fun j _ => by
      have := Hnx.out i j
      rw [← Hn.out] at this
      rw [this]
     go_wp2
     go_roundw
     case rel => exact ⟨i + 1, by omega, by go_num, HO', HU, HR⟩
     case measure => (simp [intOf] <;> omega)
  ·obtain rfl : n = i := by omega
   have e0 := HU.out.c0
   have e1 := HU.out.c1
   have HQr := Lib.hid (HQ.out.keep HR.out)
   have d0 := HQr.out.c0
   have d1 := HQr.out.c1
   have d2 := HQr.out.f0
   have d3 := HQr.out.f1
   have F := fr2 wr (w.heap.size + 1) (.int .i64 (n : Int)) (.slice (some ⟨w1.heap.size, 0, none⟩) n n)
   have hz1 := HB.out.below.size
   have hq1 := HQ.out.lt
   have HBz : Hid (From w wr) := ⟨HB.out.below.trans (HR.out.mono hz1)⟩
   have HE := (HBz.out.set (q := w.heap.size + 1) (Nat.le_succ _) (.int .i64 (n : Int)) (.slice (some ⟨w1.heap.size, 0, none⟩) n n)).below
   have hgl := HU.out.lt
   have HOE := (HO.out.keep F (.inr (by omega))).mono (by omega : w.heap.size ≤ w1.heap.size) (Nat.le_trans (show w1.heap.size + 1 ≤ wr.heap.size by omega) F.size)
   have HOF : Hid (Own ((wr.setCell ⟨w.heap.size + 1, 0, none⟩ (.int .i64 (n : Int))).setCell ⟨w.heap.size + 1, 1, none⟩ (.slice (some ⟨w1.heap.size, 0, none⟩) n n)) w.heap.size ((wr.setCell ⟨w.heap.size + 1, 0, none⟩ (.int .i64 (n : Int))).setCell ⟨w.heap.size + 1, 1, none⟩ (.slice (some ⟨w1.heap.size, 0, none⟩) n n)).heap.size 3 1 (some ⟨w1.heap.size, 0, none⟩) n n (fun j => .int .i64 (inR r s j : Nat))) := HOE.congr fun j hj => by
    have := Hfin.out j (by rw [← Hn.out]; omega)
    rw [← Hn.out] at this
    rw [this]
   clear HOE
   go_wp2
   exact bodyPost_ret (v := .agg #[.int .i64 (n : Int), .slice (some ⟨w1.heap.size, 0, none⟩) n n]) (by simp [results, Tryz.results158, go_sem, *]) rfl ⟨some ⟨w1.heap.size, 0, none⟩, n, by rw [← Hn.out], by rw [← Hn.out]; exact HOF.out, HE⟩
theorem ind_gv {A' : Option Addr} {m c' : Nat} {r : Nat → Nat} {s lo hi : Nat} {w' : World} (vg : VG m r) (hs : s < 2 ^ m) (h0 : s ≠ 0) (h : Own w' lo hi 3 1 A' (cn s) c' (fun j => .int .i64 (inR r s j : Nat))) (hhi : hi ≤ w'.heap.size) : GV w' A' (cn s) c' (inR r s) := by
 exact ⟨inR_vg vg hs h0, h.rd.keep (Below.refl _ _) hhi⟩
end Go.Proofs.YtppkokgiojcgbaaGreatDoor
