/-
  Several texts in one: words for memory, plain laws and contracts that the later texts lean on.
-/
import Derived.Test.YtdpkbfiggbcclaaGreatQiPthI
import Derived.Test.YtdpkbfiggbcclaaGreatQiUmbS
import Derived.Test.YtdpkbfiggbcclaaGreatQiGB
import Derived.Test.YtdpkbfiggbcclaaGreatQiGL
import Derived.Test.YtdpkbfiggbcclaaGreatQiColI
import Derived.Test.YtdpkbfiggbcclaaGreatQiSet2S
import Derived.Test.YtdpkbfiggbcclaaGreatQiJoinI
import Derived.Test.YtdpkbfiggbcclaaGreatQiTake
import Derived.Test.YtdpkbfiggbcclaaGreatQiColP
/-
  Plain: intervals, and the graph of intervals.
-/
namespace Go.Proofs.YtdpkbfiggbcclaaGreat
open Go.RowKit

def Im1 (L R : List Int) (k : Nat) : Prop := ∀ i, i < k → 0 ≤ L.getD i 0 ∧ L.getD i 0 ≤ R.getD i 0 ∧ R.getD i 0 ≤ 99
section
variable {L R : List Int} {k : Nat}
theorem Im1.zero : Im1 L R 0 := fun i h => absurd h (by omega)
theorem Im1.step (h : Im1 L R k) (h2 : 0 ≤ L.getD k 0 ∧ L.getD k 0 ≤ R.getD k 0 ∧ R.getD k 0 ≤ 99) : Im1 L R (k + 1) := fun i hi => by
  by_cases e : i < k
  · exact h i e
  · obtain rfl : i = k := by omega
    exact h2
end
/-- The two lists of intervals in a box. -/
structure IB (w : World) (q : Nat) (Al : Option Addr) (n cl : Nat) (Ar : Option Addr) (k cr : Nat) : Prop where
  c0 : w.cell? ⟨q, 0, none⟩ = some (.slice Al n cl)
  c1 : w.cell? ⟨q, 1, none⟩ = some (.slice Ar k cr)
theorem IB.keep {w w' : World} {q : Nat} {Al : Option Addr} {n cl : Nat} {Ar : Option Addr} {k cr : Nat} (h : IB w q Al n cl Ar k cr) (hb : Below w.heap.size w w') : IB w' q Al n cl Ar k cr := ⟨up_ hb h.c0, up_ hb h.c1⟩
theorem IB.lt {w : World} {q : Nat} {Al : Option Addr} {n cl : Nat} {Ar : Option Addr} {k cr : Nat} (h : IB w q Al n cl Ar k cr) : q < w.heap.size := World.block_lt_of_cell? _ _ h.c0
end Go.Proofs.YtdpkbfiggbcclaaGreat

/-
  Contracts: the largest clique, the largest independent set, the fewest colors: the program's.
-/
namespace Go.Proofs.YtdpkbfiggbcclaaGreat
open Go.RowKit

section
variable {A : Option Addr} {m c : Nat} {r : Nat → Nat}
set_option maxHeartbeats 1000000 in
theorem LargestClique_v {w : World} (h : GV w A m c r) :
    Calls Tryz.prog 400 #[.agg #[.int .i64 m, .slice A m c]] w fun e w' => e = .returned (.int .i64 (lqN r m : Nat)) ∧ Below w.heap.size w w' := by
  obtain ⟨W, hW⟩ : ∃ W : World, W = (w.alloc (Obj.cells #[Value.int IntKind.i64 m, Value.slice A m c] 28)) := ⟨_, rfl⟩
  have HB : Hid (From w W) := by rw [hW]; exact From.alloc _ _
  have HG : Hid (GBox W w.heap.size A m c r) := by rw [hW]; exact h.box
  have HW := Lib.hid hW
  clear hW h
  have e0 := HG.out.c0
  have e1 := HG.out.c1
  go_enter Tryz.func400, Tryz.ntmps400
  go_wp2_with fail
  rw [← HW.out]
  refine (largest_g (p := cliq r) (caps := #[]) (ent_of Tryz.func131 (by kernel_rfl) rfl) W HG.out.gv (fun s z hs hb => IsClique_v (HG.out.gv.keep hb) hs)).mono ?_
  rintro e w1 ⟨rfl, hb1⟩
  clear HW
  clear e0 e1
  replace HB := Lib.hid (HB.out.keep hb1)
  replace HG := Lib.hid (HG.out.keep hb1)
  clear hb1
  have e0 := HG.out.c0
  have e1 := HG.out.c1
  go_wp2
  go_ret
  exact ⟨rfl, HB.out.below⟩
set_option maxHeartbeats 1000000 in
theorem CliqueNumber_v {w : World} (h : GV w A m c r) :
    Calls Tryz.prog 377 #[.agg #[.int .i64 m, .slice A m c]] w fun e w' => e = .returned (.int .i64 (cn (lqN r m) : Nat)) ∧ Below w.heap.size w w' := by
  have hl : lqN r m < 128 := Nat.lt_of_lt_of_le (lq_lt r m) (two_pow_le h.vg.n7)
  obtain ⟨W, hW⟩ : ∃ W : World, W = (w.alloc (Obj.cells #[Value.int IntKind.i64 m, Value.slice A m c] 28)) := ⟨_, rfl⟩
  have HB : Hid (From w W) := by rw [hW]; exact From.alloc _ _
  have HG : Hid (GBox W w.heap.size A m c r) := by rw [hW]; exact h.box
  have HW := Lib.hid hW
  clear hW h
  have e0 := HG.out.c0
  have e1 := HG.out.c1
  go_enter Tryz.func377, Tryz.ntmps377
  go_wp2_with fail
  rw [← HW.out]
  refine (IsGraph_v HG.out.gv).mono ?_
  rintro e w1 ⟨rfl, hb1⟩
  clear HW
  clear e0 e1
  replace HB := Lib.hid (HB.out.keep hb1)
  replace HG := Lib.hid (HG.out.keep hb1)
  clear hb1
  have e0 := HG.out.c0
  have e1 := HG.out.c1
  go_wp2_with fail
  refine (LargestClique_v HG.out.gv).mono ?_
  rintro e w2 ⟨rfl, hb2⟩
  clear e0 e1
  replace HB := Lib.hid (HB.out.keep hb2)
  replace HG := Lib.hid (HG.out.keep hb2)
  clear hb2
  have e0 := HG.out.c0
  have e1 := HG.out.c1
  go_wp2_with fail
  refine (CountSet_v (lqN r m) hl _).mono ?_
  rintro e w3 ⟨rfl, hb3⟩
  clear e0 e1
  replace HB := Lib.hid (HB.out.keep hb3)
  replace HG := Lib.hid (HG.out.keep hb3)
  clear hb3
  have e0 := HG.out.c0
  have e1 := HG.out.c1
  go_wp2
  go_ret
  exact ⟨rfl, HB.out.below⟩
set_option maxRecDepth 100000 in
set_option maxHeartbeats 1600000 in
theorem ChromaticNumber_v {w : World} (h : GV w A m c r) :
    Calls Tryz.prog 376 #[.agg #[.int .i64 m, .slice A m c]] w fun e w' => e = .returned (.int .i64 (chN r m : Nat)) ∧ Below w.heap.size w w' := by
  have hn7 := h.vg.n7
  have hn1 := h.vg.n1
  obtain ⟨hcm, hsome, hmin⟩ := chN_spec (r := r) hn1
  have hpos := chN_pos (r := r) (m := m)
  have HS := Lib.hid hsome
  have HM := Lib.hid hmin
  obtain ⟨K, hK⟩ : ∃ K, K = chN r m := ⟨_, rfl⟩
  rw [← hK] at hcm HS HM hpos ⊢
  clear hsome hmin hK
  obtain ⟨W, hW⟩ : ∃ W : World, W = (w.alloc (Obj.cells #[Value.int IntKind.i64 m, Value.slice A m c] 28)) := ⟨_, rfl⟩
  have HB : Hid (From w W) := by rw [hW]; exact From.alloc _ _
  have HG : Hid (GBox W w.heap.size A m c r) := by rw [hW]; exact h.box
  have HW := Lib.hid hW
  clear hW h
  have e0 := HG.out.c0
  have e1 := HG.out.c1
  have HR0 : Hid (From W W) := From.refl W
  go_enter Tryz.func376, Tryz.ntmps376
  go_wp2_with fail
  rw [← HW.out]
  go_wp2
  go_loopw [3] (fun i wr => ∃ k : Nat, 1 ≤ k ∧ k ≤ K ∧ i = .int .i64 k ∧ Hid (From W wr)) (fun i _ => K - (intOf i).toNat)
  case atStart => exact ⟨1, Nat.le_refl _, hpos, rfl, HR0⟩
  case round =>
    clear HR0
    obtain ⟨k, hk1, hk, rfl, HR⟩ := hrel
    clear e0 e1
    replace HB := Lib.hid (HB.out.keep HR.out.below)
    replace HG := Lib.hid (HG.out.keep HR.out.below)
    have e0 := HG.out.c0
    have e1 := HG.out.c1
    have i1 : (k : Int) ≤ 7 := by omega
    cases hs : (cOf r m k).isSome
    · have hlt : k < K := by
        by_cases e : k = K
        · subst e; rw [HS.out] at hs; cases hs
        · omega
      have Hs := Lib.hid hs
      clear hs
      go_wp2_with fail
      refine (ColoringWith_v HG.out.gv hk1 (by omega)).mono ?_
      rintro e w5 ⟨A5, n5, c5, rfl, _, hb5⟩
      rw [Hs.out]
      clear e0 e1
      replace HB := Lib.hid (HB.out.keep hb5)
      replace HG := Lib.hid (HG.out.keep hb5)
      replace HR := Lib.hid (HR.out.keep hb5)
      clear hb5
      have e0 := HG.out.c0
      have e1 := HG.out.c1
      go_wp2
      go_roundw
      case rel => exact ⟨k + 1, by omega, by omega, by go_num, HR⟩
      case measure => (simp [intOf] <;> omega)
    · have hKe : k = K := by
        by_cases e : k < K
        · rw [HM.out k hk1 e] at hs; cases hs
        · omega
      have Hs := Lib.hid hs
      have HKe := Lib.hid hKe
      clear hs hKe
      go_wp2_with fail
      refine (ColoringWith_v HG.out.gv hk1 (by omega)).mono ?_
      rintro e w5 ⟨A5, n5, c5, rfl, _, hb5⟩
      rw [Hs.out]
      clear e0 e1
      replace HB := Lib.hid (HB.out.keep hb5)
      replace HG := Lib.hid (HG.out.keep hb5)
      replace HR := Lib.hid (HR.out.keep hb5)
      clear hb5
      have e0 := HG.out.c0
      have e1 := HG.out.c1
      go_wp2
      go_ret
      exact ⟨ret_int (by rw [HKe.out]), HB.out.below⟩
end
end Go.Proofs.YtdpkbfiggbcclaaGreat

/-
  Contracts: a cover by cliques: the program's.
-/
namespace Go.Proofs.YtdpkbfiggbcclaaGreat
open Go.RowKit

section
variable {A : Option Addr} {m c : Nat} {r : Nat → Nat}
theorem made_own (w : World) (n : Nat) (hn : n ≤ 1048576) : ∃ W : World, (Instr.makeSlice 22 (.int .i64 (n : Int)) (.int .i64 (n : Int))).run Tryz.prog w = .ok (.slice (some ⟨w.heap.size, 0, none⟩) n n) W ∧ Own W w.heap.size (w.heap.size + 1) 3 1 (some ⟨w.heap.size, 0, none⟩) n n (fun _ => .int .i64 0) ∧ Below w.heap.size w W := by
  refine ⟨_, run_make_row' (P := Tryz.prog) 22 3 (.int .i64 0) 8 Tryz.underlying22 info_int rfl .i64 .i64 n (by omega) (by omega) w, ?_, (Below.refl _ _).alloc (Nat.le_refl _) _⟩
  obtain ⟨cc, q1, q2, q3⟩ := World.rowIs_made w (.int .i64 0) n 3
  exact .inr ⟨_, cc, rfl, Nat.le_refl _, Nat.lt_succ_self _, q1, Nat.le_refl _, by unfold maxLen; omega, by omega, fun j hj => by rw [q3 j (by omega)]⟩
end
end Go.Proofs.YtdpkbfiggbcclaaGreat

/-
  Plain: a graph made pair by pair.
-/
namespace Go.Proofs.YtdpkbfiggbcclaaGreat
open Go.RowKit

def bmK (P : Nat → Bool) : Nat → Nat
  | 0 => 0
  | n + 1 => if P n = true then bmK P n ||| 2 ^ n else bmK P n
theorem bmK_bit {P : Nat → Bool} {i : Nat} : ∀ n, (bmK P n).testBit i = (decide (i < n) && P i) := by
  intro n
  induction n with
  | zero => simp [bmK]
  | succ n ih =>
    rw [bmK]
    by_cases h : P n = true
    · rw [if_pos h, Nat.testBit_or, ih, Nat.testBit_two_pow]
      by_cases e : n = i
      · subst e; simp [h]
      · by_cases e2 : i < n
        · simp [e, e2, show i < n + 1 by omega]
        · simp [e, e2, show ¬ i < n + 1 by omega]
    · rw [if_neg h, ih]
      by_cases e : i = n
      · subst e; simp [h]
      · by_cases e2 : i < n
        · simp [e2, show i < n + 1 by omega]
        · simp [e2, show ¬ i < n + 1 by omega]
theorem bmK_lt {P : Nat → Bool} : ∀ n, bmK P n < 2 ^ n := by
  intro n
  induction n with
  | zero => exact Nat.one_pos
  | succ n ih =>
    have h1 : 2 ^ n < 2 ^ (n + 1) := Nat.pow_lt_pow_right (by omega) (Nat.lt_succ_self _)
    rw [bmK]
    split
    · exact Nat.or_lt_two_pow (by omega) h1
    · omega
end Go.Proofs.YtdpkbfiggbcclaaGreat

/-
  Plain: the graph of the vertices of a set, numbered in order; graphs of at most four vertices need no more colors than their largest clique has vertices.
-/
namespace Go.Proofs.YtdpkbfiggbcclaaGreat
open Go.RowKit

def lsN (s i : Nat) : Nat := (listN s).getD i 0
def inR (r : Nat → Nat) (s i : Nat) : Nat := bmK (fun k => (r (lsN s i)).testBit (lsN s k)) (cn s)
theorem lsN_at {s i : Nat} (hi : i < cn s) : (listN s)[i]'hi = lsN s i := by unfold lsN; rw [List.getD_eq_getElem?_getD, List.getElem?_eq_getElem (show i < (listN s).length from hi)]; rfl
theorem lsN_bit {s m i : Nat} (hs : s < 2 ^ m) (hi : i < cn s) : lsN s i < m ∧ s.testBit (lsN s i) = true := by
  have h := listN_at (s := s) (j := i) hi
  rw [lsN_at hi] at h
  exact ⟨bit_lt hs h.2, h.2⟩
theorem cn_one {s : Nat} (hs : s < 128) (h : s ≠ 0) : 1 ≤ cn s := by
  obtain ⟨v, l, e, _⟩ := list_ne hs h
  unfold cn; rw [e]; simp
theorem inR_vg {r : Nat → Nat} {m s : Nat} (vg : VG m r) (hs : s < 2 ^ m) (h0 : s ≠ 0) : VG (cn s) (inR r s) := by
  have h128 := two_pow_le vg.n7
  refine ⟨cn_one (by omega) h0, cn_le s, fun v _ => bmK_lt _, fun v hv => ?_, fun v w hv hw => ?_⟩
  · unfold inR; rw [bmK_bit, vg.irr _ (lsN_bit hs hv).1]; simp
  · unfold inR; rw [bmK_bit, bmK_bit, decide_eq_true hv, decide_eq_true hw, vg.sym _ _ (lsN_bit hs hv).1 (lsN_bit hs hw).1]
/-- The rows under way: those ahead of i are whole, that of i has been seen up to k. -/
def iK (r : Nat → Nat) (s i k j : Nat) : Nat := if j < i then inR r s j else if j = i then bmK (fun q => (r (lsN s i)).testBit (lsN s q)) k else 0
theorem iK_zero (r : Nat → Nat) (s j : Nat) : iK r s 0 0 j = 0 := by
  unfold iK; rw [if_neg (by omega)]; split <;> rfl
theorem iK_next (r : Nat → Nat) (s i j : Nat) : iK r s i (cn s) j = iK r s (i + 1) 0 j := by
  unfold iK
  by_cases h1 : j < i
  · rw [if_pos h1, if_pos (by omega)]
  · by_cases h2 : j = i
    · subst h2; rw [if_neg (by omega), if_pos rfl, if_pos (by omega)]; rfl
    · rw [if_neg h1, if_neg h2, if_neg (by omega)]; split <;> rfl
theorem iK_end {r : Nat → Nat} {s j : Nat} (h : j < cn s) : iK r s (cn s) 0 j = inR r s j := by unfold iK; rw [if_pos h]
theorem iK_no {r : Nat → Nat} {s i k : Nat} (h : (r (lsN s i)).testBit (lsN s k) = false) (j : Nat) : iK r s i (k + 1) j = iK r s i k j := by
  have e : bmK (fun q => (r (lsN s i)).testBit (lsN s q)) (k + 1) = bmK (fun q => (r (lsN s i)).testBit (lsN s q)) k := by rw [bmK, if_neg (by rw [h]; simp)]
  unfold iK
  rw [e]
theorem iK_yes {r : Nat → Nat} {s i k : Nat} (h : (r (lsN s i)).testBit (lsN s k) = true) (j : Nat) : iK r s i (k + 1) j = if j = i then iK r s i k i ||| 2 ^ k else iK r s i k j := by
  have e : bmK (fun q => (r (lsN s i)).testBit (lsN s q)) (k + 1) = bmK (fun q => (r (lsN s i)).testBit (lsN s q)) k ||| 2 ^ k := by rw [bmK, if_pos h]
  unfold iK
  rw [e]
  by_cases h2 : j = i
  · subst h2; simp
  · rw [if_neg h2, if_neg h2, if_neg h2]
theorem iK_at {r : Nat → Nat} {s i k : Nat} : iK r s i k i = bmK (fun q => (r (lsN s i)).testBit (lsN s q)) k := by
  unfold iK; rw [if_neg (by omega), if_pos rfl]
def rwL (r : Nat → Nat) (s i : Nat) : List Nat := (List.range i).map (inR r s)
theorem rwL_len (r : Nat → Nat) (s i : Nat) : (rwL r s i).length = i := by unfold rwL; simp
theorem rwL_snoc (r : Nat → Nat) (s i : Nat) : rwL r s i ++ [inR r s i] = rwL r s (i + 1) := by unfold rwL; rw [List.range_succ, List.map_append]; rfl
theorem rwL_at {r : Nat → Nat} {s i j : Nat} (h : j < i) : (rwL r s i).getD j 0 = inR r s j := by unfold rwL; simp [List.getD, h]
def bmR (r : Nat → Nat) (s i k : Nat) : Nat := bmK (fun q => (r (lsN s i)).testBit (lsN s q)) k
theorem bmR_zero (r : Nat → Nat) (s i : Nat) : bmR r s i 0 = 0 := rfl
theorem bmR_all (r : Nat → Nat) (s i : Nat) : bmR r s i (cn s) = inR r s i := rfl
theorem bmR_lt (r : Nat → Nat) (s i k : Nat) : bmR r s i k < 2 ^ k := bmK_lt k
theorem bmR_no {r : Nat → Nat} {s i k : Nat} (h : (r (lsN s i)).testBit (lsN s k) = false) : bmR r s i (k + 1) = bmR r s i k := by
  unfold bmR; rw [bmK, if_neg (by rw [h]; simp)]
theorem bmR_yes {r : Nat → Nat} {s i k : Nat} (h : (r (lsN s i)).testBit (lsN s k) = true) : bmR r s i (k + 1) = bmR r s i k + 2 ^ k := by
  have : (bmR r s i k).testBit k = false := by unfold bmR; rw [bmK_bit]; simp
  rw [show bmR r s i (k + 1) = bmR r s i k ||| 2 ^ k by unfold bmR; rw [bmK, if_pos h], ← or_of_add this]
/-- Does the graph of a set need more colors than its largest clique has vertices? -/
def pfB (r : Nat → Nat) (s : Nat) : Bool := !(s == 0) && decide (cn (lqN (inR r s) (cn s)) < chN (inR r s) (cn s))
theorem pfB_zero (r : Nat → Nat) : pfB r 0 = false := rfl
theorem pfB_not {r : Nat → Nat} {s : Nat} (h : s ≠ 0) : pfB r s = decide (cn (lqN (inR r s) (cn s)) < chN (inR r s) (cn s)) := by
  unfold pfB; simp [h]

theorem frK_congr {r q : Nat → Nat} {l : List Nat} {v c : Nat} (h : r v = q v) : ∀ j, frK r l v c j = frK q l v c j := by
  intro j
  induction j with
  | zero => rfl
  | succ j ih => rw [frK, frK, ih, h]
theorem colS_congr {r q : Nat → Nat} {k m : Nat} (h : ∀ v, v < m → r v = q v) : ∀ (j : Nat) (l : List Nat), l.length + j = m → colS r k j l = colS q k j l := by
  intro j
  induction j with
  | zero => intro l _; rfl
  | succ j ih =>
    intro l hl
    rw [colS, colS]
    congr 1
    funext c
    rw [frK_congr (h _ (by omega)), ih (l ++ [c]) (by rw [List.length_append]; simp; omega)]
theorem chN_congr {r q : Nat → Nat} {m : Nat} (h : ∀ v, v < m → r v = q v) : chN r m = chN q m := by
  have e : (fun k => (cOf r m (k + 1)).isSome) = fun k => (cOf q m (k + 1)).isSome := by
    funext k
    unfold cOf
    rw [colS_congr h m [] (by simp)]
  unfold chN
  rw [e]
theorem lgK_congr {p q : Nat → Bool} : ∀ k, (∀ s, s < k → p s = q s) → lgK p k = lgK q k := by
  intro k
  induction k with
  | zero => intro _; rfl
  | succ k ih =>
    intro h
    rw [lgK, lgK, ih fun s hs => h s (by omega), h k (by omega)]
theorem cliq_congr {r q : Nat → Nat} {m s : Nat} (h : ∀ v, v < m → r v = q v) (hs : s < 2 ^ m) : cliq r s = cliq q s := by
  unfold cliq
  rw [Bool.eq_iff_iff, List.all_eq_true, List.all_eq_true]
  constructor
  · intro a v hv
    rw [← h v (bit_lt hs (mem_listN.1 hv).2)]
    exact a v hv
  · intro a v hv
    rw [h v (bit_lt hs (mem_listN.1 hv).2)]
    exact a v hv
theorem lqN_congr {r q : Nat → Nat} {m : Nat} (h : ∀ v, v < m → r v = q v) : lqN r m = lqN q m := lgK_congr _ fun _ hs => cliq_congr h hs
/-- The place of a pair of four vertices. -/
def pP (v w : Nat) : Nat := if v < w then (if v = 0 then w - 1 else v + w) else (if w = 0 then v - 1 else v + w)
def gC (c n v : Nat) : Nat := bmK (fun w => !(v == w) && c.testBit (pP v w)) n
theorem small_table : ∀ n, n < 4 → ∀ c, c < 64 → chN (gC c (n + 1)) (n + 1) ≤ cn (lqN (gC c (n + 1)) (n + 1)) := by decide +kernel
theorem small_fit {n : Nat} {r : Nat → Nat} (vg : VG n r) (h : n ≤ 4) : ∃ c, c < 64 ∧ ∀ v, v < n → r v = gC c n v := by
  refine ⟨bmK (fun i => match i with | 0 => (r 0).testBit 1 | 1 => (r 0).testBit 2 | 2 => (r 0).testBit 3 | 3 => (r 1).testBit 2 | 4 => (r 1).testBit 3 | _ => (r 2).testBit 3) 6, bmK_lt 6, fun v hv => ?_⟩
  apply Nat.eq_of_testBit_eq
  intro w
  unfold gC
  rw [bmK_bit, bmK_bit]
  by_cases hw : w < n
  · rw [decide_eq_true hw, Bool.true_and]
    have hv4 : v = 0 ∨ v = 1 ∨ v = 2 ∨ v = 3 := by omega
    have hw4 : w = 0 ∨ w = 1 ∨ w = 2 ∨ w = 3 := by omega
    have hi := vg.irr v hv
    have hs := vg.sym v w hv hw
    rcases hv4 with rfl | rfl | rfl | rfl <;> rcases hw4 with rfl | rfl | rfl | rfl <;> first | exact hi | (simp [pP]; done) | (simp [pP, hs]; done)
  · rw [decide_eq_false hw, Bool.false_and]
    cases hb : (r v).testBit w
    · rfl
    · exact absurd (bit_lt (vg.lt v hv) hb) hw
theorem small_perfect {n : Nat} {r : Nat → Nat} (vg : VG n r) (h : n ≤ 4) : chN r n ≤ cn (lqN r n) := by
  obtain ⟨c, hc, e⟩ := small_fit vg h
  have n1 := vg.n1
  rw [chN_congr e, lqN_congr e]
  have := small_table (n - 1) (by omega) c hc
  rwa [show n - 1 + 1 = n by omega] at this
theorem pfB_small {r : Nat → Nat} {m s : Nat} (vg : VG m r) (hs : s < 2 ^ m) (h0 : s ≠ 0) (h : cn s ≤ 4) : pfB r s = false := by
  rw [pfB_not h0]
  have := small_perfect (inR_vg vg hs h0) h
  exact decide_eq_false (by omega)
end Go.Proofs.YtdpkbfiggbcclaaGreat
