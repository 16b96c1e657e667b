/-
  Several texts in one: words for memory, plain laws and contracts that the later texts lean on.
-/
import Derived.Test.YtmkahbephidmbaaGreatQdWgtI
import Derived.Test.YtmkahbephidmbaaGreatQdUmbS
import Derived.Test.YtmkahbephidmbaaGreatQdGB
import Derived.Test.YtmkahbephidmbaaGreatQdUmbP
import Derived.Test.YtmkahbephidmbaaGreatQdColI
import Derived.Test.YtmkahbephidmbaaGreatQdSet2S
import Derived.Test.YtmkahbephidmbaaGreatQdJoinI
import Derived.Test.YtmkahbephidmbaaGreatQdTake
/-
  Plain: intervals, and the graph of intervals.
-/
namespace Go.Proofs.YtmkahbephidmbaaGreat
open Go.RowKit

def Im1 (L R : List Int) (k : Nat) : Prop := ∀ i, i < k → 0 ≤ L.getD i 0 ∧ L.getD i 0 ≤ R.getD i 0 ∧ R.getD i 0 ≤ 99
section
variable {L R : List Int} {k : Nat}
theorem Im1.zero : Im1 L R 0 := fun i h => absurd h (by omega)
theorem Im1.step (h : Im1 L R k) (h2 : 0 ≤ L.getD k 0 ∧ L.getD k 0 ≤ R.getD k 0 ∧ R.getD k 0 ≤ 99) : Im1 L R (k + 1) := fun i hi => by
  by_cases e : i < k
  · exact h i e
  · obtain rfl : i = k := by omega
    exact h2
end
/-- The two lists of intervals in a box. -/
structure IB (w : World) (q : Nat) (Al : Option Addr) (n cl : Nat) (Ar : Option Addr) (k cr : Nat) : Prop where
  c0 : w.cell? ⟨q, 0, none⟩ = some (.slice Al n cl)
  c1 : w.cell? ⟨q, 1, none⟩ = some (.slice Ar k cr)
theorem IB.keep {w w' : World} {q : Nat} {Al : Option Addr} {n cl : Nat} {Ar : Option Addr} {k cr : Nat} (h : IB w q Al n cl Ar k cr) (hb : Below w.heap.size w w') : IB w' q Al n cl Ar k cr := ⟨up_ hb h.c0, up_ hb h.c1⟩
theorem IB.lt {w : World} {q : Nat} {Al : Option Addr} {n cl : Nat} {Ar : Option Addr} {k cr : Nat} (h : IB w q Al n cl Ar k cr) : q < w.heap.size := World.block_lt_of_cell? _ _ h.c0
end Go.Proofs.YtmkahbephidmbaaGreat

/-
  Contracts: the largest clique, the largest independent set, the fewest colors: the program's.
-/
namespace Go.Proofs.YtmkahbephidmbaaGreat
open Go.RowKit

section
variable {A : Option Addr} {m c : Nat} {r : Nat → Nat}
set_option maxHeartbeats 1000000 in
theorem LargestClique_v {w : World} (h : GV w A m c r) :
    Calls Tryz.prog 325 #[.agg #[.int .i64 m, .slice A m c]] w fun e w' => e = .returned (.int .i64 (lqN r m : Nat)) ∧ Below w.heap.size w w' := by
  obtain ⟨W, hW⟩ : ∃ W : World, W = (w.alloc (Obj.cells #[Value.int IntKind.i64 m, Value.slice A m c] 30)) := ⟨_, rfl⟩
  have HB : Hid (From w W) := by rw [hW]; exact From.alloc _ _
  have HG : Hid (GBox W w.heap.size A m c r) := by rw [hW]; exact h.box
  have HW := Lib.hid hW
  clear hW h
  have e0 := HG.out.c0
  have e1 := HG.out.c1
  go_enter Tryz.func325, Tryz.ntmps325
  go_wp2_with fail
  rw [← HW.out]
  refine (largest_g (p := cliq r) (caps := #[]) (ent_of Tryz.func72 (by kernel_rfl) rfl) W HG.out.gv (fun s z hs hb => IsClique_v (HG.out.gv.keep hb) hs)).mono ?_
  rintro e w1 ⟨rfl, hb1⟩
  clear HW
  clear e0 e1
  replace HB := Lib.hid (HB.out.keep hb1)
  replace HG := Lib.hid (HG.out.keep hb1)
  clear hb1
  have e0 := HG.out.c0
  have e1 := HG.out.c1
  go_wp2
  go_ret
  exact ⟨rfl, HB.out.below⟩
set_option maxHeartbeats 1000000 in
theorem CliqueNumber_v {w : World} (h : GV w A m c r) :
    Calls Tryz.prog 286 #[.agg #[.int .i64 m, .slice A m c]] w fun e w' => e = .returned (.int .i64 (cn (lqN r m) : Nat)) ∧ Below w.heap.size w w' := by
  have hl : lqN r m < 128 := Nat.lt_of_lt_of_le (lq_lt r m) (two_pow_le h.vg.n7)
  obtain ⟨W, hW⟩ : ∃ W : World, W = (w.alloc (Obj.cells #[Value.int IntKind.i64 m, Value.slice A m c] 30)) := ⟨_, rfl⟩
  have HB : Hid (From w W) := by rw [hW]; exact From.alloc _ _
  have HG : Hid (GBox W w.heap.size A m c r) := by rw [hW]; exact h.box
  have HW := Lib.hid hW
  clear hW h
  have e0 := HG.out.c0
  have e1 := HG.out.c1
  go_enter Tryz.func286, Tryz.ntmps286
  go_wp2_with fail
  rw [← HW.out]
  refine (IsGraph_v HG.out.gv).mono ?_
  rintro e w1 ⟨rfl, hb1⟩
  clear HW
  clear e0 e1
  replace HB := Lib.hid (HB.out.keep hb1)
  replace HG := Lib.hid (HG.out.keep hb1)
  clear hb1
  have e0 := HG.out.c0
  have e1 := HG.out.c1
  go_wp2_with fail
  refine (LargestClique_v HG.out.gv).mono ?_
  rintro e w2 ⟨rfl, hb2⟩
  clear e0 e1
  replace HB := Lib.hid (HB.out.keep hb2)
  replace HG := Lib.hid (HG.out.keep hb2)
  clear hb2
  have e0 := HG.out.c0
  have e1 := HG.out.c1
  go_wp2_with fail
  refine (CountSet_v (lqN r m) hl _).mono ?_
  rintro e w3 ⟨rfl, hb3⟩
  clear e0 e1
  replace HB := Lib.hid (HB.out.keep hb3)
  replace HG := Lib.hid (HG.out.keep hb3)
  clear hb3
  have e0 := HG.out.c0
  have e1 := HG.out.c1
  go_wp2
  go_ret
  exact ⟨rfl, HB.out.below⟩
set_option maxRecDepth 100000 in
set_option maxHeartbeats 1600000 in
theorem ChromaticNumber_v {w : World} (h : GV w A m c r) :
    Calls Tryz.prog 285 #[.agg #[.int .i64 m, .slice A m c]] w fun e w' => e = .returned (.int .i64 (chN r m : Nat)) ∧ Below w.heap.size w w' := by
  have hn7 := h.vg.n7
  have hn1 := h.vg.n1
  obtain ⟨hcm, hsome, hmin⟩ := chN_spec (r := r) hn1
  have hpos := chN_pos (r := r) (m := m)
  have HS := Lib.hid hsome
  have HM := Lib.hid hmin
  obtain ⟨K, hK⟩ : ∃ K, K = chN r m := ⟨_, rfl⟩
  rw [← hK] at hcm HS HM hpos ⊢
  clear hsome hmin hK
  obtain ⟨W, hW⟩ : ∃ W : World, W = (w.alloc (Obj.cells #[Value.int IntKind.i64 m, Value.slice A m c] 30)) := ⟨_, rfl⟩
  have HB : Hid (From w W) := by rw [hW]; exact From.alloc _ _
  have HG : Hid (GBox W w.heap.size A m c r) := by rw [hW]; exact h.box
  have HW := Lib.hid hW
  clear hW h
  have e0 := HG.out.c0
  have e1 := HG.out.c1
  have HR0 : Hid (From W W) := From.refl W
  go_enter Tryz.func285, Tryz.ntmps285
  go_wp2_with fail
  rw [← HW.out]
  go_wp2
  go_loopw [3] (fun i wr => ∃ k : Nat, 1 ≤ k ∧ k ≤ K ∧ i = .int .i64 k ∧ Hid (From W wr)) (fun i _ => K - (intOf i).toNat)
  case atStart => exact ⟨1, Nat.le_refl _, hpos, rfl, HR0⟩
  case round =>
    clear HR0
    obtain ⟨k, hk1, hk, rfl, HR⟩ := hrel
    clear e0 e1
    replace HB := Lib.hid (HB.out.keep HR.out.below)
    replace HG := Lib.hid (HG.out.keep HR.out.below)
    have e0 := HG.out.c0
    have e1 := HG.out.c1
    have i1 : (k : Int) ≤ 7 := by omega
    cases hs : (cOf r m k).isSome
    · have hlt : k < K := by
        by_cases e : k = K
        · subst e; rw [HS.out] at hs; cases hs
        · omega
      have Hs := Lib.hid hs
      clear hs
      go_wp2_with fail
      refine (ColoringWith_v HG.out.gv hk1 (by omega)).mono ?_
      rintro e w5 ⟨A5, n5, c5, rfl, _, hb5⟩
      rw [Hs.out]
      clear e0 e1
      replace HB := Lib.hid (HB.out.keep hb5)
      replace HG := Lib.hid (HG.out.keep hb5)
      replace HR := Lib.hid (HR.out.keep hb5)
      clear hb5
      have e0 := HG.out.c0
      have e1 := HG.out.c1
      go_wp2
      go_roundw
      case rel => exact ⟨k + 1, by omega, by omega, by go_num, HR⟩
      case measure => (simp [intOf] <;> omega)
    · have hKe : k = K := by
        by_cases e : k < K
        · rw [HM.out k hk1 e] at hs; cases hs
        · omega
      have Hs := Lib.hid hs
      have HKe := Lib.hid hKe
      clear hs hKe
      go_wp2_with fail
      refine (ColoringWith_v HG.out.gv hk1 (by omega)).mono ?_
      rintro e w5 ⟨A5, n5, c5, rfl, _, hb5⟩
      rw [Hs.out]
      clear e0 e1
      replace HB := Lib.hid (HB.out.keep hb5)
      replace HG := Lib.hid (HG.out.keep hb5)
      replace HR := Lib.hid (HR.out.keep hb5)
      clear hb5
      have e0 := HG.out.c0
      have e1 := HG.out.c1
      go_wp2
      go_ret
      exact ⟨ret_int (by rw [HKe.out]), HB.out.below⟩
end
end Go.Proofs.YtmkahbephidmbaaGreat

/-
  Contracts: a cover by cliques: the program's.
-/
namespace Go.Proofs.YtmkahbephidmbaaGreat
open Go.RowKit

section
variable {A : Option Addr} {m c : Nat} {r : Nat → Nat}
theorem made_own (w : World) (n : Nat) (hn : n ≤ 1048576) : ∃ W : World, (Instr.makeSlice 22 (.int .i64 (n : Int)) (.int .i64 (n : Int))).run Tryz.prog w = .ok (.slice (some ⟨w.heap.size, 0, none⟩) n n) W ∧ Own W w.heap.size (w.heap.size + 1) 3 1 (some ⟨w.heap.size, 0, none⟩) n n (fun _ => .int .i64 0) ∧ Below w.heap.size w W := by
  refine ⟨_, run_make_row' (P := Tryz.prog) 22 3 (.int .i64 0) 8 Tryz.underlying22 info_int rfl .i64 .i64 n (by omega) (by omega) w, ?_, (Below.refl _ _).alloc (Nat.le_refl _) _⟩
  obtain ⟨cc, q1, q2, q3⟩ := World.rowIs_made w (.int .i64 0) n 3
  exact .inr ⟨_, cc, rfl, Nat.le_refl _, Nat.lt_succ_self _, q1, Nat.le_refl _, by unfold maxLen; omega, by omega, fun j hj => by rw [q3 j (by omega)]⟩
end
end Go.Proofs.YtmkahbephidmbaaGreat

/-
  Plain: a graph made pair by pair.
-/
namespace Go.Proofs.YtmkahbephidmbaaGreat
open Go.RowKit

def bmK (P : Nat → Bool) : Nat → Nat
  | 0 => 0
  | n + 1 => if P n = true then bmK P n ||| 2 ^ n else bmK P n
theorem bmK_bit {P : Nat → Bool} {i : Nat} : ∀ n, (bmK P n).testBit i = (decide (i < n) && P i) := by
  intro n
  induction n with
  | zero => simp [bmK]
  | succ n ih =>
    rw [bmK]
    by_cases h : P n = true
    · rw [if_pos h, Nat.testBit_or, ih, Nat.testBit_two_pow]
      by_cases e : n = i
      · subst e; simp [h]
      · by_cases e2 : i < n
        · simp [e, e2, show i < n + 1 by omega]
        · simp [e, e2, show ¬ i < n + 1 by omega]
    · rw [if_neg h, ih]
      by_cases e : i = n
      · subst e; simp [h]
      · by_cases e2 : i < n
        · simp [e2, show i < n + 1 by omega]
        · simp [e2, show ¬ i < n + 1 by omega]
theorem bmK_lt {P : Nat → Bool} : ∀ n, bmK P n < 2 ^ n := by
  intro n
  induction n with
  | zero => exact Nat.one_pos
  | succ n ih =>
    have h1 : 2 ^ n < 2 ^ (n + 1) := Nat.pow_lt_pow_right (by omega) (Nat.lt_succ_self _)
    rw [bmK]
    split
    · exact Nat.or_lt_two_pow (by omega) h1
    · omega
end Go.Proofs.YtmkahbephidmbaaGreat
