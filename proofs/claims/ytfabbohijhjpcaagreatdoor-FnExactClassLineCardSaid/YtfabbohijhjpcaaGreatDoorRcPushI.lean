/-
  Several texts in one.
-/
import Derived.Test.YtfabbohijhjpcaaGreatDoorRcLexI
import Derived.Test.YtfabbohijhjpcaaGreatDoorRcGA
import Derived.Test.YtfabbohijhjpcaaGreatDoorRcGB
/-
-/
namespace Go.Proofs.YtfabbohijhjpcaaGreatDoor
open Go.RowKit
def frN (r : Nat → Nat) (set s : Nat) : Nat → Nat → Int
 | 0, _ => -1
 | n + 1, v => if (gro r set s n).testBit v = true ∧ frN r set s n v < 0 then (n : Int) else frN r set s n v
section
variable {r : Nat → Nat} {set s : Nat}
theorem fr_spec (v : Nat) : ∀ n, ((∀ k, k < n → (gro r set s k).testBit v = false) ∧ frN r set s n v = -1) ∨ ∃ k : Nat, k < n ∧ (gro r set s k).testBit v = true ∧ (∀ j, j < k → (gro r set s j).testBit v = false) ∧ frN r set s n v = (k : Int) := by
 intro n
 induction n with
 | zero => exact .inl ⟨fun k hk => absurd hk (by omega), rfl⟩
 | succ n ih =>
   rcases ih with ⟨h1, h2⟩ | ⟨k, h1, h2, h3, h4⟩
   ·cases hb : (gro r set s n).testBit v
    ·refine .inl ⟨fun k hk => ?_, ?_⟩
     ·by_cases e : k < n
      ·exact h1 k e
      ·obtain rfl : k = n := by omega
       exact hb
     ·rw [frN, if_neg (by rw [hb]; simp), h2]
    ·refine .inr ⟨n, Nat.lt_succ_self _, hb, h1, ?_⟩
     rw [frN, if_pos ⟨hb, by rw [h2]; omega⟩]
   ·refine .inr ⟨k, by omega, h2, h3, ?_⟩
    rw [frN, if_neg (by rw [h4]; omega), h4]
theorem fr_at {n v k : Nat} (hk : k < n) (h1 : (gro r set s k).testBit v = true) (h2 : ∀ j, j < k → (gro r set s j).testBit v = false) : frN r set s n v = (k : Int) := by
 rcases fr_spec (r := r) (set := set) (s := s) v n with ⟨h3, _⟩ | ⟨i, h3, h4, h5, h6⟩
 ·rw [h3 k hk] at h1; cases h1
 ·by_cases e : i < k
  ·rw [h2 i e] at h4; cases h4
  ·by_cases e2 : k < i
   ·rw [h5 k e2] at h1; cases h1
   ·rw [h6]; omega
theorem fr_back {m n a k : Nat} (vg : VG m r) (hset : set < 2 ^ m) (h : Sub s set) (ha : a < m) (hf : frN r set s n a = ((k + 1 : Nat) : Int)) : ∃ v, v < m ∧ (r a).testBit v = true ∧ frN r set s n v = (k : Int) := by
 rcases fr_spec (r := r) (set := set) (s := s) a n with ⟨_, h1⟩ | ⟨i, h1, h2, h3, h4⟩
 ·rw [h1] at hf; omega
 ·obtain rfl : i = k + 1 := by rw [h4] at hf; omega
  obtain ⟨v, hv, hb⟩ := lyr_back vg hset h ha (in_lyr h (k + 1) h2 h3)
  rw [Nat.testBit_and, Bool.and_eq_true] at hb
  refine ⟨v, hv, hb.1, fr_at (by omega) (lyr_sub h k v hb.2) fun j hj => ?_⟩
  cases k with
  | zero => omega
  | succ k =>
    have h5 := (lyr_bit.1 hb.2).2.2
    cases h6 : (gro r set s j).testBit v
    ·rfl
    ·rw [gro_mono h (show j ≤ k by omega) v h6] at h5; cases h5
theorem fr_zero {n b a : Nat} (hf : frN r set (2 ^ b) n a = 0) : a = b := by
 rcases fr_spec (r := r) (set := set) (s := 2 ^ b) a n with ⟨_, h1⟩ | ⟨i, _, h2, _, h4⟩
 ·rw [h1] at hf; omega
 ·obtain rfl : i = 0 := by rw [h4] at hf; omega
  have h5 : (2 ^ b).testBit a = true := h2
  rw [Nat.testBit_two_pow] at h5
  have : b = a := by simpa using h5
  exact this.symm
theorem fr_reach {m a : Nat} (hm : m ≤ 7) (hset : set < 2 ^ m) (h : Sub s set) (h0 : s ≠ 0) : decide (frN r set s m a < 0) = !(part r set s).testBit a := by
 have hj : ∃ j, j < m ∧ gro r set s (j + 1) = gro r set s j := by
  apply Classical.byContradiction
  intro hn
  have := gro_le (r := r) (k := m) hm hset h h0 fun j hj e => hn ⟨j, hj, e⟩
  omega
 obtain ⟨j, hj, e⟩ := hj
 have e7 : part r set s = gro r set s j := gro_fix e 7 (by omega)
 rw [e7]
 rcases fr_spec (r := r) (set := set) (s := s) a m with ⟨h1, h2⟩ | ⟨i, h1, h2, h3, h4⟩
 ·rw [h1 j hj, h2]; rfl
 ·rw [h4]
  have h5 : (gro r set s j).testBit a = true := by
   by_cases hij : i ≤ j
   ·exact gro_mono h hij a h2
   ·rw [gro_fix e i (by omega)] at h2; exact h2
  rw [h5, decide_eq_false (by omega)]; rfl
end
end Go.Proofs.YtfabbohijhjpcaaGreatDoor

/-
-/
namespace Go.Proofs.YtfabbohijhjpcaaGreatDoor
open Go.RowKit
theorem wpList_pushI (W : World) {ops : Array Oper} {rest : List Oper} {o : Oper} {a : Act} {Q : Exit → Act → World → Prop} (hgd : o.guard = none) (s y : Operand)
 (ho : o.op = .call { callee := .builtin .append, args := #[s, y], argTypes := #[24, 24] })
 (lo hi : Nat) (A : Option Addr) (n c : Nat) (f : Nat → Int) (h : Own W lo hi 3 1 A n c (fun j => .int .i64 (f j))) (hlo : lo ≤ W.heap.size) (k : Int) (hk : f n = k) (hs : a.eval s = .slice A n c) (cx H : Nat) (hH : W.heap.size = H) (hy : a.eval y = .slice (some ⟨H, 0, none⟩) 1 cx)
 (hn : n ≤ 1073741824)
 (hK : ∀ g cap w', Own w' lo w'.heap.size 3 1 (some ⟨g, 0, none⟩) (n + 1) cap (fun j => .int .i64 (f j)) → Below lo W w' → wpList Tryz.prog ops Q rest (a.put o.dst (.slice (some ⟨g, 0, none⟩) (n + 1) cap)) w') :
 wpList Tryz.prog ops Q (o :: rest) a (W.alloc (Obj.cells #[.int .i64 k] 3)) := by
 subst hH
 have ha := h.alloc (Obj.cells #[.int .i64 k] 3)
 refine wpList_push (W.alloc (Obj.cells #[.int .i64 k] 3)) hgd s y 24 ho 3 _ 1 8 Tryz.underlying24 info_int rfl (by omega) lo hi A n c _ hs
  ha (by simp; omega) W.heap.size #[.int .i64 k] 3 (0, 0) cx (heap_alloc_new W _) hy rfl ?_ (by simp [Value.oneCell']) hn (by omega) ?_
 ·intro i hi
  obtain rfl : i = 0 := by omega
  simp [hk]
 ·intro g cap w' hp
  exact hK g cap w' hp.own (((Below.refl _ _).alloc hlo _).trans hp.below)
end Go.Proofs.YtfabbohijhjpcaaGreatDoor
