/-
  Contract: the program's ParseEdits.
-/
import Derived.Test.YtncjfgebolikoaaDoorQvShlS
namespace Go.Proofs.YtncjfgebolikoaaDoor
open Go.RowKit

noncomputable def peN (s : ByteArray) : Nat := if s.toList = [110, 111, 110, 101] then 0 else @ite _ (peOk s) (Classical.propDecidable _) (peW s).length 0
noncomputable def peB (s : ByteArray) : Bool := if s.toList = [110, 111, 110, 101] then true else @decide (peOk s) (Classical.propDecidable _)
theorem pe_none {s : ByteArray} (h : s.toList = [110, 111, 110, 101]) : peN s = 0 ∧ peB s = true := ⟨if_pos h, if_pos h⟩
theorem pe_no {s : ByteArray} (h : ¬ s.toList = [110, 111, 110, 101]) (h2 : ¬ peOk s) : peN s = 0 ∧ peB s = false := by
  unfold peN peB
  rw [if_neg h, if_neg h]
  exact ⟨@if_neg _ (Classical.propDecidable _) h2 _ _ _, @decide_eq_false _ (Classical.propDecidable _) h2⟩
theorem pe_yes {s : ByteArray} (h : ¬ s.toList = [110, 111, 110, 101]) (h2 : peOk s) : peN s = (peW s).length ∧ peB s = true := by
  unfold peN peB
  rw [if_neg h, if_neg h]
  exact ⟨@if_pos _ (Classical.propDecidable _) h2 _ _ _, @decide_eq_true _ (Classical.propDecidable _) h2⟩
theorem own_nilE (w : World) (lo hi : Nat) (a : Nat → Bool) (v u : Nat → Int) : Own w lo hi 49 3 none 0 0 (eds a v u) := .inl ⟨rfl, rfl, rfl⟩
theorem own_newE (w : World) (a : Nat → Bool) (v u : Nat → Int) : Own (w.alloc (Obj.cells #[] 49)) w.heap.size (w.alloc (Obj.cells #[] 49)).heap.size 49 3 (some ⟨w.heap.size, 0, none⟩) 0 0 (eds a v u) :=
  .inr ⟨w.heap.size, #[], rfl, Nat.le_refl _, by simp, heap_alloc_new w _, Nat.le_refl _, by unfold maxLen; omega, rfl, fun j hj => absurd hj (by omega)⟩
/-- A word of three bytes, as the edit that it reads as. -/
theorem pe_word {s P : ByteArray} {k : Nat} (hP : P.data.toList = (peW s).getD k []) (h3 : P.size = 3) : peA s k = (((P[0]'(by omega)).toNat : Int) == 43) ∧ peV s k = (((P[1]'(by omega)).toNat : Int) - 48) ∧ peU s k = (((P[2]'(by omega)).toNat : Int) - 48) := by
  unfold peA peV peU
  rw [← hP]
  obtain ⟨⟨l⟩⟩ := P
  match l, h3 with
  | [x, y, z], _ =>
    refine ⟨?_, rfl, rfl⟩
    show (x == 43) = (((x.toNat : Nat) : Int) == 43)
    by_cases hx : x = 43
    · subst hx; rfl
    · rw [beq_eq_false_iff_ne.2 hx]
      symm
      rw [beq_eq_false_iff_ne]
      intro h
      refine hx (UInt8.toNat_inj.1 ?_)
      show _ = 43
      omega
theorem wrB (x : UInt8) : IntKind.i64.wrap (IntKind.i64.wrap (x.toNat : Int) - 48) = (x.toNat : Int) - 48 := by
  have := x.toNat_lt
  rw [Go.IntWalk.i64_in (x.toNat : Int) (by omega), Go.IntWalk.i64_in _ (by omega)]
end Go.Proofs.YtncjfgebolikoaaDoor
