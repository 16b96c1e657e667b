/-
  Contracts: the set of a list of vertices; are numbers different vertices? are they an order? Both programs'.
-/
import Derived.Test.YtnnlmdenffnjbaaQbListZ
import Derived.Test.YtnnlmdenffnjbaaQbSet2S
namespace Go.Proofs.Ytnnlmdenffnjbaa
open Go.RowKit

theorem or_of_add {a u : Nat} (h : a.testBit u = false) : a + 2 ^ u = a ||| 2 ^ u := by
  rw [add_pow_bit h]
  apply Nat.eq_of_testBit_eq
  intro i
  rw [Nat.testBit_or, Nat.testBit_xor, Nat.testBit_two_pow]
  by_cases hi : u = i
  · subst hi; simp [h]
  · simp [hi]
theorem take_snocz {l : List Int} {k : Nat} (hk : k < l.length) : l.take (k + 1) = l.take k ++ [l.getD k 0] := by
  have e : l.getD k 0 = l[k] := by simp [List.getD, hk]
  rw [e, List.take_succ_eq_append_getElem hk]
theorem VZ.step {m : Nat} {l : List Int} {k : Nat} (hk : k < l.length) (h : VZ m (l.take k)) (h0 : 0 ≤ l.getD k 0) (h1 : l.getD k 0 < m) (hn : l.getD k 0 ∉ l.take k) : VZ m (l.take (k + 1)) := by
  refine ⟨nodupz_take hk h.1 hn, fun v hv => ?_⟩
  rw [take_snocz hk, List.mem_append, List.mem_singleton] at hv
  rcases hv with hv | rfl
  · exact h.2 v hv
  · exact ⟨h0, h1⟩

end Go.Proofs.Ytnnlmdenffnjbaa
