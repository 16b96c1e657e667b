/-
  Plain: the numbers of neighbours, in order.
-/
import Derived.Test.YtppkokgiojcgbaaDoorQzSrtP
import Derived.Test.YtppkokgiojcgbaaDoorQzGA
namespace Go.Proofs.YtppkokgiojcgbaaDoor

/-- How many neighbours the first k vertices have. -/
def dgK (r : Nat → Nat) (k : Nat) : List Nat := (List.range k).map fun v => cn (r v)
theorem dgK_len (r : Nat → Nat) (k : Nat) : (dgK r k).length = k := by unfold dgK; rw [List.length_map, List.length_range]
theorem dgK_succ (r : Nat → Nat) (k : Nat) : dgK r (k + 1) = dgK r k ++ [cn (r k)] := by unfold dgK; rw [List.range_succ, List.map_append]; rfl
/-- The numbers of neighbours in descending order. -/
def dgL (r : Nat → Nat) (m : Nat) : List Nat := (srt (dgK r m)).reverse
theorem dgL_len (r : Nat → Nat) (m : Nat) : (dgL r m).length = m := by unfold dgL; rw [List.length_reverse, srt_len, dgK_len]
theorem dgL_lt (r : Nat → Nat) (m j : Nat) : (dgL r m).getD j 0 < 8 := by
  by_cases hj : j < (dgL r m).length
  · rw [getD_mem2 hj]
    have h1 : (dgL r m)[j] ∈ dgL r m := List.getElem_mem _
    obtain ⟨y, hy⟩ : ∃ y, y = (dgL r m)[j] := ⟨_, rfl⟩
    rw [← hy] at h1 ⊢
    clear hy
    unfold dgL at h1
    rw [List.mem_reverse] at h1
    have h2 := (srt_perm _).subset h1
    unfold dgK at h2
    obtain ⟨v, _, e⟩ := List.mem_map.1 h2
    have := cn_le (r v)
    omega
  · have : (dgL r m).getD j 0 = 0 := by simp only [List.getD, List.getElem?_eq_none (Nat.le_of_not_lt hj), Option.getD_none]
    omega
end Go.Proofs.YtppkokgiojcgbaaDoor
