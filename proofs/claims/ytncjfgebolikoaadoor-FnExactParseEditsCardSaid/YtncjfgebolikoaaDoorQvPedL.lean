/-
  Contracts: ParseEdits of both programs, in the law's form.
-/
import Derived.Test.YtncjfgebolikoaaDoorQvPedJ
import Derived.Test.YtncjfgebolikoaaDoorQvPedS
import Derived.Test.YtncjfgebolikoaaDoorQvDoor
import Derived.Shelf.Vars
namespace Go.Proofs.YtncjfgebolikoaaDoor
open Go.RowKit

/-- The library's variable holds some int. -/
def Mx (w : World) : Prop := ∃ m, w.cell? ⟨laySplit_ren.g 1, 0, none⟩ = some (.int .i64 m)
theorem Mx.keep {w w' : World} (h : Mx w) (hb : Below w.heap.size w w') : Mx w' := by
  obtain ⟨m, hm⟩ := h
  exact ⟨m, (hb.cell (World.block_lt_of_cell? w _ hm)).trans hm⟩
theorem mx_of {w : World} (h : w.ShapedOpen Tryd.prog) : Mx w :=
  Proofs.cell_of_shapedOpen_int (t := 3) (zero := #[.int .i64 0]) h (of_decide_eq_true (by kernel_rfl)) (by kernel_rfl) rfl (by kernel_rfl) (by kernel_rfl) Tryd.underlying3
theorem ParseEdits_iL (s : ByteArray) (w : World) (hs : s.size ≤ 1048576) (h : Mx w) :
    Calls Tryd.prog 17 #[.string s] w fun e w' => ∃ A' c', e = .returned (.tuple #[.slice A' (peN s) c', .bool (peB s)]) ∧ Own w' w.heap.size w'.heap.size 49 3 A' (peN s) c' (eds (peA s) (peV s) (peU s)) ∧ Below w.heap.size w w' := by
  obtain ⟨m, hm⟩ := h
  exact ParseEdits_i s m w hs hm (World.block_lt_of_cell? w _ hm)
theorem ParseEdits_sL (s : ByteArray) (w : World) (hs : s.size ≤ 1048576) :
    Calls Tryd.prog 16 #[.string s] w fun e w' => ∃ A' c', e = .returned (.tuple #[.slice A' (peN s) c', .bool (peB s)]) ∧ Own w' w.heap.size w'.heap.size 49 3 A' (peN s) c' (eds (peA s) (peV s) (peU s)) ∧ Below w.heap.size w w' := ParseEdits_s s w hs
theorem peN_le {s : ByteArray} : peN s ≤ 12 := by
  unfold peN
  split
  · omega
  · split
    · rename_i h
      have h2 := h.2
      by_cases hb : 12 < (peW s).length
      · exfalso
        rw [fmO_many hb] at h2
        have : peW s = [[]] := by rw [← h2]; rfl
        have := h.1 [] (by rw [this]; simp)
        simp at this
      · omega
    · omega
end Go.Proofs.YtncjfgebolikoaaDoor
