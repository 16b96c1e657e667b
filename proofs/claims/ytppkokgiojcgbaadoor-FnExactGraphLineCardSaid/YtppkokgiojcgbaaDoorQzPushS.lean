/-
  append of several texts onto a list of texts of the call's own; a joined list of texts.
-/
import Derived.Test.YtppkokgiojcgbaaDoorQzDecI
namespace Go.Proofs.YtppkokgiojcgbaaDoor
open Go.RowKit

/-- Join of such a list. -/
theorem join_own (g n c : Nat) (L : List ByteArray) (J sep : ByteArray) (w : World) (lo : Nat) (hL : L.length = n) (h : Own w lo w.heap.size 9 1 (some ⟨g, 0, none⟩) n c (stL L)) (hJ : Lib.join (L.map (·.data.toList)) sep.data.toList = J.data.toList) (hl : n ≤ 1048576) (hs : J.size ≤ 140737488355328) :
    Calls Tryd.prog 50 #[.slice (some ⟨g, 0, none⟩) n c, .string sep] w fun e w' => e = .returned (.string J) ∧ Below w.heap.size w w' := by
  subst hL
  have hg : g < w.heap.size := by
    rcases h.at_block with h2 | ⟨g2, h2, _, h3⟩
    · cases h2
    · cases h2; exact h3
  have K := join_any g 0 c L sep w (fun j x hx => by
    obtain ⟨hj, hx2⟩ := List.getElem?_eq_some_iff.1 hx
    obtain ⟨g2, e2, _, _, _, hc, _⟩ := h.at_ (by omega)
    cases e2
    rw [Nat.zero_add, hc j (by omega)]
    unfold stL
    simp [List.getD, hx]) hg (by omega) h.le (by
      show (Lib.join (L.map (·.data.toList)) sep.data.toList).length ≤ _
      rw [hJ]
      have : J.data.toList.length = J.size := by simp
      omega)
  refine K.mono fun e w' ⟨he, hb⟩ => ⟨?_, hb⟩
  rw [he]
  show Ending.returned (.string ⟨(Lib.join (L.map (·.data.toList)) sep.data.toList).toArray⟩) = _
  rw [hJ]
end Go.Proofs.YtppkokgiojcgbaaDoor
