/-
  Contracts: orders in which all between two neighbors are neighbors of both: the program's test.
-/
import Derived.Test.YtppkokgiojcgbaaDoorQzSet2I
import Derived.Test.YtppkokgiojcgbaaDoorQzGC
import Derived.Test.YtppkokgiojcgbaaDoorQzFillS
namespace Go.Proofs.YtppkokgiojcgbaaDoor
open Go.RowKit

theorem has_q {s v : Nat} {b : Bool} (hs : s < 128) (hv : v < 64) (hb : s.testBit v = b) : ∀ w : World, Calls Tryd.prog 42 #[.int .i64 (s : Int), .int .i64 (v : Int)] w fun e w' => e = .returned (.bool b) ∧ w' = w := fun w =>
  (has_v w hs hv).mono fun _ _ ⟨h1, h2⟩ => ⟨by rw [h1, hb], h2.symm⟩
theorem LN.cell {w : World} {b o c j : Nat} {l : List Nat} (h : LN w (some ⟨b, o, none⟩) c l) (hj : j < l.length) : w.cell? ⟨b, o + j, none⟩ = some (.int .i64 (l.getD j 0 : Nat)) := by
  rw [h.at hj]; simp [List.getD, hj]
end Go.Proofs.YtppkokgiojcgbaaDoor
