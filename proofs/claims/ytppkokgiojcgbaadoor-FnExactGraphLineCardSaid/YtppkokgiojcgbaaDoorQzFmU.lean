/-
  Contract: the program's FormatEdits.
-/
import Derived.Test.YtppkokgiojcgbaaDoorQzFmP
import Derived.Test.YtppkokgiojcgbaaDoorQzV
import Derived.Laws.Closers25b
import Derived.Test.YtppkokgiojcgbaaDoorQzShlF
import Derived.Test.YtppkokgiojcgbaaDoorQzNms
import Derived.Test.YtppkokgiojcgbaaDoorQzGA
namespace Go.Proofs.YtppkokgiojcgbaaDoor
open Go.RowKit

theorem stL_own0 (w : World) : Own (w.alloc (Obj.cells #[] 9)) w.heap.size (w.alloc (Obj.cells #[] 9)).heap.size 9 1 (some ⟨w.heap.size, 0, none⟩) 0 0 (stL []) :=
  .inr ⟨w.heap.size, #[], rfl, Nat.le_refl _, by simp, heap_alloc_new w _, Nat.le_refl _, by unfold maxLen; omega, rfl, fun j hj => absurd hj (by omega)⟩

end Go.Proofs.YtppkokgiojcgbaaDoor
