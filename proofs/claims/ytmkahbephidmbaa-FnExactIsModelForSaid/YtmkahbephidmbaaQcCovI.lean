/-
  Contracts: a cover by cliques: the program's.
-/
import Derived.Test.YtmkahbephidmbaaQcListS
import Derived.Deep.QuietTactic
import Derived.BigQuiet
import Derived.Test.YtmkahbephidmbaaQcTake
import Derived.Test.YtmkahbephidmbaaQcV
import Derived.Test.YtmkahbephidmbaaQcGC
import Derived.Laws.EntriesVeiled
import Derived.Test.YtmkahbephidmbaaQcSet2P
import Derived.Test.YtmkahbephidmbaaQcSet2I
namespace Go.Proofs.Ytmkahbephidmbaa
open Go.RowKit

section
variable {A : Option Addr} {m c : Nat} {r : Nat → Nat}
theorem made_own (w : World) (n : Nat) (hn : n ≤ 1048576) : ∃ W : World, (Instr.makeSlice 22 (.int .i64 (n : Int)) (.int .i64 (n : Int))).run Try.prog w = .ok (.slice (some ⟨w.heap.size, 0, none⟩) n n) W ∧ Own W w.heap.size (w.heap.size + 1) 3 1 (some ⟨w.heap.size, 0, none⟩) n n (fun _ => .int .i64 0) ∧ Below w.heap.size w W := by
  refine ⟨_, run_make_row' (P := Try.prog) 22 3 (.int .i64 0) 8 Try.underlying22 info_int rfl .i64 .i64 n (by omega) (by omega) w, ?_, (Below.refl _ _).alloc (Nat.le_refl _) _⟩
  obtain ⟨cc, q1, q2, q3⟩ := World.rowIs_made w (.int .i64 0) n 3
  exact .inr ⟨_, cc, rfl, Nat.le_refl _, Nat.lt_succ_self _, q1, Nat.le_refl _, by unfold maxLen; omega, by omega, fun j hj => by rw [q3 j (by omega)]⟩
end
end Go.Proofs.Ytmkahbephidmbaa
