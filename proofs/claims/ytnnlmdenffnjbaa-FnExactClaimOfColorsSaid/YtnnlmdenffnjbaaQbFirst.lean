/-
  Contracts: the program's search for the first list of different vertices, whatever its two tests are; the second test may write memory of its own.
-/
import Derived.Test.YtnnlmdenffnjbaaQbV
import Derived.Test.YtnnlmdenffnjbaaQbGC
import Derived.Laws.EntriesVeiled
namespace Go.Proofs.Ytnnlmdenffnjbaa
open Go.RowKit

section
variable {m k v : Nat} {may hol : List Nat → Bool} {l : List Nat}
end

/-- The captured variables. -/
structure EnvF (H m n : Nat) (fm fh : FuncId) (cm ch : Array Value) (z : World) : Prop where
  n : z.cell? ⟨H + 1, 0, none⟩ = some (.int .i64 n)
  g0 : z.cell? ⟨H, 0, none⟩ = some (.int .i64 m)
  may : z.cell? ⟨H + 2, 0, none⟩ = some (.func (.func fm) #[] cm)
  holds : z.cell? ⟨H + 3, 0, none⟩ = some (.func (.func fh) #[] ch)
  srch : z.cell? ⟨H + 4, 0, none⟩ = some (.func (.func 209) #[] #[.pointer (some ⟨H + 1, 0, none⟩), .pointer (some ⟨H + 3, 0, none⟩), .pointer (some ⟨H, 0, none⟩), .pointer (some ⟨H + 2, 0, none⟩), .pointer (some ⟨H + 4, 0, none⟩)])
theorem EnvF.keep {H m n lo hi : Nat} {fm fh : FuncId} {cm ch : Array Value} {z z' : World} (h : EnvF H m n fm fh cm ch z) (hf : Fr lo hi z z') (hH : hi ≤ H) : EnvF H m n fm fh cm ch z' := by
  have k : ∀ {b o : Nat} {v : Value}, H ≤ b → z.cell? ⟨b, o, none⟩ = some v → z'.cell? ⟨b, o, none⟩ = some v := fun hb e => frC_ hf e (World.block_lt_of_cell? _ _ e) (.inr (by omega))
  exact ⟨k (by omega) h.n, k (by omega) h.g0, k (by omega) h.may, k (by omega) h.holds, k (by omega) h.srch⟩

section
variable {m n H lo hi : Nat} {fm fh : FuncId} {cm ch : Array Value} {may hol : List Nat → Bool} {J : List (List Nat) → World → Prop}
end
end Go.Proofs.Ytnnlmdenffnjbaa
