/-
  Contracts: the classes' names, of both programs (in other words than text Names); lists of strings.
-/
import Derived.Test.YtppkokgiojcgbaaDoorQzGL
import Derived.Test.YtppkokgiojcgbaaDoorQzGA
namespace Go.Proofs.YtppkokgiojcgbaaDoor
open Go.RowKit

/-- A list of strings, place by place. -/
def stL (l : List ByteArray) (j : Nat) : Value := .string (l.getD j ⟨#[]⟩)
theorem stL_left {l : List ByteArray} {k : ByteArray} {j : Nat} (h : j < l.length) : stL (l ++ [k]) j = stL l j := by
  unfold stL
  simp [List.getD, List.getElem?_append_left h]
theorem stL_news {l : List ByteArray} {k : ByteArray} : ∀ i, i < 1 → (#[Value.string k] : Array Value)[i]? = some (stL (l ++ [k]) (l.length * 1 + i)) := by
  intro i hi
  have h0 : i = 0 := by omega
  subst h0
  unfold stL
  simp [List.getD]
end Go.Proofs.YtppkokgiojcgbaaDoor
