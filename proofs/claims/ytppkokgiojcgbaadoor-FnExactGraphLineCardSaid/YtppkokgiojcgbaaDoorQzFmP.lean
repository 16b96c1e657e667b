/-
  What a list of edits reads as, as text: in plain words.
-/
import Derived.Test.YtppkokgiojcgbaaDoorQzFmS
import Derived.Test.YtppkokgiojcgbaaDoorQzSet2I
import Derived.Test.YtppkokgiojcgbaaDoorQzGC
import Derived.Lib.Join
namespace Go.Proofs.YtppkokgiojcgbaaDoor
open Go.RowKit

theorem dataApp (a b : ByteArray) : (a ++ b).data.toList = a.data.toList ++ b.data.toList := by simp
theorem join_snoc (xs : List (List UInt8)) (y sep : List UInt8) (h : xs ≠ []) : Lib.join (xs ++ [y]) sep = Lib.join xs sep ++ (sep ++ y) := by
  cases xs with
  | nil => exact absurd rfl h
  | cons x r =>
    rw [List.cons_append, Lib.join_cons, Lib.join_cons]
    simp [Lib.joinTail, List.append_assoc]
end Go.Proofs.YtppkokgiojcgbaaDoor
