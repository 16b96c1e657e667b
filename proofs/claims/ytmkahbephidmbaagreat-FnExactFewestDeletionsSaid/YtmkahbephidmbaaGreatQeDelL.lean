/-
  The contracts of FewestDeletions and LargestInside in the words of the laws.
-/
import Derived.Test.YtmkahbephidmbaaGreatQeDelS
namespace Go.Proofs.YtmkahbephidmbaaGreat
open Go.RowKit

theorem lsV_eq (o : Option Nat) : lsV o = .tuple #[.int .i64 ((o.getD 0 : Nat) : Int), .bool o.isSome] := by cases o <;> rfl
section
variable (s1 : Int) (A1 : Option Addr) (m1 c1 : Nat) (x1 : Nat → Int) (t2 : ByteArray) (w : World) (B : Nat)
theorem FewestDeletions_sL (h1 : Rd w B A1 m1 c1 x1) (hB : B ≤ w.heap.size) (hm1 : m1 ≤ 1048576) (_ : t2.size ≤ 1048576) :
    Calls Tryz.prog 26 #[.agg #[.int .i64 s1, .slice A1 m1 c1], .string t2] w fun e w' => e = .returned (.tuple #[.int .i64 (((dlX s1 m1 x1 t2.toList).getD 0 : Nat) : Int), .bool (dlX s1 m1 x1 t2.toList).isSome]) ∧ Below w.heap.size w w' := by
  have := FewestDeletions_s s1 A1 m1 c1 x1 t2 w ⟨h1.keep (Below.refl _ _) hB⟩ hm1
  rwa [lsV_eq] at this
theorem FewestDeletions_iL (h1 : Rd w B A1 m1 c1 x1) (hB : B ≤ w.heap.size) (hm1 : m1 ≤ 1048576) (_ : t2.size ≤ 1048576) :
    Calls Tryz.prog 27 #[.agg #[.int .i64 s1, .slice A1 m1 c1], .string t2] w fun e w' => e = .returned (.tuple #[.int .i64 (((dlX s1 m1 x1 t2.toList).getD 0 : Nat) : Int), .bool (dlX s1 m1 x1 t2.toList).isSome]) ∧ Below w.heap.size w w' := by
  have := FewestDeletions_i s1 A1 m1 c1 x1 t2 w ⟨h1.keep (Below.refl _ _) hB⟩ hm1
  rwa [lsV_eq] at this
theorem LargestInside_sL (h1 : Rd w B A1 m1 c1 x1) (hB : B ≤ w.heap.size) (hm1 : m1 ≤ 1048576) (_ : t2.size ≤ 1048576) :
    Calls Tryz.prog 28 #[.agg #[.int .i64 s1, .slice A1 m1 c1], .string t2] w fun e w' => e = .returned (.int .i64 (laI m1 (dlX s1 m1 x1 t2.toList))) ∧ Below w.heap.size w w' :=
  LargestInside_s s1 A1 m1 c1 x1 t2 w ⟨h1.keep (Below.refl _ _) hB⟩ hm1
theorem LargestInside_iL (h1 : Rd w B A1 m1 c1 x1) (hB : B ≤ w.heap.size) (hm1 : m1 ≤ 1048576) (_ : t2.size ≤ 1048576) :
    Calls Tryz.prog 29 #[.agg #[.int .i64 s1, .slice A1 m1 c1], .string t2] w fun e w' => e = .returned (.int .i64 (laI m1 (dlX s1 m1 x1 t2.toList))) ∧ Below w.heap.size w w' :=
  LargestInside_i s1 A1 m1 c1 x1 t2 w ⟨h1.keep (Below.refl _ _) hB⟩ hm1
end
end Go.Proofs.YtmkahbephidmbaaGreat
