/-
  The contracts of IsObstacleFor in the words of the law.
-/
import Derived.Test.YtnnlmdenffnjbaaQaObForI
import Derived.Test.YtnnlmdenffnjbaaQaObForS
namespace Go.Proofs.Ytnnlmdenffnjbaa
open Go.RowKit

section
variable (s1 : Int) (A1 : Option Addr) (m1 c1 : Nat) (x1 : Nat → Int) (t2 : ByteArray) (A3 : Option Addr) (m3 c3 : Nat) (x3 : Nat → Int) (w : World) (B : Nat)
theorem IsObstacleFor_sL (h1 : Rd w B A1 m1 c1 x1) (h3 : Rd w B A3 m3 c3 x3) (hB : B ≤ w.heap.size) (hm1 : m1 ≤ 1048576) (hm3 : m3 ≤ 1048576) (_ : t2.size ≤ 1048576) :
    Calls Try.prog 35 #[.agg #[.int .i64 s1, .slice A1 m1 c1], .string t2, .slice A3 m3 c3] w fun e w' => e = .returned (.bool (obB s1 m1 x1 t2.toList ((List.range m3).map x3))) ∧ Below w.heap.size w w' :=
  IsObstacleFor_s s1 A1 m1 c1 x1 t2 A3 m3 c3 _ w ⟨h1.keep (Below.refl _ _) hB⟩ (LI.of h3 hB) hm1 hm3
theorem IsObstacleFor_iL (h1 : Rd w B A1 m1 c1 x1) (h3 : Rd w B A3 m3 c3 x3) (hB : B ≤ w.heap.size) (hm1 : m1 ≤ 1048576) (hm3 : m3 ≤ 1048576) (_ : t2.size ≤ 1048576) :
    Calls Try.prog 37 #[.agg #[.int .i64 s1, .slice A1 m1 c1], .string t2, .slice A3 m3 c3] w fun e w' => e = .returned (.bool (obB s1 m1 x1 t2.toList ((List.range m3).map x3))) ∧ Below w.heap.size w w' :=
  IsObstacleFor_i s1 A1 m1 c1 x1 t2 A3 m3 c3 _ w ⟨h1.keep (Below.refl _ _) hB⟩ (LI.of h3 hB) hm1 hm3
end
end Go.Proofs.Ytnnlmdenffnjbaa
