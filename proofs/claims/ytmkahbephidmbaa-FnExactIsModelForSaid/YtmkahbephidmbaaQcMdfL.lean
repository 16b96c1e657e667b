/-
  The contracts of IsModelFor in the words of the law.
-/
import Derived.Test.YtmkahbephidmbaaQcMdfI
import Derived.Test.YtmkahbephidmbaaQcMdfS
namespace Go.Proofs.Ytmkahbephidmbaa
open Go.RowKit

section
variable (s1 : Int) (A1 : Option Addr) (m1 c1 : Nat) (x1 : Nat → Int) (t2 : ByteArray) (A3 : Option Addr) (m3 c3 : Nat) (x3 : Nat → Int) (A4 : Option Addr) (m4 c4 : Nat) (x4 : Nat → Int) (w : World) (B : Nat)
theorem IsModelFor_sL (h1 : Rd w B A1 m1 c1 x1) (h3 : Rd w B A3 m3 c3 x3) (h4 : Rd w B A4 m4 c4 x4) (hB : B ≤ w.heap.size) (hm1 : m1 ≤ 1048576) (hm3 : m3 ≤ 1048576) (hm4 : m4 ≤ 1048576) (_ : t2.size ≤ 1048576) :
    Calls Try.prog 5 #[.agg #[.int .i64 s1, .slice A1 m1 c1], .string t2, .slice A3 m3 c3, .slice A4 m4 c4] w fun e w' => e = .returned (.bool (mfB s1 m1 x1 t2.toList ((List.range m3).map x3) ((List.range m4).map x4))) ∧ Below w.heap.size w w' :=
  IsModelFor_s s1 A1 m1 c1 x1 t2 A3 m3 c3 _ A4 m4 c4 _ w ⟨h1.keep (Below.refl _ _) hB⟩ (LI.of h3 hB) (LI.of h4 hB) hm1 hm3 hm4
theorem IsModelFor_iL (h1 : Rd w B A1 m1 c1 x1) (h3 : Rd w B A3 m3 c3 x3) (h4 : Rd w B A4 m4 c4 x4) (hB : B ≤ w.heap.size) (hm1 : m1 ≤ 1048576) (hm3 : m3 ≤ 1048576) (hm4 : m4 ≤ 1048576) (_ : t2.size ≤ 1048576) :
    Calls Try.prog 8 #[.agg #[.int .i64 s1, .slice A1 m1 c1], .string t2, .slice A3 m3 c3, .slice A4 m4 c4] w fun e w' => e = .returned (.bool (mfB s1 m1 x1 t2.toList ((List.range m3).map x3) ((List.range m4).map x4))) ∧ Below w.heap.size w w' :=
  IsModelFor_i s1 A1 m1 c1 x1 t2 A3 m3 c3 _ A4 m4 c4 _ w ⟨h1.keep (Below.refl _ _) hB⟩ (LI.of h3 hB) (LI.of h4 hB) hm1 hm3 hm4
end
end Go.Proofs.Ytmkahbephidmbaa
