/-
  Several texts in one: words for memory, plain laws and contracts that the later texts lean on.
-/
import Derived.Test.YtmkahbephidmbaaGreatQeHerI
import Derived.Test.YtmkahbephidmbaaGreatQeUmbP
import Derived.Test.YtmkahbephidmbaaGreatQeSplS
import Derived.ChangeMaps5
/-
  The contracts of IsHereditaryOn in the words of the law.
-/
namespace Go.Proofs.YtmkahbephidmbaaGreat
open Go.RowKit

section
variable (s1 : Int) (A1 : Option Addr) (m1 c1 : Nat) (x1 : Nat → Int) (t2 : ByteArray) (w : World) (B : Nat)
theorem IsHereditaryOn_sL (h1 : Rd w B A1 m1 c1 x1) (hB : B ≤ w.heap.size) (hm1 : m1 ≤ 1048576) (_ : t2.size ≤ 1048576) :
    Calls Tryz.prog 24 #[.agg #[.int .i64 s1, .slice A1 m1 c1], .string t2] w fun e w' => e = .returned (.bool (heB s1 m1 x1 t2.toList)) ∧ Below w.heap.size w w' :=
  IsHereditaryOn_s s1 A1 m1 c1 x1 t2 w ⟨h1.keep (Below.refl _ _) hB⟩ hm1
theorem IsHereditaryOn_iL (h1 : Rd w B A1 m1 c1 x1) (hB : B ≤ w.heap.size) (hm1 : m1 ≤ 1048576) (_ : t2.size ≤ 1048576) :
    Calls Tryz.prog 25 #[.agg #[.int .i64 s1, .slice A1 m1 c1], .string t2] w fun e w' => e = .returned (.bool (heB s1 m1 x1 t2.toList)) ∧ Below w.heap.size w w' :=
  IsHereditaryOn_i s1 A1 m1 c1 x1 t2 w ⟨h1.keep (Below.refl _ _) hB⟩ hm1
end
end Go.Proofs.YtmkahbephidmbaaGreat

/-
  How arguments read: claims; strings.
-/
namespace Go.Proofs.YtmkahbephidmbaaGreat
open Go.ChangeShapes Go.WideShapes Go.ChangeAt Go.RowKit Go.Deep

section
variable {H : Type} {enc : TypeId × Value → H} {P : Program} {w : World} {base : Nat} {spare : Nat → Bool} {held : Bool}
end

section
variable {H : Type} {enc : TypeId × Value → H} {w : World} {base : Nat} {spare : Nat → Bool} {held : Bool}
set_option maxRecDepth 100000 in
theorem open_string_arg {r : Reach} {b0 : Nat} {vv : Value} {d : DataW H} {p : List MemPlace} (hv : Value.okWide Tryz.prog w r b0 9 vv)
    (h : DataW.Trod enc Tryz.prog w base spare held 9 vv d p) : ∃ t : ByteArray, vv = .string t ∧ t.size ≤ maxLen := by
  obtain ⟨t, e, _, _, hl⟩ := Go.ChangeMaps.open_string Tryz.underlying9 hv h
  exact ⟨t, e, hl⟩
end
end Go.Proofs.YtmkahbephidmbaaGreat
