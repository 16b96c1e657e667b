/-
  How arguments read: claims; strings.
-/
import Derived.Test.YtncjfgebolikoaaDoorQvGL
import Derived.Test.YtncjfgebolikoaaDoorQvClaim
import Derived.ChangeMaps5
namespace Go.Proofs.YtncjfgebolikoaaDoor
open Go.ChangeShapes Go.WideShapes Go.ChangeAt Go.RowKit Go.Deep

section
variable {H : Type} {enc : TypeId × Value → H} {P : Program} {w : World} {base : Nat} {spare : Nat → Bool} {held : Bool}
end

section
variable {H : Type} {enc : TypeId × Value → H} {w : World} {base : Nat} {spare : Nat → Bool} {held : Bool}
set_option maxRecDepth 100000 in
theorem open_string_arg {r : Reach} {b0 : Nat} {vv : Value} {d : DataW H} {p : List MemPlace} (hv : Value.okWide Tryd.prog w r b0 9 vv)
    (h : DataW.Trod enc Tryd.prog w base spare held 9 vv d p) : ∃ t : ByteArray, vv = .string t ∧ t.size ≤ maxLen := by
  obtain ⟨t, e, _, _, hl⟩ := Go.ChangeMaps.open_string Tryd.underlying9 hv h
  exact ⟨t, e, hl⟩
end
end Go.Proofs.YtncjfgebolikoaaDoor
