/-
  Several texts in one: words for memory, plain laws and contracts that the later texts lean on.
-/
import Derived.Test.YtmkahbephidmbaaGreatQhFsI
import Derived.Test.YtmkahbephidmbaaGreatQhOptS
import Derived.Test.YtmkahbephidmbaaGreatQhSplS
import Derived.ChangeMaps5
import Derived.Test.YtmkahbephidmbaaGreatQhCage
/-
  The contracts of FindSandwich in the words of the law.
-/
namespace Go.Proofs.YtmkahbephidmbaaGreat
open Go.RowKit

noncomputable def fsZ (s1 : Int) (m1 : Nat) (x1 : Nat → Int) (s2 : Int) (m2 : Nat) (x2 : Nat → Int) (s : List UInt8) : Int := (fsN s1 m1 x1 s2 m2 x2 s : Nat)
theorem fsN_le (s1 : Int) (m1 : Nat) (x1 : Nat → Int) (s2 : Int) (m2 : Nat) (x2 : Nat → Int) (s : List UInt8) : fsN s1 m1 x1 s2 m2 x2 s ≤ m2 := by
  unfold fsN
  split <;> omega
section
variable (s1 : Int) (A1 : Option Addr) (m1 c1 : Nat) (x1 : Nat → Int) (s2 : Int) (A2 : Option Addr) (m2 c2 : Nat) (x2 : Nat → Int) (t3 : ByteArray) (w : World) (B : Nat)
theorem FindSandwich_sL (h1 : Rd w B A1 m1 c1 x1) (h2 : Rd w B A2 m2 c2 x2) (hB : B ≤ w.heap.size) (hm1 : m1 ≤ 1048576) (hm2 : m2 ≤ 1048576) (_ : t3.size ≤ 1048576) :
    Calls Tryz.prog 41 #[.agg #[.int .i64 s1, .slice A1 m1 c1], .agg #[.int .i64 s2, .slice A2 m2 c2], .string t3] w fun e w' => ∃ A' c', e = .returned (.tuple #[.agg #[.int .i64 (fsZ s1 m1 x1 s2 m2 x2 t3.toList), .slice A' (fsN s1 m1 x1 s2 m2 x2 t3.toList) c'], .bool (fsO s1 m1 x1 s2 m2 x2 t3.toList).isSome]) ∧ Own w' w.heap.size w'.heap.size 3 1 A' (fsN s1 m1 x1 s2 m2 x2 t3.toList) c' (fun j => .int .i64 (fsX s1 m1 x1 s2 m2 x2 t3.toList j)) ∧ Below w.heap.size w w' :=
  FindSandwich_s s1 A1 m1 c1 x1 s2 A2 m2 c2 x2 t3 w ⟨h1.keep (Below.refl _ _) hB⟩ ⟨h2.keep (Below.refl _ _) hB⟩ hm1 hm2
theorem FindSandwich_iL (h1 : Rd w B A1 m1 c1 x1) (h2 : Rd w B A2 m2 c2 x2) (hB : B ≤ w.heap.size) (hm1 : m1 ≤ 1048576) (hm2 : m2 ≤ 1048576) (_ : t3.size ≤ 1048576) :
    Calls Tryz.prog 42 #[.agg #[.int .i64 s1, .slice A1 m1 c1], .agg #[.int .i64 s2, .slice A2 m2 c2], .string t3] w fun e w' => ∃ A' c', e = .returned (.tuple #[.agg #[.int .i64 (fsZ s1 m1 x1 s2 m2 x2 t3.toList), .slice A' (fsN s1 m1 x1 s2 m2 x2 t3.toList) c'], .bool (fsO s1 m1 x1 s2 m2 x2 t3.toList).isSome]) ∧ Own w' w.heap.size w'.heap.size 3 1 A' (fsN s1 m1 x1 s2 m2 x2 t3.toList) c' (fun j => .int .i64 (fsX s1 m1 x1 s2 m2 x2 t3.toList j)) ∧ Below w.heap.size w w' :=
  FindSandwich_i s1 A1 m1 c1 x1 s2 A2 m2 c2 x2 t3 w ⟨h1.keep (Below.refl _ _) hB⟩ ⟨h2.keep (Below.refl _ _) hB⟩ hm1 hm2
end
end Go.Proofs.YtmkahbephidmbaaGreat

/-
  How arguments read: claims; strings.
-/
namespace Go.Proofs.YtmkahbephidmbaaGreat
open Go.ChangeShapes Go.WideShapes Go.ChangeAt Go.RowKit Go.Deep

section
variable {H : Type} {enc : TypeId × Value → H} {P : Program} {w : World} {base : Nat} {spare : Nat → Bool} {held : Bool}
end

section
variable {H : Type} {enc : TypeId × Value → H} {w : World} {base : Nat} {spare : Nat → Bool} {held : Bool}
set_option maxRecDepth 100000 in
theorem open_string_arg {r : Reach} {b0 : Nat} {vv : Value} {d : DataW H} {p : List MemPlace} (hv : Value.okWide Tryz.prog w r b0 9 vv)
    (h : DataW.Trod enc Tryz.prog w base spare held 9 vv d p) : ∃ t : ByteArray, vv = .string t ∧ t.size ≤ maxLen := by
  obtain ⟨t, e, _, _, hl⟩ := Go.ChangeMaps.open_string Tryz.underlying9 hv h
  exact ⟨t, e, hl⟩
end
end Go.Proofs.YtmkahbephidmbaaGreat

/-
  Contracts: the classes' names, of both programs (in other words than text Names); lists of strings.
-/
namespace Go.Proofs.YtmkahbephidmbaaGreat
open Go.RowKit

/-- The names, in order. -/
def nmL : List ByteArray := [⟨#[99, 104, 111, 114, 100, 97, 108]⟩, ⟨#[105, 110, 116, 101, 114, 118, 97, 108]⟩, ⟨#[112, 114, 111, 112, 101, 114]⟩, ⟨#[99, 111, 103, 114, 97, 112, 104]⟩, ⟨#[115, 112, 108, 105, 116]⟩, ⟨#[116, 104, 114, 101, 115, 104, 111, 108, 100]⟩, ⟨#[98, 105, 112, 97, 114, 116, 105, 116, 101]⟩, ⟨#[115, 116, 114, 111, 110, 103]⟩, ⟨#[112, 101, 114, 102, 101, 99, 116]⟩]
def nm (j : Nat) : ByteArray := nmL.getD j ⟨#[]⟩
theorem nm_own (w : World) : Own (w.alloc (Obj.cells #[.string ⟨#[99, 104, 111, 114, 100, 97, 108]⟩, .string ⟨#[105, 110, 116, 101, 114, 118, 97, 108]⟩, .string ⟨#[112, 114, 111, 112, 101, 114]⟩, .string ⟨#[99, 111, 103, 114, 97, 112, 104]⟩, .string ⟨#[115, 112, 108, 105, 116]⟩, .string ⟨#[116, 104, 114, 101, 115, 104, 111, 108, 100]⟩, .string ⟨#[98, 105, 112, 97, 114, 116, 105, 116, 101]⟩, .string ⟨#[115, 116, 114, 111, 110, 103]⟩, .string ⟨#[112, 101, 114, 102, 101, 99, 116]⟩] 9)) w.heap.size (w.heap.size + 1) 9 1 (some ⟨w.heap.size, 0, none⟩) 9 9 (strs nm) :=
  .inr ⟨w.heap.size, _, rfl, Nat.le_refl _, Nat.lt_succ_self _, heap_alloc_new w _, Nat.le_refl _, by unfold maxLen; omega, rfl, fun j hj => by
    have hc : j = 0 ∨ j = 1 ∨ j = 2 ∨ j = 3 ∨ j = 4 ∨ j = 5 ∨ j = 6 ∨ j = 7 ∨ j = 8 := by omega
    rcases hc with rfl | rfl | rfl | rfl | rfl | rfl | rfl | rfl | rfl <;> rfl⟩

set_option maxRecDepth 100000 in
set_option maxHeartbeats 1000000 in
theorem ClassNames_iv (w : World) : Calls Tryz.prog 105 #[] w fun e w' => ∃ A c, e = .returned (.slice A 9 c) ∧ Own w' w.heap.size w'.heap.size 9 1 A 9 c (strs nm) ∧ Below w.heap.size w w' := by
  have H := Lib.hid (nm_own w)
  go_enter Tryz.func105, Tryz.ntmps105
  go_wp2
  go_ret
  exact ⟨_, 9, rfl, H.out.mono (Nat.le_refl _) (by simp), (Below.refl _ _).alloc (Nat.le_refl _) _⟩

set_option maxRecDepth 100000 in
set_option maxHeartbeats 1000000 in
theorem ClassNames_sv (w : World) : Calls Tryz.prog 104 #[] w fun e w' => ∃ A c, e = .returned (.slice A 9 c) ∧ Own w' w.heap.size w'.heap.size 9 1 A 9 c (strs nm) ∧ Below w.heap.size w w' := by
  have H := Lib.hid (nm_own w)
  go_enter Tryz.func104, Tryz.ntmps104
  go_wp2
  go_ret
  exact ⟨_, 9, rfl, H.out.mono (Nat.le_refl _) (by simp), (Below.refl _ _).alloc (Nat.le_refl _) _⟩

end Go.Proofs.YtmkahbephidmbaaGreat
