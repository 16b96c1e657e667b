/-
  No cell of these rows narrows 'for every input' (looked for: loops, veiled, ifaces, maps, wideKeys, modest, calm, conditions, laid).
  DERIVED. THE GIVEN ROWS OF THIS SEAT. 9 by the template 'for every input the law returns true; each argument reads behind the call as it read before'; 0 by the template 'total and deterministic' (their statements: YtnnlmdenffnjbaaTotals.lean).
  GIVEN WITH THE SEED: the statements are not yours to turn. If you find one false, say at which input.
  Laid BY PROGRAM, IN A SANDBOX (cutbox-rows.mjs): the forced cells as the released guide's own fill.sh prints them over the translation 74084c66f6cfa7b4… (all of the seat's roots in one cut). By AI agents, Wed Nov 11 2026. No macro, syntax, notation, axiom, sorry.
-/
import Derived.Test.YtnnlmdenffnjbaaChecked
import GoSem.Claim
import GoSem.ClaimJoined
import GoSem.ClaimMapViews
import Derived.JoinedTies
import Derived.KernelRfl
namespace Go.Proofs.Ytnnlmdenffnjbaa
/- THE CELL 'sum', in the pinned program and in every row, IS THE sha256 OF THE DUMP (.gsa) THAT YtnnlmdenffnjbaaProg.lean LOADS. Nothing in Lean hashes anything: it is a label: what it is worth is what the hold of that sum in a sandbox is worth. -/
noncomputable def Try.pinned : Pinned := { name := "ytnnlmdenffnjbaa", sum := "74084c66f6cfa7b4c330c3a166cb3b5ee5792c57478f0747f5d7869081413e7b", checked := Try.checked }
namespace Rows
def none {H : Type} : Left H := { results := [], args := [] }

/-- 'laws.FnExactApplyEdits': WHATEVER THE INPUT: true; the input reads as it did. -/
def fnExactApplyEditsSpec : ChangeSpec := { name := "fnExactApplyEdits", fn := fun _ => fun
  | [d1, d2] => { results := [.lit (.bool true)], args := [d1, d2] }
  | _ => none }
def fnExactApplyEditsRow : OpenClaim := { program := "ytnnlmdenffnjbaa", sum := "74084c66f6cfa7b4c330c3a166cb3b5ee5792c57478f0747f5d7869081413e7b", func := "loop.example/g02081/laws.FnExactApplyEdits", spec := "fnExactApplyEdits", apart := false }
def FnExactApplyEditsSaid : Prop := fnExactApplyEditsRow.holds Try.pinned (OpenSpec.ofChange fnExactApplyEditsSpec)

/-- ITS FALSE NEIGHBOUR: 'it returns false'. Refute it at one input. -/
def fnExactApplyEditsWrong : ChangeSpec := { name := "fnExactApplyEdits", fn := fun _ => fun
  | [d1, d2] => { results := [.lit (.bool false)], args := [d1, d2] }
  | _ => none }
def FnExactApplyEditsWrongFalsely : Prop := fnExactApplyEditsRow.holds Try.pinned (OpenSpec.ofChange fnExactApplyEditsWrong)

/-- 'laws.FnExactIsMinimalFill': WHATEVER THE INPUT: true; the input reads as it did. -/
def fnExactIsMinimalFillSpec : ChangeSpec := { name := "fnExactIsMinimalFill", fn := fun _ => fun
  | [d1, d2] => { results := [.lit (.bool true)], args := [d1, d2] }
  | _ => none }
def fnExactIsMinimalFillRow : OpenClaim := { program := "ytnnlmdenffnjbaa", sum := "74084c66f6cfa7b4c330c3a166cb3b5ee5792c57478f0747f5d7869081413e7b", func := "loop.example/g02081/laws.FnExactIsMinimalFill", spec := "fnExactIsMinimalFill", unfollowed := true, recurses := true, apart := false }
def FnExactIsMinimalFillSaid : Prop := fnExactIsMinimalFillRow.holds Try.pinned (OpenSpec.ofChange fnExactIsMinimalFillSpec)

/-- ITS FALSE NEIGHBOUR: 'it returns false'. Refute it at one input. -/
def fnExactIsMinimalFillWrong : ChangeSpec := { name := "fnExactIsMinimalFill", fn := fun _ => fun
  | [d1, d2] => { results := [.lit (.bool false)], args := [d1, d2] }
  | _ => none }
def FnExactIsMinimalFillWrongFalsely : Prop := fnExactIsMinimalFillRow.holds Try.pinned (OpenSpec.ofChange fnExactIsMinimalFillWrong)

/-- 'laws.FnExactClaimOfPacking': WHATEVER THE INPUT: true; the input reads as it did. -/
def fnExactClaimOfPackingSpec : ChangeSpec := { name := "fnExactClaimOfPacking", fn := fun _ => fun
  | [d] => { results := [.lit (.bool true)], args := [d] }
  | _ => none }
def fnExactClaimOfPackingRow : OpenClaim := { program := "ytnnlmdenffnjbaa", sum := "74084c66f6cfa7b4c330c3a166cb3b5ee5792c57478f0747f5d7869081413e7b", func := "loop.example/g02081/laws.FnExactClaimOfPacking", spec := "fnExactClaimOfPacking", unfollowed := true, recurses := true, apart := false }
def FnExactClaimOfPackingSaid : Prop := fnExactClaimOfPackingRow.holds Try.pinned (OpenSpec.ofChange fnExactClaimOfPackingSpec)

/-- ITS FALSE NEIGHBOUR: 'it returns false'. Refute it at one input. -/
def fnExactClaimOfPackingWrong : ChangeSpec := { name := "fnExactClaimOfPacking", fn := fun _ => fun
  | [d] => { results := [.lit (.bool false)], args := [d] }
  | _ => none }
def FnExactClaimOfPackingWrongFalsely : Prop := fnExactClaimOfPackingRow.holds Try.pinned (OpenSpec.ofChange fnExactClaimOfPackingWrong)

/-- 'laws.FnExactFewestFill': WHATEVER THE INPUT: true; the input reads as it did. -/
def fnExactFewestFillSpec : ChangeSpec := { name := "fnExactFewestFill", fn := fun _ => fun
  | [d] => { results := [.lit (.bool true)], args := [d] }
  | _ => none }
def fnExactFewestFillRow : OpenClaim := { program := "ytnnlmdenffnjbaa", sum := "74084c66f6cfa7b4c330c3a166cb3b5ee5792c57478f0747f5d7869081413e7b", func := "loop.example/g02081/laws.FnExactFewestFill", spec := "fnExactFewestFill", unfollowed := true, recurses := true, apart := false }
def FnExactFewestFillSaid : Prop := fnExactFewestFillRow.holds Try.pinned (OpenSpec.ofChange fnExactFewestFillSpec)

/-- ITS FALSE NEIGHBOUR: 'it returns false'. Refute it at one input. -/
def fnExactFewestFillWrong : ChangeSpec := { name := "fnExactFewestFill", fn := fun _ => fun
  | [d] => { results := [.lit (.bool false)], args := [d] }
  | _ => none }
def FnExactFewestFillWrongFalsely : Prop := fnExactFewestFillRow.holds Try.pinned (OpenSpec.ofChange fnExactFewestFillWrong)

/-- 'laws.FnExactIsObstacleFor': WHATEVER THE INPUT: true; the input reads as it did. -/
def fnExactIsObstacleForSpec : ChangeSpec := { name := "fnExactIsObstacleFor", fn := fun _ => fun
  | [d1, d2, d3] => { results := [.lit (.bool true)], args := [d1, d2, d3] }
  | _ => none }
def fnExactIsObstacleForRow : OpenClaim := { program := "ytnnlmdenffnjbaa", sum := "74084c66f6cfa7b4c330c3a166cb3b5ee5792c57478f0747f5d7869081413e7b", func := "loop.example/g02081/laws.FnExactIsObstacleFor", spec := "fnExactIsObstacleFor", unfollowed := true, recurses := true, apart := false }
def FnExactIsObstacleForSaid : Prop := fnExactIsObstacleForRow.holds Try.pinned (OpenSpec.ofChange fnExactIsObstacleForSpec)

/-- ITS FALSE NEIGHBOUR: 'it returns false'. Refute it at one input. -/
def fnExactIsObstacleForWrong : ChangeSpec := { name := "fnExactIsObstacleFor", fn := fun _ => fun
  | [d1, d2, d3] => { results := [.lit (.bool false)], args := [d1, d2, d3] }
  | _ => none }
def FnExactIsObstacleForWrongFalsely : Prop := fnExactIsObstacleForRow.holds Try.pinned (OpenSpec.ofChange fnExactIsObstacleForWrong)

/-- 'laws.FnExactClaimOfColors': WHATEVER THE INPUT: true; the input reads as it did. -/
def fnExactClaimOfColorsSpec : ChangeSpec := { name := "fnExactClaimOfColors", fn := fun _ => fun
  | [d] => { results := [.lit (.bool true)], args := [d] }
  | _ => none }
def fnExactClaimOfColorsRow : OpenClaim := { program := "ytnnlmdenffnjbaa", sum := "74084c66f6cfa7b4c330c3a166cb3b5ee5792c57478f0747f5d7869081413e7b", func := "loop.example/g02081/laws.FnExactClaimOfColors", spec := "fnExactClaimOfColors", unfollowed := true, recurses := true, apart := false }
def FnExactClaimOfColorsSaid : Prop := fnExactClaimOfColorsRow.holds Try.pinned (OpenSpec.ofChange fnExactClaimOfColorsSpec)

/-- ITS FALSE NEIGHBOUR: 'it returns false'. Refute it at one input. -/
def fnExactClaimOfColorsWrong : ChangeSpec := { name := "fnExactClaimOfColors", fn := fun _ => fun
  | [d] => { results := [.lit (.bool false)], args := [d] }
  | _ => none }
def FnExactClaimOfColorsWrongFalsely : Prop := fnExactClaimOfColorsRow.holds Try.pinned (OpenSpec.ofChange fnExactClaimOfColorsWrong)

/-- 'laws.FnExactIsModelFor': WHATEVER THE INPUT: true; the input reads as it did. -/
def fnExactIsModelForSpec : ChangeSpec := { name := "fnExactIsModelFor", fn := fun _ => fun
  | [d1, d2, d3, d4] => { results := [.lit (.bool true)], args := [d1, d2, d3, d4] }
  | _ => none }
def fnExactIsModelForRow : OpenClaim := { program := "ytnnlmdenffnjbaa", sum := "74084c66f6cfa7b4c330c3a166cb3b5ee5792c57478f0747f5d7869081413e7b", func := "loop.example/g02081/laws.FnExactIsModelFor", spec := "fnExactIsModelFor", unfollowed := true, recurses := true, apart := false }
def FnExactIsModelForSaid : Prop := fnExactIsModelForRow.holds Try.pinned (OpenSpec.ofChange fnExactIsModelForSpec)

/-- ITS FALSE NEIGHBOUR: 'it returns false'. Refute it at one input. -/
def fnExactIsModelForWrong : ChangeSpec := { name := "fnExactIsModelFor", fn := fun _ => fun
  | [d1, d2, d3, d4] => { results := [.lit (.bool false)], args := [d1, d2, d3, d4] }
  | _ => none }
def FnExactIsModelForWrongFalsely : Prop := fnExactIsModelForRow.holds Try.pinned (OpenSpec.ofChange fnExactIsModelForWrong)

/-- 'laws.FnExactMinimalFill': WHATEVER THE INPUT: true; the input reads as it did. -/
def fnExactMinimalFillSpec : ChangeSpec := { name := "fnExactMinimalFill", fn := fun _ => fun
  | [d] => { results := [.lit (.bool true)], args := [d] }
  | _ => none }
def fnExactMinimalFillRow : OpenClaim := { program := "ytnnlmdenffnjbaa", sum := "74084c66f6cfa7b4c330c3a166cb3b5ee5792c57478f0747f5d7869081413e7b", func := "loop.example/g02081/laws.FnExactMinimalFill", spec := "fnExactMinimalFill", unfollowed := true, recurses := true, apart := false }
def FnExactMinimalFillSaid : Prop := fnExactMinimalFillRow.holds Try.pinned (OpenSpec.ofChange fnExactMinimalFillSpec)

/-- ITS FALSE NEIGHBOUR: 'it returns false'. Refute it at one input. -/
def fnExactMinimalFillWrong : ChangeSpec := { name := "fnExactMinimalFill", fn := fun _ => fun
  | [d] => { results := [.lit (.bool false)], args := [d] }
  | _ => none }
def FnExactMinimalFillWrongFalsely : Prop := fnExactMinimalFillRow.holds Try.pinned (OpenSpec.ofChange fnExactMinimalFillWrong)

/-- 'laws.FnExactClaimOfFill': WHATEVER THE INPUT: true; the input reads as it did. -/
def fnExactClaimOfFillSpec : ChangeSpec := { name := "fnExactClaimOfFill", fn := fun _ => fun
  | [d] => { results := [.lit (.bool true)], args := [d] }
  | _ => none }
def fnExactClaimOfFillRow : OpenClaim := { program := "ytnnlmdenffnjbaa", sum := "74084c66f6cfa7b4c330c3a166cb3b5ee5792c57478f0747f5d7869081413e7b", func := "loop.example/g02081/laws.FnExactClaimOfFill", spec := "fnExactClaimOfFill", unfollowed := true, recurses := true, apart := false }
def FnExactClaimOfFillSaid : Prop := fnExactClaimOfFillRow.holds Try.pinned (OpenSpec.ofChange fnExactClaimOfFillSpec)

/-- ITS FALSE NEIGHBOUR: 'it returns false'. Refute it at one input. -/
def fnExactClaimOfFillWrong : ChangeSpec := { name := "fnExactClaimOfFill", fn := fun _ => fun
  | [d] => { results := [.lit (.bool false)], args := [d] }
  | _ => none }
def FnExactClaimOfFillWrongFalsely : Prop := fnExactClaimOfFillRow.holds Try.pinned (OpenSpec.ofChange fnExactClaimOfFillWrong)

/- THE SECOND FORM. 'bulk': how many values and letters a reading holds, each counted each time it is reached (what is shared counts as often as it is met; a slice's spare places count too). A statement '..UptoSaid' is the law's where the arguments, and the package variables that the reading takes, are together of bulk at most 1048576: NARROWER than '..Said'. Prove '..Said' where nothing that the law and all that it calls make is longer than what came in: it says more and counts as full. Else prove '..UptoSaid'. A law counts once. -/
mutual
def uptoBulk {H : Type} : DataW H → Nat
  | .lit (.string bytes) => bytes.length + 1
  | .lit _ => 1
  | .nil => 1
  | .ptr d => uptoBulk d + 1
  | .slice elems spare => uptoBulkAll elems + uptoBulkAll spare + 1
  | .agg parts => uptoBulkAll parts + 1
  | .iface _ d => uptoBulk d + 1
  | .map entries => uptoBulkEntries entries + 1
  | .held _ => 1
def uptoBulkAll {H : Type} : List (DataW H) → Nat
  | [] => 0
  | d :: r => uptoBulk d + uptoBulkAll r
def uptoBulkEntries {H : Type} : List (Lit × DataW H) → Nat
  | [] => 0
  | x :: r => uptoBulkEntry x + uptoBulkEntries r
def uptoBulkEntry {H : Type} : Lit × DataW H → Nat
  | (.string bytes, d) => bytes.length + uptoBulk d + 1
  | (_, d) => uptoBulk d + 1
 end
def uptoSmall : (H : Type) → List (DataW H) → Bool := fun _ ds => decide (uptoBulkAll ds ≤ 1048576)
def OpenSpec.upto (s : _root_.Go.ChangeSpec) : _root_.Go.OpenSpec := { _root_.Go.OpenSpec.ofChange s with cond := some uptoSmall }

/-- 'laws.FnExactApplyEdits', WHERE WHAT IT READS IS OF BULK AT MOST 1048576: true; the input reads as it did. -/
def fnExactApplyEditsUptoRow : OpenClaim := { program := "ytnnlmdenffnjbaa", sum := "74084c66f6cfa7b4c330c3a166cb3b5ee5792c57478f0747f5d7869081413e7b", func := "loop.example/g02081/laws.FnExactApplyEdits", spec := "fnExactApplyEdits", apart := false, narrowed := true }
def FnExactApplyEditsUptoSaid : Prop := fnExactApplyEditsUptoRow.holds Try.pinned (OpenSpec.upto fnExactApplyEditsSpec)

/-- 'laws.FnExactIsMinimalFill', WHERE WHAT IT READS IS OF BULK AT MOST 1048576: true; the input reads as it did. -/
def fnExactIsMinimalFillUptoRow : OpenClaim := { program := "ytnnlmdenffnjbaa", sum := "74084c66f6cfa7b4c330c3a166cb3b5ee5792c57478f0747f5d7869081413e7b", func := "loop.example/g02081/laws.FnExactIsMinimalFill", spec := "fnExactIsMinimalFill", unfollowed := true, recurses := true, apart := false, narrowed := true }
def FnExactIsMinimalFillUptoSaid : Prop := fnExactIsMinimalFillUptoRow.holds Try.pinned (OpenSpec.upto fnExactIsMinimalFillSpec)

/-- 'laws.FnExactClaimOfPacking', WHERE WHAT IT READS IS OF BULK AT MOST 1048576: true; the input reads as it did. -/
def fnExactClaimOfPackingUptoRow : OpenClaim := { program := "ytnnlmdenffnjbaa", sum := "74084c66f6cfa7b4c330c3a166cb3b5ee5792c57478f0747f5d7869081413e7b", func := "loop.example/g02081/laws.FnExactClaimOfPacking", spec := "fnExactClaimOfPacking", unfollowed := true, recurses := true, apart := false, narrowed := true }
def FnExactClaimOfPackingUptoSaid : Prop := fnExactClaimOfPackingUptoRow.holds Try.pinned (OpenSpec.upto fnExactClaimOfPackingSpec)

/-- 'laws.FnExactFewestFill', WHERE WHAT IT READS IS OF BULK AT MOST 1048576: true; the input reads as it did. -/
def fnExactFewestFillUptoRow : OpenClaim := { program := "ytnnlmdenffnjbaa", sum := "74084c66f6cfa7b4c330c3a166cb3b5ee5792c57478f0747f5d7869081413e7b", func := "loop.example/g02081/laws.FnExactFewestFill", spec := "fnExactFewestFill", unfollowed := true, recurses := true, apart := false, narrowed := true }
def FnExactFewestFillUptoSaid : Prop := fnExactFewestFillUptoRow.holds Try.pinned (OpenSpec.upto fnExactFewestFillSpec)

/-- 'laws.FnExactIsObstacleFor', WHERE WHAT IT READS IS OF BULK AT MOST 1048576: true; the input reads as it did. -/
def fnExactIsObstacleForUptoRow : OpenClaim := { program := "ytnnlmdenffnjbaa", sum := "74084c66f6cfa7b4c330c3a166cb3b5ee5792c57478f0747f5d7869081413e7b", func := "loop.example/g02081/laws.FnExactIsObstacleFor", spec := "fnExactIsObstacleFor", unfollowed := true, recurses := true, apart := false, narrowed := true }
def FnExactIsObstacleForUptoSaid : Prop := fnExactIsObstacleForUptoRow.holds Try.pinned (OpenSpec.upto fnExactIsObstacleForSpec)

/-- 'laws.FnExactClaimOfColors', WHERE WHAT IT READS IS OF BULK AT MOST 1048576: true; the input reads as it did. -/
def fnExactClaimOfColorsUptoRow : OpenClaim := { program := "ytnnlmdenffnjbaa", sum := "74084c66f6cfa7b4c330c3a166cb3b5ee5792c57478f0747f5d7869081413e7b", func := "loop.example/g02081/laws.FnExactClaimOfColors", spec := "fnExactClaimOfColors", unfollowed := true, recurses := true, apart := false, narrowed := true }
def FnExactClaimOfColorsUptoSaid : Prop := fnExactClaimOfColorsUptoRow.holds Try.pinned (OpenSpec.upto fnExactClaimOfColorsSpec)

/-- 'laws.FnExactIsModelFor', WHERE WHAT IT READS IS OF BULK AT MOST 1048576: true; the input reads as it did. -/
def fnExactIsModelForUptoRow : OpenClaim := { program := "ytnnlmdenffnjbaa", sum := "74084c66f6cfa7b4c330c3a166cb3b5ee5792c57478f0747f5d7869081413e7b", func := "loop.example/g02081/laws.FnExactIsModelFor", spec := "fnExactIsModelFor", unfollowed := true, recurses := true, apart := false, narrowed := true }
def FnExactIsModelForUptoSaid : Prop := fnExactIsModelForUptoRow.holds Try.pinned (OpenSpec.upto fnExactIsModelForSpec)

/-- 'laws.FnExactMinimalFill', WHERE WHAT IT READS IS OF BULK AT MOST 1048576: true; the input reads as it did. -/
def fnExactMinimalFillUptoRow : OpenClaim := { program := "ytnnlmdenffnjbaa", sum := "74084c66f6cfa7b4c330c3a166cb3b5ee5792c57478f0747f5d7869081413e7b", func := "loop.example/g02081/laws.FnExactMinimalFill", spec := "fnExactMinimalFill", unfollowed := true, recurses := true, apart := false, narrowed := true }
def FnExactMinimalFillUptoSaid : Prop := fnExactMinimalFillUptoRow.holds Try.pinned (OpenSpec.upto fnExactMinimalFillSpec)

/-- 'laws.FnExactClaimOfFill', WHERE WHAT IT READS IS OF BULK AT MOST 1048576: true; the input reads as it did. -/
def fnExactClaimOfFillUptoRow : OpenClaim := { program := "ytnnlmdenffnjbaa", sum := "74084c66f6cfa7b4c330c3a166cb3b5ee5792c57478f0747f5d7869081413e7b", func := "loop.example/g02081/laws.FnExactClaimOfFill", spec := "fnExactClaimOfFill", unfollowed := true, recurses := true, apart := false, narrowed := true }
def FnExactClaimOfFillUptoSaid : Prop := fnExactClaimOfFillUptoRow.holds Try.pinned (OpenSpec.upto fnExactClaimOfFillSpec)

end Rows
end Go.Proofs.Ytnnlmdenffnjbaa
