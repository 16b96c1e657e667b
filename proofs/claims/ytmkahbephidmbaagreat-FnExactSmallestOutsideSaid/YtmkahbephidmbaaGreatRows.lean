/-
  No cell of these rows narrows 'for every input' (looked for: loops, veiled, ifaces, maps, wideKeys, modest, calm, conditions, laid).
  DERIVED. THE GIVEN ROWS OF THIS SEAT. 11 by the template 'for every input the law returns true; each argument reads behind the call as it read before'; 0 by the template 'total and deterministic' (their statements: YtmkahbephidmbaaGreatTotals.lean).
  GIVEN WITH THE SEED: the statements are not yours to turn. If you find one false, say at which input.
  Laid BY PROGRAM, IN A SANDBOX (cutbox-rows.mjs): the forced cells as the released guide's own fill.sh prints them over the translation 7f4c146a1bf785e6… (all of the seat's roots in one cut). By AI agents, Wed Nov 11 2026. No macro, syntax, notation, axiom, sorry.
-/
import Derived.Test.YtmkahbephidmbaaGreatChecked
import GoSem.Claim
import GoSem.ClaimJoined
import GoSem.ClaimMapViews
import Derived.JoinedTies
import Derived.KernelRfl
namespace Go.Proofs.YtmkahbephidmbaaGreat
/- THE CELL 'sum', in the pinned program and in every row, IS THE sha256 OF THE DUMP (.gsa) THAT YtmkahbephidmbaaGreatProg.lean LOADS. Nothing in Lean hashes anything: it is a label: what it is worth is what the hold of that sum in a sandbox is worth. -/
noncomputable def Tryz.pinned : Pinned := { name := "ytmkahbephidmbaagreat", sum := "7f4c146a1bf785e61ea3f74d0127bae1774173976e2ece2ac01e05e221a41c36", checked := Tryz.checked }
namespace Rows
def none {H : Type} : Left H := { results := [], args := [] }

/-- 'laws.FnExactCheckClaim': WHATEVER THE INPUT: true; the input reads as it did. -/
def fnExactCheckClaimSpec : ChangeSpec := { name := "fnExactCheckClaim", fn := fun _ => fun
  | [d] => { results := [.lit (.bool true)], args := [d] }
  | _ => none }
def fnExactCheckClaimRow : OpenClaim := { program := "ytmkahbephidmbaagreat", sum := "7f4c146a1bf785e61ea3f74d0127bae1774173976e2ece2ac01e05e221a41c36", func := "loop.example/g02081/laws.FnExactCheckClaim", spec := "fnExactCheckClaim", unfollowed := true, recurses := true, apart := false }
def FnExactCheckClaimSaid : Prop := fnExactCheckClaimRow.holds Tryz.pinned (OpenSpec.ofChange fnExactCheckClaimSpec)

/-- ITS FALSE NEIGHBOUR: 'it returns false'. Refute it at one input. -/
def fnExactCheckClaimWrong : ChangeSpec := { name := "fnExactCheckClaim", fn := fun _ => fun
  | [d] => { results := [.lit (.bool false)], args := [d] }
  | _ => none }
def FnExactCheckClaimWrongFalsely : Prop := fnExactCheckClaimRow.holds Tryz.pinned (OpenSpec.ofChange fnExactCheckClaimWrong)

/-- 'laws.FnExactIsIn': WHATEVER THE INPUT: true; the input reads as it did. -/
def fnExactIsInSpec : ChangeSpec := { name := "fnExactIsIn", fn := fun _ => fun
  | [d1, d2] => { results := [.lit (.bool true)], args := [d1, d2] }
  | _ => none }
def fnExactIsInRow : OpenClaim := { program := "ytmkahbephidmbaagreat", sum := "7f4c146a1bf785e61ea3f74d0127bae1774173976e2ece2ac01e05e221a41c36", func := "loop.example/g02081/laws.FnExactIsIn", spec := "fnExactIsIn", unfollowed := true, recurses := true, apart := false }
def FnExactIsInSaid : Prop := fnExactIsInRow.holds Tryz.pinned (OpenSpec.ofChange fnExactIsInSpec)

/-- ITS FALSE NEIGHBOUR: 'it returns false'. Refute it at one input. -/
def fnExactIsInWrong : ChangeSpec := { name := "fnExactIsIn", fn := fun _ => fun
  | [d1, d2] => { results := [.lit (.bool false)], args := [d1, d2] }
  | _ => none }
def FnExactIsInWrongFalsely : Prop := fnExactIsInRow.holds Tryz.pinned (OpenSpec.ofChange fnExactIsInWrong)

/-- 'laws.FnExactIsHereditaryOn': WHATEVER THE INPUT: true; the input reads as it did. -/
def fnExactIsHereditaryOnSpec : ChangeSpec := { name := "fnExactIsHereditaryOn", fn := fun _ => fun
  | [d1, d2] => { results := [.lit (.bool true)], args := [d1, d2] }
  | _ => none }
def fnExactIsHereditaryOnRow : OpenClaim := { program := "ytmkahbephidmbaagreat", sum := "7f4c146a1bf785e61ea3f74d0127bae1774173976e2ece2ac01e05e221a41c36", func := "loop.example/g02081/laws.FnExactIsHereditaryOn", spec := "fnExactIsHereditaryOn", unfollowed := true, recurses := true, apart := false }
def FnExactIsHereditaryOnSaid : Prop := fnExactIsHereditaryOnRow.holds Tryz.pinned (OpenSpec.ofChange fnExactIsHereditaryOnSpec)

/-- ITS FALSE NEIGHBOUR: 'it returns false'. Refute it at one input. -/
def fnExactIsHereditaryOnWrong : ChangeSpec := { name := "fnExactIsHereditaryOn", fn := fun _ => fun
  | [d1, d2] => { results := [.lit (.bool false)], args := [d1, d2] }
  | _ => none }
def FnExactIsHereditaryOnWrongFalsely : Prop := fnExactIsHereditaryOnRow.holds Tryz.pinned (OpenSpec.ofChange fnExactIsHereditaryOnWrong)

/-- 'laws.FnExactFewestDeletions': WHATEVER THE INPUT: true; the input reads as it did. -/
def fnExactFewestDeletionsSpec : ChangeSpec := { name := "fnExactFewestDeletions", fn := fun _ => fun
  | [d1, d2] => { results := [.lit (.bool true)], args := [d1, d2] }
  | _ => none }
def fnExactFewestDeletionsRow : OpenClaim := { program := "ytmkahbephidmbaagreat", sum := "7f4c146a1bf785e61ea3f74d0127bae1774173976e2ece2ac01e05e221a41c36", func := "loop.example/g02081/laws.FnExactFewestDeletions", spec := "fnExactFewestDeletions", unfollowed := true, recurses := true, apart := false }
def FnExactFewestDeletionsSaid : Prop := fnExactFewestDeletionsRow.holds Tryz.pinned (OpenSpec.ofChange fnExactFewestDeletionsSpec)

/-- ITS FALSE NEIGHBOUR: 'it returns false'. Refute it at one input. -/
def fnExactFewestDeletionsWrong : ChangeSpec := { name := "fnExactFewestDeletions", fn := fun _ => fun
  | [d1, d2] => { results := [.lit (.bool false)], args := [d1, d2] }
  | _ => none }
def FnExactFewestDeletionsWrongFalsely : Prop := fnExactFewestDeletionsRow.holds Tryz.pinned (OpenSpec.ofChange fnExactFewestDeletionsWrong)

/-- 'laws.FnExactLargestInside': WHATEVER THE INPUT: true; the input reads as it did. -/
def fnExactLargestInsideSpec : ChangeSpec := { name := "fnExactLargestInside", fn := fun _ => fun
  | [d1, d2] => { results := [.lit (.bool true)], args := [d1, d2] }
  | _ => none }
def fnExactLargestInsideRow : OpenClaim := { program := "ytmkahbephidmbaagreat", sum := "7f4c146a1bf785e61ea3f74d0127bae1774173976e2ece2ac01e05e221a41c36", func := "loop.example/g02081/laws.FnExactLargestInside", spec := "fnExactLargestInside", unfollowed := true, recurses := true, apart := false }
def FnExactLargestInsideSaid : Prop := fnExactLargestInsideRow.holds Tryz.pinned (OpenSpec.ofChange fnExactLargestInsideSpec)

/-- ITS FALSE NEIGHBOUR: 'it returns false'. Refute it at one input. -/
def fnExactLargestInsideWrong : ChangeSpec := { name := "fnExactLargestInside", fn := fun _ => fun
  | [d1, d2] => { results := [.lit (.bool false)], args := [d1, d2] }
  | _ => none }
def FnExactLargestInsideWrongFalsely : Prop := fnExactLargestInsideRow.holds Tryz.pinned (OpenSpec.ofChange fnExactLargestInsideWrong)

/-- 'laws.FnExactClassesOf': WHATEVER THE INPUT: true; the input reads as it did. -/
def fnExactClassesOfSpec : ChangeSpec := { name := "fnExactClassesOf", fn := fun _ => fun
  | [d] => { results := [.lit (.bool true)], args := [d] }
  | _ => none }
def fnExactClassesOfRow : OpenClaim := { program := "ytmkahbephidmbaagreat", sum := "7f4c146a1bf785e61ea3f74d0127bae1774173976e2ece2ac01e05e221a41c36", func := "loop.example/g02081/laws.FnExactClassesOf", spec := "fnExactClassesOf", unfollowed := true, recurses := true, apart := false }
def FnExactClassesOfSaid : Prop := fnExactClassesOfRow.holds Tryz.pinned (OpenSpec.ofChange fnExactClassesOfSpec)

/-- ITS FALSE NEIGHBOUR: 'it returns false'. Refute it at one input. -/
def fnExactClassesOfWrong : ChangeSpec := { name := "fnExactClassesOf", fn := fun _ => fun
  | [d] => { results := [.lit (.bool false)], args := [d] }
  | _ => none }
def FnExactClassesOfWrongFalsely : Prop := fnExactClassesOfRow.holds Tryz.pinned (OpenSpec.ofChange fnExactClassesOfWrong)

/-- 'laws.FnExactSmallestOutside': WHATEVER THE INPUT: true; the input reads as it did. -/
def fnExactSmallestOutsideSpec : ChangeSpec := { name := "fnExactSmallestOutside", fn := fun _ => fun
  | [d1, d2] => { results := [.lit (.bool true)], args := [d1, d2] }
  | _ => none }
def fnExactSmallestOutsideRow : OpenClaim := { program := "ytmkahbephidmbaagreat", sum := "7f4c146a1bf785e61ea3f74d0127bae1774173976e2ece2ac01e05e221a41c36", func := "loop.example/g02081/laws.FnExactSmallestOutside", spec := "fnExactSmallestOutside", unfollowed := true, recurses := true, apart := false }
def FnExactSmallestOutsideSaid : Prop := fnExactSmallestOutsideRow.holds Tryz.pinned (OpenSpec.ofChange fnExactSmallestOutsideSpec)

/-- ITS FALSE NEIGHBOUR: 'it returns false'. Refute it at one input. -/
def fnExactSmallestOutsideWrong : ChangeSpec := { name := "fnExactSmallestOutside", fn := fun _ => fun
  | [d1, d2] => { results := [.lit (.bool false)], args := [d1, d2] }
  | _ => none }
def FnExactSmallestOutsideWrongFalsely : Prop := fnExactSmallestOutsideRow.holds Tryz.pinned (OpenSpec.ofChange fnExactSmallestOutsideWrong)

/-- 'laws.FnExactCountSandwiches': WHATEVER THE INPUT: true; the input reads as it did. -/
def fnExactCountSandwichesSpec : ChangeSpec := { name := "fnExactCountSandwiches", fn := fun _ => fun
  | [d1, d2, d3] => { results := [.lit (.bool true)], args := [d1, d2, d3] }
  | _ => none }
def fnExactCountSandwichesRow : OpenClaim := { program := "ytmkahbephidmbaagreat", sum := "7f4c146a1bf785e61ea3f74d0127bae1774173976e2ece2ac01e05e221a41c36", func := "loop.example/g02081/laws.FnExactCountSandwiches", spec := "fnExactCountSandwiches", unfollowed := true, recurses := true, apart := false }
def FnExactCountSandwichesSaid : Prop := fnExactCountSandwichesRow.holds Tryz.pinned (OpenSpec.ofChange fnExactCountSandwichesSpec)

/-- ITS FALSE NEIGHBOUR: 'it returns false'. Refute it at one input. -/
def fnExactCountSandwichesWrong : ChangeSpec := { name := "fnExactCountSandwiches", fn := fun _ => fun
  | [d1, d2, d3] => { results := [.lit (.bool false)], args := [d1, d2, d3] }
  | _ => none }
def FnExactCountSandwichesWrongFalsely : Prop := fnExactCountSandwichesRow.holds Tryz.pinned (OpenSpec.ofChange fnExactCountSandwichesWrong)

/-- 'laws.FnExactFindSandwich': WHATEVER THE INPUT: true; the input reads as it did. -/
def fnExactFindSandwichSpec : ChangeSpec := { name := "fnExactFindSandwich", fn := fun _ => fun
  | [d1, d2, d3] => { results := [.lit (.bool true)], args := [d1, d2, d3] }
  | _ => none }
def fnExactFindSandwichRow : OpenClaim := { program := "ytmkahbephidmbaagreat", sum := "7f4c146a1bf785e61ea3f74d0127bae1774173976e2ece2ac01e05e221a41c36", func := "loop.example/g02081/laws.FnExactFindSandwich", spec := "fnExactFindSandwich", unfollowed := true, recurses := true, apart := false }
def FnExactFindSandwichSaid : Prop := fnExactFindSandwichRow.holds Tryz.pinned (OpenSpec.ofChange fnExactFindSandwichSpec)

/-- ITS FALSE NEIGHBOUR: 'it returns false'. Refute it at one input. -/
def fnExactFindSandwichWrong : ChangeSpec := { name := "fnExactFindSandwich", fn := fun _ => fun
  | [d1, d2, d3] => { results := [.lit (.bool false)], args := [d1, d2, d3] }
  | _ => none }
def FnExactFindSandwichWrongFalsely : Prop := fnExactFindSandwichRow.holds Tryz.pinned (OpenSpec.ofChange fnExactFindSandwichWrong)

/-- 'laws.FnExactForcedEdges': WHATEVER THE INPUT: true; the input reads as it did. -/
def fnExactForcedEdgesSpec : ChangeSpec := { name := "fnExactForcedEdges", fn := fun _ => fun
  | [d1, d2, d3] => { results := [.lit (.bool true)], args := [d1, d2, d3] }
  | _ => none }
def fnExactForcedEdgesRow : OpenClaim := { program := "ytmkahbephidmbaagreat", sum := "7f4c146a1bf785e61ea3f74d0127bae1774173976e2ece2ac01e05e221a41c36", func := "loop.example/g02081/laws.FnExactForcedEdges", spec := "fnExactForcedEdges", unfollowed := true, recurses := true, apart := false }
def FnExactForcedEdgesSaid : Prop := fnExactForcedEdgesRow.holds Tryz.pinned (OpenSpec.ofChange fnExactForcedEdgesSpec)

/-- ITS FALSE NEIGHBOUR: 'it returns false'. Refute it at one input. -/
def fnExactForcedEdgesWrong : ChangeSpec := { name := "fnExactForcedEdges", fn := fun _ => fun
  | [d1, d2, d3] => { results := [.lit (.bool false)], args := [d1, d2, d3] }
  | _ => none }
def FnExactForcedEdgesWrongFalsely : Prop := fnExactForcedEdgesRow.holds Tryz.pinned (OpenSpec.ofChange fnExactForcedEdgesWrong)

/-- 'laws.FnExactObstacleFor': WHATEVER THE INPUT: true; the input reads as it did. -/
def fnExactObstacleForSpec : ChangeSpec := { name := "fnExactObstacleFor", fn := fun _ => fun
  | [d1, d2] => { results := [.lit (.bool true)], args := [d1, d2] }
  | _ => none }
def fnExactObstacleForRow : OpenClaim := { program := "ytmkahbephidmbaagreat", sum := "7f4c146a1bf785e61ea3f74d0127bae1774173976e2ece2ac01e05e221a41c36", func := "loop.example/g02081/laws.FnExactObstacleFor", spec := "fnExactObstacleFor", unfollowed := true, recurses := true, apart := false }
def FnExactObstacleForSaid : Prop := fnExactObstacleForRow.holds Tryz.pinned (OpenSpec.ofChange fnExactObstacleForSpec)

/-- ITS FALSE NEIGHBOUR: 'it returns false'. Refute it at one input. -/
def fnExactObstacleForWrong : ChangeSpec := { name := "fnExactObstacleFor", fn := fun _ => fun
  | [d1, d2] => { results := [.lit (.bool false)], args := [d1, d2] }
  | _ => none }
def FnExactObstacleForWrongFalsely : Prop := fnExactObstacleForRow.holds Tryz.pinned (OpenSpec.ofChange fnExactObstacleForWrong)

/- THE SECOND FORM. 'bulk': how many values and letters a reading holds, each counted each time it is reached (what is shared counts as often as it is met; a slice's spare places count too). A statement '..UptoSaid' is the law's where the arguments, and the package variables that the reading takes, are together of bulk at most 1048576: NARROWER than '..Said'. Prove '..Said' where nothing that the law and all that it calls make is longer than what came in: it says more and counts as full. Else prove '..UptoSaid'. A law counts once. -/
mutual
def uptoBulk {H : Type} : DataW H → Nat
  | .lit (.string bytes) => bytes.length + 1
  | .lit _ => 1
  | .nil => 1
  | .ptr d => uptoBulk d + 1
  | .slice elems spare => uptoBulkAll elems + uptoBulkAll spare + 1
  | .agg parts => uptoBulkAll parts + 1
  | .iface _ d => uptoBulk d + 1
  | .map entries => uptoBulkEntries entries + 1
  | .held _ => 1
def uptoBulkAll {H : Type} : List (DataW H) → Nat
  | [] => 0
  | d :: r => uptoBulk d + uptoBulkAll r
def uptoBulkEntries {H : Type} : List (Lit × DataW H) → Nat
  | [] => 0
  | x :: r => uptoBulkEntry x + uptoBulkEntries r
def uptoBulkEntry {H : Type} : Lit × DataW H → Nat
  | (.string bytes, d) => bytes.length + uptoBulk d + 1
  | (_, d) => uptoBulk d + 1
 end
def uptoSmall : (H : Type) → List (DataW H) → Bool := fun _ ds => decide (uptoBulkAll ds ≤ 1048576)
def OpenSpec.upto (s : _root_.Go.ChangeSpec) : _root_.Go.OpenSpec := { _root_.Go.OpenSpec.ofChange s with cond := some uptoSmall }

/-- 'laws.FnExactCheckClaim', WHERE WHAT IT READS IS OF BULK AT MOST 1048576: true; the input reads as it did. -/
def fnExactCheckClaimUptoRow : OpenClaim := { program := "ytmkahbephidmbaagreat", sum := "7f4c146a1bf785e61ea3f74d0127bae1774173976e2ece2ac01e05e221a41c36", func := "loop.example/g02081/laws.FnExactCheckClaim", spec := "fnExactCheckClaim", unfollowed := true, recurses := true, apart := false, narrowed := true }
def FnExactCheckClaimUptoSaid : Prop := fnExactCheckClaimUptoRow.holds Tryz.pinned (OpenSpec.upto fnExactCheckClaimSpec)

/-- 'laws.FnExactIsIn', WHERE WHAT IT READS IS OF BULK AT MOST 1048576: true; the input reads as it did. -/
def fnExactIsInUptoRow : OpenClaim := { program := "ytmkahbephidmbaagreat", sum := "7f4c146a1bf785e61ea3f74d0127bae1774173976e2ece2ac01e05e221a41c36", func := "loop.example/g02081/laws.FnExactIsIn", spec := "fnExactIsIn", unfollowed := true, recurses := true, apart := false, narrowed := true }
def FnExactIsInUptoSaid : Prop := fnExactIsInUptoRow.holds Tryz.pinned (OpenSpec.upto fnExactIsInSpec)

/-- 'laws.FnExactIsHereditaryOn', WHERE WHAT IT READS IS OF BULK AT MOST 1048576: true; the input reads as it did. -/
def fnExactIsHereditaryOnUptoRow : OpenClaim := { program := "ytmkahbephidmbaagreat", sum := "7f4c146a1bf785e61ea3f74d0127bae1774173976e2ece2ac01e05e221a41c36", func := "loop.example/g02081/laws.FnExactIsHereditaryOn", spec := "fnExactIsHereditaryOn", unfollowed := true, recurses := true, apart := false, narrowed := true }
def FnExactIsHereditaryOnUptoSaid : Prop := fnExactIsHereditaryOnUptoRow.holds Tryz.pinned (OpenSpec.upto fnExactIsHereditaryOnSpec)

/-- 'laws.FnExactFewestDeletions', WHERE WHAT IT READS IS OF BULK AT MOST 1048576: true; the input reads as it did. -/
def fnExactFewestDeletionsUptoRow : OpenClaim := { program := "ytmkahbephidmbaagreat", sum := "7f4c146a1bf785e61ea3f74d0127bae1774173976e2ece2ac01e05e221a41c36", func := "loop.example/g02081/laws.FnExactFewestDeletions", spec := "fnExactFewestDeletions", unfollowed := true, recurses := true, apart := false, narrowed := true }
def FnExactFewestDeletionsUptoSaid : Prop := fnExactFewestDeletionsUptoRow.holds Tryz.pinned (OpenSpec.upto fnExactFewestDeletionsSpec)

/-- 'laws.FnExactLargestInside', WHERE WHAT IT READS IS OF BULK AT MOST 1048576: true; the input reads as it did. -/
def fnExactLargestInsideUptoRow : OpenClaim := { program := "ytmkahbephidmbaagreat", sum := "7f4c146a1bf785e61ea3f74d0127bae1774173976e2ece2ac01e05e221a41c36", func := "loop.example/g02081/laws.FnExactLargestInside", spec := "fnExactLargestInside", unfollowed := true, recurses := true, apart := false, narrowed := true }
def FnExactLargestInsideUptoSaid : Prop := fnExactLargestInsideUptoRow.holds Tryz.pinned (OpenSpec.upto fnExactLargestInsideSpec)

/-- 'laws.FnExactClassesOf', WHERE WHAT IT READS IS OF BULK AT MOST 1048576: true; the input reads as it did. -/
def fnExactClassesOfUptoRow : OpenClaim := { program := "ytmkahbephidmbaagreat", sum := "7f4c146a1bf785e61ea3f74d0127bae1774173976e2ece2ac01e05e221a41c36", func := "loop.example/g02081/laws.FnExactClassesOf", spec := "fnExactClassesOf", unfollowed := true, recurses := true, apart := false, narrowed := true }
def FnExactClassesOfUptoSaid : Prop := fnExactClassesOfUptoRow.holds Tryz.pinned (OpenSpec.upto fnExactClassesOfSpec)

/-- 'laws.FnExactSmallestOutside', WHERE WHAT IT READS IS OF BULK AT MOST 1048576: true; the input reads as it did. -/
def fnExactSmallestOutsideUptoRow : OpenClaim := { program := "ytmkahbephidmbaagreat", sum := "7f4c146a1bf785e61ea3f74d0127bae1774173976e2ece2ac01e05e221a41c36", func := "loop.example/g02081/laws.FnExactSmallestOutside", spec := "fnExactSmallestOutside", unfollowed := true, recurses := true, apart := false, narrowed := true }
def FnExactSmallestOutsideUptoSaid : Prop := fnExactSmallestOutsideUptoRow.holds Tryz.pinned (OpenSpec.upto fnExactSmallestOutsideSpec)

/-- 'laws.FnExactCountSandwiches', WHERE WHAT IT READS IS OF BULK AT MOST 1048576: true; the input reads as it did. -/
def fnExactCountSandwichesUptoRow : OpenClaim := { program := "ytmkahbephidmbaagreat", sum := "7f4c146a1bf785e61ea3f74d0127bae1774173976e2ece2ac01e05e221a41c36", func := "loop.example/g02081/laws.FnExactCountSandwiches", spec := "fnExactCountSandwiches", unfollowed := true, recurses := true, apart := false, narrowed := true }
def FnExactCountSandwichesUptoSaid : Prop := fnExactCountSandwichesUptoRow.holds Tryz.pinned (OpenSpec.upto fnExactCountSandwichesSpec)

/-- 'laws.FnExactFindSandwich', WHERE WHAT IT READS IS OF BULK AT MOST 1048576: true; the input reads as it did. -/
def fnExactFindSandwichUptoRow : OpenClaim := { program := "ytmkahbephidmbaagreat", sum := "7f4c146a1bf785e61ea3f74d0127bae1774173976e2ece2ac01e05e221a41c36", func := "loop.example/g02081/laws.FnExactFindSandwich", spec := "fnExactFindSandwich", unfollowed := true, recurses := true, apart := false, narrowed := true }
def FnExactFindSandwichUptoSaid : Prop := fnExactFindSandwichUptoRow.holds Tryz.pinned (OpenSpec.upto fnExactFindSandwichSpec)

/-- 'laws.FnExactForcedEdges', WHERE WHAT IT READS IS OF BULK AT MOST 1048576: true; the input reads as it did. -/
def fnExactForcedEdgesUptoRow : OpenClaim := { program := "ytmkahbephidmbaagreat", sum := "7f4c146a1bf785e61ea3f74d0127bae1774173976e2ece2ac01e05e221a41c36", func := "loop.example/g02081/laws.FnExactForcedEdges", spec := "fnExactForcedEdges", unfollowed := true, recurses := true, apart := false, narrowed := true }
def FnExactForcedEdgesUptoSaid : Prop := fnExactForcedEdgesUptoRow.holds Tryz.pinned (OpenSpec.upto fnExactForcedEdgesSpec)

/-- 'laws.FnExactObstacleFor', WHERE WHAT IT READS IS OF BULK AT MOST 1048576: true; the input reads as it did. -/
def fnExactObstacleForUptoRow : OpenClaim := { program := "ytmkahbephidmbaagreat", sum := "7f4c146a1bf785e61ea3f74d0127bae1774173976e2ece2ac01e05e221a41c36", func := "loop.example/g02081/laws.FnExactObstacleFor", spec := "fnExactObstacleFor", unfollowed := true, recurses := true, apart := false, narrowed := true }
def FnExactObstacleForUptoSaid : Prop := fnExactObstacleForUptoRow.holds Tryz.pinned (OpenSpec.upto fnExactObstacleForSpec)

end Rows
end Go.Proofs.YtmkahbephidmbaaGreat
