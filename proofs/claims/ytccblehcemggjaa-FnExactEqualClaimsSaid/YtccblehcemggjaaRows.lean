/-
  No cell of these rows narrows 'for every input' (looked for: loops, veiled, ifaces, maps, wideKeys, modest, calm, conditions, laid).
  DERIVED. THE GIVEN ROWS OF THIS SEAT. 12 by the template 'for every input the law returns true; each argument reads behind the call as it read before'; 0 by the template 'total and deterministic' (their statements: YtccblehcemggjaaTotals.lean).
  GIVEN WITH THE SEED: the statements are not yours to turn. If you find one false, say at which input.
  Laid BY PROGRAM, IN A SANDBOX (cutbox-rows.mjs): the forced cells as the released guide's own fill.sh prints them over the translation 0f60aa293ba593f6… (all of the seat's roots in one cut). By AI agents, Wed Nov 11 2026. No macro, syntax, notation, axiom, sorry.
-/
import Derived.Test.YtccblehcemggjaaChecked
import GoSem.Claim
import GoSem.ClaimJoined
import GoSem.ClaimMapViews
import Derived.JoinedTies
import Derived.KernelRfl
namespace Go.Proofs.Ytccblehcemggjaa
/- THE CELL 'sum', in the pinned program and in every row, IS THE sha256 OF THE DUMP (.gsa) THAT YtccblehcemggjaaProg.lean LOADS. Nothing in Lean hashes anything: it is a label: what it is worth is what the hold of that sum in a sandbox is worth. -/
noncomputable def Try.pinned : Pinned := { name := "ytccblehcemggjaa", sum := "0f60aa293ba593f6c219fde106f9caa8a89fd1290c025d12be19f7488d51a66e", checked := Try.checked }
namespace Rows
def none {H : Type} : Left H := { results := [], args := [] }

/-- 'laws.FnExactClaimWord': WHATEVER THE INPUT: true; the input reads as it did. -/
def fnExactClaimWordSpec : ChangeSpec := { name := "fnExactClaimWord", fn := fun _ => fun
  | [d] => { results := [.lit (.bool true)], args := [d] }
  | _ => none }
def fnExactClaimWordRow : OpenClaim := { program := "ytccblehcemggjaa", sum := "0f60aa293ba593f6c219fde106f9caa8a89fd1290c025d12be19f7488d51a66e", func := "loop.example/g02081/laws.FnExactClaimWord", spec := "fnExactClaimWord", apart := false }
def FnExactClaimWordSaid : Prop := fnExactClaimWordRow.holds Try.pinned (OpenSpec.ofChange fnExactClaimWordSpec)

/-- ITS FALSE NEIGHBOUR: 'it returns false'. Refute it at one input. -/
def fnExactClaimWordWrong : ChangeSpec := { name := "fnExactClaimWord", fn := fun _ => fun
  | [d] => { results := [.lit (.bool false)], args := [d] }
  | _ => none }
def FnExactClaimWordWrongFalsely : Prop := fnExactClaimWordRow.holds Try.pinned (OpenSpec.ofChange fnExactClaimWordWrong)

/-- 'laws.FnExactClassNames': WHATEVER THE INPUT: true; the input reads as it did. -/
def fnExactClassNamesSpec : ChangeSpec := { name := "fnExactClassNames", fn := fun _ => fun
  | [] => { results := [.lit (.bool true)], args := [] }
  | _ => none }
def fnExactClassNamesRow : OpenClaim := { program := "ytccblehcemggjaa", sum := "0f60aa293ba593f6c219fde106f9caa8a89fd1290c025d12be19f7488d51a66e", func := "loop.example/g02081/laws.FnExactClassNames", spec := "fnExactClassNames", apart := false }
def FnExactClassNamesSaid : Prop := fnExactClassNamesRow.holds Try.pinned (OpenSpec.ofChange fnExactClassNamesSpec)

/-- ITS FALSE NEIGHBOUR: 'it returns false'. Refute it at one input. -/
def fnExactClassNamesWrong : ChangeSpec := { name := "fnExactClassNames", fn := fun _ => fun
  | [] => { results := [.lit (.bool false)], args := [] }
  | _ => none }
def FnExactClassNamesWrongFalsely : Prop := fnExactClassNamesRow.holds Try.pinned (OpenSpec.ofChange fnExactClassNamesWrong)

/-- 'laws.FnExactUndoEdits': WHATEVER THE INPUT: true; the input reads as it did. -/
def fnExactUndoEditsSpec : ChangeSpec := { name := "fnExactUndoEdits", fn := fun _ => fun
  | [d] => { results := [.lit (.bool true)], args := [d] }
  | _ => none }
def fnExactUndoEditsRow : OpenClaim := { program := "ytccblehcemggjaa", sum := "0f60aa293ba593f6c219fde106f9caa8a89fd1290c025d12be19f7488d51a66e", func := "loop.example/g02081/laws.FnExactUndoEdits", spec := "fnExactUndoEdits", apart := false }
def FnExactUndoEditsSaid : Prop := fnExactUndoEditsRow.holds Try.pinned (OpenSpec.ofChange fnExactUndoEditsSpec)

/-- ITS FALSE NEIGHBOUR: 'it returns false'. Refute it at one input. -/
def fnExactUndoEditsWrong : ChangeSpec := { name := "fnExactUndoEdits", fn := fun _ => fun
  | [d] => { results := [.lit (.bool false)], args := [d] }
  | _ => none }
def FnExactUndoEditsWrongFalsely : Prop := fnExactUndoEditsRow.holds Try.pinned (OpenSpec.ofChange fnExactUndoEditsWrong)

/-- 'laws.FnExactIsSandwich': WHATEVER THE INPUT: true; the input reads as it did. -/
def fnExactIsSandwichSpec : ChangeSpec := { name := "fnExactIsSandwich", fn := fun _ => fun
  | [d1, d2, d3] => { results := [.lit (.bool true)], args := [d1, d2, d3] }
  | _ => none }
def fnExactIsSandwichRow : OpenClaim := { program := "ytccblehcemggjaa", sum := "0f60aa293ba593f6c219fde106f9caa8a89fd1290c025d12be19f7488d51a66e", func := "loop.example/g02081/laws.FnExactIsSandwich", spec := "fnExactIsSandwich", apart := false }
def FnExactIsSandwichSaid : Prop := fnExactIsSandwichRow.holds Try.pinned (OpenSpec.ofChange fnExactIsSandwichSpec)

/-- ITS FALSE NEIGHBOUR: 'it returns false'. Refute it at one input. -/
def fnExactIsSandwichWrong : ChangeSpec := { name := "fnExactIsSandwich", fn := fun _ => fun
  | [d1, d2, d3] => { results := [.lit (.bool false)], args := [d1, d2, d3] }
  | _ => none }
def FnExactIsSandwichWrongFalsely : Prop := fnExactIsSandwichRow.holds Try.pinned (OpenSpec.ofChange fnExactIsSandwichWrong)

/-- 'laws.FnExactEditsBetween': WHATEVER THE INPUT: true; the input reads as it did. -/
def fnExactEditsBetweenSpec : ChangeSpec := { name := "fnExactEditsBetween", fn := fun _ => fun
  | [d1, d2] => { results := [.lit (.bool true)], args := [d1, d2] }
  | _ => none }
def fnExactEditsBetweenRow : OpenClaim := { program := "ytccblehcemggjaa", sum := "0f60aa293ba593f6c219fde106f9caa8a89fd1290c025d12be19f7488d51a66e", func := "loop.example/g02081/laws.FnExactEditsBetween", spec := "fnExactEditsBetween", apart := false }
def FnExactEditsBetweenSaid : Prop := fnExactEditsBetweenRow.holds Try.pinned (OpenSpec.ofChange fnExactEditsBetweenSpec)

/-- ITS FALSE NEIGHBOUR: 'it returns false'. Refute it at one input. -/
def fnExactEditsBetweenWrong : ChangeSpec := { name := "fnExactEditsBetween", fn := fun _ => fun
  | [d1, d2] => { results := [.lit (.bool false)], args := [d1, d2] }
  | _ => none }
def FnExactEditsBetweenWrongFalsely : Prop := fnExactEditsBetweenRow.holds Try.pinned (OpenSpec.ofChange fnExactEditsBetweenWrong)

/-- 'laws.FnExactToughnessWitness': WHATEVER THE INPUT: true; the input reads as it did. -/
def fnExactToughnessWitnessSpec : ChangeSpec := { name := "fnExactToughnessWitness", fn := fun _ => fun
  | [d] => { results := [.lit (.bool true)], args := [d] }
  | _ => none }
def fnExactToughnessWitnessRow : OpenClaim := { program := "ytccblehcemggjaa", sum := "0f60aa293ba593f6c219fde106f9caa8a89fd1290c025d12be19f7488d51a66e", func := "loop.example/g02081/laws.FnExactToughnessWitness", spec := "fnExactToughnessWitness", unfollowed := true, recurses := true, apart := false }
def FnExactToughnessWitnessSaid : Prop := fnExactToughnessWitnessRow.holds Try.pinned (OpenSpec.ofChange fnExactToughnessWitnessSpec)

/-- ITS FALSE NEIGHBOUR: 'it returns false'. Refute it at one input. -/
def fnExactToughnessWitnessWrong : ChangeSpec := { name := "fnExactToughnessWitness", fn := fun _ => fun
  | [d] => { results := [.lit (.bool false)], args := [d] }
  | _ => none }
def FnExactToughnessWitnessWrongFalsely : Prop := fnExactToughnessWitnessRow.holds Try.pinned (OpenSpec.ofChange fnExactToughnessWitnessWrong)

/-- 'laws.FnExactIsCompletion': WHATEVER THE INPUT: true; the input reads as it did. -/
def fnExactIsCompletionSpec : ChangeSpec := { name := "fnExactIsCompletion", fn := fun _ => fun
  | [d1, d2] => { results := [.lit (.bool true)], args := [d1, d2] }
  | _ => none }
def fnExactIsCompletionRow : OpenClaim := { program := "ytccblehcemggjaa", sum := "0f60aa293ba593f6c219fde106f9caa8a89fd1290c025d12be19f7488d51a66e", func := "loop.example/g02081/laws.FnExactIsCompletion", spec := "fnExactIsCompletion", unfollowed := true, recurses := true, apart := false }
def FnExactIsCompletionSaid : Prop := fnExactIsCompletionRow.holds Try.pinned (OpenSpec.ofChange fnExactIsCompletionSpec)

/-- ITS FALSE NEIGHBOUR: 'it returns false'. Refute it at one input. -/
def fnExactIsCompletionWrong : ChangeSpec := { name := "fnExactIsCompletion", fn := fun _ => fun
  | [d1, d2] => { results := [.lit (.bool false)], args := [d1, d2] }
  | _ => none }
def FnExactIsCompletionWrongFalsely : Prop := fnExactIsCompletionRow.holds Try.pinned (OpenSpec.ofChange fnExactIsCompletionWrong)

/-- 'laws.FnExactEqualClaims': WHATEVER THE INPUT: true; the input reads as it did. -/
def fnExactEqualClaimsSpec : ChangeSpec := { name := "fnExactEqualClaims", fn := fun _ => fun
  | [d1, d2] => { results := [.lit (.bool true)], args := [d1, d2] }
  | _ => none }
def fnExactEqualClaimsRow : OpenClaim := { program := "ytccblehcemggjaa", sum := "0f60aa293ba593f6c219fde106f9caa8a89fd1290c025d12be19f7488d51a66e", func := "loop.example/g02081/laws.FnExactEqualClaims", spec := "fnExactEqualClaims", unfollowed := true, recurses := true, apart := false }
def FnExactEqualClaimsSaid : Prop := fnExactEqualClaimsRow.holds Try.pinned (OpenSpec.ofChange fnExactEqualClaimsSpec)

/-- ITS FALSE NEIGHBOUR: 'it returns false'. Refute it at one input. -/
def fnExactEqualClaimsWrong : ChangeSpec := { name := "fnExactEqualClaims", fn := fun _ => fun
  | [d1, d2] => { results := [.lit (.bool false)], args := [d1, d2] }
  | _ => none }
def FnExactEqualClaimsWrongFalsely : Prop := fnExactEqualClaimsRow.holds Try.pinned (OpenSpec.ofChange fnExactEqualClaimsWrong)

/-- 'laws.FnExactHamiltonPath': WHATEVER THE INPUT: true; the input reads as it did. -/
def fnExactHamiltonPathSpec : ChangeSpec := { name := "fnExactHamiltonPath", fn := fun _ => fun
  | [d] => { results := [.lit (.bool true)], args := [d] }
  | _ => none }
def fnExactHamiltonPathRow : OpenClaim := { program := "ytccblehcemggjaa", sum := "0f60aa293ba593f6c219fde106f9caa8a89fd1290c025d12be19f7488d51a66e", func := "loop.example/g02081/laws.FnExactHamiltonPath", spec := "fnExactHamiltonPath", unfollowed := true, recurses := true, apart := false }
def FnExactHamiltonPathSaid : Prop := fnExactHamiltonPathRow.holds Try.pinned (OpenSpec.ofChange fnExactHamiltonPathSpec)

/-- ITS FALSE NEIGHBOUR: 'it returns false'. Refute it at one input. -/
def fnExactHamiltonPathWrong : ChangeSpec := { name := "fnExactHamiltonPath", fn := fun _ => fun
  | [d] => { results := [.lit (.bool false)], args := [d] }
  | _ => none }
def FnExactHamiltonPathWrongFalsely : Prop := fnExactHamiltonPathRow.holds Try.pinned (OpenSpec.ofChange fnExactHamiltonPathWrong)

/-- 'laws.FnExactOptionalEdges': WHATEVER THE INPUT: true; the input reads as it did. -/
def fnExactOptionalEdgesSpec : ChangeSpec := { name := "fnExactOptionalEdges", fn := fun _ => fun
  | [d1, d2] => { results := [.lit (.bool true)], args := [d1, d2] }
  | _ => none }
def fnExactOptionalEdgesRow : OpenClaim := { program := "ytccblehcemggjaa", sum := "0f60aa293ba593f6c219fde106f9caa8a89fd1290c025d12be19f7488d51a66e", func := "loop.example/g02081/laws.FnExactOptionalEdges", spec := "fnExactOptionalEdges", apart := false }
def FnExactOptionalEdgesSaid : Prop := fnExactOptionalEdgesRow.holds Try.pinned (OpenSpec.ofChange fnExactOptionalEdgesSpec)

/-- ITS FALSE NEIGHBOUR: 'it returns false'. Refute it at one input. -/
def fnExactOptionalEdgesWrong : ChangeSpec := { name := "fnExactOptionalEdges", fn := fun _ => fun
  | [d1, d2] => { results := [.lit (.bool false)], args := [d1, d2] }
  | _ => none }
def FnExactOptionalEdgesWrongFalsely : Prop := fnExactOptionalEdgesRow.holds Try.pinned (OpenSpec.ofChange fnExactOptionalEdgesWrong)

/-- 'laws.FnExactHamiltonCycle': WHATEVER THE INPUT: true; the input reads as it did. -/
def fnExactHamiltonCycleSpec : ChangeSpec := { name := "fnExactHamiltonCycle", fn := fun _ => fun
  | [d] => { results := [.lit (.bool true)], args := [d] }
  | _ => none }
def fnExactHamiltonCycleRow : OpenClaim := { program := "ytccblehcemggjaa", sum := "0f60aa293ba593f6c219fde106f9caa8a89fd1290c025d12be19f7488d51a66e", func := "loop.example/g02081/laws.FnExactHamiltonCycle", spec := "fnExactHamiltonCycle", unfollowed := true, recurses := true, apart := false }
def FnExactHamiltonCycleSaid : Prop := fnExactHamiltonCycleRow.holds Try.pinned (OpenSpec.ofChange fnExactHamiltonCycleSpec)

/-- ITS FALSE NEIGHBOUR: 'it returns false'. Refute it at one input. -/
def fnExactHamiltonCycleWrong : ChangeSpec := { name := "fnExactHamiltonCycle", fn := fun _ => fun
  | [d] => { results := [.lit (.bool false)], args := [d] }
  | _ => none }
def FnExactHamiltonCycleWrongFalsely : Prop := fnExactHamiltonCycleRow.holds Try.pinned (OpenSpec.ofChange fnExactHamiltonCycleWrong)

/-- 'laws.FnExactAddAll': WHATEVER THE INPUT: true; the input reads as it did. -/
def fnExactAddAllSpec : ChangeSpec := { name := "fnExactAddAll", fn := fun _ => fun
  | [d1, d2] => { results := [.lit (.bool true)], args := [d1, d2] }
  | _ => none }
def fnExactAddAllRow : OpenClaim := { program := "ytccblehcemggjaa", sum := "0f60aa293ba593f6c219fde106f9caa8a89fd1290c025d12be19f7488d51a66e", func := "loop.example/g02081/laws.FnExactAddAll", spec := "fnExactAddAll", apart := false }
def FnExactAddAllSaid : Prop := fnExactAddAllRow.holds Try.pinned (OpenSpec.ofChange fnExactAddAllSpec)

/-- ITS FALSE NEIGHBOUR: 'it returns false'. Refute it at one input. -/
def fnExactAddAllWrong : ChangeSpec := { name := "fnExactAddAll", fn := fun _ => fun
  | [d1, d2] => { results := [.lit (.bool false)], args := [d1, d2] }
  | _ => none }
def FnExactAddAllWrongFalsely : Prop := fnExactAddAllRow.holds Try.pinned (OpenSpec.ofChange fnExactAddAllWrong)

/- THE SECOND FORM. 'bulk': how many values and letters a reading holds, each counted each time it is reached (what is shared counts as often as it is met; a slice's spare places count too). A statement '..UptoSaid' is the law's where the arguments, and the package variables that the reading takes, are together of bulk at most 1048576: NARROWER than '..Said'. Prove '..Said' where nothing that the law and all that it calls make is longer than what came in: it says more and counts as full. Else prove '..UptoSaid'. A law counts once. -/
mutual
def uptoBulk {H : Type} : DataW H → Nat
  | .lit (.string bytes) => bytes.length + 1
  | .lit _ => 1
  | .nil => 1
  | .ptr d => uptoBulk d + 1
  | .slice elems spare => uptoBulkAll elems + uptoBulkAll spare + 1
  | .agg parts => uptoBulkAll parts + 1
  | .iface _ d => uptoBulk d + 1
  | .map entries => uptoBulkEntries entries + 1
  | .held _ => 1
def uptoBulkAll {H : Type} : List (DataW H) → Nat
  | [] => 0
  | d :: r => uptoBulk d + uptoBulkAll r
def uptoBulkEntries {H : Type} : List (Lit × DataW H) → Nat
  | [] => 0
  | x :: r => uptoBulkEntry x + uptoBulkEntries r
def uptoBulkEntry {H : Type} : Lit × DataW H → Nat
  | (.string bytes, d) => bytes.length + uptoBulk d + 1
  | (_, d) => uptoBulk d + 1
 end
def uptoSmall : (H : Type) → List (DataW H) → Bool := fun _ ds => decide (uptoBulkAll ds ≤ 1048576)
def OpenSpec.upto (s : _root_.Go.ChangeSpec) : _root_.Go.OpenSpec := { _root_.Go.OpenSpec.ofChange s with cond := some uptoSmall }

/-- 'laws.FnExactClaimWord', WHERE WHAT IT READS IS OF BULK AT MOST 1048576: true; the input reads as it did. -/
def fnExactClaimWordUptoRow : OpenClaim := { program := "ytccblehcemggjaa", sum := "0f60aa293ba593f6c219fde106f9caa8a89fd1290c025d12be19f7488d51a66e", func := "loop.example/g02081/laws.FnExactClaimWord", spec := "fnExactClaimWord", apart := false, narrowed := true }
def FnExactClaimWordUptoSaid : Prop := fnExactClaimWordUptoRow.holds Try.pinned (OpenSpec.upto fnExactClaimWordSpec)

/-- 'laws.FnExactClassNames', WHERE WHAT IT READS IS OF BULK AT MOST 1048576: true; the input reads as it did. -/
def fnExactClassNamesUptoRow : OpenClaim := { program := "ytccblehcemggjaa", sum := "0f60aa293ba593f6c219fde106f9caa8a89fd1290c025d12be19f7488d51a66e", func := "loop.example/g02081/laws.FnExactClassNames", spec := "fnExactClassNames", apart := false, narrowed := true }
def FnExactClassNamesUptoSaid : Prop := fnExactClassNamesUptoRow.holds Try.pinned (OpenSpec.upto fnExactClassNamesSpec)

/-- 'laws.FnExactUndoEdits', WHERE WHAT IT READS IS OF BULK AT MOST 1048576: true; the input reads as it did. -/
def fnExactUndoEditsUptoRow : OpenClaim := { program := "ytccblehcemggjaa", sum := "0f60aa293ba593f6c219fde106f9caa8a89fd1290c025d12be19f7488d51a66e", func := "loop.example/g02081/laws.FnExactUndoEdits", spec := "fnExactUndoEdits", apart := false, narrowed := true }
def FnExactUndoEditsUptoSaid : Prop := fnExactUndoEditsUptoRow.holds Try.pinned (OpenSpec.upto fnExactUndoEditsSpec)

/-- 'laws.FnExactIsSandwich', WHERE WHAT IT READS IS OF BULK AT MOST 1048576: true; the input reads as it did. -/
def fnExactIsSandwichUptoRow : OpenClaim := { program := "ytccblehcemggjaa", sum := "0f60aa293ba593f6c219fde106f9caa8a89fd1290c025d12be19f7488d51a66e", func := "loop.example/g02081/laws.FnExactIsSandwich", spec := "fnExactIsSandwich", apart := false, narrowed := true }
def FnExactIsSandwichUptoSaid : Prop := fnExactIsSandwichUptoRow.holds Try.pinned (OpenSpec.upto fnExactIsSandwichSpec)

/-- 'laws.FnExactEditsBetween', WHERE WHAT IT READS IS OF BULK AT MOST 1048576: true; the input reads as it did. -/
def fnExactEditsBetweenUptoRow : OpenClaim := { program := "ytccblehcemggjaa", sum := "0f60aa293ba593f6c219fde106f9caa8a89fd1290c025d12be19f7488d51a66e", func := "loop.example/g02081/laws.FnExactEditsBetween", spec := "fnExactEditsBetween", apart := false, narrowed := true }
def FnExactEditsBetweenUptoSaid : Prop := fnExactEditsBetweenUptoRow.holds Try.pinned (OpenSpec.upto fnExactEditsBetweenSpec)

/-- 'laws.FnExactToughnessWitness', WHERE WHAT IT READS IS OF BULK AT MOST 1048576: true; the input reads as it did. -/
def fnExactToughnessWitnessUptoRow : OpenClaim := { program := "ytccblehcemggjaa", sum := "0f60aa293ba593f6c219fde106f9caa8a89fd1290c025d12be19f7488d51a66e", func := "loop.example/g02081/laws.FnExactToughnessWitness", spec := "fnExactToughnessWitness", unfollowed := true, recurses := true, apart := false, narrowed := true }
def FnExactToughnessWitnessUptoSaid : Prop := fnExactToughnessWitnessUptoRow.holds Try.pinned (OpenSpec.upto fnExactToughnessWitnessSpec)

/-- 'laws.FnExactIsCompletion', WHERE WHAT IT READS IS OF BULK AT MOST 1048576: true; the input reads as it did. -/
def fnExactIsCompletionUptoRow : OpenClaim := { program := "ytccblehcemggjaa", sum := "0f60aa293ba593f6c219fde106f9caa8a89fd1290c025d12be19f7488d51a66e", func := "loop.example/g02081/laws.FnExactIsCompletion", spec := "fnExactIsCompletion", unfollowed := true, recurses := true, apart := false, narrowed := true }
def FnExactIsCompletionUptoSaid : Prop := fnExactIsCompletionUptoRow.holds Try.pinned (OpenSpec.upto fnExactIsCompletionSpec)

/-- 'laws.FnExactEqualClaims', WHERE WHAT IT READS IS OF BULK AT MOST 1048576: true; the input reads as it did. -/
def fnExactEqualClaimsUptoRow : OpenClaim := { program := "ytccblehcemggjaa", sum := "0f60aa293ba593f6c219fde106f9caa8a89fd1290c025d12be19f7488d51a66e", func := "loop.example/g02081/laws.FnExactEqualClaims", spec := "fnExactEqualClaims", unfollowed := true, recurses := true, apart := false, narrowed := true }
def FnExactEqualClaimsUptoSaid : Prop := fnExactEqualClaimsUptoRow.holds Try.pinned (OpenSpec.upto fnExactEqualClaimsSpec)

/-- 'laws.FnExactHamiltonPath', WHERE WHAT IT READS IS OF BULK AT MOST 1048576: true; the input reads as it did. -/
def fnExactHamiltonPathUptoRow : OpenClaim := { program := "ytccblehcemggjaa", sum := "0f60aa293ba593f6c219fde106f9caa8a89fd1290c025d12be19f7488d51a66e", func := "loop.example/g02081/laws.FnExactHamiltonPath", spec := "fnExactHamiltonPath", unfollowed := true, recurses := true, apart := false, narrowed := true }
def FnExactHamiltonPathUptoSaid : Prop := fnExactHamiltonPathUptoRow.holds Try.pinned (OpenSpec.upto fnExactHamiltonPathSpec)

/-- 'laws.FnExactOptionalEdges', WHERE WHAT IT READS IS OF BULK AT MOST 1048576: true; the input reads as it did. -/
def fnExactOptionalEdgesUptoRow : OpenClaim := { program := "ytccblehcemggjaa", sum := "0f60aa293ba593f6c219fde106f9caa8a89fd1290c025d12be19f7488d51a66e", func := "loop.example/g02081/laws.FnExactOptionalEdges", spec := "fnExactOptionalEdges", apart := false, narrowed := true }
def FnExactOptionalEdgesUptoSaid : Prop := fnExactOptionalEdgesUptoRow.holds Try.pinned (OpenSpec.upto fnExactOptionalEdgesSpec)

/-- 'laws.FnExactHamiltonCycle', WHERE WHAT IT READS IS OF BULK AT MOST 1048576: true; the input reads as it did. -/
def fnExactHamiltonCycleUptoRow : OpenClaim := { program := "ytccblehcemggjaa", sum := "0f60aa293ba593f6c219fde106f9caa8a89fd1290c025d12be19f7488d51a66e", func := "loop.example/g02081/laws.FnExactHamiltonCycle", spec := "fnExactHamiltonCycle", unfollowed := true, recurses := true, apart := false, narrowed := true }
def FnExactHamiltonCycleUptoSaid : Prop := fnExactHamiltonCycleUptoRow.holds Try.pinned (OpenSpec.upto fnExactHamiltonCycleSpec)

/-- 'laws.FnExactAddAll', WHERE WHAT IT READS IS OF BULK AT MOST 1048576: true; the input reads as it did. -/
def fnExactAddAllUptoRow : OpenClaim := { program := "ytccblehcemggjaa", sum := "0f60aa293ba593f6c219fde106f9caa8a89fd1290c025d12be19f7488d51a66e", func := "loop.example/g02081/laws.FnExactAddAll", spec := "fnExactAddAll", apart := false, narrowed := true }
def FnExactAddAllUptoSaid : Prop := fnExactAddAllUptoRow.holds Try.pinned (OpenSpec.upto fnExactAddAllSpec)

end Rows
end Go.Proofs.Ytccblehcemggjaa
