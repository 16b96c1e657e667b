/-
  DERIVED. GIVEN WITH THE SEED: THE CARDS: each row of YtfabbohijhjpcaaGreatDoorRows.lean that lists a variable, with what it lists TIED to the program's text (the seventh form; the later family's looks); each row that meets fmt, with fmt's text TOLD by the authors' own Lean function (tested against real Go, not proved from fmt's source: count such statements apart). THE CARD IS WHAT COUNTS. Prove the row's statement (the work); the ties are given (YtfabbohijhjpcaaGreatDoorTie.lean); close each card by the builder's one call (the guide's Derived/Test/ToyasCard.lean, 'card_holds'). Laid BY PROGRAM, IN A SANDBOX (cutbox-door.mjs). By AI agents, Wed Nov 11 2026. No macro, syntax, notation, axiom, sorry.
-/
import Derived.Test.YtfabbohijhjpcaaGreatDoorRows
import GoSem.ClaimSeven
namespace Go.Proofs.YtfabbohijhjpcaaGreatDoor
namespace Rows

/-- THE TIED CARD OF 'laws.FnJournals'. -/
def fnJournalsCard : Claim7 := { stood := { row := fnJournalsRow, standIns := [], harness := (true, "2fff6e37d94d14ef8209aae0a44569e43abc427152a0ce1d8820f3a6ab4a7131"), looks := false }, kinds := [], alts := [], laidByText := true, laidKinds := [.data, .data, .data, .data, .pinned], laidTests := true, laidLooks := .later }
def FnJournalsCardSaid : Prop := Claim7.holds Tryz.pinned (.plain (OpenSpec.ofChange fnJournalsSpec)) fnJournalsCard

/-- THE TIED CARD OF 'laws.FnExactClassLine'. -/
def fnExactClassLineCard : Claim7 := { stood := { row := fnExactClassLineRow, standIns := [], harness := (true, "2fff6e37d94d14ef8209aae0a44569e43abc427152a0ce1d8820f3a6ab4a7131"), looks := false }, kinds := [], alts := [], laidByText := true, laidKinds := [.data, .data, .data], laidTests := true, laidLooks := .later }
def FnExactClassLineCardSaid : Prop := Claim7.holds Tryz.pinned (.plain (OpenSpec.ofChange fnExactClassLineSpec)) fnExactClassLineCard

/-- THE SECOND FORM's CARD OF 'laws.FnJournals'. -/
def fnJournalsUptoCard : Claim7 := { stood := { row := fnJournalsUptoRow, standIns := [], harness := (true, "2fff6e37d94d14ef8209aae0a44569e43abc427152a0ce1d8820f3a6ab4a7131"), looks := false }, kinds := [], alts := [], laidByText := true, laidKinds := [.data, .data, .data, .data, .pinned], laidTests := true, laidLooks := .later }
def FnJournalsUptoCardSaid : Prop := Claim7.holds Tryz.pinned (.plain (OpenSpec.upto fnJournalsSpec)) fnJournalsUptoCard

/-- THE SECOND FORM's CARD OF 'laws.FnExactClassLine'. -/
def fnExactClassLineUptoCard : Claim7 := { stood := { row := fnExactClassLineUptoRow, standIns := [], harness := (true, "2fff6e37d94d14ef8209aae0a44569e43abc427152a0ce1d8820f3a6ab4a7131"), looks := false }, kinds := [], alts := [], laidByText := true, laidKinds := [.data, .data, .data], laidTests := true, laidLooks := .later }
def FnExactClassLineUptoCardSaid : Prop := Claim7.holds Tryz.pinned (.plain (OpenSpec.upto fnExactClassLineSpec)) fnExactClassLineUptoCard
end Rows
end Go.Proofs.YtfabbohijhjpcaaGreatDoor
