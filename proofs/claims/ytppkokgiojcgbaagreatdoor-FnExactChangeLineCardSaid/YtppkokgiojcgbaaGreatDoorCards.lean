/-
  DERIVED. GIVEN WITH THE SEED: THE CARDS: each row of YtppkokgiojcgbaaGreatDoorRows.lean that lists a variable, with what it lists TIED to the program's text (the seventh form; the later family's looks); each row that meets fmt, with fmt's text TOLD by the authors' own Lean function (tested against real Go, not proved from fmt's source: count such statements apart). THE CARD IS WHAT COUNTS. Prove the row's statement (the work); the ties are given (YtppkokgiojcgbaaGreatDoorTie.lean); close each card by the builder's one call (the guide's Derived/Test/ToyasCard.lean, 'card_holds'). Laid BY PROGRAM, IN A SANDBOX (cutbox-door.mjs). By AI agents, Wed Nov 11 2026. No macro, syntax, notation, axiom, sorry.
-/
import Derived.Test.YtppkokgiojcgbaaGreatDoorRows
import GoSem.ClaimSeven
namespace Go.Proofs.YtppkokgiojcgbaaGreatDoor
namespace Rows

/-- THE TIED CARD OF 'laws.FnExactJournalLine'. -/
def fnExactJournalLineCard : Claim7 := { stood := { row := fnExactJournalLineRow, standIns := [], harness := (true, "822e09a88acdf4d1c592bae3f2babb6a767e5ea35dfb6c0bff947ec5ffdf755e"), looks := false }, kinds := [], alts := [], laidByText := true, laidKinds := [.data, .data, .data], laidTests := true, laidLooks := .later }
def FnExactJournalLineCardSaid : Prop := Claim7.holds Tryz.pinned (.plain (OpenSpec.ofChange fnExactJournalLineSpec)) fnExactJournalLineCard

/-- THE TIED CARD OF 'laws.FnExactChangeLine'. -/
def fnExactChangeLineCard : Claim7 := { stood := { row := fnExactChangeLineRow, standIns := [], harness := (true, "822e09a88acdf4d1c592bae3f2babb6a767e5ea35dfb6c0bff947ec5ffdf755e"), looks := false }, kinds := [], alts := [], laidByText := true, laidKinds := [.data, .data, .data], laidTests := true, laidLooks := .later }
def FnExactChangeLineCardSaid : Prop := Claim7.holds Tryz.pinned (.plain (OpenSpec.ofChange fnExactChangeLineSpec)) fnExactChangeLineCard

/-- THE TIED CARD OF 'laws.FnJournals'. -/
def fnJournalsCard : Claim7 := { stood := { row := fnJournalsRow, standIns := [], harness := (true, "822e09a88acdf4d1c592bae3f2babb6a767e5ea35dfb6c0bff947ec5ffdf755e"), looks := false }, kinds := [], alts := [], laidByText := true, laidKinds := [.data, .data, .data, .data, .pinned], laidTests := true, laidLooks := .later }
def FnJournalsCardSaid : Prop := Claim7.holds Tryz.pinned (.plain (OpenSpec.ofChange fnJournalsSpec)) fnJournalsCard

/-- THE SECOND FORM's CARD OF 'laws.FnExactJournalLine'. -/
def fnExactJournalLineUptoCard : Claim7 := { stood := { row := fnExactJournalLineUptoRow, standIns := [], harness := (true, "822e09a88acdf4d1c592bae3f2babb6a767e5ea35dfb6c0bff947ec5ffdf755e"), looks := false }, kinds := [], alts := [], laidByText := true, laidKinds := [.data, .data, .data], laidTests := true, laidLooks := .later }
def FnExactJournalLineUptoCardSaid : Prop := Claim7.holds Tryz.pinned (.plain (OpenSpec.upto fnExactJournalLineSpec)) fnExactJournalLineUptoCard

/-- THE SECOND FORM's CARD OF 'laws.FnExactChangeLine'. -/
def fnExactChangeLineUptoCard : Claim7 := { stood := { row := fnExactChangeLineUptoRow, standIns := [], harness := (true, "822e09a88acdf4d1c592bae3f2babb6a767e5ea35dfb6c0bff947ec5ffdf755e"), looks := false }, kinds := [], alts := [], laidByText := true, laidKinds := [.data, .data, .data], laidTests := true, laidLooks := .later }
def FnExactChangeLineUptoCardSaid : Prop := Claim7.holds Tryz.pinned (.plain (OpenSpec.upto fnExactChangeLineSpec)) fnExactChangeLineUptoCard

/-- THE SECOND FORM's CARD OF 'laws.FnJournals'. -/
def fnJournalsUptoCard : Claim7 := { stood := { row := fnJournalsUptoRow, standIns := [], harness := (true, "822e09a88acdf4d1c592bae3f2babb6a767e5ea35dfb6c0bff947ec5ffdf755e"), looks := false }, kinds := [], alts := [], laidByText := true, laidKinds := [.data, .data, .data, .data, .pinned], laidTests := true, laidLooks := .later }
def FnJournalsUptoCardSaid : Prop := Claim7.holds Tryz.pinned (.plain (OpenSpec.upto fnJournalsSpec)) fnJournalsUptoCard
end Rows
end Go.Proofs.YtppkokgiojcgbaaGreatDoor
