/-
  DERIVED. GIVEN WITH THE SEED: THE CARDS: each row of YtncjfgebolikoaaDoorRows.lean that lists a variable, with what it lists TIED to the program's text (the seventh form; the later family's looks); each row that meets fmt, with fmt's text TOLD by the authors' own Lean function (tested against real Go, not proved from fmt's source: count such statements apart). THE CARD IS WHAT COUNTS. Prove the row's statement (the work); the ties are given (YtncjfgebolikoaaDoorTie.lean); close each card by the builder's one call (the guide's Derived/Test/ToyasCard.lean, 'card_holds'). Laid BY PROGRAM, IN A SANDBOX (cutbox-door.mjs). By AI agents, Wed Nov 11 2026. No macro, syntax, notation, axiom, sorry.
-/
import Derived.Test.YtncjfgebolikoaaDoorRows
import GoSem.ClaimSeven
namespace Go.Proofs.YtncjfgebolikoaaDoor
namespace Rows

/-- THE TIED CARD OF 'laws.FnExactFormatEdits'. -/
def fnExactFormatEditsCard : Claim7 := { stood := { row := fnExactFormatEditsRow, standIns := [], harness := (true, "f0daa0d13e0982d2b7af5fc949fa0591983df14b16e89276b4d402115028213a"), looks := false }, kinds := [], alts := [], laidByText := true, laidKinds := [.data, .data, .data], laidTests := true, laidLooks := .later }
def FnExactFormatEditsCardSaid : Prop := Claim7.holds Tryd.pinned (.plain (OpenSpec.ofChange fnExactFormatEditsSpec)) fnExactFormatEditsCard

/-- THE TIED CARD OF 'laws.FnExactFormatClaim'. -/
def fnExactFormatClaimCard : Claim7 := { stood := { row := fnExactFormatClaimRow, standIns := [], harness := (true, "f0daa0d13e0982d2b7af5fc949fa0591983df14b16e89276b4d402115028213a"), looks := false }, kinds := [], alts := [], laidByText := true, laidKinds := [.data, .data, .data], laidTests := true, laidLooks := .later }
def FnExactFormatClaimCardSaid : Prop := Claim7.holds Tryd.pinned (.plain (OpenSpec.ofChange fnExactFormatClaimSpec)) fnExactFormatClaimCard

/-- THE TIED CARD OF 'laws.FnExactParseEdits'. -/
def fnExactParseEditsCard : Claim7 := { stood := { row := fnExactParseEditsRow, standIns := [], harness := (true, "f0daa0d13e0982d2b7af5fc949fa0591983df14b16e89276b4d402115028213a"), looks := false }, kinds := [], alts := [], laidByText := true, laidKinds := [.data, .data, .data, .data, .pinned], laidTests := true, laidLooks := .later }
def FnExactParseEditsCardSaid : Prop := Claim7.holds Tryd.pinned (.plain (OpenSpec.ofChange fnExactParseEditsSpec)) fnExactParseEditsCard

/-- THE SECOND FORM's CARD OF 'laws.FnExactFormatEdits'. -/
def fnExactFormatEditsUptoCard : Claim7 := { stood := { row := fnExactFormatEditsUptoRow, standIns := [], harness := (true, "f0daa0d13e0982d2b7af5fc949fa0591983df14b16e89276b4d402115028213a"), looks := false }, kinds := [], alts := [], laidByText := true, laidKinds := [.data, .data, .data], laidTests := true, laidLooks := .later }
def FnExactFormatEditsUptoCardSaid : Prop := Claim7.holds Tryd.pinned (.plain (OpenSpec.upto fnExactFormatEditsSpec)) fnExactFormatEditsUptoCard

/-- THE SECOND FORM's CARD OF 'laws.FnExactFormatClaim'. -/
def fnExactFormatClaimUptoCard : Claim7 := { stood := { row := fnExactFormatClaimUptoRow, standIns := [], harness := (true, "f0daa0d13e0982d2b7af5fc949fa0591983df14b16e89276b4d402115028213a"), looks := false }, kinds := [], alts := [], laidByText := true, laidKinds := [.data, .data, .data], laidTests := true, laidLooks := .later }
def FnExactFormatClaimUptoCardSaid : Prop := Claim7.holds Tryd.pinned (.plain (OpenSpec.upto fnExactFormatClaimSpec)) fnExactFormatClaimUptoCard

/-- THE SECOND FORM's CARD OF 'laws.FnExactParseEdits'. -/
def fnExactParseEditsUptoCard : Claim7 := { stood := { row := fnExactParseEditsUptoRow, standIns := [], harness := (true, "f0daa0d13e0982d2b7af5fc949fa0591983df14b16e89276b4d402115028213a"), looks := false }, kinds := [], alts := [], laidByText := true, laidKinds := [.data, .data, .data, .data, .pinned], laidTests := true, laidLooks := .later }
def FnExactParseEditsUptoCardSaid : Prop := Claim7.holds Tryd.pinned (.plain (OpenSpec.upto fnExactParseEditsSpec)) fnExactParseEditsUptoCard
end Rows
end Go.Proofs.YtncjfgebolikoaaDoor
