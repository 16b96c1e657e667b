/-
  DERIVED. GIVEN WITH THE SEED: THE CARDS: each row of YtjonhbmgmamchaaGreatDoorRows.lean that lists a variable, with what it lists TIED to the program's text (the seventh form; the later family's looks); each row that meets fmt, with fmt's text TOLD by the authors' own Lean function (tested against real Go, not proved from fmt's source: count such statements apart). THE CARD IS WHAT COUNTS. Prove the row's statement (the work); the ties are given (YtjonhbmgmamchaaGreatDoorTie.lean); close each card by the builder's one call (the guide's Derived/Test/ToyasCard.lean, 'card_holds'). Laid BY PROGRAM, IN A SANDBOX (cutbox-door.mjs). By AI agents, Wed Nov 11 2026. No macro, syntax, notation, axiom, sorry.
-/
import Derived.Test.YtjonhbmgmamchaaGreatDoorRows
import GoSem.ClaimSeven
namespace Go.Proofs.YtjonhbmgmamchaaGreatDoor
namespace Rows

/-- THE TIED CARD OF 'laws.FnExactNumbersLine'. -/
def fnExactNumbersLineCard : Claim7 := { stood := { row := fnExactNumbersLineRow, standIns := [], harness := (true, "034d1ab554d5742ecfa7991399362f0ce67cb55da25c69a1db402b6129db37c8"), looks := false }, kinds := [], alts := [], laidByText := true, laidKinds := [.data, .data, .data], laidTests := true, laidLooks := .later }
def FnExactNumbersLineCardSaid : Prop := Claim7.holds Tryz.pinned (.plain (OpenSpec.ofChange fnExactNumbersLineSpec)) fnExactNumbersLineCard

/-- THE SECOND FORM's CARD OF 'laws.FnExactNumbersLine'. -/
def fnExactNumbersLineUptoCard : Claim7 := { stood := { row := fnExactNumbersLineUptoRow, standIns := [], harness := (true, "034d1ab554d5742ecfa7991399362f0ce67cb55da25c69a1db402b6129db37c8"), looks := false }, kinds := [], alts := [], laidByText := true, laidKinds := [.data, .data, .data], laidTests := true, laidLooks := .later }
def FnExactNumbersLineUptoCardSaid : Prop := Claim7.holds Tryz.pinned (.plain (OpenSpec.upto fnExactNumbersLineSpec)) fnExactNumbersLineUptoCard
end Rows
end Go.Proofs.YtjonhbmgmamchaaGreatDoor
