/-
  DERIVED. GIVEN WITH THE SEED: THE CARDS: each row of YtggjceolhbdalaaGreatDoorRows.lean that lists a variable, with what it lists TIED to the program's text (the seventh form; the later family's looks); each row that meets fmt, with fmt's text TOLD by the authors' own Lean function (tested against real Go, not proved from fmt's source: count such statements apart). THE CARD IS WHAT COUNTS. Prove the row's statement (the work); the ties are given (YtggjceolhbdalaaGreatDoorTie.lean); close each card by the builder's one call (the guide's Derived/Test/ToyasCard.lean, 'card_holds'). Laid BY PROGRAM, IN A SANDBOX (cutbox-door.mjs). By AI agents, Wed Nov 11 2026. No macro, syntax, notation, axiom, sorry.
-/
import Derived.Test.YtggjceolhbdalaaGreatDoorRows
import GoSem.ClaimSeven
namespace Go.Proofs.YtggjceolhbdalaaGreatDoor
namespace Rows

/-- THE TIED CARD OF 'estuarylaw.JoinPlays'. -/
def joinPlaysCard : Claim7 := { stood := { row := joinPlaysRow, standIns := [], harness := (true, "10d72060cfe0a8fdcc31d6afac3a5474bab3ab617d3efac05590998a82d258ee"), looks := true }, kinds := [], alts := [], laidByText := true, laidKinds := [.handle], laidTests := true, laidLooks := .later }
def JoinPlaysCardSaid : Prop := Claim7.holds Tryz.pinned (.plain (OpenSpec.ofChange joinPlaysSpec)) joinPlaysCard

/-- THE SECOND FORM's CARD OF 'estuarylaw.JoinPlays'. -/
def joinPlaysUptoCard : Claim7 := { stood := { row := joinPlaysUptoRow, standIns := [], harness := (true, "10d72060cfe0a8fdcc31d6afac3a5474bab3ab617d3efac05590998a82d258ee"), looks := true }, kinds := [], alts := [], laidByText := true, laidKinds := [.handle], laidTests := true, laidLooks := .later }
def JoinPlaysUptoCardSaid : Prop := Claim7.holds Tryz.pinned (.plain (OpenSpec.upto joinPlaysSpec)) joinPlaysUptoCard
end Rows
end Go.Proofs.YtggjceolhbdalaaGreatDoor
