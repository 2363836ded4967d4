/-
  DERIVED. GIVEN WITH THE SEED: THE CARDS: each row of YtmcgnnmffeojpabGreatDoorRows.lean that lists a variable, with what it lists TIED to the program's text (the seventh form; the later family's looks); each row that meets fmt, with fmt's text TOLD by the authors' own Lean function (tested against real Go, not proved from fmt's source: count such statements apart). THE CARD IS WHAT COUNTS. Prove the row's statement (the work); the ties are given (YtmcgnnmffeojpabGreatDoorTie.lean); close each card by the builder's one call (the guide's Derived/Test/ToyasCard.lean, 'card_holds'). Laid BY PROGRAM, IN A SANDBOX (cutbox-door.mjs). By AI agents, Wed Nov 11 2026. No macro, syntax, notation, axiom, sorry.
-/
import Derived.Test.YtmcgnnmffeojpabGreatDoorRows
import GoSem.ClaimSeven
namespace Go.Proofs.YtmcgnnmffeojpabGreatDoor
namespace Rows

/-- THE TIED CARD OF 'estuarylaw.EngineLoads'. -/
def engineLoadsCard : Claim7 := { stood := { row := engineLoadsRow, standIns := [], harness := (true, "698c60eb6ab04384451413a59c3878d2632299ebc88157588874f5f27f15ba31"), looks := true }, kinds := [], alts := [], laidByText := true, laidKinds := [.data, .data, .data, .data, .handle, .sentinel, .sentinel, .listed, .data, .pinned], laidTests := true, laidLooks := .later }
def EngineLoadsCardSaid : Prop := Claim7.holds Tryz.pinned (.plain (OpenSpec.ofChange engineLoadsSpec)) engineLoadsCard

/-- THE TIED CARD OF 'estuarylaw.EnginePlays'. -/
def enginePlaysCard : Claim7 := { stood := { row := enginePlaysRow, standIns := [], harness := (true, "698c60eb6ab04384451413a59c3878d2632299ebc88157588874f5f27f15ba31"), looks := true }, kinds := [], alts := [], laidByText := true, laidKinds := [.data, .data, .data, .data, .handle, .sentinel, .sentinel, .pinned], laidTests := true, laidLooks := .later }
def EnginePlaysCardSaid : Prop := Claim7.holds Tryz.pinned (.plain (OpenSpec.ofChange enginePlaysSpec)) enginePlaysCard

/-- THE SECOND FORM's CARD OF 'estuarylaw.EngineLoads'. -/
def engineLoadsUptoCard : Claim7 := { stood := { row := engineLoadsUptoRow, standIns := [], harness := (true, "698c60eb6ab04384451413a59c3878d2632299ebc88157588874f5f27f15ba31"), looks := true }, kinds := [], alts := [], laidByText := true, laidKinds := [.data, .data, .data, .data, .handle, .sentinel, .sentinel, .listed, .data, .pinned], laidTests := true, laidLooks := .later }
def EngineLoadsUptoCardSaid : Prop := Claim7.holds Tryz.pinned (.plain (OpenSpec.upto engineLoadsSpec)) engineLoadsUptoCard

/-- THE SECOND FORM's CARD OF 'estuarylaw.EnginePlays'. -/
def enginePlaysUptoCard : Claim7 := { stood := { row := enginePlaysUptoRow, standIns := [], harness := (true, "698c60eb6ab04384451413a59c3878d2632299ebc88157588874f5f27f15ba31"), looks := true }, kinds := [], alts := [], laidByText := true, laidKinds := [.data, .data, .data, .data, .handle, .sentinel, .sentinel, .pinned], laidTests := true, laidLooks := .later }
def EnginePlaysUptoCardSaid : Prop := Claim7.holds Tryz.pinned (.plain (OpenSpec.upto enginePlaysSpec)) enginePlaysUptoCard
end Rows
end Go.Proofs.YtmcgnnmffeojpabGreatDoor
