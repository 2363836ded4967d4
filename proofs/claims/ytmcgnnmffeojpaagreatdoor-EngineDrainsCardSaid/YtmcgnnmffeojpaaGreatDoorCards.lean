/-
  DERIVED. GIVEN WITH THE SEED: THE CARDS: each row of YtmcgnnmffeojpaaGreatDoorRows.lean that lists a variable, with what it lists TIED to the program's text (the seventh form; the later family's looks); each row that meets fmt, with fmt's text TOLD by the authors' own Lean function (tested against real Go, not proved from fmt's source: count such statements apart). THE CARD IS WHAT COUNTS. Prove the row's statement (the work); the ties are given (YtmcgnnmffeojpaaGreatDoorTie.lean); close each card by the builder's one call (the guide's Derived/Test/ToyasCard.lean, 'card_holds'). Laid BY PROGRAM, IN A SANDBOX (cutbox-door.mjs). By AI agents, Wed Nov 11 2026. No macro, syntax, notation, axiom, sorry.
-/
import Derived.Test.YtmcgnnmffeojpaaGreatDoorRows
import GoSem.ClaimSeven
namespace Go.Proofs.YtmcgnnmffeojpaaGreatDoor
namespace Rows

/-- THE TIED CARD OF 'estuarykeep.EngineView'. -/
def engineViewCard : Claim7 := { stood := { row := engineViewRow, standIns := [], harness := (true, "72fa8f49fdeed7e6bba4e770eca4b8c2515e68136fd493b213405de006070e13"), looks := true }, kinds := [], alts := [], laidByText := true, laidKinds := [.data, .data, .data, .data, .handle, .sentinel, .sentinel, .pinned], laidTests := true, laidLooks := .later }
def EngineViewCardSaid : Prop := Claim7.holds Tryz.pinned (.plain (OpenSpec.ofChange engineViewSpec)) engineViewCard

/-- THE TIED CARD OF 'estuarykeep.EngineLasts'. -/
def engineLastsCard : Claim7 := { stood := { row := engineLastsRow, standIns := [], harness := (true, "72fa8f49fdeed7e6bba4e770eca4b8c2515e68136fd493b213405de006070e13"), looks := true }, kinds := [], alts := [], laidByText := true, laidKinds := [.data, .data, .data, .data, .handle, .sentinel, .sentinel, .pinned], laidTests := true, laidLooks := .later }
def EngineLastsCardSaid : Prop := Claim7.holds Tryz.pinned (.plain (OpenSpec.ofChange engineLastsSpec)) engineLastsCard

/-- THE TIED CARD OF 'estuarykeep.EngineOrder'. -/
def engineOrderCard : Claim7 := { stood := { row := engineOrderRow, standIns := [], harness := (true, "72fa8f49fdeed7e6bba4e770eca4b8c2515e68136fd493b213405de006070e13"), looks := true }, kinds := [], alts := [], laidByText := true, laidKinds := [.data, .data, .data, .data, .handle, .sentinel, .sentinel, .pinned], laidTests := true, laidLooks := .later }
def EngineOrderCardSaid : Prop := Claim7.holds Tryz.pinned (.plain (OpenSpec.ofChange engineOrderSpec)) engineOrderCard

/-- THE TIED CARD OF 'estuarykeep.EngineDrains'. -/
def engineDrainsCard : Claim7 := { stood := { row := engineDrainsRow, standIns := [], harness := (true, "72fa8f49fdeed7e6bba4e770eca4b8c2515e68136fd493b213405de006070e13"), looks := true }, kinds := [], alts := [], laidByText := true, laidKinds := [.data, .data, .data, .data, .handle, .sentinel, .sentinel, .pinned], laidTests := true, laidLooks := .later }
def EngineDrainsCardSaid : Prop := Claim7.holds Tryz.pinned (.plain (OpenSpec.ofChange engineDrainsSpec)) engineDrainsCard

/-- THE SECOND FORM's CARD OF 'estuarykeep.EngineView'. -/
def engineViewUptoCard : Claim7 := { stood := { row := engineViewUptoRow, standIns := [], harness := (true, "72fa8f49fdeed7e6bba4e770eca4b8c2515e68136fd493b213405de006070e13"), looks := true }, kinds := [], alts := [], laidByText := true, laidKinds := [.data, .data, .data, .data, .handle, .sentinel, .sentinel, .pinned], laidTests := true, laidLooks := .later }
def EngineViewUptoCardSaid : Prop := Claim7.holds Tryz.pinned (.plain (OpenSpec.upto engineViewSpec)) engineViewUptoCard

/-- THE SECOND FORM's CARD OF 'estuarykeep.EngineLasts'. -/
def engineLastsUptoCard : Claim7 := { stood := { row := engineLastsUptoRow, standIns := [], harness := (true, "72fa8f49fdeed7e6bba4e770eca4b8c2515e68136fd493b213405de006070e13"), looks := true }, kinds := [], alts := [], laidByText := true, laidKinds := [.data, .data, .data, .data, .handle, .sentinel, .sentinel, .pinned], laidTests := true, laidLooks := .later }
def EngineLastsUptoCardSaid : Prop := Claim7.holds Tryz.pinned (.plain (OpenSpec.upto engineLastsSpec)) engineLastsUptoCard

/-- THE SECOND FORM's CARD OF 'estuarykeep.EngineOrder'. -/
def engineOrderUptoCard : Claim7 := { stood := { row := engineOrderUptoRow, standIns := [], harness := (true, "72fa8f49fdeed7e6bba4e770eca4b8c2515e68136fd493b213405de006070e13"), looks := true }, kinds := [], alts := [], laidByText := true, laidKinds := [.data, .data, .data, .data, .handle, .sentinel, .sentinel, .pinned], laidTests := true, laidLooks := .later }
def EngineOrderUptoCardSaid : Prop := Claim7.holds Tryz.pinned (.plain (OpenSpec.upto engineOrderSpec)) engineOrderUptoCard

/-- THE SECOND FORM's CARD OF 'estuarykeep.EngineDrains'. -/
def engineDrainsUptoCard : Claim7 := { stood := { row := engineDrainsUptoRow, standIns := [], harness := (true, "72fa8f49fdeed7e6bba4e770eca4b8c2515e68136fd493b213405de006070e13"), looks := true }, kinds := [], alts := [], laidByText := true, laidKinds := [.data, .data, .data, .data, .handle, .sentinel, .sentinel, .pinned], laidTests := true, laidLooks := .later }
def EngineDrainsUptoCardSaid : Prop := Claim7.holds Tryz.pinned (.plain (OpenSpec.upto engineDrainsSpec)) engineDrainsUptoCard
end Rows
end Go.Proofs.YtmcgnnmffeojpaaGreatDoor
