/-
  DERIVED. GIVEN WITH THE SEED: THE CARDS: each row of YtggjceolhbdalaaDoorRows.lean that lists a variable, with what it lists TIED to the program's text (the seventh form; the later family's looks); each row that meets fmt, with fmt's text TOLD by the authors' own Lean function (tested against real Go, not proved from fmt's source: count such statements apart). THE CARD IS WHAT COUNTS. Prove the row's statement (the work); the ties are given (YtggjceolhbdalaaDoorTie.lean); close each card by the builder's one call (the guide's Derived/Test/ToyasCard.lean, 'card_holds'). Laid BY PROGRAM, IN A SANDBOX (cutbox-door.mjs). By AI agents, Wed Nov 11 2026. No macro, syntax, notation, axiom, sorry.
-/
import Derived.Test.YtggjceolhbdalaaDoorRows
import GoSem.ClaimSeven
namespace Go.Proofs.YtggjceolhbdalaaDoor
namespace Rows

/-- THE TIED CARD OF 'estuarylaw.MarkPlays'. -/
def markPlaysCard : Claim7 := { stood := { row := markPlaysRow, standIns := [], harness := (true, "1fadc2d27afcb21f92f5f54f347444b6c481f3e146a89231c9f47a5b59a267b4"), looks := true }, kinds := [], alts := [], laidByText := true, laidKinds := [.handle], laidTests := true, laidLooks := .later }
def MarkPlaysCardSaid : Prop := Claim7.holds Tryd.pinned (.plain (OpenSpec.ofChange markPlaysSpec)) markPlaysCard

/-- THE TIED CARD OF 'estuarylaw.GroupPlays'. -/
def groupPlaysCard : Claim7 := { stood := { row := groupPlaysRow, standIns := [], harness := (true, "1fadc2d27afcb21f92f5f54f347444b6c481f3e146a89231c9f47a5b59a267b4"), looks := true }, kinds := [], alts := [], laidByText := true, laidKinds := [.handle], laidTests := true, laidLooks := .later }
def GroupPlaysCardSaid : Prop := Claim7.holds Tryd.pinned (.plain (OpenSpec.ofChange groupPlaysSpec)) groupPlaysCard

/-- THE TIED CARD OF 'estuarylaw.BagPlays'. -/
def bagPlaysCard : Claim7 := { stood := { row := bagPlaysRow, standIns := [], harness := (true, "1fadc2d27afcb21f92f5f54f347444b6c481f3e146a89231c9f47a5b59a267b4"), looks := true }, kinds := [], alts := [], laidByText := true, laidKinds := [.handle], laidTests := true, laidLooks := .later }
def BagPlaysCardSaid : Prop := Claim7.holds Tryd.pinned (.plain (OpenSpec.ofChange bagPlaysSpec)) bagPlaysCard

/-- THE TIED CARD OF 'estuarylaw.SidePlays'. -/
def sidePlaysCard : Claim7 := { stood := { row := sidePlaysRow, standIns := [], harness := (true, "1fadc2d27afcb21f92f5f54f347444b6c481f3e146a89231c9f47a5b59a267b4"), looks := true }, kinds := [], alts := [], laidByText := true, laidKinds := [.handle], laidTests := true, laidLooks := .later }
def SidePlaysCardSaid : Prop := Claim7.holds Tryd.pinned (.plain (OpenSpec.ofChange sidePlaysSpec)) sidePlaysCard

/-- THE SECOND FORM's CARD OF 'estuarylaw.MarkPlays'. -/
def markPlaysUptoCard : Claim7 := { stood := { row := markPlaysUptoRow, standIns := [], harness := (true, "1fadc2d27afcb21f92f5f54f347444b6c481f3e146a89231c9f47a5b59a267b4"), looks := true }, kinds := [], alts := [], laidByText := true, laidKinds := [.handle], laidTests := true, laidLooks := .later }
def MarkPlaysUptoCardSaid : Prop := Claim7.holds Tryd.pinned (.plain (OpenSpec.upto markPlaysSpec)) markPlaysUptoCard

/-- THE SECOND FORM's CARD OF 'estuarylaw.GroupPlays'. -/
def groupPlaysUptoCard : Claim7 := { stood := { row := groupPlaysUptoRow, standIns := [], harness := (true, "1fadc2d27afcb21f92f5f54f347444b6c481f3e146a89231c9f47a5b59a267b4"), looks := true }, kinds := [], alts := [], laidByText := true, laidKinds := [.handle], laidTests := true, laidLooks := .later }
def GroupPlaysUptoCardSaid : Prop := Claim7.holds Tryd.pinned (.plain (OpenSpec.upto groupPlaysSpec)) groupPlaysUptoCard

/-- THE SECOND FORM's CARD OF 'estuarylaw.BagPlays'. -/
def bagPlaysUptoCard : Claim7 := { stood := { row := bagPlaysUptoRow, standIns := [], harness := (true, "1fadc2d27afcb21f92f5f54f347444b6c481f3e146a89231c9f47a5b59a267b4"), looks := true }, kinds := [], alts := [], laidByText := true, laidKinds := [.handle], laidTests := true, laidLooks := .later }
def BagPlaysUptoCardSaid : Prop := Claim7.holds Tryd.pinned (.plain (OpenSpec.upto bagPlaysSpec)) bagPlaysUptoCard

/-- THE SECOND FORM's CARD OF 'estuarylaw.SidePlays'. -/
def sidePlaysUptoCard : Claim7 := { stood := { row := sidePlaysUptoRow, standIns := [], harness := (true, "1fadc2d27afcb21f92f5f54f347444b6c481f3e146a89231c9f47a5b59a267b4"), looks := true }, kinds := [], alts := [], laidByText := true, laidKinds := [.handle], laidTests := true, laidLooks := .later }
def SidePlaysUptoCardSaid : Prop := Claim7.holds Tryd.pinned (.plain (OpenSpec.upto sidePlaysSpec)) sidePlaysUptoCard
end Rows
end Go.Proofs.YtggjceolhbdalaaDoor
