/-
  DERIVED. GIVEN WITH THE SEED: THE CARDS: each row of YtopdccbcknlepaaDoorRows.lean that lists a variable, with what it lists TIED to the program's text (the seventh form; the later family's looks); each row that meets fmt, with fmt's text TOLD by the authors' own Lean function (tested against real Go, not proved from fmt's source: count such statements apart). THE CARD IS WHAT COUNTS. Prove the row's statement (the work); the ties are given (YtopdccbcknlepaaDoorTie.lean); close each card by the builder's one call (the guide's Derived/Test/ToyasCard.lean, 'card_holds'). Laid BY PROGRAM, IN A SANDBOX (cutbox-door.mjs). By AI agents, Wed Nov 11 2026. No macro, syntax, notation, axiom, sorry.
-/
import Derived.Test.YtopdccbcknlepaaDoorRows
import GoSem.ClaimSeven
namespace Go.Proofs.YtopdccbcknlepaaDoor
namespace Rows

/-- THE TIED CARD OF 'reredoskeep.SendAll'. -/
def sendAllCard : Claim7 := { stood := { row := sendAllRow, standIns := [], harness := (true, "f7dedb91b0d8a1c5f2984984c69112a5725ae5a051576f48f5da76a1e18c1578"), looks := false }, kinds := [], alts := [], laidByText := true, laidKinds := [.data], laidTests := true, laidLooks := .later }
def SendAllCardSaid : Prop := Claim7.holds Tryd.pinned (.plain (OpenSpec.ofChange sendAllSpec)) sendAllCard

/-- THE TIED CARD OF 'reredoskeep.SendFull'. -/
def sendFullCard : Claim7 := { stood := { row := sendFullRow, standIns := [], harness := (true, "f7dedb91b0d8a1c5f2984984c69112a5725ae5a051576f48f5da76a1e18c1578"), looks := false }, kinds := [], alts := [], laidByText := true, laidKinds := [.data], laidTests := true, laidLooks := .later }
def SendFullCardSaid : Prop := Claim7.holds Tryd.pinned (.plain (OpenSpec.ofChange sendFullSpec)) sendFullCard

/-- THE TIED CARD OF 'reredoskeep.TakeOne'. -/
def takeOneCard : Claim7 := { stood := { row := takeOneRow, standIns := [], harness := (true, "f7dedb91b0d8a1c5f2984984c69112a5725ae5a051576f48f5da76a1e18c1578"), looks := false }, kinds := [], alts := [], laidByText := true, laidKinds := [.data], laidTests := true, laidLooks := .later }
def TakeOneCardSaid : Prop := Claim7.holds Tryd.pinned (.plain (OpenSpec.ofChange takeOneSpec)) takeOneCard

/-- THE SECOND FORM's CARD OF 'reredoskeep.SendAll'. -/
def sendAllUptoCard : Claim7 := { stood := { row := sendAllUptoRow, standIns := [], harness := (true, "f7dedb91b0d8a1c5f2984984c69112a5725ae5a051576f48f5da76a1e18c1578"), looks := false }, kinds := [], alts := [], laidByText := true, laidKinds := [.data], laidTests := true, laidLooks := .later }
def SendAllUptoCardSaid : Prop := Claim7.holds Tryd.pinned (.plain (OpenSpec.upto sendAllSpec)) sendAllUptoCard

/-- THE SECOND FORM's CARD OF 'reredoskeep.SendFull'. -/
def sendFullUptoCard : Claim7 := { stood := { row := sendFullUptoRow, standIns := [], harness := (true, "f7dedb91b0d8a1c5f2984984c69112a5725ae5a051576f48f5da76a1e18c1578"), looks := false }, kinds := [], alts := [], laidByText := true, laidKinds := [.data], laidTests := true, laidLooks := .later }
def SendFullUptoCardSaid : Prop := Claim7.holds Tryd.pinned (.plain (OpenSpec.upto sendFullSpec)) sendFullUptoCard

/-- THE SECOND FORM's CARD OF 'reredoskeep.TakeOne'. -/
def takeOneUptoCard : Claim7 := { stood := { row := takeOneUptoRow, standIns := [], harness := (true, "f7dedb91b0d8a1c5f2984984c69112a5725ae5a051576f48f5da76a1e18c1578"), looks := false }, kinds := [], alts := [], laidByText := true, laidKinds := [.data], laidTests := true, laidLooks := .later }
def TakeOneUptoCardSaid : Prop := Claim7.holds Tryd.pinned (.plain (OpenSpec.upto takeOneSpec)) takeOneUptoCard
end Rows
end Go.Proofs.YtopdccbcknlepaaDoor
