/-
  DERIVED. GIVEN WITH THE SEED: THE CARDS: each row of YtghehknnaifoeaaDoorRows.lean that lists a variable, with what it lists TIED to the program's text (the seventh form; the later family's looks); each row that meets fmt, with fmt's text TOLD by the authors' own Lean function (tested against real Go, not proved from fmt's source: count such statements apart). THE CARD IS WHAT COUNTS. Prove the row's statement (the work); the ties are given (YtghehknnaifoeaaDoorTie.lean); close each card by the builder's one call (the guide's Derived/Test/ToyasCard.lean, 'card_holds'). Laid BY PROGRAM, IN A SANDBOX (cutbox-door.mjs). By AI agents, Wed Nov 11 2026. No macro, syntax, notation, axiom, sorry.
-/
import Derived.Test.YtghehknnaifoeaaDoorRows
import GoSem.ClaimSeven
namespace Go.Proofs.YtghehknnaifoeaaDoor
namespace Rows

/-- THE TIED CARD OF 'reredoskeep.ShowHidden'. -/
def showHiddenCard : Claim7 := { stood := { row := showHiddenRow, standIns := [], harness := (true, "ce32173378ce25672401ae4cab14926e5a24dda5d5f4e20d79c4f7bba99505b9"), looks := false }, kinds := [], alts := [], laidByText := true, laidKinds := [.data, .data, .data], laidTests := true, laidLooks := .later }
def ShowHiddenCardSaid : Prop := Claim7.holds Tryd.pinned (.plain (OpenSpec.ofChange showHiddenSpec)) showHiddenCard

/-- THE TIED CARD OF 'reredoskeep.ShowList'. -/
def showListCard : Claim7 := { stood := { row := showListRow, standIns := [], harness := (true, "ce32173378ce25672401ae4cab14926e5a24dda5d5f4e20d79c4f7bba99505b9"), looks := false }, kinds := [], alts := [], laidByText := true, laidKinds := [.data, .data, .data], laidTests := true, laidLooks := .later }
def ShowListCardSaid : Prop := Claim7.holds Tryd.pinned (.plain (OpenSpec.ofChange showListSpec)) showListCard

/-- THE SECOND FORM's CARD OF 'reredoskeep.ShowHidden'. -/
def showHiddenUptoCard : Claim7 := { stood := { row := showHiddenUptoRow, standIns := [], harness := (true, "ce32173378ce25672401ae4cab14926e5a24dda5d5f4e20d79c4f7bba99505b9"), looks := false }, kinds := [], alts := [], laidByText := true, laidKinds := [.data, .data, .data], laidTests := true, laidLooks := .later }
def ShowHiddenUptoCardSaid : Prop := Claim7.holds Tryd.pinned (.plain (OpenSpec.upto showHiddenSpec)) showHiddenUptoCard

/-- THE SECOND FORM's CARD OF 'reredoskeep.ShowList'. -/
def showListUptoCard : Claim7 := { stood := { row := showListUptoRow, standIns := [], harness := (true, "ce32173378ce25672401ae4cab14926e5a24dda5d5f4e20d79c4f7bba99505b9"), looks := false }, kinds := [], alts := [], laidByText := true, laidKinds := [.data, .data, .data], laidTests := true, laidLooks := .later }
def ShowListUptoCardSaid : Prop := Claim7.holds Tryd.pinned (.plain (OpenSpec.upto showListSpec)) showListUptoCard
end Rows
end Go.Proofs.YtghehknnaifoeaaDoor
