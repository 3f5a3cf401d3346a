/-
  DERIVED. GIVEN WITH THE SEED: THE CARDS: each row of YtgmegekboglgdaaDoorRows.lean that lists a variable, with what it lists TIED to the program's text (the seventh form; the later family's looks); each row that meets fmt, with fmt's text TOLD by the authors' own Lean function (tested against real Go, not proved from fmt's source: count such statements apart). THE CARD IS WHAT COUNTS. Prove the row's statement (the work); the ties are given (YtgmegekboglgdaaDoorTie.lean); close each card by the builder's one call (the guide's Derived/Test/ToyasCard.lean, 'card_holds'). Laid BY PROGRAM, IN A SANDBOX (cutbox-door.mjs). By AI agents, Wed Nov 11 2026. No macro, syntax, notation, axiom, sorry.
-/
import Derived.Test.YtgmegekboglgdaaDoorRows
import GoSem.ClaimSeven
namespace Go.Proofs.YtgmegekboglgdaaDoor
namespace Rows

/-- THE TIED CARD OF 'reredoskeep.ConsoleBack'. -/
def consoleBackCard : Claim7 := { stood := { row := consoleBackRow, standIns := [], harness := (true, "fabeb4a64ff698d14891a0dab25b55548d6f0b9aa6bb8054c6c376e0a3060d72"), looks := true }, kinds := [], alts := [], laidByText := true, laidKinds := [.data, .data, .data, .data, .sentinel, .sentinel, .pinned], laidTests := true, laidLooks := .later }
def ConsoleBackCardSaid : Prop := Claim7.holds Tryd.pinned (.plain (OpenSpec.ofChange consoleBackSpec)) consoleBackCard

/-- THE TIED CARD OF 'reredoskeep.ConsoleBad'. -/
def consoleBadCard : Claim7 := { stood := { row := consoleBadRow, standIns := [], harness := (true, "fabeb4a64ff698d14891a0dab25b55548d6f0b9aa6bb8054c6c376e0a3060d72"), looks := true }, kinds := [], alts := [], laidByText := true, laidKinds := [.data, .data, .data, .data, .sentinel, .sentinel, .pinned], laidTests := true, laidLooks := .later }
def ConsoleBadCardSaid : Prop := Claim7.holds Tryd.pinned (.plain (OpenSpec.ofChange consoleBadSpec)) consoleBadCard

/-- THE SECOND FORM's CARD OF 'reredoskeep.ConsoleBack'. -/
def consoleBackUptoCard : Claim7 := { stood := { row := consoleBackUptoRow, standIns := [], harness := (true, "fabeb4a64ff698d14891a0dab25b55548d6f0b9aa6bb8054c6c376e0a3060d72"), looks := true }, kinds := [], alts := [], laidByText := true, laidKinds := [.data, .data, .data, .data, .sentinel, .sentinel, .pinned], laidTests := true, laidLooks := .later }
def ConsoleBackUptoCardSaid : Prop := Claim7.holds Tryd.pinned (.plain (OpenSpec.upto consoleBackSpec)) consoleBackUptoCard

/-- THE SECOND FORM's CARD OF 'reredoskeep.ConsoleBad'. -/
def consoleBadUptoCard : Claim7 := { stood := { row := consoleBadUptoRow, standIns := [], harness := (true, "fabeb4a64ff698d14891a0dab25b55548d6f0b9aa6bb8054c6c376e0a3060d72"), looks := true }, kinds := [], alts := [], laidByText := true, laidKinds := [.data, .data, .data, .data, .sentinel, .sentinel, .pinned], laidTests := true, laidLooks := .later }
def ConsoleBadUptoCardSaid : Prop := Claim7.holds Tryd.pinned (.plain (OpenSpec.upto consoleBadSpec)) consoleBadUptoCard
end Rows
end Go.Proofs.YtgmegekboglgdaaDoor
