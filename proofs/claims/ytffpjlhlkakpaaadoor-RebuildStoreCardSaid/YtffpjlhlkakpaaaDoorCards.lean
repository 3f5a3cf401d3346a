/-
  DERIVED. GIVEN WITH THE SEED: THE CARDS: each row of YtffpjlhlkakpaaaDoorRows.lean that lists a variable, with what it lists TIED to the program's text (the seventh form; the later family's looks); each row that meets fmt, with fmt's text TOLD by the authors' own Lean function (tested against real Go, not proved from fmt's source: count such statements apart). THE CARD IS WHAT COUNTS. Prove the row's statement (the work); the ties are given (YtffpjlhlkakpaaaDoorTie.lean); close each card by the builder's one call (the guide's Derived/Test/ToyasCard.lean, 'card_holds'). Laid BY PROGRAM, IN A SANDBOX (cutbox-door.mjs). By AI agents, Wed Nov 11 2026. No macro, syntax, notation, axiom, sorry.
-/
import Derived.Test.YtffpjlhlkakpaaaDoorRows
import GoSem.ClaimSeven
namespace Go.Proofs.YtffpjlhlkakpaaaDoor
namespace Rows

/-- THE TIED CARD OF 'reredoskeep.RebuildStore'. -/
def rebuildStoreCard : Claim7 := { stood := { row := rebuildStoreRow, standIns := [], harness := (true, "6333791c536a1fc454ef1bc9e9c4cf829daed39ca1ee5f9675ade73434b85dd9"), looks := false }, kinds := [], alts := [], laidByText := true, laidKinds := [.data], laidTests := true, laidLooks := .later }
def RebuildStoreCardSaid : Prop := Claim7.holds Tryd.pinned (.plain (OpenSpec.ofChange rebuildStoreSpec)) rebuildStoreCard

/-- THE SECOND FORM's CARD OF 'reredoskeep.RebuildStore'. -/
def rebuildStoreUptoCard : Claim7 := { stood := { row := rebuildStoreUptoRow, standIns := [], harness := (true, "6333791c536a1fc454ef1bc9e9c4cf829daed39ca1ee5f9675ade73434b85dd9"), looks := false }, kinds := [], alts := [], laidByText := true, laidKinds := [.data], laidTests := true, laidLooks := .later }
def RebuildStoreUptoCardSaid : Prop := Claim7.holds Tryd.pinned (.plain (OpenSpec.upto rebuildStoreSpec)) rebuildStoreUptoCard
end Rows
end Go.Proofs.YtffpjlhlkakpaaaDoor
