/-
  DERIVED. GIVEN WITH THE SEED: THE CARDS: each row of YtpkabalijooeaaaDoorRows.lean that lists a variable, with what it lists TIED to the program's text (the seventh form; the later family's looks); each row that meets fmt, with fmt's text TOLD by the authors' own Lean function (tested against real Go, not proved from fmt's source: count such statements apart). THE CARD IS WHAT COUNTS. Prove the row's statement (the work); the ties are given (YtpkabalijooeaaaDoorTie.lean); close each card by the builder's one call (the guide's Derived/Test/ToyasCard.lean, 'card_holds'). Laid BY PROGRAM, IN A SANDBOX (cutbox-door.mjs). By AI agents, Wed Nov 11 2026. No macro, syntax, notation, axiom, sorry.
-/
import Derived.Test.YtpkabalijooeaaaDoorRows
import GoSem.ClaimSeven
namespace Go.Proofs.YtpkabalijooeaaaDoor
namespace Rows

/-- THE TIED CARD OF 'reredoskeep.RebuildOn'. -/
def rebuildOnCard : Claim7 := { stood := { row := rebuildOnRow, standIns := [], harness := (true, "461b58a6291c3f0178e7ce0d71ca8a026efb7f3100cb52ca08a7aaac706e5c45"), looks := false }, kinds := [], alts := [], laidByText := true, laidKinds := [.data], laidTests := true, laidLooks := .later }
def RebuildOnCardSaid : Prop := Claim7.holds Tryd.pinned (.plain (OpenSpec.ofChange rebuildOnSpec)) rebuildOnCard

/-- THE TIED CARD OF 'reredoskeep.RebuildStore'. -/
def rebuildStoreCard : Claim7 := { stood := { row := rebuildStoreRow, standIns := [], harness := (true, "461b58a6291c3f0178e7ce0d71ca8a026efb7f3100cb52ca08a7aaac706e5c45"), looks := false }, kinds := [], alts := [], laidByText := true, laidKinds := [.data], laidTests := true, laidLooks := .later }
def RebuildStoreCardSaid : Prop := Claim7.holds Tryd.pinned (.plain (OpenSpec.ofChange rebuildStoreSpec)) rebuildStoreCard

/-- THE TIED CARD OF 'reredoskeep.RebuildDesk'. -/
def rebuildDeskCard : Claim7 := { stood := { row := rebuildDeskRow, standIns := [], harness := (true, "461b58a6291c3f0178e7ce0d71ca8a026efb7f3100cb52ca08a7aaac706e5c45"), looks := false }, kinds := [], alts := [], laidByText := true, laidKinds := [.data], laidTests := true, laidLooks := .later }
def RebuildDeskCardSaid : Prop := Claim7.holds Tryd.pinned (.plain (OpenSpec.ofChange rebuildDeskSpec)) rebuildDeskCard

/-- THE TIED CARD OF 'reredoskeep.RebuildGood'. -/
def rebuildGoodCard : Claim7 := { stood := { row := rebuildGoodRow, standIns := [], harness := (true, "461b58a6291c3f0178e7ce0d71ca8a026efb7f3100cb52ca08a7aaac706e5c45"), looks := false }, kinds := [], alts := [], laidByText := true, laidKinds := [.data], laidTests := true, laidLooks := .later }
def RebuildGoodCardSaid : Prop := Claim7.holds Tryd.pinned (.plain (OpenSpec.ofChange rebuildGoodSpec)) rebuildGoodCard

/-- THE SECOND FORM's CARD OF 'reredoskeep.RebuildOn'. -/
def rebuildOnUptoCard : Claim7 := { stood := { row := rebuildOnUptoRow, standIns := [], harness := (true, "461b58a6291c3f0178e7ce0d71ca8a026efb7f3100cb52ca08a7aaac706e5c45"), looks := false }, kinds := [], alts := [], laidByText := true, laidKinds := [.data], laidTests := true, laidLooks := .later }
def RebuildOnUptoCardSaid : Prop := Claim7.holds Tryd.pinned (.plain (OpenSpec.upto rebuildOnSpec)) rebuildOnUptoCard

/-- THE SECOND FORM's CARD OF 'reredoskeep.RebuildStore'. -/
def rebuildStoreUptoCard : Claim7 := { stood := { row := rebuildStoreUptoRow, standIns := [], harness := (true, "461b58a6291c3f0178e7ce0d71ca8a026efb7f3100cb52ca08a7aaac706e5c45"), looks := false }, kinds := [], alts := [], laidByText := true, laidKinds := [.data], laidTests := true, laidLooks := .later }
def RebuildStoreUptoCardSaid : Prop := Claim7.holds Tryd.pinned (.plain (OpenSpec.upto rebuildStoreSpec)) rebuildStoreUptoCard

/-- THE SECOND FORM's CARD OF 'reredoskeep.RebuildDesk'. -/
def rebuildDeskUptoCard : Claim7 := { stood := { row := rebuildDeskUptoRow, standIns := [], harness := (true, "461b58a6291c3f0178e7ce0d71ca8a026efb7f3100cb52ca08a7aaac706e5c45"), looks := false }, kinds := [], alts := [], laidByText := true, laidKinds := [.data], laidTests := true, laidLooks := .later }
def RebuildDeskUptoCardSaid : Prop := Claim7.holds Tryd.pinned (.plain (OpenSpec.upto rebuildDeskSpec)) rebuildDeskUptoCard

/-- THE SECOND FORM's CARD OF 'reredoskeep.RebuildGood'. -/
def rebuildGoodUptoCard : Claim7 := { stood := { row := rebuildGoodUptoRow, standIns := [], harness := (true, "461b58a6291c3f0178e7ce0d71ca8a026efb7f3100cb52ca08a7aaac706e5c45"), looks := false }, kinds := [], alts := [], laidByText := true, laidKinds := [.data], laidTests := true, laidLooks := .later }
def RebuildGoodUptoCardSaid : Prop := Claim7.holds Tryd.pinned (.plain (OpenSpec.upto rebuildGoodSpec)) rebuildGoodUptoCard
end Rows
end Go.Proofs.YtpkabalijooeaaaDoor
