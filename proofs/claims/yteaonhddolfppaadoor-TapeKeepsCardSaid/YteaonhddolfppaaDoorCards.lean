/-
  DERIVED. GIVEN WITH THE SEED: THE CARDS: each row of YteaonhddolfppaaDoorRows.lean that lists a variable, with what it lists TIED to the program's text (the seventh form; the later family's looks); each row that meets fmt, with fmt's text TOLD by the authors' own Lean function (tested against real Go, not proved from fmt's source: count such statements apart). THE CARD IS WHAT COUNTS. Prove the row's statement (the work); the ties are given (YteaonhddolfppaaDoorTie.lean); close each card by the builder's one call (the guide's Derived/Test/ToyasCard.lean, 'card_holds'). Laid BY PROGRAM, IN A SANDBOX (cutbox-door.mjs). By AI agents, Wed Nov 11 2026. No macro, syntax, notation, axiom, sorry.
-/
import Derived.Test.YteaonhddolfppaaDoorRows
import GoSem.ClaimSeven
namespace Go.Proofs.YteaonhddolfppaaDoor
namespace Rows

/-- THE TIED CARD OF 'reredoskeep.MessageBare'. -/
def messageBareCard : Claim7 := { stood := { row := messageBareRow, standIns := [], harness := (true, "f88c6517bb327a95049375b99ee4529e50502ecd7db5e0be189016c0480bd5ca"), looks := false }, kinds := [], alts := [], laidByText := true, laidKinds := [.data], laidTests := true, laidLooks := .later }
def MessageBareCardSaid : Prop := Claim7.holds Tryd.pinned (.plain (OpenSpec.ofChange messageBareSpec)) messageBareCard

/-- THE TIED CARD OF 'reredoskeep.TapeRoom'. -/
def tapeRoomCard : Claim7 := { stood := { row := tapeRoomRow, standIns := [], harness := (true, "f88c6517bb327a95049375b99ee4529e50502ecd7db5e0be189016c0480bd5ca"), looks := false }, kinds := [], alts := [], laidByText := true, laidKinds := [.data], laidTests := true, laidLooks := .later }
def TapeRoomCardSaid : Prop := Claim7.holds Tryd.pinned (.plain (OpenSpec.ofChange tapeRoomSpec)) tapeRoomCard

/-- THE TIED CARD OF 'reredoskeep.CrashJust'. -/
def crashJustCard : Claim7 := { stood := { row := crashJustRow, standIns := [], harness := (true, "f88c6517bb327a95049375b99ee4529e50502ecd7db5e0be189016c0480bd5ca"), looks := false }, kinds := [], alts := [], laidByText := true, laidKinds := [.data], laidTests := true, laidLooks := .later }
def CrashJustCardSaid : Prop := Claim7.holds Tryd.pinned (.plain (OpenSpec.ofChange crashJustSpec)) crashJustCard

/-- THE TIED CARD OF 'reredoskeep.RecordBack'. -/
def recordBackCard : Claim7 := { stood := { row := recordBackRow, standIns := [], harness := (true, "f88c6517bb327a95049375b99ee4529e50502ecd7db5e0be189016c0480bd5ca"), looks := false }, kinds := [], alts := [], laidByText := true, laidKinds := [.data], laidTests := true, laidLooks := .later }
def RecordBackCardSaid : Prop := Claim7.holds Tryd.pinned (.plain (OpenSpec.ofChange recordBackSpec)) recordBackCard

/-- THE TIED CARD OF 'reredoskeep.RecordFixed'. -/
def recordFixedCard : Claim7 := { stood := { row := recordFixedRow, standIns := [], harness := (true, "f88c6517bb327a95049375b99ee4529e50502ecd7db5e0be189016c0480bd5ca"), looks := false }, kinds := [], alts := [], laidByText := true, laidKinds := [.data], laidTests := true, laidLooks := .later }
def RecordFixedCardSaid : Prop := Claim7.holds Tryd.pinned (.plain (OpenSpec.ofChange recordFixedSpec)) recordFixedCard

/-- THE TIED CARD OF 'reredoskeep.MessageBack'. -/
def messageBackCard : Claim7 := { stood := { row := messageBackRow, standIns := [], harness := (true, "f88c6517bb327a95049375b99ee4529e50502ecd7db5e0be189016c0480bd5ca"), looks := false }, kinds := [], alts := [], laidByText := true, laidKinds := [.data], laidTests := true, laidLooks := .later }
def MessageBackCardSaid : Prop := Claim7.holds Tryd.pinned (.plain (OpenSpec.ofChange messageBackSpec)) messageBackCard

/-- THE TIED CARD OF 'reredoskeep.TapeTorn'. -/
def tapeTornCard : Claim7 := { stood := { row := tapeTornRow, standIns := [], harness := (true, "f88c6517bb327a95049375b99ee4529e50502ecd7db5e0be189016c0480bd5ca"), looks := false }, kinds := [], alts := [], laidByText := true, laidKinds := [.data], laidTests := true, laidLooks := .later }
def TapeTornCardSaid : Prop := Claim7.holds Tryd.pinned (.plain (OpenSpec.ofChange tapeTornSpec)) tapeTornCard

/-- THE TIED CARD OF 'reredoskeep.TapeOn'. -/
def tapeOnCard : Claim7 := { stood := { row := tapeOnRow, standIns := [], harness := (true, "f88c6517bb327a95049375b99ee4529e50502ecd7db5e0be189016c0480bd5ca"), looks := false }, kinds := [], alts := [], laidByText := true, laidKinds := [.data], laidTests := true, laidLooks := .later }
def TapeOnCardSaid : Prop := Claim7.holds Tryd.pinned (.plain (OpenSpec.ofChange tapeOnSpec)) tapeOnCard

/-- THE TIED CARD OF 'reredoskeep.TapeKeeps'. -/
def tapeKeepsCard : Claim7 := { stood := { row := tapeKeepsRow, standIns := [], harness := (true, "f88c6517bb327a95049375b99ee4529e50502ecd7db5e0be189016c0480bd5ca"), looks := false }, kinds := [], alts := [], laidByText := true, laidKinds := [.data], laidTests := true, laidLooks := .later }
def TapeKeepsCardSaid : Prop := Claim7.holds Tryd.pinned (.plain (OpenSpec.ofChange tapeKeepsSpec)) tapeKeepsCard

/-- THE SECOND FORM's CARD OF 'reredoskeep.MessageBare'. -/
def messageBareUptoCard : Claim7 := { stood := { row := messageBareUptoRow, standIns := [], harness := (true, "f88c6517bb327a95049375b99ee4529e50502ecd7db5e0be189016c0480bd5ca"), looks := false }, kinds := [], alts := [], laidByText := true, laidKinds := [.data], laidTests := true, laidLooks := .later }
def MessageBareUptoCardSaid : Prop := Claim7.holds Tryd.pinned (.plain (OpenSpec.upto messageBareSpec)) messageBareUptoCard

/-- THE SECOND FORM's CARD OF 'reredoskeep.TapeRoom'. -/
def tapeRoomUptoCard : Claim7 := { stood := { row := tapeRoomUptoRow, standIns := [], harness := (true, "f88c6517bb327a95049375b99ee4529e50502ecd7db5e0be189016c0480bd5ca"), looks := false }, kinds := [], alts := [], laidByText := true, laidKinds := [.data], laidTests := true, laidLooks := .later }
def TapeRoomUptoCardSaid : Prop := Claim7.holds Tryd.pinned (.plain (OpenSpec.upto tapeRoomSpec)) tapeRoomUptoCard

/-- THE SECOND FORM's CARD OF 'reredoskeep.CrashJust'. -/
def crashJustUptoCard : Claim7 := { stood := { row := crashJustUptoRow, standIns := [], harness := (true, "f88c6517bb327a95049375b99ee4529e50502ecd7db5e0be189016c0480bd5ca"), looks := false }, kinds := [], alts := [], laidByText := true, laidKinds := [.data], laidTests := true, laidLooks := .later }
def CrashJustUptoCardSaid : Prop := Claim7.holds Tryd.pinned (.plain (OpenSpec.upto crashJustSpec)) crashJustUptoCard

/-- THE SECOND FORM's CARD OF 'reredoskeep.RecordBack'. -/
def recordBackUptoCard : Claim7 := { stood := { row := recordBackUptoRow, standIns := [], harness := (true, "f88c6517bb327a95049375b99ee4529e50502ecd7db5e0be189016c0480bd5ca"), looks := false }, kinds := [], alts := [], laidByText := true, laidKinds := [.data], laidTests := true, laidLooks := .later }
def RecordBackUptoCardSaid : Prop := Claim7.holds Tryd.pinned (.plain (OpenSpec.upto recordBackSpec)) recordBackUptoCard

/-- THE SECOND FORM's CARD OF 'reredoskeep.RecordFixed'. -/
def recordFixedUptoCard : Claim7 := { stood := { row := recordFixedUptoRow, standIns := [], harness := (true, "f88c6517bb327a95049375b99ee4529e50502ecd7db5e0be189016c0480bd5ca"), looks := false }, kinds := [], alts := [], laidByText := true, laidKinds := [.data], laidTests := true, laidLooks := .later }
def RecordFixedUptoCardSaid : Prop := Claim7.holds Tryd.pinned (.plain (OpenSpec.upto recordFixedSpec)) recordFixedUptoCard

/-- THE SECOND FORM's CARD OF 'reredoskeep.MessageBack'. -/
def messageBackUptoCard : Claim7 := { stood := { row := messageBackUptoRow, standIns := [], harness := (true, "f88c6517bb327a95049375b99ee4529e50502ecd7db5e0be189016c0480bd5ca"), looks := false }, kinds := [], alts := [], laidByText := true, laidKinds := [.data], laidTests := true, laidLooks := .later }
def MessageBackUptoCardSaid : Prop := Claim7.holds Tryd.pinned (.plain (OpenSpec.upto messageBackSpec)) messageBackUptoCard

/-- THE SECOND FORM's CARD OF 'reredoskeep.TapeTorn'. -/
def tapeTornUptoCard : Claim7 := { stood := { row := tapeTornUptoRow, standIns := [], harness := (true, "f88c6517bb327a95049375b99ee4529e50502ecd7db5e0be189016c0480bd5ca"), looks := false }, kinds := [], alts := [], laidByText := true, laidKinds := [.data], laidTests := true, laidLooks := .later }
def TapeTornUptoCardSaid : Prop := Claim7.holds Tryd.pinned (.plain (OpenSpec.upto tapeTornSpec)) tapeTornUptoCard

/-- THE SECOND FORM's CARD OF 'reredoskeep.TapeOn'. -/
def tapeOnUptoCard : Claim7 := { stood := { row := tapeOnUptoRow, standIns := [], harness := (true, "f88c6517bb327a95049375b99ee4529e50502ecd7db5e0be189016c0480bd5ca"), looks := false }, kinds := [], alts := [], laidByText := true, laidKinds := [.data], laidTests := true, laidLooks := .later }
def TapeOnUptoCardSaid : Prop := Claim7.holds Tryd.pinned (.plain (OpenSpec.upto tapeOnSpec)) tapeOnUptoCard

/-- THE SECOND FORM's CARD OF 'reredoskeep.TapeKeeps'. -/
def tapeKeepsUptoCard : Claim7 := { stood := { row := tapeKeepsUptoRow, standIns := [], harness := (true, "f88c6517bb327a95049375b99ee4529e50502ecd7db5e0be189016c0480bd5ca"), looks := false }, kinds := [], alts := [], laidByText := true, laidKinds := [.data], laidTests := true, laidLooks := .later }
def TapeKeepsUptoCardSaid : Prop := Claim7.holds Tryd.pinned (.plain (OpenSpec.upto tapeKeepsSpec)) tapeKeepsUptoCard
end Rows
end Go.Proofs.YteaonhddolfppaaDoor
