/-
  DERIVED. GIVEN WITH THE SEED: THE CARDS: each row of YtilahimnineigaaDoorRows.lean that lists a variable, with what it lists TIED to the program's text (the seventh form; the later family's looks); each row that meets fmt, with fmt's text TOLD by the authors' own Lean function (tested against real Go, not proved from fmt's source: count such statements apart). THE CARD IS WHAT COUNTS. Prove the row's statement (the work); the ties are given (YtilahimnineigaaDoorTie.lean); close each card by the builder's one call (the guide's Derived/Test/ToyasCard.lean, 'card_holds'). Laid BY PROGRAM, IN A SANDBOX (cutbox-door.mjs). By AI agents, Wed Nov 11 2026. No macro, syntax, notation, axiom, sorry.
-/
import Derived.Test.YtilahimnineigaaDoorRows
import GoSem.ClaimSeven
namespace Go.Proofs.YtilahimnineigaaDoor
namespace Rows

/-- THE TIED CARD OF 'reredoskeep.HearKind'. -/
def hearKindCard : Claim7 := { stood := { row := hearKindRow, standIns := [], harness := (true, "184be8c5eaed085cd106d88a3f5e803fd35c691a06b15d7fddd2c750ac876beb"), looks := false }, kinds := [], alts := [], laidByText := true, laidKinds := [.data], laidTests := true, laidLooks := .later }
def HearKindCardSaid : Prop := Claim7.holds Tryd.pinned (.plain (OpenSpec.ofChange hearKindSpec)) hearKindCard

/-- THE TIED CARD OF 'reredoskeep.HearDown'. -/
def hearDownCard : Claim7 := { stood := { row := hearDownRow, standIns := [], harness := (true, "184be8c5eaed085cd106d88a3f5e803fd35c691a06b15d7fddd2c750ac876beb"), looks := false }, kinds := [], alts := [], laidByText := true, laidKinds := [.data], laidTests := true, laidLooks := .later }
def HearDownCardSaid : Prop := Claim7.holds Tryd.pinned (.plain (OpenSpec.ofChange hearDownSpec)) hearDownCard

/-- THE TIED CARD OF 'reredoskeep.HearSure'. -/
def hearSureCard : Claim7 := { stood := { row := hearSureRow, standIns := [], harness := (true, "184be8c5eaed085cd106d88a3f5e803fd35c691a06b15d7fddd2c750ac876beb"), looks := false }, kinds := [], alts := [], laidByText := true, laidKinds := [.data], laidTests := true, laidLooks := .later }
def HearSureCardSaid : Prop := Claim7.holds Tryd.pinned (.plain (OpenSpec.ofChange hearSureSpec)) hearSureCard

/-- THE TIED CARD OF 'reredoskeep.HearWrite'. -/
def hearWriteCard : Claim7 := { stood := { row := hearWriteRow, standIns := [], harness := (true, "184be8c5eaed085cd106d88a3f5e803fd35c691a06b15d7fddd2c750ac876beb"), looks := false }, kinds := [], alts := [], laidByText := true, laidKinds := [.data], laidTests := true, laidLooks := .later }
def HearWriteCardSaid : Prop := Claim7.holds Tryd.pinned (.plain (OpenSpec.ofChange hearWriteSpec)) hearWriteCard

/-- THE TIED CARD OF 'reredoskeep.HearDecide'. -/
def hearDecideCard : Claim7 := { stood := { row := hearDecideRow, standIns := [], harness := (true, "184be8c5eaed085cd106d88a3f5e803fd35c691a06b15d7fddd2c750ac876beb"), looks := false }, kinds := [], alts := [], laidByText := true, laidKinds := [.data], laidTests := true, laidLooks := .later }
def HearDecideCardSaid : Prop := Claim7.holds Tryd.pinned (.plain (OpenSpec.ofChange hearDecideSpec)) hearDecideCard

/-- THE TIED CARD OF 'reredoskeep.ForceDamage'. -/
def forceDamageCard : Claim7 := { stood := { row := forceDamageRow, standIns := [], harness := (true, "184be8c5eaed085cd106d88a3f5e803fd35c691a06b15d7fddd2c750ac876beb"), looks := false }, kinds := [], alts := [], laidByText := true, laidKinds := [.data], laidTests := true, laidLooks := .later }
def ForceDamageCardSaid : Prop := Claim7.holds Tryd.pinned (.plain (OpenSpec.ofChange forceDamageSpec)) forceDamageCard

/-- THE SECOND FORM's CARD OF 'reredoskeep.HearKind'. -/
def hearKindUptoCard : Claim7 := { stood := { row := hearKindUptoRow, standIns := [], harness := (true, "184be8c5eaed085cd106d88a3f5e803fd35c691a06b15d7fddd2c750ac876beb"), looks := false }, kinds := [], alts := [], laidByText := true, laidKinds := [.data], laidTests := true, laidLooks := .later }
def HearKindUptoCardSaid : Prop := Claim7.holds Tryd.pinned (.plain (OpenSpec.upto hearKindSpec)) hearKindUptoCard

/-- THE SECOND FORM's CARD OF 'reredoskeep.HearDown'. -/
def hearDownUptoCard : Claim7 := { stood := { row := hearDownUptoRow, standIns := [], harness := (true, "184be8c5eaed085cd106d88a3f5e803fd35c691a06b15d7fddd2c750ac876beb"), looks := false }, kinds := [], alts := [], laidByText := true, laidKinds := [.data], laidTests := true, laidLooks := .later }
def HearDownUptoCardSaid : Prop := Claim7.holds Tryd.pinned (.plain (OpenSpec.upto hearDownSpec)) hearDownUptoCard

/-- THE SECOND FORM's CARD OF 'reredoskeep.HearSure'. -/
def hearSureUptoCard : Claim7 := { stood := { row := hearSureUptoRow, standIns := [], harness := (true, "184be8c5eaed085cd106d88a3f5e803fd35c691a06b15d7fddd2c750ac876beb"), looks := false }, kinds := [], alts := [], laidByText := true, laidKinds := [.data], laidTests := true, laidLooks := .later }
def HearSureUptoCardSaid : Prop := Claim7.holds Tryd.pinned (.plain (OpenSpec.upto hearSureSpec)) hearSureUptoCard

/-- THE SECOND FORM's CARD OF 'reredoskeep.HearWrite'. -/
def hearWriteUptoCard : Claim7 := { stood := { row := hearWriteUptoRow, standIns := [], harness := (true, "184be8c5eaed085cd106d88a3f5e803fd35c691a06b15d7fddd2c750ac876beb"), looks := false }, kinds := [], alts := [], laidByText := true, laidKinds := [.data], laidTests := true, laidLooks := .later }
def HearWriteUptoCardSaid : Prop := Claim7.holds Tryd.pinned (.plain (OpenSpec.upto hearWriteSpec)) hearWriteUptoCard

/-- THE SECOND FORM's CARD OF 'reredoskeep.HearDecide'. -/
def hearDecideUptoCard : Claim7 := { stood := { row := hearDecideUptoRow, standIns := [], harness := (true, "184be8c5eaed085cd106d88a3f5e803fd35c691a06b15d7fddd2c750ac876beb"), looks := false }, kinds := [], alts := [], laidByText := true, laidKinds := [.data], laidTests := true, laidLooks := .later }
def HearDecideUptoCardSaid : Prop := Claim7.holds Tryd.pinned (.plain (OpenSpec.upto hearDecideSpec)) hearDecideUptoCard

/-- THE SECOND FORM's CARD OF 'reredoskeep.ForceDamage'. -/
def forceDamageUptoCard : Claim7 := { stood := { row := forceDamageUptoRow, standIns := [], harness := (true, "184be8c5eaed085cd106d88a3f5e803fd35c691a06b15d7fddd2c750ac876beb"), looks := false }, kinds := [], alts := [], laidByText := true, laidKinds := [.data], laidTests := true, laidLooks := .later }
def ForceDamageUptoCardSaid : Prop := Claim7.holds Tryd.pinned (.plain (OpenSpec.upto forceDamageSpec)) forceDamageUptoCard
end Rows
end Go.Proofs.YtilahimnineigaaDoor
