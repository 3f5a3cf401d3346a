/-
  DERIVED. GIVEN WITH THE SEED: THE CARDS: each row of YtchbnpjegacobaaDoorRows.lean that lists a variable, with what it lists TIED to the program's text (the seventh form; the later family's looks); each row that meets fmt, with fmt's text TOLD by the authors' own Lean function (tested against real Go, not proved from fmt's source: count such statements apart). THE CARD IS WHAT COUNTS. Prove the row's statement (the work); the ties are given (YtchbnpjegacobaaDoorTie.lean); close each card by the builder's one call (the guide's Derived/Test/ToyasCard.lean, 'card_holds'). Laid BY PROGRAM, IN A SANDBOX (cutbox-door.mjs). By AI agents, Wed Nov 11 2026. No macro, syntax, notation, axiom, sorry.
-/
import Derived.Test.YtchbnpjegacobaaDoorRows
import GoSem.ClaimSeven
namespace Go.Proofs.YtchbnpjegacobaaDoor
namespace Rows

/-- THE TIED CARD OF 'reredoskeep.DeskGood'. -/
def deskGoodCard : Claim7 := { stood := { row := deskGoodRow, standIns := [], harness := (true, "f8ccbd6effdd76507c7f7981a4eae1d7f6e92348705af5de14f2aa899e326293"), looks := false }, kinds := [], alts := [], laidByText := true, laidKinds := [.data], laidTests := true, laidLooks := .later }
def DeskGoodCardSaid : Prop := Claim7.holds Tryd.pinned (.plain (OpenSpec.ofChange deskGoodSpec)) deskGoodCard

/-- THE TIED CARD OF 'reredoskeep.BeginNew'. -/
def beginNewCard : Claim7 := { stood := { row := beginNewRow, standIns := [], harness := (true, "f8ccbd6effdd76507c7f7981a4eae1d7f6e92348705af5de14f2aa899e326293"), looks := false }, kinds := [], alts := [], laidByText := true, laidKinds := [.data], laidTests := true, laidLooks := .later }
def BeginNewCardSaid : Prop := Claim7.holds Tryd.pinned (.plain (OpenSpec.ofChange beginNewSpec)) beginNewCard

/-- THE TIED CARD OF 'reredoskeep.CallRefused'. -/
def callRefusedCard : Claim7 := { stood := { row := callRefusedRow, standIns := [], harness := (true, "f8ccbd6effdd76507c7f7981a4eae1d7f6e92348705af5de14f2aa899e326293"), looks := false }, kinds := [], alts := [], laidByText := true, laidKinds := [.data], laidTests := true, laidLooks := .later }
def CallRefusedCardSaid : Prop := Claim7.holds Tryd.pinned (.plain (OpenSpec.ofChange callRefusedSpec)) callRefusedCard

/-- THE TIED CARD OF 'reredoskeep.HearTwice'. -/
def hearTwiceCard : Claim7 := { stood := { row := hearTwiceRow, standIns := [], harness := (true, "f8ccbd6effdd76507c7f7981a4eae1d7f6e92348705af5de14f2aa899e326293"), looks := false }, kinds := [], alts := [], laidByText := true, laidKinds := [.data], laidTests := true, laidLooks := .later }
def HearTwiceCardSaid : Prop := Claim7.holds Tryd.pinned (.plain (OpenSpec.ofChange hearTwiceSpec)) hearTwiceCard

/-- THE TIED CARD OF 'reredoskeep.CommitPlain'. -/
def commitPlainCard : Claim7 := { stood := { row := commitPlainRow, standIns := [], harness := (true, "f8ccbd6effdd76507c7f7981a4eae1d7f6e92348705af5de14f2aa899e326293"), looks := false }, kinds := [], alts := [], laidByText := true, laidKinds := [.data], laidTests := true, laidLooks := .later }
def CommitPlainCardSaid : Prop := Claim7.holds Tryd.pinned (.plain (OpenSpec.ofChange commitPlainSpec)) commitPlainCard

/-- THE TIED CARD OF 'reredoskeep.CommitAsks'. -/
def commitAsksCard : Claim7 := { stood := { row := commitAsksRow, standIns := [], harness := (true, "f8ccbd6effdd76507c7f7981a4eae1d7f6e92348705af5de14f2aa899e326293"), looks := false }, kinds := [], alts := [], laidByText := true, laidKinds := [.data], laidTests := true, laidLooks := .later }
def CommitAsksCardSaid : Prop := Claim7.holds Tryd.pinned (.plain (OpenSpec.ofChange commitAsksSpec)) commitAsksCard

/-- THE TIED CARD OF 'reredoskeep.DoubtsTold'. -/
def doubtsToldCard : Claim7 := { stood := { row := doubtsToldRow, standIns := [], harness := (true, "f8ccbd6effdd76507c7f7981a4eae1d7f6e92348705af5de14f2aa899e326293"), looks := false }, kinds := [], alts := [], laidByText := true, laidKinds := [.data], laidTests := true, laidLooks := .later }
def DoubtsToldCardSaid : Prop := Claim7.holds Tryd.pinned (.plain (OpenSpec.ofChange doubtsToldSpec)) doubtsToldCard

/-- THE TIED CARD OF 'reredoskeep.TickEnds'. -/
def tickEndsCard : Claim7 := { stood := { row := tickEndsRow, standIns := [], harness := (true, "f8ccbd6effdd76507c7f7981a4eae1d7f6e92348705af5de14f2aa899e326293"), looks := false }, kinds := [], alts := [], laidByText := true, laidKinds := [.data], laidTests := true, laidLooks := .later }
def TickEndsCardSaid : Prop := Claim7.holds Tryd.pinned (.plain (OpenSpec.ofChange tickEndsSpec)) tickEndsCard

/-- THE SECOND FORM's CARD OF 'reredoskeep.DeskGood'. -/
def deskGoodUptoCard : Claim7 := { stood := { row := deskGoodUptoRow, standIns := [], harness := (true, "f8ccbd6effdd76507c7f7981a4eae1d7f6e92348705af5de14f2aa899e326293"), looks := false }, kinds := [], alts := [], laidByText := true, laidKinds := [.data], laidTests := true, laidLooks := .later }
def DeskGoodUptoCardSaid : Prop := Claim7.holds Tryd.pinned (.plain (OpenSpec.upto deskGoodSpec)) deskGoodUptoCard

/-- THE SECOND FORM's CARD OF 'reredoskeep.BeginNew'. -/
def beginNewUptoCard : Claim7 := { stood := { row := beginNewUptoRow, standIns := [], harness := (true, "f8ccbd6effdd76507c7f7981a4eae1d7f6e92348705af5de14f2aa899e326293"), looks := false }, kinds := [], alts := [], laidByText := true, laidKinds := [.data], laidTests := true, laidLooks := .later }
def BeginNewUptoCardSaid : Prop := Claim7.holds Tryd.pinned (.plain (OpenSpec.upto beginNewSpec)) beginNewUptoCard

/-- THE SECOND FORM's CARD OF 'reredoskeep.CallRefused'. -/
def callRefusedUptoCard : Claim7 := { stood := { row := callRefusedUptoRow, standIns := [], harness := (true, "f8ccbd6effdd76507c7f7981a4eae1d7f6e92348705af5de14f2aa899e326293"), looks := false }, kinds := [], alts := [], laidByText := true, laidKinds := [.data], laidTests := true, laidLooks := .later }
def CallRefusedUptoCardSaid : Prop := Claim7.holds Tryd.pinned (.plain (OpenSpec.upto callRefusedSpec)) callRefusedUptoCard

/-- THE SECOND FORM's CARD OF 'reredoskeep.HearTwice'. -/
def hearTwiceUptoCard : Claim7 := { stood := { row := hearTwiceUptoRow, standIns := [], harness := (true, "f8ccbd6effdd76507c7f7981a4eae1d7f6e92348705af5de14f2aa899e326293"), looks := false }, kinds := [], alts := [], laidByText := true, laidKinds := [.data], laidTests := true, laidLooks := .later }
def HearTwiceUptoCardSaid : Prop := Claim7.holds Tryd.pinned (.plain (OpenSpec.upto hearTwiceSpec)) hearTwiceUptoCard

/-- THE SECOND FORM's CARD OF 'reredoskeep.CommitPlain'. -/
def commitPlainUptoCard : Claim7 := { stood := { row := commitPlainUptoRow, standIns := [], harness := (true, "f8ccbd6effdd76507c7f7981a4eae1d7f6e92348705af5de14f2aa899e326293"), looks := false }, kinds := [], alts := [], laidByText := true, laidKinds := [.data], laidTests := true, laidLooks := .later }
def CommitPlainUptoCardSaid : Prop := Claim7.holds Tryd.pinned (.plain (OpenSpec.upto commitPlainSpec)) commitPlainUptoCard

/-- THE SECOND FORM's CARD OF 'reredoskeep.CommitAsks'. -/
def commitAsksUptoCard : Claim7 := { stood := { row := commitAsksUptoRow, standIns := [], harness := (true, "f8ccbd6effdd76507c7f7981a4eae1d7f6e92348705af5de14f2aa899e326293"), looks := false }, kinds := [], alts := [], laidByText := true, laidKinds := [.data], laidTests := true, laidLooks := .later }
def CommitAsksUptoCardSaid : Prop := Claim7.holds Tryd.pinned (.plain (OpenSpec.upto commitAsksSpec)) commitAsksUptoCard

/-- THE SECOND FORM's CARD OF 'reredoskeep.DoubtsTold'. -/
def doubtsToldUptoCard : Claim7 := { stood := { row := doubtsToldUptoRow, standIns := [], harness := (true, "f8ccbd6effdd76507c7f7981a4eae1d7f6e92348705af5de14f2aa899e326293"), looks := false }, kinds := [], alts := [], laidByText := true, laidKinds := [.data], laidTests := true, laidLooks := .later }
def DoubtsToldUptoCardSaid : Prop := Claim7.holds Tryd.pinned (.plain (OpenSpec.upto doubtsToldSpec)) doubtsToldUptoCard

/-- THE SECOND FORM's CARD OF 'reredoskeep.TickEnds'. -/
def tickEndsUptoCard : Claim7 := { stood := { row := tickEndsUptoRow, standIns := [], harness := (true, "f8ccbd6effdd76507c7f7981a4eae1d7f6e92348705af5de14f2aa899e326293"), looks := false }, kinds := [], alts := [], laidByText := true, laidKinds := [.data], laidTests := true, laidLooks := .later }
def TickEndsUptoCardSaid : Prop := Claim7.holds Tryd.pinned (.plain (OpenSpec.upto tickEndsSpec)) tickEndsUptoCard
end Rows
end Go.Proofs.YtchbnpjegacobaaDoor
