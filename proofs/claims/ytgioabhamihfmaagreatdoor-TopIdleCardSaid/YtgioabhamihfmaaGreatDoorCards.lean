/-
  DERIVED. GIVEN WITH THE SEED: THE CARDS: each row of YtgioabhamihfmaaGreatDoorRows.lean that lists a variable, with what it lists TIED to the program's text (the seventh form; the later family's looks); each row that meets fmt, with fmt's text TOLD by the authors' own Lean function (tested against real Go, not proved from fmt's source: count such statements apart). THE CARD IS WHAT COUNTS. Prove the row's statement (the work); the ties are given (YtgioabhamihfmaaGreatDoorTie.lean); close each card by the builder's one call (the guide's Derived/Test/ToyasCard.lean, 'card_holds'). Laid BY PROGRAM, IN A SANDBOX (cutbox-door.mjs). By AI agents, Wed Nov 11 2026. No macro, syntax, notation, axiom, sorry.
-/
import Derived.Test.YtgioabhamihfmaaGreatDoorRows
import GoSem.ClaimSeven
namespace Go.Proofs.YtgioabhamihfmaaGreatDoor
namespace Rows

/-- THE TIED CARD OF 'reredostop.TopDown'. -/
def topDownCard : Claim7 := { stood := { row := topDownRow, standIns := [], harness := (true, "b2d1b8464ca706b72266ff0ead52e1413f403a649700bde3fc5495debd84e300"), looks := true }, kinds := [], alts := [], laidByText := true, laidKinds := [.data, .data, .data, .data, .sentinel, .sentinel, .data, .data, .pinned], laidTests := true, laidLooks := .later }
def TopDownCardSaid : Prop := Claim7.holds Tryz.pinned (.plain (OpenSpec.ofChange topDownSpec)) topDownCard

/-- THE TIED CARD OF 'reredostop.TopTwice'. -/
def topTwiceCard : Claim7 := { stood := { row := topTwiceRow, standIns := [], harness := (true, "b2d1b8464ca706b72266ff0ead52e1413f403a649700bde3fc5495debd84e300"), looks := true }, kinds := [], alts := [], laidByText := true, laidKinds := [.data, .data, .data, .data, .sentinel, .sentinel, .data, .data, .pinned], laidTests := true, laidLooks := .later }
def TopTwiceCardSaid : Prop := Claim7.holds Tryz.pinned (.plain (OpenSpec.ofChange topTwiceSpec)) topTwiceCard

/-- THE TIED CARD OF 'reredostop.TopLooks'. -/
def topLooksCard : Claim7 := { stood := { row := topLooksRow, standIns := [], harness := (true, "b2d1b8464ca706b72266ff0ead52e1413f403a649700bde3fc5495debd84e300"), looks := true }, kinds := [], alts := [], laidByText := true, laidKinds := [.data, .data, .data, .data, .sentinel, .sentinel, .data, .data, .pinned], laidTests := true, laidLooks := .later }
def TopLooksCardSaid : Prop := Claim7.holds Tryz.pinned (.plain (OpenSpec.ofChange topLooksSpec)) topLooksCard

/-- THE TIED CARD OF 'reredostop.TopDenied'. -/
def topDeniedCard : Claim7 := { stood := { row := topDeniedRow, standIns := [], harness := (true, "b2d1b8464ca706b72266ff0ead52e1413f403a649700bde3fc5495debd84e300"), looks := true }, kinds := [], alts := [], laidByText := true, laidKinds := [.data, .data, .data, .data, .sentinel, .sentinel, .data, .data, .pinned], laidTests := true, laidLooks := .later }
def TopDeniedCardSaid : Prop := Claim7.holds Tryz.pinned (.plain (OpenSpec.ofChange topDeniedSpec)) topDeniedCard

/-- THE TIED CARD OF 'reredostop.TopUnknown'. -/
def topUnknownCard : Claim7 := { stood := { row := topUnknownRow, standIns := [], harness := (true, "b2d1b8464ca706b72266ff0ead52e1413f403a649700bde3fc5495debd84e300"), looks := true }, kinds := [], alts := [], laidByText := true, laidKinds := [.data, .data, .data, .data, .sentinel, .sentinel, .data, .data, .pinned], laidTests := true, laidLooks := .later }
def TopUnknownCardSaid : Prop := Claim7.holds Tryz.pinned (.plain (OpenSpec.ofChange topUnknownSpec)) topUnknownCard

/-- THE TIED CARD OF 'reredostop.TopDamage'. -/
def topDamageCard : Claim7 := { stood := { row := topDamageRow, standIns := [], harness := (true, "b2d1b8464ca706b72266ff0ead52e1413f403a649700bde3fc5495debd84e300"), looks := true }, kinds := [], alts := [], laidByText := true, laidKinds := [.data, .data, .data, .data, .sentinel, .sentinel, .data, .data, .pinned], laidTests := true, laidLooks := .later }
def TopDamageCardSaid : Prop := Claim7.holds Tryz.pinned (.plain (OpenSpec.ofChange topDamageSpec)) topDamageCard

/-- THE TIED CARD OF 'reredostop.TopIdle'. -/
def topIdleCard : Claim7 := { stood := { row := topIdleRow, standIns := [], harness := (true, "b2d1b8464ca706b72266ff0ead52e1413f403a649700bde3fc5495debd84e300"), looks := true }, kinds := [], alts := [], laidByText := true, laidKinds := [.data, .data, .data, .data, .sentinel, .sentinel, .data, .data, .pinned], laidTests := true, laidLooks := .later }
def TopIdleCardSaid : Prop := Claim7.holds Tryz.pinned (.plain (OpenSpec.ofChange topIdleSpec)) topIdleCard

/-- THE TIED CARD OF 'reredostop.TopPlain'. -/
def topPlainCard : Claim7 := { stood := { row := topPlainRow, standIns := [], harness := (true, "b2d1b8464ca706b72266ff0ead52e1413f403a649700bde3fc5495debd84e300"), looks := true }, kinds := [], alts := [], laidByText := true, laidKinds := [.data, .data, .data, .data, .sentinel, .sentinel, .data, .data, .pinned], laidTests := true, laidLooks := .later }
def TopPlainCardSaid : Prop := Claim7.holds Tryz.pinned (.plain (OpenSpec.ofChange topPlainSpec)) topPlainCard

/-- THE TIED CARD OF 'reredostop.TopTicks'. -/
def topTicksCard : Claim7 := { stood := { row := topTicksRow, standIns := [], harness := (true, "b2d1b8464ca706b72266ff0ead52e1413f403a649700bde3fc5495debd84e300"), looks := true }, kinds := [], alts := [], laidByText := true, laidKinds := [.data, .data, .data, .data, .sentinel, .sentinel, .data, .data, .pinned], laidTests := true, laidLooks := .later }
def TopTicksCardSaid : Prop := Claim7.holds Tryz.pinned (.plain (OpenSpec.ofChange topTicksSpec)) topTicksCard

/-- THE SECOND FORM's CARD OF 'reredostop.TopDown'. -/
def topDownUptoCard : Claim7 := { stood := { row := topDownUptoRow, standIns := [], harness := (true, "b2d1b8464ca706b72266ff0ead52e1413f403a649700bde3fc5495debd84e300"), looks := true }, kinds := [], alts := [], laidByText := true, laidKinds := [.data, .data, .data, .data, .sentinel, .sentinel, .data, .data, .pinned], laidTests := true, laidLooks := .later }
def TopDownUptoCardSaid : Prop := Claim7.holds Tryz.pinned (.plain (OpenSpec.upto topDownSpec)) topDownUptoCard

/-- THE SECOND FORM's CARD OF 'reredostop.TopTwice'. -/
def topTwiceUptoCard : Claim7 := { stood := { row := topTwiceUptoRow, standIns := [], harness := (true, "b2d1b8464ca706b72266ff0ead52e1413f403a649700bde3fc5495debd84e300"), looks := true }, kinds := [], alts := [], laidByText := true, laidKinds := [.data, .data, .data, .data, .sentinel, .sentinel, .data, .data, .pinned], laidTests := true, laidLooks := .later }
def TopTwiceUptoCardSaid : Prop := Claim7.holds Tryz.pinned (.plain (OpenSpec.upto topTwiceSpec)) topTwiceUptoCard

/-- THE SECOND FORM's CARD OF 'reredostop.TopLooks'. -/
def topLooksUptoCard : Claim7 := { stood := { row := topLooksUptoRow, standIns := [], harness := (true, "b2d1b8464ca706b72266ff0ead52e1413f403a649700bde3fc5495debd84e300"), looks := true }, kinds := [], alts := [], laidByText := true, laidKinds := [.data, .data, .data, .data, .sentinel, .sentinel, .data, .data, .pinned], laidTests := true, laidLooks := .later }
def TopLooksUptoCardSaid : Prop := Claim7.holds Tryz.pinned (.plain (OpenSpec.upto topLooksSpec)) topLooksUptoCard

/-- THE SECOND FORM's CARD OF 'reredostop.TopDenied'. -/
def topDeniedUptoCard : Claim7 := { stood := { row := topDeniedUptoRow, standIns := [], harness := (true, "b2d1b8464ca706b72266ff0ead52e1413f403a649700bde3fc5495debd84e300"), looks := true }, kinds := [], alts := [], laidByText := true, laidKinds := [.data, .data, .data, .data, .sentinel, .sentinel, .data, .data, .pinned], laidTests := true, laidLooks := .later }
def TopDeniedUptoCardSaid : Prop := Claim7.holds Tryz.pinned (.plain (OpenSpec.upto topDeniedSpec)) topDeniedUptoCard

/-- THE SECOND FORM's CARD OF 'reredostop.TopUnknown'. -/
def topUnknownUptoCard : Claim7 := { stood := { row := topUnknownUptoRow, standIns := [], harness := (true, "b2d1b8464ca706b72266ff0ead52e1413f403a649700bde3fc5495debd84e300"), looks := true }, kinds := [], alts := [], laidByText := true, laidKinds := [.data, .data, .data, .data, .sentinel, .sentinel, .data, .data, .pinned], laidTests := true, laidLooks := .later }
def TopUnknownUptoCardSaid : Prop := Claim7.holds Tryz.pinned (.plain (OpenSpec.upto topUnknownSpec)) topUnknownUptoCard

/-- THE SECOND FORM's CARD OF 'reredostop.TopDamage'. -/
def topDamageUptoCard : Claim7 := { stood := { row := topDamageUptoRow, standIns := [], harness := (true, "b2d1b8464ca706b72266ff0ead52e1413f403a649700bde3fc5495debd84e300"), looks := true }, kinds := [], alts := [], laidByText := true, laidKinds := [.data, .data, .data, .data, .sentinel, .sentinel, .data, .data, .pinned], laidTests := true, laidLooks := .later }
def TopDamageUptoCardSaid : Prop := Claim7.holds Tryz.pinned (.plain (OpenSpec.upto topDamageSpec)) topDamageUptoCard

/-- THE SECOND FORM's CARD OF 'reredostop.TopIdle'. -/
def topIdleUptoCard : Claim7 := { stood := { row := topIdleUptoRow, standIns := [], harness := (true, "b2d1b8464ca706b72266ff0ead52e1413f403a649700bde3fc5495debd84e300"), looks := true }, kinds := [], alts := [], laidByText := true, laidKinds := [.data, .data, .data, .data, .sentinel, .sentinel, .data, .data, .pinned], laidTests := true, laidLooks := .later }
def TopIdleUptoCardSaid : Prop := Claim7.holds Tryz.pinned (.plain (OpenSpec.upto topIdleSpec)) topIdleUptoCard

/-- THE SECOND FORM's CARD OF 'reredostop.TopPlain'. -/
def topPlainUptoCard : Claim7 := { stood := { row := topPlainUptoRow, standIns := [], harness := (true, "b2d1b8464ca706b72266ff0ead52e1413f403a649700bde3fc5495debd84e300"), looks := true }, kinds := [], alts := [], laidByText := true, laidKinds := [.data, .data, .data, .data, .sentinel, .sentinel, .data, .data, .pinned], laidTests := true, laidLooks := .later }
def TopPlainUptoCardSaid : Prop := Claim7.holds Tryz.pinned (.plain (OpenSpec.upto topPlainSpec)) topPlainUptoCard

/-- THE SECOND FORM's CARD OF 'reredostop.TopTicks'. -/
def topTicksUptoCard : Claim7 := { stood := { row := topTicksUptoRow, standIns := [], harness := (true, "b2d1b8464ca706b72266ff0ead52e1413f403a649700bde3fc5495debd84e300"), looks := true }, kinds := [], alts := [], laidByText := true, laidKinds := [.data, .data, .data, .data, .sentinel, .sentinel, .data, .data, .pinned], laidTests := true, laidLooks := .later }
def TopTicksUptoCardSaid : Prop := Claim7.holds Tryz.pinned (.plain (OpenSpec.upto topTicksSpec)) topTicksUptoCard
end Rows
end Go.Proofs.YtgioabhamihfmaaGreatDoor
