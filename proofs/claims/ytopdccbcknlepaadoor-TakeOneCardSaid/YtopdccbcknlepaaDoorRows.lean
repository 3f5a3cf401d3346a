/-
  NARROWER THAN 'FOR EVERY INPUT', by the rows' own cells (each row's printed sentence says how): SendAll: laid · SendFull: laid · TakeOne: laid.
  DERIVED. THE GIVEN ROWS OF THIS SEAT. 3 by the template 'for every input the law returns true; each argument reads behind the call as it read before'; 0 by the template 'total and deterministic' (their statements: YtopdccbcknlepaaDoorTotals.lean).
  GIVEN WITH THE SEED: the statements are not yours to turn. If you find one false, say at which input.
  Laid BY PROGRAM, IN A SANDBOX (cutbox-rows.mjs): the forced cells as the released guide's own fill.sh prints them over the translation 269a0c5bde102232… (all of the seat's roots in one cut). By AI agents, Wed Nov 11 2026. No macro, syntax, notation, axiom, sorry.
-/
import Derived.Test.YtopdccbcknlepaaDoorChecked
import GoSem.Claim
import GoSem.ClaimJoined
import GoSem.ClaimMapViews
import Derived.JoinedTies
import Derived.KernelRfl
namespace Go.Proofs.YtopdccbcknlepaaDoor
/- THE CELL 'sum', in the pinned program and in every row, IS THE sha256 OF THE DUMP (.gsa) THAT YtopdccbcknlepaaDoorProg.lean LOADS. Nothing in Lean hashes anything: it is a label: what it is worth is what the hold of that sum in a sandbox is worth. -/
noncomputable def Tryd.pinned : Pinned := { name := "ytopdccbcknlepaadoor", sum := "269a0c5bde102232b7f6f83b55df131114e8c218b01454ca0dceef8bcf523aa3", checked := Tryd.checked }
namespace Rows
def none {H : Type} : Left H := { results := [], args := [] }

/- WHAT THE LISTED PACKAGE-LEVEL VARIABLES READ AS WHEN THE CALL BEGINS. Each datum BY PROGRAM (the guide's laid-datum.mjs) off the statement by which the dump's own 'gosem.cut.vars' lays the variable. In a bare row this is a premise. The card (YtopdccbcknlepaaDoorCards.lean) ties it to the program's text. -/
def laid_reredos_wire_messages {H : Type} : DataW H := .agg [.agg [.lit (.bool false), .lit (.bool false), .lit (.bool false), .lit (.bool false), .lit (.bool false), .lit (.bool false), .lit (.bool false), .lit (.bool false)], .agg [.lit (.bool true), .lit (.bool true), .lit (.bool false), .lit (.bool false), .lit (.bool true), .lit (.bool false), .lit (.bool false), .lit (.bool false)], .agg [.lit (.bool false), .lit (.bool true), .lit (.bool true), .lit (.bool false), .lit (.bool true), .lit (.bool false), .lit (.bool false), .lit (.bool false)], .agg [.lit (.bool true), .lit (.bool true), .lit (.bool false), .lit (.bool true), .lit (.bool false), .lit (.bool false), .lit (.bool false), .lit (.bool false)], .agg [.lit (.bool false), .lit (.bool false), .lit (.bool false), .lit (.bool false), .lit (.bool false), .lit (.bool true), .lit (.bool false), .lit (.bool false)], .agg [.lit (.bool true), .lit (.bool true), .lit (.bool true), .lit (.bool true), .lit (.bool true), .lit (.bool false), .lit (.bool true), .lit (.bool false)], .agg [.lit (.bool false), .lit (.bool true), .lit (.bool false), .lit (.bool false), .lit (.bool true), .lit (.bool false), .lit (.bool true), .lit (.bool false)], .agg [.lit (.bool true), .lit (.bool true), .lit (.bool false), .lit (.bool true), .lit (.bool false), .lit (.bool true), .lit (.bool false), .lit (.bool false)], .agg [.lit (.bool false), .lit (.bool false), .lit (.bool false), .lit (.bool false), .lit (.bool false), .lit (.bool false), .lit (.bool false), .lit (.bool false)], .agg [.lit (.bool false), .lit (.bool false), .lit (.bool false), .lit (.bool false), .lit (.bool false), .lit (.bool false), .lit (.bool false), .lit (.bool false)]]

/-- 'reredoskeep.SendAll': WHATEVER THE INPUT: true; the input reads as it did. -/
def sendAllSpec : ChangeSpec := { name := "sendAll", fn := fun _ => fun
  | [d1, d2, d3] => { results := [.lit (.bool true)], args := [d1, d2, d3] }
  | _ => none }
def sendAllRow : OpenClaim := { program := "ytopdccbcknlepaadoor", sum := "269a0c5bde102232b7f6f83b55df131114e8c218b01454ca0dceef8bcf523aa3", func := "reredos/reredoskeep.SendAll", spec := "sendAll", named := ["reredos/wire.messages"], apart := false, laid := [("reredos/wire.messages", laid_reredos_wire_messages)] }
def SendAllSaid : Prop := sendAllRow.holds Tryd.pinned (OpenSpec.ofChange sendAllSpec)

/-- ITS FALSE NEIGHBOUR: 'it returns false'. Refute it at one input. -/
def sendAllWrong : ChangeSpec := { name := "sendAll", fn := fun _ => fun
  | [d1, d2, d3] => { results := [.lit (.bool false)], args := [d1, d2, d3] }
  | _ => none }
def SendAllWrongFalsely : Prop := sendAllRow.holds Tryd.pinned (OpenSpec.ofChange sendAllWrong)

/-- 'reredoskeep.SendFull': WHATEVER THE INPUT: true; the input reads as it did. -/
def sendFullSpec : ChangeSpec := { name := "sendFull", fn := fun _ => fun
  | [d1, d2, d3, d4] => { results := [.lit (.bool true)], args := [d1, d2, d3, d4] }
  | _ => none }
def sendFullRow : OpenClaim := { program := "ytopdccbcknlepaadoor", sum := "269a0c5bde102232b7f6f83b55df131114e8c218b01454ca0dceef8bcf523aa3", func := "reredos/reredoskeep.SendFull", spec := "sendFull", named := ["reredos/wire.messages"], apart := false, laid := [("reredos/wire.messages", laid_reredos_wire_messages)] }
def SendFullSaid : Prop := sendFullRow.holds Tryd.pinned (OpenSpec.ofChange sendFullSpec)

/-- ITS FALSE NEIGHBOUR: 'it returns false'. Refute it at one input. -/
def sendFullWrong : ChangeSpec := { name := "sendFull", fn := fun _ => fun
  | [d1, d2, d3, d4] => { results := [.lit (.bool false)], args := [d1, d2, d3, d4] }
  | _ => none }
def SendFullWrongFalsely : Prop := sendFullRow.holds Tryd.pinned (OpenSpec.ofChange sendFullWrong)

/-- 'reredoskeep.TakeOne': WHATEVER THE INPUT: true; the input reads as it did. -/
def takeOneSpec : ChangeSpec := { name := "takeOne", fn := fun _ => fun
  | [d1, d2, d3, d4, d5] => { results := [.lit (.bool true)], args := [d1, d2, d3, d4, d5] }
  | _ => none }
def takeOneRow : OpenClaim := { program := "ytopdccbcknlepaadoor", sum := "269a0c5bde102232b7f6f83b55df131114e8c218b01454ca0dceef8bcf523aa3", func := "reredos/reredoskeep.TakeOne", spec := "takeOne", named := ["reredos/wire.messages"], apart := false, laid := [("reredos/wire.messages", laid_reredos_wire_messages)] }
def TakeOneSaid : Prop := takeOneRow.holds Tryd.pinned (OpenSpec.ofChange takeOneSpec)

/-- ITS FALSE NEIGHBOUR: 'it returns false'. Refute it at one input. -/
def takeOneWrong : ChangeSpec := { name := "takeOne", fn := fun _ => fun
  | [d1, d2, d3, d4, d5] => { results := [.lit (.bool false)], args := [d1, d2, d3, d4, d5] }
  | _ => none }
def TakeOneWrongFalsely : Prop := takeOneRow.holds Tryd.pinned (OpenSpec.ofChange takeOneWrong)

/- THE SECOND FORM. 'bulk': how many values and letters a reading holds, each counted each time it is reached (what is shared counts as often as it is met; a slice's spare places count too). A statement '..UptoSaid' is the law's where the arguments, and the package variables that the reading takes, are together of bulk at most 1048576: NARROWER than '..Said'. Prove '..Said' where nothing that the law and all that it calls make is longer than what came in: it says more and counts as full. Else prove '..UptoSaid'. A law counts once. -/
mutual
def uptoBulk {H : Type} : DataW H → Nat
  | .lit (.string bytes) => bytes.length + 1
  | .lit _ => 1
  | .nil => 1
  | .ptr d => uptoBulk d + 1
  | .slice elems spare => uptoBulkAll elems + uptoBulkAll spare + 1
  | .agg parts => uptoBulkAll parts + 1
  | .iface _ d => uptoBulk d + 1
  | .map entries => uptoBulkEntries entries + 1
  | .held _ => 1
def uptoBulkAll {H : Type} : List (DataW H) → Nat
  | [] => 0
  | d :: r => uptoBulk d + uptoBulkAll r
def uptoBulkEntries {H : Type} : List (Lit × DataW H) → Nat
  | [] => 0
  | x :: r => uptoBulkEntry x + uptoBulkEntries r
def uptoBulkEntry {H : Type} : Lit × DataW H → Nat
  | (.string bytes, d) => bytes.length + uptoBulk d + 1
  | (_, d) => uptoBulk d + 1
 end
def uptoSmall : (H : Type) → List (DataW H) → Bool := fun _ ds => decide (uptoBulkAll ds ≤ 1048576)
def OpenSpec.upto (s : _root_.Go.ChangeSpec) : _root_.Go.OpenSpec := { _root_.Go.OpenSpec.ofChange s with cond := some uptoSmall }

/-- 'reredoskeep.SendAll', WHERE WHAT IT READS IS OF BULK AT MOST 1048576: true; the input reads as it did. -/
def sendAllUptoRow : OpenClaim := { program := "ytopdccbcknlepaadoor", sum := "269a0c5bde102232b7f6f83b55df131114e8c218b01454ca0dceef8bcf523aa3", func := "reredos/reredoskeep.SendAll", spec := "sendAll", named := ["reredos/wire.messages"], apart := false, laid := [("reredos/wire.messages", laid_reredos_wire_messages)], narrowed := true }
def SendAllUptoSaid : Prop := sendAllUptoRow.holds Tryd.pinned (OpenSpec.upto sendAllSpec)

/-- 'reredoskeep.SendFull', WHERE WHAT IT READS IS OF BULK AT MOST 1048576: true; the input reads as it did. -/
def sendFullUptoRow : OpenClaim := { program := "ytopdccbcknlepaadoor", sum := "269a0c5bde102232b7f6f83b55df131114e8c218b01454ca0dceef8bcf523aa3", func := "reredos/reredoskeep.SendFull", spec := "sendFull", named := ["reredos/wire.messages"], apart := false, laid := [("reredos/wire.messages", laid_reredos_wire_messages)], narrowed := true }
def SendFullUptoSaid : Prop := sendFullUptoRow.holds Tryd.pinned (OpenSpec.upto sendFullSpec)

/-- 'reredoskeep.TakeOne', WHERE WHAT IT READS IS OF BULK AT MOST 1048576: true; the input reads as it did. -/
def takeOneUptoRow : OpenClaim := { program := "ytopdccbcknlepaadoor", sum := "269a0c5bde102232b7f6f83b55df131114e8c218b01454ca0dceef8bcf523aa3", func := "reredos/reredoskeep.TakeOne", spec := "takeOne", named := ["reredos/wire.messages"], apart := false, laid := [("reredos/wire.messages", laid_reredos_wire_messages)], narrowed := true }
def TakeOneUptoSaid : Prop := takeOneUptoRow.holds Tryd.pinned (OpenSpec.upto takeOneSpec)

end Rows
end Go.Proofs.YtopdccbcknlepaaDoor
