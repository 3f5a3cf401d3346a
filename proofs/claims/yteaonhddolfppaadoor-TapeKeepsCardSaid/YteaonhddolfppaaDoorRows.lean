/-
  NARROWER THAN 'FOR EVERY INPUT', by the rows' own cells (each row's printed sentence says how): MessageBare: laid · TapeRoom: laid · CrashJust: laid · RecordBack: laid · RecordFixed: laid · MessageBack: laid · TapeTorn: laid · TapeOn: laid · TapeKeeps: laid.
  DERIVED. THE GIVEN ROWS OF THIS SEAT. 9 by the template 'for every input the law returns true; each argument reads behind the call as it read before'; 0 by the template 'total and deterministic' (their statements: YteaonhddolfppaaDoorTotals.lean).
  GIVEN WITH THE SEED: the statements are not yours to turn. If you find one false, say at which input.
  Laid BY PROGRAM, IN A SANDBOX (cutbox-rows.mjs): the forced cells as the released guide's own fill.sh prints them over the translation dfd693b973eafc74… (all of the seat's roots in one cut). By AI agents, Wed Nov 11 2026. No macro, syntax, notation, axiom, sorry.
-/
import Derived.Test.YteaonhddolfppaaDoorChecked
import GoSem.Claim
import GoSem.ClaimJoined
import GoSem.ClaimMapViews
import Derived.JoinedTies
import Derived.KernelRfl
namespace Go.Proofs.YteaonhddolfppaaDoor
/- THE CELL 'sum', in the pinned program and in every row, IS THE sha256 OF THE DUMP (.gsa) THAT YteaonhddolfppaaDoorProg.lean LOADS. Nothing in Lean hashes anything: it is a label: what it is worth is what the hold of that sum in a sandbox is worth. -/
noncomputable def Tryd.pinned : Pinned := { name := "yteaonhddolfppaadoor", sum := "dfd693b973eafc74a86d174136ba1425a421c7741d39cfce6889ad1308c46dee", checked := Tryd.checked }
namespace Rows
def none {H : Type} : Left H := { results := [], args := [] }

/- WHAT THE LISTED PACKAGE-LEVEL VARIABLES READ AS WHEN THE CALL BEGINS. Each datum BY PROGRAM (the guide's laid-datum.mjs) off the statement by which the dump's own 'gosem.cut.vars' lays the variable. In a bare row this is a premise. The card (YteaonhddolfppaaDoorCards.lean) ties it to the program's text. -/
def laid_reredos_wire_messages {H : Type} : DataW H := .agg [.agg [.lit (.bool false), .lit (.bool false), .lit (.bool false), .lit (.bool false), .lit (.bool false), .lit (.bool false), .lit (.bool false), .lit (.bool false)], .agg [.lit (.bool true), .lit (.bool true), .lit (.bool false), .lit (.bool false), .lit (.bool true), .lit (.bool false), .lit (.bool false), .lit (.bool false)], .agg [.lit (.bool false), .lit (.bool true), .lit (.bool true), .lit (.bool false), .lit (.bool true), .lit (.bool false), .lit (.bool false), .lit (.bool false)], .agg [.lit (.bool true), .lit (.bool true), .lit (.bool false), .lit (.bool true), .lit (.bool false), .lit (.bool false), .lit (.bool false), .lit (.bool false)], .agg [.lit (.bool false), .lit (.bool false), .lit (.bool false), .lit (.bool false), .lit (.bool false), .lit (.bool true), .lit (.bool false), .lit (.bool false)], .agg [.lit (.bool true), .lit (.bool true), .lit (.bool true), .lit (.bool true), .lit (.bool true), .lit (.bool false), .lit (.bool true), .lit (.bool false)], .agg [.lit (.bool false), .lit (.bool true), .lit (.bool false), .lit (.bool false), .lit (.bool true), .lit (.bool false), .lit (.bool true), .lit (.bool false)], .agg [.lit (.bool true), .lit (.bool true), .lit (.bool false), .lit (.bool true), .lit (.bool false), .lit (.bool true), .lit (.bool false), .lit (.bool false)], .agg [.lit (.bool false), .lit (.bool false), .lit (.bool false), .lit (.bool false), .lit (.bool false), .lit (.bool false), .lit (.bool false), .lit (.bool false)], .agg [.lit (.bool false), .lit (.bool false), .lit (.bool false), .lit (.bool false), .lit (.bool false), .lit (.bool false), .lit (.bool false), .lit (.bool false)]]
def laid_reredos_wire_records {H : Type} : DataW H := .agg [.agg [.lit (.bool false), .lit (.bool false), .lit (.bool false), .lit (.bool false), .lit (.bool false), .lit (.bool false), .lit (.bool false), .lit (.bool false)], .agg [.lit (.bool false), .lit (.bool true), .lit (.bool true), .lit (.bool false), .lit (.bool true), .lit (.bool false), .lit (.bool false), .lit (.bool false)], .agg [.lit (.bool false), .lit (.bool false), .lit (.bool false), .lit (.bool false), .lit (.bool false), .lit (.bool true), .lit (.bool false), .lit (.bool false)], .agg [.lit (.bool false), .lit (.bool false), .lit (.bool false), .lit (.bool false), .lit (.bool false), .lit (.bool false), .lit (.bool false), .lit (.bool true)], .agg [.lit (.bool false), .lit (.bool false), .lit (.bool false), .lit (.bool false), .lit (.bool false), .lit (.bool false), .lit (.bool false), .lit (.bool false)], .agg [.lit (.bool false), .lit (.bool false), .lit (.bool false), .lit (.bool false), .lit (.bool false), .lit (.bool false), .lit (.bool false), .lit (.bool false)], .agg [.lit (.bool false), .lit (.bool false), .lit (.bool false), .lit (.bool false), .lit (.bool false), .lit (.bool true), .lit (.bool false), .lit (.bool false)]]

/-- 'reredoskeep.MessageBare': WHATEVER THE INPUT: true; the input reads as it did. -/
def messageBareSpec : ChangeSpec := { name := "messageBare", fn := fun _ => fun
  | [d1, d2, d3, d4] => { results := [.lit (.bool true)], args := [d1, d2, d3, d4] }
  | _ => none }
def messageBareRow : OpenClaim := { program := "yteaonhddolfppaadoor", sum := "dfd693b973eafc74a86d174136ba1425a421c7741d39cfce6889ad1308c46dee", func := "reredos/reredoskeep.MessageBare", spec := "messageBare", named := ["reredos/wire.messages"], apart := false, laid := [("reredos/wire.messages", laid_reredos_wire_messages)] }
def MessageBareSaid : Prop := messageBareRow.holds Tryd.pinned (OpenSpec.ofChange messageBareSpec)

/-- ITS FALSE NEIGHBOUR: 'it returns false'. Refute it at one input. -/
def messageBareWrong : ChangeSpec := { name := "messageBare", fn := fun _ => fun
  | [d1, d2, d3, d4] => { results := [.lit (.bool false)], args := [d1, d2, d3, d4] }
  | _ => none }
def MessageBareWrongFalsely : Prop := messageBareRow.holds Tryd.pinned (OpenSpec.ofChange messageBareWrong)

/-- 'reredoskeep.TapeRoom': WHATEVER THE INPUT: true; the input reads as it did. -/
def tapeRoomSpec : ChangeSpec := { name := "tapeRoom", fn := fun _ => fun
  | [d1, d2, d3, d4] => { results := [.lit (.bool true)], args := [d1, d2, d3, d4] }
  | _ => none }
def tapeRoomRow : OpenClaim := { program := "yteaonhddolfppaadoor", sum := "dfd693b973eafc74a86d174136ba1425a421c7741d39cfce6889ad1308c46dee", func := "reredos/reredoskeep.TapeRoom", spec := "tapeRoom", named := ["reredos/wire.records"], apart := false, laid := [("reredos/wire.records", laid_reredos_wire_records)] }
def TapeRoomSaid : Prop := tapeRoomRow.holds Tryd.pinned (OpenSpec.ofChange tapeRoomSpec)

/-- ITS FALSE NEIGHBOUR: 'it returns false'. Refute it at one input. -/
def tapeRoomWrong : ChangeSpec := { name := "tapeRoom", fn := fun _ => fun
  | [d1, d2, d3, d4] => { results := [.lit (.bool false)], args := [d1, d2, d3, d4] }
  | _ => none }
def TapeRoomWrongFalsely : Prop := tapeRoomRow.holds Tryd.pinned (OpenSpec.ofChange tapeRoomWrong)

/-- 'reredoskeep.CrashJust': WHATEVER THE INPUT: true; the input reads as it did. -/
def crashJustSpec : ChangeSpec := { name := "crashJust", fn := fun _ => fun
  | [d1, d2, d3, d4, d5] => { results := [.lit (.bool true)], args := [d1, d2, d3, d4, d5] }
  | _ => none }
def crashJustRow : OpenClaim := { program := "yteaonhddolfppaadoor", sum := "dfd693b973eafc74a86d174136ba1425a421c7741d39cfce6889ad1308c46dee", func := "reredos/reredoskeep.CrashJust", spec := "crashJust", named := ["reredos/wire.records"], apart := false, laid := [("reredos/wire.records", laid_reredos_wire_records)] }
def CrashJustSaid : Prop := crashJustRow.holds Tryd.pinned (OpenSpec.ofChange crashJustSpec)

/-- ITS FALSE NEIGHBOUR: 'it returns false'. Refute it at one input. -/
def crashJustWrong : ChangeSpec := { name := "crashJust", fn := fun _ => fun
  | [d1, d2, d3, d4, d5] => { results := [.lit (.bool false)], args := [d1, d2, d3, d4, d5] }
  | _ => none }
def CrashJustWrongFalsely : Prop := crashJustRow.holds Tryd.pinned (OpenSpec.ofChange crashJustWrong)

/-- 'reredoskeep.RecordBack': WHATEVER THE INPUT: true; the input reads as it did. -/
def recordBackSpec : ChangeSpec := { name := "recordBack", fn := fun _ => fun
  | [d1, d2, d3, d4, d5] => { results := [.lit (.bool true)], args := [d1, d2, d3, d4, d5] }
  | _ => none }
def recordBackRow : OpenClaim := { program := "yteaonhddolfppaadoor", sum := "dfd693b973eafc74a86d174136ba1425a421c7741d39cfce6889ad1308c46dee", func := "reredos/reredoskeep.RecordBack", spec := "recordBack", named := ["reredos/wire.records"], apart := false, laid := [("reredos/wire.records", laid_reredos_wire_records)] }
def RecordBackSaid : Prop := recordBackRow.holds Tryd.pinned (OpenSpec.ofChange recordBackSpec)

/-- ITS FALSE NEIGHBOUR: 'it returns false'. Refute it at one input. -/
def recordBackWrong : ChangeSpec := { name := "recordBack", fn := fun _ => fun
  | [d1, d2, d3, d4, d5] => { results := [.lit (.bool false)], args := [d1, d2, d3, d4, d5] }
  | _ => none }
def RecordBackWrongFalsely : Prop := recordBackRow.holds Tryd.pinned (OpenSpec.ofChange recordBackWrong)

/-- 'reredoskeep.RecordFixed': WHATEVER THE INPUT: true; the input reads as it did. -/
def recordFixedSpec : ChangeSpec := { name := "recordFixed", fn := fun _ => fun
  | [d1, d2, d3] => { results := [.lit (.bool true)], args := [d1, d2, d3] }
  | _ => none }
def recordFixedRow : OpenClaim := { program := "yteaonhddolfppaadoor", sum := "dfd693b973eafc74a86d174136ba1425a421c7741d39cfce6889ad1308c46dee", func := "reredos/reredoskeep.RecordFixed", spec := "recordFixed", named := ["reredos/wire.records"], apart := false, laid := [("reredos/wire.records", laid_reredos_wire_records)] }
def RecordFixedSaid : Prop := recordFixedRow.holds Tryd.pinned (OpenSpec.ofChange recordFixedSpec)

/-- ITS FALSE NEIGHBOUR: 'it returns false'. Refute it at one input. -/
def recordFixedWrong : ChangeSpec := { name := "recordFixed", fn := fun _ => fun
  | [d1, d2, d3] => { results := [.lit (.bool false)], args := [d1, d2, d3] }
  | _ => none }
def RecordFixedWrongFalsely : Prop := recordFixedRow.holds Tryd.pinned (OpenSpec.ofChange recordFixedWrong)

/-- 'reredoskeep.MessageBack': WHATEVER THE INPUT: true; the input reads as it did. -/
def messageBackSpec : ChangeSpec := { name := "messageBack", fn := fun _ => fun
  | [d1, d2, d3, d4] => { results := [.lit (.bool true)], args := [d1, d2, d3, d4] }
  | _ => none }
def messageBackRow : OpenClaim := { program := "yteaonhddolfppaadoor", sum := "dfd693b973eafc74a86d174136ba1425a421c7741d39cfce6889ad1308c46dee", func := "reredos/reredoskeep.MessageBack", spec := "messageBack", named := ["reredos/wire.messages"], apart := false, laid := [("reredos/wire.messages", laid_reredos_wire_messages)] }
def MessageBackSaid : Prop := messageBackRow.holds Tryd.pinned (OpenSpec.ofChange messageBackSpec)

/-- ITS FALSE NEIGHBOUR: 'it returns false'. Refute it at one input. -/
def messageBackWrong : ChangeSpec := { name := "messageBack", fn := fun _ => fun
  | [d1, d2, d3, d4] => { results := [.lit (.bool false)], args := [d1, d2, d3, d4] }
  | _ => none }
def MessageBackWrongFalsely : Prop := messageBackRow.holds Tryd.pinned (OpenSpec.ofChange messageBackWrong)

/-- 'reredoskeep.TapeTorn': WHATEVER THE INPUT: true; the input reads as it did. -/
def tapeTornSpec : ChangeSpec := { name := "tapeTorn", fn := fun _ => fun
  | [d1, d2, d3, d4] => { results := [.lit (.bool true)], args := [d1, d2, d3, d4] }
  | _ => none }
def tapeTornRow : OpenClaim := { program := "yteaonhddolfppaadoor", sum := "dfd693b973eafc74a86d174136ba1425a421c7741d39cfce6889ad1308c46dee", func := "reredos/reredoskeep.TapeTorn", spec := "tapeTorn", named := ["reredos/wire.records"], apart := false, laid := [("reredos/wire.records", laid_reredos_wire_records)] }
def TapeTornSaid : Prop := tapeTornRow.holds Tryd.pinned (OpenSpec.ofChange tapeTornSpec)

/-- ITS FALSE NEIGHBOUR: 'it returns false'. Refute it at one input. -/
def tapeTornWrong : ChangeSpec := { name := "tapeTorn", fn := fun _ => fun
  | [d1, d2, d3, d4] => { results := [.lit (.bool false)], args := [d1, d2, d3, d4] }
  | _ => none }
def TapeTornWrongFalsely : Prop := tapeTornRow.holds Tryd.pinned (OpenSpec.ofChange tapeTornWrong)

/-- 'reredoskeep.TapeOn': WHATEVER THE INPUT: true; the input reads as it did. -/
def tapeOnSpec : ChangeSpec := { name := "tapeOn", fn := fun _ => fun
  | [d1, d2, d3, d4, d5] => { results := [.lit (.bool true)], args := [d1, d2, d3, d4, d5] }
  | _ => none }
def tapeOnRow : OpenClaim := { program := "yteaonhddolfppaadoor", sum := "dfd693b973eafc74a86d174136ba1425a421c7741d39cfce6889ad1308c46dee", func := "reredos/reredoskeep.TapeOn", spec := "tapeOn", named := ["reredos/wire.records"], apart := false, laid := [("reredos/wire.records", laid_reredos_wire_records)] }
def TapeOnSaid : Prop := tapeOnRow.holds Tryd.pinned (OpenSpec.ofChange tapeOnSpec)

/-- ITS FALSE NEIGHBOUR: 'it returns false'. Refute it at one input. -/
def tapeOnWrong : ChangeSpec := { name := "tapeOn", fn := fun _ => fun
  | [d1, d2, d3, d4, d5] => { results := [.lit (.bool false)], args := [d1, d2, d3, d4, d5] }
  | _ => none }
def TapeOnWrongFalsely : Prop := tapeOnRow.holds Tryd.pinned (OpenSpec.ofChange tapeOnWrong)

/-- 'reredoskeep.TapeKeeps': WHATEVER THE INPUT: true; the input reads as it did. -/
def tapeKeepsSpec : ChangeSpec := { name := "tapeKeeps", fn := fun _ => fun
  | [d1, d2, d3, d4, d5] => { results := [.lit (.bool true)], args := [d1, d2, d3, d4, d5] }
  | _ => none }
def tapeKeepsRow : OpenClaim := { program := "yteaonhddolfppaadoor", sum := "dfd693b973eafc74a86d174136ba1425a421c7741d39cfce6889ad1308c46dee", func := "reredos/reredoskeep.TapeKeeps", spec := "tapeKeeps", named := ["reredos/wire.records"], apart := false, laid := [("reredos/wire.records", laid_reredos_wire_records)] }
def TapeKeepsSaid : Prop := tapeKeepsRow.holds Tryd.pinned (OpenSpec.ofChange tapeKeepsSpec)

/-- ITS FALSE NEIGHBOUR: 'it returns false'. Refute it at one input. -/
def tapeKeepsWrong : ChangeSpec := { name := "tapeKeeps", fn := fun _ => fun
  | [d1, d2, d3, d4, d5] => { results := [.lit (.bool false)], args := [d1, d2, d3, d4, d5] }
  | _ => none }
def TapeKeepsWrongFalsely : Prop := tapeKeepsRow.holds Tryd.pinned (OpenSpec.ofChange tapeKeepsWrong)

/- THE SECOND FORM. 'bulk': how many values and letters a reading holds, each counted each time it is reached (what is shared counts as often as it is met; a slice's spare places count too). A statement '..UptoSaid' is the law's where the arguments, and the package variables that the reading takes, are together of bulk at most 1048576: NARROWER than '..Said'. Prove '..Said' where nothing that the law and all that it calls make is longer than what came in: it says more and counts as full. Else prove '..UptoSaid'. A law counts once. -/
mutual
def uptoBulk {H : Type} : DataW H → Nat
  | .lit (.string bytes) => bytes.length + 1
  | .lit _ => 1
  | .nil => 1
  | .ptr d => uptoBulk d + 1
  | .slice elems spare => uptoBulkAll elems + uptoBulkAll spare + 1
  | .agg parts => uptoBulkAll parts + 1
  | .iface _ d => uptoBulk d + 1
  | .map entries => uptoBulkEntries entries + 1
  | .held _ => 1
def uptoBulkAll {H : Type} : List (DataW H) → Nat
  | [] => 0
  | d :: r => uptoBulk d + uptoBulkAll r
def uptoBulkEntries {H : Type} : List (Lit × DataW H) → Nat
  | [] => 0
  | x :: r => uptoBulkEntry x + uptoBulkEntries r
def uptoBulkEntry {H : Type} : Lit × DataW H → Nat
  | (.string bytes, d) => bytes.length + uptoBulk d + 1
  | (_, d) => uptoBulk d + 1
 end
def uptoSmall : (H : Type) → List (DataW H) → Bool := fun _ ds => decide (uptoBulkAll ds ≤ 1048576)
def OpenSpec.upto (s : _root_.Go.ChangeSpec) : _root_.Go.OpenSpec := { _root_.Go.OpenSpec.ofChange s with cond := some uptoSmall }

/-- 'reredoskeep.MessageBare', WHERE WHAT IT READS IS OF BULK AT MOST 1048576: true; the input reads as it did. -/
def messageBareUptoRow : OpenClaim := { program := "yteaonhddolfppaadoor", sum := "dfd693b973eafc74a86d174136ba1425a421c7741d39cfce6889ad1308c46dee", func := "reredos/reredoskeep.MessageBare", spec := "messageBare", named := ["reredos/wire.messages"], apart := false, laid := [("reredos/wire.messages", laid_reredos_wire_messages)], narrowed := true }
def MessageBareUptoSaid : Prop := messageBareUptoRow.holds Tryd.pinned (OpenSpec.upto messageBareSpec)

/-- 'reredoskeep.TapeRoom', WHERE WHAT IT READS IS OF BULK AT MOST 1048576: true; the input reads as it did. -/
def tapeRoomUptoRow : OpenClaim := { program := "yteaonhddolfppaadoor", sum := "dfd693b973eafc74a86d174136ba1425a421c7741d39cfce6889ad1308c46dee", func := "reredos/reredoskeep.TapeRoom", spec := "tapeRoom", named := ["reredos/wire.records"], apart := false, laid := [("reredos/wire.records", laid_reredos_wire_records)], narrowed := true }
def TapeRoomUptoSaid : Prop := tapeRoomUptoRow.holds Tryd.pinned (OpenSpec.upto tapeRoomSpec)

/-- 'reredoskeep.CrashJust', WHERE WHAT IT READS IS OF BULK AT MOST 1048576: true; the input reads as it did. -/
def crashJustUptoRow : OpenClaim := { program := "yteaonhddolfppaadoor", sum := "dfd693b973eafc74a86d174136ba1425a421c7741d39cfce6889ad1308c46dee", func := "reredos/reredoskeep.CrashJust", spec := "crashJust", named := ["reredos/wire.records"], apart := false, laid := [("reredos/wire.records", laid_reredos_wire_records)], narrowed := true }
def CrashJustUptoSaid : Prop := crashJustUptoRow.holds Tryd.pinned (OpenSpec.upto crashJustSpec)

/-- 'reredoskeep.RecordBack', WHERE WHAT IT READS IS OF BULK AT MOST 1048576: true; the input reads as it did. -/
def recordBackUptoRow : OpenClaim := { program := "yteaonhddolfppaadoor", sum := "dfd693b973eafc74a86d174136ba1425a421c7741d39cfce6889ad1308c46dee", func := "reredos/reredoskeep.RecordBack", spec := "recordBack", named := ["reredos/wire.records"], apart := false, laid := [("reredos/wire.records", laid_reredos_wire_records)], narrowed := true }
def RecordBackUptoSaid : Prop := recordBackUptoRow.holds Tryd.pinned (OpenSpec.upto recordBackSpec)

/-- 'reredoskeep.RecordFixed', WHERE WHAT IT READS IS OF BULK AT MOST 1048576: true; the input reads as it did. -/
def recordFixedUptoRow : OpenClaim := { program := "yteaonhddolfppaadoor", sum := "dfd693b973eafc74a86d174136ba1425a421c7741d39cfce6889ad1308c46dee", func := "reredos/reredoskeep.RecordFixed", spec := "recordFixed", named := ["reredos/wire.records"], apart := false, laid := [("reredos/wire.records", laid_reredos_wire_records)], narrowed := true }
def RecordFixedUptoSaid : Prop := recordFixedUptoRow.holds Tryd.pinned (OpenSpec.upto recordFixedSpec)

/-- 'reredoskeep.MessageBack', WHERE WHAT IT READS IS OF BULK AT MOST 1048576: true; the input reads as it did. -/
def messageBackUptoRow : OpenClaim := { program := "yteaonhddolfppaadoor", sum := "dfd693b973eafc74a86d174136ba1425a421c7741d39cfce6889ad1308c46dee", func := "reredos/reredoskeep.MessageBack", spec := "messageBack", named := ["reredos/wire.messages"], apart := false, laid := [("reredos/wire.messages", laid_reredos_wire_messages)], narrowed := true }
def MessageBackUptoSaid : Prop := messageBackUptoRow.holds Tryd.pinned (OpenSpec.upto messageBackSpec)

/-- 'reredoskeep.TapeTorn', WHERE WHAT IT READS IS OF BULK AT MOST 1048576: true; the input reads as it did. -/
def tapeTornUptoRow : OpenClaim := { program := "yteaonhddolfppaadoor", sum := "dfd693b973eafc74a86d174136ba1425a421c7741d39cfce6889ad1308c46dee", func := "reredos/reredoskeep.TapeTorn", spec := "tapeTorn", named := ["reredos/wire.records"], apart := false, laid := [("reredos/wire.records", laid_reredos_wire_records)], narrowed := true }
def TapeTornUptoSaid : Prop := tapeTornUptoRow.holds Tryd.pinned (OpenSpec.upto tapeTornSpec)

/-- 'reredoskeep.TapeOn', WHERE WHAT IT READS IS OF BULK AT MOST 1048576: true; the input reads as it did. -/
def tapeOnUptoRow : OpenClaim := { program := "yteaonhddolfppaadoor", sum := "dfd693b973eafc74a86d174136ba1425a421c7741d39cfce6889ad1308c46dee", func := "reredos/reredoskeep.TapeOn", spec := "tapeOn", named := ["reredos/wire.records"], apart := false, laid := [("reredos/wire.records", laid_reredos_wire_records)], narrowed := true }
def TapeOnUptoSaid : Prop := tapeOnUptoRow.holds Tryd.pinned (OpenSpec.upto tapeOnSpec)

/-- 'reredoskeep.TapeKeeps', WHERE WHAT IT READS IS OF BULK AT MOST 1048576: true; the input reads as it did. -/
def tapeKeepsUptoRow : OpenClaim := { program := "yteaonhddolfppaadoor", sum := "dfd693b973eafc74a86d174136ba1425a421c7741d39cfce6889ad1308c46dee", func := "reredos/reredoskeep.TapeKeeps", spec := "tapeKeeps", named := ["reredos/wire.records"], apart := false, laid := [("reredos/wire.records", laid_reredos_wire_records)], narrowed := true }
def TapeKeepsUptoSaid : Prop := tapeKeepsUptoRow.holds Tryd.pinned (OpenSpec.upto tapeKeepsSpec)

end Rows
end Go.Proofs.YteaonhddolfppaaDoor
