/-
  NARROWER THAN 'FOR EVERY INPUT', by the rows' own cells (each row's printed sentence says how): DeskGood: laid · BeginNew: laid · CallRefused: laid · HearTwice: laid · CommitPlain: laid · CommitAsks: laid · DoubtsTold: laid · TickEnds: laid.
  DERIVED. THE GIVEN ROWS OF THIS SEAT. 8 by the template 'for every input the law returns true; each argument reads behind the call as it read before'; 0 by the template 'total and deterministic' (their statements: YtchbnpjegacobaaDoorTotals.lean).
  GIVEN WITH THE SEED: the statements are not yours to turn. If you find one false, say at which input.
  Laid BY PROGRAM, IN A SANDBOX (cutbox-rows.mjs): the forced cells as the released guide's own fill.sh prints them over the translation ac164ec832672694… (all of the seat's roots in one cut). By AI agents, Wed Nov 11 2026. No macro, syntax, notation, axiom, sorry.
-/
import Derived.Test.YtchbnpjegacobaaDoorChecked
import GoSem.Claim
import GoSem.ClaimJoined
import GoSem.ClaimMapViews
import Derived.JoinedTies
import Derived.KernelRfl
namespace Go.Proofs.YtchbnpjegacobaaDoor
/- THE CELL 'sum', in the pinned program and in every row, IS THE sha256 OF THE DUMP (.gsa) THAT YtchbnpjegacobaaDoorProg.lean LOADS. Nothing in Lean hashes anything: it is a label: what it is worth is what the hold of that sum in a sandbox is worth. -/
noncomputable def Tryd.pinned : Pinned := { name := "ytchbnpjegacobaadoor", sum := "ac164ec832672694d548fe8175044664fdabc93e07adaf6532a9375d2bb8e1b4", checked := Tryd.checked }
namespace Rows
def none {H : Type} : Left H := { results := [], args := [] }

/- WHAT THE LISTED PACKAGE-LEVEL VARIABLES READ AS WHEN THE CALL BEGINS. Each datum BY PROGRAM (the guide's laid-datum.mjs) off the statement by which the dump's own 'gosem.cut.vars' lays the variable. In a bare row this is a premise. The card (YtchbnpjegacobaaDoorCards.lean) ties it to the program's text. -/
def laid_reredos_wire_messages {H : Type} : DataW H := .agg [.agg [.lit (.bool false), .lit (.bool false), .lit (.bool false), .lit (.bool false), .lit (.bool false), .lit (.bool false), .lit (.bool false), .lit (.bool false)], .agg [.lit (.bool true), .lit (.bool true), .lit (.bool false), .lit (.bool false), .lit (.bool true), .lit (.bool false), .lit (.bool false), .lit (.bool false)], .agg [.lit (.bool false), .lit (.bool true), .lit (.bool true), .lit (.bool false), .lit (.bool true), .lit (.bool false), .lit (.bool false), .lit (.bool false)], .agg [.lit (.bool true), .lit (.bool true), .lit (.bool false), .lit (.bool true), .lit (.bool false), .lit (.bool false), .lit (.bool false), .lit (.bool false)], .agg [.lit (.bool false), .lit (.bool false), .lit (.bool false), .lit (.bool false), .lit (.bool false), .lit (.bool true), .lit (.bool false), .lit (.bool false)], .agg [.lit (.bool true), .lit (.bool true), .lit (.bool true), .lit (.bool true), .lit (.bool true), .lit (.bool false), .lit (.bool true), .lit (.bool false)], .agg [.lit (.bool false), .lit (.bool true), .lit (.bool false), .lit (.bool false), .lit (.bool true), .lit (.bool false), .lit (.bool true), .lit (.bool false)], .agg [.lit (.bool true), .lit (.bool true), .lit (.bool false), .lit (.bool true), .lit (.bool false), .lit (.bool true), .lit (.bool false), .lit (.bool false)], .agg [.lit (.bool false), .lit (.bool false), .lit (.bool false), .lit (.bool false), .lit (.bool false), .lit (.bool false), .lit (.bool false), .lit (.bool false)], .agg [.lit (.bool false), .lit (.bool false), .lit (.bool false), .lit (.bool false), .lit (.bool false), .lit (.bool false), .lit (.bool false), .lit (.bool false)]]

/-- 'reredoskeep.DeskGood': WHATEVER THE INPUT: true; the input reads as it did. -/
def deskGoodSpec : ChangeSpec := { name := "deskGood", fn := fun _ => fun
  | [d1, d2, d3] => { results := [.lit (.bool true)], args := [d1, d2, d3] }
  | _ => none }
def deskGoodRow : OpenClaim := { program := "ytchbnpjegacobaadoor", sum := "ac164ec832672694d548fe8175044664fdabc93e07adaf6532a9375d2bb8e1b4", func := "reredos/reredoskeep.DeskGood", spec := "deskGood", unfollowed := true, recurses := true, named := ["reredos/wire.messages"], apart := false, laid := [("reredos/wire.messages", laid_reredos_wire_messages)] }
def DeskGoodSaid : Prop := deskGoodRow.holds Tryd.pinned (OpenSpec.ofChange deskGoodSpec)

/-- ITS FALSE NEIGHBOUR: 'it returns false'. Refute it at one input. -/
def deskGoodWrong : ChangeSpec := { name := "deskGood", fn := fun _ => fun
  | [d1, d2, d3] => { results := [.lit (.bool false)], args := [d1, d2, d3] }
  | _ => none }
def DeskGoodWrongFalsely : Prop := deskGoodRow.holds Tryd.pinned (OpenSpec.ofChange deskGoodWrong)

/-- 'reredoskeep.BeginNew': WHATEVER THE INPUT: true; the input reads as it did. -/
def beginNewSpec : ChangeSpec := { name := "beginNew", fn := fun _ => fun
  | [d1, d2, d3] => { results := [.lit (.bool true)], args := [d1, d2, d3] }
  | _ => none }
def beginNewRow : OpenClaim := { program := "ytchbnpjegacobaadoor", sum := "ac164ec832672694d548fe8175044664fdabc93e07adaf6532a9375d2bb8e1b4", func := "reredos/reredoskeep.BeginNew", spec := "beginNew", unfollowed := true, recurses := true, named := ["reredos/wire.messages"], apart := false, laid := [("reredos/wire.messages", laid_reredos_wire_messages)] }
def BeginNewSaid : Prop := beginNewRow.holds Tryd.pinned (OpenSpec.ofChange beginNewSpec)

/-- ITS FALSE NEIGHBOUR: 'it returns false'. Refute it at one input. -/
def beginNewWrong : ChangeSpec := { name := "beginNew", fn := fun _ => fun
  | [d1, d2, d3] => { results := [.lit (.bool false)], args := [d1, d2, d3] }
  | _ => none }
def BeginNewWrongFalsely : Prop := beginNewRow.holds Tryd.pinned (OpenSpec.ofChange beginNewWrong)

/-- 'reredoskeep.CallRefused': WHATEVER THE INPUT: true; the input reads as it did. -/
def callRefusedSpec : ChangeSpec := { name := "callRefused", fn := fun _ => fun
  | [d1, d2, d3, d4] => { results := [.lit (.bool true)], args := [d1, d2, d3, d4] }
  | _ => none }
def callRefusedRow : OpenClaim := { program := "ytchbnpjegacobaadoor", sum := "ac164ec832672694d548fe8175044664fdabc93e07adaf6532a9375d2bb8e1b4", func := "reredos/reredoskeep.CallRefused", spec := "callRefused", unfollowed := true, recurses := true, named := ["reredos/wire.messages"], apart := false, laid := [("reredos/wire.messages", laid_reredos_wire_messages)] }
def CallRefusedSaid : Prop := callRefusedRow.holds Tryd.pinned (OpenSpec.ofChange callRefusedSpec)

/-- ITS FALSE NEIGHBOUR: 'it returns false'. Refute it at one input. -/
def callRefusedWrong : ChangeSpec := { name := "callRefused", fn := fun _ => fun
  | [d1, d2, d3, d4] => { results := [.lit (.bool false)], args := [d1, d2, d3, d4] }
  | _ => none }
def CallRefusedWrongFalsely : Prop := callRefusedRow.holds Tryd.pinned (OpenSpec.ofChange callRefusedWrong)

/-- 'reredoskeep.HearTwice': WHATEVER THE INPUT: true; the input reads as it did. -/
def hearTwiceSpec : ChangeSpec := { name := "hearTwice", fn := fun _ => fun
  | [d1, d2, d3] => { results := [.lit (.bool true)], args := [d1, d2, d3] }
  | _ => none }
def hearTwiceRow : OpenClaim := { program := "ytchbnpjegacobaadoor", sum := "ac164ec832672694d548fe8175044664fdabc93e07adaf6532a9375d2bb8e1b4", func := "reredos/reredoskeep.HearTwice", spec := "hearTwice", unfollowed := true, recurses := true, named := ["reredos/wire.messages"], apart := false, laid := [("reredos/wire.messages", laid_reredos_wire_messages)] }
def HearTwiceSaid : Prop := hearTwiceRow.holds Tryd.pinned (OpenSpec.ofChange hearTwiceSpec)

/-- ITS FALSE NEIGHBOUR: 'it returns false'. Refute it at one input. -/
def hearTwiceWrong : ChangeSpec := { name := "hearTwice", fn := fun _ => fun
  | [d1, d2, d3] => { results := [.lit (.bool false)], args := [d1, d2, d3] }
  | _ => none }
def HearTwiceWrongFalsely : Prop := hearTwiceRow.holds Tryd.pinned (OpenSpec.ofChange hearTwiceWrong)

/-- 'reredoskeep.CommitPlain': WHATEVER THE INPUT: true; the input reads as it did. -/
def commitPlainSpec : ChangeSpec := { name := "commitPlain", fn := fun _ => fun
  | [d1, d2] => { results := [.lit (.bool true)], args := [d1, d2] }
  | _ => none }
def commitPlainRow : OpenClaim := { program := "ytchbnpjegacobaadoor", sum := "ac164ec832672694d548fe8175044664fdabc93e07adaf6532a9375d2bb8e1b4", func := "reredos/reredoskeep.CommitPlain", spec := "commitPlain", unfollowed := true, recurses := true, named := ["reredos/wire.messages"], apart := false, laid := [("reredos/wire.messages", laid_reredos_wire_messages)] }
def CommitPlainSaid : Prop := commitPlainRow.holds Tryd.pinned (OpenSpec.ofChange commitPlainSpec)

/-- ITS FALSE NEIGHBOUR: 'it returns false'. Refute it at one input. -/
def commitPlainWrong : ChangeSpec := { name := "commitPlain", fn := fun _ => fun
  | [d1, d2] => { results := [.lit (.bool false)], args := [d1, d2] }
  | _ => none }
def CommitPlainWrongFalsely : Prop := commitPlainRow.holds Tryd.pinned (OpenSpec.ofChange commitPlainWrong)

/-- 'reredoskeep.CommitAsks': WHATEVER THE INPUT: true; the input reads as it did. -/
def commitAsksSpec : ChangeSpec := { name := "commitAsks", fn := fun _ => fun
  | [d1, d2, d3] => { results := [.lit (.bool true)], args := [d1, d2, d3] }
  | _ => none }
def commitAsksRow : OpenClaim := { program := "ytchbnpjegacobaadoor", sum := "ac164ec832672694d548fe8175044664fdabc93e07adaf6532a9375d2bb8e1b4", func := "reredos/reredoskeep.CommitAsks", spec := "commitAsks", unfollowed := true, recurses := true, named := ["reredos/wire.messages"], apart := false, laid := [("reredos/wire.messages", laid_reredos_wire_messages)] }
def CommitAsksSaid : Prop := commitAsksRow.holds Tryd.pinned (OpenSpec.ofChange commitAsksSpec)

/-- ITS FALSE NEIGHBOUR: 'it returns false'. Refute it at one input. -/
def commitAsksWrong : ChangeSpec := { name := "commitAsks", fn := fun _ => fun
  | [d1, d2, d3] => { results := [.lit (.bool false)], args := [d1, d2, d3] }
  | _ => none }
def CommitAsksWrongFalsely : Prop := commitAsksRow.holds Tryd.pinned (OpenSpec.ofChange commitAsksWrong)

/-- 'reredoskeep.DoubtsTold': WHATEVER THE INPUT: true; the input reads as it did. -/
def doubtsToldSpec : ChangeSpec := { name := "doubtsTold", fn := fun _ => fun
  | [d1, d2, d3, d4] => { results := [.lit (.bool true)], args := [d1, d2, d3, d4] }
  | _ => none }
def doubtsToldRow : OpenClaim := { program := "ytchbnpjegacobaadoor", sum := "ac164ec832672694d548fe8175044664fdabc93e07adaf6532a9375d2bb8e1b4", func := "reredos/reredoskeep.DoubtsTold", spec := "doubtsTold", unfollowed := true, recurses := true, named := ["reredos/wire.messages"], apart := false, laid := [("reredos/wire.messages", laid_reredos_wire_messages)] }
def DoubtsToldSaid : Prop := doubtsToldRow.holds Tryd.pinned (OpenSpec.ofChange doubtsToldSpec)

/-- ITS FALSE NEIGHBOUR: 'it returns false'. Refute it at one input. -/
def doubtsToldWrong : ChangeSpec := { name := "doubtsTold", fn := fun _ => fun
  | [d1, d2, d3, d4] => { results := [.lit (.bool false)], args := [d1, d2, d3, d4] }
  | _ => none }
def DoubtsToldWrongFalsely : Prop := doubtsToldRow.holds Tryd.pinned (OpenSpec.ofChange doubtsToldWrong)

/-- 'reredoskeep.TickEnds': WHATEVER THE INPUT: true; the input reads as it did. -/
def tickEndsSpec : ChangeSpec := { name := "tickEnds", fn := fun _ => fun
  | [d1, d2] => { results := [.lit (.bool true)], args := [d1, d2] }
  | _ => none }
def tickEndsRow : OpenClaim := { program := "ytchbnpjegacobaadoor", sum := "ac164ec832672694d548fe8175044664fdabc93e07adaf6532a9375d2bb8e1b4", func := "reredos/reredoskeep.TickEnds", spec := "tickEnds", unfollowed := true, recurses := true, named := ["reredos/wire.messages"], apart := false, laid := [("reredos/wire.messages", laid_reredos_wire_messages)] }
def TickEndsSaid : Prop := tickEndsRow.holds Tryd.pinned (OpenSpec.ofChange tickEndsSpec)

/-- ITS FALSE NEIGHBOUR: 'it returns false'. Refute it at one input. -/
def tickEndsWrong : ChangeSpec := { name := "tickEnds", fn := fun _ => fun
  | [d1, d2] => { results := [.lit (.bool false)], args := [d1, d2] }
  | _ => none }
def TickEndsWrongFalsely : Prop := tickEndsRow.holds Tryd.pinned (OpenSpec.ofChange tickEndsWrong)

/- THE SECOND FORM. 'bulk': how many values and letters a reading holds, each counted each time it is reached (what is shared counts as often as it is met; a slice's spare places count too). A statement '..UptoSaid' is the law's where the arguments, and the package variables that the reading takes, are together of bulk at most 1048576: NARROWER than '..Said'. Prove '..Said' where nothing that the law and all that it calls make is longer than what came in: it says more and counts as full. Else prove '..UptoSaid'. A law counts once. -/
mutual
def uptoBulk {H : Type} : DataW H → Nat
  | .lit (.string bytes) => bytes.length + 1
  | .lit _ => 1
  | .nil => 1
  | .ptr d => uptoBulk d + 1
  | .slice elems spare => uptoBulkAll elems + uptoBulkAll spare + 1
  | .agg parts => uptoBulkAll parts + 1
  | .iface _ d => uptoBulk d + 1
  | .map entries => uptoBulkEntries entries + 1
  | .held _ => 1
def uptoBulkAll {H : Type} : List (DataW H) → Nat
  | [] => 0
  | d :: r => uptoBulk d + uptoBulkAll r
def uptoBulkEntries {H : Type} : List (Lit × DataW H) → Nat
  | [] => 0
  | x :: r => uptoBulkEntry x + uptoBulkEntries r
def uptoBulkEntry {H : Type} : Lit × DataW H → Nat
  | (.string bytes, d) => bytes.length + uptoBulk d + 1
  | (_, d) => uptoBulk d + 1
 end
def uptoSmall : (H : Type) → List (DataW H) → Bool := fun _ ds => decide (uptoBulkAll ds ≤ 1048576)
def OpenSpec.upto (s : _root_.Go.ChangeSpec) : _root_.Go.OpenSpec := { _root_.Go.OpenSpec.ofChange s with cond := some uptoSmall }

/-- 'reredoskeep.DeskGood', WHERE WHAT IT READS IS OF BULK AT MOST 1048576: true; the input reads as it did. -/
def deskGoodUptoRow : OpenClaim := { program := "ytchbnpjegacobaadoor", sum := "ac164ec832672694d548fe8175044664fdabc93e07adaf6532a9375d2bb8e1b4", func := "reredos/reredoskeep.DeskGood", spec := "deskGood", unfollowed := true, recurses := true, named := ["reredos/wire.messages"], apart := false, laid := [("reredos/wire.messages", laid_reredos_wire_messages)], narrowed := true }
def DeskGoodUptoSaid : Prop := deskGoodUptoRow.holds Tryd.pinned (OpenSpec.upto deskGoodSpec)

/-- 'reredoskeep.BeginNew', WHERE WHAT IT READS IS OF BULK AT MOST 1048576: true; the input reads as it did. -/
def beginNewUptoRow : OpenClaim := { program := "ytchbnpjegacobaadoor", sum := "ac164ec832672694d548fe8175044664fdabc93e07adaf6532a9375d2bb8e1b4", func := "reredos/reredoskeep.BeginNew", spec := "beginNew", unfollowed := true, recurses := true, named := ["reredos/wire.messages"], apart := false, laid := [("reredos/wire.messages", laid_reredos_wire_messages)], narrowed := true }
def BeginNewUptoSaid : Prop := beginNewUptoRow.holds Tryd.pinned (OpenSpec.upto beginNewSpec)

/-- 'reredoskeep.CallRefused', WHERE WHAT IT READS IS OF BULK AT MOST 1048576: true; the input reads as it did. -/
def callRefusedUptoRow : OpenClaim := { program := "ytchbnpjegacobaadoor", sum := "ac164ec832672694d548fe8175044664fdabc93e07adaf6532a9375d2bb8e1b4", func := "reredos/reredoskeep.CallRefused", spec := "callRefused", unfollowed := true, recurses := true, named := ["reredos/wire.messages"], apart := false, laid := [("reredos/wire.messages", laid_reredos_wire_messages)], narrowed := true }
def CallRefusedUptoSaid : Prop := callRefusedUptoRow.holds Tryd.pinned (OpenSpec.upto callRefusedSpec)

/-- 'reredoskeep.HearTwice', WHERE WHAT IT READS IS OF BULK AT MOST 1048576: true; the input reads as it did. -/
def hearTwiceUptoRow : OpenClaim := { program := "ytchbnpjegacobaadoor", sum := "ac164ec832672694d548fe8175044664fdabc93e07adaf6532a9375d2bb8e1b4", func := "reredos/reredoskeep.HearTwice", spec := "hearTwice", unfollowed := true, recurses := true, named := ["reredos/wire.messages"], apart := false, laid := [("reredos/wire.messages", laid_reredos_wire_messages)], narrowed := true }
def HearTwiceUptoSaid : Prop := hearTwiceUptoRow.holds Tryd.pinned (OpenSpec.upto hearTwiceSpec)

/-- 'reredoskeep.CommitPlain', WHERE WHAT IT READS IS OF BULK AT MOST 1048576: true; the input reads as it did. -/
def commitPlainUptoRow : OpenClaim := { program := "ytchbnpjegacobaadoor", sum := "ac164ec832672694d548fe8175044664fdabc93e07adaf6532a9375d2bb8e1b4", func := "reredos/reredoskeep.CommitPlain", spec := "commitPlain", unfollowed := true, recurses := true, named := ["reredos/wire.messages"], apart := false, laid := [("reredos/wire.messages", laid_reredos_wire_messages)], narrowed := true }
def CommitPlainUptoSaid : Prop := commitPlainUptoRow.holds Tryd.pinned (OpenSpec.upto commitPlainSpec)

/-- 'reredoskeep.CommitAsks', WHERE WHAT IT READS IS OF BULK AT MOST 1048576: true; the input reads as it did. -/
def commitAsksUptoRow : OpenClaim := { program := "ytchbnpjegacobaadoor", sum := "ac164ec832672694d548fe8175044664fdabc93e07adaf6532a9375d2bb8e1b4", func := "reredos/reredoskeep.CommitAsks", spec := "commitAsks", unfollowed := true, recurses := true, named := ["reredos/wire.messages"], apart := false, laid := [("reredos/wire.messages", laid_reredos_wire_messages)], narrowed := true }
def CommitAsksUptoSaid : Prop := commitAsksUptoRow.holds Tryd.pinned (OpenSpec.upto commitAsksSpec)

/-- 'reredoskeep.DoubtsTold', WHERE WHAT IT READS IS OF BULK AT MOST 1048576: true; the input reads as it did. -/
def doubtsToldUptoRow : OpenClaim := { program := "ytchbnpjegacobaadoor", sum := "ac164ec832672694d548fe8175044664fdabc93e07adaf6532a9375d2bb8e1b4", func := "reredos/reredoskeep.DoubtsTold", spec := "doubtsTold", unfollowed := true, recurses := true, named := ["reredos/wire.messages"], apart := false, laid := [("reredos/wire.messages", laid_reredos_wire_messages)], narrowed := true }
def DoubtsToldUptoSaid : Prop := doubtsToldUptoRow.holds Tryd.pinned (OpenSpec.upto doubtsToldSpec)

/-- 'reredoskeep.TickEnds', WHERE WHAT IT READS IS OF BULK AT MOST 1048576: true; the input reads as it did. -/
def tickEndsUptoRow : OpenClaim := { program := "ytchbnpjegacobaadoor", sum := "ac164ec832672694d548fe8175044664fdabc93e07adaf6532a9375d2bb8e1b4", func := "reredos/reredoskeep.TickEnds", spec := "tickEnds", unfollowed := true, recurses := true, named := ["reredos/wire.messages"], apart := false, laid := [("reredos/wire.messages", laid_reredos_wire_messages)], narrowed := true }
def TickEndsUptoSaid : Prop := tickEndsUptoRow.holds Tryd.pinned (OpenSpec.upto tickEndsSpec)

end Rows
end Go.Proofs.YtchbnpjegacobaaDoor
