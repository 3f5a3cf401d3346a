/-
  NARROWER THAN 'FOR EVERY INPUT', by the rows' own cells (each row's printed sentence says how): RebuildOn: laid · RebuildStore: laid · RebuildDesk: laid · RebuildGood: laid.
  DERIVED. THE GIVEN ROWS OF THIS SEAT. 4 by the template 'for every input the law returns true; each argument reads behind the call as it read before'; 0 by the template 'total and deterministic' (their statements: YtpkabalijooeaaaDoorTotals.lean).
  GIVEN WITH THE SEED: the statements are not yours to turn. If you find one false, say at which input.
  Laid BY PROGRAM, IN A SANDBOX (cutbox-rows.mjs): the forced cells as the released guide's own fill.sh prints them over the translation 54090fdbfa1f2468… (all of the seat's roots in one cut). By AI agents, Wed Nov 11 2026. No macro, syntax, notation, axiom, sorry.
-/
import Derived.Test.YtpkabalijooeaaaDoorChecked
import GoSem.Claim
import GoSem.ClaimJoined
import GoSem.ClaimMapViews
import Derived.JoinedTies
import Derived.KernelRfl
namespace Go.Proofs.YtpkabalijooeaaaDoor
/- THE CELL 'sum', in the pinned program and in every row, IS THE sha256 OF THE DUMP (.gsa) THAT YtpkabalijooeaaaDoorProg.lean LOADS. Nothing in Lean hashes anything: it is a label: what it is worth is what the hold of that sum in a sandbox is worth. -/
noncomputable def Tryd.pinned : Pinned := { name := "ytpkabalijooeaaadoor", sum := "54090fdbfa1f246853fbaca9455d7c9958181e68c69f2130c2eef17261ec4e21", checked := Tryd.checked }
namespace Rows
def none {H : Type} : Left H := { results := [], args := [] }

/- WHAT THE LISTED PACKAGE-LEVEL VARIABLES READ AS WHEN THE CALL BEGINS. Each datum BY PROGRAM (the guide's laid-datum.mjs) off the statement by which the dump's own 'gosem.cut.vars' lays the variable. In a bare row this is a premise. The card (YtpkabalijooeaaaDoorCards.lean) ties it to the program's text. -/
def laid_reredos_wire_records {H : Type} : DataW H := .agg [.agg [.lit (.bool false), .lit (.bool false), .lit (.bool false), .lit (.bool false), .lit (.bool false), .lit (.bool false), .lit (.bool false), .lit (.bool false)], .agg [.lit (.bool false), .lit (.bool true), .lit (.bool true), .lit (.bool false), .lit (.bool true), .lit (.bool false), .lit (.bool false), .lit (.bool false)], .agg [.lit (.bool false), .lit (.bool false), .lit (.bool false), .lit (.bool false), .lit (.bool false), .lit (.bool true), .lit (.bool false), .lit (.bool false)], .agg [.lit (.bool false), .lit (.bool false), .lit (.bool false), .lit (.bool false), .lit (.bool false), .lit (.bool false), .lit (.bool false), .lit (.bool true)], .agg [.lit (.bool false), .lit (.bool false), .lit (.bool false), .lit (.bool false), .lit (.bool false), .lit (.bool false), .lit (.bool false), .lit (.bool false)], .agg [.lit (.bool false), .lit (.bool false), .lit (.bool false), .lit (.bool false), .lit (.bool false), .lit (.bool false), .lit (.bool false), .lit (.bool false)], .agg [.lit (.bool false), .lit (.bool false), .lit (.bool false), .lit (.bool false), .lit (.bool false), .lit (.bool true), .lit (.bool false), .lit (.bool false)]]

/-- 'reredoskeep.RebuildOn': WHATEVER THE INPUT: true; the input reads as it did. -/
def rebuildOnSpec : ChangeSpec := { name := "rebuildOn", fn := fun _ => fun
  | [d1, d2, d3, d4] => { results := [.lit (.bool true)], args := [d1, d2, d3, d4] }
  | _ => none }
def rebuildOnRow : OpenClaim := { program := "ytpkabalijooeaaadoor", sum := "54090fdbfa1f246853fbaca9455d7c9958181e68c69f2130c2eef17261ec4e21", func := "reredos/reredoskeep.RebuildOn", spec := "rebuildOn", inPlace := ["slices.overlaps[reredos/api.Item]", "slices.overlaps[reredos/api.Job]"], unfollowed := true, recurses := true, named := ["reredos/wire.records"], apart := false, laid := [("reredos/wire.records", laid_reredos_wire_records)] }
def RebuildOnSaid : Prop := rebuildOnRow.holds Tryd.pinned (OpenSpec.ofChange rebuildOnSpec)

/-- ITS FALSE NEIGHBOUR: 'it returns false'. Refute it at one input. -/
def rebuildOnWrong : ChangeSpec := { name := "rebuildOn", fn := fun _ => fun
  | [d1, d2, d3, d4] => { results := [.lit (.bool false)], args := [d1, d2, d3, d4] }
  | _ => none }
def RebuildOnWrongFalsely : Prop := rebuildOnRow.holds Tryd.pinned (OpenSpec.ofChange rebuildOnWrong)

/-- 'reredoskeep.RebuildStore': WHATEVER THE INPUT: true; the input reads as it did. -/
def rebuildStoreSpec : ChangeSpec := { name := "rebuildStore", fn := fun _ => fun
  | [d1, d2, d3, d4] => { results := [.lit (.bool true)], args := [d1, d2, d3, d4] }
  | _ => none }
def rebuildStoreRow : OpenClaim := { program := "ytpkabalijooeaaadoor", sum := "54090fdbfa1f246853fbaca9455d7c9958181e68c69f2130c2eef17261ec4e21", func := "reredos/reredoskeep.RebuildStore", spec := "rebuildStore", inPlace := ["slices.overlaps[reredos/api.Item]", "slices.overlaps[reredos/api.Job]"], unfollowed := true, recurses := true, named := ["reredos/wire.records"], apart := false, laid := [("reredos/wire.records", laid_reredos_wire_records)] }
def RebuildStoreSaid : Prop := rebuildStoreRow.holds Tryd.pinned (OpenSpec.ofChange rebuildStoreSpec)

/-- ITS FALSE NEIGHBOUR: 'it returns false'. Refute it at one input. -/
def rebuildStoreWrong : ChangeSpec := { name := "rebuildStore", fn := fun _ => fun
  | [d1, d2, d3, d4] => { results := [.lit (.bool false)], args := [d1, d2, d3, d4] }
  | _ => none }
def RebuildStoreWrongFalsely : Prop := rebuildStoreRow.holds Tryd.pinned (OpenSpec.ofChange rebuildStoreWrong)

/-- 'reredoskeep.RebuildDesk': WHATEVER THE INPUT: true; the input reads as it did. -/
def rebuildDeskSpec : ChangeSpec := { name := "rebuildDesk", fn := fun _ => fun
  | [d1, d2, d3] => { results := [.lit (.bool true)], args := [d1, d2, d3] }
  | _ => none }
def rebuildDeskRow : OpenClaim := { program := "ytpkabalijooeaaadoor", sum := "54090fdbfa1f246853fbaca9455d7c9958181e68c69f2130c2eef17261ec4e21", func := "reredos/reredoskeep.RebuildDesk", spec := "rebuildDesk", inPlace := ["slices.overlaps[reredos/api.Item]", "slices.overlaps[reredos/api.Job]"], unfollowed := true, recurses := true, named := ["reredos/wire.records"], apart := false, laid := [("reredos/wire.records", laid_reredos_wire_records)] }
def RebuildDeskSaid : Prop := rebuildDeskRow.holds Tryd.pinned (OpenSpec.ofChange rebuildDeskSpec)

/-- ITS FALSE NEIGHBOUR: 'it returns false'. Refute it at one input. -/
def rebuildDeskWrong : ChangeSpec := { name := "rebuildDesk", fn := fun _ => fun
  | [d1, d2, d3] => { results := [.lit (.bool false)], args := [d1, d2, d3] }
  | _ => none }
def RebuildDeskWrongFalsely : Prop := rebuildDeskRow.holds Tryd.pinned (OpenSpec.ofChange rebuildDeskWrong)

/-- 'reredoskeep.RebuildGood': WHATEVER THE INPUT: true; the input reads as it did. -/
def rebuildGoodSpec : ChangeSpec := { name := "rebuildGood", fn := fun _ => fun
  | [d1, d2, d3] => { results := [.lit (.bool true)], args := [d1, d2, d3] }
  | _ => none }
def rebuildGoodRow : OpenClaim := { program := "ytpkabalijooeaaadoor", sum := "54090fdbfa1f246853fbaca9455d7c9958181e68c69f2130c2eef17261ec4e21", func := "reredos/reredoskeep.RebuildGood", spec := "rebuildGood", inPlace := ["slices.overlaps[reredos/api.Item]", "slices.overlaps[reredos/api.Job]"], unfollowed := true, recurses := true, named := ["reredos/wire.records"], apart := false, laid := [("reredos/wire.records", laid_reredos_wire_records)] }
def RebuildGoodSaid : Prop := rebuildGoodRow.holds Tryd.pinned (OpenSpec.ofChange rebuildGoodSpec)

/-- ITS FALSE NEIGHBOUR: 'it returns false'. Refute it at one input. -/
def rebuildGoodWrong : ChangeSpec := { name := "rebuildGood", fn := fun _ => fun
  | [d1, d2, d3] => { results := [.lit (.bool false)], args := [d1, d2, d3] }
  | _ => none }
def RebuildGoodWrongFalsely : Prop := rebuildGoodRow.holds Tryd.pinned (OpenSpec.ofChange rebuildGoodWrong)

/- THE SECOND FORM. 'bulk': how many values and letters a reading holds, each counted each time it is reached (what is shared counts as often as it is met; a slice's spare places count too). A statement '..UptoSaid' is the law's where the arguments, and the package variables that the reading takes, are together of bulk at most 1048576: NARROWER than '..Said'. Prove '..Said' where nothing that the law and all that it calls make is longer than what came in: it says more and counts as full. Else prove '..UptoSaid'. A law counts once. -/
mutual
def uptoBulk {H : Type} : DataW H → Nat
  | .lit (.string bytes) => bytes.length + 1
  | .lit _ => 1
  | .nil => 1
  | .ptr d => uptoBulk d + 1
  | .slice elems spare => uptoBulkAll elems + uptoBulkAll spare + 1
  | .agg parts => uptoBulkAll parts + 1
  | .iface _ d => uptoBulk d + 1
  | .map entries => uptoBulkEntries entries + 1
  | .held _ => 1
def uptoBulkAll {H : Type} : List (DataW H) → Nat
  | [] => 0
  | d :: r => uptoBulk d + uptoBulkAll r
def uptoBulkEntries {H : Type} : List (Lit × DataW H) → Nat
  | [] => 0
  | x :: r => uptoBulkEntry x + uptoBulkEntries r
def uptoBulkEntry {H : Type} : Lit × DataW H → Nat
  | (.string bytes, d) => bytes.length + uptoBulk d + 1
  | (_, d) => uptoBulk d + 1
 end
def uptoSmall : (H : Type) → List (DataW H) → Bool := fun _ ds => decide (uptoBulkAll ds ≤ 1048576)
def OpenSpec.upto (s : _root_.Go.ChangeSpec) : _root_.Go.OpenSpec := { _root_.Go.OpenSpec.ofChange s with cond := some uptoSmall }

/-- 'reredoskeep.RebuildOn', WHERE WHAT IT READS IS OF BULK AT MOST 1048576: true; the input reads as it did. -/
def rebuildOnUptoRow : OpenClaim := { program := "ytpkabalijooeaaadoor", sum := "54090fdbfa1f246853fbaca9455d7c9958181e68c69f2130c2eef17261ec4e21", func := "reredos/reredoskeep.RebuildOn", spec := "rebuildOn", inPlace := ["slices.overlaps[reredos/api.Item]", "slices.overlaps[reredos/api.Job]"], unfollowed := true, recurses := true, named := ["reredos/wire.records"], apart := false, laid := [("reredos/wire.records", laid_reredos_wire_records)], narrowed := true }
def RebuildOnUptoSaid : Prop := rebuildOnUptoRow.holds Tryd.pinned (OpenSpec.upto rebuildOnSpec)

/-- 'reredoskeep.RebuildStore', WHERE WHAT IT READS IS OF BULK AT MOST 1048576: true; the input reads as it did. -/
def rebuildStoreUptoRow : OpenClaim := { program := "ytpkabalijooeaaadoor", sum := "54090fdbfa1f246853fbaca9455d7c9958181e68c69f2130c2eef17261ec4e21", func := "reredos/reredoskeep.RebuildStore", spec := "rebuildStore", inPlace := ["slices.overlaps[reredos/api.Item]", "slices.overlaps[reredos/api.Job]"], unfollowed := true, recurses := true, named := ["reredos/wire.records"], apart := false, laid := [("reredos/wire.records", laid_reredos_wire_records)], narrowed := true }
def RebuildStoreUptoSaid : Prop := rebuildStoreUptoRow.holds Tryd.pinned (OpenSpec.upto rebuildStoreSpec)

/-- 'reredoskeep.RebuildDesk', WHERE WHAT IT READS IS OF BULK AT MOST 1048576: true; the input reads as it did. -/
def rebuildDeskUptoRow : OpenClaim := { program := "ytpkabalijooeaaadoor", sum := "54090fdbfa1f246853fbaca9455d7c9958181e68c69f2130c2eef17261ec4e21", func := "reredos/reredoskeep.RebuildDesk", spec := "rebuildDesk", inPlace := ["slices.overlaps[reredos/api.Item]", "slices.overlaps[reredos/api.Job]"], unfollowed := true, recurses := true, named := ["reredos/wire.records"], apart := false, laid := [("reredos/wire.records", laid_reredos_wire_records)], narrowed := true }
def RebuildDeskUptoSaid : Prop := rebuildDeskUptoRow.holds Tryd.pinned (OpenSpec.upto rebuildDeskSpec)

/-- 'reredoskeep.RebuildGood', WHERE WHAT IT READS IS OF BULK AT MOST 1048576: true; the input reads as it did. -/
def rebuildGoodUptoRow : OpenClaim := { program := "ytpkabalijooeaaadoor", sum := "54090fdbfa1f246853fbaca9455d7c9958181e68c69f2130c2eef17261ec4e21", func := "reredos/reredoskeep.RebuildGood", spec := "rebuildGood", inPlace := ["slices.overlaps[reredos/api.Item]", "slices.overlaps[reredos/api.Job]"], unfollowed := true, recurses := true, named := ["reredos/wire.records"], apart := false, laid := [("reredos/wire.records", laid_reredos_wire_records)], narrowed := true }
def RebuildGoodUptoSaid : Prop := rebuildGoodUptoRow.holds Tryd.pinned (OpenSpec.upto rebuildGoodSpec)

end Rows
end Go.Proofs.YtpkabalijooeaaaDoor
