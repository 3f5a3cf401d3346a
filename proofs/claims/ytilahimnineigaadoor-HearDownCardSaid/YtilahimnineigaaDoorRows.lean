/-
  NARROWER THAN 'FOR EVERY INPUT', by the rows' own cells (each row's printed sentence says how): HearKind: laid · HearDown: laid · HearSure: laid · HearWrite: laid · HearDecide: laid · ForceDamage: laid.
  DERIVED. THE GIVEN ROWS OF THIS SEAT. 6 by the template 'for every input the law returns true; each argument reads behind the call as it read before'; 0 by the template 'total and deterministic' (their statements: YtilahimnineigaaDoorTotals.lean).
  GIVEN WITH THE SEED: the statements are not yours to turn. If you find one false, say at which input.
  Laid BY PROGRAM, IN A SANDBOX (cutbox-rows.mjs): the forced cells as the released guide's own fill.sh prints them over the translation 6221d9888b3161fe… (all of the seat's roots in one cut). By AI agents, Wed Nov 11 2026. No macro, syntax, notation, axiom, sorry.
-/
import Derived.Test.YtilahimnineigaaDoorChecked
import GoSem.Claim
import GoSem.ClaimJoined
import GoSem.ClaimMapViews
import Derived.JoinedTies
import Derived.KernelRfl
namespace Go.Proofs.YtilahimnineigaaDoor
/- THE CELL 'sum', in the pinned program and in every row, IS THE sha256 OF THE DUMP (.gsa) THAT YtilahimnineigaaDoorProg.lean LOADS. Nothing in Lean hashes anything: it is a label: what it is worth is what the hold of that sum in a sandbox is worth. -/
noncomputable def Tryd.pinned : Pinned := { name := "ytilahimnineigaadoor", sum := "6221d9888b3161fe51d807fd5ff48a09e9d7283011dde5b015c5c3d3b2583a2c", checked := Tryd.checked }
namespace Rows
def none {H : Type} : Left H := { results := [], args := [] }

/- WHAT THE LISTED PACKAGE-LEVEL VARIABLES READ AS WHEN THE CALL BEGINS. Each datum BY PROGRAM (the guide's laid-datum.mjs) off the statement by which the dump's own 'gosem.cut.vars' lays the variable. In a bare row this is a premise. The card (YtilahimnineigaaDoorCards.lean) ties it to the program's text. -/
def laid_reredos_wire_messages {H : Type} : DataW H := .agg [.agg [.lit (.bool false), .lit (.bool false), .lit (.bool false), .lit (.bool false), .lit (.bool false), .lit (.bool false), .lit (.bool false), .lit (.bool false)], .agg [.lit (.bool true), .lit (.bool true), .lit (.bool false), .lit (.bool false), .lit (.bool true), .lit (.bool false), .lit (.bool false), .lit (.bool false)], .agg [.lit (.bool false), .lit (.bool true), .lit (.bool true), .lit (.bool false), .lit (.bool true), .lit (.bool false), .lit (.bool false), .lit (.bool false)], .agg [.lit (.bool true), .lit (.bool true), .lit (.bool false), .lit (.bool true), .lit (.bool false), .lit (.bool false), .lit (.bool false), .lit (.bool false)], .agg [.lit (.bool false), .lit (.bool false), .lit (.bool false), .lit (.bool false), .lit (.bool false), .lit (.bool true), .lit (.bool false), .lit (.bool false)], .agg [.lit (.bool true), .lit (.bool true), .lit (.bool true), .lit (.bool true), .lit (.bool true), .lit (.bool false), .lit (.bool true), .lit (.bool false)], .agg [.lit (.bool false), .lit (.bool true), .lit (.bool false), .lit (.bool false), .lit (.bool true), .lit (.bool false), .lit (.bool true), .lit (.bool false)], .agg [.lit (.bool true), .lit (.bool true), .lit (.bool false), .lit (.bool true), .lit (.bool false), .lit (.bool true), .lit (.bool false), .lit (.bool false)], .agg [.lit (.bool false), .lit (.bool false), .lit (.bool false), .lit (.bool false), .lit (.bool false), .lit (.bool false), .lit (.bool false), .lit (.bool false)], .agg [.lit (.bool false), .lit (.bool false), .lit (.bool false), .lit (.bool false), .lit (.bool false), .lit (.bool false), .lit (.bool false), .lit (.bool false)]]

/-- 'reredoskeep.HearKind': WHATEVER THE INPUT: true; the input reads as it did. -/
def hearKindSpec : ChangeSpec := { name := "hearKind", fn := fun _ => fun
  | [d1, d2, d3, d4] => { results := [.lit (.bool true)], args := [d1, d2, d3, d4] }
  | _ => none }
def hearKindRow : OpenClaim := { program := "ytilahimnineigaadoor", sum := "6221d9888b3161fe51d807fd5ff48a09e9d7283011dde5b015c5c3d3b2583a2c", func := "reredos/reredoskeep.HearKind", spec := "hearKind", inPlace := ["slices.overlaps[reredos/api.Item]"], unfollowed := true, recurses := true, named := ["reredos/wire.messages"], apart := false, laid := [("reredos/wire.messages", laid_reredos_wire_messages)] }
def HearKindSaid : Prop := hearKindRow.holds Tryd.pinned (OpenSpec.ofChange hearKindSpec)

/-- ITS FALSE NEIGHBOUR: 'it returns false'. Refute it at one input. -/
def hearKindWrong : ChangeSpec := { name := "hearKind", fn := fun _ => fun
  | [d1, d2, d3, d4] => { results := [.lit (.bool false)], args := [d1, d2, d3, d4] }
  | _ => none }
def HearKindWrongFalsely : Prop := hearKindRow.holds Tryd.pinned (OpenSpec.ofChange hearKindWrong)

/-- 'reredoskeep.HearDown': WHATEVER THE INPUT: true; the input reads as it did. -/
def hearDownSpec : ChangeSpec := { name := "hearDown", fn := fun _ => fun
  | [d1, d2, d3, d4] => { results := [.lit (.bool true)], args := [d1, d2, d3, d4] }
  | _ => none }
def hearDownRow : OpenClaim := { program := "ytilahimnineigaadoor", sum := "6221d9888b3161fe51d807fd5ff48a09e9d7283011dde5b015c5c3d3b2583a2c", func := "reredos/reredoskeep.HearDown", spec := "hearDown", inPlace := ["slices.overlaps[reredos/api.Item]"], unfollowed := true, recurses := true, named := ["reredos/wire.messages"], apart := false, laid := [("reredos/wire.messages", laid_reredos_wire_messages)] }
def HearDownSaid : Prop := hearDownRow.holds Tryd.pinned (OpenSpec.ofChange hearDownSpec)

/-- ITS FALSE NEIGHBOUR: 'it returns false'. Refute it at one input. -/
def hearDownWrong : ChangeSpec := { name := "hearDown", fn := fun _ => fun
  | [d1, d2, d3, d4] => { results := [.lit (.bool false)], args := [d1, d2, d3, d4] }
  | _ => none }
def HearDownWrongFalsely : Prop := hearDownRow.holds Tryd.pinned (OpenSpec.ofChange hearDownWrong)

/-- 'reredoskeep.HearSure': WHATEVER THE INPUT: true; the input reads as it did. -/
def hearSureSpec : ChangeSpec := { name := "hearSure", fn := fun _ => fun
  | [d1, d2, d3] => { results := [.lit (.bool true)], args := [d1, d2, d3] }
  | _ => none }
def hearSureRow : OpenClaim := { program := "ytilahimnineigaadoor", sum := "6221d9888b3161fe51d807fd5ff48a09e9d7283011dde5b015c5c3d3b2583a2c", func := "reredos/reredoskeep.HearSure", spec := "hearSure", inPlace := ["slices.overlaps[reredos/api.Item]"], unfollowed := true, recurses := true, named := ["reredos/wire.messages"], apart := false, laid := [("reredos/wire.messages", laid_reredos_wire_messages)] }
def HearSureSaid : Prop := hearSureRow.holds Tryd.pinned (OpenSpec.ofChange hearSureSpec)

/-- ITS FALSE NEIGHBOUR: 'it returns false'. Refute it at one input. -/
def hearSureWrong : ChangeSpec := { name := "hearSure", fn := fun _ => fun
  | [d1, d2, d3] => { results := [.lit (.bool false)], args := [d1, d2, d3] }
  | _ => none }
def HearSureWrongFalsely : Prop := hearSureRow.holds Tryd.pinned (OpenSpec.ofChange hearSureWrong)

/-- 'reredoskeep.HearWrite': WHATEVER THE INPUT: true; the input reads as it did. -/
def hearWriteSpec : ChangeSpec := { name := "hearWrite", fn := fun _ => fun
  | [d1, d2, d3, d4, d5] => { results := [.lit (.bool true)], args := [d1, d2, d3, d4, d5] }
  | _ => none }
def hearWriteRow : OpenClaim := { program := "ytilahimnineigaadoor", sum := "6221d9888b3161fe51d807fd5ff48a09e9d7283011dde5b015c5c3d3b2583a2c", func := "reredos/reredoskeep.HearWrite", spec := "hearWrite", inPlace := ["slices.overlaps[reredos/api.Item]"], unfollowed := true, recurses := true, named := ["reredos/wire.messages"], apart := false, laid := [("reredos/wire.messages", laid_reredos_wire_messages)] }
def HearWriteSaid : Prop := hearWriteRow.holds Tryd.pinned (OpenSpec.ofChange hearWriteSpec)

/-- ITS FALSE NEIGHBOUR: 'it returns false'. Refute it at one input. -/
def hearWriteWrong : ChangeSpec := { name := "hearWrite", fn := fun _ => fun
  | [d1, d2, d3, d4, d5] => { results := [.lit (.bool false)], args := [d1, d2, d3, d4, d5] }
  | _ => none }
def HearWriteWrongFalsely : Prop := hearWriteRow.holds Tryd.pinned (OpenSpec.ofChange hearWriteWrong)

/-- 'reredoskeep.HearDecide': WHATEVER THE INPUT: true; the input reads as it did. -/
def hearDecideSpec : ChangeSpec := { name := "hearDecide", fn := fun _ => fun
  | [d1, d2, d3] => { results := [.lit (.bool true)], args := [d1, d2, d3] }
  | _ => none }
def hearDecideRow : OpenClaim := { program := "ytilahimnineigaadoor", sum := "6221d9888b3161fe51d807fd5ff48a09e9d7283011dde5b015c5c3d3b2583a2c", func := "reredos/reredoskeep.HearDecide", spec := "hearDecide", inPlace := ["slices.overlaps[reredos/api.Item]"], unfollowed := true, recurses := true, named := ["reredos/wire.messages"], apart := false, laid := [("reredos/wire.messages", laid_reredos_wire_messages)] }
def HearDecideSaid : Prop := hearDecideRow.holds Tryd.pinned (OpenSpec.ofChange hearDecideSpec)

/-- ITS FALSE NEIGHBOUR: 'it returns false'. Refute it at one input. -/
def hearDecideWrong : ChangeSpec := { name := "hearDecide", fn := fun _ => fun
  | [d1, d2, d3] => { results := [.lit (.bool false)], args := [d1, d2, d3] }
  | _ => none }
def HearDecideWrongFalsely : Prop := hearDecideRow.holds Tryd.pinned (OpenSpec.ofChange hearDecideWrong)

/-- 'reredoskeep.ForceDamage': WHATEVER THE INPUT: true; the input reads as it did. -/
def forceDamageSpec : ChangeSpec := { name := "forceDamage", fn := fun _ => fun
  | [d1, d2, d3] => { results := [.lit (.bool true)], args := [d1, d2, d3] }
  | _ => none }
def forceDamageRow : OpenClaim := { program := "ytilahimnineigaadoor", sum := "6221d9888b3161fe51d807fd5ff48a09e9d7283011dde5b015c5c3d3b2583a2c", func := "reredos/reredoskeep.ForceDamage", spec := "forceDamage", inPlace := ["slices.overlaps[reredos/api.Item]"], unfollowed := true, recurses := true, named := ["reredos/wire.messages"], apart := false, laid := [("reredos/wire.messages", laid_reredos_wire_messages)] }
def ForceDamageSaid : Prop := forceDamageRow.holds Tryd.pinned (OpenSpec.ofChange forceDamageSpec)

/-- ITS FALSE NEIGHBOUR: 'it returns false'. Refute it at one input. -/
def forceDamageWrong : ChangeSpec := { name := "forceDamage", fn := fun _ => fun
  | [d1, d2, d3] => { results := [.lit (.bool false)], args := [d1, d2, d3] }
  | _ => none }
def ForceDamageWrongFalsely : Prop := forceDamageRow.holds Tryd.pinned (OpenSpec.ofChange forceDamageWrong)

/- THE SECOND FORM. 'bulk': how many values and letters a reading holds, each counted each time it is reached (what is shared counts as often as it is met; a slice's spare places count too). A statement '..UptoSaid' is the law's where the arguments, and the package variables that the reading takes, are together of bulk at most 1048576: NARROWER than '..Said'. Prove '..Said' where nothing that the law and all that it calls make is longer than what came in: it says more and counts as full. Else prove '..UptoSaid'. A law counts once. -/
mutual
def uptoBulk {H : Type} : DataW H → Nat
  | .lit (.string bytes) => bytes.length + 1
  | .lit _ => 1
  | .nil => 1
  | .ptr d => uptoBulk d + 1
  | .slice elems spare => uptoBulkAll elems + uptoBulkAll spare + 1
  | .agg parts => uptoBulkAll parts + 1
  | .iface _ d => uptoBulk d + 1
  | .map entries => uptoBulkEntries entries + 1
  | .held _ => 1
def uptoBulkAll {H : Type} : List (DataW H) → Nat
  | [] => 0
  | d :: r => uptoBulk d + uptoBulkAll r
def uptoBulkEntries {H : Type} : List (Lit × DataW H) → Nat
  | [] => 0
  | x :: r => uptoBulkEntry x + uptoBulkEntries r
def uptoBulkEntry {H : Type} : Lit × DataW H → Nat
  | (.string bytes, d) => bytes.length + uptoBulk d + 1
  | (_, d) => uptoBulk d + 1
 end
def uptoSmall : (H : Type) → List (DataW H) → Bool := fun _ ds => decide (uptoBulkAll ds ≤ 1048576)
def OpenSpec.upto (s : _root_.Go.ChangeSpec) : _root_.Go.OpenSpec := { _root_.Go.OpenSpec.ofChange s with cond := some uptoSmall }

/-- 'reredoskeep.HearKind', WHERE WHAT IT READS IS OF BULK AT MOST 1048576: true; the input reads as it did. -/
def hearKindUptoRow : OpenClaim := { program := "ytilahimnineigaadoor", sum := "6221d9888b3161fe51d807fd5ff48a09e9d7283011dde5b015c5c3d3b2583a2c", func := "reredos/reredoskeep.HearKind", spec := "hearKind", inPlace := ["slices.overlaps[reredos/api.Item]"], unfollowed := true, recurses := true, named := ["reredos/wire.messages"], apart := false, laid := [("reredos/wire.messages", laid_reredos_wire_messages)], narrowed := true }
def HearKindUptoSaid : Prop := hearKindUptoRow.holds Tryd.pinned (OpenSpec.upto hearKindSpec)

/-- 'reredoskeep.HearDown', WHERE WHAT IT READS IS OF BULK AT MOST 1048576: true; the input reads as it did. -/
def hearDownUptoRow : OpenClaim := { program := "ytilahimnineigaadoor", sum := "6221d9888b3161fe51d807fd5ff48a09e9d7283011dde5b015c5c3d3b2583a2c", func := "reredos/reredoskeep.HearDown", spec := "hearDown", inPlace := ["slices.overlaps[reredos/api.Item]"], unfollowed := true, recurses := true, named := ["reredos/wire.messages"], apart := false, laid := [("reredos/wire.messages", laid_reredos_wire_messages)], narrowed := true }
def HearDownUptoSaid : Prop := hearDownUptoRow.holds Tryd.pinned (OpenSpec.upto hearDownSpec)

/-- 'reredoskeep.HearSure', WHERE WHAT IT READS IS OF BULK AT MOST 1048576: true; the input reads as it did. -/
def hearSureUptoRow : OpenClaim := { program := "ytilahimnineigaadoor", sum := "6221d9888b3161fe51d807fd5ff48a09e9d7283011dde5b015c5c3d3b2583a2c", func := "reredos/reredoskeep.HearSure", spec := "hearSure", inPlace := ["slices.overlaps[reredos/api.Item]"], unfollowed := true, recurses := true, named := ["reredos/wire.messages"], apart := false, laid := [("reredos/wire.messages", laid_reredos_wire_messages)], narrowed := true }
def HearSureUptoSaid : Prop := hearSureUptoRow.holds Tryd.pinned (OpenSpec.upto hearSureSpec)

/-- 'reredoskeep.HearWrite', WHERE WHAT IT READS IS OF BULK AT MOST 1048576: true; the input reads as it did. -/
def hearWriteUptoRow : OpenClaim := { program := "ytilahimnineigaadoor", sum := "6221d9888b3161fe51d807fd5ff48a09e9d7283011dde5b015c5c3d3b2583a2c", func := "reredos/reredoskeep.HearWrite", spec := "hearWrite", inPlace := ["slices.overlaps[reredos/api.Item]"], unfollowed := true, recurses := true, named := ["reredos/wire.messages"], apart := false, laid := [("reredos/wire.messages", laid_reredos_wire_messages)], narrowed := true }
def HearWriteUptoSaid : Prop := hearWriteUptoRow.holds Tryd.pinned (OpenSpec.upto hearWriteSpec)

/-- 'reredoskeep.HearDecide', WHERE WHAT IT READS IS OF BULK AT MOST 1048576: true; the input reads as it did. -/
def hearDecideUptoRow : OpenClaim := { program := "ytilahimnineigaadoor", sum := "6221d9888b3161fe51d807fd5ff48a09e9d7283011dde5b015c5c3d3b2583a2c", func := "reredos/reredoskeep.HearDecide", spec := "hearDecide", inPlace := ["slices.overlaps[reredos/api.Item]"], unfollowed := true, recurses := true, named := ["reredos/wire.messages"], apart := false, laid := [("reredos/wire.messages", laid_reredos_wire_messages)], narrowed := true }
def HearDecideUptoSaid : Prop := hearDecideUptoRow.holds Tryd.pinned (OpenSpec.upto hearDecideSpec)

/-- 'reredoskeep.ForceDamage', WHERE WHAT IT READS IS OF BULK AT MOST 1048576: true; the input reads as it did. -/
def forceDamageUptoRow : OpenClaim := { program := "ytilahimnineigaadoor", sum := "6221d9888b3161fe51d807fd5ff48a09e9d7283011dde5b015c5c3d3b2583a2c", func := "reredos/reredoskeep.ForceDamage", spec := "forceDamage", inPlace := ["slices.overlaps[reredos/api.Item]"], unfollowed := true, recurses := true, named := ["reredos/wire.messages"], apart := false, laid := [("reredos/wire.messages", laid_reredos_wire_messages)], narrowed := true }
def ForceDamageUptoSaid : Prop := forceDamageUptoRow.holds Tryd.pinned (OpenSpec.upto forceDamageSpec)

end Rows
end Go.Proofs.YtilahimnineigaaDoor
