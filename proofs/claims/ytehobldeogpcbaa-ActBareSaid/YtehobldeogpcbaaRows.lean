/-
  No cell of these rows narrows 'for every input' (looked for: loops, veiled, ifaces, maps, wideKeys, modest, calm, conditions, laid).
  DERIVED. THE GIVEN ROWS OF THIS SEAT. 4 by the template 'for every input the law returns true; each argument reads behind the call as it read before'; 0 by the template 'total and deterministic' (their statements: YtehobldeogpcbaaTotals.lean).
  GIVEN WITH THE SEED: the statements are not yours to turn. If you find one false, say at which input.
  Laid BY PROGRAM, IN A SANDBOX (cutbox-rows.mjs): the forced cells as the released guide's own fill.sh prints them over the translation 5cfc650732f14492… (all of the seat's roots in one cut). By AI agents, Wed Nov 11 2026. No macro, syntax, notation, axiom, sorry.
-/
import Derived.Test.YtehobldeogpcbaaChecked
import GoSem.Claim
import GoSem.ClaimJoined
import GoSem.ClaimMapViews
import Derived.JoinedTies
import Derived.KernelRfl
namespace Go.Proofs.Ytehobldeogpcbaa
/- THE CELL 'sum', in the pinned program and in every row, IS THE sha256 OF THE DUMP (.gsa) THAT YtehobldeogpcbaaProg.lean LOADS. Nothing in Lean hashes anything: it is a label: what it is worth is what the hold of that sum in a sandbox is worth. -/
noncomputable def Try.pinned : Pinned := { name := "ytehobldeogpcbaa", sum := "5cfc650732f14492a780ef19ab099838191859467730d7c8919ff47167f145d3", checked := Try.checked }
namespace Rows
def none {H : Type} : Left H := { results := [], args := [] }

/-- 'reredoskeep.MeetMost': WHATEVER THE INPUT: true; the input reads as it did. -/
def meetMostSpec : ChangeSpec := { name := "meetMost", fn := fun _ => fun
  | [d1, d2, d3] => { results := [.lit (.bool true)], args := [d1, d2, d3] }
  | _ => none }
def meetMostRow : OpenClaim := { program := "ytehobldeogpcbaa", sum := "5cfc650732f14492a780ef19ab099838191859467730d7c8919ff47167f145d3", func := "reredos/reredoskeep.MeetMost", spec := "meetMost", apart := false }
def MeetMostSaid : Prop := meetMostRow.holds Try.pinned (OpenSpec.ofChange meetMostSpec)

/-- ITS FALSE NEIGHBOUR: 'it returns false'. Refute it at one input. -/
def meetMostWrong : ChangeSpec := { name := "meetMost", fn := fun _ => fun
  | [d1, d2, d3] => { results := [.lit (.bool false)], args := [d1, d2, d3] }
  | _ => none }
def MeetMostWrongFalsely : Prop := meetMostRow.holds Try.pinned (OpenSpec.ofChange meetMostWrong)

/-- 'reredoskeep.ConfigGood': WHATEVER THE INPUT: true; the input reads as it did. -/
def configGoodSpec : ChangeSpec := { name := "configGood", fn := fun _ => fun
  | [d1, d2, d3] => { results := [.lit (.bool true)], args := [d1, d2, d3] }
  | _ => none }
def configGoodRow : OpenClaim := { program := "ytehobldeogpcbaa", sum := "5cfc650732f14492a780ef19ab099838191859467730d7c8919ff47167f145d3", func := "reredos/reredoskeep.ConfigGood", spec := "configGood", apart := false }
def ConfigGoodSaid : Prop := configGoodRow.holds Try.pinned (OpenSpec.ofChange configGoodSpec)

/-- ITS FALSE NEIGHBOUR: 'it returns false'. Refute it at one input. -/
def configGoodWrong : ChangeSpec := { name := "configGood", fn := fun _ => fun
  | [d1, d2, d3] => { results := [.lit (.bool false)], args := [d1, d2, d3] }
  | _ => none }
def ConfigGoodWrongFalsely : Prop := configGoodRow.holds Try.pinned (OpenSpec.ofChange configGoodWrong)

/-- 'reredoskeep.PurgeMore': WHATEVER THE INPUT: true; the input reads as it did. -/
def purgeMoreSpec : ChangeSpec := { name := "purgeMore", fn := fun _ => fun
  | [d1, d2, d3, d4, d5, d6] => { results := [.lit (.bool true)], args := [d1, d2, d3, d4, d5, d6] }
  | _ => none }
def purgeMoreRow : OpenClaim := { program := "ytehobldeogpcbaa", sum := "5cfc650732f14492a780ef19ab099838191859467730d7c8919ff47167f145d3", func := "reredos/reredoskeep.PurgeMore", spec := "purgeMore", recurses := true, apart := false }
def PurgeMoreSaid : Prop := purgeMoreRow.holds Try.pinned (OpenSpec.ofChange purgeMoreSpec)

/-- ITS FALSE NEIGHBOUR: 'it returns false'. Refute it at one input. -/
def purgeMoreWrong : ChangeSpec := { name := "purgeMore", fn := fun _ => fun
  | [d1, d2, d3, d4, d5, d6] => { results := [.lit (.bool false)], args := [d1, d2, d3, d4, d5, d6] }
  | _ => none }
def PurgeMoreWrongFalsely : Prop := purgeMoreRow.holds Try.pinned (OpenSpec.ofChange purgeMoreWrong)

/-- 'reredoskeep.ActBare': WHATEVER THE INPUT: true; the input reads as it did. -/
def actBareSpec : ChangeSpec := { name := "actBare", fn := fun _ => fun
  | [d1, d2] => { results := [.lit (.bool true)], args := [d1, d2] }
  | _ => none }
def actBareRow : OpenClaim := { program := "ytehobldeogpcbaa", sum := "5cfc650732f14492a780ef19ab099838191859467730d7c8919ff47167f145d3", func := "reredos/reredoskeep.ActBare", spec := "actBare", unfollowed := true, recurses := true, apart := false }
def ActBareSaid : Prop := actBareRow.holds Try.pinned (OpenSpec.ofChange actBareSpec)

/-- ITS FALSE NEIGHBOUR: 'it returns false'. Refute it at one input. -/
def actBareWrong : ChangeSpec := { name := "actBare", fn := fun _ => fun
  | [d1, d2] => { results := [.lit (.bool false)], args := [d1, d2] }
  | _ => none }
def ActBareWrongFalsely : Prop := actBareRow.holds Try.pinned (OpenSpec.ofChange actBareWrong)

/- THE SECOND FORM. 'bulk': how many values and letters a reading holds, each counted each time it is reached (what is shared counts as often as it is met; a slice's spare places count too). A statement '..UptoSaid' is the law's where the arguments, and the package variables that the reading takes, are together of bulk at most 1048576: NARROWER than '..Said'. Prove '..Said' where nothing that the law and all that it calls make is longer than what came in: it says more and counts as full. Else prove '..UptoSaid'. A law counts once. -/
mutual
def uptoBulk {H : Type} : DataW H → Nat
  | .lit (.string bytes) => bytes.length + 1
  | .lit _ => 1
  | .nil => 1
  | .ptr d => uptoBulk d + 1
  | .slice elems spare => uptoBulkAll elems + uptoBulkAll spare + 1
  | .agg parts => uptoBulkAll parts + 1
  | .iface _ d => uptoBulk d + 1
  | .map entries => uptoBulkEntries entries + 1
  | .held _ => 1
def uptoBulkAll {H : Type} : List (DataW H) → Nat
  | [] => 0
  | d :: r => uptoBulk d + uptoBulkAll r
def uptoBulkEntries {H : Type} : List (Lit × DataW H) → Nat
  | [] => 0
  | x :: r => uptoBulkEntry x + uptoBulkEntries r
def uptoBulkEntry {H : Type} : Lit × DataW H → Nat
  | (.string bytes, d) => bytes.length + uptoBulk d + 1
  | (_, d) => uptoBulk d + 1
 end
def uptoSmall : (H : Type) → List (DataW H) → Bool := fun _ ds => decide (uptoBulkAll ds ≤ 1048576)
def OpenSpec.upto (s : _root_.Go.ChangeSpec) : _root_.Go.OpenSpec := { _root_.Go.OpenSpec.ofChange s with cond := some uptoSmall }

/-- 'reredoskeep.MeetMost', WHERE WHAT IT READS IS OF BULK AT MOST 1048576: true; the input reads as it did. -/
def meetMostUptoRow : OpenClaim := { program := "ytehobldeogpcbaa", sum := "5cfc650732f14492a780ef19ab099838191859467730d7c8919ff47167f145d3", func := "reredos/reredoskeep.MeetMost", spec := "meetMost", apart := false, narrowed := true }
def MeetMostUptoSaid : Prop := meetMostUptoRow.holds Try.pinned (OpenSpec.upto meetMostSpec)

/-- 'reredoskeep.ConfigGood', WHERE WHAT IT READS IS OF BULK AT MOST 1048576: true; the input reads as it did. -/
def configGoodUptoRow : OpenClaim := { program := "ytehobldeogpcbaa", sum := "5cfc650732f14492a780ef19ab099838191859467730d7c8919ff47167f145d3", func := "reredos/reredoskeep.ConfigGood", spec := "configGood", apart := false, narrowed := true }
def ConfigGoodUptoSaid : Prop := configGoodUptoRow.holds Try.pinned (OpenSpec.upto configGoodSpec)

/-- 'reredoskeep.PurgeMore', WHERE WHAT IT READS IS OF BULK AT MOST 1048576: true; the input reads as it did. -/
def purgeMoreUptoRow : OpenClaim := { program := "ytehobldeogpcbaa", sum := "5cfc650732f14492a780ef19ab099838191859467730d7c8919ff47167f145d3", func := "reredos/reredoskeep.PurgeMore", spec := "purgeMore", recurses := true, apart := false, narrowed := true }
def PurgeMoreUptoSaid : Prop := purgeMoreUptoRow.holds Try.pinned (OpenSpec.upto purgeMoreSpec)

/-- 'reredoskeep.ActBare', WHERE WHAT IT READS IS OF BULK AT MOST 1048576: true; the input reads as it did. -/
def actBareUptoRow : OpenClaim := { program := "ytehobldeogpcbaa", sum := "5cfc650732f14492a780ef19ab099838191859467730d7c8919ff47167f145d3", func := "reredos/reredoskeep.ActBare", spec := "actBare", unfollowed := true, recurses := true, apart := false, narrowed := true }
def ActBareUptoSaid : Prop := actBareUptoRow.holds Try.pinned (OpenSpec.upto actBareSpec)

end Rows
end Go.Proofs.Ytehobldeogpcbaa
