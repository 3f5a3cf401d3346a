/-
  No cell of these rows narrows 'for every input' (looked for: loops, veiled, ifaces, maps, wideKeys, modest, calm, conditions, laid).
  DERIVED. THE GIVEN ROWS OF THIS SEAT. 8 by the template 'for every input the law returns true; each argument reads behind the call as it read before'; 0 by the template 'total and deterministic' (their statements: YtccoiplnonfkgaaTotals.lean).
  GIVEN WITH THE SEED: the statements are not yours to turn. If you find one false, say at which input.
  Laid BY PROGRAM, IN A SANDBOX (cutbox-rows.mjs): the forced cells as the released guide's own fill.sh prints them over the translation 3bc165e817dcc3c6… (all of the seat's roots in one cut). By AI agents, Wed Nov 11 2026. No macro, syntax, notation, axiom, sorry.
-/
import Derived.Test.YtccoiplnonfkgaaChecked
import GoSem.Claim
import GoSem.ClaimJoined
import GoSem.ClaimMapViews
import Derived.JoinedTies
import Derived.KernelRfl
namespace Go.Proofs.Ytccoiplnonfkgaa
/- THE CELL 'sum', in the pinned program and in every row, IS THE sha256 OF THE DUMP (.gsa) THAT YtccoiplnonfkgaaProg.lean LOADS. Nothing in Lean hashes anything: it is a label: what it is worth is what the hold of that sum in a sandbox is worth. -/
noncomputable def Try.pinned : Pinned := { name := "ytccoiplnonfkgaa", sum := "3bc165e817dcc3c619826fd9873d24119d6dd200d625626d6af33a54ec08e43e", checked := Try.checked }
namespace Rows
def none {H : Type} : Left H := { results := [], args := [] }

/-- 'reredoskeep.AboveOrder': WHATEVER THE INPUT: true; the input reads as it did. -/
def aboveOrderSpec : ChangeSpec := { name := "aboveOrder", fn := fun _ => fun
  | [d1, d2, d3] => { results := [.lit (.bool true)], args := [d1, d2, d3] }
  | _ => none }
def aboveOrderRow : OpenClaim := { program := "ytccoiplnonfkgaa", sum := "3bc165e817dcc3c619826fd9873d24119d6dd200d625626d6af33a54ec08e43e", func := "reredos/reredoskeep.AboveOrder", spec := "aboveOrder", apart := false }
def AboveOrderSaid : Prop := aboveOrderRow.holds Try.pinned (OpenSpec.ofChange aboveOrderSpec)

/-- ITS FALSE NEIGHBOUR: 'it returns false'. Refute it at one input. -/
def aboveOrderWrong : ChangeSpec := { name := "aboveOrder", fn := fun _ => fun
  | [d1, d2, d3] => { results := [.lit (.bool false)], args := [d1, d2, d3] }
  | _ => none }
def AboveOrderWrongFalsely : Prop := aboveOrderRow.holds Try.pinned (OpenSpec.ofChange aboveOrderWrong)

/-- 'reredoskeep.JoinLeast': WHATEVER THE INPUT: true; the input reads as it did. -/
def joinLeastSpec : ChangeSpec := { name := "joinLeast", fn := fun _ => fun
  | [d1, d2, d3] => { results := [.lit (.bool true)], args := [d1, d2, d3] }
  | _ => none }
def joinLeastRow : OpenClaim := { program := "ytccoiplnonfkgaa", sum := "3bc165e817dcc3c619826fd9873d24119d6dd200d625626d6af33a54ec08e43e", func := "reredos/reredoskeep.JoinLeast", spec := "joinLeast", apart := false }
def JoinLeastSaid : Prop := joinLeastRow.holds Try.pinned (OpenSpec.ofChange joinLeastSpec)

/-- ITS FALSE NEIGHBOUR: 'it returns false'. Refute it at one input. -/
def joinLeastWrong : ChangeSpec := { name := "joinLeast", fn := fun _ => fun
  | [d1, d2, d3] => { results := [.lit (.bool false)], args := [d1, d2, d3] }
  | _ => none }
def JoinLeastWrongFalsely : Prop := joinLeastRow.holds Try.pinned (OpenSpec.ofChange joinLeastWrong)

/-- 'reredoskeep.MeetMost': WHATEVER THE INPUT: true; the input reads as it did. -/
def meetMostSpec : ChangeSpec := { name := "meetMost", fn := fun _ => fun
  | [d1, d2, d3] => { results := [.lit (.bool true)], args := [d1, d2, d3] }
  | _ => none }
def meetMostRow : OpenClaim := { program := "ytccoiplnonfkgaa", sum := "3bc165e817dcc3c619826fd9873d24119d6dd200d625626d6af33a54ec08e43e", func := "reredos/reredoskeep.MeetMost", spec := "meetMost", apart := false }
def MeetMostSaid : Prop := meetMostRow.holds Try.pinned (OpenSpec.ofChange meetMostSpec)

/-- ITS FALSE NEIGHBOUR: 'it returns false'. Refute it at one input. -/
def meetMostWrong : ChangeSpec := { name := "meetMost", fn := fun _ => fun
  | [d1, d2, d3] => { results := [.lit (.bool false)], args := [d1, d2, d3] }
  | _ => none }
def MeetMostWrongFalsely : Prop := meetMostRow.holds Try.pinned (OpenSpec.ofChange meetMostWrong)

/-- 'reredoskeep.ConfigGood': WHATEVER THE INPUT: true; the input reads as it did. -/
def configGoodSpec : ChangeSpec := { name := "configGood", fn := fun _ => fun
  | [d1, d2, d3] => { results := [.lit (.bool true)], args := [d1, d2, d3] }
  | _ => none }
def configGoodRow : OpenClaim := { program := "ytccoiplnonfkgaa", sum := "3bc165e817dcc3c619826fd9873d24119d6dd200d625626d6af33a54ec08e43e", func := "reredos/reredoskeep.ConfigGood", spec := "configGood", apart := false }
def ConfigGoodSaid : Prop := configGoodRow.holds Try.pinned (OpenSpec.ofChange configGoodSpec)

/-- ITS FALSE NEIGHBOUR: 'it returns false'. Refute it at one input. -/
def configGoodWrong : ChangeSpec := { name := "configGood", fn := fun _ => fun
  | [d1, d2, d3] => { results := [.lit (.bool false)], args := [d1, d2, d3] }
  | _ => none }
def ConfigGoodWrongFalsely : Prop := configGoodRow.holds Try.pinned (OpenSpec.ofChange configGoodWrong)

/-- 'reredoskeep.HomeOne': WHATEVER THE INPUT: true; the input reads as it did. -/
def homeOneSpec : ChangeSpec := { name := "homeOne", fn := fun _ => fun
  | [d1, d2, d3, d4] => { results := [.lit (.bool true)], args := [d1, d2, d3, d4] }
  | _ => none }
def homeOneRow : OpenClaim := { program := "ytccoiplnonfkgaa", sum := "3bc165e817dcc3c619826fd9873d24119d6dd200d625626d6af33a54ec08e43e", func := "reredos/reredoskeep.HomeOne", spec := "homeOne", apart := false }
def HomeOneSaid : Prop := homeOneRow.holds Try.pinned (OpenSpec.ofChange homeOneSpec)

/-- ITS FALSE NEIGHBOUR: 'it returns false'. Refute it at one input. -/
def homeOneWrong : ChangeSpec := { name := "homeOne", fn := fun _ => fun
  | [d1, d2, d3, d4] => { results := [.lit (.bool false)], args := [d1, d2, d3, d4] }
  | _ => none }
def HomeOneWrongFalsely : Prop := homeOneRow.holds Try.pinned (OpenSpec.ofChange homeOneWrong)

/-- 'reredoskeep.PurgeAll': WHATEVER THE INPUT: true; the input reads as it did. -/
def purgeAllSpec : ChangeSpec := { name := "purgeAll", fn := fun _ => fun
  | [d1, d2, d3] => { results := [.lit (.bool true)], args := [d1, d2, d3] }
  | _ => none }
def purgeAllRow : OpenClaim := { program := "ytccoiplnonfkgaa", sum := "3bc165e817dcc3c619826fd9873d24119d6dd200d625626d6af33a54ec08e43e", func := "reredos/reredoskeep.PurgeAll", spec := "purgeAll", recurses := true, apart := false }
def PurgeAllSaid : Prop := purgeAllRow.holds Try.pinned (OpenSpec.ofChange purgeAllSpec)

/-- ITS FALSE NEIGHBOUR: 'it returns false'. Refute it at one input. -/
def purgeAllWrong : ChangeSpec := { name := "purgeAll", fn := fun _ => fun
  | [d1, d2, d3] => { results := [.lit (.bool false)], args := [d1, d2, d3] }
  | _ => none }
def PurgeAllWrongFalsely : Prop := purgeAllRow.holds Try.pinned (OpenSpec.ofChange purgeAllWrong)

/-- 'reredoskeep.PurgeTwice': WHATEVER THE INPUT: true; the input reads as it did. -/
def purgeTwiceSpec : ChangeSpec := { name := "purgeTwice", fn := fun _ => fun
  | [d1, d2, d3, d4, d5] => { results := [.lit (.bool true)], args := [d1, d2, d3, d4, d5] }
  | _ => none }
def purgeTwiceRow : OpenClaim := { program := "ytccoiplnonfkgaa", sum := "3bc165e817dcc3c619826fd9873d24119d6dd200d625626d6af33a54ec08e43e", func := "reredos/reredoskeep.PurgeTwice", spec := "purgeTwice", recurses := true, apart := false }
def PurgeTwiceSaid : Prop := purgeTwiceRow.holds Try.pinned (OpenSpec.ofChange purgeTwiceSpec)

/-- ITS FALSE NEIGHBOUR: 'it returns false'. Refute it at one input. -/
def purgeTwiceWrong : ChangeSpec := { name := "purgeTwice", fn := fun _ => fun
  | [d1, d2, d3, d4, d5] => { results := [.lit (.bool false)], args := [d1, d2, d3, d4, d5] }
  | _ => none }
def PurgeTwiceWrongFalsely : Prop := purgeTwiceRow.holds Try.pinned (OpenSpec.ofChange purgeTwiceWrong)

/-- 'reredoskeep.PurgeMore': WHATEVER THE INPUT: true; the input reads as it did. -/
def purgeMoreSpec : ChangeSpec := { name := "purgeMore", fn := fun _ => fun
  | [d1, d2, d3, d4, d5, d6] => { results := [.lit (.bool true)], args := [d1, d2, d3, d4, d5, d6] }
  | _ => none }
def purgeMoreRow : OpenClaim := { program := "ytccoiplnonfkgaa", sum := "3bc165e817dcc3c619826fd9873d24119d6dd200d625626d6af33a54ec08e43e", func := "reredos/reredoskeep.PurgeMore", spec := "purgeMore", recurses := true, apart := false }
def PurgeMoreSaid : Prop := purgeMoreRow.holds Try.pinned (OpenSpec.ofChange purgeMoreSpec)

/-- ITS FALSE NEIGHBOUR: 'it returns false'. Refute it at one input. -/
def purgeMoreWrong : ChangeSpec := { name := "purgeMore", fn := fun _ => fun
  | [d1, d2, d3, d4, d5, d6] => { results := [.lit (.bool false)], args := [d1, d2, d3, d4, d5, d6] }
  | _ => none }
def PurgeMoreWrongFalsely : Prop := purgeMoreRow.holds Try.pinned (OpenSpec.ofChange purgeMoreWrong)

/- THE SECOND FORM. 'bulk': how many values and letters a reading holds, each counted each time it is reached (what is shared counts as often as it is met; a slice's spare places count too). A statement '..UptoSaid' is the law's where the arguments, and the package variables that the reading takes, are together of bulk at most 1048576: NARROWER than '..Said'. Prove '..Said' where nothing that the law and all that it calls make is longer than what came in: it says more and counts as full. Else prove '..UptoSaid'. A law counts once. -/
mutual
def uptoBulk {H : Type} : DataW H → Nat
  | .lit (.string bytes) => bytes.length + 1
  | .lit _ => 1
  | .nil => 1
  | .ptr d => uptoBulk d + 1
  | .slice elems spare => uptoBulkAll elems + uptoBulkAll spare + 1
  | .agg parts => uptoBulkAll parts + 1
  | .iface _ d => uptoBulk d + 1
  | .map entries => uptoBulkEntries entries + 1
  | .held _ => 1
def uptoBulkAll {H : Type} : List (DataW H) → Nat
  | [] => 0
  | d :: r => uptoBulk d + uptoBulkAll r
def uptoBulkEntries {H : Type} : List (Lit × DataW H) → Nat
  | [] => 0
  | x :: r => uptoBulkEntry x + uptoBulkEntries r
def uptoBulkEntry {H : Type} : Lit × DataW H → Nat
  | (.string bytes, d) => bytes.length + uptoBulk d + 1
  | (_, d) => uptoBulk d + 1
 end
def uptoSmall : (H : Type) → List (DataW H) → Bool := fun _ ds => decide (uptoBulkAll ds ≤ 1048576)
def OpenSpec.upto (s : _root_.Go.ChangeSpec) : _root_.Go.OpenSpec := { _root_.Go.OpenSpec.ofChange s with cond := some uptoSmall }

/-- 'reredoskeep.AboveOrder', WHERE WHAT IT READS IS OF BULK AT MOST 1048576: true; the input reads as it did. -/
def aboveOrderUptoRow : OpenClaim := { program := "ytccoiplnonfkgaa", sum := "3bc165e817dcc3c619826fd9873d24119d6dd200d625626d6af33a54ec08e43e", func := "reredos/reredoskeep.AboveOrder", spec := "aboveOrder", apart := false, narrowed := true }
def AboveOrderUptoSaid : Prop := aboveOrderUptoRow.holds Try.pinned (OpenSpec.upto aboveOrderSpec)

/-- 'reredoskeep.JoinLeast', WHERE WHAT IT READS IS OF BULK AT MOST 1048576: true; the input reads as it did. -/
def joinLeastUptoRow : OpenClaim := { program := "ytccoiplnonfkgaa", sum := "3bc165e817dcc3c619826fd9873d24119d6dd200d625626d6af33a54ec08e43e", func := "reredos/reredoskeep.JoinLeast", spec := "joinLeast", apart := false, narrowed := true }
def JoinLeastUptoSaid : Prop := joinLeastUptoRow.holds Try.pinned (OpenSpec.upto joinLeastSpec)

/-- 'reredoskeep.MeetMost', WHERE WHAT IT READS IS OF BULK AT MOST 1048576: true; the input reads as it did. -/
def meetMostUptoRow : OpenClaim := { program := "ytccoiplnonfkgaa", sum := "3bc165e817dcc3c619826fd9873d24119d6dd200d625626d6af33a54ec08e43e", func := "reredos/reredoskeep.MeetMost", spec := "meetMost", apart := false, narrowed := true }
def MeetMostUptoSaid : Prop := meetMostUptoRow.holds Try.pinned (OpenSpec.upto meetMostSpec)

/-- 'reredoskeep.ConfigGood', WHERE WHAT IT READS IS OF BULK AT MOST 1048576: true; the input reads as it did. -/
def configGoodUptoRow : OpenClaim := { program := "ytccoiplnonfkgaa", sum := "3bc165e817dcc3c619826fd9873d24119d6dd200d625626d6af33a54ec08e43e", func := "reredos/reredoskeep.ConfigGood", spec := "configGood", apart := false, narrowed := true }
def ConfigGoodUptoSaid : Prop := configGoodUptoRow.holds Try.pinned (OpenSpec.upto configGoodSpec)

/-- 'reredoskeep.HomeOne', WHERE WHAT IT READS IS OF BULK AT MOST 1048576: true; the input reads as it did. -/
def homeOneUptoRow : OpenClaim := { program := "ytccoiplnonfkgaa", sum := "3bc165e817dcc3c619826fd9873d24119d6dd200d625626d6af33a54ec08e43e", func := "reredos/reredoskeep.HomeOne", spec := "homeOne", apart := false, narrowed := true }
def HomeOneUptoSaid : Prop := homeOneUptoRow.holds Try.pinned (OpenSpec.upto homeOneSpec)

/-- 'reredoskeep.PurgeAll', WHERE WHAT IT READS IS OF BULK AT MOST 1048576: true; the input reads as it did. -/
def purgeAllUptoRow : OpenClaim := { program := "ytccoiplnonfkgaa", sum := "3bc165e817dcc3c619826fd9873d24119d6dd200d625626d6af33a54ec08e43e", func := "reredos/reredoskeep.PurgeAll", spec := "purgeAll", recurses := true, apart := false, narrowed := true }
def PurgeAllUptoSaid : Prop := purgeAllUptoRow.holds Try.pinned (OpenSpec.upto purgeAllSpec)

/-- 'reredoskeep.PurgeTwice', WHERE WHAT IT READS IS OF BULK AT MOST 1048576: true; the input reads as it did. -/
def purgeTwiceUptoRow : OpenClaim := { program := "ytccoiplnonfkgaa", sum := "3bc165e817dcc3c619826fd9873d24119d6dd200d625626d6af33a54ec08e43e", func := "reredos/reredoskeep.PurgeTwice", spec := "purgeTwice", recurses := true, apart := false, narrowed := true }
def PurgeTwiceUptoSaid : Prop := purgeTwiceUptoRow.holds Try.pinned (OpenSpec.upto purgeTwiceSpec)

/-- 'reredoskeep.PurgeMore', WHERE WHAT IT READS IS OF BULK AT MOST 1048576: true; the input reads as it did. -/
def purgeMoreUptoRow : OpenClaim := { program := "ytccoiplnonfkgaa", sum := "3bc165e817dcc3c619826fd9873d24119d6dd200d625626d6af33a54ec08e43e", func := "reredos/reredoskeep.PurgeMore", spec := "purgeMore", recurses := true, apart := false, narrowed := true }
def PurgeMoreUptoSaid : Prop := purgeMoreUptoRow.holds Try.pinned (OpenSpec.upto purgeMoreSpec)

end Rows
end Go.Proofs.Ytccoiplnonfkgaa
