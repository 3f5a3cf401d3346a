/-
  No cell of these rows narrows 'for every input' (looked for: loops, veiled, ifaces, maps, wideKeys, modest, calm, conditions, laid).
  DERIVED. THE GIVEN ROWS OF THIS SEAT. 12 by the template 'for every input the law returns true; each argument reads behind the call as it read before'; 0 by the template 'total and deterministic' (their statements: YtjilpdgpdpibkaaTotals.lean).
  GIVEN WITH THE SEED: the statements are not yours to turn. If you find one false, say at which input.
  Laid BY PROGRAM, IN A SANDBOX (cutbox-rows.mjs): the forced cells as the released guide's own fill.sh prints them over the translation 12ed9c824c9e3847… (all of the seat's roots in one cut). By AI agents, Wed Nov 11 2026. No macro, syntax, notation, axiom, sorry.
-/
import Derived.Test.YtjilpdgpdpibkaaChecked
import GoSem.Claim
import GoSem.ClaimJoined
import GoSem.ClaimMapViews
import Derived.JoinedTies
import Derived.KernelRfl
namespace Go.Proofs.Ytjilpdgpdpibkaa
/- THE CELL 'sum', in the pinned program and in every row, IS THE sha256 OF THE DUMP (.gsa) THAT YtjilpdgpdpibkaaProg.lean LOADS. Nothing in Lean hashes anything: it is a label: what it is worth is what the hold of that sum in a sandbox is worth. -/
noncomputable def Try.pinned : Pinned := { name := "ytjilpdgpdpibkaa", sum := "12ed9c824c9e384713a9ba7c2b695861e3af02a1a9d4b5013b70c9dab2fefa10", checked := Try.checked }
namespace Rows
def none {H : Type} : Left H := { results := [], args := [] }

/-- 'reredoskeep.AgeAsks': WHATEVER THE INPUT: true; the input reads as it did. -/
def ageAsksSpec : ChangeSpec := { name := "ageAsks", fn := fun _ => fun
  | [d1, d2] => { results := [.lit (.bool true)], args := [d1, d2] }
  | _ => none }
def ageAsksRow : OpenClaim := { program := "ytjilpdgpdpibkaa", sum := "12ed9c824c9e384713a9ba7c2b695861e3af02a1a9d4b5013b70c9dab2fefa10", func := "reredos/reredoskeep.AgeAsks", spec := "ageAsks", unfollowed := true, recurses := true, apart := false }
def AgeAsksSaid : Prop := ageAsksRow.holds Try.pinned (OpenSpec.ofChange ageAsksSpec)

/-- ITS FALSE NEIGHBOUR: 'it returns false'. Refute it at one input. -/
def ageAsksWrong : ChangeSpec := { name := "ageAsks", fn := fun _ => fun
  | [d1, d2] => { results := [.lit (.bool false)], args := [d1, d2] }
  | _ => none }
def AgeAsksWrongFalsely : Prop := ageAsksRow.holds Try.pinned (OpenSpec.ofChange ageAsksWrong)

/-- 'reredoskeep.StoreGood': WHATEVER THE INPUT: true; the input reads as it did. -/
def storeGoodSpec : ChangeSpec := { name := "storeGood", fn := fun _ => fun
  | [d] => { results := [.lit (.bool true)], args := [d] }
  | _ => none }
def storeGoodRow : OpenClaim := { program := "ytjilpdgpdpibkaa", sum := "12ed9c824c9e384713a9ba7c2b695861e3af02a1a9d4b5013b70c9dab2fefa10", func := "reredos/reredoskeep.StoreGood", spec := "storeGood", inPlace := ["slices.overlaps[reredos/api.Item]"], unfollowed := true, recurses := true, apart := false }
def StoreGoodSaid : Prop := storeGoodRow.holds Try.pinned (OpenSpec.ofChange storeGoodSpec)

/-- ITS FALSE NEIGHBOUR: 'it returns false'. Refute it at one input. -/
def storeGoodWrong : ChangeSpec := { name := "storeGood", fn := fun _ => fun
  | [d] => { results := [.lit (.bool false)], args := [d] }
  | _ => none }
def StoreGoodWrongFalsely : Prop := storeGoodRow.holds Try.pinned (OpenSpec.ofChange storeGoodWrong)

/-- 'reredoskeep.WriteLater': WHATEVER THE INPUT: true; the input reads as it did. -/
def writeLaterSpec : ChangeSpec := { name := "writeLater", fn := fun _ => fun
  | [d1, d2, d3, d4, d5, d6, d7] => { results := [.lit (.bool true)], args := [d1, d2, d3, d4, d5, d6, d7] }
  | _ => none }
def writeLaterRow : OpenClaim := { program := "ytjilpdgpdpibkaa", sum := "12ed9c824c9e384713a9ba7c2b695861e3af02a1a9d4b5013b70c9dab2fefa10", func := "reredos/reredoskeep.WriteLater", spec := "writeLater", inPlace := ["slices.overlaps[reredos/api.Item]"], unfollowed := true, recurses := true, apart := false }
def WriteLaterSaid : Prop := writeLaterRow.holds Try.pinned (OpenSpec.ofChange writeLaterSpec)

/-- ITS FALSE NEIGHBOUR: 'it returns false'. Refute it at one input. -/
def writeLaterWrong : ChangeSpec := { name := "writeLater", fn := fun _ => fun
  | [d1, d2, d3, d4, d5, d6, d7] => { results := [.lit (.bool false)], args := [d1, d2, d3, d4, d5, d6, d7] }
  | _ => none }
def WriteLaterWrongFalsely : Prop := writeLaterRow.holds Try.pinned (OpenSpec.ofChange writeLaterWrong)

/-- 'reredoskeep.EndOthers': WHATEVER THE INPUT: true; the input reads as it did. -/
def endOthersSpec : ChangeSpec := { name := "endOthers", fn := fun _ => fun
  | [d1, d2, d3, d4] => { results := [.lit (.bool true)], args := [d1, d2, d3, d4] }
  | _ => none }
def endOthersRow : OpenClaim := { program := "ytjilpdgpdpibkaa", sum := "12ed9c824c9e384713a9ba7c2b695861e3af02a1a9d4b5013b70c9dab2fefa10", func := "reredos/reredoskeep.EndOthers", spec := "endOthers", inPlace := ["slices.overlaps[reredos/api.Item]"], unfollowed := true, recurses := true, apart := false }
def EndOthersSaid : Prop := endOthersRow.holds Try.pinned (OpenSpec.ofChange endOthersSpec)

/-- ITS FALSE NEIGHBOUR: 'it returns false'. Refute it at one input. -/
def endOthersWrong : ChangeSpec := { name := "endOthers", fn := fun _ => fun
  | [d1, d2, d3, d4] => { results := [.lit (.bool false)], args := [d1, d2, d3, d4] }
  | _ => none }
def EndOthersWrongFalsely : Prop := endOthersRow.holds Try.pinned (OpenSpec.ofChange endOthersWrong)

/-- 'reredoskeep.EndApplies': WHATEVER THE INPUT: true; the input reads as it did. -/
def endAppliesSpec : ChangeSpec := { name := "endApplies", fn := fun _ => fun
  | [d1, d2, d3, d4, d5] => { results := [.lit (.bool true)], args := [d1, d2, d3, d4, d5] }
  | _ => none }
def endAppliesRow : OpenClaim := { program := "ytjilpdgpdpibkaa", sum := "12ed9c824c9e384713a9ba7c2b695861e3af02a1a9d4b5013b70c9dab2fefa10", func := "reredos/reredoskeep.EndApplies", spec := "endApplies", inPlace := ["slices.overlaps[reredos/api.Item]"], unfollowed := true, recurses := true, apart := false }
def EndAppliesSaid : Prop := endAppliesRow.holds Try.pinned (OpenSpec.ofChange endAppliesSpec)

/-- ITS FALSE NEIGHBOUR: 'it returns false'. Refute it at one input. -/
def endAppliesWrong : ChangeSpec := { name := "endApplies", fn := fun _ => fun
  | [d1, d2, d3, d4, d5] => { results := [.lit (.bool false)], args := [d1, d2, d3, d4, d5] }
  | _ => none }
def EndAppliesWrongFalsely : Prop := endAppliesRow.holds Try.pinned (OpenSpec.ofChange endAppliesWrong)

/-- 'reredoskeep.PeekNothing': WHATEVER THE INPUT: true; the input reads as it did. -/
def peekNothingSpec : ChangeSpec := { name := "peekNothing", fn := fun _ => fun
  | [d1, d2, d3] => { results := [.lit (.bool true)], args := [d1, d2, d3] }
  | _ => none }
def peekNothingRow : OpenClaim := { program := "ytjilpdgpdpibkaa", sum := "12ed9c824c9e384713a9ba7c2b695861e3af02a1a9d4b5013b70c9dab2fefa10", func := "reredos/reredoskeep.PeekNothing", spec := "peekNothing", inPlace := ["slices.overlaps[reredos/api.Item]"], unfollowed := true, recurses := true, apart := false }
def PeekNothingSaid : Prop := peekNothingRow.holds Try.pinned (OpenSpec.ofChange peekNothingSpec)

/-- ITS FALSE NEIGHBOUR: 'it returns false'. Refute it at one input. -/
def peekNothingWrong : ChangeSpec := { name := "peekNothing", fn := fun _ => fun
  | [d1, d2, d3] => { results := [.lit (.bool false)], args := [d1, d2, d3] }
  | _ => none }
def PeekNothingWrongFalsely : Prop := peekNothingRow.holds Try.pinned (OpenSpec.ofChange peekNothingWrong)

/-- 'reredoskeep.EndAll': WHATEVER THE INPUT: true; the input reads as it did. -/
def endAllSpec : ChangeSpec := { name := "endAll", fn := fun _ => fun
  | [d1, d2, d3, d4] => { results := [.lit (.bool true)], args := [d1, d2, d3, d4] }
  | _ => none }
def endAllRow : OpenClaim := { program := "ytjilpdgpdpibkaa", sum := "12ed9c824c9e384713a9ba7c2b695861e3af02a1a9d4b5013b70c9dab2fefa10", func := "reredos/reredoskeep.EndAll", spec := "endAll", inPlace := ["slices.overlaps[reredos/api.Item]"], unfollowed := true, recurses := true, apart := false }
def EndAllSaid : Prop := endAllRow.holds Try.pinned (OpenSpec.ofChange endAllSpec)

/-- ITS FALSE NEIGHBOUR: 'it returns false'. Refute it at one input. -/
def endAllWrong : ChangeSpec := { name := "endAll", fn := fun _ => fun
  | [d1, d2, d3, d4] => { results := [.lit (.bool false)], args := [d1, d2, d3, d4] }
  | _ => none }
def EndAllWrongFalsely : Prop := endAllRow.holds Try.pinned (OpenSpec.ofChange endAllWrong)

/-- 'reredoskeep.ForgetReads': WHATEVER THE INPUT: true; the input reads as it did. -/
def forgetReadsSpec : ChangeSpec := { name := "forgetReads", fn := fun _ => fun
  | [d] => { results := [.lit (.bool true)], args := [d] }
  | _ => none }
def forgetReadsRow : OpenClaim := { program := "ytjilpdgpdpibkaa", sum := "12ed9c824c9e384713a9ba7c2b695861e3af02a1a9d4b5013b70c9dab2fefa10", func := "reredos/reredoskeep.ForgetReads", spec := "forgetReads", inPlace := ["slices.overlaps[reredos/api.Item]"], unfollowed := true, recurses := true, apart := false }
def ForgetReadsSaid : Prop := forgetReadsRow.holds Try.pinned (OpenSpec.ofChange forgetReadsSpec)

/-- ITS FALSE NEIGHBOUR: 'it returns false'. Refute it at one input. -/
def forgetReadsWrong : ChangeSpec := { name := "forgetReads", fn := fun _ => fun
  | [d] => { results := [.lit (.bool false)], args := [d] }
  | _ => none }
def ForgetReadsWrongFalsely : Prop := forgetReadsRow.holds Try.pinned (OpenSpec.ofChange forgetReadsWrong)

/-- 'reredoskeep.ReadTells': WHATEVER THE INPUT: true; the input reads as it did. -/
def readTellsSpec : ChangeSpec := { name := "readTells", fn := fun _ => fun
  | [d1, d2, d3] => { results := [.lit (.bool true)], args := [d1, d2, d3] }
  | _ => none }
def readTellsRow : OpenClaim := { program := "ytjilpdgpdpibkaa", sum := "12ed9c824c9e384713a9ba7c2b695861e3af02a1a9d4b5013b70c9dab2fefa10", func := "reredos/reredoskeep.ReadTells", spec := "readTells", inPlace := ["slices.overlaps[reredos/api.Item]"], unfollowed := true, recurses := true, apart := false }
def ReadTellsSaid : Prop := readTellsRow.holds Try.pinned (OpenSpec.ofChange readTellsSpec)

/-- ITS FALSE NEIGHBOUR: 'it returns false'. Refute it at one input. -/
def readTellsWrong : ChangeSpec := { name := "readTells", fn := fun _ => fun
  | [d1, d2, d3] => { results := [.lit (.bool false)], args := [d1, d2, d3] }
  | _ => none }
def ReadTellsWrongFalsely : Prop := readTellsRow.holds Try.pinned (OpenSpec.ofChange readTellsWrong)

/-- 'reredoskeep.WriteAlone': WHATEVER THE INPUT: true; the input reads as it did. -/
def writeAloneSpec : ChangeSpec := { name := "writeAlone", fn := fun _ => fun
  | [d1, d2, d3, d4, d5] => { results := [.lit (.bool true)], args := [d1, d2, d3, d4, d5] }
  | _ => none }
def writeAloneRow : OpenClaim := { program := "ytjilpdgpdpibkaa", sum := "12ed9c824c9e384713a9ba7c2b695861e3af02a1a9d4b5013b70c9dab2fefa10", func := "reredos/reredoskeep.WriteAlone", spec := "writeAlone", inPlace := ["slices.overlaps[reredos/api.Item]"], unfollowed := true, recurses := true, apart := false }
def WriteAloneSaid : Prop := writeAloneRow.holds Try.pinned (OpenSpec.ofChange writeAloneSpec)

/-- ITS FALSE NEIGHBOUR: 'it returns false'. Refute it at one input. -/
def writeAloneWrong : ChangeSpec := { name := "writeAlone", fn := fun _ => fun
  | [d1, d2, d3, d4, d5] => { results := [.lit (.bool false)], args := [d1, d2, d3, d4, d5] }
  | _ => none }
def WriteAloneWrongFalsely : Prop := writeAloneRow.holds Try.pinned (OpenSpec.ofChange writeAloneWrong)

/-- 'reredoskeep.ForceOnce': WHATEVER THE INPUT: true; the input reads as it did. -/
def forceOnceSpec : ChangeSpec := { name := "forceOnce", fn := fun _ => fun
  | [d1, d2, d3] => { results := [.lit (.bool true)], args := [d1, d2, d3] }
  | _ => none }
def forceOnceRow : OpenClaim := { program := "ytjilpdgpdpibkaa", sum := "12ed9c824c9e384713a9ba7c2b695861e3af02a1a9d4b5013b70c9dab2fefa10", func := "reredos/reredoskeep.ForceOnce", spec := "forceOnce", inPlace := ["slices.overlaps[reredos/api.Item]"], unfollowed := true, recurses := true, apart := false }
def ForceOnceSaid : Prop := forceOnceRow.holds Try.pinned (OpenSpec.ofChange forceOnceSpec)

/-- ITS FALSE NEIGHBOUR: 'it returns false'. Refute it at one input. -/
def forceOnceWrong : ChangeSpec := { name := "forceOnce", fn := fun _ => fun
  | [d1, d2, d3] => { results := [.lit (.bool false)], args := [d1, d2, d3] }
  | _ => none }
def ForceOnceWrongFalsely : Prop := forceOnceRow.holds Try.pinned (OpenSpec.ofChange forceOnceWrong)

/-- 'reredoskeep.PartAsks': WHATEVER THE INPUT: true; the input reads as it did. -/
def partAsksSpec : ChangeSpec := { name := "partAsks", fn := fun _ => fun
  | [d1, d2, d3] => { results := [.lit (.bool true)], args := [d1, d2, d3] }
  | _ => none }
def partAsksRow : OpenClaim := { program := "ytjilpdgpdpibkaa", sum := "12ed9c824c9e384713a9ba7c2b695861e3af02a1a9d4b5013b70c9dab2fefa10", func := "reredos/reredoskeep.PartAsks", spec := "partAsks", inPlace := ["slices.overlaps[reredos/api.Item]"], unfollowed := true, recurses := true, apart := false }
def PartAsksSaid : Prop := partAsksRow.holds Try.pinned (OpenSpec.ofChange partAsksSpec)

/-- ITS FALSE NEIGHBOUR: 'it returns false'. Refute it at one input. -/
def partAsksWrong : ChangeSpec := { name := "partAsks", fn := fun _ => fun
  | [d1, d2, d3] => { results := [.lit (.bool false)], args := [d1, d2, d3] }
  | _ => none }
def PartAsksWrongFalsely : Prop := partAsksRow.holds Try.pinned (OpenSpec.ofChange partAsksWrong)

/- THE SECOND FORM. 'bulk': how many values and letters a reading holds, each counted each time it is reached (what is shared counts as often as it is met; a slice's spare places count too). A statement '..UptoSaid' is the law's where the arguments, and the package variables that the reading takes, are together of bulk at most 1048576: NARROWER than '..Said'. Prove '..Said' where nothing that the law and all that it calls make is longer than what came in: it says more and counts as full. Else prove '..UptoSaid'. A law counts once. -/
mutual
def uptoBulk {H : Type} : DataW H → Nat
  | .lit (.string bytes) => bytes.length + 1
  | .lit _ => 1
  | .nil => 1
  | .ptr d => uptoBulk d + 1
  | .slice elems spare => uptoBulkAll elems + uptoBulkAll spare + 1
  | .agg parts => uptoBulkAll parts + 1
  | .iface _ d => uptoBulk d + 1
  | .map entries => uptoBulkEntries entries + 1
  | .held _ => 1
def uptoBulkAll {H : Type} : List (DataW H) → Nat
  | [] => 0
  | d :: r => uptoBulk d + uptoBulkAll r
def uptoBulkEntries {H : Type} : List (Lit × DataW H) → Nat
  | [] => 0
  | x :: r => uptoBulkEntry x + uptoBulkEntries r
def uptoBulkEntry {H : Type} : Lit × DataW H → Nat
  | (.string bytes, d) => bytes.length + uptoBulk d + 1
  | (_, d) => uptoBulk d + 1
 end
def uptoSmall : (H : Type) → List (DataW H) → Bool := fun _ ds => decide (uptoBulkAll ds ≤ 1048576)
def OpenSpec.upto (s : _root_.Go.ChangeSpec) : _root_.Go.OpenSpec := { _root_.Go.OpenSpec.ofChange s with cond := some uptoSmall }

/-- 'reredoskeep.AgeAsks', WHERE WHAT IT READS IS OF BULK AT MOST 1048576: true; the input reads as it did. -/
def ageAsksUptoRow : OpenClaim := { program := "ytjilpdgpdpibkaa", sum := "12ed9c824c9e384713a9ba7c2b695861e3af02a1a9d4b5013b70c9dab2fefa10", func := "reredos/reredoskeep.AgeAsks", spec := "ageAsks", unfollowed := true, recurses := true, apart := false, narrowed := true }
def AgeAsksUptoSaid : Prop := ageAsksUptoRow.holds Try.pinned (OpenSpec.upto ageAsksSpec)

/-- 'reredoskeep.StoreGood', WHERE WHAT IT READS IS OF BULK AT MOST 1048576: true; the input reads as it did. -/
def storeGoodUptoRow : OpenClaim := { program := "ytjilpdgpdpibkaa", sum := "12ed9c824c9e384713a9ba7c2b695861e3af02a1a9d4b5013b70c9dab2fefa10", func := "reredos/reredoskeep.StoreGood", spec := "storeGood", inPlace := ["slices.overlaps[reredos/api.Item]"], unfollowed := true, recurses := true, apart := false, narrowed := true }
def StoreGoodUptoSaid : Prop := storeGoodUptoRow.holds Try.pinned (OpenSpec.upto storeGoodSpec)

/-- 'reredoskeep.WriteLater', WHERE WHAT IT READS IS OF BULK AT MOST 1048576: true; the input reads as it did. -/
def writeLaterUptoRow : OpenClaim := { program := "ytjilpdgpdpibkaa", sum := "12ed9c824c9e384713a9ba7c2b695861e3af02a1a9d4b5013b70c9dab2fefa10", func := "reredos/reredoskeep.WriteLater", spec := "writeLater", inPlace := ["slices.overlaps[reredos/api.Item]"], unfollowed := true, recurses := true, apart := false, narrowed := true }
def WriteLaterUptoSaid : Prop := writeLaterUptoRow.holds Try.pinned (OpenSpec.upto writeLaterSpec)

/-- 'reredoskeep.EndOthers', WHERE WHAT IT READS IS OF BULK AT MOST 1048576: true; the input reads as it did. -/
def endOthersUptoRow : OpenClaim := { program := "ytjilpdgpdpibkaa", sum := "12ed9c824c9e384713a9ba7c2b695861e3af02a1a9d4b5013b70c9dab2fefa10", func := "reredos/reredoskeep.EndOthers", spec := "endOthers", inPlace := ["slices.overlaps[reredos/api.Item]"], unfollowed := true, recurses := true, apart := false, narrowed := true }
def EndOthersUptoSaid : Prop := endOthersUptoRow.holds Try.pinned (OpenSpec.upto endOthersSpec)

/-- 'reredoskeep.EndApplies', WHERE WHAT IT READS IS OF BULK AT MOST 1048576: true; the input reads as it did. -/
def endAppliesUptoRow : OpenClaim := { program := "ytjilpdgpdpibkaa", sum := "12ed9c824c9e384713a9ba7c2b695861e3af02a1a9d4b5013b70c9dab2fefa10", func := "reredos/reredoskeep.EndApplies", spec := "endApplies", inPlace := ["slices.overlaps[reredos/api.Item]"], unfollowed := true, recurses := true, apart := false, narrowed := true }
def EndAppliesUptoSaid : Prop := endAppliesUptoRow.holds Try.pinned (OpenSpec.upto endAppliesSpec)

/-- 'reredoskeep.PeekNothing', WHERE WHAT IT READS IS OF BULK AT MOST 1048576: true; the input reads as it did. -/
def peekNothingUptoRow : OpenClaim := { program := "ytjilpdgpdpibkaa", sum := "12ed9c824c9e384713a9ba7c2b695861e3af02a1a9d4b5013b70c9dab2fefa10", func := "reredos/reredoskeep.PeekNothing", spec := "peekNothing", inPlace := ["slices.overlaps[reredos/api.Item]"], unfollowed := true, recurses := true, apart := false, narrowed := true }
def PeekNothingUptoSaid : Prop := peekNothingUptoRow.holds Try.pinned (OpenSpec.upto peekNothingSpec)

/-- 'reredoskeep.EndAll', WHERE WHAT IT READS IS OF BULK AT MOST 1048576: true; the input reads as it did. -/
def endAllUptoRow : OpenClaim := { program := "ytjilpdgpdpibkaa", sum := "12ed9c824c9e384713a9ba7c2b695861e3af02a1a9d4b5013b70c9dab2fefa10", func := "reredos/reredoskeep.EndAll", spec := "endAll", inPlace := ["slices.overlaps[reredos/api.Item]"], unfollowed := true, recurses := true, apart := false, narrowed := true }
def EndAllUptoSaid : Prop := endAllUptoRow.holds Try.pinned (OpenSpec.upto endAllSpec)

/-- 'reredoskeep.ForgetReads', WHERE WHAT IT READS IS OF BULK AT MOST 1048576: true; the input reads as it did. -/
def forgetReadsUptoRow : OpenClaim := { program := "ytjilpdgpdpibkaa", sum := "12ed9c824c9e384713a9ba7c2b695861e3af02a1a9d4b5013b70c9dab2fefa10", func := "reredos/reredoskeep.ForgetReads", spec := "forgetReads", inPlace := ["slices.overlaps[reredos/api.Item]"], unfollowed := true, recurses := true, apart := false, narrowed := true }
def ForgetReadsUptoSaid : Prop := forgetReadsUptoRow.holds Try.pinned (OpenSpec.upto forgetReadsSpec)

/-- 'reredoskeep.ReadTells', WHERE WHAT IT READS IS OF BULK AT MOST 1048576: true; the input reads as it did. -/
def readTellsUptoRow : OpenClaim := { program := "ytjilpdgpdpibkaa", sum := "12ed9c824c9e384713a9ba7c2b695861e3af02a1a9d4b5013b70c9dab2fefa10", func := "reredos/reredoskeep.ReadTells", spec := "readTells", inPlace := ["slices.overlaps[reredos/api.Item]"], unfollowed := true, recurses := true, apart := false, narrowed := true }
def ReadTellsUptoSaid : Prop := readTellsUptoRow.holds Try.pinned (OpenSpec.upto readTellsSpec)

/-- 'reredoskeep.WriteAlone', WHERE WHAT IT READS IS OF BULK AT MOST 1048576: true; the input reads as it did. -/
def writeAloneUptoRow : OpenClaim := { program := "ytjilpdgpdpibkaa", sum := "12ed9c824c9e384713a9ba7c2b695861e3af02a1a9d4b5013b70c9dab2fefa10", func := "reredos/reredoskeep.WriteAlone", spec := "writeAlone", inPlace := ["slices.overlaps[reredos/api.Item]"], unfollowed := true, recurses := true, apart := false, narrowed := true }
def WriteAloneUptoSaid : Prop := writeAloneUptoRow.holds Try.pinned (OpenSpec.upto writeAloneSpec)

/-- 'reredoskeep.ForceOnce', WHERE WHAT IT READS IS OF BULK AT MOST 1048576: true; the input reads as it did. -/
def forceOnceUptoRow : OpenClaim := { program := "ytjilpdgpdpibkaa", sum := "12ed9c824c9e384713a9ba7c2b695861e3af02a1a9d4b5013b70c9dab2fefa10", func := "reredos/reredoskeep.ForceOnce", spec := "forceOnce", inPlace := ["slices.overlaps[reredos/api.Item]"], unfollowed := true, recurses := true, apart := false, narrowed := true }
def ForceOnceUptoSaid : Prop := forceOnceUptoRow.holds Try.pinned (OpenSpec.upto forceOnceSpec)

/-- 'reredoskeep.PartAsks', WHERE WHAT IT READS IS OF BULK AT MOST 1048576: true; the input reads as it did. -/
def partAsksUptoRow : OpenClaim := { program := "ytjilpdgpdpibkaa", sum := "12ed9c824c9e384713a9ba7c2b695861e3af02a1a9d4b5013b70c9dab2fefa10", func := "reredos/reredoskeep.PartAsks", spec := "partAsks", inPlace := ["slices.overlaps[reredos/api.Item]"], unfollowed := true, recurses := true, apart := false, narrowed := true }
def PartAsksUptoSaid : Prop := partAsksUptoRow.holds Try.pinned (OpenSpec.upto partAsksSpec)

end Rows
end Go.Proofs.Ytjilpdgpdpibkaa
