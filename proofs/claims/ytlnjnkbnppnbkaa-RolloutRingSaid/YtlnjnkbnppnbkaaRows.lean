/-
  No cell of these rows narrows 'for every input' (looked for: loops, veiled, ifaces, maps, wideKeys, modest, calm, conditions, laid).
  DERIVED. THE GIVEN ROWS OF THIS SEAT. 10 by the template 'for every input the law returns true; each argument reads behind the call as it read before'; 0 by the template 'total and deterministic' (their statements: YtlnjnkbnppnbkaaTotals.lean).
  GIVEN WITH THE SEED: the statements are not yours to turn. If you find one false, say at which input.
  Laid BY PROGRAM, IN A SANDBOX (cutbox-rows.mjs): the forced cells as the released guide's own fill.sh prints them over the translation 01a2040143001162… (all of the seat's roots in one cut). By AI agents, Wed Nov 11 2026. No macro, syntax, notation, axiom, sorry.
-/
import Derived.Test.YtlnjnkbnppnbkaaChecked
import GoSem.Claim
import GoSem.ClaimJoined
import GoSem.ClaimMapViews
import Derived.JoinedTies
import Derived.KernelRfl
namespace Go.Proofs.Ytlnjnkbnppnbkaa
/- THE CELL 'sum', in the pinned program and in every row, IS THE sha256 OF THE DUMP (.gsa) THAT YtlnjnkbnppnbkaaProg.lean LOADS. Nothing in Lean hashes anything: it is a label: what it is worth is what the hold of that sum in a sandbox is worth. -/
noncomputable def Try.pinned : Pinned := { name := "ytlnjnkbnppnbkaa", sum := "01a2040143001162206a6961e1ea8f454f1999385fa40195061cba861422e6ce", checked := Try.checked }
namespace Rows
def none {H : Type} : Left H := { results := [], args := [] }

/-- 'chapletlaw15.PurgeData': WHATEVER THE INPUT: true; the input reads as it did. -/
def purgeDataSpec : ChangeSpec := { name := "purgeData", fn := fun _ => fun
  | [d1, d2, d3, d4] => { results := [.lit (.bool true)], args := [d1, d2, d3, d4] }
  | _ => none }
def purgeDataRow : OpenClaim := { program := "ytlnjnkbnppnbkaa", sum := "01a2040143001162206a6961e1ea8f454f1999385fa40195061cba861422e6ce", func := "chaplet/chapletlaw15.PurgeData", spec := "purgeData", unfollowed := true, recurses := true, apart := false }
def PurgeDataSaid : Prop := purgeDataRow.holds Try.pinned (OpenSpec.ofChange purgeDataSpec)

/-- ITS FALSE NEIGHBOUR: 'it returns false'. Refute it at one input. -/
def purgeDataWrong : ChangeSpec := { name := "purgeData", fn := fun _ => fun
  | [d1, d2, d3, d4] => { results := [.lit (.bool false)], args := [d1, d2, d3, d4] }
  | _ => none }
def PurgeDataWrongFalsely : Prop := purgeDataRow.holds Try.pinned (OpenSpec.ofChange purgeDataWrong)

/-- 'chapletlaw15.PurgeOther': WHATEVER THE INPUT: true; the input reads as it did. -/
def purgeOtherSpec : ChangeSpec := { name := "purgeOther", fn := fun _ => fun
  | [d1, d2] => { results := [.lit (.bool true)], args := [d1, d2] }
  | _ => none }
def purgeOtherRow : OpenClaim := { program := "ytlnjnkbnppnbkaa", sum := "01a2040143001162206a6961e1ea8f454f1999385fa40195061cba861422e6ce", func := "chaplet/chapletlaw15.PurgeOther", spec := "purgeOther", unfollowed := true, recurses := true, apart := false }
def PurgeOtherSaid : Prop := purgeOtherRow.holds Try.pinned (OpenSpec.ofChange purgeOtherSpec)

/-- ITS FALSE NEIGHBOUR: 'it returns false'. Refute it at one input. -/
def purgeOtherWrong : ChangeSpec := { name := "purgeOther", fn := fun _ => fun
  | [d1, d2] => { results := [.lit (.bool false)], args := [d1, d2] }
  | _ => none }
def PurgeOtherWrongFalsely : Prop := purgeOtherRow.holds Try.pinned (OpenSpec.ofChange purgeOtherWrong)

/-- 'chapletlaw14.AttachReads': WHATEVER THE INPUT: true; the input reads as it did. -/
def attachReadsSpec : ChangeSpec := { name := "attachReads", fn := fun _ => fun
  | [d1, d2, d3, d4, d5, d6, d7, d8] => { results := [.lit (.bool true)], args := [d1, d2, d3, d4, d5, d6, d7, d8] }
  | _ => none }
def attachReadsRow : OpenClaim := { program := "ytlnjnkbnppnbkaa", sum := "01a2040143001162206a6961e1ea8f454f1999385fa40195061cba861422e6ce", func := "chaplet/chapletlaw14.AttachReads", spec := "attachReads", unfollowed := true, recurses := true, apart := false }
def AttachReadsSaid : Prop := attachReadsRow.holds Try.pinned (OpenSpec.ofChange attachReadsSpec)

/-- ITS FALSE NEIGHBOUR: 'it returns false'. Refute it at one input. -/
def attachReadsWrong : ChangeSpec := { name := "attachReads", fn := fun _ => fun
  | [d1, d2, d3, d4, d5, d6, d7, d8] => { results := [.lit (.bool false)], args := [d1, d2, d3, d4, d5, d6, d7, d8] }
  | _ => none }
def AttachReadsWrongFalsely : Prop := attachReadsRow.holds Try.pinned (OpenSpec.ofChange attachReadsWrong)

/-- 'chapletlaw15.PurgeAlone': WHATEVER THE INPUT: true; the input reads as it did. -/
def purgeAloneSpec : ChangeSpec := { name := "purgeAlone", fn := fun _ => fun
  | [d1, d2, d3] => { results := [.lit (.bool true)], args := [d1, d2, d3] }
  | _ => none }
def purgeAloneRow : OpenClaim := { program := "ytlnjnkbnppnbkaa", sum := "01a2040143001162206a6961e1ea8f454f1999385fa40195061cba861422e6ce", func := "chaplet/chapletlaw15.PurgeAlone", spec := "purgeAlone", unfollowed := true, recurses := true, apart := false }
def PurgeAloneSaid : Prop := purgeAloneRow.holds Try.pinned (OpenSpec.ofChange purgeAloneSpec)

/-- ITS FALSE NEIGHBOUR: 'it returns false'. Refute it at one input. -/
def purgeAloneWrong : ChangeSpec := { name := "purgeAlone", fn := fun _ => fun
  | [d1, d2, d3] => { results := [.lit (.bool false)], args := [d1, d2, d3] }
  | _ => none }
def PurgeAloneWrongFalsely : Prop := purgeAloneRow.holds Try.pinned (OpenSpec.ofChange purgeAloneWrong)

/-- 'chapletlaw15.PurgeWalks': WHATEVER THE INPUT: true; the input reads as it did. -/
def purgeWalksSpec : ChangeSpec := { name := "purgeWalks", fn := fun _ => fun
  | [d1, d2, d3, d4] => { results := [.lit (.bool true)], args := [d1, d2, d3, d4] }
  | _ => none }
def purgeWalksRow : OpenClaim := { program := "ytlnjnkbnppnbkaa", sum := "01a2040143001162206a6961e1ea8f454f1999385fa40195061cba861422e6ce", func := "chaplet/chapletlaw15.PurgeWalks", spec := "purgeWalks", unfollowed := true, recurses := true, apart := false }
def PurgeWalksSaid : Prop := purgeWalksRow.holds Try.pinned (OpenSpec.ofChange purgeWalksSpec)

/-- ITS FALSE NEIGHBOUR: 'it returns false'. Refute it at one input. -/
def purgeWalksWrong : ChangeSpec := { name := "purgeWalks", fn := fun _ => fun
  | [d1, d2, d3, d4] => { results := [.lit (.bool false)], args := [d1, d2, d3, d4] }
  | _ => none }
def PurgeWalksWrongFalsely : Prop := purgeWalksRow.holds Try.pinned (OpenSpec.ofChange purgeWalksWrong)

/-- 'chapletlaw16.RolloutLeaves': WHATEVER THE INPUT: true; the input reads as it did. -/
def rolloutLeavesSpec : ChangeSpec := { name := "rolloutLeaves", fn := fun _ => fun
  | [d1, d2, d3, d4, d5, d6] => { results := [.lit (.bool true)], args := [d1, d2, d3, d4, d5, d6] }
  | _ => none }
def rolloutLeavesRow : OpenClaim := { program := "ytlnjnkbnppnbkaa", sum := "01a2040143001162206a6961e1ea8f454f1999385fa40195061cba861422e6ce", func := "chaplet/chapletlaw16.RolloutLeaves", spec := "rolloutLeaves", unfollowed := true, recurses := true, apart := false }
def RolloutLeavesSaid : Prop := rolloutLeavesRow.holds Try.pinned (OpenSpec.ofChange rolloutLeavesSpec)

/-- ITS FALSE NEIGHBOUR: 'it returns false'. Refute it at one input. -/
def rolloutLeavesWrong : ChangeSpec := { name := "rolloutLeaves", fn := fun _ => fun
  | [d1, d2, d3, d4, d5, d6] => { results := [.lit (.bool false)], args := [d1, d2, d3, d4, d5, d6] }
  | _ => none }
def RolloutLeavesWrongFalsely : Prop := rolloutLeavesRow.holds Try.pinned (OpenSpec.ofChange rolloutLeavesWrong)

/-- 'chapletlaw16.RolloutPurged': WHATEVER THE INPUT: true; the input reads as it did. -/
def rolloutPurgedSpec : ChangeSpec := { name := "rolloutPurged", fn := fun _ => fun
  | [d1, d2, d3, d4, d5] => { results := [.lit (.bool true)], args := [d1, d2, d3, d4, d5] }
  | _ => none }
def rolloutPurgedRow : OpenClaim := { program := "ytlnjnkbnppnbkaa", sum := "01a2040143001162206a6961e1ea8f454f1999385fa40195061cba861422e6ce", func := "chaplet/chapletlaw16.RolloutPurged", spec := "rolloutPurged", unfollowed := true, recurses := true, apart := false }
def RolloutPurgedSaid : Prop := rolloutPurgedRow.holds Try.pinned (OpenSpec.ofChange rolloutPurgedSpec)

/-- ITS FALSE NEIGHBOUR: 'it returns false'. Refute it at one input. -/
def rolloutPurgedWrong : ChangeSpec := { name := "rolloutPurged", fn := fun _ => fun
  | [d1, d2, d3, d4, d5] => { results := [.lit (.bool false)], args := [d1, d2, d3, d4, d5] }
  | _ => none }
def RolloutPurgedWrongFalsely : Prop := rolloutPurgedRow.holds Try.pinned (OpenSpec.ofChange rolloutPurgedWrong)

/-- 'chapletlaw16.RolloutOther': WHATEVER THE INPUT: true; the input reads as it did. -/
def rolloutOtherSpec : ChangeSpec := { name := "rolloutOther", fn := fun _ => fun
  | [d1, d2] => { results := [.lit (.bool true)], args := [d1, d2] }
  | _ => none }
def rolloutOtherRow : OpenClaim := { program := "ytlnjnkbnppnbkaa", sum := "01a2040143001162206a6961e1ea8f454f1999385fa40195061cba861422e6ce", func := "chaplet/chapletlaw16.RolloutOther", spec := "rolloutOther", unfollowed := true, recurses := true, apart := false }
def RolloutOtherSaid : Prop := rolloutOtherRow.holds Try.pinned (OpenSpec.ofChange rolloutOtherSpec)

/-- ITS FALSE NEIGHBOUR: 'it returns false'. Refute it at one input. -/
def rolloutOtherWrong : ChangeSpec := { name := "rolloutOther", fn := fun _ => fun
  | [d1, d2] => { results := [.lit (.bool false)], args := [d1, d2] }
  | _ => none }
def RolloutOtherWrongFalsely : Prop := rolloutOtherRow.holds Try.pinned (OpenSpec.ofChange rolloutOtherWrong)

/-- 'chapletlaw14.AttachChain': WHATEVER THE INPUT: true; the input reads as it did. -/
def attachChainSpec : ChangeSpec := { name := "attachChain", fn := fun _ => fun
  | [d1, d2, d3] => { results := [.lit (.bool true)], args := [d1, d2, d3] }
  | _ => none }
def attachChainRow : OpenClaim := { program := "ytlnjnkbnppnbkaa", sum := "01a2040143001162206a6961e1ea8f454f1999385fa40195061cba861422e6ce", func := "chaplet/chapletlaw14.AttachChain", spec := "attachChain", unfollowed := true, recurses := true, apart := false }
def AttachChainSaid : Prop := attachChainRow.holds Try.pinned (OpenSpec.ofChange attachChainSpec)

/-- ITS FALSE NEIGHBOUR: 'it returns false'. Refute it at one input. -/
def attachChainWrong : ChangeSpec := { name := "attachChain", fn := fun _ => fun
  | [d1, d2, d3] => { results := [.lit (.bool false)], args := [d1, d2, d3] }
  | _ => none }
def AttachChainWrongFalsely : Prop := attachChainRow.holds Try.pinned (OpenSpec.ofChange attachChainWrong)

/-- 'chapletlaw16.RolloutRing': WHATEVER THE INPUT: true; the input reads as it did. -/
def rolloutRingSpec : ChangeSpec := { name := "rolloutRing", fn := fun _ => fun
  | [d1, d2, d3] => { results := [.lit (.bool true)], args := [d1, d2, d3] }
  | _ => none }
def rolloutRingRow : OpenClaim := { program := "ytlnjnkbnppnbkaa", sum := "01a2040143001162206a6961e1ea8f454f1999385fa40195061cba861422e6ce", func := "chaplet/chapletlaw16.RolloutRing", spec := "rolloutRing", unfollowed := true, recurses := true, apart := false }
def RolloutRingSaid : Prop := rolloutRingRow.holds Try.pinned (OpenSpec.ofChange rolloutRingSpec)

/-- ITS FALSE NEIGHBOUR: 'it returns false'. Refute it at one input. -/
def rolloutRingWrong : ChangeSpec := { name := "rolloutRing", fn := fun _ => fun
  | [d1, d2, d3] => { results := [.lit (.bool false)], args := [d1, d2, d3] }
  | _ => none }
def RolloutRingWrongFalsely : Prop := rolloutRingRow.holds Try.pinned (OpenSpec.ofChange rolloutRingWrong)

/- THE SECOND FORM. 'bulk': how many values and letters a reading holds, each counted each time it is reached (what is shared counts as often as it is met; a slice's spare places count too). A statement '..UptoSaid' is the law's where the arguments, and the package variables that the reading takes, are together of bulk at most 1048576: NARROWER than '..Said'. Prove '..Said' where nothing that the law and all that it calls make is longer than what came in: it says more and counts as full. Else prove '..UptoSaid'. A law counts once. -/
mutual
def uptoBulk {H : Type} : DataW H → Nat
  | .lit (.string bytes) => bytes.length + 1
  | .lit _ => 1
  | .nil => 1
  | .ptr d => uptoBulk d + 1
  | .slice elems spare => uptoBulkAll elems + uptoBulkAll spare + 1
  | .agg parts => uptoBulkAll parts + 1
  | .iface _ d => uptoBulk d + 1
  | .map entries => uptoBulkEntries entries + 1
  | .held _ => 1
def uptoBulkAll {H : Type} : List (DataW H) → Nat
  | [] => 0
  | d :: r => uptoBulk d + uptoBulkAll r
def uptoBulkEntries {H : Type} : List (Lit × DataW H) → Nat
  | [] => 0
  | x :: r => uptoBulkEntry x + uptoBulkEntries r
def uptoBulkEntry {H : Type} : Lit × DataW H → Nat
  | (.string bytes, d) => bytes.length + uptoBulk d + 1
  | (_, d) => uptoBulk d + 1
 end
def uptoSmall : (H : Type) → List (DataW H) → Bool := fun _ ds => decide (uptoBulkAll ds ≤ 1048576)
def OpenSpec.upto (s : _root_.Go.ChangeSpec) : _root_.Go.OpenSpec := { _root_.Go.OpenSpec.ofChange s with cond := some uptoSmall }

/-- 'chapletlaw15.PurgeData', WHERE WHAT IT READS IS OF BULK AT MOST 1048576: true; the input reads as it did. -/
def purgeDataUptoRow : OpenClaim := { program := "ytlnjnkbnppnbkaa", sum := "01a2040143001162206a6961e1ea8f454f1999385fa40195061cba861422e6ce", func := "chaplet/chapletlaw15.PurgeData", spec := "purgeData", unfollowed := true, recurses := true, apart := false, narrowed := true }
def PurgeDataUptoSaid : Prop := purgeDataUptoRow.holds Try.pinned (OpenSpec.upto purgeDataSpec)

/-- 'chapletlaw15.PurgeOther', WHERE WHAT IT READS IS OF BULK AT MOST 1048576: true; the input reads as it did. -/
def purgeOtherUptoRow : OpenClaim := { program := "ytlnjnkbnppnbkaa", sum := "01a2040143001162206a6961e1ea8f454f1999385fa40195061cba861422e6ce", func := "chaplet/chapletlaw15.PurgeOther", spec := "purgeOther", unfollowed := true, recurses := true, apart := false, narrowed := true }
def PurgeOtherUptoSaid : Prop := purgeOtherUptoRow.holds Try.pinned (OpenSpec.upto purgeOtherSpec)

/-- 'chapletlaw14.AttachReads', WHERE WHAT IT READS IS OF BULK AT MOST 1048576: true; the input reads as it did. -/
def attachReadsUptoRow : OpenClaim := { program := "ytlnjnkbnppnbkaa", sum := "01a2040143001162206a6961e1ea8f454f1999385fa40195061cba861422e6ce", func := "chaplet/chapletlaw14.AttachReads", spec := "attachReads", unfollowed := true, recurses := true, apart := false, narrowed := true }
def AttachReadsUptoSaid : Prop := attachReadsUptoRow.holds Try.pinned (OpenSpec.upto attachReadsSpec)

/-- 'chapletlaw15.PurgeAlone', WHERE WHAT IT READS IS OF BULK AT MOST 1048576: true; the input reads as it did. -/
def purgeAloneUptoRow : OpenClaim := { program := "ytlnjnkbnppnbkaa", sum := "01a2040143001162206a6961e1ea8f454f1999385fa40195061cba861422e6ce", func := "chaplet/chapletlaw15.PurgeAlone", spec := "purgeAlone", unfollowed := true, recurses := true, apart := false, narrowed := true }
def PurgeAloneUptoSaid : Prop := purgeAloneUptoRow.holds Try.pinned (OpenSpec.upto purgeAloneSpec)

/-- 'chapletlaw15.PurgeWalks', WHERE WHAT IT READS IS OF BULK AT MOST 1048576: true; the input reads as it did. -/
def purgeWalksUptoRow : OpenClaim := { program := "ytlnjnkbnppnbkaa", sum := "01a2040143001162206a6961e1ea8f454f1999385fa40195061cba861422e6ce", func := "chaplet/chapletlaw15.PurgeWalks", spec := "purgeWalks", unfollowed := true, recurses := true, apart := false, narrowed := true }
def PurgeWalksUptoSaid : Prop := purgeWalksUptoRow.holds Try.pinned (OpenSpec.upto purgeWalksSpec)

/-- 'chapletlaw16.RolloutLeaves', WHERE WHAT IT READS IS OF BULK AT MOST 1048576: true; the input reads as it did. -/
def rolloutLeavesUptoRow : OpenClaim := { program := "ytlnjnkbnppnbkaa", sum := "01a2040143001162206a6961e1ea8f454f1999385fa40195061cba861422e6ce", func := "chaplet/chapletlaw16.RolloutLeaves", spec := "rolloutLeaves", unfollowed := true, recurses := true, apart := false, narrowed := true }
def RolloutLeavesUptoSaid : Prop := rolloutLeavesUptoRow.holds Try.pinned (OpenSpec.upto rolloutLeavesSpec)

/-- 'chapletlaw16.RolloutPurged', WHERE WHAT IT READS IS OF BULK AT MOST 1048576: true; the input reads as it did. -/
def rolloutPurgedUptoRow : OpenClaim := { program := "ytlnjnkbnppnbkaa", sum := "01a2040143001162206a6961e1ea8f454f1999385fa40195061cba861422e6ce", func := "chaplet/chapletlaw16.RolloutPurged", spec := "rolloutPurged", unfollowed := true, recurses := true, apart := false, narrowed := true }
def RolloutPurgedUptoSaid : Prop := rolloutPurgedUptoRow.holds Try.pinned (OpenSpec.upto rolloutPurgedSpec)

/-- 'chapletlaw16.RolloutOther', WHERE WHAT IT READS IS OF BULK AT MOST 1048576: true; the input reads as it did. -/
def rolloutOtherUptoRow : OpenClaim := { program := "ytlnjnkbnppnbkaa", sum := "01a2040143001162206a6961e1ea8f454f1999385fa40195061cba861422e6ce", func := "chaplet/chapletlaw16.RolloutOther", spec := "rolloutOther", unfollowed := true, recurses := true, apart := false, narrowed := true }
def RolloutOtherUptoSaid : Prop := rolloutOtherUptoRow.holds Try.pinned (OpenSpec.upto rolloutOtherSpec)

/-- 'chapletlaw14.AttachChain', WHERE WHAT IT READS IS OF BULK AT MOST 1048576: true; the input reads as it did. -/
def attachChainUptoRow : OpenClaim := { program := "ytlnjnkbnppnbkaa", sum := "01a2040143001162206a6961e1ea8f454f1999385fa40195061cba861422e6ce", func := "chaplet/chapletlaw14.AttachChain", spec := "attachChain", unfollowed := true, recurses := true, apart := false, narrowed := true }
def AttachChainUptoSaid : Prop := attachChainUptoRow.holds Try.pinned (OpenSpec.upto attachChainSpec)

/-- 'chapletlaw16.RolloutRing', WHERE WHAT IT READS IS OF BULK AT MOST 1048576: true; the input reads as it did. -/
def rolloutRingUptoRow : OpenClaim := { program := "ytlnjnkbnppnbkaa", sum := "01a2040143001162206a6961e1ea8f454f1999385fa40195061cba861422e6ce", func := "chaplet/chapletlaw16.RolloutRing", spec := "rolloutRing", unfollowed := true, recurses := true, apart := false, narrowed := true }
def RolloutRingUptoSaid : Prop := rolloutRingUptoRow.holds Try.pinned (OpenSpec.upto rolloutRingSpec)

end Rows
end Go.Proofs.Ytlnjnkbnppnbkaa
