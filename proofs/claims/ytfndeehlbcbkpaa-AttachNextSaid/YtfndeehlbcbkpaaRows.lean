/-
  No cell of these rows narrows 'for every input' (looked for: loops, veiled, ifaces, maps, wideKeys, modest, calm, conditions, laid).
  DERIVED. THE GIVEN ROWS OF THIS SEAT. 4 by the template 'for every input the law returns true; each argument reads behind the call as it read before'; 0 by the template 'total and deterministic' (their statements: YtfndeehlbcbkpaaTotals.lean).
  GIVEN WITH THE SEED: the statements are not yours to turn. If you find one false, say at which input.
  Laid BY PROGRAM, IN A SANDBOX (cutbox-rows.mjs): the forced cells as the released guide's own fill.sh prints them over the translation d3edb0ecbf9f2970… (all of the seat's roots in one cut). By AI agents, Wed Nov 11 2026. No macro, syntax, notation, axiom, sorry.
-/
import Derived.Test.YtfndeehlbcbkpaaChecked
import GoSem.Claim
import GoSem.ClaimJoined
import GoSem.ClaimMapViews
import Derived.JoinedTies
import Derived.KernelRfl
namespace Go.Proofs.Ytfndeehlbcbkpaa
/- THE CELL 'sum', in the pinned program and in every row, IS THE sha256 OF THE DUMP (.gsa) THAT YtfndeehlbcbkpaaProg.lean LOADS. Nothing in Lean hashes anything: it is a label: what it is worth is what the hold of that sum in a sandbox is worth. -/
noncomputable def Try.pinned : Pinned := { name := "ytfndeehlbcbkpaa", sum := "d3edb0ecbf9f2970b4ef0d7b216319334bd8f3cbff805243fc826a17b212997f", checked := Try.checked }
namespace Rows
def none {H : Type} : Left H := { results := [], args := [] }

/-- 'chapletlaw14.AttachOther': WHATEVER THE INPUT: true; the input reads as it did. -/
def attachOtherSpec : ChangeSpec := { name := "attachOther", fn := fun _ => fun
  | [d1, d2, d3, d4, d5] => { results := [.lit (.bool true)], args := [d1, d2, d3, d4, d5] }
  | _ => none }
def attachOtherRow : OpenClaim := { program := "ytfndeehlbcbkpaa", sum := "d3edb0ecbf9f2970b4ef0d7b216319334bd8f3cbff805243fc826a17b212997f", func := "chaplet/chapletlaw14.AttachOther", spec := "attachOther", unfollowed := true, recurses := true, apart := false }
def AttachOtherSaid : Prop := attachOtherRow.holds Try.pinned (OpenSpec.ofChange attachOtherSpec)

/-- ITS FALSE NEIGHBOUR: 'it returns false'. Refute it at one input. -/
def attachOtherWrong : ChangeSpec := { name := "attachOther", fn := fun _ => fun
  | [d1, d2, d3, d4, d5] => { results := [.lit (.bool false)], args := [d1, d2, d3, d4, d5] }
  | _ => none }
def AttachOtherWrongFalsely : Prop := attachOtherRow.holds Try.pinned (OpenSpec.ofChange attachOtherWrong)

/-- 'chapletlaw14.AttachKeeps': WHATEVER THE INPUT: true; the input reads as it did. -/
def attachKeepsSpec : ChangeSpec := { name := "attachKeeps", fn := fun _ => fun
  | [d1, d2, d3, d4] => { results := [.lit (.bool true)], args := [d1, d2, d3, d4] }
  | _ => none }
def attachKeepsRow : OpenClaim := { program := "ytfndeehlbcbkpaa", sum := "d3edb0ecbf9f2970b4ef0d7b216319334bd8f3cbff805243fc826a17b212997f", func := "chaplet/chapletlaw14.AttachKeeps", spec := "attachKeeps", unfollowed := true, recurses := true, apart := false }
def AttachKeepsSaid : Prop := attachKeepsRow.holds Try.pinned (OpenSpec.ofChange attachKeepsSpec)

/-- ITS FALSE NEIGHBOUR: 'it returns false'. Refute it at one input. -/
def attachKeepsWrong : ChangeSpec := { name := "attachKeeps", fn := fun _ => fun
  | [d1, d2, d3, d4] => { results := [.lit (.bool false)], args := [d1, d2, d3, d4] }
  | _ => none }
def AttachKeepsWrongFalsely : Prop := attachKeepsRow.holds Try.pinned (OpenSpec.ofChange attachKeepsWrong)

/-- 'chapletlaw14.AttachNext': WHATEVER THE INPUT: true; the input reads as it did. -/
def attachNextSpec : ChangeSpec := { name := "attachNext", fn := fun _ => fun
  | [d1, d2, d3, d4, d5, d6, d7, d8] => { results := [.lit (.bool true)], args := [d1, d2, d3, d4, d5, d6, d7, d8] }
  | _ => none }
def attachNextRow : OpenClaim := { program := "ytfndeehlbcbkpaa", sum := "d3edb0ecbf9f2970b4ef0d7b216319334bd8f3cbff805243fc826a17b212997f", func := "chaplet/chapletlaw14.AttachNext", spec := "attachNext", unfollowed := true, recurses := true, apart := false }
def AttachNextSaid : Prop := attachNextRow.holds Try.pinned (OpenSpec.ofChange attachNextSpec)

/-- ITS FALSE NEIGHBOUR: 'it returns false'. Refute it at one input. -/
def attachNextWrong : ChangeSpec := { name := "attachNext", fn := fun _ => fun
  | [d1, d2, d3, d4, d5, d6, d7, d8] => { results := [.lit (.bool false)], args := [d1, d2, d3, d4, d5, d6, d7, d8] }
  | _ => none }
def AttachNextWrongFalsely : Prop := attachNextRow.holds Try.pinned (OpenSpec.ofChange attachNextWrong)

/-- 'chapletlaw16.RolloutNext': WHATEVER THE INPUT: true; the input reads as it did. -/
def rolloutNextSpec : ChangeSpec := { name := "rolloutNext", fn := fun _ => fun
  | [d1, d2, d3, d4, d5, d6, d7, d8] => { results := [.lit (.bool true)], args := [d1, d2, d3, d4, d5, d6, d7, d8] }
  | _ => none }
def rolloutNextRow : OpenClaim := { program := "ytfndeehlbcbkpaa", sum := "d3edb0ecbf9f2970b4ef0d7b216319334bd8f3cbff805243fc826a17b212997f", func := "chaplet/chapletlaw16.RolloutNext", spec := "rolloutNext", unfollowed := true, recurses := true, apart := false }
def RolloutNextSaid : Prop := rolloutNextRow.holds Try.pinned (OpenSpec.ofChange rolloutNextSpec)

/-- ITS FALSE NEIGHBOUR: 'it returns false'. Refute it at one input. -/
def rolloutNextWrong : ChangeSpec := { name := "rolloutNext", fn := fun _ => fun
  | [d1, d2, d3, d4, d5, d6, d7, d8] => { results := [.lit (.bool false)], args := [d1, d2, d3, d4, d5, d6, d7, d8] }
  | _ => none }
def RolloutNextWrongFalsely : Prop := rolloutNextRow.holds Try.pinned (OpenSpec.ofChange rolloutNextWrong)

/- THE SECOND FORM. 'bulk': how many values and letters a reading holds, each counted each time it is reached (what is shared counts as often as it is met; a slice's spare places count too). A statement '..UptoSaid' is the law's where the arguments, and the package variables that the reading takes, are together of bulk at most 1048576: NARROWER than '..Said'. Prove '..Said' where nothing that the law and all that it calls make is longer than what came in: it says more and counts as full. Else prove '..UptoSaid'. A law counts once. -/
mutual
def uptoBulk {H : Type} : DataW H → Nat
  | .lit (.string bytes) => bytes.length + 1
  | .lit _ => 1
  | .nil => 1
  | .ptr d => uptoBulk d + 1
  | .slice elems spare => uptoBulkAll elems + uptoBulkAll spare + 1
  | .agg parts => uptoBulkAll parts + 1
  | .iface _ d => uptoBulk d + 1
  | .map entries => uptoBulkEntries entries + 1
  | .held _ => 1
def uptoBulkAll {H : Type} : List (DataW H) → Nat
  | [] => 0
  | d :: r => uptoBulk d + uptoBulkAll r
def uptoBulkEntries {H : Type} : List (Lit × DataW H) → Nat
  | [] => 0
  | x :: r => uptoBulkEntry x + uptoBulkEntries r
def uptoBulkEntry {H : Type} : Lit × DataW H → Nat
  | (.string bytes, d) => bytes.length + uptoBulk d + 1
  | (_, d) => uptoBulk d + 1
 end
def uptoSmall : (H : Type) → List (DataW H) → Bool := fun _ ds => decide (uptoBulkAll ds ≤ 1048576)
def OpenSpec.upto (s : _root_.Go.ChangeSpec) : _root_.Go.OpenSpec := { _root_.Go.OpenSpec.ofChange s with cond := some uptoSmall }

/-- 'chapletlaw14.AttachOther', WHERE WHAT IT READS IS OF BULK AT MOST 1048576: true; the input reads as it did. -/
def attachOtherUptoRow : OpenClaim := { program := "ytfndeehlbcbkpaa", sum := "d3edb0ecbf9f2970b4ef0d7b216319334bd8f3cbff805243fc826a17b212997f", func := "chaplet/chapletlaw14.AttachOther", spec := "attachOther", unfollowed := true, recurses := true, apart := false, narrowed := true }
def AttachOtherUptoSaid : Prop := attachOtherUptoRow.holds Try.pinned (OpenSpec.upto attachOtherSpec)

/-- 'chapletlaw14.AttachKeeps', WHERE WHAT IT READS IS OF BULK AT MOST 1048576: true; the input reads as it did. -/
def attachKeepsUptoRow : OpenClaim := { program := "ytfndeehlbcbkpaa", sum := "d3edb0ecbf9f2970b4ef0d7b216319334bd8f3cbff805243fc826a17b212997f", func := "chaplet/chapletlaw14.AttachKeeps", spec := "attachKeeps", unfollowed := true, recurses := true, apart := false, narrowed := true }
def AttachKeepsUptoSaid : Prop := attachKeepsUptoRow.holds Try.pinned (OpenSpec.upto attachKeepsSpec)

/-- 'chapletlaw14.AttachNext', WHERE WHAT IT READS IS OF BULK AT MOST 1048576: true; the input reads as it did. -/
def attachNextUptoRow : OpenClaim := { program := "ytfndeehlbcbkpaa", sum := "d3edb0ecbf9f2970b4ef0d7b216319334bd8f3cbff805243fc826a17b212997f", func := "chaplet/chapletlaw14.AttachNext", spec := "attachNext", unfollowed := true, recurses := true, apart := false, narrowed := true }
def AttachNextUptoSaid : Prop := attachNextUptoRow.holds Try.pinned (OpenSpec.upto attachNextSpec)

/-- 'chapletlaw16.RolloutNext', WHERE WHAT IT READS IS OF BULK AT MOST 1048576: true; the input reads as it did. -/
def rolloutNextUptoRow : OpenClaim := { program := "ytfndeehlbcbkpaa", sum := "d3edb0ecbf9f2970b4ef0d7b216319334bd8f3cbff805243fc826a17b212997f", func := "chaplet/chapletlaw16.RolloutNext", spec := "rolloutNext", unfollowed := true, recurses := true, apart := false, narrowed := true }
def RolloutNextUptoSaid : Prop := rolloutNextUptoRow.holds Try.pinned (OpenSpec.upto rolloutNextSpec)

end Rows
end Go.Proofs.Ytfndeehlbcbkpaa
