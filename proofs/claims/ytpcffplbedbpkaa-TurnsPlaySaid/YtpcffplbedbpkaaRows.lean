/-
  No cell of these rows narrows 'for every input' (looked for: loops, veiled, ifaces, maps, wideKeys, modest, calm, conditions, laid).
  DERIVED. THE GIVEN ROWS OF THIS SEAT. 8 by the template 'for every input the law returns true; each argument reads behind the call as it read before'; 0 by the template 'total and deterministic' (their statements: YtpcffplbedbpkaaTotals.lean).
  GIVEN WITH THE SEED: the statements are not yours to turn. If you find one false, say at which input.
  Laid BY PROGRAM, IN A SANDBOX (cutbox-rows.mjs): the forced cells as the released guide's own fill.sh prints them over the translation c8eba6fe8f83f4f8… (all of the seat's roots in one cut). By AI agents, Wed Nov 11 2026. No macro, syntax, notation, axiom, sorry.
-/
import Derived.Test.YtpcffplbedbpkaaChecked
import GoSem.Claim
import GoSem.ClaimJoined
import GoSem.ClaimMapViews
import Derived.JoinedTies
import Derived.KernelRfl
namespace Go.Proofs.Ytpcffplbedbpkaa
/- THE CELL 'sum', in the pinned program and in every row, IS THE sha256 OF THE DUMP (.gsa) THAT YtpcffplbedbpkaaProg.lean LOADS. Nothing in Lean hashes anything: it is a label: what it is worth is what the hold of that sum in a sandbox is worth. -/
noncomputable def Try.pinned : Pinned := { name := "ytpcffplbedbpkaa", sum := "c8eba6fe8f83f4f8675b679df9edd87c070aaa7832bca85d0be5b177ae4035a0", checked := Try.checked }
namespace Rows
def none {H : Type} : Left H := { results := [], args := [] }

/-- 'chapletlaw10.TurnsIDs': WHATEVER THE INPUT: true; the input reads as it did. -/
def turnsIDsSpec : ChangeSpec := { name := "turnsIDs", fn := fun _ => fun
  | [d1, d2] => { results := [.lit (.bool true)], args := [d1, d2] }
  | _ => none }
def turnsIDsRow : OpenClaim := { program := "ytpcffplbedbpkaa", sum := "c8eba6fe8f83f4f8675b679df9edd87c070aaa7832bca85d0be5b177ae4035a0", func := "chaplet/chapletlaw10.TurnsIDs", spec := "turnsIDs", apart := false }
def TurnsIDsSaid : Prop := turnsIDsRow.holds Try.pinned (OpenSpec.ofChange turnsIDsSpec)

/-- ITS FALSE NEIGHBOUR: 'it returns false'. Refute it at one input. -/
def turnsIDsWrong : ChangeSpec := { name := "turnsIDs", fn := fun _ => fun
  | [d1, d2] => { results := [.lit (.bool false)], args := [d1, d2] }
  | _ => none }
def TurnsIDsWrongFalsely : Prop := turnsIDsRow.holds Try.pinned (OpenSpec.ofChange turnsIDsWrong)

/-- 'chapletlaw13.DealForms': WHATEVER THE INPUT: true; the input reads as it did. -/
def dealFormsSpec : ChangeSpec := { name := "dealForms", fn := fun _ => fun
  | [d1, d2, d3, d4, d5, d6, d7, d8] => { results := [.lit (.bool true)], args := [d1, d2, d3, d4, d5, d6, d7, d8] }
  | _ => none }
def dealFormsRow : OpenClaim := { program := "ytpcffplbedbpkaa", sum := "c8eba6fe8f83f4f8675b679df9edd87c070aaa7832bca85d0be5b177ae4035a0", func := "chaplet/chapletlaw13.DealForms", spec := "dealForms", apart := false }
def DealFormsSaid : Prop := dealFormsRow.holds Try.pinned (OpenSpec.ofChange dealFormsSpec)

/-- ITS FALSE NEIGHBOUR: 'it returns false'. Refute it at one input. -/
def dealFormsWrong : ChangeSpec := { name := "dealForms", fn := fun _ => fun
  | [d1, d2, d3, d4, d5, d6, d7, d8] => { results := [.lit (.bool false)], args := [d1, d2, d3, d4, d5, d6, d7, d8] }
  | _ => none }
def DealFormsWrongFalsely : Prop := dealFormsRow.holds Try.pinned (OpenSpec.ofChange dealFormsWrong)

/-- 'chapletlaw13.DealAsks': WHATEVER THE INPUT: true; the input reads as it did. -/
def dealAsksSpec : ChangeSpec := { name := "dealAsks", fn := fun _ => fun
  | [d1, d2, d3, d4, d5, d6] => { results := [.lit (.bool true)], args := [d1, d2, d3, d4, d5, d6] }
  | _ => none }
def dealAsksRow : OpenClaim := { program := "ytpcffplbedbpkaa", sum := "c8eba6fe8f83f4f8675b679df9edd87c070aaa7832bca85d0be5b177ae4035a0", func := "chaplet/chapletlaw13.DealAsks", spec := "dealAsks", apart := false }
def DealAsksSaid : Prop := dealAsksRow.holds Try.pinned (OpenSpec.ofChange dealAsksSpec)

/-- ITS FALSE NEIGHBOUR: 'it returns false'. Refute it at one input. -/
def dealAsksWrong : ChangeSpec := { name := "dealAsks", fn := fun _ => fun
  | [d1, d2, d3, d4, d5, d6] => { results := [.lit (.bool false)], args := [d1, d2, d3, d4, d5, d6] }
  | _ => none }
def DealAsksWrongFalsely : Prop := dealAsksRow.holds Try.pinned (OpenSpec.ofChange dealAsksWrong)

/-- 'chapletlaw13.DealAnswers': WHATEVER THE INPUT: true; the input reads as it did. -/
def dealAnswersSpec : ChangeSpec := { name := "dealAnswers", fn := fun _ => fun
  | [d1, d2, d3] => { results := [.lit (.bool true)], args := [d1, d2, d3] }
  | _ => none }
def dealAnswersRow : OpenClaim := { program := "ytpcffplbedbpkaa", sum := "c8eba6fe8f83f4f8675b679df9edd87c070aaa7832bca85d0be5b177ae4035a0", func := "chaplet/chapletlaw13.DealAnswers", spec := "dealAnswers", apart := false }
def DealAnswersSaid : Prop := dealAnswersRow.holds Try.pinned (OpenSpec.ofChange dealAnswersSpec)

/-- ITS FALSE NEIGHBOUR: 'it returns false'. Refute it at one input. -/
def dealAnswersWrong : ChangeSpec := { name := "dealAnswers", fn := fun _ => fun
  | [d1, d2, d3] => { results := [.lit (.bool false)], args := [d1, d2, d3] }
  | _ => none }
def DealAnswersWrongFalsely : Prop := dealAnswersRow.holds Try.pinned (OpenSpec.ofChange dealAnswersWrong)

/-- 'chapletlaw13.DealBegins': WHATEVER THE INPUT: true; the input reads as it did. -/
def dealBeginsSpec : ChangeSpec := { name := "dealBegins", fn := fun _ => fun
  | [d1, d2, d3, d4, d5] => { results := [.lit (.bool true)], args := [d1, d2, d3, d4, d5] }
  | _ => none }
def dealBeginsRow : OpenClaim := { program := "ytpcffplbedbpkaa", sum := "c8eba6fe8f83f4f8675b679df9edd87c070aaa7832bca85d0be5b177ae4035a0", func := "chaplet/chapletlaw13.DealBegins", spec := "dealBegins", apart := false }
def DealBeginsSaid : Prop := dealBeginsRow.holds Try.pinned (OpenSpec.ofChange dealBeginsSpec)

/-- ITS FALSE NEIGHBOUR: 'it returns false'. Refute it at one input. -/
def dealBeginsWrong : ChangeSpec := { name := "dealBegins", fn := fun _ => fun
  | [d1, d2, d3, d4, d5] => { results := [.lit (.bool false)], args := [d1, d2, d3, d4, d5] }
  | _ => none }
def DealBeginsWrongFalsely : Prop := dealBeginsRow.holds Try.pinned (OpenSpec.ofChange dealBeginsWrong)

/-- 'chapletlaw10.TurnsReady': WHATEVER THE INPUT: true; the input reads as it did. -/
def turnsReadySpec : ChangeSpec := { name := "turnsReady", fn := fun _ => fun
  | [d] => { results := [.lit (.bool true)], args := [d] }
  | _ => none }
def turnsReadyRow : OpenClaim := { program := "ytpcffplbedbpkaa", sum := "c8eba6fe8f83f4f8675b679df9edd87c070aaa7832bca85d0be5b177ae4035a0", func := "chaplet/chapletlaw10.TurnsReady", spec := "turnsReady", unfollowed := true, recurses := true, apart := false }
def TurnsReadySaid : Prop := turnsReadyRow.holds Try.pinned (OpenSpec.ofChange turnsReadySpec)

/-- ITS FALSE NEIGHBOUR: 'it returns false'. Refute it at one input. -/
def turnsReadyWrong : ChangeSpec := { name := "turnsReady", fn := fun _ => fun
  | [d] => { results := [.lit (.bool false)], args := [d] }
  | _ => none }
def TurnsReadyWrongFalsely : Prop := turnsReadyRow.holds Try.pinned (OpenSpec.ofChange turnsReadyWrong)

/-- 'chapletlaw10.TurnsPlay': WHATEVER THE INPUT: true; the input reads as it did. -/
def turnsPlaySpec : ChangeSpec := { name := "turnsPlay", fn := fun _ => fun
  | [d] => { results := [.lit (.bool true)], args := [d] }
  | _ => none }
def turnsPlayRow : OpenClaim := { program := "ytpcffplbedbpkaa", sum := "c8eba6fe8f83f4f8675b679df9edd87c070aaa7832bca85d0be5b177ae4035a0", func := "chaplet/chapletlaw10.TurnsPlay", spec := "turnsPlay", unfollowed := true, recurses := true, apart := false }
def TurnsPlaySaid : Prop := turnsPlayRow.holds Try.pinned (OpenSpec.ofChange turnsPlaySpec)

/-- ITS FALSE NEIGHBOUR: 'it returns false'. Refute it at one input. -/
def turnsPlayWrong : ChangeSpec := { name := "turnsPlay", fn := fun _ => fun
  | [d] => { results := [.lit (.bool false)], args := [d] }
  | _ => none }
def TurnsPlayWrongFalsely : Prop := turnsPlayRow.holds Try.pinned (OpenSpec.ofChange turnsPlayWrong)

/-- 'chapletlaw10.TurnsFair': WHATEVER THE INPUT: true; the input reads as it did. -/
def turnsFairSpec : ChangeSpec := { name := "turnsFair", fn := fun _ => fun
  | [d1, d2] => { results := [.lit (.bool true)], args := [d1, d2] }
  | _ => none }
def turnsFairRow : OpenClaim := { program := "ytpcffplbedbpkaa", sum := "c8eba6fe8f83f4f8675b679df9edd87c070aaa7832bca85d0be5b177ae4035a0", func := "chaplet/chapletlaw10.TurnsFair", spec := "turnsFair", unfollowed := true, recurses := true, apart := false }
def TurnsFairSaid : Prop := turnsFairRow.holds Try.pinned (OpenSpec.ofChange turnsFairSpec)

/-- ITS FALSE NEIGHBOUR: 'it returns false'. Refute it at one input. -/
def turnsFairWrong : ChangeSpec := { name := "turnsFair", fn := fun _ => fun
  | [d1, d2] => { results := [.lit (.bool false)], args := [d1, d2] }
  | _ => none }
def TurnsFairWrongFalsely : Prop := turnsFairRow.holds Try.pinned (OpenSpec.ofChange turnsFairWrong)

/- THE SECOND FORM. 'bulk': how many values and letters a reading holds, each counted each time it is reached (what is shared counts as often as it is met; a slice's spare places count too). A statement '..UptoSaid' is the law's where the arguments, and the package variables that the reading takes, are together of bulk at most 1048576: NARROWER than '..Said'. Prove '..Said' where nothing that the law and all that it calls make is longer than what came in: it says more and counts as full. Else prove '..UptoSaid'. A law counts once. -/
mutual
def uptoBulk {H : Type} : DataW H → Nat
  | .lit (.string bytes) => bytes.length + 1
  | .lit _ => 1
  | .nil => 1
  | .ptr d => uptoBulk d + 1
  | .slice elems spare => uptoBulkAll elems + uptoBulkAll spare + 1
  | .agg parts => uptoBulkAll parts + 1
  | .iface _ d => uptoBulk d + 1
  | .map entries => uptoBulkEntries entries + 1
  | .held _ => 1
def uptoBulkAll {H : Type} : List (DataW H) → Nat
  | [] => 0
  | d :: r => uptoBulk d + uptoBulkAll r
def uptoBulkEntries {H : Type} : List (Lit × DataW H) → Nat
  | [] => 0
  | x :: r => uptoBulkEntry x + uptoBulkEntries r
def uptoBulkEntry {H : Type} : Lit × DataW H → Nat
  | (.string bytes, d) => bytes.length + uptoBulk d + 1
  | (_, d) => uptoBulk d + 1
 end
def uptoSmall : (H : Type) → List (DataW H) → Bool := fun _ ds => decide (uptoBulkAll ds ≤ 1048576)
def OpenSpec.upto (s : _root_.Go.ChangeSpec) : _root_.Go.OpenSpec := { _root_.Go.OpenSpec.ofChange s with cond := some uptoSmall }

/-- 'chapletlaw10.TurnsIDs', WHERE WHAT IT READS IS OF BULK AT MOST 1048576: true; the input reads as it did. -/
def turnsIDsUptoRow : OpenClaim := { program := "ytpcffplbedbpkaa", sum := "c8eba6fe8f83f4f8675b679df9edd87c070aaa7832bca85d0be5b177ae4035a0", func := "chaplet/chapletlaw10.TurnsIDs", spec := "turnsIDs", apart := false, narrowed := true }
def TurnsIDsUptoSaid : Prop := turnsIDsUptoRow.holds Try.pinned (OpenSpec.upto turnsIDsSpec)

/-- 'chapletlaw13.DealForms', WHERE WHAT IT READS IS OF BULK AT MOST 1048576: true; the input reads as it did. -/
def dealFormsUptoRow : OpenClaim := { program := "ytpcffplbedbpkaa", sum := "c8eba6fe8f83f4f8675b679df9edd87c070aaa7832bca85d0be5b177ae4035a0", func := "chaplet/chapletlaw13.DealForms", spec := "dealForms", apart := false, narrowed := true }
def DealFormsUptoSaid : Prop := dealFormsUptoRow.holds Try.pinned (OpenSpec.upto dealFormsSpec)

/-- 'chapletlaw13.DealAsks', WHERE WHAT IT READS IS OF BULK AT MOST 1048576: true; the input reads as it did. -/
def dealAsksUptoRow : OpenClaim := { program := "ytpcffplbedbpkaa", sum := "c8eba6fe8f83f4f8675b679df9edd87c070aaa7832bca85d0be5b177ae4035a0", func := "chaplet/chapletlaw13.DealAsks", spec := "dealAsks", apart := false, narrowed := true }
def DealAsksUptoSaid : Prop := dealAsksUptoRow.holds Try.pinned (OpenSpec.upto dealAsksSpec)

/-- 'chapletlaw13.DealAnswers', WHERE WHAT IT READS IS OF BULK AT MOST 1048576: true; the input reads as it did. -/
def dealAnswersUptoRow : OpenClaim := { program := "ytpcffplbedbpkaa", sum := "c8eba6fe8f83f4f8675b679df9edd87c070aaa7832bca85d0be5b177ae4035a0", func := "chaplet/chapletlaw13.DealAnswers", spec := "dealAnswers", apart := false, narrowed := true }
def DealAnswersUptoSaid : Prop := dealAnswersUptoRow.holds Try.pinned (OpenSpec.upto dealAnswersSpec)

/-- 'chapletlaw13.DealBegins', WHERE WHAT IT READS IS OF BULK AT MOST 1048576: true; the input reads as it did. -/
def dealBeginsUptoRow : OpenClaim := { program := "ytpcffplbedbpkaa", sum := "c8eba6fe8f83f4f8675b679df9edd87c070aaa7832bca85d0be5b177ae4035a0", func := "chaplet/chapletlaw13.DealBegins", spec := "dealBegins", apart := false, narrowed := true }
def DealBeginsUptoSaid : Prop := dealBeginsUptoRow.holds Try.pinned (OpenSpec.upto dealBeginsSpec)

/-- 'chapletlaw10.TurnsReady', WHERE WHAT IT READS IS OF BULK AT MOST 1048576: true; the input reads as it did. -/
def turnsReadyUptoRow : OpenClaim := { program := "ytpcffplbedbpkaa", sum := "c8eba6fe8f83f4f8675b679df9edd87c070aaa7832bca85d0be5b177ae4035a0", func := "chaplet/chapletlaw10.TurnsReady", spec := "turnsReady", unfollowed := true, recurses := true, apart := false, narrowed := true }
def TurnsReadyUptoSaid : Prop := turnsReadyUptoRow.holds Try.pinned (OpenSpec.upto turnsReadySpec)

/-- 'chapletlaw10.TurnsPlay', WHERE WHAT IT READS IS OF BULK AT MOST 1048576: true; the input reads as it did. -/
def turnsPlayUptoRow : OpenClaim := { program := "ytpcffplbedbpkaa", sum := "c8eba6fe8f83f4f8675b679df9edd87c070aaa7832bca85d0be5b177ae4035a0", func := "chaplet/chapletlaw10.TurnsPlay", spec := "turnsPlay", unfollowed := true, recurses := true, apart := false, narrowed := true }
def TurnsPlayUptoSaid : Prop := turnsPlayUptoRow.holds Try.pinned (OpenSpec.upto turnsPlaySpec)

/-- 'chapletlaw10.TurnsFair', WHERE WHAT IT READS IS OF BULK AT MOST 1048576: true; the input reads as it did. -/
def turnsFairUptoRow : OpenClaim := { program := "ytpcffplbedbpkaa", sum := "c8eba6fe8f83f4f8675b679df9edd87c070aaa7832bca85d0be5b177ae4035a0", func := "chaplet/chapletlaw10.TurnsFair", spec := "turnsFair", unfollowed := true, recurses := true, apart := false, narrowed := true }
def TurnsFairUptoSaid : Prop := turnsFairUptoRow.holds Try.pinned (OpenSpec.upto turnsFairSpec)

end Rows
end Go.Proofs.Ytpcffplbedbpkaa
