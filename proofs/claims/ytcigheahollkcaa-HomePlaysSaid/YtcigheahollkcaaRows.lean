/-
  No cell of these rows narrows 'for every input' (looked for: loops, veiled, ifaces, maps, wideKeys, modest, calm, conditions, laid).
  DERIVED. THE GIVEN ROWS OF THIS SEAT. 4 by the template 'for every input the law returns true; each argument reads behind the call as it read before'; 0 by the template 'total and deterministic' (their statements: YtcigheahollkcaaTotals.lean).
  GIVEN WITH THE SEED: the statements are not yours to turn. If you find one false, say at which input.
  Laid BY PROGRAM, IN A SANDBOX (cutbox-rows.mjs): the forced cells as the released guide's own fill.sh prints them over the translation ed4d02bc4d9184e2… (all of the seat's roots in one cut). By AI agents, Wed Nov 11 2026. No macro, syntax, notation, axiom, sorry.
-/
import Derived.Test.YtcigheahollkcaaChecked
import GoSem.Claim
import GoSem.ClaimJoined
import GoSem.ClaimMapViews
import Derived.JoinedTies
import Derived.KernelRfl
namespace Go.Proofs.Ytcigheahollkcaa
/- THE CELL 'sum', in the pinned program and in every row, IS THE sha256 OF THE DUMP (.gsa) THAT YtcigheahollkcaaProg.lean LOADS. Nothing in Lean hashes anything: it is a label: what it is worth is what the hold of that sum in a sandbox is worth. -/
noncomputable def Try.pinned : Pinned := { name := "ytcigheahollkcaa", sum := "ed4d02bc4d9184e27aa3106460d7d4f60bc019617f18299d5e0e4d5e682bacd1", checked := Try.checked }
namespace Rows
def none {H : Type} : Left H := { results := [], args := [] }

/-- 'chapletlaw11.HomeErrors': WHATEVER THE INPUT: true; the input reads as it did. -/
def homeErrorsSpec : ChangeSpec := { name := "homeErrors", fn := fun _ => fun
  | [d1, d2] => { results := [.lit (.bool true)], args := [d1, d2] }
  | _ => none }
def homeErrorsRow : OpenClaim := { program := "ytcigheahollkcaa", sum := "ed4d02bc4d9184e27aa3106460d7d4f60bc019617f18299d5e0e4d5e682bacd1", func := "chaplet/chapletlaw11.HomeErrors", spec := "homeErrors", unfollowed := true, recurses := true, apart := false }
def HomeErrorsSaid : Prop := homeErrorsRow.holds Try.pinned (OpenSpec.ofChange homeErrorsSpec)

/-- ITS FALSE NEIGHBOUR: 'it returns false'. Refute it at one input. -/
def homeErrorsWrong : ChangeSpec := { name := "homeErrors", fn := fun _ => fun
  | [d1, d2] => { results := [.lit (.bool false)], args := [d1, d2] }
  | _ => none }
def HomeErrorsWrongFalsely : Prop := homeErrorsRow.holds Try.pinned (OpenSpec.ofChange homeErrorsWrong)

/-- 'chapletlaw11.HomePlays': WHATEVER THE INPUT: true; the input reads as it did. -/
def homePlaysSpec : ChangeSpec := { name := "homePlays", fn := fun _ => fun
  | [d1, d2, d3] => { results := [.lit (.bool true)], args := [d1, d2, d3] }
  | _ => none }
def homePlaysRow : OpenClaim := { program := "ytcigheahollkcaa", sum := "ed4d02bc4d9184e27aa3106460d7d4f60bc019617f18299d5e0e4d5e682bacd1", func := "chaplet/chapletlaw11.HomePlays", spec := "homePlays", unfollowed := true, recurses := true, apart := false }
def HomePlaysSaid : Prop := homePlaysRow.holds Try.pinned (OpenSpec.ofChange homePlaysSpec)

/-- ITS FALSE NEIGHBOUR: 'it returns false'. Refute it at one input. -/
def homePlaysWrong : ChangeSpec := { name := "homePlays", fn := fun _ => fun
  | [d1, d2, d3] => { results := [.lit (.bool false)], args := [d1, d2, d3] }
  | _ => none }
def HomePlaysWrongFalsely : Prop := homePlaysRow.holds Try.pinned (OpenSpec.ofChange homePlaysWrong)

/-- 'chapletlaw11.HomeAlone': WHATEVER THE INPUT: true; the input reads as it did. -/
def homeAloneSpec : ChangeSpec := { name := "homeAlone", fn := fun _ => fun
  | [d1, d2, d3] => { results := [.lit (.bool true)], args := [d1, d2, d3] }
  | _ => none }
def homeAloneRow : OpenClaim := { program := "ytcigheahollkcaa", sum := "ed4d02bc4d9184e27aa3106460d7d4f60bc019617f18299d5e0e4d5e682bacd1", func := "chaplet/chapletlaw11.HomeAlone", spec := "homeAlone", unfollowed := true, recurses := true, apart := false }
def HomeAloneSaid : Prop := homeAloneRow.holds Try.pinned (OpenSpec.ofChange homeAloneSpec)

/-- ITS FALSE NEIGHBOUR: 'it returns false'. Refute it at one input. -/
def homeAloneWrong : ChangeSpec := { name := "homeAlone", fn := fun _ => fun
  | [d1, d2, d3] => { results := [.lit (.bool false)], args := [d1, d2, d3] }
  | _ => none }
def HomeAloneWrongFalsely : Prop := homeAloneRow.holds Try.pinned (OpenSpec.ofChange homeAloneWrong)

/-- 'chapletlaw11.HomeLines': WHATEVER THE INPUT: true; the input reads as it did. -/
def homeLinesSpec : ChangeSpec := { name := "homeLines", fn := fun _ => fun
  | [d1, d2, d3] => { results := [.lit (.bool true)], args := [d1, d2, d3] }
  | _ => none }
def homeLinesRow : OpenClaim := { program := "ytcigheahollkcaa", sum := "ed4d02bc4d9184e27aa3106460d7d4f60bc019617f18299d5e0e4d5e682bacd1", func := "chaplet/chapletlaw11.HomeLines", spec := "homeLines", unfollowed := true, recurses := true, apart := false }
def HomeLinesSaid : Prop := homeLinesRow.holds Try.pinned (OpenSpec.ofChange homeLinesSpec)

/-- ITS FALSE NEIGHBOUR: 'it returns false'. Refute it at one input. -/
def homeLinesWrong : ChangeSpec := { name := "homeLines", fn := fun _ => fun
  | [d1, d2, d3] => { results := [.lit (.bool false)], args := [d1, d2, d3] }
  | _ => none }
def HomeLinesWrongFalsely : Prop := homeLinesRow.holds Try.pinned (OpenSpec.ofChange homeLinesWrong)

/- THE SECOND FORM. 'bulk': how many values and letters a reading holds, each counted each time it is reached (what is shared counts as often as it is met; a slice's spare places count too). A statement '..UptoSaid' is the law's where the arguments, and the package variables that the reading takes, are together of bulk at most 1048576: NARROWER than '..Said'. Prove '..Said' where nothing that the law and all that it calls make is longer than what came in: it says more and counts as full. Else prove '..UptoSaid'. A law counts once. -/
mutual
def uptoBulk {H : Type} : DataW H → Nat
  | .lit (.string bytes) => bytes.length + 1
  | .lit _ => 1
  | .nil => 1
  | .ptr d => uptoBulk d + 1
  | .slice elems spare => uptoBulkAll elems + uptoBulkAll spare + 1
  | .agg parts => uptoBulkAll parts + 1
  | .iface _ d => uptoBulk d + 1
  | .map entries => uptoBulkEntries entries + 1
  | .held _ => 1
def uptoBulkAll {H : Type} : List (DataW H) → Nat
  | [] => 0
  | d :: r => uptoBulk d + uptoBulkAll r
def uptoBulkEntries {H : Type} : List (Lit × DataW H) → Nat
  | [] => 0
  | x :: r => uptoBulkEntry x + uptoBulkEntries r
def uptoBulkEntry {H : Type} : Lit × DataW H → Nat
  | (.string bytes, d) => bytes.length + uptoBulk d + 1
  | (_, d) => uptoBulk d + 1
 end
def uptoSmall : (H : Type) → List (DataW H) → Bool := fun _ ds => decide (uptoBulkAll ds ≤ 1048576)
def OpenSpec.upto (s : _root_.Go.ChangeSpec) : _root_.Go.OpenSpec := { _root_.Go.OpenSpec.ofChange s with cond := some uptoSmall }

/-- 'chapletlaw11.HomeErrors', WHERE WHAT IT READS IS OF BULK AT MOST 1048576: true; the input reads as it did. -/
def homeErrorsUptoRow : OpenClaim := { program := "ytcigheahollkcaa", sum := "ed4d02bc4d9184e27aa3106460d7d4f60bc019617f18299d5e0e4d5e682bacd1", func := "chaplet/chapletlaw11.HomeErrors", spec := "homeErrors", unfollowed := true, recurses := true, apart := false, narrowed := true }
def HomeErrorsUptoSaid : Prop := homeErrorsUptoRow.holds Try.pinned (OpenSpec.upto homeErrorsSpec)

/-- 'chapletlaw11.HomePlays', WHERE WHAT IT READS IS OF BULK AT MOST 1048576: true; the input reads as it did. -/
def homePlaysUptoRow : OpenClaim := { program := "ytcigheahollkcaa", sum := "ed4d02bc4d9184e27aa3106460d7d4f60bc019617f18299d5e0e4d5e682bacd1", func := "chaplet/chapletlaw11.HomePlays", spec := "homePlays", unfollowed := true, recurses := true, apart := false, narrowed := true }
def HomePlaysUptoSaid : Prop := homePlaysUptoRow.holds Try.pinned (OpenSpec.upto homePlaysSpec)

/-- 'chapletlaw11.HomeAlone', WHERE WHAT IT READS IS OF BULK AT MOST 1048576: true; the input reads as it did. -/
def homeAloneUptoRow : OpenClaim := { program := "ytcigheahollkcaa", sum := "ed4d02bc4d9184e27aa3106460d7d4f60bc019617f18299d5e0e4d5e682bacd1", func := "chaplet/chapletlaw11.HomeAlone", spec := "homeAlone", unfollowed := true, recurses := true, apart := false, narrowed := true }
def HomeAloneUptoSaid : Prop := homeAloneUptoRow.holds Try.pinned (OpenSpec.upto homeAloneSpec)

/-- 'chapletlaw11.HomeLines', WHERE WHAT IT READS IS OF BULK AT MOST 1048576: true; the input reads as it did. -/
def homeLinesUptoRow : OpenClaim := { program := "ytcigheahollkcaa", sum := "ed4d02bc4d9184e27aa3106460d7d4f60bc019617f18299d5e0e4d5e682bacd1", func := "chaplet/chapletlaw11.HomeLines", spec := "homeLines", unfollowed := true, recurses := true, apart := false, narrowed := true }
def HomeLinesUptoSaid : Prop := homeLinesUptoRow.holds Try.pinned (OpenSpec.upto homeLinesSpec)

end Rows
end Go.Proofs.Ytcigheahollkcaa
