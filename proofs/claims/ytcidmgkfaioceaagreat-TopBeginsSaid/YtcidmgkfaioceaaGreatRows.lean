/-
  No cell of these rows narrows 'for every input' (looked for: loops, veiled, ifaces, maps, wideKeys, modest, calm, conditions, laid).
  DERIVED. THE GIVEN ROWS OF THIS SEAT. 5 by the template 'for every input the law returns true; each argument reads behind the call as it read before'; 0 by the template 'total and deterministic' (their statements: YtcidmgkfaioceaaGreatTotals.lean).
  GIVEN WITH THE SEED: the statements are not yours to turn. If you find one false, say at which input.
  Laid BY PROGRAM, IN A SANDBOX (cutbox-rows.mjs): the forced cells as the released guide's own fill.sh prints them over the translation 007301668740275a… (all of the seat's roots in one cut). By AI agents, Wed Nov 11 2026. No macro, syntax, notation, axiom, sorry.
-/
import Derived.Test.YtcidmgkfaioceaaGreatChecked
import GoSem.Claim
import GoSem.ClaimJoined
import GoSem.ClaimMapViews
import Derived.JoinedTies
import Derived.KernelRfl
namespace Go.Proofs.YtcidmgkfaioceaaGreat
/- THE CELL 'sum', in the pinned program and in every row, IS THE sha256 OF THE DUMP (.gsa) THAT YtcidmgkfaioceaaGreatProg.lean LOADS. Nothing in Lean hashes anything: it is a label: what it is worth is what the hold of that sum in a sandbox is worth. -/
noncomputable def Tryz.pinned : Pinned := { name := "ytcidmgkfaioceaagreat", sum := "007301668740275a64879d1dd2ace9b6e063e829287cfec25265ddd051810b05", checked := Tryz.checked }
namespace Rows
def none {H : Type} : Left H := { results := [], args := [] }

/-- 'chaplettop.TopReaders': WHATEVER THE INPUT: true; the input reads as it did. -/
def topReadersSpec : ChangeSpec := { name := "topReaders", fn := fun _ => fun
  | [d1, d2, d3, d4] => { results := [.lit (.bool true)], args := [d1, d2, d3, d4] }
  | _ => none }
def topReadersRow : OpenClaim := { program := "ytcidmgkfaioceaagreat", sum := "007301668740275a64879d1dd2ace9b6e063e829287cfec25265ddd051810b05", func := "chaplet/chaplettop.TopReaders", spec := "topReaders", unfollowed := true, recurses := true, apart := false }
def TopReadersSaid : Prop := topReadersRow.holds Tryz.pinned (OpenSpec.ofChange topReadersSpec)

/-- ITS FALSE NEIGHBOUR: 'it returns false'. Refute it at one input. -/
def topReadersWrong : ChangeSpec := { name := "topReaders", fn := fun _ => fun
  | [d1, d2, d3, d4] => { results := [.lit (.bool false)], args := [d1, d2, d3, d4] }
  | _ => none }
def TopReadersWrongFalsely : Prop := topReadersRow.holds Tryz.pinned (OpenSpec.ofChange topReadersWrong)

/-- 'chaplettop.TopPass': WHATEVER THE INPUT: true; the input reads as it did. -/
def topPassSpec : ChangeSpec := { name := "topPass", fn := fun _ => fun
  | [d1, d2, d3] => { results := [.lit (.bool true)], args := [d1, d2, d3] }
  | _ => none }
def topPassRow : OpenClaim := { program := "ytcidmgkfaioceaagreat", sum := "007301668740275a64879d1dd2ace9b6e063e829287cfec25265ddd051810b05", func := "chaplet/chaplettop.TopPass", spec := "topPass", unfollowed := true, recurses := true, apart := false }
def TopPassSaid : Prop := topPassRow.holds Tryz.pinned (OpenSpec.ofChange topPassSpec)

/-- ITS FALSE NEIGHBOUR: 'it returns false'. Refute it at one input. -/
def topPassWrong : ChangeSpec := { name := "topPass", fn := fun _ => fun
  | [d1, d2, d3] => { results := [.lit (.bool false)], args := [d1, d2, d3] }
  | _ => none }
def TopPassWrongFalsely : Prop := topPassRow.holds Tryz.pinned (OpenSpec.ofChange topPassWrong)

/-- 'chaplettop.TopApart': WHATEVER THE INPUT: true; the input reads as it did. -/
def topApartSpec : ChangeSpec := { name := "topApart", fn := fun _ => fun
  | [d1, d2, d3] => { results := [.lit (.bool true)], args := [d1, d2, d3] }
  | _ => none }
def topApartRow : OpenClaim := { program := "ytcidmgkfaioceaagreat", sum := "007301668740275a64879d1dd2ace9b6e063e829287cfec25265ddd051810b05", func := "chaplet/chaplettop.TopApart", spec := "topApart", unfollowed := true, recurses := true, apart := false }
def TopApartSaid : Prop := topApartRow.holds Tryz.pinned (OpenSpec.ofChange topApartSpec)

/-- ITS FALSE NEIGHBOUR: 'it returns false'. Refute it at one input. -/
def topApartWrong : ChangeSpec := { name := "topApart", fn := fun _ => fun
  | [d1, d2, d3] => { results := [.lit (.bool false)], args := [d1, d2, d3] }
  | _ => none }
def TopApartWrongFalsely : Prop := topApartRow.holds Tryz.pinned (OpenSpec.ofChange topApartWrong)

/-- 'chaplettop.TopFlush': WHATEVER THE INPUT: true; the input reads as it did. -/
def topFlushSpec : ChangeSpec := { name := "topFlush", fn := fun _ => fun
  | [d1, d2, d3] => { results := [.lit (.bool true)], args := [d1, d2, d3] }
  | _ => none }
def topFlushRow : OpenClaim := { program := "ytcidmgkfaioceaagreat", sum := "007301668740275a64879d1dd2ace9b6e063e829287cfec25265ddd051810b05", func := "chaplet/chaplettop.TopFlush", spec := "topFlush", unfollowed := true, recurses := true, apart := false }
def TopFlushSaid : Prop := topFlushRow.holds Tryz.pinned (OpenSpec.ofChange topFlushSpec)

/-- ITS FALSE NEIGHBOUR: 'it returns false'. Refute it at one input. -/
def topFlushWrong : ChangeSpec := { name := "topFlush", fn := fun _ => fun
  | [d1, d2, d3] => { results := [.lit (.bool false)], args := [d1, d2, d3] }
  | _ => none }
def TopFlushWrongFalsely : Prop := topFlushRow.holds Tryz.pinned (OpenSpec.ofChange topFlushWrong)

/-- 'chaplettop.TopBegins': WHATEVER THE INPUT: true; the input reads as it did. -/
def topBeginsSpec : ChangeSpec := { name := "topBegins", fn := fun _ => fun
  | [d1, d2, d3] => { results := [.lit (.bool true)], args := [d1, d2, d3] }
  | _ => none }
def topBeginsRow : OpenClaim := { program := "ytcidmgkfaioceaagreat", sum := "007301668740275a64879d1dd2ace9b6e063e829287cfec25265ddd051810b05", func := "chaplet/chaplettop.TopBegins", spec := "topBegins", unfollowed := true, recurses := true, apart := false }
def TopBeginsSaid : Prop := topBeginsRow.holds Tryz.pinned (OpenSpec.ofChange topBeginsSpec)

/-- ITS FALSE NEIGHBOUR: 'it returns false'. Refute it at one input. -/
def topBeginsWrong : ChangeSpec := { name := "topBegins", fn := fun _ => fun
  | [d1, d2, d3] => { results := [.lit (.bool false)], args := [d1, d2, d3] }
  | _ => none }
def TopBeginsWrongFalsely : Prop := topBeginsRow.holds Tryz.pinned (OpenSpec.ofChange topBeginsWrong)

/- THE SECOND FORM. 'bulk': how many values and letters a reading holds, each counted each time it is reached (what is shared counts as often as it is met; a slice's spare places count too). A statement '..UptoSaid' is the law's where the arguments, and the package variables that the reading takes, are together of bulk at most 1048576: NARROWER than '..Said'. Prove '..Said' where nothing that the law and all that it calls make is longer than what came in: it says more and counts as full. Else prove '..UptoSaid'. A law counts once. -/
mutual
def uptoBulk {H : Type} : DataW H → Nat
  | .lit (.string bytes) => bytes.length + 1
  | .lit _ => 1
  | .nil => 1
  | .ptr d => uptoBulk d + 1
  | .slice elems spare => uptoBulkAll elems + uptoBulkAll spare + 1
  | .agg parts => uptoBulkAll parts + 1
  | .iface _ d => uptoBulk d + 1
  | .map entries => uptoBulkEntries entries + 1
  | .held _ => 1
def uptoBulkAll {H : Type} : List (DataW H) → Nat
  | [] => 0
  | d :: r => uptoBulk d + uptoBulkAll r
def uptoBulkEntries {H : Type} : List (Lit × DataW H) → Nat
  | [] => 0
  | x :: r => uptoBulkEntry x + uptoBulkEntries r
def uptoBulkEntry {H : Type} : Lit × DataW H → Nat
  | (.string bytes, d) => bytes.length + uptoBulk d + 1
  | (_, d) => uptoBulk d + 1
 end
def uptoSmall : (H : Type) → List (DataW H) → Bool := fun _ ds => decide (uptoBulkAll ds ≤ 1048576)
def OpenSpec.upto (s : _root_.Go.ChangeSpec) : _root_.Go.OpenSpec := { _root_.Go.OpenSpec.ofChange s with cond := some uptoSmall }

/-- 'chaplettop.TopReaders', WHERE WHAT IT READS IS OF BULK AT MOST 1048576: true; the input reads as it did. -/
def topReadersUptoRow : OpenClaim := { program := "ytcidmgkfaioceaagreat", sum := "007301668740275a64879d1dd2ace9b6e063e829287cfec25265ddd051810b05", func := "chaplet/chaplettop.TopReaders", spec := "topReaders", unfollowed := true, recurses := true, apart := false, narrowed := true }
def TopReadersUptoSaid : Prop := topReadersUptoRow.holds Tryz.pinned (OpenSpec.upto topReadersSpec)

/-- 'chaplettop.TopPass', WHERE WHAT IT READS IS OF BULK AT MOST 1048576: true; the input reads as it did. -/
def topPassUptoRow : OpenClaim := { program := "ytcidmgkfaioceaagreat", sum := "007301668740275a64879d1dd2ace9b6e063e829287cfec25265ddd051810b05", func := "chaplet/chaplettop.TopPass", spec := "topPass", unfollowed := true, recurses := true, apart := false, narrowed := true }
def TopPassUptoSaid : Prop := topPassUptoRow.holds Tryz.pinned (OpenSpec.upto topPassSpec)

/-- 'chaplettop.TopApart', WHERE WHAT IT READS IS OF BULK AT MOST 1048576: true; the input reads as it did. -/
def topApartUptoRow : OpenClaim := { program := "ytcidmgkfaioceaagreat", sum := "007301668740275a64879d1dd2ace9b6e063e829287cfec25265ddd051810b05", func := "chaplet/chaplettop.TopApart", spec := "topApart", unfollowed := true, recurses := true, apart := false, narrowed := true }
def TopApartUptoSaid : Prop := topApartUptoRow.holds Tryz.pinned (OpenSpec.upto topApartSpec)

/-- 'chaplettop.TopFlush', WHERE WHAT IT READS IS OF BULK AT MOST 1048576: true; the input reads as it did. -/
def topFlushUptoRow : OpenClaim := { program := "ytcidmgkfaioceaagreat", sum := "007301668740275a64879d1dd2ace9b6e063e829287cfec25265ddd051810b05", func := "chaplet/chaplettop.TopFlush", spec := "topFlush", unfollowed := true, recurses := true, apart := false, narrowed := true }
def TopFlushUptoSaid : Prop := topFlushUptoRow.holds Tryz.pinned (OpenSpec.upto topFlushSpec)

/-- 'chaplettop.TopBegins', WHERE WHAT IT READS IS OF BULK AT MOST 1048576: true; the input reads as it did. -/
def topBeginsUptoRow : OpenClaim := { program := "ytcidmgkfaioceaagreat", sum := "007301668740275a64879d1dd2ace9b6e063e829287cfec25265ddd051810b05", func := "chaplet/chaplettop.TopBegins", spec := "topBegins", unfollowed := true, recurses := true, apart := false, narrowed := true }
def TopBeginsUptoSaid : Prop := topBeginsUptoRow.holds Tryz.pinned (OpenSpec.upto topBeginsSpec)

end Rows
end Go.Proofs.YtcidmgkfaioceaaGreat
