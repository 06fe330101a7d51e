/-
  No cell of these rows narrows 'for every input' (looked for: loops, veiled, ifaces, maps, wideKeys, modest, calm, conditions, laid).
  DERIVED. THE GIVEN ROWS OF THIS SEAT. 10 by the template 'for every input the law returns true; each argument reads behind the call as it read before'; 0 by the template 'total and deterministic' (their statements: YtfpiolnbnfngkaaTotals.lean).
  GIVEN WITH THE SEED: the statements are not yours to turn. If you find one false, say at which input.
  Laid BY PROGRAM, IN A SANDBOX (cutbox-rows.mjs): the forced cells as the released guide's own fill.sh prints them over the translation 51984512e59c0067… (all of the seat's roots in one cut). By AI agents, Wed Nov 11 2026. No macro, syntax, notation, axiom, sorry.
-/
import Derived.Test.YtfpiolnbnfngkaaChecked
import GoSem.Claim
import GoSem.ClaimJoined
import GoSem.ClaimMapViews
import Derived.JoinedTies
import Derived.KernelRfl
namespace Go.Proofs.Ytfpiolnbnfngkaa
/- THE CELL 'sum', in the pinned program and in every row, IS THE sha256 OF THE DUMP (.gsa) THAT YtfpiolnbnfngkaaProg.lean LOADS. Nothing in Lean hashes anything: it is a label: what it is worth is what the hold of that sum in a sandbox is worth. -/
noncomputable def Try.pinned : Pinned := { name := "ytfpiolnbnfngkaa", sum := "51984512e59c0067f971f26252668519ba881e9e6a4112220d8cb6957a31fab6", checked := Try.checked }
namespace Rows
def none {H : Type} : Left H := { results := [], args := [] }

/-- 'chapletlaw12.ServeOwn': WHATEVER THE INPUT: true; the input reads as it did. -/
def serveOwnSpec : ChangeSpec := { name := "serveOwn", fn := fun _ => fun
  | [d1, d2, d3] => { results := [.lit (.bool true)], args := [d1, d2, d3] }
  | _ => none }
def serveOwnRow : OpenClaim := { program := "ytfpiolnbnfngkaa", sum := "51984512e59c0067f971f26252668519ba881e9e6a4112220d8cb6957a31fab6", func := "chaplet/chapletlaw12.ServeOwn", spec := "serveOwn", unfollowed := true, recurses := true, apart := false }
def ServeOwnSaid : Prop := serveOwnRow.holds Try.pinned (OpenSpec.ofChange serveOwnSpec)

/-- ITS FALSE NEIGHBOUR: 'it returns false'. Refute it at one input. -/
def serveOwnWrong : ChangeSpec := { name := "serveOwn", fn := fun _ => fun
  | [d1, d2, d3] => { results := [.lit (.bool false)], args := [d1, d2, d3] }
  | _ => none }
def ServeOwnWrongFalsely : Prop := serveOwnRow.holds Try.pinned (OpenSpec.ofChange serveOwnWrong)

/-- 'chapletlaw12.ServeTurns': WHATEVER THE INPUT: true; the input reads as it did. -/
def serveTurnsSpec : ChangeSpec := { name := "serveTurns", fn := fun _ => fun
  | [d1, d2, d3, d4, d5, d6] => { results := [.lit (.bool true)], args := [d1, d2, d3, d4, d5, d6] }
  | _ => none }
def serveTurnsRow : OpenClaim := { program := "ytfpiolnbnfngkaa", sum := "51984512e59c0067f971f26252668519ba881e9e6a4112220d8cb6957a31fab6", func := "chaplet/chapletlaw12.ServeTurns", spec := "serveTurns", unfollowed := true, recurses := true, apart := false }
def ServeTurnsSaid : Prop := serveTurnsRow.holds Try.pinned (OpenSpec.ofChange serveTurnsSpec)

/-- ITS FALSE NEIGHBOUR: 'it returns false'. Refute it at one input. -/
def serveTurnsWrong : ChangeSpec := { name := "serveTurns", fn := fun _ => fun
  | [d1, d2, d3, d4, d5, d6] => { results := [.lit (.bool false)], args := [d1, d2, d3, d4, d5, d6] }
  | _ => none }
def ServeTurnsWrongFalsely : Prop := serveTurnsRow.holds Try.pinned (OpenSpec.ofChange serveTurnsWrong)

/-- 'chapletlaw12.ServeList': WHATEVER THE INPUT: true; the input reads as it did. -/
def serveListSpec : ChangeSpec := { name := "serveList", fn := fun _ => fun
  | [d1, d2] => { results := [.lit (.bool true)], args := [d1, d2] }
  | _ => none }
def serveListRow : OpenClaim := { program := "ytfpiolnbnfngkaa", sum := "51984512e59c0067f971f26252668519ba881e9e6a4112220d8cb6957a31fab6", func := "chaplet/chapletlaw12.ServeList", spec := "serveList", unfollowed := true, recurses := true, apart := false }
def ServeListSaid : Prop := serveListRow.holds Try.pinned (OpenSpec.ofChange serveListSpec)

/-- ITS FALSE NEIGHBOUR: 'it returns false'. Refute it at one input. -/
def serveListWrong : ChangeSpec := { name := "serveList", fn := fun _ => fun
  | [d1, d2] => { results := [.lit (.bool false)], args := [d1, d2] }
  | _ => none }
def ServeListWrongFalsely : Prop := serveListRow.holds Try.pinned (OpenSpec.ofChange serveListWrong)

/-- 'chapletlaw08.CacheSets': WHATEVER THE INPUT: true; the input reads as it did. -/
def cacheSetsSpec : ChangeSpec := { name := "cacheSets", fn := fun _ => fun
  | [d1, d2, d3] => { results := [.lit (.bool true)], args := [d1, d2, d3] }
  | _ => none }
def cacheSetsRow : OpenClaim := { program := "ytfpiolnbnfngkaa", sum := "51984512e59c0067f971f26252668519ba881e9e6a4112220d8cb6957a31fab6", func := "chaplet/chapletlaw08.CacheSets", spec := "cacheSets", unfollowed := true, recurses := true, apart := false }
def CacheSetsSaid : Prop := cacheSetsRow.holds Try.pinned (OpenSpec.ofChange cacheSetsSpec)

/-- ITS FALSE NEIGHBOUR: 'it returns false'. Refute it at one input. -/
def cacheSetsWrong : ChangeSpec := { name := "cacheSets", fn := fun _ => fun
  | [d1, d2, d3] => { results := [.lit (.bool false)], args := [d1, d2, d3] }
  | _ => none }
def CacheSetsWrongFalsely : Prop := cacheSetsRow.holds Try.pinned (OpenSpec.ofChange cacheSetsWrong)

/-- 'chapletlaw08.CacheMemory': WHATEVER THE INPUT: true; the input reads as it did. -/
def cacheMemorySpec : ChangeSpec := { name := "cacheMemory", fn := fun _ => fun
  | [d1, d2] => { results := [.lit (.bool true)], args := [d1, d2] }
  | _ => none }
def cacheMemoryRow : OpenClaim := { program := "ytfpiolnbnfngkaa", sum := "51984512e59c0067f971f26252668519ba881e9e6a4112220d8cb6957a31fab6", func := "chaplet/chapletlaw08.CacheMemory", spec := "cacheMemory", unfollowed := true, recurses := true, apart := false }
def CacheMemorySaid : Prop := cacheMemoryRow.holds Try.pinned (OpenSpec.ofChange cacheMemorySpec)

/-- ITS FALSE NEIGHBOUR: 'it returns false'. Refute it at one input. -/
def cacheMemoryWrong : ChangeSpec := { name := "cacheMemory", fn := fun _ => fun
  | [d1, d2] => { results := [.lit (.bool false)], args := [d1, d2] }
  | _ => none }
def CacheMemoryWrongFalsely : Prop := cacheMemoryRow.holds Try.pinned (OpenSpec.ofChange cacheMemoryWrong)

/-- 'chapletlaw08.CachePlays': WHATEVER THE INPUT: true; the input reads as it did. -/
def cachePlaysSpec : ChangeSpec := { name := "cachePlays", fn := fun _ => fun
  | [d1, d2, d3] => { results := [.lit (.bool true)], args := [d1, d2, d3] }
  | _ => none }
def cachePlaysRow : OpenClaim := { program := "ytfpiolnbnfngkaa", sum := "51984512e59c0067f971f26252668519ba881e9e6a4112220d8cb6957a31fab6", func := "chaplet/chapletlaw08.CachePlays", spec := "cachePlays", unfollowed := true, recurses := true, apart := false }
def CachePlaysSaid : Prop := cachePlaysRow.holds Try.pinned (OpenSpec.ofChange cachePlaysSpec)

/-- ITS FALSE NEIGHBOUR: 'it returns false'. Refute it at one input. -/
def cachePlaysWrong : ChangeSpec := { name := "cachePlays", fn := fun _ => fun
  | [d1, d2, d3] => { results := [.lit (.bool false)], args := [d1, d2, d3] }
  | _ => none }
def CachePlaysWrongFalsely : Prop := cachePlaysRow.holds Try.pinned (OpenSpec.ofChange cachePlaysWrong)

/-- 'chapletlaw08.CacheLeast': WHATEVER THE INPUT: true; the input reads as it did. -/
def cacheLeastSpec : ChangeSpec := { name := "cacheLeast", fn := fun _ => fun
  | [d1, d2] => { results := [.lit (.bool true)], args := [d1, d2] }
  | _ => none }
def cacheLeastRow : OpenClaim := { program := "ytfpiolnbnfngkaa", sum := "51984512e59c0067f971f26252668519ba881e9e6a4112220d8cb6957a31fab6", func := "chaplet/chapletlaw08.CacheLeast", spec := "cacheLeast", unfollowed := true, recurses := true, apart := false }
def CacheLeastSaid : Prop := cacheLeastRow.holds Try.pinned (OpenSpec.ofChange cacheLeastSpec)

/-- ITS FALSE NEIGHBOUR: 'it returns false'. Refute it at one input. -/
def cacheLeastWrong : ChangeSpec := { name := "cacheLeast", fn := fun _ => fun
  | [d1, d2] => { results := [.lit (.bool false)], args := [d1, d2] }
  | _ => none }
def CacheLeastWrongFalsely : Prop := cacheLeastRow.holds Try.pinned (OpenSpec.ofChange cacheLeastWrong)

/-- 'chapletlaw08.CacheClock': WHATEVER THE INPUT: true; the input reads as it did. -/
def cacheClockSpec : ChangeSpec := { name := "cacheClock", fn := fun _ => fun
  | [d] => { results := [.lit (.bool true)], args := [d] }
  | _ => none }
def cacheClockRow : OpenClaim := { program := "ytfpiolnbnfngkaa", sum := "51984512e59c0067f971f26252668519ba881e9e6a4112220d8cb6957a31fab6", func := "chaplet/chapletlaw08.CacheClock", spec := "cacheClock", unfollowed := true, recurses := true, apart := false }
def CacheClockSaid : Prop := cacheClockRow.holds Try.pinned (OpenSpec.ofChange cacheClockSpec)

/-- ITS FALSE NEIGHBOUR: 'it returns false'. Refute it at one input. -/
def cacheClockWrong : ChangeSpec := { name := "cacheClock", fn := fun _ => fun
  | [d] => { results := [.lit (.bool false)], args := [d] }
  | _ => none }
def CacheClockWrongFalsely : Prop := cacheClockRow.holds Try.pinned (OpenSpec.ofChange cacheClockWrong)

/-- 'chapletlaw12.ServeErrors': WHATEVER THE INPUT: true; the input reads as it did. -/
def serveErrorsSpec : ChangeSpec := { name := "serveErrors", fn := fun _ => fun
  | [d1, d2, d3, d4] => { results := [.lit (.bool true)], args := [d1, d2, d3, d4] }
  | _ => none }
def serveErrorsRow : OpenClaim := { program := "ytfpiolnbnfngkaa", sum := "51984512e59c0067f971f26252668519ba881e9e6a4112220d8cb6957a31fab6", func := "chaplet/chapletlaw12.ServeErrors", spec := "serveErrors", unfollowed := true, recurses := true, apart := false }
def ServeErrorsSaid : Prop := serveErrorsRow.holds Try.pinned (OpenSpec.ofChange serveErrorsSpec)

/-- ITS FALSE NEIGHBOUR: 'it returns false'. Refute it at one input. -/
def serveErrorsWrong : ChangeSpec := { name := "serveErrors", fn := fun _ => fun
  | [d1, d2, d3, d4] => { results := [.lit (.bool false)], args := [d1, d2, d3, d4] }
  | _ => none }
def ServeErrorsWrongFalsely : Prop := serveErrorsRow.holds Try.pinned (OpenSpec.ofChange serveErrorsWrong)

/-- 'chapletlaw12.ServeHandles': WHATEVER THE INPUT: true; the input reads as it did. -/
def serveHandlesSpec : ChangeSpec := { name := "serveHandles", fn := fun _ => fun
  | [d1, d2, d3, d4, d5] => { results := [.lit (.bool true)], args := [d1, d2, d3, d4, d5] }
  | _ => none }
def serveHandlesRow : OpenClaim := { program := "ytfpiolnbnfngkaa", sum := "51984512e59c0067f971f26252668519ba881e9e6a4112220d8cb6957a31fab6", func := "chaplet/chapletlaw12.ServeHandles", spec := "serveHandles", unfollowed := true, recurses := true, apart := false }
def ServeHandlesSaid : Prop := serveHandlesRow.holds Try.pinned (OpenSpec.ofChange serveHandlesSpec)

/-- ITS FALSE NEIGHBOUR: 'it returns false'. Refute it at one input. -/
def serveHandlesWrong : ChangeSpec := { name := "serveHandles", fn := fun _ => fun
  | [d1, d2, d3, d4, d5] => { results := [.lit (.bool false)], args := [d1, d2, d3, d4, d5] }
  | _ => none }
def ServeHandlesWrongFalsely : Prop := serveHandlesRow.holds Try.pinned (OpenSpec.ofChange serveHandlesWrong)

/- THE SECOND FORM. 'bulk': how many values and letters a reading holds, each counted each time it is reached (what is shared counts as often as it is met; a slice's spare places count too). A statement '..UptoSaid' is the law's where the arguments, and the package variables that the reading takes, are together of bulk at most 1048576: NARROWER than '..Said'. Prove '..Said' where nothing that the law and all that it calls make is longer than what came in: it says more and counts as full. Else prove '..UptoSaid'. A law counts once. -/
mutual
def uptoBulk {H : Type} : DataW H → Nat
  | .lit (.string bytes) => bytes.length + 1
  | .lit _ => 1
  | .nil => 1
  | .ptr d => uptoBulk d + 1
  | .slice elems spare => uptoBulkAll elems + uptoBulkAll spare + 1
  | .agg parts => uptoBulkAll parts + 1
  | .iface _ d => uptoBulk d + 1
  | .map entries => uptoBulkEntries entries + 1
  | .held _ => 1
def uptoBulkAll {H : Type} : List (DataW H) → Nat
  | [] => 0
  | d :: r => uptoBulk d + uptoBulkAll r
def uptoBulkEntries {H : Type} : List (Lit × DataW H) → Nat
  | [] => 0
  | x :: r => uptoBulkEntry x + uptoBulkEntries r
def uptoBulkEntry {H : Type} : Lit × DataW H → Nat
  | (.string bytes, d) => bytes.length + uptoBulk d + 1
  | (_, d) => uptoBulk d + 1
 end
def uptoSmall : (H : Type) → List (DataW H) → Bool := fun _ ds => decide (uptoBulkAll ds ≤ 1048576)
def OpenSpec.upto (s : _root_.Go.ChangeSpec) : _root_.Go.OpenSpec := { _root_.Go.OpenSpec.ofChange s with cond := some uptoSmall }

/-- 'chapletlaw12.ServeOwn', WHERE WHAT IT READS IS OF BULK AT MOST 1048576: true; the input reads as it did. -/
def serveOwnUptoRow : OpenClaim := { program := "ytfpiolnbnfngkaa", sum := "51984512e59c0067f971f26252668519ba881e9e6a4112220d8cb6957a31fab6", func := "chaplet/chapletlaw12.ServeOwn", spec := "serveOwn", unfollowed := true, recurses := true, apart := false, narrowed := true }
def ServeOwnUptoSaid : Prop := serveOwnUptoRow.holds Try.pinned (OpenSpec.upto serveOwnSpec)

/-- 'chapletlaw12.ServeTurns', WHERE WHAT IT READS IS OF BULK AT MOST 1048576: true; the input reads as it did. -/
def serveTurnsUptoRow : OpenClaim := { program := "ytfpiolnbnfngkaa", sum := "51984512e59c0067f971f26252668519ba881e9e6a4112220d8cb6957a31fab6", func := "chaplet/chapletlaw12.ServeTurns", spec := "serveTurns", unfollowed := true, recurses := true, apart := false, narrowed := true }
def ServeTurnsUptoSaid : Prop := serveTurnsUptoRow.holds Try.pinned (OpenSpec.upto serveTurnsSpec)

/-- 'chapletlaw12.ServeList', WHERE WHAT IT READS IS OF BULK AT MOST 1048576: true; the input reads as it did. -/
def serveListUptoRow : OpenClaim := { program := "ytfpiolnbnfngkaa", sum := "51984512e59c0067f971f26252668519ba881e9e6a4112220d8cb6957a31fab6", func := "chaplet/chapletlaw12.ServeList", spec := "serveList", unfollowed := true, recurses := true, apart := false, narrowed := true }
def ServeListUptoSaid : Prop := serveListUptoRow.holds Try.pinned (OpenSpec.upto serveListSpec)

/-- 'chapletlaw08.CacheSets', WHERE WHAT IT READS IS OF BULK AT MOST 1048576: true; the input reads as it did. -/
def cacheSetsUptoRow : OpenClaim := { program := "ytfpiolnbnfngkaa", sum := "51984512e59c0067f971f26252668519ba881e9e6a4112220d8cb6957a31fab6", func := "chaplet/chapletlaw08.CacheSets", spec := "cacheSets", unfollowed := true, recurses := true, apart := false, narrowed := true }
def CacheSetsUptoSaid : Prop := cacheSetsUptoRow.holds Try.pinned (OpenSpec.upto cacheSetsSpec)

/-- 'chapletlaw08.CacheMemory', WHERE WHAT IT READS IS OF BULK AT MOST 1048576: true; the input reads as it did. -/
def cacheMemoryUptoRow : OpenClaim := { program := "ytfpiolnbnfngkaa", sum := "51984512e59c0067f971f26252668519ba881e9e6a4112220d8cb6957a31fab6", func := "chaplet/chapletlaw08.CacheMemory", spec := "cacheMemory", unfollowed := true, recurses := true, apart := false, narrowed := true }
def CacheMemoryUptoSaid : Prop := cacheMemoryUptoRow.holds Try.pinned (OpenSpec.upto cacheMemorySpec)

/-- 'chapletlaw08.CachePlays', WHERE WHAT IT READS IS OF BULK AT MOST 1048576: true; the input reads as it did. -/
def cachePlaysUptoRow : OpenClaim := { program := "ytfpiolnbnfngkaa", sum := "51984512e59c0067f971f26252668519ba881e9e6a4112220d8cb6957a31fab6", func := "chaplet/chapletlaw08.CachePlays", spec := "cachePlays", unfollowed := true, recurses := true, apart := false, narrowed := true }
def CachePlaysUptoSaid : Prop := cachePlaysUptoRow.holds Try.pinned (OpenSpec.upto cachePlaysSpec)

/-- 'chapletlaw08.CacheLeast', WHERE WHAT IT READS IS OF BULK AT MOST 1048576: true; the input reads as it did. -/
def cacheLeastUptoRow : OpenClaim := { program := "ytfpiolnbnfngkaa", sum := "51984512e59c0067f971f26252668519ba881e9e6a4112220d8cb6957a31fab6", func := "chaplet/chapletlaw08.CacheLeast", spec := "cacheLeast", unfollowed := true, recurses := true, apart := false, narrowed := true }
def CacheLeastUptoSaid : Prop := cacheLeastUptoRow.holds Try.pinned (OpenSpec.upto cacheLeastSpec)

/-- 'chapletlaw08.CacheClock', WHERE WHAT IT READS IS OF BULK AT MOST 1048576: true; the input reads as it did. -/
def cacheClockUptoRow : OpenClaim := { program := "ytfpiolnbnfngkaa", sum := "51984512e59c0067f971f26252668519ba881e9e6a4112220d8cb6957a31fab6", func := "chaplet/chapletlaw08.CacheClock", spec := "cacheClock", unfollowed := true, recurses := true, apart := false, narrowed := true }
def CacheClockUptoSaid : Prop := cacheClockUptoRow.holds Try.pinned (OpenSpec.upto cacheClockSpec)

/-- 'chapletlaw12.ServeErrors', WHERE WHAT IT READS IS OF BULK AT MOST 1048576: true; the input reads as it did. -/
def serveErrorsUptoRow : OpenClaim := { program := "ytfpiolnbnfngkaa", sum := "51984512e59c0067f971f26252668519ba881e9e6a4112220d8cb6957a31fab6", func := "chaplet/chapletlaw12.ServeErrors", spec := "serveErrors", unfollowed := true, recurses := true, apart := false, narrowed := true }
def ServeErrorsUptoSaid : Prop := serveErrorsUptoRow.holds Try.pinned (OpenSpec.upto serveErrorsSpec)

/-- 'chapletlaw12.ServeHandles', WHERE WHAT IT READS IS OF BULK AT MOST 1048576: true; the input reads as it did. -/
def serveHandlesUptoRow : OpenClaim := { program := "ytfpiolnbnfngkaa", sum := "51984512e59c0067f971f26252668519ba881e9e6a4112220d8cb6957a31fab6", func := "chaplet/chapletlaw12.ServeHandles", spec := "serveHandles", unfollowed := true, recurses := true, apart := false, narrowed := true }
def ServeHandlesUptoSaid : Prop := serveHandlesUptoRow.holds Try.pinned (OpenSpec.upto serveHandlesSpec)

end Rows
end Go.Proofs.Ytfpiolnbnfngkaa
