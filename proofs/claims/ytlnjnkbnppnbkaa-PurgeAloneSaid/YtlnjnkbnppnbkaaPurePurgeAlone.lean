/- The law PurgeAlone answers true at every input: the plain side. -/
import Derived.Test.YtlnjnkbnppnbkaaLawPurgeAlone
import Derived.Test.YtlnjnkbnppnbkaaPureC15
set_option linter.unusedSimpArgs false
set_option linter.unusedVariables false
namespace Go.Proofs.Ytlnjnkbnppnbkaa
open Go
set_option maxRecDepth 100000 in
set_option maxHeartbeats 8000000 in
theorem purgeAlone_pure (v node : Int) (dirty : Bool) : purgeAloneS v node dirty = some true := by
  unfold purgeAloneS
  rw [bothNil_is]
  have h1 : node % 6 ≠ -1 := by omega
  cases dirty <;> simp [okL, okC, zeroE, withinS, copyS, cutS, newC, enewS, ecloneS, findE, findS, putC, putS, dropC, dropS, touchC, touchS, fullS, lenC, pansS, dkindS, dbeginS, daskS, dfitsS, eisS, ewordS, lheadS, ltailS, lonlyS, rnewS, pwalkS_j0, pwalkS, pnextS_j0, pnextS_j1, pnextS, ksameR_k0, ksameR_l0, ksameR, ksameS, purgeAloneS_j0, purgeAloneS, letP, chk, idx, setL, inSet, List.findIdx?_cons, nth, wakes15_is, h1]
end Go.Proofs.Ytlnjnkbnppnbkaa
