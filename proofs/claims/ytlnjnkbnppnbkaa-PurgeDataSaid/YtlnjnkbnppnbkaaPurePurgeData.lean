/- The law PurgeData answers true at every input: the plain side. -/
import Derived.Test.YtlnjnkbnppnbkaaLawPurgeData
namespace Go.Proofs.Ytlnjnkbnppnbkaa
open Go
theorem bothNil_is : bothNilS = some (⟨[], 2, 2, 0⟩, ⟨[], 2, 2, 0⟩) := by rfl
theorem wakes15_is : wakes15S = some true := by rfl
theorem purgeData_pure (a b d : Int) (mine : Bool) : purgeDataS a b d mine = some true := by
  unfold purgeDataS
  rw [bothNil_is]
  cases mine <;> simp [copyS, cutS, daskS, dbeginS, dfitsS, dkindS, dropC, dropS, ecloneS, eisS, enewS, ewordS, findE, findS, fullS, lenC, lheadS, lonlyS, ltailS, newC, okC, okL, pansS, pnextS, pnextS_j0, pnextS_j1, purgeDataS, purgeDataS_j0, purgeDataS_j1, purgeDataS_j2, putC, putS, pwalkS, pwalkS_j0, rnewS, touchC, touchS, withinS, zeroE, wakes15_is, letP, chk, idx, setL, inSet, List.findIdx?_cons, nth]
end Go.Proofs.Ytlnjnkbnppnbkaa
