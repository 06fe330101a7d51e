/- The law RolloutPurged answers true at every input: the plain side. -/
import Derived.Test.YtlnjnkbnppnbkaaLawRolloutPurged
set_option linter.unusedSimpArgs false
set_option linter.unusedVariables false
namespace Go.Proofs.Ytlnjnkbnppnbkaa
open Go
theorem wakes16_is : wakes16S = some true := by rfl
set_option maxRecDepth 100000 in
set_option maxHeartbeats 8000000 in
theorem rolloutPurged_pure (line head state node v : Int) : rolloutPurgedS line head state node v = some true := by
  unfold rolloutPurgedS
  have h1 : line % 8 = 0 ∨ line % 8 = 1 ∨ line % 8 = 2 ∨ line % 8 = 3 ∨ line % 8 = 4 ∨ line % 8 = 5 ∨ line % 8 = 6 ∨ line % 8 = 7 := by omega
  have h2 := wr_in (x := head % 7 - 1) (by omega) (by omega)
  have h3 : wr (1 + state % 2) = 1 + state % 2 := wr_in (by omega) (by omega)
  have h4 : head % 7 - 1 = -1 ∨ ¬ head % 7 - 1 = -1 := by omega
  rcases h1 with h | h | h | h | h | h | h | h <;> rcases h4 with h4 | h4 <;> simp [okL, okC, zeroE, withinS, copyS, cutS, newC, enewS, ecloneS, findE, findS, putC, putS, dropC, dropS, touchC, touchS, fullS, lenC, pansS, dkindS, dbeginS, daskS, dfitsS, eisS, ewordS, lheadS, ltailS, lonlyS, rnewS, pwalkS_j0, pwalkS, pnextS_j0, pnextS_j1, pnextS, wakes15S, ksameR_k0, ksameR_l0, ksameR, ksameS, routS, rlockedS, rnextS_j0, rnextS, rolloutPurgedS_j0, rolloutPurgedS, letP, chk, idx, setL, inSet, List.findIdx?_cons, nth, wakes16_is, h, inR, wr_in, h2, h3, h4]
end Go.Proofs.Ytlnjnkbnppnbkaa
