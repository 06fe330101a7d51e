/- The law RolloutOther answers true at every input: the plain side. -/
import Derived.Test.YtlnjnkbnppnbkaaLawRolloutOther
import Derived.Test.YtlnjnkbnppnbkaaPureC15
import Derived.KernelRfl
set_option linter.unusedSimpArgs false
set_option linter.unusedVariables false
namespace Go.Proofs.Ytlnjnkbnppnbkaa
open Go
theorem wakes16_is : wakes16S = some true := by rfl
set_option maxRecDepth 100000 in
set_option maxHeartbeats 8000000 in
theorem rolloutOther_pure (v step : Int) : rolloutOtherS v step = some true := by
  obtain ⟨k, hk, hw⟩ : ∃ k, (k = 0 ∨ k = 1 ∨ k = 2 ∨ k = 3 ∨ k = 4 ∨ k = 5 ∨ k = 6 ∨ k = 7) ∧ withinS step 8 = some k := ⟨step % 8, by omega, by simp [withinS, chk]⟩
  have e : rolloutOtherS v step = rolloutOtherS_k0 v 11 ⟨[⟨0, 3, 1, 1, false, [v]⟩], 1, 2, 1⟩ := by
    unfold rolloutOtherS
    simp only [hw]
    rcases hk with rfl | rfl | rfl | rfl | rfl | rfl | rfl | rfl <;> kernel_rfl
  rw [e]
  simp [okL, okC, zeroE, withinS, copyS, cutS, newC, enewS, ecloneS, findE, findS, putC, putS, dropC, dropS, touchC, touchS, fullS, lenC, pansS, dkindS, dbeginS, daskS, dfitsS, eisS, ewordS, lheadS, ltailS, lonlyS, rnewS, pwalkS_j0, pwalkS, pnextS_j0, pnextS_j1, pnextS, wakes15S, ksameR_k0, ksameR_l0, ksameR, ksameS, routS, rlockedS, rnextS_j0, rnextS, rolloutOtherS_j3, rolloutOtherS_k2, rolloutOtherS_l2, rolloutOtherS_k0, rolloutOtherS_l0, rolloutOtherS, letP, chk, idx, setL, inSet, List.findIdx?_cons, nth, wakes16_is]
end Go.Proofs.Ytlnjnkbnppnbkaa
