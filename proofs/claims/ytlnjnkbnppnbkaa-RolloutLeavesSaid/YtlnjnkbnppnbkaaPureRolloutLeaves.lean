/- The law RolloutLeaves answers true at every input: the plain side. -/
import Derived.Test.YtlnjnkbnppnbkaaLawRolloutLeaves
import Derived.Test.YtlnjnkbnppnbkaaPureC15
import Derived.KernelRfl
set_option linter.unusedSimpArgs false
set_option linter.unusedVariables false
namespace Go.Proofs.Ytlnjnkbnppnbkaa
open Go
theorem wakes16_is : wakes16S = some true := by rfl
theorem within_lit (v n r : Int) (h1 : 1 ≤ n) (h2 : n ≤ 100) (h : v % n = r) : withinS v n = some r := by
  unfold withinS
  rw [chk_true ⟨h1, by omega⟩, h]
theorem ksame_one (x : Int) : ksameS [x] [x] = some true := by simp [ksameS, chk, okL]
set_option maxRecDepth 100000 in
set_option maxHeartbeats 4000000 in
theorem rolloutLeaves_pure (fwd back told data : Int) (dirty there : Bool) : rolloutLeavesS fwd back told data dirty there = some true := by
  obtain ⟨f, hf, hwf⟩ : ∃ k, (k = 0 ∨ k = 1 ∨ k = 2) ∧ withinS fwd 3 = some k := ⟨fwd % 3, by omega, by simp [withinS, chk]⟩
  obtain ⟨b, hb, hwb⟩ : ∃ k, (k = 0 ∨ k = 1 ∨ k = 2) ∧ withinS back 3 = some k := ⟨back % 3, by omega, by simp [withinS, chk]⟩
  obtain ⟨t, ht, hwt⟩ : ∃ k, (k = 0 ∨ k = 1) ∧ withinS told 2 = some k := ⟨told % 2, by omega, by simp [withinS, chk]⟩
  by_cases hsp : (f = 0 ∧ b = 0) ∧ dirty = true ∧ there = true
  · obtain ⟨⟨rfl, rfl⟩, rfl, rfl⟩ := hsp
    unfold rolloutLeavesS
    simp only [hwf, hwb, hwt]
    rcases ht with rfl | rfl <;> simp [okL, okC, zeroE, withinS, copyS, cutS, newC, enewS, ecloneS, findE, findS, putC, putS, dropC, dropS, touchC, touchS, fullS, lenC, pansS, dkindS, dbeginS, daskS, dfitsS, eisS, ewordS, lheadS, ltailS, lonlyS, rnewS, pwalkS_j0, pwalkS, pnextS_j0, pnextS_j1, pnextS, wakes15S, routS, rlockedS, rnextS_j0, rnextS, rolloutLeavesS_j7, rolloutLeavesS_j6, rolloutLeavesS_j9, rolloutLeavesS_j8, rolloutLeavesS_j10, rolloutLeavesS_j5, rolloutLeavesS_j4, rolloutLeavesS_j3, rolloutLeavesS_j2, rolloutLeavesS_j1, rolloutLeavesS_j0, rolloutLeavesS, letP, chk, idx, setL, inSet, List.findIdx?_cons, nth, bothNil_is, wakes16_is, ksame_one]
  · unfold rolloutLeavesS
    simp only [hwf, hwb, hwt]
    cases dirty <;> cases there
    · rcases hf with rfl | rfl | rfl <;> rcases hb with rfl | rfl | rfl <;> rcases ht with rfl | rfl <;> kernel_rfl
    · rcases hf with rfl | rfl | rfl <;> rcases hb with rfl | rfl | rfl <;> rcases ht with rfl | rfl <;> kernel_rfl
    · rcases hf with rfl | rfl | rfl <;> rcases hb with rfl | rfl | rfl <;> rcases ht with rfl | rfl <;> kernel_rfl
    · rcases hf with rfl | rfl | rfl <;> rcases hb with rfl | rfl | rfl
      · exact absurd ⟨⟨rfl, rfl⟩, rfl, rfl⟩ hsp
      all_goals (rcases ht with rfl | rfl <;> kernel_rfl)
end Go.Proofs.Ytlnjnkbnppnbkaa
