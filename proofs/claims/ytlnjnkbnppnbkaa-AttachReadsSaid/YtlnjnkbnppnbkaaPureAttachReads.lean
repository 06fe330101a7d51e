/- The law AttachReads answers true at every input: the plain side. -/
import Derived.Test.YtlnjnkbnppnbkaaLawAttachReads
import Derived.Test.YtlnjnkbnppnbkaaPureC15
set_option linter.unusedSimpArgs false
set_option linter.unusedVariables false
namespace Go.Proofs.Ytlnjnkbnppnbkaa
open Go
theorem wakes14_is : wakes14S = some true := by rfl
theorem ksame_self (xs : List Int) (h : xs.length ≤ 1099511627776) : ksameS xs xs = some true := by simp [ksameS, chk, okL, h]
set_option maxRecDepth 100000 in
set_option maxHeartbeats 8000000 in
theorem attachReads_pure (line id node head : Int) (data more : List Int) (fresh dirty : Bool) : attachReadsS line id node head data more fresh dirty = some true := by
  obtain ⟨l, hl, hwl⟩ : ∃ k, (0 ≤ k ∧ k < 4) ∧ withinS line 4 = some k := ⟨line % 4, by omega, by simp [withinS, chk]⟩
  obtain ⟨i, hi, hwi⟩ : ∃ k, (0 ≤ k ∧ k < 9) ∧ withinS id 9 = some k := ⟨id % 9, by omega, by simp [withinS, chk]⟩
  obtain ⟨n, hn, hwn⟩ : ∃ k, (0 ≤ k ∧ k < 3) ∧ withinS node 3 = some k := ⟨node % 3, by omega, by simp [withinS, chk]⟩
  obtain ⟨h, hh, hwh⟩ : ∃ k, (0 ≤ k ∧ k < 3) ∧ withinS head 3 = some k := ⟨head % 3, by omega, by simp [withinS, chk]⟩
  have hcd : cutS data 2 = some (data.take 2) := by simp [cutS, chk]
  have hcm : cutS more 2 = some (more.take 2) := by simp [cutS, chk]
  obtain ⟨xs, hx, hxl⟩ : ∃ xs, data.take 2 ++ [1] = xs ∧ xs.length ≤ 3 := ⟨_, rfl, by simp; omega⟩
  obtain ⟨zs, hz, hzl⟩ : ∃ xs, more.take 2 ++ [2] = xs ∧ xs.length ≤ 3 := ⟨_, rfl, by simp; omega⟩
  have hx2 : xs.length ≤ 1099511627776 := Nat.le_trans hxl (by decide)
  have hz2 : zs.length ≤ 1099511627776 := Nat.le_trans hzl (by decide)
  have hz0 : 0 < zs.length := by rw [← hz]; simp
  have hneg : ¬ l < 0 := by omega
  have hw3 : wr (3 + h) = 3 + h := wr_in (by omega) (by omega)
  have hne : ¬ (3 + h = -1) := by omega
  have hxk := ksame_self xs hx2
  have hzk := ksame_self zs hz2
  unfold attachReadsS
  simp only [hwl, hwi, hwn, hwh, hcd, hcm, Option.bind_some, hx, hz, letP]
  cases fresh <;> cases dirty <;> simp [okL, okC, zeroE, withinS, copyS, cutS, newC, enewS, ecloneS, findE, findS, putC, putS, dropC, dropS, touchC, touchS, fullS, lenC, pansS, dkindS, dbeginS, daskS, dfitsS, eisS, ewordS, lheadS, ltailS, lonlyS, rnewS, pwalkS_j0, pwalkS, pnextS_j0, pnextS_j1, pnextS, wakes15S, alockedS, atoldS, anextS_j0, anextS, wakes14S_j0, attachReadsS_j0, attachReadsS_j3, attachReadsS_j2, attachReadsS_j1, letP, chk, idx, setL, inSet, List.findIdx?_cons, nth, bothNil_is, wakes14_is, hx2, hz2, hneg, hw3, hne, hxk, hzk, hz0]
end Go.Proofs.Ytlnjnkbnppnbkaa
