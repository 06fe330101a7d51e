/- The law CacheMemory answers true at every input: the plain side. -/
import Derived.Test.YtfpiolnbnfngkaaLawCacheMemory
import Derived.KernelRfl
set_option linter.unusedSimpArgs false
set_option linter.unusedVariables false
namespace Go.Proofs.Ytfpiolnbnfngkaa
open Go
theorem wakes08_is : wakes08S = some true := by kernel_rfl
theorem ksame_self (xs : List Int) (h : xs.length ≤ 1099511627776) : ksameS xs xs = some true := by simp [ksameS, chk, okL, h]
set_option maxRecDepth 100000 in
set_option maxHeartbeats 8000000 in
theorem cacheMemory_pure (data : List Int) (v : Int) : cacheMemoryS data v = some true := by
  have hcd : cutS data 3 = some (data.take 3) := by simp [cutS, chk]
  obtain ⟨xs, hx, hxl⟩ : ∃ xs, data.take 3 ++ [1] = xs ∧ xs.length ≤ 4 := ⟨_, rfl, by simp; omega⟩
  have hx0 : 0 < xs.length := by rw [← hx]; simp
  have hx2 : xs.length ≤ 1099511627776 := Nat.le_trans hxl (by decide)
  obtain ⟨x, zs, rfl⟩ : ∃ x zs, xs = x :: zs := by
    cases xs with
    | nil => simp at hx0
    | cons x zs => exact ⟨x, zs, rfl⟩
  have hxk := ksame_self _ hx2
  have hz2 : zs.length + 1 ≤ 1099511627776 := by simpa using hx2
  unfold cacheMemoryS
  simp only [hcd, Option.bind_some, hx, letP]
  simp [okL, okC, zeroE, withinS, copyS, cutS, newC, enewS, ecloneS, findE, findS, putC, putS, dropC, dropS, touchC, touchS, fullS, lenC, lenTab, bitsLenS, isNaNS, lessS, eisS, ewordS, ewriteS_j0, ewriteS, cacheMemoryS_j0, letP, chk, idx, setL, inSet, List.findIdx?_cons, nth, wakes08_is, hx2, hxk, hz2, setI]
end Go.Proofs.Ytfpiolnbnfngkaa
