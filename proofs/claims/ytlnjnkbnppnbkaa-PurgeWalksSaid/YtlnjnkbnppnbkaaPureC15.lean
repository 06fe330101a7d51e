/- Caches at first, and the example of the document: what they come to. -/
import Derived.Test.YtlnjnkbnppnbkaaPdB
set_option linter.unusedSimpArgs false
set_option linter.unusedVariables false
namespace Go.Proofs.Ytlnjnkbnppnbkaa
open Go
theorem bothNil_is : bothNilS = some (⟨[], 2, 2, 0⟩, ⟨[], 2, 2, 0⟩) := by rfl
theorem wakes15_is : wakes15S = some true := by rfl
end Go.Proofs.Ytlnjnkbnppnbkaa
