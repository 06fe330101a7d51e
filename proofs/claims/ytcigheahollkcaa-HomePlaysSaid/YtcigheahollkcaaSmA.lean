/- Whether both caches are the same. -/
import Derived.Test.YtcigheahollkcaaOwnB
import Derived.Test.YtcigheahollkcaaKsA
namespace Go.Proofs.Ytcigheahollkcaa
open Go Go.RowKit
set_option linter.unusedVariables false
set_option linter.unusedSimpArgs false

end Go.Proofs.Ytcigheahollkcaa
