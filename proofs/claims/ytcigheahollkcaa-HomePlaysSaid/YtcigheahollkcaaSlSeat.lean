/- The rows of the program's table of types, as the walks ask for them.
   Conditions: none. -/
import Derived.Test.YtcigheahollkcaaSlMore
import Derived.Test.YtcigheahollkcaaProg
namespace Go.Proofs.Ytcigheahollkcaa
open Go Go.RowKit
noncomputable def tinfo (t : Nat) : TypeInfo := (Try.prog.info? t).getD default
end Go.Proofs.Ytcigheahollkcaa
