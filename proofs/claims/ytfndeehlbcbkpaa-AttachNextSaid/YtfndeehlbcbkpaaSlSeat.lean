/- The rows of the program's table of types, as the walks ask for them.
   Conditions: none. -/
import Derived.Test.YtfndeehlbcbkpaaSlMore
import Derived.Test.YtfndeehlbcbkpaaProg
namespace Go.Proofs.Ytfndeehlbcbkpaa
open Go Go.RowKit
noncomputable def tinfo (t : Nat) : TypeInfo := (Try.prog.info? t).getD default
end Go.Proofs.Ytfndeehlbcbkpaa
