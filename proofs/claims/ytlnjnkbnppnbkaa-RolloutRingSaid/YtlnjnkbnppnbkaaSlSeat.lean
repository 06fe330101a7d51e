/- The rows of the program's table of types, as the walks ask for them.
   Conditions: none. -/
import Derived.Test.YtlnjnkbnppnbkaaSlMore
import Derived.Test.YtlnjnkbnppnbkaaProg
namespace Go.Proofs.Ytlnjnkbnppnbkaa
open Go Go.RowKit
noncomputable def tinfo (t : Nat) : TypeInfo := (Try.prog.info? t).getD default
end Go.Proofs.Ytlnjnkbnppnbkaa
