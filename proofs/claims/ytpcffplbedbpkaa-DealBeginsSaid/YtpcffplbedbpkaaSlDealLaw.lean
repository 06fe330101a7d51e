/- What a step asks for, and which answer fits, as functions of numbers.
   Conditions: none. -/
import Derived.Test.YtpcffplbedbpkaaSlMore
namespace Go.Proofs.Ytpcffplbedbpkaa
open Go
def kindI (s : Int) : Int := if s = 1 then 1 else if s = 2 then 3 else if s = 3 then 6 else if s = 4 then 4 else if s = 5 then 5 else if s = 6 then 2 else 0
def answerI (k : Int) : Int := if k = 1 then 7 else if k = 2 then 8 else if k = 4 then 8 else if k = 5 then 8 else if k = 3 then 9 else if k = 6 then 9 else 0
def wantI (s : Int) : Int := answerI (kindI s)
/-- Does a packet of a kind, a number, a line answer a step? -/
def fitsB (s id line pk pid pl : Int) : Bool := decide (wantI s ≠ 0) && decide (pk = wantI s) && decide (pid = id) && decide (pl = line)
end Go.Proofs.Ytpcffplbedbpkaa
