/- What a step asks for, and which answer fits, as functions of numbers.
   Conditions: none. -/
import Derived.Test.YtcigheahollkcaaSlMore
namespace Go.Proofs.Ytcigheahollkcaa
open Go
def kindI (s : Int) : Int := if s = 1 then 1 else if s = 2 then 3 else if s = 3 then 6 else if s = 4 then 4 else if s = 5 then 5 else if s = 6 then 2 else 0
def answerI (k : Int) : Int := if k = 1 then 7 else if k = 2 then 8 else if k = 4 then 8 else if k = 5 then 8 else if k = 3 then 9 else if k = 6 then 9 else 0
def wantI (s : Int) : Int := answerI (kindI s)
/-- Does a packet of a kind, a number, a line answer a step? -/
def fitsB (s id line pk pid pl : Int) : Bool := decide (wantI s ≠ 0) && decide (pk = wantI s) && decide (pid = id) && decide (pl = line)
def toI (s home head next : Int) : Int := if s = 2 then head else if s = 4 then head else if s = 3 then next else if s = 5 then next else home
def ptrI (s node head next : Int) : Int := if s = 2 then node else if s = 4 then next else if s = 5 then head else if s = 6 then head else 0
def stateI (s state : Int) : Int := if s = 6 then state else 0
def flagI (s : Int) (m : Nat) : Bool := decide (s = 6) && decide (0 < m)
def dataI (s : Int) (xs : List Int) : List Int := if s = 6 then xs else []
theorem dataI_len (s : Int) (xs : List Int) (n : Nat) (h : xs.length ≤ n) : (dataI s xs).length ≤ n := by unfold dataI; split; exact h; simp
theorem fits_is {s id line pk pid pl : Int} (h1 : ¬ s < 1) (h2 : ¬ 6 < s) (h3 : pid = id) (h4 : pl = line) : fitsB s id line pk pid pl = decide (pk = answerI (kindI s)) := by
  have : s = 1 ∨ s = 2 ∨ s = 3 ∨ s = 4 ∨ s = 5 ∨ s = 6 := by omega
  subst h3 h4
  rcases this with rfl | rfl | rfl | rfl | rfl | rfl <;> simp [fitsB, wantI, answerI, kindI]
theorem fits_not {s id line pk pid pl : Int} (h : pid ≠ id ∨ pl ≠ line ∨ s < 1 ∨ 6 < s) : fitsB s id line pk pid pl = false := by
  rcases h with h | h | h | h
  · simp [fitsB, h]
  · simp [fitsB, h]
  · have h1 : ¬ s = 1 := by omega
    have h2 : ¬ s = 2 := by omega
    have h3 : ¬ s = 3 := by omega
    have h4 : ¬ s = 4 := by omega
    have h5 : ¬ s = 5 := by omega
    have h6 : ¬ s = 6 := by omega
    simp [fitsB, wantI, kindI, answerI, *]
  · have h1 : ¬ s = 1 := by omega
    have h2 : ¬ s = 2 := by omega
    have h3 : ¬ s = 3 := by omega
    have h4 : ¬ s = 4 := by omega
    have h5 : ¬ s = 5 := by omega
    have h6 : ¬ s = 6 := by omega
    simp [fitsB, wantI, kindI, answerI, *]
theorem answer_ne {s : Int} (h1 : ¬ s < 1) (h2 : ¬ 6 < s) : ¬ answerI (kindI s) = 0 := by
  have : s = 1 ∨ s = 2 ∨ s = 3 ∨ s = 4 ∨ s = 5 ∨ s = 6 := by omega
  rcases this with rfl | rfl | rfl | rfl | rfl | rfl <;> simp [answerI, kindI]
theorem answer_pos {s : Int} (h1 : ¬ s < 1) (h2 : ¬ 6 < s) : 0 < answerI (kindI s) := by
  have : s = 1 ∨ s = 2 ∨ s = 3 ∨ s = 4 ∨ s = 5 ∨ s = 6 := by omega
  rcases this with rfl | rfl | rfl | rfl | rfl | rfl <;> simp [answerI, kindI]
end Go.Proofs.Ytcigheahollkcaa
