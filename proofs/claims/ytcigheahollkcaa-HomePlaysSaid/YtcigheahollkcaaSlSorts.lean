/- slices.Sort of numbers; slices.Sorted of the keys of a map: told as assertions.
   Conditions: none. -/
import Derived.Test.YtcigheahollkcaaSlFresh
import Derived.Test.YtcigheahollkcaaSlSeat
import Derived.Lib.SlKeysI
import Derived.Test.YtcigheahollkcaaLayS
namespace Go.Proofs.Ytcigheahollkcaa
open Go Go.RowKit
def srt (xs : List Int) : List Int := xs.mergeSort leI
theorem srt_length (xs : List Int) : (srt xs).length = xs.length := List.length_mergeSort ..
section
variable {W0 : World} {Γ Γ' : List Asn}
theorem sortI_tr {a : Option Addr} {cap : Nat} {xs : List Int} (hx : xs.length ≤ 1099511627776) :
    Tr Try.prog 57 #[.slice a xs.length cap] W0 (RowsA 1 a cap (ints xs) :: Γ) (fun r Δ => r = .tuple #[] ∧ Δ = RowsA 1 a cap (ints (srt xs)) :: Γ) := by
  intro w hw
  rcases RowsA.block hw with ⟨rfl, rfl⟩ | ⟨b, off, c, T, ha, h1, h2, h3, h4⟩
  · refine (AnyM.slices_Sort_int_none laySort a 0 w).mono ?_
    rintro e w' ⟨rfl, rfl⟩
    exact ⟨_, _, rfl, ⟨rfl, rfl⟩, by rw [show srt [] = [] from by simp [srt]]; exact hw⟩
  · subst ha
    have hb := h4.own_at
    refine (AnyM.slices_Sort_int laySort b off cap xs w (holds_of_lies hb h3) (Array.getElem?_eq_some_iff.1 hb).1 (by omega)).mono ?_
    rintro e w' ⟨rfl, n, os, rfl⟩
    exact ⟨_, _, rfl, ⟨rfl, rfl⟩, Sat.sorted (srt_length xs) rfl h1 h2 h4⟩
end
end Go.Proofs.Ytcigheahollkcaa
