/- A list of numbers that came in as an argument, as the walk reads it.
   Conditions: none. -/
import Derived.Test.YtpcffplbedbpkaaSlMore
import Derived.OpenShut
namespace Go.Proofs.Ytpcffplbedbpkaa
open Go Go.RowKit Go.ChangeShapes
theorem walk_of {P : Program} {f : FuncId} {args : Array Value} {w : World} (h : Tr P f args w [] (fun r _ => r = .bool true)) : Calls P f args w fun e w' => e = .returned (.bool true) ∧ RowKit.Below w.heap.size w w' :=
  (h w (Sat.init w)).mono fun _ _ ⟨_, _, h1, h2, h3⟩ => ⟨by rw [h1, h2], h3.below⟩
/-- The slice came in: the numbers zs are its elements. -/
def IntsIn (W : World) (a : Option Addr) (len cap : Nat) (zs : List Int) : Prop := len = zs.length ∧ len ≤ cap ∧ cap ≤ 9223372036854775807 ∧ (∀ Γ, Reads W Γ a (ints zs)) ∧ ∀ n ∈ zs, -9223372036854775808 ≤ n ∧ n ≤ 9223372036854775807
theorem IntsIn.none {W : World} : IntsIn W none 0 0 [] := ⟨rfl, Nat.le_refl _, by omega, fun _ => Reads.nil, by simp⟩
theorem IntsIn.some {W : World} {x : Addr} {l c : Nat} {zs : List Int} (hl : l ≤ c) (hm : c ≤ 9223372036854775807) (hz : zs.length = c) (hcell : ∀ i, i < zs.length → W.cell? (x.add i) = .some (.int .i64 (zs.getD i 0))) (hwz : ∀ n ∈ zs, (Lit.int .i64 n).wf = true) :
    IntsIn W (.some x) l c (zs.take l) := by
  refine ⟨by simp; omega, hl, hm, fun Γ => Reads.old fun j v h => ⟨x, rfl, ?_⟩, fun n hn => bounds_i64 (hwz n (List.mem_of_mem_take hn))⟩
  rw [ints_flatten, List.getElem?_map] at h
  obtain ⟨y, hy, rfl⟩ : ∃ y, (zs.take l)[j]? = .some y ∧ Value.int .i64 y = v := by
    cases hq : (zs.take l)[j]? with
    | none => rw [hq] at h; cases h
    | some y => rw [hq] at h; exact ⟨y, rfl, by simpa using h⟩
  have hj := (List.getElem?_eq_some_iff.1 hy).1
  rw [List.length_take] at hj
  rw [List.getElem?_take_of_lt (by omega)] at hy
  rw [hcell j (by omega), List.getD_eq_getElem?_getD, hy]; rfl
end Go.Proofs.Ytpcffplbedbpkaa
