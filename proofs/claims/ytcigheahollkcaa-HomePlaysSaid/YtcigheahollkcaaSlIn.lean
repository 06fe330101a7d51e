/- A list of numbers that came in as an argument, as the walk reads it.
   Conditions: none. -/
import Derived.Test.YtcigheahollkcaaSlMore
import Derived.OpenShut
import Derived.ChangeArms
import Derived.ChangeSlices
namespace Go.Proofs.Ytcigheahollkcaa
open Go Go.RowKit Go.ChangeShapes
theorem walk_of {P : Program} {f : FuncId} {args : Array Value} {w : World} (h : Tr P f args w [] (fun r _ => r = .bool true)) : Calls P f args w fun e w' => e = .returned (.bool true) ∧ RowKit.Below w.heap.size w w' :=
  (h w (Sat.init w)).mono fun _ _ ⟨_, _, h1, h2, h3⟩ => ⟨by rw [h1, h2], h3.below⟩
/-- The slice came in: the numbers zs are its elements. -/
def IntsIn (W : World) (a : Option Addr) (len cap : Nat) (zs : List Int) : Prop := len = zs.length ∧ len ≤ cap ∧ cap ≤ 9223372036854775807 ∧ (∀ Γ, Reads W Γ a (ints zs)) ∧ ∀ n ∈ zs, -9223372036854775808 ≤ n ∧ n ≤ 9223372036854775807
theorem IntsIn.none {W : World} : IntsIn W none 0 0 [] := ⟨rfl, Nat.le_refl _, by omega, fun _ => Reads.nil, by simp⟩
theorem IntsIn.some {W : World} {x : Addr} {l c : Nat} {zs : List Int} (hl : l ≤ c) (hm : c ≤ 9223372036854775807) (hz : zs.length = c) (hcell : ∀ i, i < zs.length → W.cell? (x.add i) = .some (.int .i64 (zs.getD i 0))) (hwz : ∀ n ∈ zs, (Lit.int .i64 n).wf = true) :
    IntsIn W (.some x) l c (zs.take l) := by
  refine ⟨by simp; omega, hl, hm, fun Γ => Reads.old fun j v h => ⟨x, rfl, ?_⟩, fun n hn => bounds_i64 (hwz n (List.mem_of_mem_take hn))⟩
  rw [ints_flatten, List.getElem?_map] at h
  obtain ⟨y, hy, rfl⟩ : ∃ y, (zs.take l)[j]? = .some y ∧ Value.int .i64 y = v := by
    cases hq : (zs.take l)[j]? with
    | none => rw [hq] at h; cases h
    | some y => rw [hq] at h; exact ⟨y, rfl, by simpa using h⟩
  have hj := (List.getElem?_eq_some_iff.1 hy).1
  rw [List.length_take] at hj
  rw [List.getElem?_take_of_lt (by omega)] at hy
  rw [hcell j (by omega), List.getD_eq_getElem?_getD, hy]; rfl
/-! A struct of one-cell fields that came in. -/
def Match (cs : Array Value) : Nat → List Value → Prop
  | _, [] => True
  | k, y :: ys => cs[k]? = .some y ∧ Match cs (k + 1) ys
theorem match_drop {cs : Array Value} : ∀ {ys : List Value} {k : Nat}, Match cs k ys → cs.size = k + ys.length → cs.toList.drop k = ys
  | [], k, _, hs => by
    apply List.drop_eq_nil_of_le
    simp at hs ⊢; omega
  | y :: ys, k, ⟨h1, h2⟩, hs => by
    have ih := match_drop h2 (by simp at hs ⊢; omega)
    have hk : k < cs.toList.length := by simp at hs ⊢; omega
    rw [List.drop_eq_getElem_cons hk, ih]
    congr 1
    have : cs.toList[k]? = .some y := by simpa using h1
    rw [List.getElem?_eq_getElem hk] at this
    exact Option.some.inj this
theorem match_all {cs : Array Value} {ys : List Value} (h : Match cs 0 ys) (hs : cs.size = ys.length) : cs = ys.toArray := by
  have := match_drop h (by simpa using hs)
  apply Array.ext'
  simpa using this
section
variable {H : Type} {enc : TypeId × Value → H} {P : Program} {W : World} {cs : Array Value} {n : Nat} {fs : Array Field} {xs : List (DataW H × List MemPlace)}
theorem one_of {c : Value} {o : Nat} (h : (cs.toList.drop o).take 1 = [c]) : cs[o]? = .some c := by
  have h1 : ((cs.toList.drop o).take 1)[0]? = .some c := by rw [h]; rfl
  rw [List.getElem?_take_of_lt (by omega), List.getElem?_drop] at h1
  simpa using h1
def FieldsOk (enc : TypeId × Value → H) (P : Program) (W : World) (n : Nat) (cs : Array Value) (fs : Array Field) : Prop :=
  ∀ (i : Nat) (f : Field), fs[i]? = .some f → ∃ y, DataW.trod enc P W 0 (fun _ => true) true n f.type ((cs.toList.drop f.offset).take (P.cellsOf f.type)) = .some y
theorem fields_ok (hl : xs.length = fs.size) (h : ∀ (i : Nat) (f : Field), fs[i]? = .some f → DataW.trod enc P W 0 (fun _ => true) true n f.type ((cs.toList.drop f.offset).take (P.cellsOf f.type)) = xs[i]?) : FieldsOk enc P W n cs fs := by
  intro i f hf
  have hi : i < fs.size := (Array.getElem?_eq_some_iff.1 hf).1
  exact ⟨xs[i], by rw [h i f hf, List.getElem?_eq_getElem (by omega)]⟩
theorem in_int (h : FieldsOk enc P W n cs fs) (i : Nat) (f : Field) (hf : fs[i]? = .some f) (ht : P.underlying f.type = .some (.int .i64)) (hc : P.cellsOf f.type = 1) : ∃ z, cs[f.offset]? = .some (.int .i64 z) ∧ -9223372036854775808 ≤ z ∧ z ≤ 9223372036854775807 := by
  obtain ⟨y, hy⟩ := h i f hf
  rw [hc] at hy
  obtain ⟨z, h1, _, h3⟩ := DataW.trod_int ht hy
  exact ⟨z, one_of h1, bounds_i64 h3⟩
theorem in_bool (h : FieldsOk enc P W n cs fs) (i : Nat) (f : Field) (hf : fs[i]? = .some f) (ht : P.underlying f.type = .some .bool) (hc : P.cellsOf f.type = 1) : ∃ b, cs[f.offset]? = .some (.bool b) := by
  obtain ⟨y, hy⟩ := h i f hf
  rw [hc] at hy
  obtain ⟨b, h1, _⟩ := DataW.trod_bool ht hy
  exact ⟨b, one_of h1⟩
theorem ints_in {t e : TypeId} {fuel : Nat} {l : List Value} {x : DataW H × List MemPlace} (ht : P.underlying t = .some (.slice e)) (he : P.underlying e = .some (.int .i64)) (hc : P.cellsOf e = 1) (h : DataW.trod enc P W 0 (fun _ => true) true fuel t l = .some x) :
    ∃ a len cap zs, l = [.slice a len cap] ∧ IntsIn W a len cap zs := by
  rcases open_ints ht he hc h with ⟨hcs, _⟩ | ⟨x, l, c, zs, hcs, _, hl, hm, hz, _, hcell, hwz⟩
  · exact ⟨_, _, _, [], hcs, IntsIn.none⟩
  · exact ⟨_, _, _, _, hcs, IntsIn.some hl hm (by simpa using hz) hcell hwz⟩
theorem in_ints (h : FieldsOk enc P W n cs fs) (i : Nat) (f : Field) {e : TypeId} (hf : fs[i]? = .some f) (ht : P.underlying f.type = .some (.slice e)) (he : P.underlying e = .some (.int .i64)) (hc : P.cellsOf e = 1) (hc2 : P.cellsOf f.type = 1) :
    ∃ a len cap zs, cs[f.offset]? = .some (.slice a len cap) ∧ IntsIn W a len cap zs := by
  obtain ⟨y, hy⟩ := h i f hf
  rw [hc2] at hy
  obtain ⟨a, len, cap, zs, h1, h2⟩ := ints_in ht he hc hy
  exact ⟨a, len, cap, zs, one_of h1, h2⟩
end
end Go.Proofs.Ytcigheahollkcaa
