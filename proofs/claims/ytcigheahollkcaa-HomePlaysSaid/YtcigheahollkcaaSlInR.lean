/- A slice of structs that came in as an argument, as the walk reads it.
   Conditions: none. -/
import Derived.Test.YtcigheahollkcaaSlIn
import Derived.Test.YtcigheahollkcaaSlFun
namespace Go.Proofs.Ytcigheahollkcaa
open Go Go.RowKit Go.ChangeShapes
def RowsIn (W : World) (k : Nat) (a : Option Addr) (len cap : Nat) (rows : List (List Value)) : Prop := len = rows.length ∧ len ≤ cap ∧ cap ≤ 9223372036854775807 ∧ (∀ Γ, Reads W Γ a rows) ∧ ∀ r ∈ rows, r.length = k
theorem rows_in {H : Type} {enc : TypeId × Value → H} {P : Program} {W : World} {t e : TypeId} {fuel : Nat} {l : List Value} {x : DataW H × List MemPlace} (ht : P.underlying t = .some (.slice e)) (Q : List Value → Prop)
    (hel : ∀ (fuel : Nat) (cs : List Value) (y : DataW H × List MemPlace), cs.length = P.cellsOf e → DataW.trod enc P W 0 (fun _ => true) true fuel e cs = .some y → Q cs)
    (h : DataW.trod enc P W 0 (fun _ => true) true fuel t l = .some x) : ∃ a len cap rows, l = [.slice a len cap] ∧ RowsIn W (P.cellsOf e) a len cap rows ∧ ∀ r ∈ rows, Q r := by
  rcases DataW.trod_slice ht h with ⟨rfl, _⟩ | ⟨a, len, cap, elems, rest, n, _, rfl, _, hb, hl, hm, hlen, hel2, _, _⟩
  · exact ⟨none, 0, 0, [], rfl, ⟨rfl, Nat.le_refl _, by omega, fun _ => Reads.nil, by simp⟩, by simp⟩
  have each : ∀ i, i < len → ∃ cs y, W.cells? 0 (a.add (i * P.cellsOf e)) (P.cellsOf e) = .some cs ∧ DataW.trod enc P W 0 (fun _ => true) true n e cs = .some y := by
    intro i hi
    have h1 := hel2 i hi
    rw [List.getElem?_eq_getElem (by omega), Option.bind_eq_some_iff] at h1
    obtain ⟨cs, h2, h3⟩ := h1
    exact ⟨cs, _, h2, h3⟩
  let rows := (List.range len).map fun i => (W.cells? 0 (a.add (i * P.cellsOf e)) (P.cellsOf e)).getD []
  have hrow : ∀ r ∈ rows, ∃ i cs y, i < len ∧ r = cs ∧ W.cells? 0 (a.add (i * P.cellsOf e)) (P.cellsOf e) = .some cs ∧ DataW.trod enc P W 0 (fun _ => true) true n e cs = .some y := by
    intro r hr
    obtain ⟨i, hi, rfl⟩ := List.mem_map.1 hr
    have hi' := List.mem_range.1 hi
    obtain ⟨cs, y, h1, h2⟩ := each i hi'
    exact ⟨i, cs, y, hi', by rw [h1]; rfl, h1, h2⟩
  have hk : ∀ r ∈ rows, r.length = P.cellsOf e := by
    intro r hr
    obtain ⟨i, cs, y, _, rfl, h1, _⟩ := hrow r hr
    exact (World.cells?_some h1).2.1
  refine ⟨.some a, len, cap, rows, rfl, ⟨by simp [rows], hl, hm, fun Γ => Reads.old fun j v hj => ⟨a, rfl, ?_⟩, hk⟩, ?_⟩
  · obtain ⟨i, q, row, h1, h2, rfl, h4⟩ := flatten_at hk hj
    have hi : i < len := by
      have := (List.getElem?_eq_some_iff.1 h1).1
      simpa [rows] using this
    obtain ⟨cs, y, g1, g2⟩ := each i hi
    have e1 : row = cs := by
      have : rows[i]? = .some cs := by simp [rows, hi, g1]
      rw [this] at h1
      exact (Option.some.inj h1).symm
    subst e1
    have g3 := (World.cells?_some g1).2.2 q h4
    rw [add_add, h2] at g3
    exact g3
  · intro r hr
    obtain ⟨i, cs, y, _, rfl, h1, h2⟩ := hrow r hr
    exact hel n r y (World.cells?_some h1).2.1 h2
theorem list_of {β : Type} {f : β → List Value} : ∀ {rows : List (List Value)} {p : β → Prop}, (∀ r ∈ rows, ∃ x, p x ∧ r = f x) → ∃ l : List β, rows = l.map f ∧ ∀ x ∈ l, p x
  | [], _, _ => ⟨[], rfl, by simp⟩
  | r :: rows, p, h => by
    obtain ⟨x, hx, rfl⟩ := h r (List.mem_cons_self ..)
    obtain ⟨l, hl, hp⟩ := list_of (fun r hr => h r (List.mem_cons_of_mem _ hr))
    exact ⟨x :: l, by rw [hl]; rfl, by intro y hy; rcases List.mem_cons.1 hy with rfl | hy; exact hx; exact hp y hy⟩
end Go.Proofs.Ytcigheahollkcaa
