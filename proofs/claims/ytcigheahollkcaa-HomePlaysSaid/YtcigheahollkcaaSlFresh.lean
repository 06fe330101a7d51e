/- What the library's contracts say of memory, told as assertions: a fresh row of numbers; a row that is put in order.
   Conditions: none. -/
import Derived.Test.YtcigheahollkcaaSlFun
import Derived.Laws.AppendOwn
import Derived.Sort.Row
import Derived.Sort.Grow
namespace Go.Proofs.Ytcigheahollkcaa
open Go Go.RowKit
section
variable {W0 : World} {Γ Γ' : List Asn}
theorem Sat.under {w w' : World} (h : Sat W0 Γ w) (hb : Below w.heap.size w w') : Sat W0 Γ w' := by
  obtain ⟨S, I, h1, d1, d2, d3, d4, d5⟩ := h
  exact ⟨S, I, h1.loc fun b hs => hb.block b (hs.elim (d2 b) (d3 b)), d1, fun b hs => Nat.lt_of_lt_of_le (d2 b hs) hb.size, fun b hi => Nat.lt_of_lt_of_le (d3 b hi) hb.size, d4, d5.trans (hb.mono d5.size)⟩
theorem Sat.newer {w w' : World} (h : Sat W0 Γ w) (hb : Below w.heap.size w w') {g : Nat} {o : Obj} (hg : w.heap.size ≤ g) (ho : w'.heap[g]? = some o) : Sat W0 (Asn.own g o :: Γ) w' := by
  obtain ⟨S, I, h1, d1, d2, d3, d4, d5⟩ := h
  have hl : g < w'.heap.size := (Array.getElem?_eq_some_iff.1 ho).1
  refine ⟨fun b => S b ∨ b = g, I, ⟨fun b => b = g, S, fun _ h => .inr h, fun _ h => .inl h, ?_, ⟨rfl, ho⟩, h1.loc fun b hs => hb.block b (hs.elim (d2 b) (d3 b))⟩, ?_, ?_, fun b hi => Nat.lt_of_lt_of_le (d3 b hi) hb.size, d4, d5.trans (hb.mono d5.size)⟩
  · rintro b rfl hs
    exact absurd (d2 _ hs) (by omega)
  · rintro b (hs | rfl) hi
    · exact d1 b hs hi
    · exact absurd (d3 _ hi) (by omega)
  · rintro b (hs | rfl)
    · exact Nat.lt_of_lt_of_le (d2 b hs) hb.size
    · exact hl
theorem lies_of_take {c : Array Value} {vs : List Value} (h : c.toList.take vs.length = vs) : LiesAt c 0 vs := by
  intro j v hj
  have hlt : j < vs.length := (List.getElem?_eq_some_iff.1 hj).1
  rw [← h, List.getElem?_take_of_lt hlt, Array.getElem?_toList] at hj
  rw [Nat.zero_add]; exact hj
theorem Sat.row {w w' : World} {e : TypeId} {v : Value} {xs : List Int} (h : Sat W0 Γ w) (hb : Below w.heap.size w w') (hr : w'.ownsRow w.heap.size e 1 v xs.length (xs.map fun x => .int .i64 x)) :
    ∃ a cap, v = .slice a xs.length cap ∧ Sat W0 (RowsA 1 a cap (ints xs) :: Γ) w' := by
  obtain ⟨_, ⟨rfl, hn⟩ | ⟨g, cap, cur, rfl, hg, hc, hn, _, hs, ht⟩⟩ := hr
  · obtain rfl : xs = [] := List.eq_nil_of_length_eq_zero hn
    exact ⟨none, 0, rfl, RowsA.none_mk (h.under hb)⟩
  · refine ⟨_, cap, rfl, (h.newer hb hg hc).head_imp ?_⟩
    rintro S I h' ⟨q1, q2⟩
    refine ⟨ints_rows xs, .inr ⟨g, 0, cur, e, rfl, q1, q2, by simpa using hn, by omega, ?_⟩⟩
    rw [ints_flatten]
    refine lies_of_take ?_
    simpa using ht
theorem RowsA.block {a : Option Addr} {cap : Nat} {xs : List Int} {w : World} (h : Sat W0 (RowsA 1 a cap (ints xs) :: Γ) w) :
    (xs = [] ∧ cap = 0) ∨ ∃ b off c T, a = some ⟨b, off, none⟩ ∧ xs.length ≤ cap ∧ off + cap * 1 ≤ c.size ∧ LiesAt c off (xs.map fun x => .int .i64 x) ∧ Sat W0 (Asn.own b (.cells c T (0, 0)) :: Γ) w := by
  obtain ⟨S, I, ⟨S1, S2, h1, h2, h3, ⟨_, h4⟩, h5⟩, r⟩ := h
  rcases h4 with ⟨q1, q2⟩ | ⟨b, off, c, T, rfl, q1, q2, q3, q4, q5⟩
  · exact .inl ⟨ints_nil q1, q2⟩
  · exact .inr ⟨b, off, c, T, rfl, by simpa using q3, q4, by rw [← ints_flatten]; exact q5, S, I, ⟨S1, S2, h1, h2, h3, ⟨q1, q2⟩, h5⟩, r⟩
theorem putCells_lies {c : Array Value} {off : Nat} {ys : List Int} (hs : off + ys.length ≤ c.size) : LiesAt (Go.Sort.putCells (Value.int .i64) off ys.toArray c) off (ys.map fun x => .int .i64 x) := by
  intro j v hj
  have hlt : j < ys.length := by have := (List.getElem?_eq_some_iff.1 hj).1; simpa using this
  have h2 : off + j < c.size := by omega
  simp only [List.getElem?_map, List.getElem?_eq_getElem hlt, Option.map_some, Option.some.injEq] at hj
  subst hj
  unfold Go.Sort.putCells
  rw [Array.getElem?_mapIdx, Array.getElem?_eq_getElem h2]
  simp [hlt]
theorem Sat.sorted {w : World} {a : Option Addr} {cap b off n : Nat} {xs ys : List Int} {c : Array Value} {T : TypeId} {os : Array Obj} (hl : ys.length = xs.length) (ha : a = some ⟨b, off, none⟩) (h1 : xs.length ≤ cap) (h2 : off + cap * 1 ≤ c.size)
    (h : Sat W0 (Asn.own b (.cells c T (0, 0)) :: Γ) w) : Sat W0 (RowsA 1 a cap (ints ys) :: Γ) (Go.Sort.grow (Go.Sort.putRow (Value.int .i64) (Go.Sort.ahead w n) b off ys.toArray) os) := by
  have hb := h.own_at
  have hlt : b < w.heap.size := (Array.getElem?_eq_some_iff.1 hb).1
  have hp : Sat W0 (Asn.own b (.cells (Go.Sort.putCells (Value.int .i64) off ys.toArray c) T (0, 0)) :: Γ) (Go.Sort.putRow (Value.int .i64) (Go.Sort.ahead w n) b off ys.toArray) := by
    refine h.put rfl rfl rfl (by simp [Go.Sort.putRow, Go.Sort.mapBlock, Go.Sort.ahead]) ?_ fun q hq => ?_
    · simp [Go.Sort.putRow, Go.Sort.mapBlock, Go.Sort.ahead, Array.getElem?_modify, hb, Go.Sort.onCells]
    · simp [Go.Sort.putRow, Go.Sort.mapBlock, Go.Sort.ahead, Array.getElem?_modify, Ne.symm hq]
  have hg : Below (Go.Sort.putRow (Value.int .i64) (Go.Sort.ahead w n) b off ys.toArray).heap.size (Go.Sort.putRow (Value.int .i64) (Go.Sort.ahead w n) b off ys.toArray) (Go.Sort.grow (Go.Sort.putRow (Value.int .i64) (Go.Sort.ahead w n) b off ys.toArray) os) :=
    ⟨rfl, rfl, rfl, by simp [Go.Sort.grow], fun k hk => by simp only [Go.Sort.grow]; rw [Array.getElem?_append_left hk]⟩
  refine (hp.under hg).head_imp ?_
  rintro S I h' ⟨q1, q2⟩
  refine ⟨ints_rows ys, .inr ⟨b, off, _, T, ha, q1, q2, by simp [hl]; exact h1, by simp [Go.Sort.putCells]; omega, ?_⟩⟩
  rw [ints_flatten]
  exact putCells_lies (by omega)
theorem holds_of_lies {w : World} {b off : Nat} {c : Array Value} {T : TypeId} {xs : List Int} (hb : w.heap[b]? = some (.cells c T (0, 0))) (h : LiesAt c off (xs.map fun x => .int .i64 x)) : Go.Sort.Holds (Value.int .i64) w b off xs.toArray := by
  intro j hj
  have hj' : j < xs.length := by simpa using hj
  refine ⟨?_, by simp [World.frozen?, hb]⟩
  have := h j (.int .i64 xs[j]) (by simp [hj'])
  simp [World.cell?, hb, this, hj']
end
end Go.Proofs.Ytcigheahollkcaa
