/- Lists of entries in memory; caches in memory, of the program's make and of the document's.
   Conditions: none. -/
import Derived.Test.YtcigheahollkcaaSlMore
namespace Go.Proofs.Ytcigheahollkcaa
open Go Go.RowKit

/-- An entry, as a value of its own. -/
structure Ent where
  fwd : Int
  back : Int
  line : Int
  used : Int
  dirty : Bool
  data : List Int
def entRow (e : Ent) (a : Option Addr) (cap : Nat) : List Value := [.int .i64 e.fwd, .int .i64 e.back, .int .i64 e.line, .int .i64 e.used, .bool e.dirty, .slice a e.data.length cap]
theorem entRow_len (e : Ent) (a : Option Addr) (cap : Nat) : (entRow e a cap).length = 6 := rfl
def ImmH (a : Option Addr) (xs : List Int) (I : Nat → Prop) (h : Nat → Option Obj) : Prop := (ImmI a xs).holds (fun _ => False) I h
theorem ImmH.any {a : Option Addr} {xs : List Int} {S I : Nat → Prop} {h : Nat → Option Obj} (k : (ImmI a xs).holds S I h) : ImmH a xs I h := k
theorem ImmH.to {a : Option Addr} {xs : List Int} {S I : Nat → Prop} {h : Nat → Option Obj} (k : ImmH a xs I h) : (ImmI a xs).holds S I h := k
/-- The rows hold the entries, whose words lie for good. -/
def EntsR (rows : List (List Value)) (es : List Ent) : Asn where
  holds _ I h := rows.length = es.length ∧ ∀ (i : Nat) (r : List Value) (e : Ent), rows[i]? = some r → es[i]? = some e → ∃ a cap, r = entRow e a cap ∧ ImmH a e.data I h
  loc := by
    rintro S I h h' ⟨h0, h1⟩ he
    refine ⟨h0, fun i r e hr hx => ?_⟩
    obtain ⟨a, cap, q1, q2⟩ := h1 i r e hr hx
    exact ⟨a, cap, q1, (ImmI a e.data).loc q2 fun b hb => he b (hb.elim (fun f => f.elim) .inr)⟩
  mono := by
    rintro S I I' h ⟨h0, h1⟩ hi
    refine ⟨h0, fun i r e hr hx => ?_⟩
    obtain ⟨a, cap, q1, q2⟩ := h1 i r e hr hx
    exact ⟨a, cap, q1, (ImmI a e.data).mono q2 hi⟩

section
variable {P : Program} {n : Nat} {W0 w : World} {env : Env} {Γ Γ' : List Asn} {K : Act → World → Prop} {rows : List (List Value)} {es : List Ent} {a : Option Addr} {e : Ent}

theorem EntsR.get (hp : Pull Γ (EntsR rows es) Γ') {i : Nat} {e : Ent} (he : es[i]? = some e) : ∀ w, Sat W0 Γ w → ∃ a cap, rows[i]? = some (entRow e a cap) := by
  intro w hw
  obtain ⟨S, I, ⟨S1, S2, h1, h2, h3, ⟨h4, h5⟩, h6⟩, r⟩ := hw.pull hp
  have hl : i < rows.length := by
    rw [h4]
    rcases Nat.lt_or_ge i es.length with h | h
    · exact h
    · rw [List.getElem?_eq_none h] at he; cases he
  obtain ⟨a, cap, q1, q2⟩ := h5 i rows[i] e (List.getElem?_eq_getElem hl) he
  exact ⟨a, cap, by rw [List.getElem?_eq_getElem hl, q1]⟩
theorem EntsR.length (hp : Pull Γ (EntsR rows es) Γ') : ∀ w, Sat W0 Γ w → rows.length = es.length := by
  intro w hw
  obtain ⟨S, I, ⟨S1, S2, h1, h2, h3, ⟨h4, h5⟩, h6⟩, r⟩ := hw.pull hp
  exact h4
theorem EntsR.one (hp : Pull Γ (EntsR rows es) Γ') : ∀ w, Sat W0 Γ w → rows.flatten.all oneCell = true := by
  intro w hw
  obtain ⟨S, I, ⟨S1, S2, h1, h2, h3, ⟨h4, h5⟩, h6⟩, r⟩ := hw.pull hp
  rw [List.all_eq_true]
  intro v hv
  obtain ⟨l, hl, hv⟩ := List.mem_flatten.1 hv
  obtain ⟨i, hi, rfl⟩ := List.mem_iff_getElem.1 hl
  obtain ⟨a, cap, q1, q2⟩ := h5 i rows[i] es[i] (List.getElem?_eq_getElem hi) (List.getElem?_eq_getElem (by omega))
  rw [q1] at hv
  simp only [entRow, List.mem_cons, List.not_mem_nil, or_false] at hv
  rcases hv with rfl | rfl | rfl | rfl | rfl | rfl <;> rfl
/-- The words of an entry, for good. -/
theorem EntsR.imm (hp : Pull Γ (EntsR rows es) Γ') {i : Nat} {e : Ent} (he : es[i]? = some e) {a : Option Addr} {cap : Nat} (hr : rows[i]? = some (entRow e a cap)) (hw : Sat W0 Γ w) : Sat W0 (ImmI a e.data :: Γ) w := by
  have h0 := hw.pull hp
  refine hw.imp fun S I h => ?_
  have h' := h.pull hp
  obtain ⟨S1, S2, h1, h2, h3, ⟨h4, h5⟩, h6⟩ := h'
  obtain ⟨a', cap', q1, q2⟩ := h5 i _ e hr he
  simp only [entRow, List.cons.injEq, Value.slice.injEq, and_true, true_and] at q1
  obtain ⟨rfl, rfl⟩ := q1
  exact ⟨fun _ => False, S, fun _ h => h.elim, fun _ h => h, fun _ h _ => h, q2.to, h⟩
theorem EntsR.nil (hw : Sat W0 Γ w) : Sat W0 (EntsR [] [] :: Γ) w :=
  hw.imp fun S _ h => ⟨fun _ => False, S, fun _ h => h.elim, fun _ h => h, fun _ h _ => h, ⟨rfl, fun i r e hr => by simp at hr⟩, h⟩
/-- One entry is another one. -/
theorem EntsR.set (hw : Sat W0 (EntsR rows es :: ImmI a e.data :: Γ) w) (i cap : Nat) : Sat W0 (EntsR (rows.set i (entRow e a cap)) (es.set i e) :: Γ) w := by
  refine hw.imp fun S I h => ?_
  obtain ⟨S1, S2, h1, h2, h3, ⟨h4, h5⟩, T1, T2, k1, k2, k3, k4, k5⟩ := h
  refine ⟨S1, T2, h1, fun b hb => h2 b (k2 b hb), fun b hb ht => h3 b hb (k2 b ht), ⟨by simp [h4], fun j r x hr hx => ?_⟩, k5⟩
  by_cases hj : i = j
  · subst hj
    have hl : i < rows.length := by
      rcases Nat.lt_or_ge i rows.length with h | h
      · exact h
      · rw [List.getElem?_eq_none (by simpa using h)] at hr; cases hr
    rw [List.getElem?_set_self hl] at hr
    rw [List.getElem?_set_self (by omega)] at hx
    obtain rfl := Option.some.inj hr
    obtain rfl := Option.some.inj hx
    exact ⟨a, cap, rfl, ImmH.any k4⟩
  · rw [List.getElem?_set_ne hj] at hr hx
    exact h5 j r x hr hx
/-- Only its use is another one. -/
theorem EntsR.turn (hw : Sat W0 (EntsR rows es :: Γ) w) (i : Nat) {e e' : Ent} {a : Option Addr} {cap : Nat} (he : es[i]? = some e) (hr : rows[i]? = some (entRow e a cap)) (hd : e'.data = e.data) :
    Sat W0 (EntsR (rows.set i (entRow e' a cap)) (es.set i e') :: Γ) w := by
  have h0 := EntsR.imm .here he hr hw
  have h1 : Sat W0 (EntsR rows es :: ImmI a e'.data :: Γ) w := by rw [hd]; exact h0.less (.take (.there .here) (.take .here .refl))
  exact EntsR.set h1 i cap
theorem EntsR.push (hw : Sat W0 (EntsR rows es :: ImmI a e.data :: Γ) w) (cap : Nat) : Sat W0 (EntsR (rows ++ [entRow e a cap]) (es ++ [e]) :: Γ) w := by
  refine hw.imp fun S I h => ?_
  obtain ⟨S1, S2, h1, h2, h3, ⟨h4, h5⟩, T1, T2, k1, k2, k3, k4, k5⟩ := h
  refine ⟨S1, T2, h1, fun b hb => h2 b (k2 b hb), fun b hb ht => h3 b hb (k2 b ht), ⟨by simp [h4], fun j r x hr hx => ?_⟩, k5⟩
  rw [List.getElem?_append] at hr hx
  by_cases hj : j < rows.length
  · rw [if_pos hj] at hr
    rw [if_pos (by omega)] at hx
    exact h5 j r x hr hx
  · rw [if_neg hj] at hr
    rw [if_neg (by omega)] at hx
    have h9 : j - rows.length = 0 := by
      rcases Nat.eq_zero_or_pos (j - rows.length) with h | h
      · exact h
      · rw [List.getElem?_eq_none (by simp; omega)] at hr; cases hr
    have h8 : j - es.length = 0 := by omega
    rw [h9] at hr
    rw [h8] at hx
    simp at hr hx
    subst hr; subst hx
    exact ⟨a, cap, rfl, ImmH.any k4⟩
theorem EntsR.erase (hw : Sat W0 (EntsR rows es :: Γ) w) (i : Nat) : Sat W0 (EntsR (rows.eraseIdx i) (es.eraseIdx i) :: Γ) w := by
  refine hw.imp fun S I h => ?_
  obtain ⟨S1, S2, h1, h2, h3, ⟨h4, h5⟩, h6⟩ := h
  refine ⟨S1, S2, h1, h2, h3, ⟨by simp [List.length_eraseIdx, h4], fun j r x hr hx => ?_⟩, h6⟩
  rw [List.getElem?_eraseIdx] at hr hx
  split at hr
  · rename_i hj; rw [if_pos hj] at hx; exact h5 _ r x hr hx
  · rename_i hj; rw [if_neg hj] at hx; exact h5 _ r x hr hx
end

/-- A cache, as a value of its own: its entries as they came. -/
structure CacheS where
  l : List Ent
  sets : Int
  ways : Int
  clock : Int
/-- A cache of the program's in memory. -/
def CacheA (b : Nat) (c : CacheS) : Asn :=
  .ex fun x : (Option Addr × Nat) × (List (List Value) × Nat) => .star [.own b (.cells #[.slice x.1.1 c.l.length x.1.2, .int .i64 c.sets, .int .i64 c.ways, .int .i64 c.clock] x.2.2 (0, 0)), RowsA 6 x.1.1 x.1.2 x.2.1, EntsR x.2.1 c.l]
/-- One of the document's. -/
def RCacheA (b : Nat) (c : CacheS) : Asn :=
  .ex fun x : (Option Addr × Nat) × (List (List Value) × Nat) => .star [.own b (.cells #[.int .i64 c.sets, .int .i64 c.ways, .int .i64 c.clock, .slice x.1.1 c.l.length x.1.2] x.2.2 (0, 0)), RowsA 6 x.1.1 x.1.2 x.2.1, EntsR x.2.1 c.l]
section
variable {P : Program} {n : Nat} {W0 w : World} {env : Env} {Γ Γ' : List Asn} {K : Act → World → Prop}
theorem CacheA.open {b : Nat} {c : CacheS} (hp : Pull Γ (CacheA b c) Γ')
    (h : ∀ (a : Option Addr) (cap : Nat) (rows : List (List Value)) (T : Nat), At n W0 env (.own b (.cells #[.slice a c.l.length cap, .int .i64 c.sets, .int .i64 c.ways, .int .i64 c.clock] T (0, 0)) :: RowsA 6 a cap rows :: EntsR rows c.l :: Γ') K) : At n W0 env Γ K :=
  At.ex hp fun x => At.star .here (h x.1.1 x.1.2 x.2.1 x.2.2)
theorem CacheA.open_draw {ops : Array Oper} {Q : Exit → Act → World → Prop} {D Pp Pl : List Nat} {b : Nat} {c : CacheS} (hp : Pull Γ (CacheA b c) Γ')
    (h : ∀ (a : Option Addr) (cap : Nat) (rows : List (List Value)) (T : Nat), Draw P n W0 ops Q D Pp Pl env (.own b (.cells #[.slice a c.l.length cap, .int .i64 c.sets, .int .i64 c.ways, .int .i64 c.clock] T (0, 0)) :: RowsA 6 a cap rows :: EntsR rows c.l :: Γ')) : Draw P n W0 ops Q D Pp Pl env Γ :=
  Draw.ex hp fun x => Draw.star .here (h x.1.1 x.1.2 x.2.1 x.2.2)
theorem RCacheA.open_draw {ops : Array Oper} {Q : Exit → Act → World → Prop} {D Pp Pl : List Nat} {b : Nat} {c : CacheS} (hp : Pull Γ (RCacheA b c) Γ')
    (h : ∀ (a : Option Addr) (cap : Nat) (rows : List (List Value)) (T : Nat), Draw P n W0 ops Q D Pp Pl env (.own b (.cells #[.int .i64 c.sets, .int .i64 c.ways, .int .i64 c.clock, .slice a c.l.length cap] T (0, 0)) :: RowsA 6 a cap rows :: EntsR rows c.l :: Γ')) : Draw P n W0 ops Q D Pp Pl env Γ :=
  Draw.ex hp fun x => Draw.star .here (h x.1.1 x.1.2 x.2.1 x.2.2)
theorem CacheA.close {b : Nat} (c : CacheS) {a : Option Addr} {cap m : Nat} {rows : List (List Value)} {T : Nat} {s y k : Int} (hm : m = c.l.length) (h1 : s = c.sets) (h2 : y = c.ways) (h3 : k = c.clock)
    (hw : Sat W0 (.own b (.cells #[.slice a m cap, .int .i64 s, .int .i64 y, .int .i64 k] T (0, 0)) :: RowsA 6 a cap rows :: EntsR rows c.l :: Γ) w) : Sat W0 (CacheA b c :: Γ) w := by
  subst hm; subst h1; subst h2; subst h3
  exact Sat.ex_mk ((a, cap), (rows, T)) (Sat.star_mk hw)
theorem RCacheA.open {b : Nat} {c : CacheS} (hp : Pull Γ (RCacheA b c) Γ')
    (h : ∀ (a : Option Addr) (cap : Nat) (rows : List (List Value)) (T : Nat), At n W0 env (.own b (.cells #[.int .i64 c.sets, .int .i64 c.ways, .int .i64 c.clock, .slice a c.l.length cap] T (0, 0)) :: RowsA 6 a cap rows :: EntsR rows c.l :: Γ') K) : At n W0 env Γ K :=
  At.ex hp fun x => At.star .here (h x.1.1 x.1.2 x.2.1 x.2.2)
theorem RCacheA.close {b : Nat} (c : CacheS) {a : Option Addr} {cap m : Nat} {rows : List (List Value)} {T : Nat} {s y k : Int} (hm : m = c.l.length) (h1 : s = c.sets) (h2 : y = c.ways) (h3 : k = c.clock)
    (hw : Sat W0 (.own b (.cells #[.int .i64 s, .int .i64 y, .int .i64 k, .slice a m cap] T (0, 0)) :: RowsA 6 a cap rows :: EntsR rows c.l :: Γ) w) : Sat W0 (RCacheA b c :: Γ) w := by
  subst hm; subst h1; subst h2; subst h3
  exact Sat.ex_mk ((a, cap), (rows, T)) (Sat.star_mk hw)
theorem CacheA.cells {b : Nat} {c : CacheS} (hp : Pull Γ (CacheA b c) Γ') : ∀ w, Sat W0 Γ w → w.cell? ⟨b, 1, none⟩ = some (.int .i64 c.sets) ∧ w.cell? ⟨b, 2, none⟩ = some (.int .i64 c.ways) ∧ w.cell? ⟨b, 3, none⟩ = some (.int .i64 c.clock) := by
  intro w hw
  obtain ⟨x, hx⟩ := (hw.pull hp).ex_of
  have h := hx.star_of.own_at
  exact ⟨(cell_of h).trans rfl, (cell_of h).trans rfl, (cell_of h).trans rfl⟩
theorem RCacheA.cells {b : Nat} {c : CacheS} (hp : Pull Γ (RCacheA b c) Γ') : ∀ w, Sat W0 Γ w → w.cell? ⟨b, 0, none⟩ = some (.int .i64 c.sets) ∧ w.cell? ⟨b, 1, none⟩ = some (.int .i64 c.ways) ∧ w.cell? ⟨b, 2, none⟩ = some (.int .i64 c.clock) := by
  intro w hw
  obtain ⟨x, hx⟩ := (hw.pull hp).ex_of
  have h := hx.star_of.own_at
  exact ⟨(cell_of h).trans rfl, (cell_of h).trans rfl, (cell_of h).trans rfl⟩
end
end Go.Proofs.Ytcigheahollkcaa
