/- Slices that a call owns or may read, as lists of rows of cells; append, and a slice of a slice.
   Conditions: none; nothing here speaks of one program. -/
import Derived.Test.YtcigheahollkcaaSlRules
import Derived.Laws.AppendOwn
namespace Go.Proofs.Ytcigheahollkcaa
open Go Go.RowKit

/-- The cells from off on hold vs. -/
def LiesAt (c : Array Value) (off : Nat) (vs : List Value) : Prop := ∀ j v, vs[j]? = some v → c[off + j]? = some v
theorem LiesAt.nil (c : Array Value) (off : Nat) : LiesAt c off [] := fun j v h => by simp at h
theorem LiesAt.size {c : Array Value} {off : Nat} {vs : List Value} (h : LiesAt c off vs) (hv : vs ≠ []) : off + vs.length ≤ c.size := by
  have hpos : 0 < vs.length := by
    rcases Nat.eq_zero_or_pos vs.length with h0 | h0
    · exact absurd (List.eq_nil_of_length_eq_zero h0) hv
    · exact h0
  have := h (vs.length - 1) (vs[vs.length - 1]'(by omega)) (List.getElem?_eq_getElem (by omega))
  rcases Nat.lt_or_ge (off + (vs.length - 1)) c.size with h1 | h1
  · omega
  · rw [Array.getElem?_eq_none h1] at this; cases this

/-- A slice of ours: at a, of as many rows as are listed, with room for cap; each row of k cells. -/
def RowsA (k : Nat) (a : Option Addr) (cap : Nat) (rows : List (List Value)) : Asn where
  holds S _ h := (∀ r ∈ rows, r.length = k) ∧ ((rows = [] ∧ cap = 0) ∨ ∃ b off c T, a = some ⟨b, off, none⟩ ∧ S b ∧ h b = some (.cells c T (0, 0)) ∧ rows.length ≤ cap ∧ off + cap * k ≤ c.size ∧ LiesAt c off rows.flatten)
  loc := by
    rintro S I h h' ⟨h0, h1⟩ he
    refine ⟨h0, h1.imp id ?_⟩
    rintro ⟨b, off, c, T, q1, q2, q3, q4⟩
    exact ⟨b, off, c, T, q1, q2, (he b (.inl q2)).trans q3, q4⟩
  mono := fun h _ => h
/-- The same, for good. -/
def ImmR (k : Nat) (a : Option Addr) (rows : List (List Value)) : Asn where
  holds _ I h := (∀ r ∈ rows, r.length = k) ∧ (rows = [] ∨ ∃ (b off : Nat) (c : Array Value) (T : TypeId) (fr : Nat × Nat), a = some ⟨b, off, none⟩ ∧ I b ∧ h b = some (.cells c T fr) ∧ LiesAt c off rows.flatten)
  loc := by
    rintro S I h h' ⟨h0, h1⟩ he
    refine ⟨h0, h1.imp id ?_⟩
    rintro ⟨b, off, c, T, fr, q1, q2, q3, q4⟩
    exact ⟨b, off, c, T, fr, q1, q2, (he b (.inr q2)).trans q3, q4⟩
  mono := by
    rintro S I I' h ⟨h0, h1⟩ hi
    refine ⟨h0, h1.imp id ?_⟩
    rintro ⟨b, off, c, T, fr, q1, q2, q3⟩
    exact ⟨b, off, c, T, fr, q1, hi b q2, q3⟩

/-- The rows may be read at a. -/
def Reads (W0 : World) (Γ : List Asn) (a : Option Addr) (rows : List (List Value)) : Prop := ∀ w, Sat W0 Γ w → ∀ j v, rows.flatten[j]? = some v → ∃ p, a = some p ∧ w.cell? (p.add j) = some v

def ints (xs : List Int) : List (List Value) := xs.map fun x => [.int .i64 x]
abbrev IntsA (a : Option Addr) (cap : Nat) (xs : List Int) : Asn := RowsA 1 a cap (ints xs)
abbrev ImmI (a : Option Addr) (xs : List Int) : Asn := ImmR 1 a (ints xs)
theorem ints_flatten (xs : List Int) : (ints xs).flatten = xs.map fun x => .int .i64 x := by
  induction xs with
  | nil => rfl
  | cons x xs ih =>
    show (ints xs).flatten.cons _ = _
    rw [ih]; rfl
theorem ints_rows (xs : List Int) : ∀ r ∈ ints xs, r.length = 1 := by
  intro r hr
  simp only [ints, List.mem_map] at hr
  obtain ⟨x, _, rfl⟩ := hr
  rfl
@[simp] theorem ints_length (xs : List Int) : (ints xs).length = xs.length := by simp [ints]
theorem ints_append (xs ys : List Int) : ints (xs ++ ys) = ints xs ++ ints ys := by simp [ints]

section
variable {P : Program} {n : Nat} {W0 w : World} {e : Env} {Γ Γ' : List Asn} {k : Nat} {a a1 a2 : Option Addr} {cap : Nat} {rows news : List (List Value)}

theorem flatten_length (h : ∀ r ∈ rows, r.length = k) : rows.flatten.length = rows.length * k := by
  induction rows with
  | nil => simp
  | cons r rs ih =>
    rw [List.flatten_cons, List.length_append, ih fun x hx => h x (List.mem_cons_of_mem _ hx), h r (List.mem_cons_self ..), List.length_cons, Nat.succ_mul]
    omega

theorem RowsA.reads (hp : Pull Γ (RowsA k a cap rows) Γ') : Reads W0 Γ a rows := by
  intro w hw j v hj
  obtain ⟨S, I, ⟨S1, S2, h1, h2, h3, ⟨h4, h5⟩, h6⟩, r⟩ := hw.pull hp
  rcases h5 with ⟨rfl, _⟩ | ⟨b, off, c, T, rfl, q2, q3, q4, q5, q6⟩
  · simp at hj
  · refine ⟨_, rfl, ?_⟩
    rw [add_none, cell_of q3]
    exact q6 j v hj
theorem ImmR.reads (hp : Pull Γ (ImmR k a rows) Γ') : Reads W0 Γ a rows := by
  intro w hw j v hj
  obtain ⟨S, I, ⟨S1, S2, h1, h2, h3, ⟨h4, h5⟩, h6⟩, r⟩ := hw.pull hp
  rcases h5 with rfl | ⟨b, off, c, T, fr, rfl, q2, q3, q6⟩
  · simp at hj
  · refine ⟨_, rfl, ?_⟩
    rw [add_none, cell_of q3]
    exact q6 j v hj
theorem Reads.nil : Reads W0 Γ a [] := fun _ _ j v h => by simp at h
/-- What lies in old memory. -/
theorem Reads.old (h : ∀ j v, rows.flatten[j]? = some v → ∃ p, a = some p ∧ W0.cell? (p.add j) = some v) : Reads W0 Γ a rows := by
  intro w hw j v hj
  obtain ⟨p, hp, hc⟩ := h j v hj
  refine ⟨p, hp, ?_⟩
  have hlt : (p.add j).block < W0.heap.size := World.block_lt_of_cell? _ _ hc
  rw [← hc]
  exact World.cell?_of_block (hw.old hlt)
theorem Reads.conv (hg : ∀ w, Sat W0 Γ w → Sat W0 Γ' w) (h : Reads W0 Γ' a rows) : Reads W0 Γ a rows := fun w hw => h w (hg w hw)
theorem RowsA.len (h : Sat W0 (RowsA k a cap rows :: Γ) w) : (∀ r ∈ rows, r.length = k) ∧ rows.length ≤ cap := by
  obtain ⟨S, I, ⟨S1, S2, h1, h2, h3, ⟨h4, h5⟩, h6⟩, r⟩ := h
  rcases h5 with ⟨rfl, rfl⟩ | ⟨b, off, c, T, rfl, q2, q3, q4, q5, q6⟩
  · exact ⟨h4, by simp⟩
  · exact ⟨h4, q4⟩
theorem RowsA.freeze (h : Sat W0 (RowsA k a cap rows :: Γ) w) : Sat W0 (ImmR k a rows :: Γ) w := by
  obtain ⟨S, I, ⟨S1, S2, h1, h2, h3, ⟨h4, h5⟩, h6⟩, d1, d2, d3, d4, d5⟩ := h
  refine ⟨S2, fun c => I c ∨ S1 c, ⟨fun _ => False, S2, fun _ h => h.elim, fun _ h => h, fun _ h _ => h, ⟨h4, ?_⟩, h6.mono fun _ h => .inl h⟩, ?_, fun c hc => d2 c (h2 c hc), ?_, fun c hc => .inl (d4 c hc), d5⟩
  · rcases h5 with ⟨rfl, _⟩ | ⟨b, off, c, T, q1, q2, q3, q4, q5, q6⟩
    · exact .inl rfl
    · exact .inr ⟨b, off, c, T, _, q1, .inr q2, q3, q6⟩
  · rintro c hc (hi | hs)
    · exact d1 c (h2 c hc) hi
    · exact h3 c hs hc
  · rintro c (hi | hs)
    · exact d3 c hi
    · exact d2 c (h1 c hs)
theorem ImmR.dup (h : Sat W0 (ImmR k a rows :: Γ) w) : Sat W0 (ImmR k a rows :: ImmR k a rows :: Γ) w := by
  refine h.imp fun S I h => ?_
  obtain ⟨S1, S2, h1, h2, h3, h4, h5⟩ := h
  exact ⟨fun _ => False, S, fun _ h => h.elim, fun _ h => h, fun _ h _ => h, h4, S1, S2, h1, h2, h3, h4, h5⟩
/-- A slice of nothing is anybody's. -/
theorem RowsA.none_mk (h : Sat W0 Γ w) : Sat W0 (RowsA k a 0 [] :: Γ) w :=
  h.imp fun S _ h => ⟨fun _ => False, S, fun _ h => h.elim, fun _ h => h, fun _ h _ => h, ⟨fun r h => (by cases h), .inl ⟨rfl, rfl⟩⟩, h⟩
/-- A whole block of cells, as rows. -/
theorem RowsA.of_own {b : Nat} {c : Array Value} {T : TypeId} (h : Sat W0 (Asn.own b (.cells c T (0, 0)) :: Γ) w) (hk : ∀ r ∈ rows, r.length = k) (hc : c = rows.flatten.toArray) : Sat W0 (RowsA k (some ⟨b, 0, none⟩) rows.length rows :: Γ) w := by
  refine Sat.head_imp (A := Asn.own b (.cells c T (0, 0))) (B := RowsA k (some ⟨b, 0, none⟩) rows.length rows) (fun S I h ⟨h1, h2⟩ => ⟨hk, .inr ⟨b, 0, c, T, rfl, h1, h2, Nat.le_refl _, ?_, ?_⟩⟩) h
  · subst hc; simp [flatten_length hk]
  · subst hc; intro j v hj; simpa using hj

theorem run_firstCells (size m cap : Nat) (hl : rows.flatten.length = m * size) (h : ∀ j v, rows.flatten[j]? = some v → ∃ p, a = some p ∧ w.cell? (p.add j) = some v) :
    (Builtin.firstCells size m (.slice a m cap)).run P w = .ok rows.flatten.toArray w := by
  cases a with
  | none =>
    have : rows.flatten = [] := by
      cases hf : rows.flatten with
      | nil => rfl
      | cons x r => obtain ⟨p, hp, _⟩ := h 0 x (by simp [hf]); cases hp
    rw [this]; rfl
  | some p =>
    refine run_loadCells _ hl fun j v hj => ?_
    obtain ⟨q, hq, hc⟩ := h j v hj
    obtain rfl := Option.some.inj hq
    exact hc

theorem putCells_size (vs : List Value) : ∀ (c : Array Value) (off : Nat), (putCells c off vs).size = c.size := by
  induction vs with
  | nil => intro c off; rfl
  | cons v vs ih => intro c off; rw [putCells, ih]; simp
theorem putCells_get (vs : List Value) : ∀ (c : Array Value) (off i : Nat), off + vs.length ≤ c.size → (putCells c off vs)[i]? = if off ≤ i ∧ i < off + vs.length then vs[i - off]? else c[i]? := by
  induction vs with
  | nil => intro c off i _; rw [putCells, if_neg (by simp)]
  | cons v vs ih =>
    intro c off i hl
    simp only [List.length_cons] at hl
    rw [putCells, ih _ _ _ (by simp; omega)]
    by_cases h1 : off = i
    · subst h1
      rw [if_neg (by omega), if_pos (by simp)]
      simp [show off < c.size from by omega]
    · by_cases h2 : off + 1 ≤ i ∧ i < off + 1 + vs.length
      · rw [if_pos h2, if_pos (by simp; omega), show i - off = (i - (off + 1)) + 1 from by omega]
        simp
      · rw [if_neg h2, if_neg (by simp; omega), Array.getElem?_setIfInBounds_ne h1]

theorem oneCell_eq (v : Value) : v.oneCell' = oneCell v := by cases v <;> rfl

/-- append onto a slice of ours. -/
theorem st_append {op : Op} {ty : TypeId} (t ty' E cap2 : Nat) (info : TypeInfo) (zv : Value)
    (hx : ∀ w, (execOp (ev e) (bare op ty)).run P w = (Builtin.append_ #[t, t] ty' #[.slice a1 rows.length cap, .slice a2 news.length cap2] >>= fun v => pure (Next.value v)).run P w)
    (ht : P.underlying t = some (.slice E)) (hi : P.info? E = some info) (hz : info.zero = some zv) (hk : info.size = k) (hzs : zv.cells.size = k)
    (hp : Pull Γ (RowsA k a1 cap rows) Γ') (hr : Reads W0 Γ a2 news) (hnk : ∀ r ∈ news, r.length = k) (hone : news.flatten.all oneCell = true)
    (hbig : (rows.length + news.length) * info.bytes ≤ 140737488355328) (hb0 : 0 < info.bytes) :
    StepTo P W0 Γ e op ty (fun v Δ => ∃ a' cap', v = .slice a' (rows.length + news.length) cap' ∧ Δ = RowsA k a' cap' (rows ++ news) :: Γ') := by
  subst hk
  refine StepTo.val fun w hw => ?_
  have h0 := hw.pull hp
  obtain ⟨hrk, hlc⟩ := RowsA.len h0
  have hrd : ∀ j v, news.flatten[j]? = some v → ∃ p, a2 = some p ∧ w.cell? (p.add j) = some v := hr w hw
  have hrr : ∀ j v, rows.flatten[j]? = some v → ∃ p, a1 = some p ∧ w.cell? (p.add j) = some v := RowsA.reads hp w hw
  have hnl := flatten_length hnk
  have hrl := flatten_length hrk
  have happ : ∀ r ∈ rows ++ news, r.length = info.size := fun r hm => (List.mem_append.1 hm).elim (hrk r) (hnk r)
  have hmul : rows.length + news.length ≤ 140737488355328 := Nat.le_trans (Nat.le_mul_of_pos_right _ hb0) hbig
  have hf := run_firstCells (P := P) (w := w) info.size news.length cap2 hnl hrd
  by_cases hroom : rows.length + news.length ≤ cap
  · -- there is room
    have hrest := h0
    obtain ⟨S, I, ⟨S1, S2, h1, h2, h3, ⟨_, h5⟩, h6⟩, d1, d2, d3, d4, d5⟩ := h0
    rcases h5 with ⟨rfl, rfl⟩ | ⟨b, off, c, T, rfl, q2, q3, q4, q5, q6⟩
    · have hn0 : news = [] := List.eq_nil_of_length_eq_zero (by simpa using hroom)
      subst hn0
      refine ⟨.slice a1 0 0, w, _, ?_, ⟨a1, 0, rfl, rfl⟩, hrest⟩
      rw [hx]
      refine run_seq (w' := w) (x := .slice a1 0 0) ?_ rfl
      simp only [List.length_nil] at hf ⊢
      cases a1 <;> simp [Builtin.append_, run_underlying ht, Go.sizeOf, typeInfo, hi, Builtin.lenOf, hf, storeCells]
    · have hsz : off + (rows.length * info.size) + 0 + news.flatten.length ≤ c.size := by
        rw [hnl, Nat.add_zero, Nat.add_assoc, ← Nat.add_mul]
        exact Nat.le_trans (Nat.add_le_add_left (Nat.mul_le_mul_right _ hroom) _) q5
      obtain ⟨w', r1, r2, r3, r4, r5, r6, r7⟩ := run_storeCells (P := P) (off := off + rows.length * info.size) news.flatten 0 w c q3 (by omega) hone
      refine ⟨.slice (some ⟨b, off, none⟩) (rows.length + news.length) cap, w', _, ?_, ⟨_, cap, rfl, rfl⟩, ?_⟩
      · rw [hx]
        refine run_seq (w' := w') (x := .slice (some ⟨b, off, none⟩) (rows.length + news.length) cap) ?_ rfl
        simp [Builtin.append_, run_underlying ht, Go.sizeOf, typeInfo, hi, Builtin.lenOf, hroom, hf, add_none, r1]
      · have hne : ∀ d, d ≠ b → w'.heap[d]? = w.heap[d]? := r4
        have hnot : ∀ d, S2 d ∨ I d → d ≠ b := by
          rintro d hd rfl
          exact hd.elim (h3 d q2) (d1 d (h1 d q2))
        refine ⟨S, I, ⟨S1, S2, h1, h2, h3, ⟨happ, .inr ⟨b, off, _, T, rfl, q2, r2, by simpa using hroom, ?_, ?_⟩⟩, h6.loc fun d hd => hne d (hnot d hd)⟩, d1, fun d hd => r3 ▸ d2 d hd, fun d hd => r3 ▸ d3 d hd, d4, ?_⟩
        · rw [putCells_size]; exact q5
        · intro j v hj
          rw [List.flatten_append, List.getElem?_append] at hj
          rw [putCells_get _ _ _ _ (by omega)]
          split at hj
          · rename_i hlt
            rw [if_neg (by omega)]
            exact q6 j v hj
          · rename_i hge
            have hjl : j - rows.flatten.length < news.flatten.length := by
              rcases Nat.lt_or_ge (j - rows.flatten.length) news.flatten.length with h | h
              · exact h
              · rw [List.getElem?_eq_none h] at hj; cases hj
            rw [if_pos (by omega), show off + j - (off + rows.length * info.size + 0) = j - rows.flatten.length from by omega]
            exact hj
        · exact ⟨r5.trans d5.os, r6.trans d5.tape, r7.trans d5.output, by rw [r3]; exact d5.size, fun d hd => (hne d (hnot d (.inr (d4 d hd)))).trans (d5.block d hd)⟩
  · -- it grows
    have hg : cap < rows.length + news.length := by omega
    have hfd := run_firstCells (P := P) (w := w.drew) (a := a2) info.size news.length cap2 hnl (fun j v hj => by obtain ⟨p, hp', hc⟩ := hrd j v hj; exact ⟨p, hp', hc⟩)
    have hfo := run_firstCells (P := P) (w := w.drew) (a := a1) info.size rows.length cap hrl (fun j v hj => by obtain ⟨p, hp', hc⟩ := hrr j v hj; exact ⟨p, hp', hc⟩)
    have h63' : ¬ (9223372036854775807 < ((rows.length : Int) + (news.length : Int))) := by omega
    have h48' : ¬ (281474976710656 < Builtin.nextslicecap (rows.length + news.length) cap * info.bytes) := by have := growslice_fits hg hbig; omega
    have hge := grownCap_ge w (rows.length + news.length) cap E
    refine ⟨.slice (some ⟨w.heap.size, 0, none⟩) (rows.length + news.length) (grownCap w (rows.length + news.length) cap E),
      w.drew.alloc (.cells (rows.flatten.toArray ++ news.flatten.toArray ++ Builtin.zeroCells zv.cells (grownCap w (rows.length + news.length) cap E - (rows.length + news.length))) E), _, ?_, ⟨_, _, rfl, rfl⟩, ?_⟩
    · rw [hx]
      refine run_seq (x := .slice (some ⟨w.heap.size, 0, none⟩) (rows.length + news.length) (grownCap w (rows.length + news.length) cap E)) ?_ rfl
      simp [Builtin.append_, run_underlying ht, Go.sizeOf, typeInfo, zeroValue, hi, hz, Builtin.lenOf, hroom, h63', h48', Question.forced, hfd, hfo, newRow, grownCap]
      congr 2
      apply Array.ext'
      simp [List.append_assoc]
    · have h8 : Sat W0 Γ' w := hw.drop hp
      have h9 := (h8.drew).alloc (.cells (rows.flatten.toArray ++ news.flatten.toArray ++ Builtin.zeroCells zv.cells (grownCap w (rows.length + news.length) cap E - (rows.length + news.length))) E)
      refine Sat.head_imp (A := Asn.own w.heap.size (.cells (rows.flatten.toArray ++ news.flatten.toArray ++ Builtin.zeroCells zv.cells (grownCap w (rows.length + news.length) cap E - (rows.length + news.length))) E)) (B := RowsA info.size (some ⟨w.heap.size, 0, none⟩) (grownCap w (rows.length + news.length) cap E) (rows ++ news)) (fun S I h ⟨k1, k2⟩ => ⟨happ, .inr ⟨w.heap.size, 0, _, E, rfl, k1, k2, by simpa using hge, ?_, ?_⟩⟩) h9
      · simp only [Array.size_append, List.size_toArray, size_zeroCells, hzs, hrl, hnl, ← Nat.add_mul, Nat.zero_add]
        apply Nat.mul_le_mul_right
        omega
      · intro j v hj
        rw [List.flatten_append] at hj
        have hjl : j < (rows.flatten ++ news.flatten).length := by
          rcases Nat.lt_or_ge j (rows.flatten ++ news.flatten).length with h | h
          · exact h
          · rw [List.getElem?_eq_none h] at hj; cases hj
        rw [Nat.zero_add, Array.getElem?_append_left (by simpa using hjl)]
        simpa using hj
/-- The same, with what the type's row says given as numbers. -/
theorem st_appendP {op : Op} {ty : TypeId} (t ty' E bytes : Nat) {cap2 m1 m2 : Nat} (zv : Value) (info : TypeInfo)
    (hx : ∀ w, (execOp (ev e) (bare op ty)).run P w = (Builtin.append_ #[t, t] ty' #[.slice a1 m1 cap, .slice a2 m2 cap2] >>= fun v => pure (Next.value v)).run P w)
    (ht : P.underlying t = some (.slice E)) (hi : P.info? E = some info) (hz : info.zero = some zv) (hk : info.size = k) (hzs : zv.cells.size = k) (hby : info.bytes = bytes) (hb0 : Nat.blt 0 bytes = true)
    (hp : Pull Γ (RowsA k a1 cap rows) Γ') (hr : Reads W0 Γ a2 news) (hnk : ∀ r ∈ news, r.length = k) (hone : news.flatten.all oneCell = true) (hm1 : m1 = rows.length) (hm2 : m2 = news.length)
    (hbig : (m1 + m2) * bytes ≤ 140737488355328) :
    StepTo P W0 Γ e op ty (fun v Δ => ∃ a' cap', v = .slice a' (m1 + m2) cap' ∧ Δ = RowsA k a' cap' (rows ++ news) :: Γ') := by
  subst hm1; subst hm2; subst hby
  exact st_append t ty' E cap2 info zv hx ht hi hz hk hzs hp hr hnk hone hbig (by simpa using hb0)
theorem ints_one (xs : List Int) : (ints xs).flatten.all oneCell = true := by
  rw [ints_flatten]
  simp [oneCell]
end
end Go.Proofs.Ytcigheahollkcaa
