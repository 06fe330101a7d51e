/- Reading and writing one row of a slice of ours; slices of slices; lists of entries of caches.
   Conditions: none. -/
import Derived.Test.YtcigheahollkcaaSlMem
namespace Go.Proofs.Ytcigheahollkcaa
open Go Go.RowKit

section
variable {P : Program} {n : Nat} {W0 w : World} {e : Env} {Γ Γ' : List Asn} {K : Act → World → Prop} {k : Nat} {a a1 a2 : Option Addr} {cap : Nat} {rows news : List (List Value)}

theorem getAt {α : Type} (xs : List α) (i : Nat) (h : i < xs.length) : ∃ x, xs[i]? = some x := ⟨xs[i], List.getElem?_eq_getElem h⟩
theorem ints_get {xs : List Int} {i : Nat} {x : Int} (h : xs[i]? = some x) : (ints xs)[i]? = some [.int .i64 x] := by simp [ints, h]

theorem flatten_get (hk : ∀ r ∈ rows, r.length = k) : ∀ {i j : Nat} {row : List Value} {v : Value}, rows[i]? = some row → row[j]? = some v → rows.flatten[i * k + j]? = some v := by
  induction rows with
  | nil => intro i j row v h; simp at h
  | cons r rs ih =>
    intro i j row v hi hj
    have hr := hk r (List.mem_cons_self ..)
    rw [List.flatten_cons, List.getElem?_append]
    cases i with
    | zero =>
      simp at hi
      subst hi
      have : j < r.length := by
        rcases Nat.lt_or_ge j r.length with h | h
        · exact h
        · rw [List.getElem?_eq_none h] at hj; cases hj
      rw [Nat.zero_mul, Nat.zero_add, if_pos this]; exact hj
    | succ i =>
      rw [if_neg (by rw [hr, Nat.succ_mul]; omega), hr, show (i + 1) * k + j - k = i * k + j from by rw [Nat.succ_mul]; omega]
      exact ih (fun x hx => hk x (List.mem_cons_of_mem _ hx)) (by simpa using hi) hj

/-- A slice that has a row has an address. -/
theorem rows_at (hp : Pull Γ (RowsA k a cap rows) Γ') (hne : 0 < rows.length) (h : ∀ b off, a = some ⟨b, off, none⟩ → At n W0 e Γ K) : At n W0 e Γ K := by
  intro ac w ha hw
  obtain ⟨S, I, ⟨S1, S2, h1, h2, h3, ⟨h4, h5⟩, h6⟩, r⟩ := hw.pull hp
  rcases h5 with ⟨rfl, _⟩ | ⟨b, off, c, T, q1, q2⟩
  · simp at hne
  · exact h b off q1 ac w ha hw
theorem imm_at (hp : Pull Γ (ImmR k a rows) Γ') (hne : 0 < rows.length) (h : ∀ b off, a = some ⟨b, off, none⟩ → At n W0 e Γ K) : At n W0 e Γ K := by
  intro ac w ha hw
  obtain ⟨S, I, ⟨S1, S2, h1, h2, h3, ⟨h4, h5⟩, h6⟩, r⟩ := hw.pull hp
  rcases h5 with rfl | ⟨b, off, c, T, fr, q1, q2⟩
  · simp at hne
  · exact h b off q1 ac w ha hw
/-- The same where the region's order is open. -/
theorem rows_at_draw {ops : Array Oper} {Q : Exit → Act → World → Prop} {D Pp Pl : List Nat} (hp : Pull Γ (RowsA k a cap rows) Γ') (hne : 0 < rows.length) (h : ∀ b off, a = some ⟨b, off, none⟩ → Draw P n W0 ops Q D Pp Pl e Γ) : Draw P n W0 ops Q D Pp Pl e Γ := by
  intro t1 t2 t3 t4 fuel listed ac w hi hl hw
  have hw' := hw
  obtain ⟨S, I, ⟨S1, S2, h1, h2, h3, ⟨h4, h5⟩, h6⟩, r⟩ := hw'.pull hp
  rcases h5 with ⟨rfl, _⟩ | ⟨b, off, c, T, q1, q2⟩
  · simp at hne
  · exact h b off q1 t1 t2 t3 t4 fuel listed ac w hi hl hw
theorem imm_at_draw {ops : Array Oper} {Q : Exit → Act → World → Prop} {D Pp Pl : List Nat} (hp : Pull Γ (ImmR k a rows) Γ') (hne : 0 < rows.length) (h : ∀ b off, a = some ⟨b, off, none⟩ → Draw P n W0 ops Q D Pp Pl e Γ) : Draw P n W0 ops Q D Pp Pl e Γ := by
  intro t1 t2 t3 t4 fuel listed ac w hi hl hw
  have hw' := hw
  obtain ⟨S, I, ⟨S1, S2, h1, h2, h3, ⟨h4, h5⟩, h6⟩, r⟩ := hw'.pull hp
  rcases h5 with rfl | ⟨b, off, c, T, fr, q1, q2⟩
  · simp at hne
  · exact h b off q1 t1 t2 t3 t4 fuel listed ac w hi hl hw
/-- Whatever is known of the world, known for good. -/
theorem Draw.known {ops : Array Oper} {Q : Exit → Act → World → Prop} {D Pp Pl : List Nat} {p : Prop} (hp : ∀ w, Sat W0 Γ w → p) (h : p → Draw P n W0 ops Q D Pp Pl e Γ) : Draw P n W0 ops Q D Pp Pl e Γ :=
  fun t1 t2 t3 t4 fuel listed ac w hi hl hw => h (hp w hw) t1 t2 t3 t4 fuel listed ac w hi hl hw

/-- One cell of a row. -/
theorem rows_cell {b off i j : Nat} {row : List Value} {v : Value} (hp : Pull Γ (RowsA k a cap rows) Γ') (ha : a = some ⟨b, off, none⟩) (hi : rows[i]? = some row) (hj : row[j]? = some v) :
    ∀ w, Sat W0 Γ w → w.cell? ⟨b, off + (i * k + j), none⟩ = some v := by
  intro w hw
  have hk := (RowsA.len (hw.pull hp)).1
  obtain ⟨p, hp', hc⟩ := RowsA.reads hp w hw (i * k + j) v (flatten_get hk hi hj)
  rw [ha] at hp'
  obtain rfl := Option.some.inj hp'
  rwa [add_none] at hc
theorem imm_cell {b off i j : Nat} {row : List Value} {v : Value} (hp : Pull Γ (ImmR k a rows) Γ') (ha : a = some ⟨b, off, none⟩) (hi : rows[i]? = some row) (hj : row[j]? = some v) :
    ∀ w, Sat W0 Γ w → w.cell? ⟨b, off + (i * k + j), none⟩ = some v := by
  intro w hw
  have hk : ∀ r ∈ rows, r.length = k := by
    obtain ⟨S, I, ⟨S1, S2, h1, h2, h3, ⟨h4, h5⟩, h6⟩, r⟩ := hw.pull hp
    exact h4
  obtain ⟨p, hp', hc⟩ := ImmR.reads hp w hw (i * k + j) v (flatten_get hk hi hj)
  rw [ha] at hp'
  obtain rfl := Option.some.inj hp'
  rwa [add_none] at hc
theorem reads_cell {b off i j : Nat} {row : List Value} {v : Value} (hr : Reads W0 Γ a rows) (hk : ∀ r ∈ rows, r.length = k) (ha : a = some ⟨b, off, none⟩) (hi : rows[i]? = some row) (hj : row[j]? = some v) :
    ∀ w, Sat W0 Γ w → w.cell? ⟨b, off + (i * k + j), none⟩ = some v := by
  intro w hw
  obtain ⟨p, hp', hc⟩ := hr w hw (i * k + j) v (flatten_get hk hi hj)
  rw [ha] at hp'
  obtain rfl := Option.some.inj hp'
  rwa [add_none] at hc
theorem spot_none {w : World} {p : Addr} {v : Value} (h : w.cell? (p.add 0) = some v) : p.spot = none := by
  unfold World.cell? at h
  split at h
  · cases hs : p.spot with
    | none => rfl
    | some q => simp [Addr.add, hs] at h
  · cases h
theorem Reads.place {xs : List Int} (hr : Reads W0 Γ a (ints xs)) (hne : 0 < xs.length) {w : World} (hw : Sat W0 Γ w) : ∃ b off, a = some ⟨b, off, none⟩ := by
  obtain ⟨p, hp, hc⟩ := hr w hw 0 (.int .i64 xs[0]) (by rw [ints_flatten]; simp [hne])
  have := spot_none hc
  refine ⟨p.block, p.off, ?_⟩
  rw [hp]
  cases p; simp_all
theorem reads_at {xs : List Int} (hr : Reads W0 Γ a (ints xs)) (hne : 0 < xs.length) (h : ∀ b off, a = some ⟨b, off, none⟩ → At n W0 e Γ K) : At n W0 e Γ K := by
  intro ac w ha hw
  obtain ⟨b, off, q⟩ := hr.place hne hw
  exact h b off q ac w ha hw
theorem reads_at_draw {xs : List Int} {ops : Array Oper} {Q : Exit → Act → World → Prop} {D Pp Pl : List Nat} (hr : Reads W0 Γ a (ints xs)) (hne : 0 < xs.length) (h : ∀ b off, a = some ⟨b, off, none⟩ → Draw P n W0 ops Q D Pp Pl e Γ) : Draw P n W0 ops Q D Pp Pl e Γ := by
  intro t1 t2 t3 t4 fuel listed ac w hi hl hw
  obtain ⟨b, off, q⟩ := hr.place hne hw
  exact h b off q t1 t2 t3 t4 fuel listed ac w hi hl hw
theorem load1_at {b off off' : Nat} {v : Value} {o : Oper} (hx : ∀ w, (execOp (ev e) o).run P w = (load ⟨b, off', none⟩ >>= fun v => pure (Next.value v)).run P w) (he : off' = off) (hc : ∀ w, Sat W0 Γ w → w.cell? ⟨b, off, none⟩ = some v) :
    ∀ w, Sat W0 Γ w → (execOp (ev e) o).run P w = .ok (.value v) w := by subst he; exact load1_cell hx hc
/-- A whole row. -/
theorem loadN_at {b off off' i : Nat} {row : List Value} {o : Oper} (hx : ∀ w, (execOp (ev e) o).run P w = (loadCells ⟨b, off', none⟩ k >>= fun cs => pure (Next.value (.agg cs))).run P w) (he : off' = off + i * k) (hl : row.length = k)
    (hc : ∀ j v, row[j]? = some v → ∀ w, Sat W0 Γ w → w.cell? ⟨b, off + (i * k + j), none⟩ = some v) : ∀ w, Sat W0 Γ w → (execOp (ev e) o).run P w = .ok (.value (.agg row.toArray)) w := by
  subst he
  refine loadN_cell k hx hl fun w hw j v hj => ?_
  rw [add_none, Nat.add_assoc]
  exact hc j v hj w hw

/-- 'xs[i]', its place. -/
theorem index_at {t : TypeId} {E m c sz b off i : Nat} {x : Int} {ix : Nat} {o : Oper} (info : TypeInfo) (hx : ∀ w, (execOp (ev e) o).run P w = (Instr.indexAt t (.slice a m c) (.int .i64 x) >>= fun v => pure (Next.value v)).run P w) (ht : P.underlying t = some (.slice E))
    (hi : P.info? E = some info) (hs : info.size = sz) (ha : a = some ⟨b, off, none⟩) (hxi : x = (i : Nat)) (hlt : i < m) (hix : ix = off + i * sz) : ∀ w, (execOp (ev e) o).run P w = .ok (.value (.pointer (some ⟨b, ix, none⟩))) w := by
  intro w
  subst ha; subst hxi; subst hs; subst hix
  rw [hx]
  refine run_seq (w' := w) (x := .pointer (some ⟨b, off + i * info.size, none⟩)) ?_ rfl
  simp [Instr.indexAt, asIntOf, run_underlying ht, Go.sizeOf, typeInfo, hi, hlt, add_none]

theorem field_at {f b off off' : Nat} {o : Oper} {addr : Addr} (hx : ∀ w, (execOp (ev e) o).run P w = .ok (.value (.pointer (some (Addr.add addr f)))) w) (ha : addr = ⟨b, off, none⟩) (ho : off' = off + f) : ∀ w, (execOp (ev e) o).run P w = .ok (.value (.pointer (some ⟨b, off', none⟩))) w := by
  intro w
  subst ha; subst ho
  rw [hx, add_none]

/-! A row is written. -/
def putRow (row : List Value) (j : Nat) (vs : List Value) : List Value := row.take j ++ vs ++ row.drop (j + vs.length)
theorem putRow_length {row vs : List Value} {j : Nat} (h : j + vs.length ≤ row.length) : (putRow row j vs).length = row.length := by
  simp [putRow]; omega
theorem putRow_get {row vs : List Value} {j : Nat} (h : j + vs.length ≤ row.length) (q : Nat) : (putRow row j vs)[q]? = if j ≤ q ∧ q < j + vs.length then vs[q - j]? else row[q]? := by
  unfold putRow
  rw [List.getElem?_append, List.getElem?_append]
  simp only [List.length_append, List.length_take, List.getElem?_take, List.getElem?_drop]
  have : min j row.length = j := by omega
  rw [this]
  by_cases h1 : q < j
  · rw [if_pos (by omega), if_pos h1, if_pos h1, if_neg (by omega)]
  · by_cases h2 : q < j + vs.length
    · rw [if_pos h2, if_neg h1, if_pos ⟨by omega, h2⟩]
    · rw [if_neg h2, if_neg (by omega)]
      congr 1; omega

theorem flatten_at (hk : ∀ r ∈ rows, r.length = k) : ∀ {q : Nat} {v : Value}, rows.flatten[q]? = some v → ∃ i j row, rows[i]? = some row ∧ row[j]? = some v ∧ q = i * k + j ∧ j < k := by
  induction rows with
  | nil => intro q v h; simp at h
  | cons r rs ih =>
    intro q v h
    have hr := hk r (List.mem_cons_self ..)
    rw [List.flatten_cons, List.getElem?_append] at h
    split at h
    · rename_i hlt
      exact ⟨0, q, r, rfl, h, by simp, by omega⟩
    · rename_i hge
      obtain ⟨i, j, row, h1, h2, h3, h4⟩ := ih (fun x hx => hk x (List.mem_cons_of_mem _ hx)) h
      exact ⟨i + 1, j, row, by simpa using h1, h2, by rw [Nat.succ_mul]; omega, h4⟩

theorem st_row {op : Op} {ty : TypeId} {b off off' i j : Nat} {row row' vs : List Value} (hx : ∀ w, (execOp (ev e) (bare op ty)).run P w = (storeCells ⟨b, off', none⟩ vs >>= fun _ => pure Next.skip).run P w)
    (hp : Pull Γ (RowsA k a cap rows) Γ') (ha : a = some ⟨b, off, none⟩) (hi : rows[i]? = some row) (ho : off' = off + (i * k + j)) (hjl : Nat.ble (j + vs.length) k = true) (hv : vs.all oneCell = true) (hrow : putRow row j vs = row') :
    StepTo P W0 Γ e op ty (Is undef (RowsA k a cap (rows.set i row') :: Γ')) := by
  subst ha; subst ho; subst hrow
  refine StepTo.skip fun w hw => ?_
  obtain ⟨S, I, ⟨S1, S2, h1, h2, h3, ⟨h4, h5⟩, h6⟩, d1, d2, d3, d4, d5⟩ := hw.pull hp
  have hil : i < rows.length := by
    rcases Nat.lt_or_ge i rows.length with h | h
    · exact h
    · rw [List.getElem?_eq_none h] at hi; cases hi
  have hjk : j + vs.length ≤ k := by simpa using hjl
  have hrk : row.length = k := h4 row (List.mem_of_getElem? hi)
  rcases h5 with ⟨rfl, _⟩ | ⟨b', off', c, T, q1, q2, q3, q4, q5, q6⟩
  · simp at hil
  · simp only [Option.some.injEq, Addr.mk.injEq, and_true] at q1
    obtain ⟨rfl, rfl⟩ := q1
    have hmul : i * k + k ≤ cap * k := by
      have : (i + 1) * k ≤ cap * k := Nat.mul_le_mul_right _ (by omega)
      rwa [Nat.succ_mul] at this
    obtain ⟨w', r1, r2, r3, r4, r5, r6, r7⟩ := run_storeCells (P := P) (off := off + (i * k + j)) vs 0 w c q3 (by omega) hv
    have hne : ∀ d, d ≠ b → w'.heap[d]? = w.heap[d]? := r4
    have hnot : ∀ d, S2 d ∨ I d → d ≠ b := by
      rintro d hd rfl
      exact hd.elim (h3 d q2) (d1 d (h1 d q2))
    have hk' : ∀ r ∈ rows.set i (putRow row j vs), r.length = k := by
      intro r hr
      rcases List.mem_or_eq_of_mem_set hr with h | rfl
      · exact h4 r h
      · rw [putRow_length (by omega), hrk]
    refine ⟨w', _, ?_, ⟨rfl, rfl⟩, S, I, ⟨S1, S2, h1, h2, h3, ⟨hk', .inr ⟨b, off, _, T, rfl, q2, r2, by simpa using q4, ?_, ?_⟩⟩, h6.loc fun d hd => hne d (hnot d hd)⟩, d1, fun d hd => r3 ▸ d2 d hd, fun d hd => r3 ▸ d3 d hd, d4, ?_⟩
    · rw [hx]; exact run_seq r1 rfl
    · rw [putCells_size]; exact q5
    · intro q v hq
      obtain ⟨i', j', row', e1, e2, rfl, e4⟩ := flatten_at hk' hq
      rw [putCells_get _ _ _ _ (by omega)]
      by_cases hii : i' = i
      · subst hii
        rw [List.getElem?_set_self hil] at e1
        obtain rfl := Option.some.inj e1
        rw [putRow_get (by omega)] at e2
        by_cases h7 : j ≤ j' ∧ j' < j + vs.length
        · rw [if_pos h7] at e2
          rw [if_pos (by omega), show off + (i' * k + j') - (off + (i' * k + j) + 0) = j' - j from by omega]
          exact e2
        · rw [if_neg h7] at e2
          rw [if_neg (by omega)]
          exact q6 _ _ (flatten_get h4 hi e2)
      · rw [List.getElem?_set_ne (fun e3 => hii e3.symm)] at e1
        rw [if_neg ?_]
        · exact q6 _ _ (flatten_get h4 e1 e2)
        · rintro ⟨g1, g2⟩
          rcases Nat.lt_or_gt_of_ne hii with h8 | h8
          · have : (i' + 1) * k ≤ i * k := Nat.mul_le_mul_right _ h8
            rw [Nat.succ_mul] at this; omega
          · have : (i + 1) * k ≤ i' * k := Nat.mul_le_mul_right _ h8
            rw [Nat.succ_mul] at this; omega
    · exact ⟨r5.trans d5.os, r6.trans d5.tape, r7.trans d5.output, by rw [r3]; exact d5.size, fun d hd => (hne d (hnot d (.inr (d4 d hd)))).trans (d5.block d hd)⟩

/-! A slice of a slice. -/
/-- 'xs[l:h]', its value: l, h within. -/
theorem slice_at {t : TypeId} {E m c sz lo hi mx : Nat} {o : Oper} (l h mxo : Option Value) (info : TypeInfo) (hx : ∀ w, (execOp (ev e) o).run P w = (Instr.sliceAt t (.slice a m c) l h mxo >>= fun v => pure (Next.value v)).run P w)
    (ht : P.underlying t = some (.slice E)) (hi' : P.info? E = some info) (hs : info.size = sz)
    (hl : l = none ∧ lo = 0 ∨ ∃ x : Int, l = some (.int .i64 x) ∧ x = (lo : Nat)) (hh : h = none ∧ hi = m ∧ mxo = none ∨ ∃ x : Int, h = some (.int .i64 x) ∧ x = (hi : Nat)) (hm : mxo = none ∧ mx = c ∨ ∃ x : Int, mxo = some (.int .i64 x) ∧ x = (mx : Nat))
    (h1 : lo ≤ hi) (h2 : hi ≤ mx) (h3 : mx ≤ c) :
    ∀ w, (execOp (ev e) o).run P w = .ok (.value (.slice (if mx = lo then a else a.map (·.add (lo * sz))) (hi - lo) (mx - lo))) w := by
  intro w
  subst hs
  rw [hx]
  refine run_seq (w' := w) (x := .slice (if mx = lo then a else a.map (·.add (lo * info.size))) (hi - lo) (mx - lo)) ?_ rfl
  have e1 : ∀ (y : Nat) (q : Nat) (code : BoundsCode), q ≤ y → (Instr.sliceBound (.int .i64 (q : Nat)) y code).run P w = .ok q w := by
    intro y q code hq
    have : (0 : Int) ≤ (q : Int) ∧ (q : Int) ≤ (y : Int) := ⟨by omega, by omega⟩
    simp [Instr.sliceBound, asIntOf, this]
  have hb : (Instr.sliceBounds true m c l h mxo).run P w = .ok (lo, hi, mx) w := by
    rcases hm with ⟨rfl, rfl⟩ | ⟨z, rfl, rfl⟩
    · rcases hh with ⟨rfl, rfl, -⟩ | ⟨y, rfl, rfl⟩ <;> rcases hl with ⟨rfl, rfl⟩ | ⟨x, rfl, rfl⟩ <;> simp [Instr.sliceBounds, e1 _ _ _ h1, e1 _ _ _ h2]
    · rcases hh with ⟨rfl, rfl, h9⟩ | ⟨y, rfl, rfl⟩
      · cases h9
      · rcases hl with ⟨rfl, rfl⟩ | ⟨x, rfl, rfl⟩ <;> simp [Instr.sliceBounds, e1 _ _ _ h1, e1 _ _ _ h2, e1 _ _ _ h3]
  simp [Instr.sliceAt, Instr.slice, run_underlying ht, Go.sizeOf, typeInfo, hi', hb]
end
end Go.Proofs.Ytcigheahollkcaa
