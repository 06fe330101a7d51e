/- A row goes out of a slice of ours; a slice's end is cleared; what a block of literal cells may be read as.
   Conditions: none. -/
import Derived.Test.YtcigheahollkcaaSlCache
namespace Go.Proofs.Ytcigheahollkcaa
open Go Go.RowKit
section
variable {P : Program} {n : Nat} {W0 w : World} {e : Env} {Γ Γ' : List Asn} {K : Act → World → Prop} {k : Nat} {a a1 a2 : Option Addr} {cap : Nat} {rows news : List (List Value)} {xs ys zs : List Int}

theorem Reads.own {b : Nat} {c : Array Value} {T : TypeId} (hp : Pull Γ (Asn.own b (.cells c T (0, 0))) Γ') (hc : c = rows.flatten.toArray) : Reads W0 Γ (some ⟨b, 0, none⟩) rows := by
  intro w hw j v hj
  refine ⟨_, rfl, ?_⟩
  rw [add_none, cell_of (hw.pull hp).own_at, hc]
  simpa using hj
theorem RowsA.take (m : Nat) (h : Sat W0 (RowsA k a cap rows :: Γ) w) : Sat W0 (RowsA k a cap (rows.take m) :: Γ) w := by
  refine Sat.head_imp (A := RowsA k a cap rows) (B := RowsA k a cap (rows.take m)) (fun S I h ⟨h1, h2⟩ => ⟨fun r hr => h1 r (List.mem_of_mem_take hr), ?_⟩) h
  rcases h2 with ⟨rfl, rfl⟩ | ⟨b, off, c, T, q1, q2, q3, q4, q5, q6⟩
  · exact .inl ⟨by simp, rfl⟩
  · refine .inr ⟨b, off, c, T, q1, q2, q3, by simp; omega, q5, fun j v hj => q6 j v ?_⟩
    have : rows.flatten = (rows.take m).flatten ++ (rows.drop m).flatten := by rw [← List.flatten_append, List.take_append_drop]
    rw [this, List.getElem?_append_left]
    · exact hj
    · rcases Nat.lt_or_ge j (rows.take m).flatten.length with h | h
      · exact h
      · rw [List.getElem?_eq_none h] at hj; cases hj

theorem take_flat (h : ∀ r ∈ rows, r.length = k) (m : Nat) (hm : m ≤ rows.length) : (rows.take m).flatten.length = m * k := by
  rw [flatten_length (fun r hr => h r (List.mem_of_mem_take hr)), List.length_take, Nat.min_eq_left hm]

/-- append onto the beginning of a slice, of its own end. -/
theorem st_append_within {op : Op} {ty : TypeId} (t ty' E cap2 i j m : Nat) (info : TypeInfo)
    (hx : ∀ w, (execOp (ev e) (bare op ty)).run P w = (Builtin.append_ #[t, t] ty' #[.slice a i cap, .slice a2 m cap2] >>= fun v => pure (Next.value v)).run P w)
    (ht : P.underlying t = some (.slice E)) (hi : P.info? E = some info) (hk : info.size = k) (hp : Pull Γ (RowsA k a cap rows) Γ') (hr : Reads W0 Γ a2 (rows.drop j)) (hone : rows.flatten.all oneCell = true)
    (hij : i ≤ j) (hjm : j + m = rows.length) :
    StepTo P W0 Γ e op ty (Is (.slice a (i + m) cap) (RowsA k a cap (rows.take i ++ rows.drop j ++ rows.drop (i + m)) :: Γ')) := by
  subst hk
  refine StepTo.val fun w hw => ?_
  have h0 := hw.pull hp
  obtain ⟨hrk, hlc⟩ := RowsA.len h0
  have hnk : ∀ r ∈ rows.drop j, r.length = info.size := fun r hr => hrk r (List.mem_of_mem_drop hr)
  have hml : (rows.drop j).length = m := by simp; omega
  have hnl : (rows.drop j).flatten.length = m * info.size := by rw [flatten_length hnk, hml]
  have hf := run_firstCells (P := P) (w := w) info.size m cap2 hnl (hr w hw)
  have hone2 : (rows.drop j).flatten.all oneCell = true := by
    have : rows.flatten = (rows.take j).flatten ++ (rows.drop j).flatten := by rw [← List.flatten_append, List.take_append_drop]
    rw [this, List.all_append, Bool.and_eq_true] at hone
    exact hone.2
  have hroom : i + m ≤ cap := by omega
  have hrows' : ∀ r ∈ rows.take i ++ rows.drop j ++ rows.drop (i + m), r.length = info.size := by
    intro r hr
    rcases List.mem_append.1 hr with hr | hr
    · rcases List.mem_append.1 hr with hr | hr
      · exact hrk r (List.mem_of_mem_take hr)
      · exact hnk r hr
    · exact hrk r (List.mem_of_mem_drop hr)
  have hlen' : (rows.take i ++ rows.drop j ++ rows.drop (i + m)).length = rows.length := by simp; omega
  have hrest := h0
  obtain ⟨S, I, ⟨S1, S2, h1, h2, h3, ⟨_, h5⟩, h6⟩, d1, d2, d3, d4, d5⟩ := h0
  rcases h5 with ⟨rfl, rfl⟩ | ⟨b, off, c, T, rfl, q2, q3, q4, q5, q6⟩
  · have : i = 0 ∧ j = 0 ∧ m = 0 := by simp at hjm; omega
    obtain ⟨rfl, rfl, rfl⟩ := this
    refine ⟨.slice a 0 0, w, _, ?_, ⟨rfl, rfl⟩, by simpa using hrest⟩
    rw [hx]
    refine run_seq (w' := w) (x := .slice a 0 0) ?_ rfl
    simp only [List.drop_nil, List.flatten_nil] at hf
    cases a <;> simp [Builtin.append_, run_underlying ht, Go.sizeOf, typeInfo, hi, Builtin.lenOf, hf, storeCells]
  · have hsz : off + (i * info.size) + 0 + (rows.drop j).flatten.length ≤ c.size := by
      rw [hnl, Nat.add_zero, Nat.add_assoc, ← Nat.add_mul]
      exact Nat.le_trans (Nat.add_le_add_left (Nat.mul_le_mul_right _ hroom) _) q5
    obtain ⟨w', r1, r2, r3, r4, r5, r6, r7⟩ := run_storeCells (P := P) (off := off + i * info.size) (rows.drop j).flatten 0 w c q3 (by omega) hone2
    have hne : ∀ d, d ≠ b → w'.heap[d]? = w.heap[d]? := r4
    have hnot : ∀ d, S2 d ∨ I d → d ≠ b := by
      rintro d hd rfl
      exact hd.elim (h3 d q2) (d1 d (h1 d q2))
    refine ⟨_, w', _, ?_, ⟨rfl, rfl⟩, S, I, ⟨S1, S2, h1, h2, h3, ⟨hrows', .inr ⟨b, off, _, T, rfl, q2, r2, by omega, ?_, ?_⟩⟩, h6.loc fun d hd => hne d (hnot d hd)⟩, d1, fun d hd => r3 ▸ d2 d hd, fun d hd => r3 ▸ d3 d hd, d4, ?_⟩
    · rw [hx]
      refine run_seq (w' := w') (x := .slice (some ⟨b, off, none⟩) (i + m) cap) ?_ rfl
      simp [Builtin.append_, run_underlying ht, Go.sizeOf, typeInfo, hi, Builtin.lenOf, hroom, hf, add_none, r1]
    · rw [putCells_size]; exact q5
    · intro q v hq
      rw [List.flatten_append, List.flatten_append, List.append_assoc, List.getElem?_append, take_flat hrk i (by omega), List.getElem?_append, hnl] at hq
      rw [putCells_get _ _ _ _ (by omega), hnl]
      split at hq
      · rename_i hlt
        rw [if_neg (by omega)]
        have e1 : rows.flatten = (rows.take i).flatten ++ (rows.drop i).flatten := by rw [← List.flatten_append, List.take_append_drop]
        exact q6 q v (by rw [e1, List.getElem?_append_left (by rw [take_flat hrk i (by omega)]; exact hlt)]; exact hq)
      · rename_i hge
        split at hq
        · rename_i hlt2
          rw [if_pos (by omega), show off + q - (off + i * info.size + 0) = q - i * info.size from by omega]
          exact hq
        · rename_i hge2
          rw [if_neg (by omega)]
          have e1 : rows.flatten = (rows.take (i + m)).flatten ++ (rows.drop (i + m)).flatten := by rw [← List.flatten_append, List.take_append_drop]
          have e2 := take_flat hrk (i + m) (by omega)
          rw [Nat.add_mul] at e2
          refine q6 q v ?_
          rw [e1, List.getElem?_append_right (by omega), e2, show q - (i * info.size + m * info.size) = q - i * info.size - m * info.size from by omega]
          exact hq
    · exact ⟨r5.trans d5.os, r6.trans d5.tape, r7.trans d5.output, by rw [r3]; exact d5.size, fun d hd => (hne d (hnot d (.inr (d4 d hd)))).trans (d5.block d hd)⟩

/-- clear of a slice's end. -/
theorem st_clear {op : Op} {ty : TypeId} (t ty' E cap2 p m : Nat) (info : TypeInfo) (zv : Value)
    (hx : ∀ w, (execOp (ev e) (bare op ty)).run P w = (Builtin.clear_ #[t] ty' #[.slice a2 m cap2] >>= fun v => pure (Next.value v)).run P w)
    (ht : P.underlying t = some (.slice E)) (hi : P.info? E = some info) (hz : info.zero = some zv) (hzs : zv.cells.size = k) (hzo : zv.cells.toList.all oneCell = true) (hk0 : Nat.blt 0 k = true)
    (hp : Pull Γ (RowsA k a cap rows) Γ') (ha2 : ∀ b off, a = some ⟨b, off, none⟩ → 0 < m → a2 = some ⟨b, off + p * k, none⟩) (hpm : p + m = rows.length) :
    StepTo P W0 Γ e op ty (Is (.tuple #[]) (RowsA k a cap (rows.take p) :: Γ')) := by
  subst hzs
  refine StepTo.val fun w hw => ?_
  have h0 := hw.pull hp
  obtain ⟨hrk, hlc⟩ := RowsA.len h0
  cases m with
  | zero =>
    refine ⟨.tuple #[], w, _, ?_, ⟨rfl, rfl⟩, RowsA.take p h0⟩
    rw [hx]
    refine run_seq (w' := w) (x := .tuple #[]) ?_ rfl
    cases a2 <;> simp [Builtin.clear_, run_underlying ht]
  | succ m =>
    have hrest := h0
    obtain ⟨S, I, ⟨S1, S2, h1, h2, h3, ⟨_, h5⟩, h6⟩, d1, d2, d3, d4, d5⟩ := h0
    rcases h5 with ⟨rfl, rfl⟩ | ⟨b, off, c, T, rfl, q2, q3, q4, q5, q6⟩
    · simp at hpm
    · obtain rfl := ha2 b off rfl (by omega)
      have hzl : (Builtin.zeroCells zv.cells (m + 1)).toList.length = (m + 1) * zv.cells.size := by simp [size_zeroCells]
      have hzall : (Builtin.zeroCells zv.cells (m + 1)).toList.all oneCell = true := by
        simp only [Builtin.zeroCells, Array.toList_map, List.all_map, List.all_eq_true]
        intro x hx
        have hk : 0 < zv.cells.size := by simpa using hk0
        have hlt : x % zv.cells.size < zv.cells.size := Nat.mod_lt _ hk
        rw [List.all_eq_true] at hzo
        simp only [Function.comp]
        rw [getElem!_pos zv.cells _ hlt]
        exact hzo _ (by simp)
      have hsz : off + p * zv.cells.size + 0 + (Builtin.zeroCells zv.cells (m + 1)).toList.length ≤ c.size := by
        rw [hzl, Nat.add_zero, Nat.add_assoc, ← Nat.add_mul]
        exact Nat.le_trans (Nat.add_le_add_left (Nat.mul_le_mul_right _ (by omega)) _) q5
      obtain ⟨w', r1, r2, r3, r4, r5, r6, r7⟩ := run_storeCells (P := P) (off := off + p * zv.cells.size) (Builtin.zeroCells zv.cells (m + 1)).toList 0 w c q3 (by omega) hzall
      have hne : ∀ d, d ≠ b → w'.heap[d]? = w.heap[d]? := r4
      have hnot : ∀ d, S2 d ∨ I d → d ≠ b := by
        rintro d hd rfl
        exact hd.elim (h3 d q2) (d1 d (h1 d q2))
      have hrk' : ∀ r ∈ rows.take p, r.length = zv.cells.size := fun r hr => hrk r (List.mem_of_mem_take hr)
      refine ⟨.tuple #[], w', _, ?_, ⟨rfl, rfl⟩, S, I, ⟨S1, S2, h1, h2, h3, ⟨hrk', .inr ⟨b, off, _, T, rfl, q2, r2, by simp; omega, ?_, ?_⟩⟩, h6.loc fun d hd => hne d (hnot d hd)⟩, d1, fun d hd => r3 ▸ d2 d hd, fun d hd => r3 ▸ d3 d hd, d4, ?_⟩
      · rw [hx]
        refine run_seq (w' := w') (x := .tuple #[]) ?_ rfl
        simp [Builtin.clear_, run_underlying ht, zeroValue, typeInfo, hi, hz, r1]
      · rw [putCells_size]; exact q5
      · intro q v hq
        have hql : q < p * zv.cells.size := by
          rw [← take_flat hrk p (by omega)]
          rcases Nat.lt_or_ge q (rows.take p).flatten.length with h | h
          · exact h
          · rw [List.getElem?_eq_none h] at hq; cases hq
        rw [putCells_get _ _ _ _ (by omega), if_neg (by omega)]
        have e1 : rows.flatten = (rows.take p).flatten ++ (rows.drop p).flatten := by rw [← List.flatten_append, List.take_append_drop]
        exact q6 q v (by rw [e1, List.getElem?_append_left (by rw [take_flat hrk p (by omega)]; exact hql)]; exact hq)
      · exact ⟨r5.trans d5.os, r6.trans d5.tape, r7.trans d5.output, by rw [r3]; exact d5.size, fun d hd => (hne d (hnot d (.inr (d4 d hd)))).trans (d5.block d hd)⟩
/-! The places that a slice operation names. -/
theorem slice_front (c m : Nat) (h : (if m = 0 then a else Option.map (fun x => Addr.add x (0 * c)) a) = a1) : a1 = a := by
  subst h
  split
  · rfl
  · cases a <;> simp [Addr.add]
theorem reads_drop {j : Nat} (hr : Reads W0 Γ a rows) (hk : ∀ r ∈ rows, r.length = k) (hk0 : 0 < k) (hc : rows.length ≤ cap) (ha : a1 = (if cap = j then a else Option.map (fun x => Addr.add x (j * k)) a)) : Reads W0 Γ a1 (rows.drop j) := by
  intro w hw q v hq
  have hne : j < rows.length := by
    rcases Nat.lt_or_ge j rows.length with h | h
    · exact h
    · rw [List.drop_eq_nil_of_le h] at hq; simp at hq
  have e1 : rows.flatten = (rows.take j).flatten ++ (rows.drop j).flatten := by rw [← List.flatten_append, List.take_append_drop]
  have e2 := take_flat hk j (by omega)
  obtain ⟨p, hp, hc'⟩ := hr w hw (j * k + q) v (by rw [e1, List.getElem?_append_right (by omega), e2, show j * k + q - j * k = q from by omega]; exact hq)
  obtain ⟨p0, hp0, hc0⟩ := hr w hw 0 _ (List.getElem?_eq_getElem (by rw [e1, List.length_append, e2]; rcases Nat.eq_zero_or_pos j with h | h; (· subst h; have := (List.getElem?_eq_some_iff.1 hq).1; omega); have := Nat.mul_pos h hk0; omega))
  have hs := spot_none hc0
  rw [if_neg (by omega), hp] at ha
  rw [hp] at hp0
  obtain rfl := Option.some.inj hp0
  refine ⟨_, ha, ?_⟩
  obtain ⟨b, o, sp⟩ := p
  subst hs
  rw [add_none] at hc'
  show w.cell? (((⟨b, o, none⟩ : Addr).add (j * k)).add q) = some v
  rw [add_none, add_none, Nat.add_assoc]; exact hc'
theorem clear_place {p q : Nat} (ha : a1 = (if cap = p then a else Option.map (fun x => Addr.add x (p * k)) a)) (hq : p + q ≤ cap) : ∀ b off, a = some ⟨b, off, none⟩ → 0 < q → a1 = some ⟨b, off + p * k, none⟩ := by
  intro b off h1 h2
  rw [ha, if_neg (by omega), h1, Option.map_some, add_none]
theorem within_take {i j m : Nat} (hij : i ≤ j) (hm : j + m = rows.length) : (rows.take i ++ rows.drop j ++ rows.drop (i + m)).take (i + m) = rows.take i ++ rows.drop j := by
  rw [List.take_append_of_le_length (by simp; omega), List.take_of_length_le (by simp; omega)]
end
end Go.Proofs.Ytcigheahollkcaa
