/- Maps whose keys are integers: made, looked up, written.
   Conditions: none. -/
import Derived.Test.YtcigheahollkcaaSlMore
import Derived.MapKept
namespace Go.Proofs.Ytcigheahollkcaa
open Go Go.RowKit
set_option linter.unusedVariables false
set_option linter.unusedSimpArgs false
/-- An entry of a map whose keys are integers. -/
structure KV where
  key : Int
  val : Value
  born : Nat
def kvE (x : KV) : MapEntry := { key := .int .i64 x.key, val := x.val, born := x.born }
def mapO (l : List KV) (clock : Nat) : Obj := .map (l.map kvE).toArray clock
def kvFind (k : Int) : List KV → Nat → Option (Nat × Value)
  | [], _ => none
  | x :: l, i => if k = x.key then some (i, x.val) else kvFind k l (i + 1)
theorem findNow_int (k : Int) (ik : IntKind) : ∀ (l : List KV) (i : Nat), Instr.findNow (.int ik) (.int .i64 k) (l.map kvE) i = some (kvFind k l i)
  | [], i => rfl
  | x :: l, i => by
    have ih := findNow_int k ik l (i + 1)
    simp only [List.map_cons, Instr.findNow, kvE, Instr.sameNow, if_true, kvFind]
    by_cases h : k = x.key
    · simp [h]
    · have : (k == x.key) = false := by simpa using h
      rw [this, if_neg h]; exact ih
section
variable {P : Program} {n : Nat} {W0 w : World} {e : Env} {Γ Γ' : List Asn} {op : Op} {ty : TypeId} {t K V b clock : Nat} {l : List KV} {k : Int} {v : Value}
theorem run_findKey {ik : IntKind} (hK : P.underlying K = some (.int ik)) : (Instr.findKey K (.int .i64 k) (l.map kvE)).run P w = .ok (kvFind k l 0) w := by
  unfold Instr.findKey
  refine run_seq (run_underlying hK _) ?_
  rw [findNow_int]; rfl
theorem run_checkKey {ik : IntKind} (empty : Bool) (hK : P.underlying K = some (.int ik)) : (Instr.checkKey empty 10000 K (.int .i64 k)).run P w = .ok () w := by
  unfold Instr.checkKey
  refine run_seq (run_underlying hK _) ?_
  rfl
theorem st_make_map (hx : ∀ w, (execOp (ev e) (bare op ty)).run P w = (Instr.makeMap t none >>= fun v => pure (Next.value v)).run P w) :
    StepTo P W0 Γ e op ty (fun v Δ => ∃ b : Nat, v = .map (some b) ∧ Δ = Asn.own b (mapO [] 0) :: Γ) := by
  refine StepTo.val fun w hw => ⟨_, _, _, ?_, ⟨w.heap.size, rfl, rfl⟩, hw.alloc _⟩
  rw [hx]; rfl
theorem st_insert_new {ik : IntKind} (hx : ∀ w, (execOp (ev e) (bare op ty)).run P w = (Instr.mapUpdate t (.map (some b)) (.int .i64 k) v >>= fun _ => pure Next.skip).run P w)
    (ht : P.underlying t = some (.map K V)) (hK : P.underlying K = some (.int ik)) (hp : Pull Γ (Asn.own b (mapO l clock)) Γ') (hn : kvFind k l 0 = none) :
    StepTo P W0 Γ e op ty (Is undef (Asn.own b (mapO (l ++ [⟨k, v, clock⟩]) (clock + 1)) :: Γ')) := by
  refine StepTo.skip fun w hw => ?_
  have h0 := hw.pull hp
  have hb := h0.own_at
  refine ⟨{ w with heap := w.heap.setIfInBounds b (mapO (l ++ [⟨k, v, clock⟩]) (clock + 1)) }, _, ?_, ⟨rfl, rfl⟩, ?_⟩
  · rw [hx]
    refine run_seq (w' := { w with heap := w.heap.setIfInBounds b (mapO (l ++ [⟨k, v, clock⟩]) (clock + 1)) }) (x := ()) ?_ rfl
    unfold Instr.mapUpdate
    refine run_seq (run_underlying ht _) ?_
    refine run_seq (Go.MapKept.run_getObj_map hb) ?_
    refine run_seq (run_checkKey false hK) ?_
    have hf := run_findKey (P := P) (w := w) (l := l) (k := k) hK
    rw [hn] at hf
    refine run_seq (by simpa using hf) ?_
    rw [show ((l.map kvE).toArray.push { key := .int .i64 k, val := v, born := clock }) = ((l ++ [(⟨k, v, clock⟩ : KV)]).map kvE).toArray by simp [kvE]]
    exact Go.MapKept.run_setObj_map _ hb
  · refine h0.put rfl rfl rfl (by simp) ?_ fun c hc => by simp [Ne.symm hc]
    have hlt : b < w.heap.size := (Array.getElem?_eq_some_iff.1 hb).1
    simp [hlt]
theorem st_insert_old {ik : IntKind} {i : Nat} {u : Value} (hx : ∀ w, (execOp (ev e) (bare op ty)).run P w = (Instr.mapUpdate t (.map (some b)) (.int .i64 k) v >>= fun _ => pure Next.skip).run P w)
    (ht : P.underlying t = some (.map K V)) (hK : P.underlying K = some (.int ik)) (hp : Pull Γ (Asn.own b (mapO l clock)) Γ') {x : KV} (hn : kvFind k l 0 = some (i, u)) (hi : l[i]? = some x) (hxk : x.key = k) :
    StepTo P W0 Γ e op ty (Is undef (Asn.own b (mapO (l.set i ⟨k, v, x.born⟩) clock) :: Γ')) := by
  refine StepTo.skip fun w hw => ?_
  have h0 := hw.pull hp
  have hb := h0.own_at
  have hil : i < l.length := (List.getElem?_eq_some_iff.1 hi).1
  have hlx : l[i] = x := (List.getElem?_eq_some_iff.1 hi).2
  refine ⟨{ w with heap := w.heap.setIfInBounds b (mapO (l.set i ⟨k, v, x.born⟩) clock) }, _, ?_, ⟨rfl, rfl⟩, ?_⟩
  · rw [hx]
    refine run_seq (w' := { w with heap := w.heap.setIfInBounds b (mapO (l.set i ⟨k, v, x.born⟩) clock) }) (x := ()) ?_ rfl
    unfold Instr.mapUpdate
    refine run_seq (run_underlying ht _) ?_
    refine run_seq (Go.MapKept.run_getObj_map hb) ?_
    refine run_seq (run_checkKey false hK) ?_
    have hf := run_findKey (P := P) (w := w) (l := l) (k := k) hK
    rw [hn] at hf
    refine run_seq (by simpa using hf) ?_
    refine run_seq (w' := w) (x := .int .i64 k) ?_ ?_
    · have : (((l.map kvE).toArray[i]?).map (·.key)).getD (.int .i64 k) = .int .i64 k := by
        simp [hi, kvE, hxk]
      rw [this]
      unfold Instr.keyThatStays
      simp [Instr.sameBits]
    · have : ((l.map kvE).toArray.modify i fun e => { e with key := .int .i64 k, val := v }) = ((l.set i (⟨k, v, x.born⟩ : KV)).map kvE).toArray := by
        apply Array.ext'
        simp only [Array.toList_modify]
        apply List.ext_getElem?
        intro j
        rw [List.getElem?_modify]
        by_cases h : i = j
        · subst h; simp [kvE, hil, hlx]
        · simp [h]
      rw [this]
      exact Go.MapKept.run_setObj_map _ hb
  · have hlt : b < w.heap.size := (Array.getElem?_eq_some_iff.1 hb).1
    refine h0.put rfl rfl rfl (by simp) ?_ fun c hc => by simp [Ne.symm hc]
    simp [hlt]
/-- What a lookup answers. -/
def kvGet (z : Value) (k : Int) (l : List KV) : Value × Bool := match kvFind k l 0 with | some (_, v) => (v, true) | none => (z, false)
theorem run_lookup {ik : IntKind} {o : Oper} {z : Value} {info : TypeInfo} (ok : Bool) (hx : ∀ w, (execOp (ev e) o).run P w = (Instr.lookup t (.map (some b)) (.int .i64 k) ok >>= fun v => pure (Next.value v)).run P w)
    (ht : P.underlying t = some (.map K V)) (hK : P.underlying K = some (.int ik)) (hi : P.info? V = some info) (hz : info.zero = some z) (hp : Pull Γ (Asn.own b (mapO l clock)) Γ') :
    ∀ w, Sat W0 Γ w → (execOp (ev e) o).run P w = .ok (.value (if ok then .tuple #[(kvGet z k l).1, .bool (kvGet z k l).2] else (kvGet z k l).1)) w := by
  intro w hw
  have hb := (hw.pull hp).own_at
  rw [hx]
  refine run_seq (w' := w) (x := if ok then .tuple #[(kvGet z k l).1, .bool (kvGet z k l).2] else (kvGet z k l).1) ?_ rfl
  unfold Instr.lookup
  refine run_seq (run_underlying ht _) ?_
  dsimp only
  refine run_seq (Go.MapKept.run_getObj_map hb) ?_
  dsimp only
  refine run_seq (x := (l.map kvE).toArray) (w' := w) rfl ?_
  refine run_seq (run_checkKey _ hK) ?_
  have hf := run_findKey (P := P) (w := w) (l := l) (k := k) hK
  unfold kvGet
  cases hk : kvFind k l 0 with
  | none =>
    rw [hk] at hf
    refine run_seq (x := none) (w' := w) (by simpa using hf) ?_
    dsimp only
    refine run_seq (x := z) (w' := w) (by simp [zeroValue, typeInfo, hi, hz]) ?_
    refine run_seq (x := (z, false)) (w' := w) rfl ?_
    cases ok <;> rfl
  | some p =>
    rw [hk] at hf
    refine run_seq (x := some p) (w' := w) (by simpa using hf) ?_
    refine run_seq (x := (p.2, true)) (w' := w) rfl ?_
    cases ok <;> rfl
/-! A loop over a map that it leaves alone. -/
theorem run_pick (m : Nat) (hm : 0 < m) : ∃ j w', j < m ∧ (choose (.mapNext m)).run P w = .ok j w' ∧ (w' = w ∨ w' = { w with drawn := w.drawn + 1 }) := by
  by_cases h : m ≤ 1
  · refine ⟨0, w, hm, ?_, .inl rfl⟩
    simp [choose, Sem.run, Question.forced, h]
  · refine ⟨w.tape w.drawn (.mapNext m) % m, _, Nat.mod_lt _ hm, ?_, .inr rfl⟩
    simp [choose, Sem.run, Question.forced, Question.cut, h]
theorem st_range {b' : Nat} {t' : TypeId} (hx : ∀ w, (execOp (ev e) (bare op ty)).run P w = (Instr.range t' (.map (some b')) >>= fun v => pure (Next.value v)).run P w) (ht : P.underlying t' = some (.map K V))
    (hm : ∀ w, Sat W0 Γ w → w.heap[b']? = some (mapO l clock)) :
    StepTo P W0 Γ e op ty (fun v Δ => ∃ r : Nat, v = .pointer (some ⟨r, 0, none⟩) ∧ Δ = Asn.own r (.mapIter (some b') clock #[] clock) :: Γ) := by
  refine StepTo.val fun w hw => ⟨_, _, _, ?_, ⟨w.heap.size, rfl, rfl⟩, hw.alloc _⟩
  rw [hx]
  refine run_seq (x := .pointer (some ⟨w.heap.size, 0, none⟩)) (w' := { w with heap := w.heap.push (.mapIter (some b') clock #[] clock) }) ?_ rfl
  unfold Instr.range
  refine run_seq (run_underlying ht _) ?_
  dsimp only
  refine run_seq (Go.MapKept.run_getObj_map (hm w hw)) ?_
  rfl
theorem st_next {m it since last : Nat} {seen : Array Nat} {ty' : TypeId} (hx : ∀ w, (execOp (ev e) (bare op ty)).run P w = (Instr.next (.pointer (some ⟨it, 0, none⟩)) false ty' >>= fun v => pure (Next.value v)).run P w)
    (hp : Pull Γ (Asn.own it (.mapIter (some m) since seen last)) Γ') (hm : ∀ w, Sat W0 Γ w → w.heap[m]? = some (mapO l clock)) (hs : ∀ x ∈ l, x.born < since) (hl : ∀ x ∈ l, x.born < last) :
    StepTo P W0 Γ e op ty (fun v Δ => (∃ x ∈ l, x.born ∉ seen ∧ v = .tuple #[.bool true, .int .i64 x.key, x.val] ∧ Δ = Asn.own it (.mapIter (some m) since (seen.push x.born) clock) :: Γ') ∨
      ((∀ x ∈ l, x.born ∈ seen) ∧ v = .tuple #[.bool false] ∧ Δ = Asn.own it (.mapIter (some m) since seen last) :: Γ')) := by
  refine StepTo.val fun w hw => ?_
  have h0 := hw.pull hp
  have hb := h0.own_at
  have hb2 := hm w hw
  have hg : (getObj it).run P w = .ok (.mapIter (some m) since seen last) w := by simp [getObj, Sem.run, hb]
  let L := l.filter fun x => !seen.contains x.born
  have hleft : ((l.map kvE).toArray.filter fun e => !seen.contains e.born) = (L.map kvE).toArray := by
    simp only [L, List.filter_toArray, List.filter_map]; rfl
  have hLs : ∀ x ∈ L, x.born < since := fun x hx => hs x (List.mem_filter.1 hx).1
  have hold : ((L.map kvE).toArray.filter fun e => decide (e.born < since)) = (L.map kvE).toArray := by
    rw [List.filter_toArray]
    congr 1
    rw [List.filter_eq_self]
    intro x hx
    obtain ⟨y, hy, rfl⟩ := List.mem_map.1 hx
    exact decide_eq_true (hLs y hy)
  have hnew : ((L.map kvE).toArray.filter fun e => decide (e.born ≥ since)) = #[] := by
    rw [List.filter_toArray]
    congr 1
    rw [List.filter_eq_nil_iff]
    intro x hx
    obtain ⟨y, hy, rfl⟩ := List.mem_map.1 hx
    have := hLs y hy
    simp [kvE]; omega
  have hgo : (!seen.isEmpty && !(l.map kvE).toArray.isEmpty && (l.map kvE).toArray.all fun e => decide (e.born ≥ last)) = false := by
    cases l with
    | nil => simp
    | cons x l =>
      have := hl x (List.mem_cons_self ..)
      have h2 : decide (x.born ≥ last) = false := by simp; omega
      simp [kvE, h2]
  by_cases hL : L = []
  · refine ⟨.tuple #[.bool false], w, _, ?_, .inr ⟨?_, rfl, rfl⟩, h0⟩
    · rw [hx]
      refine run_seq (w' := w) (x := .tuple #[.bool false]) ?_ rfl
      unfold Instr.next
      dsimp only
      refine run_seq hg ?_
      dsimp only
      refine run_seq (Go.MapKept.run_getObj_map hb2) ?_
      dsimp only
      rw [hgo, hleft, hold, hnew, hL, if_neg Bool.false_ne_true]
      have e1 : ((if (List.map kvE []).toArray.isEmpty = true then #[none] else #[]) ++ Array.map some ((List.map kvE []).toArray ++ #[]) : Array (Option MapEntry)) = #[none] := by simp
      rw [e1]
      refine run_seq (x := 0) (w' := w) ?_ rfl
      simp [choose, Sem.run, Question.forced]
    · intro x hx
      have : x ∉ L := by rw [hL]; simp
      simpa [L, hx] using this
  · have hpos : 0 < L.length := by
      rcases Nat.eq_zero_or_pos L.length with h | h
      · exact absurd (List.eq_nil_of_length_eq_zero h) hL
      · exact h
    have hne : (L.map kvE).toArray.isEmpty = false := by
      cases hq : L with
      | nil => exact absurd hq hL
      | cons x r => rfl
    obtain ⟨j, w', hj, hrun, hw'⟩ := run_pick (P := P) (w := w) L.length hpos
    have hw2 : Sat W0 (Asn.own it (.mapIter (some m) since seen last) :: Γ') w' := by
      rcases hw' with rfl | rfl
      · exact h0
      · exact h0.drew
    have hb3 := hw2.own_at
    have hxL : L[j] ∈ L := List.getElem_mem hj
    have hmem := List.mem_filter.1 hxL
    refine ⟨.tuple #[.bool true, .int .i64 L[j].key, L[j].val], { w' with heap := w'.heap.setIfInBounds it (.mapIter (some m) since (seen.push L[j].born) clock) }, _, ?_, .inl ⟨L[j], hmem.1, by simpa using hmem.2, rfl, rfl⟩, ?_⟩
    · rw [hx]
      refine run_seq (w' := { w' with heap := w'.heap.setIfInBounds it (.mapIter (some m) since (seen.push L[j].born) clock) }) (x := .tuple #[.bool true, .int .i64 L[j].key, L[j].val]) ?_ rfl
      unfold Instr.next
      dsimp only
      refine run_seq hg ?_
      dsimp only
      refine run_seq (Go.MapKept.run_getObj_map hb2) ?_
      dsimp only
      have e1 : ((if (L.map kvE).toArray.isEmpty = true then #[none] else #[]) ++ Array.map some ((L.map kvE).toArray ++ #[]) : Array (Option MapEntry)) = (L.map fun x => some (kvE x)).toArray := by
        rw [hne, if_neg Bool.false_ne_true]; simp
      rw [hgo, hleft, hold, hnew, if_neg Bool.false_ne_true, e1]
      refine run_seq (x := j) (w' := w') (by rw [show (L.map fun x => some (kvE x)).toArray.size = L.length by simp]; exact hrun) ?_
      rw [show (L.map fun x => some (kvE x)).toArray[j]? = some (some (kvE L[j])) by simp [hj]]
      dsimp only
      refine run_seq (x := ()) (w' := { w' with heap := w'.heap.setIfInBounds it (.mapIter (some m) since (seen.push L[j].born) clock) }) ?_ rfl
      have hlt : it < w'.heap.size := (Array.getElem?_eq_some_iff.1 hb3).1
      simp [setObj, Sem.run, hb3, kvE]
    · have hlt : it < w'.heap.size := (Array.getElem?_eq_some_iff.1 hb3).1
      refine hw2.put rfl rfl rfl (by simp) ?_ fun c hc => by simp [Ne.symm hc]
      simp [hlt]
theorem run_entry {m it since : Nat} {seen : Array Nat} {x : KV} {o : Oper} (hx : ∀ w, (execOp (ev e) o).run P w = (Instr.entry (.pointer (some ⟨it, 0, none⟩)) >>= fun v => pure (Next.value v)).run P w)
    (hi : Holds W0 Γ it (.mapIter (some m) since (seen.push x.born) clock)) (hm : Holds W0 Γ m (mapO l clock)) (hxl : x ∈ l) (hd : ∀ y ∈ l, y.born = x.born → y = x) :
    ∀ w, Sat W0 Γ w → (execOp (ev e) o).run P w = .ok (.value (.tuple #[.int .i64 x.key, x.val])) w := by
  intro w hw
  have hb := hi w hw
  have hg : (getObj it).run P w = .ok (.mapIter (some m) since (seen.push x.born) clock) w := by simp [getObj, Sem.run, hb]
  rw [hx]
  refine run_seq (w' := w) (x := .tuple #[.int .i64 x.key, x.val]) ?_ rfl
  unfold Instr.entry
  dsimp only
  refine run_seq hg ?_
  dsimp only
  rw [show (seen.push x.born).back? = some x.born by simp]
  dsimp only
  refine run_seq (Go.MapKept.run_getObj_map (hm w hw)) ?_
  dsimp only
  rw [if_neg (by simp)]
  have : (l.map kvE).toArray.find? (fun e => e.born == x.born) = some (kvE x) := by
    rw [List.find?_toArray, List.find?_map]
    cases hf : l.find? ((fun e => e.born == x.born) ∘ kvE) with
    | none =>
      rw [List.find?_eq_none] at hf
      exact absurd (by simp [kvE]) (hf x hxl)
    | some y =>
      have h1 := List.find?_some hf
      have h2 := List.mem_of_find?_eq_some hf
      have : y.born = x.born := by simpa [kvE] using h1
      rw [hd y h2 this]; rfl
  rw [this]
  rfl
end
/-- How many entries a loop has still to come to. -/
def unseen (l : List KV) (seen : Array Nat) : Nat := (l.filter fun x => !seen.contains x.born).length
theorem unseen_push {l : List KV} {seen : Array Nat} {x : KV} (hx : x ∈ l) (hn : x.born ∉ seen) : unseen l (seen.push x.born) < unseen l seen := by
  unfold unseen
  induction l with
  | nil => cases hx
  | cons y l ih =>
    have hle : ∀ l : List KV, (l.filter fun x_1 => !(seen.push x.born).contains x_1.born).length ≤ (l.filter fun x => !seen.contains x.born).length := by
      intro l
      induction l with
      | nil => simp
      | cons z l ih2 =>
        by_cases h : z.born ∈ seen <;> by_cases h2 : z.born = x.born <;> simp_all <;> omega
    by_cases h : y.born = x.born
    · have := hle l
      have hn2 : y.born ∉ seen := by rw [h]; exact hn
      simp [h, hn, hn2] at this ⊢
      omega
    · rcases List.mem_cons.1 hx with rfl | hx
      · exact absurd rfl h
      · have := ih hx
        by_cases h3 : y.born ∈ seen <;> simp_all
end Go.Proofs.Ytcigheahollkcaa
