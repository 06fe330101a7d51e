/- A slice of structs, of which each may name a list of numbers, that came in as an argument.
   Conditions: none. -/
import Derived.Test.YtcigheahollkcaaSlInR
import Derived.Test.YtcigheahollkcaaSlRec
namespace Go.Proofs.Ytcigheahollkcaa
open Go Go.RowKit Go.ChangeShapes
set_option linter.unusedVariables false
set_option linter.unusedSimpArgs false
theorem Sat.imp2 {W0 w : World} {Γ Γ' : List Asn} (h : Sat W0 Γ w) (k : ∀ S I, Star Γ S I (fun b => w.heap[b]?) → (∀ b, b < W0.heap.size → I b) → (∀ b, b < W0.heap.size → w.heap[b]? = W0.heap[b]?) → Star Γ' S I (fun b => w.heap[b]?)) : Sat W0 Γ' w := by
  have hb : ∀ b, b < W0.heap.size → w.heap[b]? = W0.heap[b]? := fun b hlt => h.old hlt
  obtain ⟨S, I, h1, d1, d2, d3, d4, d5⟩ := h
  exact ⟨S, I, k S I h1 d4 hb, d1, d2, d3, d4, d5⟩
/-- What lay there ahead of the call, as rows for good. -/
theorem imm_old {W : World} {k : Nat} {a : Option Addr} {rows : List (List Value)} {S I : Nat → Prop} {hp : Nat → Option Obj} (hk : ∀ r ∈ rows, r.length = k) (h : ∀ j v, rows.flatten[j]? = some v → ∃ p, a = some p ∧ W.cell? (p.add j) = some v) (hk0 : 0 < k)
    (hI : ∀ b, b < W.heap.size → I b) (hb : ∀ b, b < W.heap.size → hp b = W.heap[b]?) : (ImmR k a rows).holds S I hp := by
  refine ⟨hk, ?_⟩
  cases rows with
  | nil => exact .inl rfl
  | cons r rs =>
    right
    have hr := hk r (List.mem_cons_self ..)
    have hf : 0 < (r :: rs).flatten.length := by rw [List.flatten_cons, List.length_append]; omega
    obtain ⟨p, hp, hc⟩ := h 0 _ (List.getElem?_eq_getElem hf)
    have hs0 := spot_none hc
    have hp0 : p = ⟨p.block, p.off, none⟩ := by cases p; simp_all
    unfold World.cell? at hc
    have hadd : p.add 0 = p := by rw [hp0]; exact add_none ..
    rw [hadd] at hc
    cases ho : W.heap[p.block]? with
    | none => rw [ho] at hc; cases hc
    | some o =>
      have hlt := (Array.getElem?_eq_some_iff.1 ho).1
      cases o with
      | cells c T fr =>
        refine ⟨p.block, p.off, c, T, fr, by rw [hp]; exact congrArg some hp0, hI _ hlt, by rw [hb _ hlt]; exact ho, fun j v hj => ?_⟩
        obtain ⟨p', hp', hc'⟩ := h j v hj
        rw [hp] at hp'
        obtain rfl := Option.some.inj hp'
        unfold World.cell? at hc'
        rw [hp0, add_none] at hc'
        dsimp only at hc'
        rw [ho] at hc'
        simpa using hc'
      | _ => rw [ho] at hc; cases hc
theorem ImmR.old {W w : World} {Γ : List Asn} {k : Nat} {a : Option Addr} {rows : List (List Value)} (hk : ∀ r ∈ rows, r.length = k) (h : ∀ j v, rows.flatten[j]? = some v → ∃ p, a = some p ∧ W.cell? (p.add j) = some v) (hk0 : 0 < k) (hw : Sat W Γ w) : Sat W (ImmR k a rows :: Γ) w :=
  Sat.imp2 hw fun S I hs hI hb => ⟨fun _ => False, S, fun _ h => h.elim, fun _ h => h, fun _ h _ => h, imm_old hk h hk0 hI hb, hs⟩
theorem list_all {β : Type} {P : List Value → β → Prop} : ∀ {rows : List (List Value)}, (∀ r ∈ rows, ∃ x, P r x) → ∃ xs : List β, rows.length = xs.length ∧ ∀ (i : Nat) (r : List Value) (x : β), rows[i]? = some r → xs[i]? = some x → P r x
  | [], _ => ⟨[], rfl, by simp⟩
  | r :: rows, h => by
    obtain ⟨x, hx⟩ := h r (List.mem_cons_self ..)
    obtain ⟨xs, h1, h2⟩ := list_all (rows := rows) (fun r hr => h r (List.mem_cons_of_mem _ hr))
    refine ⟨x :: xs, by simp [h1], fun i r' x' hr hx' => ?_⟩
    cases i with
    | zero => simp at hr hx'; subst hr; subst hx'; exact hx
    | succ i => exact h2 i r' x' (by simpa using hr) (by simpa using hx')
/-- Records that came in. -/
def RecsIn {α : Type} [Rec α] (W : World) (a : Option Addr) (len cap : Nat) (rows : List (List Value)) (xs : List α) : Prop :=
  len = xs.length ∧ RowsIn W (Rec.k α) a len cap rows ∧ rows.length = xs.length ∧ ∀ (i : Nat) (r : List Value) (x : α), rows[i]? = some r → xs[i]? = some x → ∃ a' c', r = Rec.row x a' c' ∧ IntsIn W a' (Rec.data x).length c' (Rec.data x)
theorem RecsIn.mk {α : Type} [Rec α] {W : World} {a : Option Addr} {len cap : Nat} {rows : List (List Value)} (h : RowsIn W (Rec.k α) a len cap rows) (hq : ∀ r ∈ rows, ∃ x : α, ∃ a' c', r = Rec.row x a' c' ∧ IntsIn W a' (Rec.data x).length c' (Rec.data x)) : ∃ xs : List α, RecsIn W a len cap rows xs := by
  obtain ⟨xs, h1, h2⟩ := list_all hq
  exact ⟨xs, by rw [← h1]; exact h.1, h, h1, h2⟩
theorem RecsIn.cap {α : Type} [Rec α] {W : World} {a : Option Addr} {len cap : Nat} {rows : List (List Value)} {xs : List α} (h : RecsIn W a len cap rows xs) : CapR rows xs := by
  intro i x a' c hx hr
  obtain ⟨a2, c2, h1, h2⟩ := h.2.2.2 i _ x hr hx
  rcases Rec.injc x a' c a2 c2 h1 with e | e
  · rw [e]; exact h2.2.1
  · rw [e]; exact Nat.zero_le _
theorem RecsIn.sat {α : Type} [Rec α] {W w : World} {Γ : List Asn} {a : Option Addr} {len cap : Nat} {rows : List (List Value)} {xs : List α} (h : RecsIn W a len cap rows xs) (hw : Sat W Γ w) : Sat W (ImmRX rows a xs :: Γ) w := by
  obtain ⟨h1, ⟨h2, h3, h4, h5, h6⟩, h7, h8⟩ := h
  refine ImmRX.join (ImmR.old h6 (fun j v hj => ?_) Rec.pos ?_)
  · exact h5 [] W (Sat.init W) j v hj
  · refine Sat.imp2 hw fun S I hs hI hb => ⟨fun _ => False, S, fun _ h => h.elim, fun _ h => h, fun _ h _ => h, ⟨h7, fun i r x hr hx => ?_⟩, hs⟩
    obtain ⟨a', c', k1, k2⟩ := h8 i r x hr hx
    exact ⟨a', c', k1, imm_old (ints_rows _) (fun j v hj => k2.2.2.2.1 [] W (Sat.init W) j v hj) (by decide) hI hb⟩
section
variable {H : Type} {enc : TypeId × Value → H} {P : Program} {W : World} {cs : Array Value} {n : Nat} {fs gs : Array Field}
/-- A struct within a struct. -/
theorem in_struct (h : FieldsOk enc P W n cs fs) (i : Nat) (f : Field) (hf : fs[i]? = .some f) (ht : P.underlying f.type = .some (.struct gs)) : ∃ n', FieldsOk enc P W n' ((cs.toList.drop f.offset).take (P.cellsOf f.type)).toArray gs := by
  obtain ⟨y, hy⟩ := h i f hf
  obtain ⟨xs, n', _, _, _, hl, hx⟩ := DataW.trod_struct ht hy
  exact ⟨n', fields_ok (cs := ((cs.toList.drop f.offset).take (P.cellsOf f.type)).toArray) hl hx⟩
theorem sub_at {o k j : Nat} {v : Value} (h : ((cs.toList.drop o).take k).toArray[j]? = .some v) : cs[o + j]? = .some v := by
  have h1 : ((cs.toList.drop o).take k)[j]? = .some v := by simpa using h
  rw [List.getElem?_take] at h1
  split at h1
  · rw [List.getElem?_drop] at h1
    simpa using h1
  · cases h1
end
end Go.Proofs.Ytcigheahollkcaa
