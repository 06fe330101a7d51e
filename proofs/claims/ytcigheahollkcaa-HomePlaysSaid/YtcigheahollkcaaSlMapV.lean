/- Maps from numbers to values of one sort; slices that are made; numbers that are copied from list to list.
   Conditions: none. -/
import Derived.Test.YtcigheahollkcaaSlTurn
import Derived.Laws.MakeOwn
namespace Go.Proofs.Ytcigheahollkcaa
open Go Go.RowKit
set_option linter.unusedVariables false
set_option linter.unusedSimpArgs false
abbrev VMapA {α : Type} (f : α → Value) (b : Nat) (o : List (Int × α)) : Asn := KMapA b (mmap f o)
def cpI (xs ys : List Int) : List Int := ys.take xs.length ++ xs.drop ys.length
theorem cpI_len (xs ys : List Int) : (cpI xs ys).length = xs.length := by unfold cpI; simp; omega
def xorI (a b : Int) : Int := IntKind.i64.wrap ((BitVec.ofInt 64 a ^^^ BitVec.ofInt 64 b).toNat)
section
variable {P : Program} {n : Nat} {W0 w : World} {e : Env} {Γ Γ' : List Asn} {op : Op} {ty : TypeId} {t K V b : Nat} {α : Type} {f : α → Value} {z0 : α} {o : List (Int × α)} {k : Int}
theorem vmap_lookup1 {ik : IntKind} {op' : Oper} {info : TypeInfo} {y : Option α} (z0 : α) (hy : mget o k = y) (hx : ∀ w, (execOp (ev e) op').run P w = (Instr.lookup t (.map (some b)) (.int .i64 k) false >>= fun v => pure (Next.value v)).run P w)
    (ht : P.underlying t = some (.map K V)) (hK : P.underlying K = some (.int ik)) (hi : P.info? V = some info) (hz : info.zero = some (f z0)) (hp : Pull Γ (VMapA f b o) Γ') :
    ∀ w, Sat W0 Γ w → (execOp (ev e) op').run P w = .ok (.value (f (y.getD z0))) w := by
  intro w hw
  rw [kmap_lookup (z := f z0) false hx ht hK hi hz hp w hw, mget_map, hy]
  cases y <;> rfl
theorem vmap_lookup2 {ik : IntKind} {op' : Oper} {info : TypeInfo} {y : Option α} (z0 : α) (hy : mget o k = y) (hx : ∀ w, (execOp (ev e) op').run P w = (Instr.lookup t (.map (some b)) (.int .i64 k) true >>= fun v => pure (Next.value v)).run P w)
    (ht : P.underlying t = some (.map K V)) (hK : P.underlying K = some (.int ik)) (hi : P.info? V = some info) (hz : info.zero = some (f z0)) (hp : Pull Γ (VMapA f b o) Γ') :
    ∀ w, Sat W0 Γ w → (execOp (ev e) op').run P w = .ok (.value (.tuple #[f (y.getD z0), .bool y.isSome])) w := by
  intro w hw
  rw [kmap_lookup (z := f z0) true hx ht hK hi hz hp w hw, mget_map, hy]
  cases y <;> rfl
theorem st_vset {ik : IntKind} {x : α} (hx : ∀ w, (execOp (ev e) (bare op ty)).run P w = (Instr.mapUpdate t (.map (some b)) (.int .i64 k) (f x) >>= fun _ => pure Next.skip).run P w)
    (ht : P.underlying t = some (.map K V)) (hK : P.underlying K = some (.int ik)) (hp : Pull Γ (VMapA f b o) Γ') : StepTo P W0 Γ e op ty (Is undef (VMapA f b (mset o k x) :: Γ')) := by
  have := st_kmap_set (W0 := W0) hx ht hK hp
  rw [mset_map] at this
  exact this
theorem st_vdel {ik : IntKind} {t2 tr : TypeId} (hx : ∀ w, (execOp (ev e) (bare op ty)).run P w = (Builtin.delete_ #[t, t2] tr #[.map (some b), .int .i64 k] >>= fun v => pure (Next.value v)).run P w)
    (ht : P.underlying t = some (.map K V)) (hK : P.underlying K = some (.int ik)) (hp : Pull Γ (VMapA f b o) Γ') : StepTo P W0 Γ e op ty (Is (.tuple #[]) (VMapA f b (mdel o k) :: Γ')) := by
  have := st_kmap_del (W0 := W0) hx ht hK hp
  rw [mdel_map] at this
  exact this
theorem vmap_len {op' : Oper} {t2 : TypeId} (hx : ∀ w, (execOp (ev e) op').run P w = (Builtin.len_ #[t] t2 #[.map (some b)] >>= fun v => pure (Next.value v)).run P w)
    (ht : P.underlying t = some (.map K V)) (hp : Pull Γ (VMapA f b o) Γ') : ∀ w, Sat W0 Γ w → (execOp (ev e) op').run P w = .ok (.value (.int .i64 ((o.length : Nat) : Int))) w := by
  intro w hw
  obtain ⟨kvs, clock, hl, hs, h1⟩ := KMapA.of (hw.pull hp)
  have hb := h1.own_at
  have hlen : kvs.length = o.length := by
    have := congrArg List.length hl
    simpa [mmap] using this
  rw [hx]
  refine run_seq (x := .int .i64 ((o.length : Nat) : Int)) (w' := w) ?_ rfl
  simp [Builtin.len_, run_underlying ht, Go.MapKept.run_getObj_map hb, goInt, hlen]
theorem made_ints (c : Nat) : Go.madeCells #[.int .i64 0] c = (ints (List.replicate c 0)).flatten.toArray := by
  rw [ints_flatten]
  apply Array.ext
  · simp [Go.madeCells]
  · intro i h1 h2
    simp [Go.madeCells, Nat.mod_one]
theorem st_make_ints {E : Nat} {c : Int} {zs : List Int} (info : TypeInfo) (hx : ∀ w, (execOp (ev e) (bare op ty)).run P w = (Instr.makeSlice t (.int .i64 c) (.int .i64 c) >>= fun v => pure (Next.value v)).run P w)
    (ht : P.underlying t = some (.slice E)) (hi : P.info? E = some info) (hz : info.zero = some (.int .i64 0)) (hk : info.size = 1) (hby : info.bytes = 8) (hc : 0 ≤ c ∧ c ≤ 1099511627776) (hzs : List.replicate c.toNat 0 = zs) :
    StepTo P W0 Γ e op ty (fun v Δ => ∃ b : Nat, v = .slice (some ⟨b, 0, none⟩) (List.length zs) c.toNat ∧ Δ = IntsA (some ⟨b, 0, none⟩) c.toNat zs :: Γ) := by
  subst hzs
  refine StepTo.val fun w hw => ?_
  have hr := run_make (P := P) w t E info (.int .i64 0) ht hi hz .i64 .i64 c c hc.1 (Int.le_refl _) (by rw [hby]; omega) (by omega)
  rw [hk, Nat.mul_one] at hr
  refine ⟨.slice (some ⟨w.heap.size, 0, none⟩) c.toNat c.toNat, w.alloc (.cells (Go.madeCells #[.int .i64 0] c.toNat) E), _, ?_, ⟨w.heap.size, by simp, rfl⟩, ?_⟩
  · rw [hx]
    exact run_seq hr rfl
  · have h1 := hw.alloc (.cells (Go.madeCells #[.int .i64 0] c.toNat) E (0, 0))
    rw [made_ints] at h1
    have := RowsA.of_own (k := 1) (rows := ints (List.replicate c.toNat 0)) h1 (ints_rows _) rfl
    rw [ints_length, List.length_replicate] at this
    show Sat W0 (IntsA (some ⟨w.heap.size, 0, none⟩) c.toNat (List.replicate c.toNat 0) :: Γ) (w.alloc (.cells (Go.madeCells #[.int .i64 0] c.toNat) E))
    rw [made_ints]
    exact this
theorem st_copy_ints {E m1 m2 c1 c2 : Nat} {t2 tr : TypeId} {a a2 : Option Addr} {xs ys zs : List Int} (info : TypeInfo) (hx : ∀ w, (execOp (ev e) (bare op ty)).run P w = (Builtin.copy_ #[t, t2] tr #[.slice a m1 c1, .slice a2 m2 c2] >>= fun v => pure (Next.value v)).run P w)
    (ht : P.underlying t = some (.slice E)) (hi : P.info? E = some info) (hk : info.size = 1) (hm1 : m1 = xs.length) (hm2 : m2 = ys.length) (hp : Pull Γ (IntsA a c1 xs) Γ') (hr : Reads W0 Γ a2 (ints ys)) (hzs : cpI xs ys = zs) :
    StepTo P W0 Γ e op ty (fun v Δ => v = .int .i64 ((min ys.length xs.length : Nat) : Int) ∧ Δ = IntsA a c1 zs :: Γ') := by
  subst hzs; subst hm1; subst hm2
  refine StepTo.val fun w hw => ?_
  have h0 := hw.pull hp
  generalize hn : Nat.min ys.length xs.length = m
  have hm : m ≤ ys.length ∧ m ≤ xs.length := by rw [← hn]; exact ⟨Nat.min_le_left .., Nat.min_le_right ..⟩
  have hfl : (ints (ys.take m)).flatten.length = m * 1 := by rw [ints_flatten]; simp; omega
  have hf := run_firstCells (P := P) (w := w) (a := a2) (rows := ints (ys.take m)) 1 m c2 hfl (fun j v hj => hr w hw j v (by
    rw [ints_flatten, List.getElem?_map] at hj ⊢
    rw [List.getElem?_take] at hj
    split at hj
    · exact hj
    · simp at hj))
  have hz : ys.take xs.length ++ xs.drop ys.length = ys.take m ++ xs.drop m := by
    rcases Nat.le_total ys.length xs.length with h | h
    · have : m = ys.length := by rw [← hn]; exact Nat.min_eq_left h
      rw [this, List.take_of_length_le h, List.take_of_length_le (Nat.le_refl _)]
    · have : m = xs.length := by rw [← hn]; exact Nat.min_eq_right h
      rw [this, List.drop_of_length_le h, List.drop_of_length_le (Nat.le_refl _)]
  unfold cpI
  rw [hz]
  obtain ⟨S, I, ⟨S1, S2, h1, h2, h3, ⟨h4, h5⟩, h6⟩, d1, d2, d3, d4, d5⟩ := h0
  have hlast : (ints (ys.take m ++ xs.drop m)).length = xs.length := by simp; omega
  rcases h5 with ⟨e1, rfl⟩ | ⟨b, off, c, T, rfl, q2, q3, q4, q5, q6⟩
  · have : xs = [] := ints_nil e1
    subst this
    have hm0 : m = 0 := by simpa using hm.2
    subst hm0
    refine ⟨.int .i64 ((min ys.length 0 : Nat) : Int), w, _, ?_, ⟨by simp, rfl⟩, ?_⟩
    · rw [hx]
      refine run_seq (w' := w) (x := .int .i64 ((min ys.length 0 : Nat) : Int)) ?_ rfl
      simp only [List.take_zero, ints, List.map_nil, List.flatten_nil, Nat.zero_mul] at hf
      have hff : (Builtin.firstCells 1 0 (.slice a2 ys.length c2)).run P w = .ok #[] w := by
        cases a2 with
        | none => rfl
        | some p => rfl
      unfold Builtin.copy_
      simp [run_underlying ht, Builtin.lenOf, Go.sizeOf, typeInfo, hi, hk, hff, goInt]
      cases a <;> simp [storeCells]
    · simp only [List.take_zero, List.nil_append, List.drop_zero]
      exact hw.pull hp
  · have hlen : (ints xs).length = xs.length := ints_length xs
    rw [hlen] at q4
    have hsz : off + 0 + (ints (ys.take m)).flatten.length ≤ c.size := by rw [hfl]; simp at q5; omega
    obtain ⟨w', r1, r2, r3, r4, r5, r6, r7⟩ := run_storeCells (P := P) (off := off) (ints (ys.take m)).flatten 0 w c q3 hsz (ints_one _)
    have hne : ∀ d, d ≠ b → w'.heap[d]? = w.heap[d]? := r4
    have hnot : ∀ d, S2 d ∨ I d → d ≠ b := by
      rintro d hd rfl
      exact hd.elim (h3 d q2) (d1 d (h1 d q2))
    refine ⟨.int .i64 ((min ys.length xs.length : Nat) : Int), w', _, ?_, ⟨rfl, rfl⟩, S, I, ⟨S1, S2, h1, h2, h3, ⟨ints_rows _, .inr ⟨b, off, _, T, rfl, q2, r2, by rw [hlast]; omega, ?_, ?_⟩⟩, h6.loc fun d hd => hne d (hnot d hd)⟩, d1, fun d hd => r3 ▸ d2 d hd, fun d hd => r3 ▸ d3 d hd, d4, ?_⟩
    · rw [hx]
      refine run_seq (w' := w') (x := .int .i64 ((min ys.length xs.length : Nat) : Int)) ?_ rfl
      have hn' : min ys.length xs.length = m := hn
      unfold Builtin.copy_
      have hfe : Builtin.firstCells 1 m (.slice a2 ys.length c2) = Builtin.firstCells 1 m (.slice a2 m c2) := by cases a2 <;> rfl
      simp [run_underlying ht, Builtin.lenOf, Go.sizeOf, typeInfo, hi, hk, hn', hfe, hf, goInt, r1]
    · rw [putCells_size]; exact q5
    · intro j v hj
      rw [putCells_get _ _ _ _ (by omega)]
      rw [ints_flatten, List.getElem?_map, List.getElem?_append] at hj
      have hfl' : (ints (ys.take m)).flatten.length = m := by rw [hfl, Nat.mul_one]
      have htl : (ys.take m).length = m := by simp; omega
      by_cases hjm : j < m
      · rw [if_pos (by omega)] at hj
        rw [if_pos (by omega), show off + j - (off + 0) = j by omega, ints_flatten, List.getElem?_map]
        exact hj
      · rw [if_neg (by omega), htl, List.getElem?_drop, show m + (j - m) = j by omega] at hj
        rw [if_neg (by omega)]
        refine q6 j v ?_
        rw [ints_flatten, List.getElem?_map]; exact hj
    · exact ⟨r5.trans d5.os, r6.trans d5.tape, r7.trans d5.output, by rw [r3]; exact d5.size, fun d hd => (hne d (hnot d (.inr (d4 d hd)))).trans (d5.block d hd)⟩
end
end Go.Proofs.Ytcigheahollkcaa
