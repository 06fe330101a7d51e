/- Maps from numbers: to values of one cell; to lists of pairs that the map owns.
   Conditions: none. -/
import Derived.Test.YtcigheahollkcaaSlMaps
import Derived.Test.YtcigheahollkcaaSlFun
namespace Go.Proofs.Ytcigheahollkcaa
open Go Go.RowKit
set_option linter.unusedVariables false
set_option linter.unusedSimpArgs false
section pure
variable {α β : Type}
def mget : List (Int × α) → Int → Option α
  | [], _ => none
  | p :: r, k => if k = p.1 then some p.2 else mget r k
def mset : List (Int × α) → Int → α → List (Int × α)
  | [], k, v => [(k, v)]
  | p :: r, k, v => if k = p.1 then (p.1, v) :: r else p :: mset r k v
def mdel : List (Int × α) → Int → List (Int × α)
  | [], _ => []
  | p :: r, k => if k = p.1 then r else p :: mdel r k
def mmap (f : α → β) (l : List (Int × α)) : List (Int × β) := l.map fun p => (p.1, f p.2)
theorem mget_map (f : α → β) (l : List (Int × α)) (k : Int) : mget (mmap f l) k = (mget l k).map f := by
  induction l with
  | nil => rfl
  | cons p r ih =>
    show (if k = p.1 then some (f p.2) else mget (mmap f r) k) = (if k = p.1 then some p.2 else mget r k).map f
    by_cases h : k = p.1
    · simp [h]
    · rw [if_neg h, if_neg h, ih]
theorem mset_map (f : α → β) (l : List (Int × α)) (k : Int) (v : α) : mset (mmap f l) k (f v) = mmap f (mset l k v) := by
  induction l with
  | nil => rfl
  | cons p r ih =>
    show (if k = p.1 then (p.1, f v) :: mmap f r else (p.1, f p.2) :: mset (mmap f r) k (f v)) = _
    by_cases h : k = p.1
    · simp [mset, h, mmap]
    · rw [if_neg h, ih]; simp [mset, h, mmap]
theorem mdel_map (f : α → β) (l : List (Int × α)) (k : Int) : mdel (mmap f l) k = mmap f (mdel l k) := by
  induction l with
  | nil => rfl
  | cons p r ih =>
    show (if k = p.1 then mmap f r else (p.1, f p.2) :: mdel (mmap f r) k) = _
    by_cases h : k = p.1
    · simp [mdel, h]
    · rw [if_neg h, ih]; simp [mdel, h, mmap]
end pure
theorem erase_map {α β : Type} (f : α → β) : ∀ (l : List α) (j : Nat), (l.map f).eraseIdx j = (l.eraseIdx j).map f
  | [], _ => rfl
  | _ :: _, 0 => rfl
  | x :: l, j + 1 => by simp [erase_map f l j]
def pairKV (x : KV) : Int × Value := (x.key, x.val)
def stamps (l : List KV) (clock : Nat) : Prop := (∀ x ∈ l, x.born < clock) ∧ (l.map KV.born).Nodup
/-- A map in memory, by its pairs. -/
def KMapA (b : Nat) (l : List (Int × Value)) : Asn :=
  .ex fun x : List KV × Nat => .star [.own b (mapO x.1 x.2), .pure (x.1.map pairKV = l ∧ stamps x.1 x.2)]
theorem kvFind_none {k : Int} : ∀ {l : List KV} {i : Nat}, kvFind k l i = none → mget (l.map pairKV) k = none
  | [], _, _ => rfl
  | x :: l, i, h => by
    unfold kvFind at h
    by_cases hk : k = x.key
    · simp [hk] at h
    · simp only [hk, if_false] at h
      simpa [mget, pairKV, hk] using kvFind_none h
theorem kvFind_some {k : Int} : ∀ {l : List KV} {i j : Nat} {u : Value}, kvFind k l i = some (j, u) → i ≤ j ∧ mget (l.map pairKV) k = some u ∧ ∃ x, l[j - i]? = some x ∧ x.key = k ∧ x.val = u ∧
      (∀ v : Value, mset (l.map pairKV) k v = (l.set (j - i) ⟨k, v, x.born⟩).map pairKV) ∧ mdel (l.map pairKV) k = (l.eraseIdx (j - i)).map pairKV
  | [], _, _, _, h => by simp [kvFind] at h
  | x :: l, i, j, u, h => by
    unfold kvFind at h
    by_cases hk : k = x.key
    · simp only [hk, if_true, Option.some.injEq, Prod.mk.injEq] at h
      obtain ⟨rfl, rfl⟩ := h
      refine ⟨Nat.le_refl _, by simp [mget, pairKV, hk], x, by simp, hk.symm, rfl, fun v => ?_, ?_⟩
      · simp [mset, pairKV, hk]
      · simp [mdel, pairKV, hk]
    · simp only [hk, if_false] at h
      obtain ⟨h1, h2, y, h3, h4, h5, h6, h7⟩ := kvFind_some h
      have e : j - i = (j - (i + 1)) + 1 := by omega
      refine ⟨by omega, by simpa [mget, pairKV, hk] using h2, y, by rw [e]; simpa using h3, h4, h5, fun v => ?_, ?_⟩
      · rw [e]
        have := h6 v
        simp only [List.map_cons, List.set_cons_succ]
        rw [← this]
        simp [mset, pairKV, hk]
      · rw [e]
        simp only [List.map_cons, List.eraseIdx_cons_succ]
        rw [← h7]
        simp [mdel, pairKV, hk]
theorem kvFind_miss {k : Int} {l : List KV} (h : mget (l.map pairKV) k = none) (v : Value) : mset (l.map pairKV) k v = l.map pairKV ++ [(k, v)] ∧ mdel (l.map pairKV) k = l.map pairKV := by
  induction l with
  | nil => exact ⟨rfl, rfl⟩
  | cons x l ih =>
    simp only [List.map_cons, mget] at h
    by_cases hk : k = (pairKV x).1
    · simp [hk] at h
    · rw [if_neg hk] at h
      obtain ⟨h1, h2⟩ := ih h
      simp [mset, mdel, hk, h1, h2]
section
variable {P : Program} {n : Nat} {W0 w : World} {e : Env} {Γ Γ' : List Asn} {op : Op} {ty : TypeId} {t K V b clock : Nat} {k : Int} {v : Value} {l : List (Int × Value)}
theorem StepTo.conseq {Post Post' : Value → List Asn → Prop} (h : StepTo P W0 Γ e op ty Post) (k : ∀ v Δ, Post v Δ → ∃ Δ', Post' v Δ' ∧ ∀ w, Sat W0 Δ w → Sat W0 Δ' w) : StepTo P W0 Γ e op ty Post' :=
  fun w hw o a K Q kk => h w hw o a K Q fun v Δ w' h1 h2 => let ⟨Δ', p1, p2⟩ := k v Δ h1; kk v Δ' w' p1 (p2 w' h2)
theorem StepTo.open {Post : Value → List Asn → Prop} {α : Type} {f : α → Asn} (hp : Pull Γ (Asn.ex f) Γ') (h : ∀ x, StepTo P W0 (f x :: Γ') e op ty Post) : StepTo P W0 Γ e op ty Post :=
  fun w hw => let ⟨x, hx⟩ := (hw.pull hp).ex_of; h x w hx
theorem KMapA.mk {kvs : List KV} (hl : kvs.map pairKV = l) (hs : stamps kvs clock) (h : Sat W0 (Asn.own b (mapO kvs clock) :: Γ) w) : Sat W0 (KMapA b l :: Γ) w :=
  Sat.ex_mk (kvs, clock) (Sat.star_mk ((Sat.pure_mk ⟨hl, hs⟩ h).less (.take (.there .here) (.take .here .refl))))
theorem KMapA.of (h : Sat W0 (KMapA b l :: Γ) w) : ∃ kvs clock, kvs.map pairKV = l ∧ stamps kvs clock ∧ Sat W0 (Asn.own b (mapO kvs clock) :: Γ) w := by
  obtain ⟨x, hx⟩ := h.ex_of
  have h1 := hx.star_of.less (.take (.there .here) (.take .here .refl))
  obtain ⟨h2, h3⟩ := h1.pure_of
  exact ⟨x.1, x.2, h2.1, h2.2, h3⟩
theorem kmap_lookup {ik : IntKind} {o : Oper} {z : Value} {info : TypeInfo} (ok : Bool) (hx : ∀ w, (execOp (ev e) o).run P w = (Instr.lookup t (.map (some b)) (.int .i64 k) ok >>= fun v => pure (Next.value v)).run P w)
    (ht : P.underlying t = some (.map K V)) (hK : P.underlying K = some (.int ik)) (hi : P.info? V = some info) (hz : info.zero = some z) (hp : Pull Γ (KMapA b l) Γ') :
    ∀ w, Sat W0 Γ w → (execOp (ev e) o).run P w = .ok (.value (if ok then .tuple #[(mget l k).getD z, .bool (mget l k).isSome] else (mget l k).getD z)) w := by
  intro w hw
  obtain ⟨kvs, clock, hl, hs, h1⟩ := KMapA.of (hw.pull hp)
  have h2 := run_lookup (Γ := Asn.own b (mapO kvs clock) :: Γ') (z := z) ok hx ht hK hi hz .here w h1
  rw [h2]
  have : kvGet z k kvs = ((mget l k).getD z, (mget l k).isSome) := by
    unfold kvGet
    subst hl
    cases hf : kvFind k kvs 0 with
    | none => simp [kvFind_none hf]
    | some p =>
      obtain ⟨j, u⟩ := p
      obtain ⟨_, h3, _⟩ := kvFind_some hf
      simp [h3]
  rw [this]
theorem st_kmap_make (hx : ∀ w, (execOp (ev e) (bare op ty)).run P w = (Instr.makeMap t none >>= fun v => pure (Next.value v)).run P w) :
    StepTo P W0 Γ e op ty (fun v Δ => ∃ b : Nat, v = .map (some b) ∧ Δ = KMapA b [] :: Γ) :=
  (st_make_map hx).conseq fun v Δ ⟨b, h1, h2⟩ => ⟨_, ⟨b, h1, rfl⟩, fun w hw => KMapA.mk (kvs := []) (clock := 0) rfl ⟨fun x hx => (by cases hx), List.nodup_nil⟩ (by rw [h2] at hw; exact hw)⟩
theorem st_kmap_set {ik : IntKind} (hx : ∀ w, (execOp (ev e) (bare op ty)).run P w = (Instr.mapUpdate t (.map (some b)) (.int .i64 k) v >>= fun _ => pure Next.skip).run P w)
    (ht : P.underlying t = some (.map K V)) (hK : P.underlying K = some (.int ik)) (hp : Pull Γ (KMapA b l) Γ') : StepTo P W0 Γ e op ty (Is undef (KMapA b (mset l k v) :: Γ')) := by
  intro w hw
  obtain ⟨kvs, clock, hl, hs, h1⟩ := KMapA.of (hw.pull hp)
  subst hl
  cases hf : kvFind k kvs 0 with
  | none =>
    refine StepTo.conseq (st_insert_new (Γ := Asn.own b (mapO kvs clock) :: Γ') hx ht hK .here hf) ?_ w h1
    rintro _ _ ⟨rfl, rfl⟩
    refine ⟨_, ⟨rfl, rfl⟩, fun w' hw' => KMapA.mk ?_ ?_ hw'⟩
    · rw [(kvFind_miss (kvFind_none hf) v).1]; simp [pairKV]
    · refine ⟨fun x hx => ?_, ?_⟩
      · rcases List.mem_append.1 hx with hx | hx
        · exact Nat.lt_succ_of_lt (hs.1 x hx)
        · simp only [List.mem_singleton] at hx; subst hx; exact Nat.lt_succ_self _
      · rw [List.map_append, List.nodup_append]
        refine ⟨hs.2, by simp, ?_⟩
        intro a ha c hc
        simp only [List.map_cons, List.map_nil, List.mem_singleton] at hc
        subst hc
        obtain ⟨x, hx, rfl⟩ := List.mem_map.1 ha
        exact Nat.ne_of_lt (hs.1 x hx)
  | some p =>
    obtain ⟨j, u⟩ := p
    obtain ⟨_, _, x, h3, h4, _, h6, _⟩ := kvFind_some hf
    simp only [Nat.sub_zero] at h3 h6
    refine StepTo.conseq (st_insert_old (Γ := Asn.own b (mapO kvs clock) :: Γ') hx ht hK .here hf h3 h4) ?_ w h1
    rintro _ _ ⟨rfl, rfl⟩
    refine ⟨_, ⟨rfl, rfl⟩, fun w' hw' => KMapA.mk (h6 v).symm ?_ hw'⟩
    have hborn : (kvs.set j ⟨k, v, x.born⟩).map KV.born = kvs.map KV.born := by
      rw [List.map_set]
      apply List.ext_getElem?
      intro q
      by_cases hq : j = q
      · subst hq
        have hl : j < kvs.length := (List.getElem?_eq_some_iff.1 h3).1
        simp [hl, h3]
        have := (List.getElem?_eq_some_iff.1 h3).2
        rw [this]
      · rw [List.getElem?_set_ne hq]
    refine ⟨fun y hy => ?_, by rw [hborn]; exact hs.2⟩
    have : y.born ∈ kvs.map KV.born := by rw [← hborn]; exact List.mem_map.2 ⟨y, hy, rfl⟩
    obtain ⟨z, hz, he⟩ := List.mem_map.1 this
    rw [← he]; exact hs.1 z hz
theorem st_kmap_del {ik : IntKind} {t2 tr : TypeId} (hx : ∀ w, (execOp (ev e) (bare op ty)).run P w = (Builtin.delete_ #[t, t2] tr #[.map (some b), .int .i64 k] >>= fun v => pure (Next.value v)).run P w)
    (ht : P.underlying t = some (.map K V)) (hK : P.underlying K = some (.int ik)) (hp : Pull Γ (KMapA b l) Γ') : StepTo P W0 Γ e op ty (Is (.tuple #[]) (KMapA b (mdel l k) :: Γ')) := by
  refine StepTo.val fun w hw => ?_
  obtain ⟨kvs, clock, hl, hs, h1⟩ := KMapA.of (hw.pull hp)
  subst hl
  have hb := h1.own_at
  have hf := run_findKey (P := P) (w := w) (l := kvs) (k := k) hK
  have hlt : b < w.heap.size := (Array.getElem?_eq_some_iff.1 hb).1
  have main : ∀ kvs' : List KV, kvs'.map pairKV = mdel (kvs.map pairKV) k → stamps kvs' clock →
      (match kvFind k kvs 0 with | some (i, _) => ((kvs.map kvE).toArray.eraseIdxIfInBounds i) | none => (kvs.map kvE).toArray) = (kvs'.map kvE).toArray →
      ∃ v w' Γ1, (execOp (ev e) (bare op ty)).run P w = .ok (.value v) w' ∧ Is (.tuple #[]) (KMapA b (mdel (kvs.map pairKV) k) :: Γ') v Γ1 ∧ Sat W0 Γ1 w' := by
    intro kvs' h5 h6 h7
    refine ⟨_, { w with heap := w.heap.setIfInBounds b (mapO kvs' clock) }, _, ?_, ⟨rfl, rfl⟩, KMapA.mk h5 h6 (h1.put rfl rfl rfl (by simp) (by simp [hlt]) fun c hc => by simp [Ne.symm hc])⟩
    rw [hx]
    refine run_seq (w' := { w with heap := w.heap.setIfInBounds b (mapO kvs' clock) }) (x := .tuple #[]) ?_ rfl
    unfold Builtin.delete_
    dsimp only
    refine run_seq (run_underlying ht _) ?_
    refine run_seq (Go.MapKept.run_getObj_map hb) ?_
    dsimp only
    refine run_seq (run_checkKey _ hK) ?_
    refine run_seq (x := kvFind k kvs 0) (w' := w) (by simpa using hf) ?_
    cases hq : kvFind k kvs 0 with
    | none =>
      rw [hq] at h7
      dsimp only at h7 ⊢
      rw [h7]
      exact run_seq (Go.MapKept.run_setObj_map _ hb) rfl
    | some p =>
      obtain ⟨i, u⟩ := p
      rw [hq] at h7
      dsimp only at h7 ⊢
      rw [h7]
      exact run_seq (Go.MapKept.run_setObj_map _ hb) rfl
  cases hq : kvFind k kvs 0 with
  | none => exact main kvs (kvFind_miss (kvFind_none hq) undef).2.symm hs (by rw [hq])
  | some p =>
    obtain ⟨j, u⟩ := p
    obtain ⟨_, _, x, h3, _, _, _, h7⟩ := kvFind_some hq
    simp only [Nat.sub_zero] at h3 h7
    refine main (kvs.eraseIdx j) h7.symm ⟨fun y hy => hs.1 y (List.mem_of_mem_eraseIdx hy), ?_⟩ ?_
    · rw [← erase_map]; exact List.Nodup.sublist (List.eraseIdx_sublist _ _) hs.2
    · rw [hq]
      dsimp only
      apply Array.ext'
      have hl : j < kvs.length := (List.getElem?_eq_some_iff.1 h3).1
      simp [Array.eraseIdxIfInBounds, hl, erase_map]
end
/-! Lists of pairs. -/
def askRows (l : List (Int × Int)) : List (List Value) := l.map fun p => [.int .i64 p.1, .int .i64 p.2]
abbrev AsksA (a : Option Addr) (cap : Nat) (l : List (Int × Int)) : Asn := RowsA 2 a cap (askRows l)
abbrev IMapA (b : Nat) (o : List (Int × Int)) : Asn := KMapA b (mmap (Value.int .i64) o)
def wvals : List (Int × List (Int × Int)) → List (Option Addr × Nat) → List (Int × Value)
  | p :: w, a :: ac => (p.1, .slice a.1 p.2.length a.2) :: wvals w ac
  | _, _ => []
def wrows : List (Int × List (Int × Int)) → List (Option Addr × Nat) → List Asn
  | p :: w, a :: ac => AsksA a.1 a.2 p.2 :: wrows w ac
  | _, _ => []
def wrowsX (k : Int) : List (Int × List (Int × Int)) → List (Option Addr × Nat) → List Asn
  | p :: w, a :: ac => if k = p.1 then wrows w ac else AsksA a.1 a.2 p.2 :: wrowsX k w ac
  | _, _ => []
def wadr (k : Int) : List (Int × List (Int × Int)) → List (Option Addr × Nat) → Option Addr × Nat
  | p :: w, a :: ac => if k = p.1 then a else wadr k w ac
  | _, _ => (none, 0)
def wget (w : List (Int × List (Int × Int))) (k : Int) : List (Int × Int) := (mget w k).getD []
def acset (k : Int) (a' : Option Addr × Nat) : List (Int × List (Int × Int)) → List (Option Addr × Nat) → List (Option Addr × Nat)
  | p :: w, a :: ac => if k = p.1 then a' :: ac else a :: acset k a' w ac
  | _, _ => [a']
def WMapA (b : Nat) (w : List (Int × List (Int × Int))) : Asn :=
  .ex fun ac : List (Option Addr × Nat) => .star (.pure (ac.length = w.length) :: KMapA b (wvals w ac) :: wrows w ac)
/-- The same, but for the list of k, which lies at a. -/
def WHoleA (b : Nat) (w : List (Int × List (Int × Int))) (k : Int) (a : Option Addr) (c : Nat) : Asn :=
  .ex fun ac : List (Option Addr × Nat) => .star (.pure (ac.length = w.length ∧ wadr k w ac = (a, c)) :: KMapA b (wvals w ac) :: wrowsX k w ac)
theorem w_pull {k : Int} : ∀ {w : List (Int × List (Int × Int))} {ac : List (Option Addr × Nat)} {Γ : List Asn}, ac.length = w.length → (mget w k).isSome = true → Pull (wrows w ac ++ Γ) (AsksA (wadr k w ac).1 (wadr k w ac).2 (wget w k)) (wrowsX k w ac ++ Γ)
  | [], _, _, _, h => by simp [mget] at h
  | p :: w, [], _, hl, _ => by simp at hl
  | p :: w, a :: ac, Γ, hl, h => by
    unfold wrows wrowsX wadr wget mget
    unfold mget at h
    by_cases hk : k = p.1
    · simp only [hk, if_true, Option.getD_some]
      exact .here
    · simp only [hk, if_false] at h ⊢
      exact .there (w_pull (by simpa using hl) h)
theorem w_none {k : Int} : ∀ {w : List (Int × List (Int × Int))} {ac : List (Option Addr × Nat)}, ac.length = w.length → mget w k = none → wrowsX k w ac = wrows w ac ∧ wadr k w ac = (none, 0) ∧ mget (wvals w ac) k = none
  | [], ac, hl, _ => by cases ac <;> exact ⟨rfl, rfl, rfl⟩
  | p :: w, [], hl, _ => by simp at hl
  | p :: w, a :: ac, hl, h => by
    unfold mget at h
    by_cases hk : k = p.1
    · simp [hk] at h
    · simp only [hk, if_false] at h
      obtain ⟨h1, h2, h3⟩ := w_none (ac := ac) (by simpa using hl) h
      refine ⟨?_, ?_, ?_⟩
      · simp [wrowsX, wrows, hk, h1]
      · simp [wadr, hk, h2]
      · simp [wvals, mget, hk, h3]
theorem w_some {k : Int} : ∀ {w : List (Int × List (Int × Int))} {ac : List (Option Addr × Nat)}, ac.length = w.length → (mget w k).isSome = true → mget (wvals w ac) k = some (.slice (wadr k w ac).1 (wget w k).length (wadr k w ac).2)
  | [], _, _, h => by simp [mget] at h
  | p :: w, [], hl, _ => by simp at hl
  | p :: w, a :: ac, hl, h => by
    unfold wvals wadr wget mget
    unfold mget at h
    by_cases hk : k = p.1
    · simp [hk]
    · simp only [hk, if_false] at h ⊢
      exact w_some (by simpa using hl) h
theorem w_set {k : Int} (a' : Option Addr × Nat) (ws : List (Int × Int)) : ∀ {w : List (Int × List (Int × Int))} {ac : List (Option Addr × Nat)}, ac.length = w.length →
    (acset k a' w ac).length = (mset w k ws).length ∧ wvals (mset w k ws) (acset k a' w ac) = mset (wvals w ac) k (.slice a'.1 ws.length a'.2) ∧ ∀ Γ, Pull (wrows (mset w k ws) (acset k a' w ac) ++ Γ) (AsksA a'.1 a'.2 ws) (wrowsX k w ac ++ Γ)
  | [], ac, hl => by cases ac <;> first | exact ⟨rfl, rfl, fun Γ => .here⟩ | simp at hl
  | p :: w, [], hl => by simp at hl
  | p :: w, a :: ac, hl => by
    obtain ⟨h1, h2, h3⟩ := w_set (k := k) a' ws (w := w) (ac := ac) (by simpa using hl)
    by_cases hk : k = p.1
    · simp only [mset, acset, hk, if_true, wvals, wrowsX]
      exact ⟨by simpa using hl, trivial, fun Γ => .here⟩
    · simp only [mset, acset, hk, if_false, wvals, wrowsX]
      refine ⟨by simpa using h1, by rw [h2], fun Γ => .there (h3 Γ)⟩
section
variable {P : Program} {n : Nat} {W0 w : World} {e : Env} {Γ Γ' : List Asn} {op : Op} {ty : TypeId} {t K V b : Nat} {k : Int} {m : List (Int × List (Int × Int))}
theorem pull_mid {A : Asn} : ∀ l : List Asn, Pull (l ++ A :: Γ) A (l ++ Γ)
  | [] => .here
  | _ :: l => .there (pull_mid l)
theorem WHoleA.of {a : Option Addr} {c : Nat} (h : Sat W0 (WHoleA b m k a c :: Γ) w) : ∃ ac, ac.length = m.length ∧ wadr k m ac = (a, c) ∧ Sat W0 (KMapA b (wvals m ac) :: (wrowsX k m ac ++ Γ)) w := by
  obtain ⟨ac, hac⟩ := h.ex_of
  obtain ⟨h2, h3⟩ := hac.star_of.pure_of
  exact ⟨ac, h2.1, h2.2, h3⟩
theorem WHoleA.mk {a : Option Addr} {c : Nat} (ac : List (Option Addr × Nat)) (h1 : ac.length = m.length) (h2 : wadr k m ac = (a, c)) (h : Sat W0 (KMapA b (wvals m ac) :: (wrowsX k m ac ++ Γ)) w) : Sat W0 (WHoleA b m k a c :: Γ) w :=
  Sat.ex_mk ac (Sat.star_mk (Sat.pure_mk ⟨h1, h2⟩ h))
theorem WMapA.of (h : Sat W0 (WMapA b m :: Γ) w) : ∃ ac, ac.length = m.length ∧ Sat W0 (KMapA b (wvals m ac) :: (wrows m ac ++ Γ)) w := by
  obtain ⟨ac, hac⟩ := h.ex_of
  obtain ⟨h2, h3⟩ := hac.star_of.pure_of
  exact ⟨ac, h2, h3⟩
theorem WMapA.mk (ac : List (Option Addr × Nat)) (h1 : ac.length = m.length) (h : Sat W0 (KMapA b (wvals m ac) :: (wrows m ac ++ Γ)) w) : Sat W0 (WMapA b m :: Γ) w :=
  Sat.ex_mk ac (Sat.star_mk (Sat.pure_mk h1 h))
/-- The list of one key is taken out. -/
theorem WMapA.focus (k : Int) (h : Sat W0 (WMapA b m :: Γ) w) : ∃ a c, Sat W0 (AsksA a c (wget m k) :: WHoleA b m k a c :: Γ) w := by
  obtain ⟨ac, h1, h2⟩ := WMapA.of h
  cases hk : mget m k with
  | none =>
    obtain ⟨e1, e2, e3⟩ := w_none h1 hk
    refine ⟨none, 0, ?_⟩
    have : wget m k = [] := by simp [wget, hk]
    rw [this]
    exact RowsA.none_mk (WHoleA.mk ac h1 e2 (by rw [e1]; exact h2))
  | some ws =>
    have hs : (mget m k).isSome = true := by simp [hk]
    have hp := w_pull (Γ := Γ) h1 hs
    refine ⟨(wadr k m ac).1, (wadr k m ac).2, ?_⟩
    have h3 : Sat W0 (AsksA (wadr k m ac).1 (wadr k m ac).2 (wget m k) :: KMapA b (wvals m ac) :: (wrowsX k m ac ++ Γ)) w := Sat.pull (.there hp) h2
    exact (WHoleA.mk ac h1 rfl (Sat.push (.there (pull_mid _)) h3)).less (.take (.there .here) (.take .here .refl))
/-- And put back. -/
theorem WMapA.unfocus {a : Option Addr} {c : Nat} (h : Sat W0 (AsksA a c (wget m k) :: WHoleA b m k a c :: Γ) w) : Sat W0 (WMapA b m :: Γ) w := by
  obtain ⟨ac, h1, h2, h3⟩ := WHoleA.of (h.less (.take (.there .here) (.take .here .refl)))
  have h4 : Sat W0 (AsksA a c (wget m k) :: KMapA b (wvals m ac) :: (wrowsX k m ac ++ Γ)) w := Sat.pull (.there (pull_mid _)) h3
  cases hk : mget m k with
  | none =>
    obtain ⟨e1, e2, e3⟩ := w_none h1 hk
    rw [e1] at h4
    exact WMapA.mk ac h1 h4.tail
  | some ws =>
    have hs : (mget m k).isSome = true := by simp [hk]
    have hp := w_pull (Γ := Γ) h1 hs
    rw [h2] at hp
    exact WMapA.mk ac h1 (Sat.push (.there hp) h4)
theorem whole_lookup {ik : IntKind} {o : Oper} {info : TypeInfo} {a : Option Addr} {c : Nat} (hx : ∀ w, (execOp (ev e) o).run P w = (Instr.lookup t (.map (some b)) (.int .i64 k) false >>= fun v => pure (Next.value v)).run P w)
    (ht : P.underlying t = some (.map K V)) (hK : P.underlying K = some (.int ik)) (hi : P.info? V = some info) (hz : info.zero = some (.slice none 0 0)) (hp : Pull Γ (WHoleA b m k a c) Γ') :
    ∀ w, Sat W0 Γ w → (execOp (ev e) o).run P w = .ok (.value (.slice a (List.length (wget m k)) c)) w := by
  intro w hw
  obtain ⟨ac, h1, h2, h3⟩ := WHoleA.of (hw.pull hp)
  have h4 := kmap_lookup (Γ := KMapA b (wvals m ac) :: (wrowsX k m ac ++ Γ')) (z := .slice none 0 0) false hx ht hK hi hz .here w h3
  rw [h4]
  cases hk : mget m k with
  | none =>
    obtain ⟨e1, e2, e3⟩ := w_none h1 hk
    rw [h2] at e2
    simp only [Prod.mk.injEq] at e2
    simp [e3, wget, hk, e2.1, e2.2]
  | some ws =>
    have hs : (mget m k).isSome = true := by simp [hk]
    rw [w_some h1 hs, h2]
    rfl
theorem st_wset {ik : IntKind} {a a' : Option Addr} {c c' : Nat} {ws : List (Int × Int)} {Γ'' : List Asn} (hx : ∀ w, (execOp (ev e) (bare op ty)).run P w = (Instr.mapUpdate t (.map (some b)) (.int .i64 k) (.slice a' (List.length ws) c') >>= fun _ => pure Next.skip).run P w)
    (ht : P.underlying t = some (.map K V)) (hK : P.underlying K = some (.int ik)) (hp : Pull Γ (WHoleA b m k a c) Γ') (hp2 : Pull Γ' (AsksA a' c' ws) Γ'') : StepTo P W0 Γ e op ty (Is undef (WMapA b (mset m k ws) :: Γ'')) := by
  intro w hw
  have h0 : Sat W0 (WHoleA b m k a c :: AsksA a' c' ws :: Γ'') w := by
    have h9 := hw.pull hp
    exact h9.less (.take .here (.take hp2 .refl))
  obtain ⟨ac, h1, h2, h3⟩ := WHoleA.of h0
  obtain ⟨q1, q2, q3⟩ := w_set (k := k) (a', c') ws h1
  refine StepTo.conseq (st_kmap_set (Γ := KMapA b (wvals m ac) :: (wrowsX k m ac ++ (AsksA a' c' ws :: Γ''))) hx ht hK .here) ?_ w h3
  rintro _ _ ⟨rfl, rfl⟩
  refine ⟨_, ⟨rfl, rfl⟩, fun w' hw' => WMapA.mk (acset k (a', c') m ac) q1 ?_⟩
  rw [q2]
  have h5 : Sat W0 (AsksA a' c' ws :: KMapA b (mset (wvals m ac) k (.slice a' ws.length c')) :: (wrowsX k m ac ++ Γ'')) w' := Sat.pull (.there (pull_mid _)) hw'
  exact Sat.push (.there (q3 Γ'')) h5
end
end Go.Proofs.Ytcigheahollkcaa
