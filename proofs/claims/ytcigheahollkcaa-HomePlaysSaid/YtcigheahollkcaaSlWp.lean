/- The walk of a function's code over separation-style assertions: one rule for each form of code; a rule for a region whose order is open.
   Conditions: none; nothing here speaks of one program. -/
import Derived.Test.YtcigheahollkcaaSlCore
namespace Go.Proofs.Ytcigheahollkcaa
open Go Go.RowKit

/-- What is known of a frame's slots: pairs of a slot and its value; the first pair counts. -/
abbrev Env := List (Nat × Value)
def lk : Env → Nat → Option Value
  | [], _ => none
  | (k, v) :: r, t => bif Nat.beq k t then some v else lk r t
def ev (e : Env) : Operand → Value
  | .tmp t => (lk e t).getD undef
  | .const v => v
  | .global g => .pointer (some ⟨g, 0, none⟩)
  | .func f => .func (.func f) #[] #[]
def knows (e : Env) : Operand → Bool
  | .tmp t => (lk e t).isSome
  | _ => true
structure EnvOk (n : Nat) (e : Env) (a : Act) : Prop where
  size : a.tmps.size = n
  defers : a.defers = []
  get : ∀ t v, lk e t = some v → a.tmps[t]? = some v

theorem lk_cons (k : Nat) (v : Value) (e : Env) (t : Nat) : lk ((k, v) :: e) t = if k = t then some v else lk e t := by
  by_cases h : k = t
  · subst h; simp [lk]
  · have : Nat.beq k t = false := by
      cases hb : Nat.beq k t with
      | false => rfl
      | true => exact absurd (Nat.eq_of_beq_eq_true hb) h
    simp [lk, this, h]

theorem EnvOk.eval {n : Nat} {e : Env} {a : Act} (h : EnvOk n e a) {x : Operand} (hk : knows e x = true) : a.eval x = ev e x := by
  cases x with
  | tmp t =>
    cases hl : lk e t with
    | none => simp [knows, hl] at hk
    | some v =>
      have := h.get t v hl
      simp [Act.eval, ev, hl, this]
  | _ => rfl

theorem EnvOk.put {n : Nat} {e : Env} {a : Act} (h : EnvOk n e a) {d : Nat} (hd : d < n) (v : Value) : EnvOk n ((d, v) :: e) (a.put (some d) v) := by
  refine ⟨by simp [Act.put, h.size], by simp [Act.put, h.defers], ?_⟩
  intro t u ht
  rw [lk_cons] at ht
  by_cases e1 : d = t
  · subst e1
    simp at ht
    subst ht
    have : d < a.tmps.size := by rw [h.size]; exact hd
    simp [Act.put, this]
  · simp [e1] at ht
    have := h.get t u ht
    simp [Act.put, Array.getElem?_setIfInBounds_ne e1, this]

theorem EnvOk.nil {n : Nat} {a : Act} (h : a.tmps.size = n) (hd : a.defers = []) : EnvOk n [] a := ⟨h, hd, fun _ _ h => by simp [lk] at h⟩

/-- The pairs of e' are known in e. -/
def Env.Sub (e : Env) : Env → Prop
  | [] => True
  | (t, v) :: r => lk e t = some v ∧ Env.Sub e r
theorem Env.Sub.get {e e' : Env} (h : Env.Sub e e') {t : Nat} {v : Value} (hv : lk e' t = some v) : lk e t = some v := by
  induction e' with
  | nil => simp [lk] at hv
  | cons x r ih =>
    obtain ⟨k, u⟩ := x
    rw [lk_cons] at hv
    by_cases e1 : k = t
    · subst e1; simp at hv; subst hv; exact h.1
    · simp [e1] at hv; exact ih h.2 hv
theorem EnvOk.sub {n : Nat} {e e' : Env} {a : Act} (h : EnvOk n e a) (hs : Env.Sub e e') : EnvOk n e' a := ⟨h.size, h.defers, fun t v ht => h.get t v (hs.get ht)⟩

/-- In every frame and world of which e and Γ are known, K. -/
def At (n : Nat) (W0 : World) (e : Env) (Γ : List Asn) (K : Act → World → Prop) : Prop := ∀ a w, EnvOk n e a → Sat W0 Γ w → K a w

section rules
variable {P : Program} {n : Nat} {W0 : World} {e e' : Env} {Γ Γ' : List Asn} {Q : Exit → Act → World → Prop} {K : Act → World → Prop}

theorem At.mono {K' : Act → World → Prop} (h : At n W0 e Γ K) (k : ∀ a w, K a w → K' a w) : At n W0 e Γ K' := fun a w ha hw => k a w (h a w ha hw)
theorem At.env (e' : Env) (hs : Env.Sub e e') (h : At n W0 e' Γ K) : At n W0 e Γ K := fun a w ha hw => h a w (ha.sub hs) hw
theorem At.conv (hg : ∀ w, Sat W0 Γ w → Sat W0 Γ' w) (h : At n W0 e Γ' K) : At n W0 e Γ K := fun a w ha hw => h a w ha (hg w hw)
theorem At.pull {A : Asn} (hp : Pull Γ A Γ') (h : At n W0 e (A :: Γ') K) : At n W0 e Γ K := fun a w ha hw => h a w ha (hw.pull hp)
theorem At.drop {A : Asn} (hp : Pull Γ A Γ') (h : At n W0 e Γ' K) : At n W0 e Γ K := fun a w ha hw => h a w ha (hw.drop hp)
theorem At.ex {α : Type} {f : α → Asn} (hp : Pull Γ (Asn.ex f) Γ') (h : ∀ x, At n W0 e (f x :: Γ') K) : At n W0 e Γ K := fun a w ha hw => let ⟨x, hx⟩ := (hw.pull hp).ex_of; h x a w ha hx
theorem At.pure {p : Prop} (hp : Pull Γ (Asn.pure p) Γ') (h : p → At n W0 e Γ' K) : At n W0 e Γ K := fun a w ha hw => let ⟨x, hx⟩ := (hw.pull hp).pure_of; h x a w ha hx
theorem At.star {l : List Asn} (hp : Pull Γ (Asn.star l) Γ') (h : At n W0 e (l ++ Γ') K) : At n W0 e Γ K := fun a w ha hw => h a w ha (hw.pull hp).star_of
theorem At.freeze {b : Nat} {o : Obj} (hp : Pull Γ (Asn.own b o) Γ') (h : At n W0 e (Asn.imm b o :: Γ') K) : At n W0 e Γ K := fun a w ha hw => h a w ha (hw.pull hp).freeze
theorem At.known {p : Prop} (hp : ∀ w, Sat W0 Γ w → p) (h : p → At n W0 e Γ K) : At n W0 e Γ K := fun a w ha hw => h (hp w hw) a w ha hw

/-- A part of a function's code, by the way to it. -/
def subCode : Code → Nat → Code
  | .seq a _, 0 => a
  | .seq _ b, _ => b
  | .cond _ a _, 0 => a
  | .cond _ _ b, _ => b
  | .block _ b, _ => b
  | .loop b, _ => b
  | .scope b, _ => b
  | _, _ => .skip
def codeAt (c : Code) (p : List Nat) : Code := p.foldl subCode c
def opsOf : Code → Array Oper
  | .region _ ops _ => ops
  | _ => #[]
def idOf : Code → Nat
  | .region i _ _ => i
  | .block i _ => i
  | .exit i => i
  | _ => 0
def condOf : Code → Operand
  | .cond c _ _ => c
  | _ => .const undef

theorem at_seq {c x y : Code} (h : c = .seq x y) (k : At n W0 e Γ (x.wp P (Exit.then (y.wp P Q) Q))) : At n W0 e Γ (c.wp P Q) := by
  subst h; exact fun a w ha hw => wp_seq (k a w ha hw)
theorem at_skip {c : Code} (h : c = .skip) (k : At n W0 e Γ (Q .normal)) : At n W0 e Γ (c.wp P Q) := by
  subst h; exact fun a w ha hw => wp_skip (k a w ha hw)
theorem at_label {c : Code} {l : Nat} (h : c = .label l) (k : At n W0 e Γ (Q .normal)) : At n W0 e Γ (c.wp P Q) := by
  subst h; exact fun a w ha hw => wp_label (k a w ha hw)
theorem at_ret {c : Code} (h : c = .ret) (k : At n W0 e Γ (Q .ret)) : At n W0 e Γ (c.wp P Q) := by
  subst h; exact fun a w ha hw => wp_ret (k a w ha hw)
theorem at_exit {c : Code} {i : Nat} (h : c = .exit i) (k : At n W0 e Γ (Q (.exit i))) : At n W0 e Γ (c.wp P Q) := by
  subst h; exact fun a w ha hw => wp_exit (k a w ha hw)
theorem at_block {c x : Code} {i : Nat} (h : c = .block i x) (k : At n W0 e Γ (x.wp P (Exit.inBlock i Q))) : At n W0 e Γ (c.wp P Q) := by
  subst h; exact fun a w ha hw => wp_block (k a w ha hw)
theorem at_cond {c x y : Code} {o : Operand} {t : Bool} (h : c = .cond o x y) (hk : knows e o = true) (hv : ev e o = .bool t) (kt : t = true → At n W0 e Γ (x.wp P Q)) (kf : t = false → At n W0 e Γ (y.wp P Q)) :
    At n W0 e Γ (c.wp P Q) := by
  subst h
  intro a w ha hw
  exact wp_cond_split ((ha.eval hk).trans hv) (fun ht => kt ht a w ha hw) fun hf => kf hf a w ha hw
theorem at_true {c x y : Code} {o : Operand} {t : Bool} (h : c = .cond o x y) (hk : knows e o = true) (hv : ev e o = .bool t) (ht : t = true) (kt : At n W0 e Γ (x.wp P Q)) : At n W0 e Γ (c.wp P Q) :=
  at_cond h hk hv (fun _ => kt) fun hf => by rw [ht] at hf; cases hf
theorem at_false {c x y : Code} {o : Operand} {t : Bool} (h : c = .cond o x y) (hk : knows e o = true) (hv : ev e o = .bool t) (ht : t = false) (kt : At n W0 e Γ (y.wp P Q)) : At n W0 e Γ (c.wp P Q) :=
  at_cond h hk hv (fun hf => by rw [ht] at hf; cases hf) fun _ => kt
theorem at_then_normal {y : Code} (k : At n W0 e Γ (y.wp P Q)) : At n W0 e Γ (Exit.then (y.wp P Q) Q .normal) := k
theorem at_then_ret {N : Act → World → Prop} (k : At n W0 e Γ (Q .ret)) : At n W0 e Γ (Exit.then N Q .ret) := k
theorem at_then_exit {N : Act → World → Prop} {i : Nat} (k : At n W0 e Γ (Q (.exit i))) : At n W0 e Γ (Exit.then N Q (.exit i)) := k
theorem at_in_normal {i : Nat} (k : At n W0 e Γ (Q .normal)) : At n W0 e Γ (Exit.inBlock i Q .normal) := k
theorem at_in_ret {i : Nat} (k : At n W0 e Γ (Q .ret)) : At n W0 e Γ (Exit.inBlock i Q .ret) := k
theorem at_in_here {i : Nat} (k : At n W0 e Γ (Q .normal)) : At n W0 e Γ (Exit.inBlock i Q (.exit i)) := fun a w ha hw => by simpa [Exit.inBlock] using k a w ha hw
theorem at_in_other {i j : Nat} (h : Nat.beq j i = false) (k : At n W0 e Γ (Q (.exit j))) : At n W0 e Γ (Exit.inBlock i Q (.exit j)) := fun a w ha hw => by
  have : j ≠ i := by rintro rfl; simp at h
  simpa [Exit.inBlock, this] using k a w ha hw

/-- A loop, by an invariant over some ι, which bears a number that falls. -/
theorem at_loop {ι : Type} (env : ι → Env) (Δ : ι → List Asn) (μ : ι → Nat) (x0 : ι) {c x : Code} (h : c = .loop x) (h0e : Env.Sub e (env x0)) (h0 : ∀ w, Sat W0 Γ w → Sat W0 (Δ x0) w)
    (round : ∀ i, At n W0 (env i) (Δ i) (x.wp P (Exit.then (fun a w => ∃ j, μ j < μ i ∧ EnvOk n (env j) a ∧ Sat W0 (Δ j) w) Q))) : At n W0 e Γ (c.wp P Q) := by
  subst h
  intro a w ha hw
  refine wp_loop_ghost (fun m a w => ∃ i, μ i = m ∧ EnvOk n (env i) a ∧ Sat W0 (Δ i) w) (μ x0) ⟨x0, rfl, ha.sub h0e, h0 w hw⟩ ?_
  rintro m a w ⟨i, rfl, hi, hs⟩
  refine wp_mono (round i a w hi hs) ?_
  intro ex a' w' hq
  cases ex with
  | normal => obtain ⟨j, hj, ej, sj⟩ := hq; exact ⟨μ j, hj, j, rfl, ej, sj⟩
  | _ => exact hq
theorem at_round {ι : Type} {env : ι → Env} {Δ : ι → List Asn} {μ : ι → Nat} {i : ι} (j : ι) (hj : μ j < μ i) (he : Env.Sub e (env j)) (hg : ∀ w, Sat W0 Γ w → Sat W0 (Δ j) w) :
    At n W0 e Γ (fun a w => ∃ j, μ j < μ i ∧ EnvOk n (env j) a ∧ Sat W0 (Δ j) w) := fun _ w ha hw => ⟨j, hj, ha.sub he, hg w hw⟩

/-- The same loop, the invariant a relation. -/
theorem at_loopR (J : Nat → Env → List Asn → Prop) (m0 : Nat) {c x : Code} (h : c = .loop x) (e0 : Env) (h0e : Env.Sub e e0) (h0 : J m0 e0 Γ)
    (round : ∀ m f Δ, J m f Δ → At n W0 f Δ (x.wp P (Exit.then (fun a w => ∃ m' f' Δ', m' < m ∧ J m' f' Δ' ∧ EnvOk n f' a ∧ Sat W0 Δ' w) Q))) : At n W0 e Γ (c.wp P Q) := by
  subst h
  intro a w ha hw
  refine wp_loop_ghost (fun m a w => ∃ f Δ, J m f Δ ∧ EnvOk n f a ∧ Sat W0 Δ w) m0 ⟨e0, Γ, h0, ha.sub h0e, hw⟩ ?_
  rintro m a w ⟨f, Δ, hJ, hi, hs⟩
  refine wp_mono (round m f Δ hJ a w hi hs) ?_
  intro ex a' w' hq
  cases ex with
  | normal => obtain ⟨m', f', Δ', h1, h2, h3, h4⟩ := hq; exact ⟨m', h1, f', Δ', h2, h3, h4⟩
  | _ => exact hq
theorem at_roundR {J : Nat → Env → List Asn → Prop} {m : Nat} (m' : Nat) (f' : Env) (Δ' : List Asn) (hm : m' < m) (he : Env.Sub e f') (hg : ∀ w, Sat W0 Γ w → Sat W0 Δ' w) (hJ : J m' f' Δ') :
    At n W0 e Γ (fun a w => ∃ m' f' Δ', m' < m ∧ J m' f' Δ' ∧ EnvOk n f' a ∧ Sat W0 Δ' w) := fun _ w ha hw => ⟨m', f', Δ', hm, hJ, ha.sub he, hg w hw⟩
end rules

/-- A function's call, over assertions. -/
def Tr (P : Program) (f : FuncId) (args : Array Value) (W0 : World) (Γ : List Asn) (R : Value → List Asn → Prop) : Prop :=
  ∀ w, Sat W0 Γ w → Calls P f args w fun e w' => ∃ r Γ', e = .returned r ∧ R r Γ' ∧ Sat W0 Γ' w'

theorem Tr.mono {P : Program} {f : FuncId} {args : Array Value} {W0 : World} {Γ : List Asn} {R R' : Value → List Asn → Prop} (h : Tr P f args W0 Γ R) (k : ∀ r Γ', R r Γ' → R' r Γ') : Tr P f args W0 Γ R' :=
  fun w hw => (h w hw).mono fun _ _ ⟨r, Γ', h1, h2, h3⟩ => ⟨r, Γ', h1, k _ _ h2, h3⟩
theorem Tr.conv {P : Program} {f : FuncId} {args : Array Value} {W0 : World} {Γ Γ' : List Asn} {R : Value → List Asn → Prop} (hg : ∀ w, Sat W0 Γ w → Sat W0 Γ' w) (h : Tr P f args W0 Γ' R) : Tr P f args W0 Γ R :=
  fun w hw => h w (hg w hw)

/-- The values of the first parameters, from slot i on. -/
def argEnv : Nat → List Value → Env
  | _, [] => []
  | i, v :: r => (i, v) :: argEnv (i + 1) r
theorem argEnv_get (l : List Value) : ∀ (i t : Nat) (v : Value), lk (argEnv i l) t = some v → i ≤ t ∧ l[t - i]? = some v := by
  induction l with
  | nil => intro i t v h; simp [argEnv, lk] at h
  | cons x r ih =>
    intro i t v h
    rw [argEnv, lk_cons] at h
    by_cases e1 : i = t
    · subst e1; simp at h; subst h; simp
    · simp [e1] at h
      obtain ⟨h1, h2⟩ := ih _ _ _ h
      refine ⟨by omega, ?_⟩
      have : t - i = (t - (i + 1)) + 1 := by omega
      rw [this]; simpa using h2

/-- How results are read off the frame. -/
inductive ResV (P : Program) (W0 : World) (e : Env) (Γ : List Asn) : ResultVar → Value → Prop
  | tmp {t : Nat} {v : Value} (h : lk e t = some v) : ResV P W0 e Γ (.tmp t) v
  | cell {a : Nat} {t : TypeId} {p : Addr} {v : Value} (h : lk e a = some (.pointer (some p))) (hr : ∀ w, Sat W0 Γ w → (loadVar t p).run P w = .ok v w) : ResV P W0 e Γ (.cell a t) v

inductive ResVs (P : Program) (W0 : World) (e : Env) (Γ : List Asn) : List ResultVar → List Value → Prop
  | nil : ResVs P W0 e Γ [] []
  | cons {r : ResultVar} {v : Value} {rs : List ResultVar} {vs : List Value} (h : ResV P W0 e Γ r v) (hs : ResVs P W0 e Γ rs vs) : ResVs P W0 e Γ (r :: rs) (v :: vs)

def packed : List Value → Value
  | [v] => v
  | vs => .tuple vs.toArray


theorem run_seq {α β : Type} {P : Program} {s : Sem α} {f : α → Sem β} {w w' : World} {x : α} {r : Result β} (h : s.run P w = .ok x w') (k : (f x).run P w' = r) : (s >>= f).run P w = r := by
  rw [Sem.run_bind, h]; exact k

theorem run_mapM_results {P : Program} {W0 w : World} {n : Nat} {e : Env} {Γ : List Asn} {a : Act} (ha : EnvOk n e a) (hw : Sat W0 Γ w) (fn : Func) (vs : List Value)
    (h : ResVs P W0 e Γ fn.results.toList vs) : (results fn a.tmps).run P w = .ok (packed vs) w := by
  have key : ∀ (rs : List ResultVar) (vs : List Value), ResVs P W0 e Γ rs vs →
      (rs.mapM (m := Sem) fun | .tmp t => pure (a.tmps.getD t undef) | .cell x t => do loadVar t (← asAddr (a.tmps.getD x undef))).run P w = .ok vs w := by
    intro rs vs h
    induction h with
    | nil => rfl
    | @cons r v rs vs h1 hs ih =>
      rw [List.mapM_cons]
      refine run_seq (x := v) (w' := w) ?_ (run_seq ih rfl)
      cases h1 with
      | tmp ht =>
        have := ha.get _ _ ht
        simp [this]
      | cell ht hr =>
        have := ha.get _ _ ht
        simp only [Array.getD_eq_getD_getElem?, this, Option.getD_some, asAddr]
        exact run_seq (x := _) rfl (hr w hw)
  unfold results
  refine run_seq (x := vs.toArray) (w' := w) ?_ ?_
  · have := key _ _ h
    have e1 : fn.results = fn.results.toList.toArray := by simp
    rw [e1, List.mapM_toArray]
    exact run_seq this rfl
  · show Result.ok _ w = _
    congr 1
    match vs with
    | [] => rfl
    | [v] => rfl
    | v :: u :: r => simp [packed]

/-- What a body owes at its end. -/
def Back (W0 : World) (R : Value → List Asn → Prop) (e : Ending) (w : World) : Prop := ∃ r Γ', e = .returned r ∧ R r Γ' ∧ Sat W0 Γ' w

theorem Tr.enter {P : Program} {f : FuncId} {fn : Func} {c : Code} {args : List Value} {W0 : World} {Γ : List Asn} {R : Value → List Asn → Prop} (n : Nat)
    (hf : P.funcs[f]? = some fn) (hb : fn.body = some c) (hn : Nat.max args.length fn.ntmps = n) (h : At n W0 (argEnv 0 args) Γ (c.wp P (bodyPost P fn (Back W0 R)))) : Tr P f args.toArray W0 Γ R := by
  intro w hw
  refine calls_of_wp hf hb (h _ w ⟨?_, rfl, ?_⟩ hw)
  · subst hn
    simp
    show args.length + (fn.ntmps - args.length) = max args.length fn.ntmps
    omega
  · intro t v hv
    obtain ⟨_, h2⟩ := argEnv_get _ _ _ _ hv
    have hlt : t < args.length := by
      rcases Nat.lt_or_ge t args.length with h | h
      · exact h
      · simp [h] at h2
    simp only [Nat.sub_zero] at h2
    simp only [List.size_toArray, Array.getElem?_append, hlt, if_true]
    simpa using h2

theorem at_back {P : Program} {n : Nat} {W0 : World} {e : Env} {Γ : List Asn} {fn : Func} {R : Value → List Asn → Prop} (vs : List Value) (Γ' : List Asn) (hr : ResVs P W0 e Γ fn.results.toList vs)
    (hg : ∀ w, Sat W0 Γ w → Sat W0 Γ' w) (h : R (packed vs) Γ') : At n W0 e Γ (bodyPost P fn (Back W0 R) .ret) :=
  fun _ w ha hw => ⟨ha.defers, packed vs, run_mapM_results ha hw fn vs hr, _, Γ', rfl, h, hg w hw⟩
theorem at_back_end {P : Program} {n : Nat} {W0 : World} {e : Env} {Γ : List Asn} {fn : Func} {R : Value → List Asn → Prop} (vs : List Value) (Γ' : List Asn) (hr : ResVs P W0 e Γ fn.results.toList vs)
    (hg : ∀ w, Sat W0 Γ w → Sat W0 Γ' w) (h : R (packed vs) Γ') : At n W0 e Γ (bodyPost P fn (Back W0 R) .normal) :=
  fun _ w ha hw => ⟨ha.defers, packed vs, run_mapM_results ha hw fn vs hr, _, Γ', rfl, h, hg w hw⟩

/-! The operations of a region, in the order of the text. -/
/-- k operations, from the i-th on. -/
def Ops (P : Program) (ops : Array Oper) (Q : Exit → Act → World → Prop) (k i : Nat) (a : Act) (w : World) : Prop := wpOps P ops Q (List.range' i k) a w
/-- What a rule asks of an operation. -/
def key (ops : Array Oper) (i : Nat) : Option (Option Tmp × Op × TypeId × Option (Nat × Bool)) := (ops[i]?).map fun o => (o.dst, o.op, o.type, o.guard)
def bare (op : Op) (ty : TypeId) : Oper := { dst := none, op, type := ty, pos := "", after := #[], guard := none }
def notSel : Op → Bool
  | .select .. => false
  | _ => true
theorem execOp_bare (ρ : Operand → Value) (o : Oper) : execOp ρ o = execOp ρ (bare o.op o.type) := rfl
theorem execOp_env {n : Nat} {e : Env} {a : Act} (ha : EnvOk n e a) (o : Oper) (hs : notSel o.op = true) (hk : o.op.operands.toList.all (knows e) = true) : execOp a.eval o = execOp (ev e) (bare o.op o.type) := by
  rw [← execOp_bare]
  refine execOp_congr o (fun cs b h => by rw [h] at hs; cases hs) fun x hx => ha.eval ?_
  rw [List.all_eq_true] at hk
  exact hk x (by simpa using hx)

def putE (e : Env) : Option Tmp → Value → Env
  | some d, v => (d, v) :: e
  | none, _ => e
def below (n : Nat) : Option Tmp → Bool
  | some d => Nat.blt d n
  | none => true
theorem EnvOk.putE {n : Nat} {e : Env} {a : Act} (h : EnvOk n e a) {d : Option Tmp} (hd : below n d = true) (v : Value) : EnvOk n (putE e d v) (a.put d v) := by
  cases d with
  | none => exact h
  | some d => exact h.put (by simpa [below] using hd) v

section ops
variable {P : Program} {n : Nat} {W0 : World} {e : Env} {Γ Γ' : List Asn} {Q : Exit → Act → World → Prop} {ops : Array Oper} {k i : Nat} {dst : Option Tmp} {op : Op} {ty : TypeId}

theorem at_region {c : Code} {id : Nat} (k : Nat) (h : c = .region id (opsOf c) false) (hn : (opsOf c).size = k) (hk : At n W0 e Γ (Ops P (opsOf c) Q k 0)) : At n W0 e Γ (c.wp P Q) := by
  intro a w ha hw
  generalize opsOf c = ops at *
  subst h hn
  refine wp_region ?_
  have := hk a w ha hw
  unfold Ops at this
  rwa [← List.range_eq_range'] at this

theorem ops_end (h : At n W0 e Γ (Q .normal)) : At n W0 e Γ (Ops P ops Q 0 i) := fun a w ha hw => by
  show wpOps P ops Q (List.range' i 0) a w
  exact h a w ha hw

theorem key_some {x : Option Tmp × Op × TypeId × Option (Nat × Bool)} (h : key ops i = some x) : ∃ o, ops[i]? = some o ∧ o.dst = x.1 ∧ o.op = x.2.1 ∧ o.type = x.2.2.1 ∧ o.guard = x.2.2.2 := by
  unfold key at h
  cases ho : ops[i]? with
  | none => simp [ho] at h
  | some o => simp [ho] at h; subst h; exact ⟨o, rfl, rfl, rfl, rfl, rfl⟩

theorem wpOps_run (o : Oper) (ho : ops[i]? = some o) {a : Act} {w : World} (hw : Region.wanted o (yielded ops a.tmps) = true) (h : o.wp P a w (Ops P ops Q k (i + 1)) Q) : Ops P ops Q (k + 1) i a w := by
  show wpOps P ops Q (List.range' i (k + 1)) a w
  rw [List.range'_succ]
  simp only [wpOps, ho, hw, if_true]
  exact .inl h
theorem wpOps_pass (o : Oper) (ho : ops[i]? = some o) {a : Act} {w : World} (hw : Region.wanted o (yielded ops a.tmps) = false) (h : Ops P ops Q k (i + 1) (a.put o.dst undef) w) : Ops P ops Q (k + 1) i a w := by
  show wpOps P ops Q (List.range' i (k + 1)) a w
  rw [List.range'_succ]
  simp only [wpOps, ho, hw]
  exact h

def gbit (want : Bool) : Value → Bool
  | .bool b => b == want
  | _ => false
/-- Is the operation's guard met? -/
def GuardIs (ops : Array Oper) (e : Env) (g : Option (Nat × Bool)) (t : Bool) : Prop :=
  match g with
  | none => t = true
  | some (j, want) => ∃ d v, (ops[j]?).bind (·.dst) = some d ∧ lk e d = some v ∧ gbit want v = t
theorem guard_none : GuardIs ops e none true := rfl
theorem guard_some {j d : Nat} {b want t : Bool} (hd : (ops[j]?).bind (·.dst) = some d) (hl : lk e d = some (.bool b)) (ht : (b == want) = t) : GuardIs ops e (some (j, want)) t := ⟨d, .bool b, hd, hl, ht⟩
theorem GuardIs.wanted {a : Act} (ha : EnvOk n e a) {o : Oper} {t : Bool} (h : GuardIs ops e o.guard t) : Region.wanted o (yielded ops a.tmps) = t := by
  unfold Region.wanted
  unfold GuardIs at h
  split
  · simp_all
  · rename_i j want hg
    rw [hg] at h
    obtain ⟨d, b, hd, hl, ht⟩ := h
    have := ha.get _ _ hl
    simp only [yielded, hd, Option.bind_some, this]
    subst ht
    cases b <;> first | rfl | (rename_i b; cases b <;> cases want <;> rfl)

/-- An operation that runs to a value. -/
theorem ops_val {g : Option (Nat × Bool)} {v : Value} (hk : key ops i = some (dst, op, ty, g)) (hg : GuardIs ops e g true) (hs : notSel op = true) (hn : op.operands.toList.all (knows e) = true) (hd : below n dst = true)
    (hrun : ∀ w, Sat W0 Γ w → ∃ w', (execOp (ev e) (bare op ty)).run P w = .ok (.value v) w' ∧ Sat W0 Γ' w')
    (h : At n W0 (putE e dst v) Γ' (Ops P ops Q k (i + 1))) : At n W0 e Γ (Ops P ops Q (k + 1) i) := by
  intro a w ha hw
  obtain ⟨o, ho, rfl, rfl, rfl, rfl⟩ := key_some hk
  refine wpOps_run o ho (hg.wanted ha) ?_
  obtain ⟨w', h1, h2⟩ := hrun w hw
  unfold Oper.wp
  rw [execOp_env ha o hs hn, h1]
  exact h _ w' (ha.putE hd v) h2
theorem ops_skip {g : Option (Nat × Bool)} (hk : key ops i = some (dst, op, ty, g)) (hg : GuardIs ops e g true) (hs : notSel op = true) (hn : op.operands.toList.all (knows e) = true) (hd : below n dst = true)
    (hrun : ∀ w, Sat W0 Γ w → ∃ w', (execOp (ev e) (bare op ty)).run P w = .ok .skip w' ∧ Sat W0 Γ' w')
    (h : At n W0 (putE e dst undef) Γ' (Ops P ops Q k (i + 1))) : At n W0 e Γ (Ops P ops Q (k + 1) i) := by
  intro a w ha hw
  obtain ⟨o, ho, rfl, rfl, rfl, rfl⟩ := key_some hk
  refine wpOps_run o ho (hg.wanted ha) ?_
  obtain ⟨w', h1, h2⟩ := hrun w hw
  unfold Oper.wp
  rw [execOp_env ha o hs hn, h1]
  exact h _ w' (ha.putE hd undef) h2
/-- One that runs to a value which is not known beforehand. -/
theorem ops_some {g : Option (Nat × Bool)} (R : Value → List Asn → Prop) (hk : key ops i = some (dst, op, ty, g)) (hg : GuardIs ops e g true) (hs : notSel op = true) (hn : op.operands.toList.all (knows e) = true) (hd : below n dst = true)
    (hrun : ∀ w, Sat W0 Γ w → ∃ v w' Γ', (execOp (ev e) (bare op ty)).run P w = .ok (.value v) w' ∧ R v Γ' ∧ Sat W0 Γ' w')
    (h : ∀ v Γ', R v Γ' → At n W0 (putE e dst v) Γ' (Ops P ops Q k (i + 1))) : At n W0 e Γ (Ops P ops Q (k + 1) i) := by
  intro a w ha hw
  obtain ⟨o, ho, rfl, rfl, rfl, rfl⟩ := key_some hk
  refine wpOps_run o ho (hg.wanted ha) ?_
  obtain ⟨v, w', Γ1, h1, h2, h3⟩ := hrun w hw
  unfold Oper.wp
  rw [execOp_env ha o hs hn, h1]
  exact h v Γ1 h2 _ w' (ha.putE hd v) h3
theorem ops_call {g : Option (Nat × Bool)} {f : FuncId} {args : Array Value} (R : Value → List Asn → Prop) (hk : key ops i = some (dst, op, ty, g)) (hg : GuardIs ops e g true) (hs : notSel op = true) (hn : op.operands.toList.all (knows e) = true) (hd : below n dst = true)
    (hrun : ∀ w, (execOp (ev e) (bare op ty)).run P w = .ok (.enter f args) w) (hc : Tr P f args W0 Γ R)
    (h : ∀ v Γ', R v Γ' → At n W0 (putE e dst v) Γ' (Ops P ops Q k (i + 1))) : At n W0 e Γ (Ops P ops Q (k + 1) i) := by
  intro a w ha hw
  obtain ⟨o, ho, rfl, rfl, rfl, rfl⟩ := key_some hk
  refine wpOps_run o ho (hg.wanted ha) ?_
  unfold Oper.wp
  rw [execOp_env ha o hs hn, hrun]
  refine (hc w hw).mono ?_
  rintro ed w' ⟨r, Γ1, rfl, h2, h3⟩
  exact h r Γ1 h2 _ w' (ha.putE hd r) h3
/-- A guard that is not met. -/
theorem ops_off {g : Option (Nat × Bool)} (hk : key ops i = some (dst, op, ty, g)) (hg : GuardIs ops e g false) (hd : below n dst = true)
    (h : At n W0 (putE e dst undef) Γ (Ops P ops Q k (i + 1))) : At n W0 e Γ (Ops P ops Q (k + 1) i) := by
  intro a w ha hw
  obtain ⟨o, ho, rfl, rfl, rfl, rfl⟩ := key_some hk
  exact wpOps_pass o ho (hg.wanted ha) (h _ w (ha.putE hd undef) hw)
/-- An operation that touches no memory. -/
theorem ops_pure {g : Option (Nat × Bool)} (v : Value) (hk : key ops i = some (dst, op, ty, g)) (hg : GuardIs ops e g true) (hs : notSel op = true) (hn : op.operands.toList.all (knows e) = true) (hd : below n dst = true)
    (hrun : ∀ w, (execOp (ev e) (bare op ty)).run P w = .ok (.value v) w)
    (h : At n W0 (putE e dst v) Γ (Ops P ops Q k (i + 1))) : At n W0 e Γ (Ops P ops Q (k + 1) i) :=
  ops_val hk hg hs hn hd (fun w hw => ⟨w, hrun w, hw⟩) h
end ops
end Go.Proofs.Ytcigheahollkcaa
