/- A region whose order is open, walked once: what only reads is promised, what writes stands in a row.
   Conditions: none; nothing here speaks of one program. -/
import Derived.Test.YtcigheahollkcaaSlWp
namespace Go.Proofs.Ytcigheahollkcaa
open Go Go.RowKit

/-- What an operation comes to, over assertions. -/
def StepTo (P : Program) (W0 : World) (Γ : List Asn) (e : Env) (op : Op) (ty : TypeId) (Post : Value → List Asn → Prop) : Prop :=
  ∀ w, Sat W0 Γ w → ∀ (o : Oper) (a : Act) (K : Act → World → Prop) (Q : Exit → Act → World → Prop),
    (∀ v Γ' w', Post v Γ' → Sat W0 Γ' w' → K (a.put o.dst v) w') → o.upon P a K Q ((execOp (ev e) (bare op ty)).run P w)

section steps
variable {P : Program} {W0 : World} {Γ Γ' : List Asn} {e : Env} {op : Op} {ty : TypeId}
theorem StepTo.val {Post : Value → List Asn → Prop} (h : ∀ w, Sat W0 Γ w → ∃ v w' Γ', (execOp (ev e) (bare op ty)).run P w = .ok (.value v) w' ∧ Post v Γ' ∧ Sat W0 Γ' w') : StepTo P W0 Γ e op ty Post := by
  intro w hw o a K Q k
  obtain ⟨v, w', Γ', h1, h2, h3⟩ := h w hw
  rw [h1]; exact k v Γ' w' h2 h3
theorem StepTo.skip {Post : Value → List Asn → Prop} (h : ∀ w, Sat W0 Γ w → ∃ w' Γ', (execOp (ev e) (bare op ty)).run P w = .ok .skip w' ∧ Post undef Γ' ∧ Sat W0 Γ' w') : StepTo P W0 Γ e op ty Post := by
  intro w hw o a K Q k
  obtain ⟨w', Γ', h1, h2, h3⟩ := h w hw
  rw [h1]; exact k undef Γ' w' h2 h3
theorem StepTo.call {f : FuncId} {args : Array Value} {Post : Value → List Asn → Prop} (hrun : ∀ w, (execOp (ev e) (bare op ty)).run P w = .ok (.enter f args) w) (hc : Tr P f args W0 Γ Post) : StepTo P W0 Γ e op ty Post := by
  intro w hw o a K Q k
  rw [hrun]
  refine (hc w hw).mono ?_
  rintro ed w' ⟨r, Γ1, rfl, h2, h3⟩
  exact k r Γ1 w' h2 h3
theorem StepTo.mono {Post Post' : Value → List Asn → Prop} (h : StepTo P W0 Γ e op ty Post) (hp : ∀ v Γ', Post v Γ' → Post' v Γ') : StepTo P W0 Γ e op ty Post' :=
  fun w hw o a K Q k => h w hw o a K Q fun v Γ' w' h1 h2 => k v Γ' w' (hp _ _ h1) h2
/-- One result, known. -/
def Is (v : Value) (Γ : List Asn) : Value → List Asn → Prop := fun v' Γ' => v' = v ∧ Γ' = Γ
theorem StepTo.pure {v : Value} (h : ∀ w, (execOp (ev e) (bare op ty)).run P w = .ok (.value v) w) : StepTo P W0 Γ e op ty (Is v Γ) :=
  .val fun w hw => ⟨v, w, Γ, h w, ⟨rfl, rfl⟩, hw⟩
end steps

section ops
variable {P : Program} {n : Nat} {W0 : World} {e : Env} {Γ Γ' : List Asn} {Q : Exit → Act → World → Prop} {ops : Array Oper} {k i : Nat} {dst : Option Tmp} {op : Op} {ty : TypeId}
theorem ops_step {g : Option (Nat × Bool)} {Post : Value → List Asn → Prop} (hk : key ops i = some (dst, op, ty, g)) (hg : GuardIs ops e g true) (hs : notSel op = true) (hn : op.operands.toList.all (knows e) = true) (hd : below n dst = true)
    (st : StepTo P W0 Γ e op ty Post) (h : ∀ v Γ', Post v Γ' → At n W0 (putE e dst v) Γ' (Ops P ops Q k (i + 1))) : At n W0 e Γ (Ops P ops Q (k + 1) i) := by
  intro a w ha hw
  obtain ⟨o, ho, rfl, rfl, rfl, rfl⟩ := key_some hk
  refine wpOps_run o ho (hg.wanted ha) ?_
  unfold Oper.wp
  rw [execOp_env ha o hs hn]
  exact st w hw o a _ _ fun v Γ' w' h1 h2 => h v Γ' h1 _ w' (ha.putE hd v) h2
theorem ops_is {g : Option (Nat × Bool)} {v : Value} (hk : key ops i = some (dst, op, ty, g)) (hg : GuardIs ops e g true) (hs : notSel op = true) (hn : op.operands.toList.all (knows e) = true) (hd : below n dst = true)
    (st : StepTo P W0 Γ e op ty (Is v Γ')) (h : At n W0 (putE e dst v) Γ' (Ops P ops Q k (i + 1))) : At n W0 e Γ (Ops P ops Q (k + 1) i) :=
  ops_step hk hg hs hn hd st fun _ _ ⟨h1, h2⟩ => by subst h1; subst h2; exact h
end ops

/-! The order is open. -/
def depsOf (ops : Array Oper) (i : Nat) : List Nat :=
  match ops[i]? with
  | some o => (o.after.toList.filter (Region.binds .any ·)).map (·.on)
  | none => []
def dstOf (ops : Array Oper) (i : Nat) : Option Tmp := (ops[i]?).bind (·.dst)
def looksOf (ops : Array Oper) (i : Nat) : List Tmp :=
  match ops[i]? with
  | some o => o.looksAt ops
  | none => []
def isDst (ops : Array Oper) (i t : Nat) : Bool :=
  match dstOf ops i with
  | some d => Nat.beq d t
  | none => false
theorem isDst_iff {ops : Array Oper} {i t : Nat} : isDst ops i t = true ↔ dstOf ops i = some t := by
  unfold isDst
  cases dstOf ops i <;> simp
def has (l : List Nat) (i : Nat) : Bool := l.any (Nat.beq i)
theorem has_iff {l : List Nat} {i : Nat} : has l i = true ↔ i ∈ l := by
  simp [has]

section draw
variable {ops : Array Oper}
theorem mem_ready {listed : Array Bool} {i : Nat} : i ∈ Region.ready .any ops listed ↔ i < ops.size ∧ listed.getD i true = false ∧ ∀ d ∈ depsOf ops i, listed.getD d false = true := by
  unfold Region.ready
  rw [List.mem_filter, List.mem_range]
  constructor
  · rintro ⟨h1, h2⟩
    have ho : ops[i]? = some ops[i] := Array.getElem?_eq_getElem h1
    simp only [ho, Option.map_some, Option.getD_some, Bool.and_eq_true, Bool.not_eq_true'] at h2
    refine ⟨h1, h2.1, ?_⟩
    intro d hd
    simp only [depsOf, ho, List.mem_map, List.mem_filter] at hd
    obtain ⟨x, ⟨hx1, hx2⟩, rfl⟩ := hd
    have := h2.2
    rw [Array.all_eq_true_iff_forall_mem] at this
    have := this x (by simpa using hx1)
    simpa [hx2] using this
  · rintro ⟨h1, h2, h3⟩
    have ho : ops[i]? = some ops[i] := Array.getElem?_eq_getElem h1
    refine ⟨h1, ?_⟩
    simp only [ho, Option.map_some, Option.getD_some, Bool.and_eq_true, Bool.not_eq_true']
    refine ⟨h2, ?_⟩
    rw [Array.all_eq_true_iff_forall_mem]
    intro x hx
    cases hb : Region.binds .any x with
    | false => simp
    | true =>
      have := h3 x.on (by simp only [depsOf, ho, List.mem_map, List.mem_filter]; exact ⟨x, ⟨by simpa using hx, hb⟩, rfl⟩)
      simp [this]

/-- What stands of the frame while some of what is promised is still to come. -/
structure DInv (ops : Array Oper) (n : Nat) (D Pn : List Nat) (e : Env) (listed : Array Bool) (a : Act) : Prop where
  size : listed.size = ops.size
  l1 : ∀ j, listed.getD j false = true → j ∈ D
  l2 : ∀ j ∈ D, j ∉ Pn → listed.getD j false = true
  dlt : ∀ j ∈ D, j < ops.size
  tmps : a.tmps.size = n
  defers : a.defers = []
  get : ∀ t v, lk e t = some v → (∀ j ∈ Pn, listed.getD j false = false → dstOf ops j ≠ some t) → a.tmps[t]? = some v
  down : ∀ j, listed.getD j false = true → ∀ d ∈ depsOf ops j, listed.getD d false = true

def Left (ops : Array Oper) (listed : Array Bool) (fuel : Nat) : Prop := ∃ U : List Nat, U.Nodup ∧ (∀ j, j ∈ U ↔ j < ops.size ∧ listed.getD j false = false) ∧ U.length ≤ fuel

theorem getD_set {listed : Array Bool} {i j : Nat} (hi : i < listed.size) : (listed.setIfInBounds i true).getD j false = if i = j then true else listed.getD j false := by
  by_cases h : i = j
  · subst h; simp [Array.getD_eq_getD_getElem?, hi]
  · simp [Array.getD_eq_getD_getElem?, Array.getElem?_setIfInBounds_ne h, h]
theorem getD_lt {listed : Array Bool} {j : Nat} (h : j < listed.size) : listed.getD j true = listed.getD j false := by
  simp [Array.getD_eq_getD_getElem?, h]

theorem Left.step {listed : Array Bool} {fuel i : Nat} (h : Left ops listed (fuel + 1)) (hs : listed.size = ops.size) (hi : i < ops.size) (hl : listed.getD i false = false) : Left ops (listed.setIfInBounds i true) fuel := by
  obtain ⟨U, h1, h2, h3⟩ := h
  have hm : i ∈ U := (h2 i).2 ⟨hi, hl⟩
  refine ⟨U.erase i, h1.erase _, ?_, ?_⟩
  · intro j
    rw [h1.mem_erase_iff, h2, getD_set (by omega)]
    by_cases e1 : i = j
    · subst e1; simp
    · simp [e1, Ne.symm e1]
  · rw [List.length_erase_of_mem hm]; omega
theorem Left.zero {listed : Array Bool} (h : Left ops listed 0) {j : Nat} (hj : j < ops.size) : listed.getD j false = true := by
  obtain ⟨U, h1, h2, h3⟩ := h
  have : U = [] := List.eq_nil_of_length_eq_zero (by omega)
  subst this
  have := (h2 j).2
  cases hb : listed.getD j false
  · exact absurd (this ⟨hj, hb⟩) (by simp)
  · rfl

/-- Each one's predecessors stand behind it in the list. -/
def Topo (ops : Array Oper) : List Nat → Prop
  | [] => True
  | i :: D => (∀ d ∈ depsOf ops i, d ∈ D) ∧ Topo ops D
theorem Topo.ready {D : List Nat} (h : Topo ops D) {listed : Array Bool} (hs : listed.size = ops.size) (hlt : ∀ j ∈ D, j < ops.size) (hj : ∃ j ∈ D, listed.getD j false = false) : ∃ i ∈ D, i ∈ Region.ready .any ops listed := by
  induction D with
  | nil => obtain ⟨j, hj, _⟩ := hj; cases hj
  | cons i D ih =>
    by_cases hd : ∃ j ∈ D, listed.getD j false = false
    · obtain ⟨x, hx, hr⟩ := ih h.2 (fun j hj => hlt j (List.mem_cons_of_mem _ hj)) hd
      exact ⟨x, List.mem_cons_of_mem _ hx, hr⟩
    · have hall : ∀ j ∈ D, listed.getD j false = true := fun j hj => by
        cases hb : listed.getD j false
        · exact absurd ⟨j, hj, hb⟩ hd
        · rfl
      have hi : listed.getD i false = false := by
        obtain ⟨j, hj, hb⟩ := hj
        rcases List.mem_cons.1 hj with rfl | hj
        · exact hb
        · rw [hall j hj] at hb; cases hb
      have hil := hlt i (List.mem_cons_self ..)
      refine ⟨i, List.mem_cons_self .., mem_ready.2 ⟨hil, ?_, fun d hd => hall d (h.1 d hd)⟩⟩
      rw [getD_lt (by omega)]; exact hi

/-- It comes to the same value in every world of which Γ is known, and leaves the world alone. -/
def Stable (P : Program) (n : Nat) (W0 : World) (ops : Array Oper) (e : Env) (Γ : List Asn) (j : Nat) : Prop :=
  ∃ o v t, ops[j]? = some o ∧ notSel o.op = true ∧ o.op.operands.toList.all (knows e) = true ∧ GuardIs ops e o.guard t ∧ below n o.dst = true ∧ (∀ d, o.dst = some d → lk e d = some v) ∧
    (t = true → ∀ w, Sat W0 Γ w → (execOp (ev e) (bare o.op o.type)).run P w = .ok (.value v) w) ∧ (t = false → v = undef)
/-- The same, whatever is known of the world; it may lay blocks of its own. -/
def StableP (P : Program) (n : Nat) (W0 : World) (ops : Array Oper) (e : Env) (j : Nat) : Prop :=
  ∃ o v t, ops[j]? = some o ∧ notSel o.op = true ∧ o.op.operands.toList.all (knows e) = true ∧ GuardIs ops e o.guard t ∧ below n o.dst = true ∧ (∀ d, o.dst = some d → lk e d = some v) ∧
    (t = true → ∀ Γ, StepTo P W0 Γ e o.op o.type (Is v Γ)) ∧ (t = false → v = undef)
/-- What both have in common. -/
def Stable0 (P : Program) (n : Nat) (W0 : World) (ops : Array Oper) (e : Env) (Γ : List Asn) (j : Nat) : Prop :=
  ∃ o v t, ops[j]? = some o ∧ notSel o.op = true ∧ o.op.operands.toList.all (knows e) = true ∧ GuardIs ops e o.guard t ∧ below n o.dst = true ∧ (∀ d, o.dst = some d → lk e d = some v) ∧
    (t = true → StepTo P W0 Γ e o.op o.type (Is v Γ)) ∧ (t = false → v = undef)
theorem StableP.stable {P : Program} {n : Nat} {W0 : World} {e : Env} {Γ : List Asn} {j : Nat} (h : StableP P n W0 ops e j) : Stable0 P n W0 ops e Γ j :=
  let ⟨o, v, t, h1, h2, h3, h4, h5, h6, h7, h8⟩ := h; ⟨o, v, t, h1, h2, h3, h4, h5, h6, fun ht => h7 ht Γ, h8⟩
theorem Stable.stable {P : Program} {n : Nat} {W0 : World} {e : Env} {Γ : List Asn} {j : Nat} (h : Stable P n W0 ops e Γ j) : Stable0 P n W0 ops e Γ j :=
  let ⟨o, v, t, h1, h2, h3, h4, h5, h6, h7, h8⟩ := h; ⟨o, v, t, h1, h2, h3, h4, h5, h6, fun ht => StepTo.val fun w hw => ⟨v, w, Γ, h7 ht w hw, ⟨rfl, rfl⟩, hw⟩, h8⟩

theorem lk_put {e : Env} {dst : Option Tmp} {v : Value} {t : Nat} (h : dst ≠ some t) : lk (putE e dst v) t = lk e t := by
  cases dst with
  | none => rfl
  | some d => rw [putE, lk_cons, if_neg (fun e1 => h (by rw [e1]))]
theorem looks_operand {o : Oper} {t : Nat} (h : Operand.tmp t ∈ o.op.operands) : t ∈ o.looksAt ops :=
  List.mem_append_left _ (List.mem_filterMap.2 ⟨.tmp t, by simpa using h, rfl⟩)
theorem looks_guard {o : Oper} {g : Nat} {b : Bool} {d : Nat} (hg : o.guard = some (g, b)) (hd : (ops[g]?).bind (·.dst) = some d) : d ∈ o.looksAt ops := by
  refine List.mem_append_right _ ?_
  simp [hg, hd]
theorem knows_put {e : Env} {dst : Option Tmp} {v : Value} {x : Operand} (h : ∀ t, x = .tmp t → dst ≠ some t) : knows (putE e dst v) x = knows e x := by
  cases x with
  | tmp t => simp only [knows, lk_put (h t rfl)]
  | _ => rfl
theorem ev_put {e : Env} {dst : Option Tmp} {v : Value} {x : Operand} (h : ∀ t, x = .tmp t → dst ≠ some t) : ev (putE e dst v) x = ev e x := by
  cases x with
  | tmp t => simp only [ev, lk_put (h t rfl)]
  | _ => rfl
theorem GuardIs.put {e : Env} {dst : Option Tmp} {v : Value} {o : Oper} {t : Bool} (h : GuardIs ops e o.guard t) (hd : ∀ d, dst = some d → d ∉ o.looksAt ops) : GuardIs ops (putE e dst v) o.guard t := by
  unfold GuardIs at *
  split
  · simp_all
  · rename_i j want hg
    rw [hg] at h
    obtain ⟨d, b, h1, h2, h3⟩ := h
    refine ⟨d, b, h1, ?_, h3⟩
    rw [lk_put (fun e1 => hd d e1 (looks_guard hg h1))]
    exact h2
theorem exec_put {e : Env} {dst : Option Tmp} {v : Value} {o : Oper} (hs : notSel o.op = true) (hd : ∀ d, dst = some d → d ∉ o.looksAt ops) : execOp (ev (putE e dst v)) (bare o.op o.type) = execOp (ev e) (bare o.op o.type) :=
  execOp_congr _ (fun cs b h => by simp only [bare] at h; rw [h] at hs; cases hs) fun x hx => ev_put fun t ht e1 => hd t e1 (looks_operand (by subst ht; exact hx))
theorem all_put {e : Env} {dst : Option Tmp} {v : Value} {o : Oper} (h : o.op.operands.toList.all (knows e) = true) (hd : ∀ d, dst = some d → d ∉ o.looksAt ops) : o.op.operands.toList.all (knows (putE e dst v)) = true := by
  rw [List.all_eq_true] at *
  intro x hx
  rw [knows_put fun t ht e1 => hd t e1 (looks_operand (by subst ht; simpa using hx))]
  exact h x hx

theorem Stable.put {P : Program} {n : Nat} {W0 : World} {e : Env} {Γ : List Asn} {j : Nat} (h : Stable P n W0 ops e Γ j) {dst : Option Tmp} {v : Value}
    (hd : ∀ d, dst = some d → d ∉ looksOf ops j ∧ dstOf ops j ≠ some d) : Stable P n W0 ops (putE e dst v) Γ j := by
  obtain ⟨o, u, t, h1, h2, h3, h4, h5, h6, h7, h8⟩ := h
  have hl : ∀ d, dst = some d → d ∉ o.looksAt ops := fun d e1 => by have := (hd d e1).1; simpa [looksOf, h1] using this
  refine ⟨o, u, t, h1, h2, all_put h3 hl, h4.put hl, h5, ?_, ?_, h8⟩
  · intro d e1
    rw [lk_put (fun e2 => (hd d e2).2 (by simp [dstOf, h1, e1]))]
    exact h6 d e1
  · rw [exec_put h2 hl]; exact h7
theorem StableP.put {P : Program} {n : Nat} {W0 : World} {e : Env} {j : Nat} (h : StableP P n W0 ops e j) {dst : Option Tmp} {v : Value}
    (hd : ∀ d, dst = some d → d ∉ looksOf ops j ∧ dstOf ops j ≠ some d) : StableP P n W0 ops (putE e dst v) j := by
  obtain ⟨o, u, t, h1, h2, h3, h4, h5, h6, h7, h8⟩ := h
  have hl : ∀ d, dst = some d → d ∉ o.looksAt ops := fun d e1 => by have := (hd d e1).1; simpa [looksOf, h1] using this
  refine ⟨o, u, t, h1, h2, all_put h3 hl, h4.put hl, h5, ?_, ?_, h8⟩
  · intro d e1
    rw [lk_put (fun e2 => (hd d e2).2 (by simp [dstOf, h1, e1]))]
    exact h6 d e1
  · intro ht Γ w hw o' a K Q k
    rw [exec_put h2 hl]; exact h7 ht Γ w hw o' a K Q k

/-- The slots that it looks at and that are still to come are its predecessors'. -/
def Names (ops : Array Oper) (Pn : List Nat) : Prop := ∀ j ∈ Pn, ∀ j' ∈ Pn, ∀ t ∈ looksOf ops j, dstOf ops j' = some t → j' ∈ depsOf ops j

theorem DInv.evals {n : Nat} {D Pn : List Nat} {e : Env} {listed : Array Bool} {a : Act} (h : DInv ops n D Pn e listed a) {x : Operand} (hk : knows e x = true)
    (hx : ∀ t, x = .tmp t → ∀ j ∈ Pn, listed.getD j false = false → dstOf ops j ≠ some t) : a.eval x = ev e x := by
  cases x with
  | tmp t =>
    cases hl : lk e t with
    | none => simp [knows, hl] at hk
    | some v =>
      have := h.get t v hl (hx t rfl)
      simp [Act.eval, ev, hl, this]
  | _ => rfl
theorem DInv.exec {n : Nat} {D Pn : List Nat} {e : Env} {listed : Array Bool} {a : Act} (h : DInv ops n D Pn e listed a) {o : Oper} (hs : notSel o.op = true) (hk : o.op.operands.toList.all (knows e) = true)
    (hx : ∀ t ∈ o.looksAt ops, ∀ j ∈ Pn, listed.getD j false = false → dstOf ops j ≠ some t) : execOp a.eval o = execOp (ev e) (bare o.op o.type) := by
  rw [← execOp_bare]
  rw [List.all_eq_true] at hk
  refine execOp_congr o (fun cs b h => by rw [h] at hs; cases hs) fun x hm => h.evals (hk x (by simpa using hm)) fun t ht => hx t (looks_operand (by subst ht; exact hm))
theorem DInv.wanted {n : Nat} {D Pn : List Nat} {e : Env} {listed : Array Bool} {a : Act} (h : DInv ops n D Pn e listed a) {o : Oper} {t : Bool} (hg : GuardIs ops e o.guard t)
    (hx : ∀ t ∈ o.looksAt ops, ∀ j ∈ Pn, listed.getD j false = false → dstOf ops j ≠ some t) : Region.wanted o (yielded ops a.tmps) = t := by
  unfold Region.wanted
  unfold GuardIs at hg
  split
  · simp_all
  · rename_i j want hgd
    rw [hgd] at hg
    obtain ⟨d, b, hd, hl, ht⟩ := hg
    have := h.get _ _ hl (hx d (looks_guard hgd hd))
    simp only [yielded, hd, Option.bind_some, this]
    subst ht
    cases b <;> first | rfl | (rename_i b; cases b <;> cases want <;> rfl)

variable {P : Program} {n : Nat} {W0 : World} {Q : Exit → Act → World → Prop}

/-- One of the promised ones comes. -/
theorem DInv.pending {D Pn : List Nat} {e : Env} {Γ : List Asn} {listed : Array Bool} {a : Act} {w : World} {i : Nat} {K : Act → World → Prop} (h : DInv ops n D Pn e listed a) (hn : Names ops Pn) (hst : Stable0 P n W0 ops e Γ i)
    (hw : Sat W0 Γ w) (hr : i ∈ Region.ready .any ops listed) (hD : i ∈ D) (k : ∀ a' w', DInv ops n D Pn e (listed.setIfInBounds i true) a' → Sat W0 Γ w' → K a' w') : wpOp P ops Q i K a w := by
  obtain ⟨r1, r2, r3⟩ := mem_ready.1 hr
  have hsz := h.size
  have hli : listed.getD i false = false := by rw [← getD_lt (by omega)]; exact r2
  have hiP : i ∈ Pn := Decidable.byContradiction fun hc => by rw [h.l2 i hD hc] at hli; cases hli
  obtain ⟨o, v, t, h1, h2, h3, h4, h5, h6, h7, h8⟩ := hst
  have hx : ∀ t ∈ o.looksAt ops, ∀ j ∈ Pn, listed.getD j false = false → dstOf ops j ≠ some t := by
    intro t ht j hj hl hd
    have := hn i hiP j hj t (by simpa [looksOf, h1] using ht) hd
    rw [r3 j this] at hl; cases hl
  have hput : ∀ w', Sat W0 Γ w' → K (a.put o.dst v) w' := by
    intro w' hw'
    refine k _ w' ⟨by simp [hsz], ?_, ?_, h.dlt, ?_, ?_, ?_, ?_⟩ hw'
    · intro j hj
      rw [getD_set (by omega)] at hj
      by_cases e1 : i = j
      · subst e1; exact hD
      · rw [if_neg e1] at hj; exact h.l1 j hj
    · intro j hj hp
      rw [getD_set (by omega)]
      by_cases e1 : i = j
      · subst e1; simp
      · rw [if_neg e1]; exact h.l2 j hj hp
    · cases o.dst <;> simp [Act.put, h.tmps]
    · cases o.dst <;> simp [Act.put, h.defers]
    · intro s u hl hp
      cases hd : o.dst with
      | none =>
        refine h.get s u hl fun j hj hb => ?_
        by_cases e1 : i = j
        · subst e1; simp [dstOf, h1, hd]
        · exact hp j hj (by rw [getD_set (by omega), if_neg e1]; exact hb)
      | some d =>
        by_cases e2 : d = s
        · subst e2
          have := h6 d hd
          rw [hl] at this
          obtain rfl := Option.some.inj this
          have hb : d < n := by rw [hd] at h5; simpa [below] using h5
          have : d < a.tmps.size := by rw [h.tmps]; exact hb
          simp [Act.put, this]
        · have := h.get s u hl fun j hj hb => by
            by_cases e1 : i = j
            · subst e1; simp [dstOf, h1, hd, e2]
            · exact hp j hj (by rw [getD_set (by omega), if_neg e1]; exact hb)
          simp [Act.put, Array.getElem?_setIfInBounds_ne e2, this]
    · intro j hj d hd
      rw [getD_set (by omega)] at hj ⊢
      by_cases e2 : i = d
      · simp [e2]
      · rw [if_neg e2]
        by_cases e1 : i = j
        · subst e1; exact r3 d hd
        · rw [if_neg e1] at hj; exact h.down j hj d hd
  unfold wpOp
  simp only [h1]
  have hwt := h.wanted h4 hx
  cases t with
  | true =>
    rw [hwt, if_pos rfl]
    left
    unfold Oper.wp
    rw [h.exec h2 h3 hx]
    exact h7 rfl w hw o a K Q fun v' Γ' w' ⟨e1, e2⟩ hs' => by subst e1; subst e2; exact hput w' hs'
  | false =>
    rw [hwt, if_neg (by simp)]
    rw [← h8 rfl]; exact hput w hw

/-- The region from a place on: D is done, or (Pp, Pl) promised. -/
def Draw (P : Program) (n : Nat) (W0 : World) (ops : Array Oper) (Q : Exit → Act → World → Prop) (D Pp Pl : List Nat) (e : Env) (Γ : List Asn) : Prop :=
  Topo ops D → Names ops (Pp ++ Pl) → (∀ j ∈ Pp, StableP P n W0 ops e j) → (∀ j ∈ Pl, Stable P n W0 ops e Γ j) →
    ∀ fuel listed a w, DInv ops n D (Pp ++ Pl) e listed a → Left ops listed fuel → Sat W0 Γ w → wpAny P .any ops Q fuel listed a w

theorem at_region_draw {c : Code} {id : Nat} {e : Env} {Γ : List Asn} (hm : P.follows .mixedOrders = true) (h : c = .region id (opsOf c) true) (k : Draw P n W0 (opsOf c) Q [] [] [] e Γ) : At n W0 e Γ (c.wp P Q) := by
  intro a w ha hw
  generalize opsOf c = ops at *
  subst h
  have hf : ∀ j, (Array.replicate ops.size false).getD j false = false := fun j => by
    simp only [Array.getD_eq_getD_getElem?, Array.getElem?_replicate]; split <;> rfl
  refine wp_region_any hm (k trivial (fun j hj => (by cases hj)) (fun j hj => (by cases hj)) (fun j hj => (by cases hj)) _ _ a _ ⟨by simp, ?_, fun j hj => (by cases hj), fun j hj => (by cases hj), ha.size, ha.defers, fun t v hl _ => ha.get t v hl, ?_⟩ ⟨List.range ops.size, List.nodup_range, fun j => ?_, by simp⟩ hw.drew)
  · intro j hj; rw [hf] at hj; cases hj
  · intro j hj; rw [hf] at hj; cases hj
  · rw [List.mem_range, hf]; simp

theorem draw_end {D Pp Pl : List Nat} {e : Env} {Γ : List Asn} (hall : (List.range ops.size).all (has D) = true) (k : At n W0 e Γ (Q .normal)) : Draw P n W0 ops Q D Pp Pl e Γ := by
  intro htp hnm hpp hpl
  have hD : ∀ j, j < ops.size → j ∈ D := fun j hj => by
    rw [List.all_eq_true] at hall
    exact has_iff.1 (hall j (List.mem_range.2 hj))
  have hst : ∀ j ∈ Pp ++ Pl, Stable0 P n W0 ops e Γ j := fun j hj => (List.mem_append.1 hj).elim (fun h => (hpp j h).stable) fun h => (hpl j h).stable
  have hend : ∀ listed a w, DInv ops n D (Pp ++ Pl) e listed a → Sat W0 Γ w → (∀ j, j < ops.size → listed.getD j false = true) → Q .normal a w := fun listed a w hi hw hl =>
    k a w ⟨hi.tmps, hi.defers, fun t v ht => hi.get t v ht fun j hj hb => by
      have hst := hst j hj
      obtain ⟨o, v, t, h1, _⟩ := hst
      have : j < ops.size := by
        rcases Nat.lt_or_ge j ops.size with h | h
        · exact h
        · simp [Array.getElem?_eq_none h] at h1
      rw [hl j this] at hb; cases hb⟩ hw
  intro fuel
  induction fuel with
  | zero =>
    intro listed a w hi hl hw
    have hall := fun j hj => hl.zero (j := j) hj
    refine ⟨?_, hend listed a w hi hw hall⟩
    refine List.eq_nil_iff_forall_not_mem.2 fun i hr => ?_
    obtain ⟨r1, r2, r3⟩ := mem_ready.1 hr
    rw [getD_lt (by rw [hi.size]; exact r1), hall i r1] at r2; cases r2
  | succ fuel ih =>
    intro listed a w hi hl hw
    refine ⟨fun hnil => hend listed a w hi hw fun j hj => ?_, fun i hr => ?_⟩
    · cases hb : listed.getD j false with
      | true => rfl
      | false =>
        obtain ⟨x, _, hx⟩ := htp.ready hi.size hi.dlt ⟨j, hD j hj, hb⟩
        rw [hnil] at hx; cases hx
    · obtain ⟨r1, r2, r3⟩ := mem_ready.1 hr
      have hli : listed.getD i false = false := by rw [← getD_lt (by rw [hi.size]; exact r1)]; exact r2
      have hiP : i ∈ Pp ++ Pl := Decidable.byContradiction fun hc => by rw [hi.l2 i (hD i r1) hc] at hli; cases hli
      exact hi.pending hnm (hst i hiP) hw hr (hD i r1) fun a' w' hi' hw' => ih _ a' w' hi' (hl.step hi.size r1 hli) hw'

/-- What an operation must not turn of what is promised. -/
def freshFor (ops : Array Oper) (dst : Option Tmp) (l : List Nat) : Bool :=
  match dst with
  | none => true
  | some d => l.all fun j => !has (looksOf ops j) d && !isDst ops j d
theorem freshFor_spec {dst : Option Tmp} {l : List Nat} (h : freshFor ops dst l = true) : ∀ j ∈ l, ∀ d, dst = some d → d ∉ looksOf ops j ∧ dstOf ops j ≠ some d := by
  rintro j hj d rfl
  simp only [freshFor, List.all_eq_true, Bool.and_eq_true, Bool.not_eq_true'] at h
  obtain ⟨h1, h2⟩ := h j hj
  exact ⟨fun hm => (by rw [has_iff.2 hm] at h1; cases h1), fun hm => (by rw [isDst_iff.2 hm] at h2; cases h2)⟩
/-- The slots that it looks at are not still to come, but for C's. -/
def looksOk (ops : Array Oper) (i : Nat) (l C : List Nat) : Bool := (looksOf ops i).all fun t => l.all fun j => !isDst ops j t || has C j
theorem looksOk_spec {i : Nat} {l C : List Nat} (h : looksOk ops i l C = true) : ∀ j ∈ l, ∀ t ∈ looksOf ops i, dstOf ops j = some t → j ∈ C := by
  intro j hj t ht hd
  simp only [looksOk, List.all_eq_true] at h
  have := h t ht j hj
  rw [isDst_iff.2 hd] at this
  exact has_iff.1 (by simpa using this)
def subL (a b : List Nat) : Bool := a.all (has b)
theorem subL_spec {a b : List Nat} (h : subL a b = true) : ∀ x ∈ a, x ∈ b := fun x hx => by
  simp only [subL, List.all_eq_true] at h
  exact has_iff.1 (h x hx)

/-- All that a promise asks of the names, in one look. -/
def readOk (ops : Array Oper) (i : Nat) (dst : Option Tmp) (D Pp Pl : List Nat) : Bool :=
  !has D i && subL (depsOf ops i) D && looksOk ops i (Pp ++ Pl) (depsOf ops i) && freshFor ops dst (Pp ++ Pl) && (match dst with | some d => !has (looksOf ops i) d | none => true)

theorem draw_promise_inv {D Pn Pn' : List Nat} {e : Env} {listed : Array Bool} {a : Act} {i : Nat} {v : Value} (hi : DInv ops n D Pn e listed a) (hlt : i < ops.size) (hD : i ∉ D) (hP : ∀ j, j ∈ Pn' ↔ j = i ∨ j ∈ Pn) :
    DInv ops n (i :: D) Pn' (putE e (dstOf ops i) v) listed a := by
  have hli : listed.getD i false = false := by
    cases hb : listed.getD i false
    · rfl
    · exact absurd (hi.l1 i hb) hD
  refine ⟨hi.size, fun j hj => List.mem_cons_of_mem _ (hi.l1 j hj), ?_, ?_, hi.tmps, hi.defers, ?_, hi.down⟩
  · intro j hj hp
    rcases List.mem_cons.1 hj with rfl | hj
    · exact absurd ((hP j).2 (.inl rfl)) hp
    · exact hi.l2 j hj fun hm => hp ((hP j).2 (.inr hm))
  · intro j hj
    rcases List.mem_cons.1 hj with rfl | hj
    · exact hlt
    · exact hi.dlt j hj
  · intro t u ht hp
    have hne : dstOf ops i ≠ some t := hp i ((hP i).2 (.inl rfl)) hli
    rw [lk_put hne] at ht
    exact hi.get t u ht fun j hj => hp j ((hP j).2 (.inr hj))

theorem draw_read_gen {D Pp Pl Pp' Pl' : List Nat} {e : Env} {Γ : List Asn} {i : Nat} {dst : Option Tmp} {v : Value} {op : Op} {ty : TypeId} {g : Option (Nat × Bool)} (hk : key ops i = some (dst, op, ty, g))
    (hok : readOk ops i dst D Pp Pl = true) (hP : ∀ j, j ∈ Pp' ++ Pl' ↔ j = i ∨ j ∈ Pp ++ Pl)
    (hpp : (∀ j ∈ Pp, StableP P n W0 ops (putE e dst v) j) → (∀ j ∈ Pp', StableP P n W0 ops (putE e dst v) j)) (hpl : (∀ j ∈ Pl, Stable P n W0 ops (putE e dst v) Γ j) → (∀ j ∈ Pl', Stable P n W0 ops (putE e dst v) Γ j))
    (k : Draw P n W0 ops Q (i :: D) Pp' Pl' (putE e dst v) Γ) : Draw P n W0 ops Q D Pp Pl e Γ := by
  obtain ⟨o, ho, rfl, rfl, rfl, rfl⟩ := key_some hk
  have hdo : dstOf ops i = o.dst := by simp [dstOf, ho]
  simp only [readOk, Bool.and_eq_true] at hok
  obtain ⟨⟨⟨⟨q1, q2⟩, q3⟩, q4⟩, q5⟩ := hok
  have hD : i ∉ D := fun hm => by rw [has_iff.2 hm] at q1; cases q1
  have hlt : i < ops.size := by
    rcases Nat.lt_or_ge i ops.size with h | h
    · exact h
    · simp [Array.getElem?_eq_none h] at ho
  intro htp hnm h1 h2 fuel listed a w hi hl hw
  have hfr := freshFor_spec q4
  refine k ⟨subL_spec q2, htp⟩ ?_ (hpp fun j hj => (h1 j hj).put (hfr j (List.mem_append_left _ hj))) (hpl fun j hj => (h2 j hj).put (hfr j (List.mem_append_right _ hj))) fuel listed a w ?_ hl hw
  · intro j hj j' hj' t ht hd
    rcases (hP j).1 hj with rfl | hj
    · rcases (hP j').1 hj' with rfl | hj'
      · rw [hdo] at hd
        simp only [hd] at q5
        rw [has_iff.2 ht] at q5; cases q5
      · exact looksOk_spec q3 j' hj' t ht hd
    · rcases (hP j').1 hj' with rfl | hj'
      · rw [hdo] at hd
        exact absurd ht (hfr j hj t hd).1
      · exact hnm j hj j' hj' t ht hd
  · have := draw_promise_inv (v := v) hi hlt hD hP
    rwa [hdo] at this

theorem draw_quiet {D Pp Pl : List Nat} {e : Env} {Γ : List Asn} {i : Nat} {dst : Option Tmp} {op : Op} {ty : TypeId} {g : Option (Nat × Bool)} (v : Value) (hk : key ops i = some (dst, op, ty, g)) (hg : GuardIs ops e g true) (hs : notSel op = true)
    (hn : op.operands.toList.all (knows e) = true) (hd : below n dst = true) (hok : readOk ops i dst D Pp Pl = true) (hrun : ∀ Γ, StepTo P W0 Γ e op ty (Is v Γ))
    (k : Draw P n W0 ops Q (i :: D) (i :: Pp) Pl (putE e dst v) Γ) : Draw P n W0 ops Q D Pp Pl e Γ := by
  have hok' := hok
  simp only [readOk, Bool.and_eq_true] at hok'
  obtain ⟨⟨⟨⟨q1, q2⟩, q3⟩, q4⟩, q5⟩ := hok'
  refine draw_read_gen hk hok (by simp) (fun h j hj => ?_) (fun h => h) k
  rcases List.mem_cons.1 hj with rfl | hj
  · obtain ⟨o, ho, rfl, rfl, rfl, rfl⟩ := key_some hk
    have hself : ∀ d, o.dst = some d → d ∉ o.looksAt ops := fun d e1 hm => by
      simp only [e1, looksOf, ho] at q5
      rw [has_iff.2 hm] at q5; cases q5
    refine ⟨o, v, true, ho, hs, all_put hn hself, hg.put hself, hd, fun d e1 => by simp only [putE, e1, lk_cons, if_true], fun _ Γ w hw o' a K Q k => ?_, fun h => by cases h⟩
    rw [exec_put hs hself]; exact hrun Γ w hw o' a K Q k
  · exact h j hj
theorem draw_pure {D Pp Pl : List Nat} {e : Env} {Γ : List Asn} {i : Nat} {dst : Option Tmp} {op : Op} {ty : TypeId} {g : Option (Nat × Bool)} (v : Value) (hk : key ops i = some (dst, op, ty, g)) (hg : GuardIs ops e g true) (hs : notSel op = true)
    (hn : op.operands.toList.all (knows e) = true) (hd : below n dst = true) (hok : readOk ops i dst D Pp Pl = true) (hrun : ∀ w, (execOp (ev e) (bare op ty)).run P w = .ok (.value v) w)
    (k : Draw P n W0 ops Q (i :: D) (i :: Pp) Pl (putE e dst v) Γ) : Draw P n W0 ops Q D Pp Pl e Γ :=
  draw_quiet v hk hg hs hn hd hok (fun _ => StepTo.pure hrun) k
theorem draw_off {D Pp Pl : List Nat} {e : Env} {Γ : List Asn} {i : Nat} {dst : Option Tmp} {op : Op} {ty : TypeId} {g : Option (Nat × Bool)} (hk : key ops i = some (dst, op, ty, g)) (hg : GuardIs ops e g false) (hs : notSel op = true)
    (hn : op.operands.toList.all (knows e) = true) (hd : below n dst = true) (hok : readOk ops i dst D Pp Pl = true)
    (k : Draw P n W0 ops Q (i :: D) (i :: Pp) Pl (putE e dst undef) Γ) : Draw P n W0 ops Q D Pp Pl e Γ := by
  have hok' := hok
  simp only [readOk, Bool.and_eq_true] at hok'
  obtain ⟨⟨⟨⟨q1, q2⟩, q3⟩, q4⟩, q5⟩ := hok'
  refine draw_read_gen hk hok (by simp) (fun h j hj => ?_) (fun h => h) k
  rcases List.mem_cons.1 hj with rfl | hj
  · obtain ⟨o, ho, rfl, rfl, rfl, rfl⟩ := key_some hk
    have hself : ∀ d, o.dst = some d → d ∉ o.looksAt ops := fun d e1 hm => by
      simp only [e1, looksOf, ho] at q5
      rw [has_iff.2 hm] at q5; cases q5
    exact ⟨o, undef, false, ho, hs, all_put hn hself, hg.put hself, hd, fun d e1 => by simp only [putE, e1, lk_cons, if_true], fun h => (by cases h), fun _ => rfl⟩
  · exact h j hj
theorem draw_load {D Pp Pl : List Nat} {e : Env} {Γ : List Asn} {i : Nat} {dst : Option Tmp} {op : Op} {ty : TypeId} {g : Option (Nat × Bool)} (v : Value) (hk : key ops i = some (dst, op, ty, g)) (hg : GuardIs ops e g true) (hs : notSel op = true)
    (hn : op.operands.toList.all (knows e) = true) (hd : below n dst = true) (hok : readOk ops i dst D Pp Pl = true) (hrun : ∀ w, Sat W0 Γ w → (execOp (ev e) (bare op ty)).run P w = .ok (.value v) w)
    (k : Draw P n W0 ops Q (i :: D) Pp (i :: Pl) (putE e dst v) Γ) : Draw P n W0 ops Q D Pp Pl e Γ := by
  have hok' := hok
  simp only [readOk, Bool.and_eq_true] at hok'
  obtain ⟨⟨⟨⟨q1, q2⟩, q3⟩, q4⟩, q5⟩ := hok'
  refine draw_read_gen hk hok (fun j => by simp; constructor <;> rintro (h | h | h) <;> simp [h]) (fun h => h) (fun h j hj => ?_) k
  rcases List.mem_cons.1 hj with rfl | hj
  · obtain ⟨o, ho, rfl, rfl, rfl, rfl⟩ := key_some hk
    have hself : ∀ d, o.dst = some d → d ∉ o.looksAt ops := fun d e1 hm => by
      simp only [e1, looksOf, ho] at q5
      rw [has_iff.2 hm] at q5; cases q5
    refine ⟨o, v, true, ho, hs, all_put hn hself, hg.put hself, hd, fun d e1 => by simp only [putE, e1, lk_cons, if_true], fun _ w hw => ?_, fun h => by cases h⟩
    rw [exec_put hs hself]; exact hrun w hw
  · exact h j hj

/-- C: what has come for sure where those of 'seen' are next. -/
def chainB (ops : Array Oper) : List Nat → List Nat → Bool
  | _, [] => true
  | seen, c :: r => seen.any (fun s => has (depsOf ops s) c) && chainB ops (c :: seen) r
theorem chainB_spec {C : List Nat} {listed : Array Bool} (hdown : ∀ j, listed.getD j false = true → ∀ d ∈ depsOf ops j, listed.getD d false = true) :
    ∀ seen, (∀ s ∈ seen, ∀ d ∈ depsOf ops s, listed.getD d false = true) → chainB ops seen C = true → ∀ c ∈ C, listed.getD c false = true := by
  induction C with
  | nil => intro _ _ _ c hc; cases hc
  | cons x r ih =>
    intro seen hs hb c hc
    simp only [chainB, Bool.and_eq_true, List.any_eq_true] at hb
    obtain ⟨⟨s, hs1, hs2⟩, hb2⟩ := hb
    have hx : listed.getD x false = true := hs s hs1 x (has_iff.1 hs2)
    rcases List.mem_cons.1 hc with rfl | hc
    · exact hx
    · refine ih (x :: seen) ?_ hb2 c hc
      intro s' hs' d hd
      rcases List.mem_cons.1 hs' with rfl | hs'
      · exact hdown _ hx d hd
      · exact hs s' hs' d hd
/-- No other one than those of l can be next. -/
def aloneL (ops : Array Oper) (l D : List Nat) : Bool := (List.range ops.size).all fun j => has l j || has D j || (depsOf ops j).any fun d => !has D d
def turnOk (ops : Array Oper) (i : Nat) (dst : Option Tmp) (D C Pp Pl Pp' Pl' : List Nat) : Bool :=
  !has D i && subL (depsOf ops i) D && chainB ops [i] C && looksOk ops i (Pp ++ Pl) C && subL Pp' Pp && subL Pl' Pl && (Pp.all fun j => has C j || has Pp' j) && (Pl.all fun j => has C j || has Pl' j) && freshFor ops dst (Pp' ++ Pl')
def writeOk (ops : Array Oper) (i : Nat) (dst : Option Tmp) (D C Pp Pl Pp' Pl' : List Nat) : Bool := aloneL ops [i] D && turnOk ops i dst D C Pp Pl Pp' Pl'
/-- It may be the turn of i, and all is well where it is. -/
def Turn (P : Program) (n : Nat) (W0 : World) (ops : Array Oper) (Q : Exit → Act → World → Prop) (D Pp Pl : List Nat) (e : Env) (Γ : List Asn) (i : Nat) : Prop :=
  i ∉ D ∧ (∀ d ∈ depsOf ops i, d ∈ D) ∧ i < ops.size ∧
  (Topo ops D → Names ops (Pp ++ Pl) → (∀ j ∈ Pp, StableP P n W0 ops e j) → (∀ j ∈ Pl, Stable P n W0 ops e Γ j) →
    ∀ fuel listed a w, DInv ops n D (Pp ++ Pl) e listed a → Left ops listed (fuel + 1) → Sat W0 Γ w → i ∈ Region.ready .any ops listed → wpOp P ops Q i (wpAny P .any ops Q fuel (listed.setIfInBounds i true)) a w)
theorem draw_turns {D Pp Pl : List Nat} {e : Env} {Γ : List Asn} (i : Nat) (l : List Nat) (hal : aloneL ops (i :: l) D = true) (h : ∀ j ∈ i :: l, Turn P n W0 ops Q D Pp Pl e Γ j) : Draw P n W0 ops Q D Pp Pl e Γ := by
  have huniq : ∀ j, j < ops.size → (∀ d ∈ depsOf ops j, d ∈ D) → j ∉ D → j ∈ i :: l := by
    intro j hj hdj hnd
    simp only [aloneL, List.all_eq_true, List.mem_range, Bool.or_eq_true, List.any_eq_true] at hal
    rcases hal j hj with (h | h) | ⟨d, hd1, hd2⟩
    · exact has_iff.1 h
    · exact absurd (has_iff.1 h) hnd
    · rw [has_iff.2 (hdj d hd1)] at hd2; cases hd2
  intro htp hnm h1 h2 fuel
  have hst : ∀ j ∈ Pp ++ Pl, Stable0 P n W0 ops e Γ j := fun j hj => (List.mem_append.1 hj).elim (fun h => (h1 j h).stable) fun h => (h2 j h).stable
  obtain ⟨hD, hdep, hlt, _⟩ := h i (List.mem_cons_self ..)
  induction fuel with
  | zero =>
    intro listed a w hi hl hw
    exact absurd (hi.l1 i (hl.zero hlt)) hD
  | succ fuel ih =>
    intro listed a w hi hl hw
    have hli : listed.getD i false = false := by
      cases hb : listed.getD i false
      · rfl
      · exact absurd (hi.l1 i hb) hD
    refine ⟨fun hnil => ?_, fun r hr => ?_⟩
    · exfalso
      by_cases hu : ∃ j ∈ D, listed.getD j false = false
      · obtain ⟨x, _, hx⟩ := htp.ready hi.size hi.dlt hu
        rw [hnil] at hx; cases hx
      · have : i ∈ Region.ready .any ops listed := mem_ready.2 ⟨hlt, by rw [getD_lt (by rw [hi.size]; exact hlt)]; exact hli, fun d hd => by
          cases hb : listed.getD d false
          · exact absurd ⟨d, hdep d hd, hb⟩ hu
          · rfl⟩
        rw [hnil] at this; cases this
    · obtain ⟨r1, r2, r3⟩ := mem_ready.1 hr
      have hlr : listed.getD r false = false := by rw [← getD_lt (by rw [hi.size]; exact r1)]; exact r2
      by_cases hrD : r ∈ D
      · have hiP : r ∈ Pp ++ Pl := Decidable.byContradiction fun hc => by rw [hi.l2 r hrD hc] at hlr; cases hlr
        exact hi.pending hnm (hst r hiP) hw hr hrD fun a' w' hi' hw' => ih _ a' w' hi' (hl.step hi.size r1 hlr) hw'
      · obtain ⟨_, _, _, k⟩ := h r (huniq r r1 (fun d hd => hi.l1 d (r3 d hd)) hrD)
        exact k htp hnm h1 h2 fuel listed a w hi hl hw hr
theorem turn_write {D C Pp Pl Pp' Pl' : List Nat} {e : Env} {Γ : List Asn} {r : Nat} {dst : Option Tmp} {op : Op} {ty : TypeId} {g : Option (Nat × Bool)} {Post : Value → List Asn → Prop} (hk : key ops r = some (dst, op, ty, g)) (hg : GuardIs ops e g true)
    (hs : notSel op = true) (hn : op.operands.toList.all (knows e) = true) (hd : below n dst = true) (hok : turnOk ops r dst D C Pp Pl Pp' Pl' = true) (st : StepTo P W0 Γ e op ty Post)
    (k : ∀ v Γ', Post v Γ' → (∀ j ∈ Pl', Stable P n W0 ops (putE e dst v) Γ' j) ∧ Draw P n W0 ops Q (r :: D) Pp' Pl' (putE e dst v) Γ') : Turn P n W0 ops Q D Pp Pl e Γ r := by
  obtain ⟨o, ho, rfl, rfl, rfl, rfl⟩ := key_some hk
  have hdo : dstOf ops r = o.dst := by simp [dstOf, ho]
  have hlo : looksOf ops r = o.looksAt ops := by simp [looksOf, ho]
  simp only [turnOk, Bool.and_eq_true] at hok
  obtain ⟨⟨⟨⟨⟨⟨⟨⟨q1, q2⟩, q4⟩, q5⟩, q6⟩, q7⟩, q8⟩, q9⟩, q10⟩ := hok
  have hD : r ∉ D := fun hm => by rw [has_iff.2 hm] at q1; cases q1
  have hlt : r < ops.size := by
    rcases Nat.lt_or_ge r ops.size with h | h
    · exact h
    · simp [Array.getElem?_eq_none h] at ho
  have hdep := subL_spec q2
  have hdropP : ∀ j ∈ Pp ++ Pl, j ∈ C ∨ j ∈ Pp' ++ Pl' := by
    intro j hj
    simp only [List.all_eq_true, Bool.or_eq_true] at q8 q9
    rcases List.mem_append.1 hj with hj | hj
    · exact (q8 j hj).imp has_iff.1 fun h => List.mem_append_left _ (has_iff.1 h)
    · exact (q9 j hj).imp has_iff.1 fun h => List.mem_append_right _ (has_iff.1 h)
  have hsub : ∀ j ∈ Pp' ++ Pl', j ∈ Pp ++ Pl := by
    intro j hj
    rcases List.mem_append.1 hj with hj | hj
    · exact List.mem_append_left _ (subL_spec q6 j hj)
    · exact List.mem_append_right _ (subL_spec q7 j hj)
  have hfr := freshFor_spec q10
  refine ⟨hD, hdep, hlt, ?_⟩
  intro htp hnm h1 h2 fuel listed a w hi hl hw hr
  obtain ⟨r1, r2, r3⟩ := mem_ready.1 hr
  have hli : listed.getD r false = false := by rw [← getD_lt (by rw [hi.size]; exact r1)]; exact r2
  have hC : ∀ c ∈ C, listed.getD c false = true := chainB_spec hi.down [r] (fun s hs d hd => by
    rcases List.mem_cons.1 hs with rfl | hs
    · exact r3 d hd
    · cases hs) q4
  have hx : ∀ t ∈ o.looksAt ops, ∀ j ∈ Pp ++ Pl, listed.getD j false = false → dstOf ops j ≠ some t := by
    intro t ht j hj hl hd
    have := looksOk_spec q5 j hj t (by rw [hlo]; exact ht) hd
    rw [hC j this] at hl; cases hl
  unfold wpOp
  simp only [ho]
  rw [hi.wanted hg hx, if_pos rfl]
  left
  unfold Oper.wp
  rw [hi.exec hs hn hx]
  refine st w hw o a _ _ fun v Γ' w' hp hs' => ?_
  obtain ⟨k1, k2⟩ := k v Γ' hp
  have hsz := hi.size
  refine k2 ⟨hdep, htp⟩ (fun j hj j' hj' => hnm j (hsub j hj) j' (hsub j' hj')) (fun j hj => (h1 j (subL_spec q6 j hj)).put (hfr j (List.mem_append_left _ hj))) k1 fuel _ _ w' ?_ (hl.step hi.size hlt hli) hs'
  refine ⟨by simp [hsz], ?_, ?_, ?_, ?_, ?_, ?_, ?_⟩
  · intro j hj
    rw [getD_set (by omega)] at hj
    by_cases e1 : r = j
    · subst e1; exact List.mem_cons_self ..
    · rw [if_neg e1] at hj; exact List.mem_cons_of_mem _ (hi.l1 j hj)
  · intro j hj hp
    rw [getD_set (by omega)]
    by_cases e1 : r = j
    · subst e1; simp
    · rw [if_neg e1]
      rcases List.mem_cons.1 hj with rfl | hj
      · exact absurd rfl e1
      · by_cases hm : j ∈ Pp ++ Pl
        · exact (hdropP j hm).elim (hC j) fun h => absurd h hp
        · exact hi.l2 j hj hm
  · intro j hj
    rcases List.mem_cons.1 hj with rfl | hj
    · exact hlt
    · exact hi.dlt j hj
  · cases o.dst <;> simp [Act.put, hi.tmps]
  · cases o.dst <;> simp [Act.put, hi.defers]
  · intro t u ht hp
    cases hdd : o.dst with
    | none =>
      rw [hdd] at ht
      refine hi.get t u ht fun j hj hb => ?_
      rcases hdropP j hj with hc | hc
      · rw [hC j hc] at hb; cases hb
      · by_cases e1 : r = j
        · subst e1; rw [hdo, hdd]; simp
        · refine hp j hc ?_
          rw [getD_set (by omega), if_neg e1]; exact hb
    | some d =>
      rw [hdd] at ht
      by_cases e2 : d = t
      · subst e2
        simp only [putE, lk_cons, if_true] at ht
        obtain rfl := Option.some.inj ht
        have hb : d < n := by rw [hdd] at hd; simpa [below] using hd
        have : d < a.tmps.size := by rw [hi.tmps]; exact hb
        simp [Act.put, this]
      · simp only [putE, lk_cons, if_neg e2] at ht
        have := hi.get t u ht fun j hj hb => by
          rcases hdropP j hj with hc | hc
          · rw [hC j hc] at hb; cases hb
          · by_cases e1 : r = j
            · subst e1; rw [hdo, hdd]; intro e3; exact e2 (Option.some.inj e3)
            · refine hp j hc ?_
              rw [getD_set (by omega), if_neg e1]; exact hb
        simp [Act.put, Array.getElem?_setIfInBounds_ne e2, this]
  · intro j hj d hd'
    rw [getD_set (by omega)] at hj ⊢
    by_cases e2 : r = d
    · simp [e2]
    · rw [if_neg e2]
      by_cases e1 : r = j
      · subst e1; exact r3 d hd'
      · rw [if_neg e1] at hj; exact hi.down j hj d hd'
theorem draw_write {D C Pp Pl Pp' Pl' : List Nat} {e : Env} {Γ : List Asn} {i : Nat} {dst : Option Tmp} {op : Op} {ty : TypeId} {g : Option (Nat × Bool)} {Post : Value → List Asn → Prop} (hk : key ops i = some (dst, op, ty, g)) (hg : GuardIs ops e g true)
    (hs : notSel op = true) (hn : op.operands.toList.all (knows e) = true) (hd : below n dst = true) (hok : writeOk ops i dst D C Pp Pl Pp' Pl' = true) (st : StepTo P W0 Γ e op ty Post)
    (k : ∀ v Γ', Post v Γ' → (∀ j ∈ Pl', Stable P n W0 ops (putE e dst v) Γ' j) ∧ Draw P n W0 ops Q (i :: D) Pp' Pl' (putE e dst v) Γ') : Draw P n W0 ops Q D Pp Pl e Γ := by
  simp only [writeOk, Bool.and_eq_true] at hok
  refine draw_turns i [] hok.1 fun j hj => ?_
  rcases List.mem_cons.1 hj with rfl | hj
  · exact turn_write hk hg hs hn hd hok.2 st k
  · cases hj
end draw
end Go.Proofs.Ytcigheahollkcaa
