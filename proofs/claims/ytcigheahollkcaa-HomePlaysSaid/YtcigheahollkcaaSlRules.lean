/- The rules that a walk goes by, an operation a rule: what touches no memory, loads, stores, new blocks, calls; in a region of either kind.
   Conditions: none; nothing here speaks of one program. -/
import Derived.Test.YtcigheahollkcaaSlDraw
import Derived.LoopN
namespace Go.Proofs.Ytcigheahollkcaa
open Go Go.RowKit

def operAt (ops : Array Oper) (i : Nat) : Oper := (ops[i]?).getD default
def eqDst : Option Tmp → Option Tmp → Bool
  | some a, some b => Nat.beq a b
  | none, none => true
  | _, _ => false
theorem eqDst_eq {a b : Option Tmp} (h : eqDst a b = true) : a = b := by
  cases a <;> cases b <;> simp_all [eqDst]
/-- The operation is there, its operands are known, its slot is as said. -/
def fine (n : Nat) (ops : Array Oper) (e : Env) (i : Nat) (dst : Option Tmp) : Bool :=
  match ops[i]? with
  | some o => notSel o.op && o.op.operands.toList.all (knows e) && below n dst && eqDst o.dst dst
  | none => false
/-- Its guard's answer. -/
def gval (ops : Array Oper) (e : Env) (i : Nat) : Option Bool :=
  match (operAt ops i).guard with
  | none => some true
  | some (j, want) =>
    match (ops[j]?).bind (·.dst) with
    | some d => match lk e d with
      | some v => some (gbit want v)
      | none => none
    | none => none
def bodyOf (f : Func) : Code := match f.body with | some c => c | none => .skip

section
variable {n : Nat} {ops : Array Oper} {e : Env} {i : Nat} {dst : Option Tmp}
theorem fine_key (h : fine n ops e i dst = true) : key ops i = some (dst, (operAt ops i).op, (operAt ops i).type, (operAt ops i).guard) ∧ notSel (operAt ops i).op = true ∧ (operAt ops i).op.operands.toList.all (knows e) = true ∧ below n dst = true := by
  unfold fine at h
  cases ho : ops[i]? with
  | none => simp [ho] at h
  | some o =>
    simp only [ho, Bool.and_eq_true] at h
    obtain ⟨⟨⟨h1, h2⟩, h3⟩, h4⟩ := h
    have h5 := eqDst_eq h4
    have h6 : operAt ops i = o := by simp [operAt, ho]
    refine ⟨?_, by rw [h6]; exact h1, by rw [h6]; exact h2, h3⟩
    simp [key, ho, h6, h5]
theorem gval_is {t : Bool} (h : gval ops e i = some t) : GuardIs ops e (operAt ops i).guard t := by
  unfold gval at h
  unfold GuardIs
  cases hg : (operAt ops i).guard with
  | none => simp [hg] at h; simp [h]
  | some x =>
    obtain ⟨j, want⟩ := x
    simp only [hg] at h
    simp only
    cases hd : (ops[j]?).bind (·.dst) with
    | none => simp [hd] at h
    | some d =>
      simp only [hd] at h
      cases hl : lk e d with
      | none => simp [hl] at h
      | some v =>
        simp only [hl, Option.some.injEq] at h
        exact ⟨d, v, rfl, hl, h⟩
end

section rules
variable {P : Program} {n : Nat} {W0 : World} {e : Env} {Γ Γ' : List Asn} {Q : Exit → Act → World → Prop} {ops : Array Oper} {k i : Nat}

/-! In a region in the text's order. -/
theorem s_pure (d : Nat) (v : Value) (hf : fine n ops e i (some d) = true) (hg : gval ops e i = some true) (hrun : ∀ w, (execOp (ev e) (operAt ops i)).run P w = .ok (.value v) w)
    (h : At n W0 ((d, v) :: e) Γ (Ops P ops Q k (i + 1))) : At n W0 e Γ (Ops P ops Q (k + 1) i) :=
  let ⟨h1, h2, h3, h4⟩ := fine_key hf
  ops_pure v h1 (gval_is hg) h2 h3 h4 hrun h
theorem s_off (d : Nat) (hf : fine n ops e i (some d) = true) (hg : gval ops e i = some false) (h : At n W0 ((d, undef) :: e) Γ (Ops P ops Q k (i + 1))) : At n W0 e Γ (Ops P ops Q (k + 1) i) :=
  let ⟨h1, _, _, h4⟩ := fine_key hf
  ops_off h1 (gval_is hg) h4 h
/-- A guard that is not met; nothing need be known of the operands. -/
def fineOff (n : Nat) (ops : Array Oper) (i : Nat) (dst : Option Tmp) : Bool :=
  match ops[i]? with
  | some o => below n dst && eqDst o.dst dst
  | none => false
theorem fineOff_key {dst : Option Tmp} (h : fineOff n ops i dst = true) : key ops i = some (dst, (operAt ops i).op, (operAt ops i).type, (operAt ops i).guard) ∧ below n dst = true := by
  unfold fineOff at h
  cases ho : ops[i]? with
  | none => simp [ho] at h
  | some o =>
    simp only [ho, Bool.and_eq_true] at h
    have h5 := eqDst_eq h.2
    have h6 : operAt ops i = o := by simp [operAt, ho]
    exact ⟨by simp [key, ho, h6, h5], h.1⟩
theorem s_pass (d : Nat) (hf : fineOff n ops i (some d) = true) (hg : gval ops e i = some false) (h : At n W0 ((d, undef) :: e) Γ (Ops P ops Q k (i + 1))) : At n W0 e Γ (Ops P ops Q (k + 1) i) :=
  let ⟨h1, h4⟩ := fineOff_key hf
  ops_off h1 (gval_is hg) h4 h
theorem s_pass0 (hf : fineOff n ops i none = true) (hg : gval ops e i = some false) (h : At n W0 e Γ (Ops P ops Q k (i + 1))) : At n W0 e Γ (Ops P ops Q (k + 1) i) :=
  let ⟨h1, h4⟩ := fineOff_key hf
  ops_off h1 (gval_is hg) h4 h
theorem s_load (d : Nat) (v : Value) (hf : fine n ops e i (some d) = true) (hg : gval ops e i = some true) (hrun : ∀ w, Sat W0 Γ w → (execOp (ev e) (operAt ops i)).run P w = .ok (.value v) w)
    (h : At n W0 ((d, v) :: e) Γ (Ops P ops Q k (i + 1))) : At n W0 e Γ (Ops P ops Q (k + 1) i) :=
  let ⟨h1, h2, h3, h4⟩ := fine_key hf
  ops_val h1 (gval_is hg) h2 h3 h4 (fun w hw => ⟨w, hrun w hw, hw⟩) h
theorem s_step (d : Nat) {Post : Value → List Asn → Prop} (hf : fine n ops e i (some d) = true) (hg : gval ops e i = some true) (st : StepTo P W0 Γ e (operAt ops i).op (operAt ops i).type Post)
    (h : ∀ v Γ', Post v Γ' → At n W0 ((d, v) :: e) Γ' (Ops P ops Q k (i + 1))) : At n W0 e Γ (Ops P ops Q (k + 1) i) :=
  let ⟨h1, h2, h3, h4⟩ := fine_key hf
  ops_step h1 (gval_is hg) h2 h3 h4 st h
theorem s_do {Post : Value → List Asn → Prop} (hf : fine n ops e i none = true) (hg : gval ops e i = some true) (st : StepTo P W0 Γ e (operAt ops i).op (operAt ops i).type Post)
    (h : ∀ v Γ', Post v Γ' → At n W0 e Γ' (Ops P ops Q k (i + 1))) : At n W0 e Γ (Ops P ops Q (k + 1) i) :=
  let ⟨h1, h2, h3, h4⟩ := fine_key hf
  ops_step h1 (gval_is hg) h2 h3 h4 st h
theorem s_call (d : Nat) (f : FuncId) (args : Array Value) {Post : Value → List Asn → Prop} (hf : fine n ops e i (some d) = true) (hg : gval ops e i = some true) (hrun : ∀ w, (execOp (ev e) (operAt ops i)).run P w = .ok (.enter f args) w)
    (hc : Tr P f args W0 Γ Post) (h : ∀ v Γ', Post v Γ' → At n W0 ((d, v) :: e) Γ' (Ops P ops Q k (i + 1))) : At n W0 e Γ (Ops P ops Q (k + 1) i) :=
  s_step d hf hg (StepTo.call hrun hc) h
theorem s_quiet (d : Nat) (v : Value) (f : FuncId) (args : Array Value) (hf : fine n ops e i (some d) = true) (hg : gval ops e i = some true) (hrun : ∀ w, (execOp (ev e) (operAt ops i)).run P w = .ok (.enter f args) w)
    (hc : Tr P f args W0 Γ (fun r Δ => r = v ∧ Δ = Γ)) (h : At n W0 ((d, v) :: e) Γ (Ops P ops Q k (i + 1))) : At n W0 e Γ (Ops P ops Q (k + 1) i) :=
  s_call d f args hf hg hrun hc (by rintro _ Γ' ⟨rfl, h2⟩; rw [h2]; exact h)
theorem s_call0 (f : FuncId) (args : Array Value) {Post : Value → List Asn → Prop} (hf : fine n ops e i none = true) (hg : gval ops e i = some true) (hrun : ∀ w, (execOp (ev e) (operAt ops i)).run P w = .ok (.enter f args) w)
    (hc : Tr P f args W0 Γ Post) (h : ∀ v Γ', Post v Γ' → At n W0 e Γ' (Ops P ops Q k (i + 1))) : At n W0 e Γ (Ops P ops Q (k + 1) i) :=
  s_do hf hg (StepTo.call hrun hc) h

/-! In a region whose order is open. -/
variable {D Pp Pl : List Nat}
theorem d_pure (i d : Nat) (v : Value) (hf : fine n ops e i (some d) = true) (hg : gval ops e i = some true) (hok : readOk ops i (some d) D Pp Pl = true) (hrun : ∀ w, (execOp (ev e) (operAt ops i)).run P w = .ok (.value v) w)
    (h : Draw P n W0 ops Q (i :: D) (i :: Pp) Pl ((d, v) :: e) Γ) : Draw P n W0 ops Q D Pp Pl e Γ :=
  let ⟨h1, h2, h3, h4⟩ := fine_key hf
  draw_pure v h1 (gval_is hg) h2 h3 h4 hok hrun h
theorem d_quiet (i d : Nat) (v : Value) (f : FuncId) (args : Array Value) (hf : fine n ops e i (some d) = true) (hg : gval ops e i = some true) (hok : readOk ops i (some d) D Pp Pl = true) (hrun : ∀ w, (execOp (ev e) (operAt ops i)).run P w = .ok (.enter f args) w)
    (hc : ∀ Γ, Tr P f args W0 Γ (fun r Δ => r = v ∧ Δ = Γ)) (h : Draw P n W0 ops Q (i :: D) (i :: Pp) Pl ((d, v) :: e) Γ) : Draw P n W0 ops Q D Pp Pl e Γ :=
  let ⟨h1, h2, h3, h4⟩ := fine_key hf
  draw_quiet v h1 (gval_is hg) h2 h3 h4 hok (fun Γ => StepTo.call hrun (hc Γ)) h
theorem d_off (i d : Nat) (hf : fine n ops e i (some d) = true) (hg : gval ops e i = some false) (hok : readOk ops i (some d) D Pp Pl = true) (h : Draw P n W0 ops Q (i :: D) (i :: Pp) Pl ((d, undef) :: e) Γ) : Draw P n W0 ops Q D Pp Pl e Γ :=
  let ⟨h1, h2, h3, h4⟩ := fine_key hf
  draw_off h1 (gval_is hg) h2 h3 h4 hok h
theorem d_off0 (i : Nat) (hf : fine n ops e i none = true) (hg : gval ops e i = some false) (hok : readOk ops i none D Pp Pl = true) (h : Draw P n W0 ops Q (i :: D) (i :: Pp) Pl e Γ) : Draw P n W0 ops Q D Pp Pl e Γ :=
  let ⟨h1, h2, h3, h4⟩ := fine_key hf
  draw_off h1 (gval_is hg) h2 h3 h4 hok h
theorem d_load (i d : Nat) (v : Value) (hf : fine n ops e i (some d) = true) (hg : gval ops e i = some true) (hok : readOk ops i (some d) D Pp Pl = true) (hrun : ∀ w, Sat W0 Γ w → (execOp (ev e) (operAt ops i)).run P w = .ok (.value v) w)
    (h : Draw P n W0 ops Q (i :: D) Pp (i :: Pl) ((d, v) :: e) Γ) : Draw P n W0 ops Q D Pp Pl e Γ :=
  let ⟨h1, h2, h3, h4⟩ := fine_key hf
  draw_load v h1 (gval_is hg) h2 h3 h4 hok hrun h
theorem d_step (i d : Nat) (C Pp' Pl' : List Nat) {Post : Value → List Asn → Prop} (hf : fine n ops e i (some d) = true) (hg : gval ops e i = some true) (hok : writeOk ops i (some d) D C Pp Pl Pp' Pl' = true)
    (st : StepTo P W0 Γ e (operAt ops i).op (operAt ops i).type Post)
    (h : ∀ v Γ', Post v Γ' → (∀ j ∈ Pl', Stable P n W0 ops ((d, v) :: e) Γ' j) ∧ Draw P n W0 ops Q (i :: D) Pp' Pl' ((d, v) :: e) Γ') : Draw P n W0 ops Q D Pp Pl e Γ :=
  let ⟨h1, h2, h3, h4⟩ := fine_key hf
  draw_write h1 (gval_is hg) h2 h3 h4 hok st h
theorem d_do (i : Nat) (C Pp' Pl' : List Nat) {Post : Value → List Asn → Prop} (hf : fine n ops e i none = true) (hg : gval ops e i = some true) (hok : writeOk ops i none D C Pp Pl Pp' Pl' = true)
    (st : StepTo P W0 Γ e (operAt ops i).op (operAt ops i).type Post)
    (h : ∀ v Γ', Post v Γ' → (∀ j ∈ Pl', Stable P n W0 ops e Γ' j) ∧ Draw P n W0 ops Q (i :: D) Pp' Pl' e Γ') : Draw P n W0 ops Q D Pp Pl e Γ :=
  let ⟨h1, h2, h3, h4⟩ := fine_key hf
  draw_write h1 (gval_is hg) h2 h3 h4 hok st h
theorem d_call (i d : Nat) (C Pp' Pl' : List Nat) (f : FuncId) (args : Array Value) {Post : Value → List Asn → Prop} (hf : fine n ops e i (some d) = true) (hg : gval ops e i = some true) (hok : writeOk ops i (some d) D C Pp Pl Pp' Pl' = true)
    (hrun : ∀ w, (execOp (ev e) (operAt ops i)).run P w = .ok (.enter f args) w) (hc : Tr P f args W0 Γ Post)
    (h : ∀ v Γ', Post v Γ' → (∀ j ∈ Pl', Stable P n W0 ops ((d, v) :: e) Γ' j) ∧ Draw P n W0 ops Q (i :: D) Pp' Pl' ((d, v) :: e) Γ') : Draw P n W0 ops Q D Pp Pl e Γ :=
  d_step i d C Pp' Pl' hf hg hok (StepTo.call hrun hc) h
theorem d_call0 (i : Nat) (C Pp' Pl' : List Nat) (f : FuncId) (args : Array Value) {Post : Value → List Asn → Prop} (hf : fine n ops e i none = true) (hg : gval ops e i = some true) (hok : writeOk ops i none D C Pp Pl Pp' Pl' = true)
    (hrun : ∀ w, (execOp (ev e) (operAt ops i)).run P w = .ok (.enter f args) w) (hc : Tr P f args W0 Γ Post)
    (h : ∀ v Γ', Post v Γ' → (∀ j ∈ Pl', Stable P n W0 ops e Γ' j) ∧ Draw P n W0 ops Q (i :: D) Pp' Pl' e Γ') : Draw P n W0 ops Q D Pp Pl e Γ :=
  d_do i C Pp' Pl' hf hg hok (StepTo.call hrun hc) h
theorem t_step (i d : Nat) (C Pp' Pl' : List Nat) {Post : Value → List Asn → Prop} (hf : fine n ops e i (some d) = true) (hg : gval ops e i = some true) (hok : turnOk ops i (some d) D C Pp Pl Pp' Pl' = true)
    (st : StepTo P W0 Γ e (operAt ops i).op (operAt ops i).type Post)
    (h : ∀ v Γ', Post v Γ' → (∀ j ∈ Pl', Stable P n W0 ops ((d, v) :: e) Γ' j) ∧ Draw P n W0 ops Q (i :: D) Pp' Pl' ((d, v) :: e) Γ') : Turn P n W0 ops Q D Pp Pl e Γ i :=
  let ⟨h1, h2, h3, h4⟩ := fine_key hf
  turn_write h1 (gval_is hg) h2 h3 h4 hok st h
theorem t_do (i : Nat) (C Pp' Pl' : List Nat) {Post : Value → List Asn → Prop} (hf : fine n ops e i none = true) (hg : gval ops e i = some true) (hok : turnOk ops i none D C Pp Pl Pp' Pl' = true)
    (st : StepTo P W0 Γ e (operAt ops i).op (operAt ops i).type Post)
    (h : ∀ v Γ', Post v Γ' → (∀ j ∈ Pl', Stable P n W0 ops e Γ' j) ∧ Draw P n W0 ops Q (i :: D) Pp' Pl' e Γ') : Turn P n W0 ops Q D Pp Pl e Γ i :=
  let ⟨h1, h2, h3, h4⟩ := fine_key hf
  turn_write h1 (gval_is hg) h2 h3 h4 hok st h
theorem t_call (i d : Nat) (C Pp' Pl' : List Nat) (f : FuncId) (args : Array Value) {Post : Value → List Asn → Prop} (hf : fine n ops e i (some d) = true) (hg : gval ops e i = some true) (hok : turnOk ops i (some d) D C Pp Pl Pp' Pl' = true)
    (hrun : ∀ w, (execOp (ev e) (operAt ops i)).run P w = .ok (.enter f args) w) (hc : Tr P f args W0 Γ Post)
    (h : ∀ v Γ', Post v Γ' → (∀ j ∈ Pl', Stable P n W0 ops ((d, v) :: e) Γ' j) ∧ Draw P n W0 ops Q (i :: D) Pp' Pl' ((d, v) :: e) Γ') : Turn P n W0 ops Q D Pp Pl e Γ i :=
  t_step i d C Pp' Pl' hf hg hok (StepTo.call hrun hc) h
theorem t_call0 (i : Nat) (C Pp' Pl' : List Nat) (f : FuncId) (args : Array Value) {Post : Value → List Asn → Prop} (hf : fine n ops e i none = true) (hg : gval ops e i = some true) (hok : turnOk ops i none D C Pp Pl Pp' Pl' = true)
    (hrun : ∀ w, (execOp (ev e) (operAt ops i)).run P w = .ok (.enter f args) w) (hc : Tr P f args W0 Γ Post)
    (h : ∀ v Γ', Post v Γ' → (∀ j ∈ Pl', Stable P n W0 ops e Γ' j) ∧ Draw P n W0 ops Q (i :: D) Pp' Pl' e Γ') : Turn P n W0 ops Q D Pp Pl e Γ i :=
  t_do i C Pp' Pl' hf hg hok (StepTo.call hrun hc) h
theorem turns_nil {Γ : List Asn} : ∀ j ∈ ([] : List Nat), Turn P n W0 ops Q D Pp Pl e Γ j := fun _ h => (by cases h)
theorem turns_cons {Γ : List Asn} {i : Nat} {l : List Nat} (h1 : Turn P n W0 ops Q D Pp Pl e Γ i) (h2 : ∀ j ∈ l, Turn P n W0 ops Q D Pp Pl e Γ j) : ∀ j ∈ i :: l, Turn P n W0 ops Q D Pp Pl e Γ j := by
  intro j hj
  rcases List.mem_cons.1 hj with rfl | hj
  · exact h1
  · exact h2 j hj
theorem stable_nil {Γ : List Asn} : ∀ j ∈ ([] : List Nat), Stable P n W0 ops e Γ j := fun _ h => (by cases h)
theorem stable_cons {Γ : List Asn} {l : List Nat} (i d : Nat) (v : Value) (hf : fine n ops e i (some d) = true) (hg : gval ops e i = some true) (hl : lk e d = some v) (hrun : ∀ w, Sat W0 Γ w → (execOp (ev e) (operAt ops i)).run P w = .ok (.value v) w)
    (h : ∀ j ∈ l, Stable P n W0 ops e Γ j) : ∀ j ∈ i :: l, Stable P n W0 ops e Γ j := by
  intro j hj
  rcases List.mem_cons.1 hj with rfl | hj
  · obtain ⟨h1, h2, h3, h4⟩ := fine_key hf
    obtain ⟨o, ho, q1, q2, q3, q4⟩ := key_some h1
    have e1 : operAt ops j = o := by simp [operAt, ho]
    rw [e1] at h2 h3 hrun
    refine ⟨o, v, true, ho, h2, h3, ?_, by rw [q1]; exact h4, fun d' hd => ?_, fun _ => hrun, fun h => by cases h⟩
    · have := gval_is hg
      rwa [e1] at this
    · rw [q1] at hd
      obtain rfl := Option.some.inj hd
      exact hl
  · exact h j hj

/-! What memory holds. -/
/-- In every world of which Γ is known the block b holds o. -/
def Holds (W0 : World) (Γ : List Asn) (b : Nat) (o : Obj) : Prop := ∀ w, Sat W0 Γ w → w.heap[b]? = some o
theorem holds_own {b : Nat} {o : Obj} (hp : Pull Γ (Asn.own b o) Γ') : Holds W0 Γ b o := fun _ hw => (hw.pull hp).own_at
theorem holds_imm {b : Nat} {o : Obj} (hp : Pull Γ (Asn.imm b o) Γ') : Holds W0 Γ b o := fun _ hw => (hw.pull hp).imm_at
theorem holds_old {b : Nat} {o : Obj} (h : W0.heap[b]? = some o) : Holds W0 Γ b o := fun w hw => by
  rw [hw.old]; exact h
  rcases Nat.lt_or_ge b W0.heap.size with h1 | h1
  · exact h1
  · rw [Array.getElem?_eq_none h1] at h; cases h

theorem cell_of {w : World} {b off : Nat} {c : Array Value} {T : TypeId} {fr : Nat × Nat} (h : w.heap[b]? = some (.cells c T fr)) : w.cell? ⟨b, off, none⟩ = c[off]? := by
  unfold World.cell?
  simp only [h]
  rfl

theorem run_load_cell {w : World} {a : Addr} {v : Value} (h : w.cell? a = some v) : (load a).run P w = .ok v w := by
  simp only [load, Sem.run, h]

/-- One cell. -/
theorem load1 {b off : Nat} {c : Array Value} {T : TypeId} {fr : Nat × Nat} {v : Value} {o : Oper} (hx : ∀ w, (execOp (ev e) o).run P w = (load ⟨b, off, none⟩ >>= fun v => pure (Next.value v)).run P w) (hb : Holds W0 Γ b (.cells c T fr))
    (hc : c[off]? = some v) : ∀ w, Sat W0 Γ w → (execOp (ev e) o).run P w = .ok (.value v) w := fun w hw => by
  rw [hx]
  exact run_seq (run_load_cell ((cell_of (hb w hw)).trans hc)) rfl
theorem load1_cell {a : Addr} {v : Value} {o : Oper} (hx : ∀ w, (execOp (ev e) o).run P w = (load a >>= fun v => pure (Next.value v)).run P w) (hc : ∀ w, Sat W0 Γ w → w.cell? a = some v) :
    ∀ w, Sat W0 Γ w → (execOp (ev e) o).run P w = .ok (.value v) w := fun w hw => by
  rw [hx]
  exact run_seq (run_load_cell (hc w hw)) rfl

theorem run_loadCellsFrom {w : World} {a : Addr} (k : Nat) : ∀ (i : Nat) (acc : Array Value) (vs : List Value), vs.length = k → (∀ j v, vs[j]? = some v → w.cell? (a.add (i + j)) = some v) →
    (loadCellsFrom a i k acc).run P w = .ok (acc ++ vs.toArray) w := by
  induction k with
  | zero =>
    intro i acc vs hl _
    obtain rfl := List.eq_nil_of_length_eq_zero hl
    simp [loadCellsFrom]
  | succ k ih =>
    intro i acc vs hl h
    match vs, hl with
    | v :: vs, hl =>
      unfold loadCellsFrom
      refine run_seq (run_load_cell (h 0 v rfl)) ?_
      rw [ih (i + 1) (acc.push v) vs (by simpa using hl) fun j u hj => by
        have := h (j + 1) u (by simpa using hj)
        rwa [show i + (j + 1) = i + 1 + j from by omega] at this]
      simp
theorem run_loadCells {w : World} {a : Addr} {vs : List Value} (k : Nat) (hl : vs.length = k) (h : ∀ j v, vs[j]? = some v → w.cell? (a.add j) = some v) : (loadCells a k).run P w = .ok vs.toArray w := by
  unfold loadCells
  rw [run_loadCellsFrom k 0 #[] vs hl (by simpa using h)]
  simp

theorem add_none (b off j : Nat) : (⟨b, off, none⟩ : Addr).add j = ⟨b, off + j, none⟩ := by
  unfold Addr.add
  split
  · simp_all
  · rfl

def rowAt? (c : Array Value) (off : Nat) : List Value → Prop
  | [] => True
  | v :: vs => c[off]? = some v ∧ rowAt? c (off + 1) vs
theorem rowAt?_get {c : Array Value} {vs : List Value} : ∀ {off : Nat}, rowAt? c off vs → ∀ j v, vs[j]? = some v → c[off + j]? = some v := by
  induction vs with
  | nil => intro off _ j v h; simp at h
  | cons x vs ih =>
    intro off h j v hj
    cases j with
    | zero => simp at hj; subst hj; exact h.1
    | succ j =>
      have := ih h.2 j v (by simpa using hj)
      rwa [show off + 1 + j = off + (j + 1) from by omega] at this
/-- k cells. -/
theorem loadN {b off : Nat} {c : Array Value} {T : TypeId} {fr : Nat × Nat} {vs : List Value} {o : Oper} (k : Nat) (hx : ∀ w, (execOp (ev e) o).run P w = (loadCells ⟨b, off, none⟩ k >>= fun cs => pure (Next.value (.agg cs))).run P w)
    (hb : Holds W0 Γ b (.cells c T fr)) (hl : vs.length = k) (hc : rowAt? c off vs) : ∀ w, Sat W0 Γ w → (execOp (ev e) o).run P w = .ok (.value (.agg vs.toArray)) w := fun w hw => by
  rw [hx]
  refine run_seq (run_loadCells k hl fun j v hj => ?_) rfl
  rw [add_none, cell_of (hb w hw)]
  exact rowAt?_get hc j v hj
theorem loadN_cell {a : Addr} {vs : List Value} {o : Oper} (k : Nat) (hx : ∀ w, (execOp (ev e) o).run P w = (loadCells a k >>= fun cs => pure (Next.value (.agg cs))).run P w) (hl : vs.length = k)
    (hc : ∀ w, Sat W0 Γ w → ∀ j v, vs[j]? = some v → w.cell? (a.add j) = some v) : ∀ w, Sat W0 Γ w → (execOp (ev e) o).run P w = .ok (.value (.agg vs.toArray)) w := fun w hw => by
  rw [hx]
  exact run_seq (run_loadCells k hl (hc w hw)) rfl

/-! Stores. -/
def putCells (c : Array Value) (off : Nat) : List Value → Array Value
  | [] => c
  | v :: vs => putCells (c.setIfInBounds off v) (off + 1) vs
def oneCell : Value → Bool
  | .agg _ | .tuple _ => false
  | _ => true
theorem run_store_cell {w : World} {b off : Nat} {c : Array Value} {T : TypeId} {v : Value} (h : w.heap[b]? = some (.cells c T (0, 0))) (ho : off < c.size) (hv : oneCell v = true) :
    (store ⟨b, off, none⟩ v).run P w = .ok () (w.setCell ⟨b, off, none⟩ v) := by
  have hc : w.cell? ⟨b, off, none⟩ = some c[off] := by rw [cell_of h]; simp [ho]
  have hf : w.frozen? ⟨b, off, none⟩ = false := by simp [World.frozen?, h]
  cases v <;> simp_all [store, Sem.run, oneCell]
theorem setCell_heap {w : World} {b off : Nat} {c : Array Value} {T : TypeId} {v : Value} (h : w.heap[b]? = some (.cells c T (0, 0))) : (w.setCell ⟨b, off, none⟩ v).heap[b]? = some (.cells (c.setIfInBounds off v) T (0, 0)) := by
  simp [World.setCell, Array.getElem?_modify, h]
theorem run_storeCells {b : Nat} {T : TypeId} {off : Nat} (vs : List Value) : ∀ (i : Nat) (w : World) (c : Array Value), w.heap[b]? = some (.cells c T (0, 0)) → off + i + vs.length ≤ c.size → vs.all oneCell = true →
    ∃ w', (storeCells ⟨b, off, none⟩ vs i).run P w = .ok () w' ∧ w'.heap[b]? = some (.cells (putCells c (off + i) vs) T (0, 0)) ∧ w'.heap.size = w.heap.size ∧ (∀ d, d ≠ b → w'.heap[d]? = w.heap[d]?) ∧ w'.os = w.os ∧ w'.tape = w.tape ∧ w'.output = w.output := by
  induction vs with
  | nil => intro i w c h _ _; exact ⟨w, rfl, h, rfl, fun _ _ => rfl, rfl, rfl, rfl⟩
  | cons v vs ih =>
    intro i w c h hl hv
    simp only [List.all_cons, Bool.and_eq_true] at hv
    simp only [List.length_cons] at hl
    have h1 := run_store_cell (P := P) (off := off + i) (v := v) h (by omega) hv.1
    obtain ⟨w', r1, r2, r3, r4, r5, r6, r7⟩ := ih (i + 1) _ _ (setCell_heap (off := off + i) (v := v) h) (by simp; omega) hv.2
    refine ⟨w', ?_, by unfold putCells; rw [show off + i + 1 = off + (i + 1) from by omega]; exact r2, by rw [r3]; simp [World.setCell], fun d hd => (r4 d hd).trans ?_, r5, r6, r7⟩
    · unfold storeCells
      rw [add_none]
      exact run_seq h1 r1
    · simp only [World.setCell, Array.getElem?_modify]
      rw [if_neg (fun e1 => hd e1.symm)]
theorem st_store {b off : Nat} {c c' : Array Value} {T : TypeId} {vs : List Value} {op : Op} {ty : TypeId} (hx : ∀ w, (execOp (ev e) (bare op ty)).run P w = (storeCells ⟨b, off, none⟩ vs >>= fun _ => pure Next.skip).run P w)
    (hp : Pull Γ (Asn.own b (.cells c T (0, 0))) Γ') (hc : putCells c off vs = c') (hl : Nat.ble (off + vs.length) c.size = true) (hv : vs.all oneCell = true) :
    StepTo P W0 Γ e op ty (Is undef (Asn.own b (.cells c' T (0, 0)) :: Γ')) := by
  refine StepTo.skip fun w hw => ?_
  have h0 := hw.pull hp
  obtain ⟨w', r1, r2, r3, r4, r5, r6, r7⟩ := run_storeCells (P := P) (off := off) vs 0 w c h0.own_at (by simpa using hl) hv
  refine ⟨w', _, ?_, ⟨rfl, rfl⟩, h0.put r5 r6 r7 r3 ?_ r4⟩
  · rw [hx]; exact run_seq r1 rfl
  · rw [r2, ← hc]; rfl

/-! New blocks. -/
theorem st_new {T : TypeId} {cells : Array Value} {op : Op} {ty : TypeId} (mk : Addr → Value) (hx : ∀ w, (execOp (ev e) (bare op ty)).run P w = (newRow T cells >>= fun a => pure (Next.value (mk a))).run P w) :
    StepTo P W0 Γ e op ty (fun v Δ => ∃ b : Nat, v = mk ⟨b, 0, none⟩ ∧ Δ = Asn.own b (.cells cells T (0, 0)) :: Γ) := by
  refine StepTo.val fun w hw => ⟨_, _, _, ?_, ⟨w.heap.size, rfl, rfl⟩, hw.alloc _⟩
  rw [hx]; rfl
theorem st_is {v : Value} {op : Op} {ty : TypeId} {Post : Value → List Asn → Prop} (h : StepTo P W0 Γ e op ty (Is v Γ')) (k : Post v Γ') : StepTo P W0 Γ e op ty Post := h.mono fun _ _ ⟨h1, h2⟩ => by subst h1; subst h2; exact k

/-- A run's value, spelt otherwise. -/
theorem run_eq {o : Oper} {v v' : Value} (h : ∀ w, (execOp (ev e) o).run P w = .ok (.value v) w) (hv : v = v') : ∀ w, (execOp (ev e) o).run P w = .ok (.value v') w := fun w => by rw [h, hv]
theorem wrap_in {x : Int} (h1 : -9223372036854775808 ≤ x) (h2 : x ≤ 9223372036854775807) : IntKind.i64.wrap x = x := by
  simp only [IntKind.wrap]
  have : IntKind.i64.bits = 64 := rfl
  simp [this, IntKind.signed]
  omega
/-! The same, with the proofs that the kernel finds left out (short texts). -/
theorem kf {p : Prop} (h : p := by kernel_rfl) : p := h
theorem sp (d : Nat) (v : Value) (h : At n W0 ((d, v) :: e) Γ (Ops P ops Q k (i + 1))) (hf : fine n ops e i (some d) = true := by kernel_rfl) (hg : gval ops e i = some true := by kernel_rfl)
    (hrun : ∀ w, (execOp (ev e) (operAt ops i)).run P w = .ok (.value v) w := by intro _; kernel_rfl) : At n W0 e Γ (Ops P ops Q (k + 1) i) := s_pure d v hf hg hrun h
theorem sr (d : Nat) (v : Value) (hrun : ∀ w, (execOp (ev e) (operAt ops i)).run P w = .ok (.value v) w) (h : At n W0 ((d, v) :: e) Γ (Ops P ops Q k (i + 1))) (hf : fine n ops e i (some d) = true := by kernel_rfl) (hg : gval ops e i = some true := by kernel_rfl) : At n W0 e Γ (Ops P ops Q (k + 1) i) := s_pure d v hf hg hrun h
theorem sl (d : Nat) (v : Value) (hrun : ∀ w, Sat W0 Γ w → (execOp (ev e) (operAt ops i)).run P w = .ok (.value v) w) (h : At n W0 ((d, v) :: e) Γ (Ops P ops Q k (i + 1))) (hf : fine n ops e i (some d) = true := by kernel_rfl) (hg : gval ops e i = some true := by kernel_rfl) : At n W0 e Γ (Ops P ops Q (k + 1) i) := s_load d v hf hg hrun h
theorem sa (d : Nat) (h : At n W0 ((d, undef) :: e) Γ (Ops P ops Q k (i + 1))) (hf : fineOff n ops i (some d) = true := by kernel_rfl) (hg : gval ops e i = some false := by kernel_rfl) : At n W0 e Γ (Ops P ops Q (k + 1) i) := s_pass d hf hg h
theorem dp (i d : Nat) (v : Value) (h : Draw P n W0 ops Q (i :: D) (i :: Pp) Pl ((d, v) :: e) Γ) (hf : fine n ops e i (some d) = true := by kernel_rfl) (hg : gval ops e i = some true := by kernel_rfl) (hok : readOk ops i (some d) D Pp Pl = true := by kernel_rfl)
    (hrun : ∀ w, (execOp (ev e) (operAt ops i)).run P w = .ok (.value v) w := by intro _; kernel_rfl) : Draw P n W0 ops Q D Pp Pl e Γ := d_pure i d v hf hg hok hrun h
theorem dl (i d : Nat) (v : Value) (hrun : ∀ w, Sat W0 Γ w → (execOp (ev e) (operAt ops i)).run P w = .ok (.value v) w) (h : Draw P n W0 ops Q (i :: D) Pp (i :: Pl) ((d, v) :: e) Γ) (hf : fine n ops e i (some d) = true := by kernel_rfl) (hg : gval ops e i = some true := by kernel_rfl)
    (hok : readOk ops i (some d) D Pp Pl = true := by kernel_rfl) : Draw P n W0 ops Q D Pp Pl e Γ := d_load i d v hf hg hok hrun h
theorem ae {K : Act → World → Prop} (e' : Env) (h : At n W0 e' Γ K) (hs : Env.Sub e e' := by repeat' first | exact trivial | refine ⟨by kernel_rfl, ?_⟩) : At n W0 e Γ K := At.env e' hs h
theorem ar {c : Code} {id : Nat} (k : Nat) (hk : At n W0 e Γ (Ops P (opsOf c) Q k 0)) (h : c = .region id (opsOf c) false := by kernel_rfl) (hn : (opsOf c).size = k := by kernel_rfl) : At n W0 e Γ (c.wp P Q) := at_region k h hn hk
theorem aq {c x y : Code} (k : At n W0 e Γ (x.wp P (Exit.then (y.wp P Q) Q))) (h : c = .seq x y := by kernel_rfl) : At n W0 e Γ (c.wp P Q) := at_seq h k
end rules

section ends
variable {P : Program} {n : Nat} {W0 : World} {e : Env} {Γ Γ' : List Asn} {fn : Func} {R : Value → List Asn → Prop} {rs : List ResultVar}
theorem at_backR (vs : List Value) (Γ' : List Asn) (hrs : fn.results.toList = rs) (hr : ResVs P W0 e Γ rs vs) (hg : ∀ w, Sat W0 Γ w → Sat W0 Γ' w) (h : R (packed vs) Γ') : At n W0 e Γ (bodyPost P fn (Back W0 R) .ret) :=
  at_back vs Γ' (hrs ▸ hr) hg h
theorem at_backE (vs : List Value) (Γ' : List Asn) (hrs : fn.results.toList = rs) (hr : ResVs P W0 e Γ rs vs) (hg : ∀ w, Sat W0 Γ w → Sat W0 Γ' w) (h : R (packed vs) Γ') : At n W0 e Γ (bodyPost P fn (Back W0 R) .normal) :=
  at_back_end vs Γ' (hrs ▸ hr) hg h
theorem at_round_normal {N : Act → World → Prop} {Q : Exit → Act → World → Prop} (k : At n W0 e Γ N) : At n W0 e Γ (Exit.then N Q .normal) := k
theorem ret1 {b off : Nat} {t : TypeId} {c : Array Value} {T : TypeId} {fr : Nat × Nat} {v : Value} (hx : ∀ w, (loadVar t ⟨b, off, none⟩).run P w = (load ⟨b, off, none⟩).run P w) (hb : Holds W0 Γ b (.cells c T fr)) (hc : c[off]? = some v) :
    ∀ w, Sat W0 Γ w → (loadVar t ⟨b, off, none⟩).run P w = .ok v w := fun w hw => by
  rw [hx]; exact run_load_cell ((cell_of (hb w hw)).trans hc)
theorem retN {b off : Nat} {t : TypeId} {c : Array Value} {T : TypeId} {fr : Nat × Nat} {vs : List Value} (k : Nat) (hx : ∀ w, (loadVar t ⟨b, off, none⟩).run P w = (loadCells ⟨b, off, none⟩ k >>= fun cs => pure (.agg cs)).run P w)
    (hb : Holds W0 Γ b (.cells c T fr)) (hl : vs.length = k) (hc : rowAt? c off vs) : ∀ w, Sat W0 Γ w → (loadVar t ⟨b, off, none⟩).run P w = .ok (.agg vs.toArray) w := fun w hw => by
  rw [hx]
  refine run_seq (run_loadCells k hl fun j v hj => ?_) rfl
  rw [add_none, cell_of (hb w hw)]
  exact rowAt?_get hc j v hj
/-- A loop of so many rounds at most, one by one. -/
theorem at_unroll {Q : Exit → Act → World → Prop} {c x : Code} (N : Nat) (h : c = .loop x) (k : At n W0 e Γ (Code.rounds P x Q N)) : At n W0 e Γ (c.wp P Q) := by
  subst h; exact fun a w ha hw => wp_loop_rounds N (k a w ha hw)
theorem at_rounds {Q : Exit → Act → World → Prop} {x : Code} {m : Nat} (k : At n W0 e Γ (x.wp P (Exit.then (Code.rounds P x Q m) Q))) : At n W0 e Γ (Code.rounds P x Q (m + 1)) := k
end ends

/-! What is at hand, put in another order, or less of it. -/
inductive Less : List Asn → List Asn → Prop
  | refl {Γ : List Asn} : Less Γ Γ
  | take {Γ Γ1 Δ : List Asn} {A : Asn} (hp : Pull Γ A Γ1) (h : Less Γ1 Δ) : Less Γ (A :: Δ)
  | drop {Γ Γ1 Δ : List Asn} {A : Asn} (hp : Pull Γ A Γ1) (h : Less Γ1 Δ) : Less Γ Δ
theorem Star.less {Γ Δ : List Asn} (hl : Less Γ Δ) : ∀ {S I : Nat → Prop} {h : Nat → Option Obj}, Star Γ S I h → Star Δ S I h := by
  induction hl with
  | refl => exact fun h => h
  | take hp _ ih =>
    intro S I h hs
    obtain ⟨S1, S2, h1, h2, h3, h4, h5⟩ := hs.pull hp
    exact ⟨S1, S2, h1, h2, h3, h4, ih h5⟩
  | drop hp _ ih =>
    intro S I h hs
    obtain ⟨S1, S2, h1, h2, h3, h4, h5⟩ := hs.pull hp
    exact ih (h5.wide h2)
theorem Sat.less {W0 w : World} {Γ Δ : List Asn} (hl : Less Γ Δ) (h : Sat W0 Γ w) : Sat W0 Δ w := h.imp fun _ _ => Star.less hl
end Go.Proofs.Ytcigheahollkcaa
