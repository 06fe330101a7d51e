/- A walk that goes along with a plain function: how what the function answers is handed on from step to step.
   Conditions: none. -/
import Derived.Test.YtcigheahollkcaaSlIn
import Derived.Test.YtcigheahollkcaaSlDel
namespace Go.Proofs.Ytcigheahollkcaa
open Go Go.RowKit

def chk {α : Type} (p : Prop) [Decidable p] (x : Option α) : Option α := if p then x else none
def letP {α β : Type} (e : β) (k : β → Option α) : Option α := k e
section
variable {α β : Type} {x z : Option α} {y : α}
theorem chkE {p : Prop} [Decidable p] (h : chk p x = some y) : p ∧ x = some y := by
  unfold chk at h
  split at h
  · exact ⟨by assumption, h⟩
  · cases h
theorem letE {e : β} {k : β → Option α} (h : letP e k = some y) : ∃ u, e = u ∧ k u = some y := ⟨e, rfl, h⟩
theorem bindE {u : Option β} {k : β → Option α} (h : u.bind k = some y) : ∃ v, u = some v ∧ k v = some y := by
  cases u with
  | none => cases h
  | some v => exact ⟨v, rfl, h⟩
theorem bifT {c : Bool} (h : (bif c then x else z) = some y) (hc : c = true) : x = some y := by subst hc; exact h
theorem bifF {c : Bool} (h : (bif c then x else z) = some y) (hc : c = false) : z = some y := by subst hc; exact h
theorem someE {a : α} (h : some a = some y) : a = y := Option.some.inj h
theorem noneE (h : (none : Option α) = some y) : False := by cases h
theorem chk_true {p : Prop} [Decidable p] (hp : p) : chk p x = x := by simp [chk, hp]
end
/-! What is asked of all that may come. -/
def andB (a b : Option Bool) : Option Bool := if a = some true ∧ b = some true then some true else none
def allB {β : Type} (l : List β) (f : β → Option Bool) : Option Bool := l.foldr (fun x r => andB (f x) r) (some true)
theorem andBE {a b : Option Bool} {y : Bool} (h : andB a b = some y) : a = some y ∧ b = some y := by
  unfold andB at h
  split at h
  · rename_i hab; obtain rfl := Option.some.inj h; exact hab
  · cases h
theorem allBE {β : Type} {l : List β} {f : β → Option Bool} {y : Bool} (h : allB l f = some y) : ∀ x ∈ l, f x = some y := by
  induction l with
  | nil => intro x hx; cases hx
  | cons z l ih =>
    obtain ⟨h1, h2⟩ := andBE (show andB (f z) (allB l f) = some y from h)
    intro x hx
    rcases List.mem_cons.1 hx with rfl | hx
    · exact h1
    · exact ih h2 x hx
theorem andB_mk {a b : Option Bool} (ha : a = some true) (hb : b = some true) : andB a b = some true := by simp [andB, ha, hb]
theorem allB_mk {β : Type} {l : List β} {f : β → Option Bool} (h : ∀ x ∈ l, f x = some true) : allB l f = some true := by
  induction l with
  | nil => rfl
  | cons z l ih => exact andB_mk (h z (List.mem_cons_self ..)) (ih fun x hx => h x (List.mem_cons_of_mem _ hx))
/-- What a number is when it has come round. -/
def wr (x : Int) : Int := IntKind.i64.wrap x
theorem wr_in {x : Int} (h1 : -9223372036854775808 ≤ x) (h2 : x ≤ 9223372036854775807) : wr x = x := wrap_in h1 h2
def inR (x : Int) : Prop := x.natAbs ≤ 9223372036854775807
instance (x : Int) : Decidable (inR x) := Nat.decLe _ _
theorem inR.wrap {x : Int} (h : inR x) : IntKind.i64.wrap x = x := wrap_in (by unfold inR at h; omega) (by unfold inR at h; omega)

section
variable {P : Program} {n : Nat} {W0 w : World} {e : Env} {Γ Γ' : List Asn} {k : Nat} {a : Option Addr} {cap : Nat} {rows : List (List Value)}
theorem at_seq_join {Q : Exit → Act → World → Prop} {c x y : Code} (J : Env → List Asn → Prop) (h : c = .seq x y) (rest : ∀ f Δ, J f Δ → At n W0 f Δ (y.wp P Q))
    (k : At n W0 e Γ (x.wp P (Exit.then (fun a w => ∃ f Δ, J f Δ ∧ EnvOk n f a ∧ Sat W0 Δ w) Q))) : At n W0 e Γ (c.wp P Q) := by
  subst h
  intro a w ha hw
  refine wp_seq (wp_mono (k a w ha hw) ?_)
  intro ex a' w' hq
  cases ex with
  | normal => obtain ⟨f, Δ, h1, h2, h3⟩ := hq; exact rest f Δ h1 a' w' h2 h3
  | _ => exact hq
theorem at_join_mk {J : Env → List Asn → Prop} (f' : Env) (Δ' : List Asn) (he : Env.Sub e f') (hg : ∀ w, Sat W0 Γ w → Sat W0 Δ' w) (hJ : J f' Δ') :
    At n W0 e Γ (fun a w => ∃ f Δ, J f Δ ∧ EnvOk n f a ∧ Sat W0 Δ w) := fun _ w ha hw => ⟨f', Δ', hJ, ha.sub he, hg w hw⟩
theorem ImmR.nil_mk (h : Sat W0 Γ w) : Sat W0 (ImmR k a [] :: Γ) w :=
  h.imp fun S _ h => ⟨fun _ => False, S, fun _ h => h.elim, fun _ h => h, fun _ h _ => h, ⟨fun r h => (by cases h), .inl rfl⟩, h⟩
theorem run_remP {o : Oper} {a b : Int} (hx : ∀ w, (execOp (ev e) o).run P w = (Op.intDiv .rem .i64 a b >>= fun v => pure (Next.value v)).run P w) (hb : 1 ≤ b) : ∀ w, (execOp (ev e) o).run P w = .ok (.value (.int .i64 (a.tmod b))) w := by
  intro w
  rw [hx]
  refine run_seq (x := .int .i64 (a.tmod b)) (w' := w) ?_ rfl
  simp [Op.intDiv, show b ≠ 0 from by omega]
theorem run_quoP {o : Oper} {a b : Int} (hx : ∀ w, (execOp (ev e) o).run P w = (Op.intDiv .quo .i64 a b >>= fun v => pure (Next.value v)).run P w) (hb : 1 ≤ b) : ∀ w, (execOp (ev e) o).run P w = .ok (.value (.int .i64 (wr (a.tdiv b)))) w := by
  intro w
  rw [hx]
  refine run_seq (x := .int .i64 (wr (a.tdiv b))) (w' := w) ?_ rfl
  simp [Op.intDiv, wr, show b ≠ 0 from by omega]
theorem idx_nat {i : Int} {m : Nat} (h : 0 ≤ i ∧ i < (m : Int)) : i.toNat < m := by omega
theorem idx_cast {i : Int} {m : Nat} (h : 0 ≤ i ∧ i < (m : Int)) : i = ((i.toNat : Nat) : Int) := by omega
def nth (xs : List Int) (i : Int) : Int := xs.getD i.toNat 0
theorem nth_get {xs : List Int} {i : Int} (h : 0 ≤ i ∧ i < (xs.length : Int)) : xs[i.toNat]? = some (nth xs i) := by
  have := idx_nat h
  simp [nth, this]
theorem nth_row {xs : List Int} {i : Int} (h : 0 ≤ i ∧ i < (xs.length : Int)) : (ints xs)[i.toNat]? = some [.int .i64 (nth xs i)] := ints_get (nth_get h)
def setI (xs : List Int) (i v : Int) : List Int := xs.set i.toNat v
theorem StepTo.conv {op : Op} {ty : TypeId} {Post : Value → List Asn → Prop} (hg : ∀ w, Sat W0 Γ w → Sat W0 Γ' w) (h : StepTo P W0 Γ' e op ty Post) : StepTo P W0 Γ e op ty Post :=
  fun w hw o a K Q k => h w (hg w hw) o a K Q k
theorem st_new_ints {op : Op} {ty : TypeId} {T : TypeId} {lit xs : List Int} (n : Nat) (h : lit = xs)
    (hx : ∀ w, (execOp (ev e) (bare op ty)).run P w = (newRow T (ints lit).flatten.toArray >>= fun a => pure (Next.value (.slice (some a) n n))).run P w) (hn : lit.length = n) :
    StepTo P W0 Γ e op ty (fun v Δ => ∃ b : Nat, v = .slice (some ⟨b, 0, none⟩) (List.length xs) n ∧ Δ = IntsA (some ⟨b, 0, none⟩) n xs :: Γ) := by
  subst h
  refine StepTo.val fun w hw => ⟨.slice (some ⟨w.heap.size, 0, none⟩) (List.length lit) n, { w with heap := w.heap.push (.cells (ints lit).flatten.toArray T (0, 0)) }, IntsA (some ⟨w.heap.size, 0, none⟩) n lit :: Γ, ?_, ⟨w.heap.size, rfl, rfl⟩, ?_⟩
  · rw [hx, hn]; rfl
  · have := RowsA.of_own (k := 1) (rows := ints lit) (hw.alloc (.cells (ints lit).flatten.toArray T (0, 0))) (ints_rows _) rfl
    rw [ints_length, hn] at this
    exact this
/-- Whether the slice of a part of ours is ours, too: what is ahead of it is given up. -/
theorem RowsA.suffix {j mx : Nat} {a' : Option Addr} (ha : a' = (if mx = j then a else a.map (·.add (j * k)))) (hmx : mx = cap) (hj : j ≤ rows.length) (h : Sat W0 (RowsA k a cap rows :: Γ) w) : Sat W0 (RowsA k a' (cap - j) (rows.drop j) :: Γ) w := by
  subst hmx
  have hlen := (RowsA.len h).2
  have hk := (RowsA.len h).1
  refine Sat.head_imp (A := RowsA k a mx rows) (B := RowsA k a' (mx - j) (rows.drop j)) (fun S I hh q => ?_) h
  obtain ⟨q1, q2⟩ := q
  refine ⟨fun r hr => q1 r (List.mem_of_mem_drop hr), ?_⟩
  rcases q2 with ⟨rfl, rfl⟩ | ⟨b, off, c, T, rfl, p2, p3, p4, p5, p6⟩
  · exact .inl ⟨by simp, by simp⟩
  · by_cases hm : mx = j
    · exact .inl ⟨by apply List.drop_eq_nil_of_le; omega, by omega⟩
    · refine .inr ⟨b, off + j * k, c, T, ?_, p2, p3, by simp; omega, ?_, ?_⟩
      · rw [ha, if_neg hm]; simp [add_none]
      · rw [Nat.add_assoc, ← Nat.add_mul]; rw [show j + (mx - j) = mx by omega]; exact p5
      · intro i v hv
        have : rows.flatten = (rows.take j).flatten ++ (rows.drop j).flatten := by rw [← List.flatten_append, List.take_append_drop]
        have h2 := p6 (j * k + i) v (by
          rw [this, List.getElem?_append_right (by rw [take_flat q1 j hj]; omega), take_flat q1 j hj]
          rw [show j * k + i - j * k = i by omega]; exact hv)
        rw [show off + j * k + i = off + (j * k + i) by omega]; exact h2
end
end Go.Proofs.Ytcigheahollkcaa
