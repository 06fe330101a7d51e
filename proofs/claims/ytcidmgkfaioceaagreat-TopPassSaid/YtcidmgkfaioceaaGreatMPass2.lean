/- Walks of the program's functions, and the plain laws of what they compute (part 2): EngC, EngD, EngE, Dat, Typ, MapB, MapK, Del.
   Conditions: none. -/
import Derived.Laws.MakeOwn
import Derived.MapKept
import Derived.Test.YtcidmgkfaioceaaGreatMPass1
set_option linter.unusedVariables false
set_option linter.unusedSimpArgs false
set_option linter.unusedSectionVars false
namespace Go.Proofs.YtcidmgkfaioceaaGreat
open Go Go.RowKit

/-- Is the guard met? As the hint says. -/
def gdOf (os : Array Oper) (e : Env) (i : Nat) (h : List Nat) : Option (Bool × List Nat × List (Value × Value)) :=
  match (operAt os i).guard with
  | none => some (true, h, [])
  | some _ =>
    match h with
    | [] => none
    | x :: h => (gval os e i).map fun t => (Nat.beq x 1, h, [(.bool t, .bool (Nat.beq x 1))])
theorem gdOf_ok {os : Array Oper} {e : Env} {i : Nat} {h h' : List Nat} {t : Bool} {q : List (Value × Value)} (hg : gdOf os e i h = some (t, h', q)) (hq : Alike q) : gval os e i = some t := by
  unfold gdOf at hg
  cases hgd : (operAt os i).guard with
  | none =>
    simp only [hgd, Option.some.injEq, Prod.mk.injEq] at hg
    obtain ⟨rfl, -, -⟩ := hg
    simp [gval, hgd]
  | some x =>
    simp only [hgd] at hg
    cases h with
    | nil => cases hg
    | cons y h =>
      simp only at hg
      cases hv : gval os e i with
      | none => simp [hv] at hg
      | some t' =>
        simp only [hv, Option.map_some, Option.some.injEq, Prod.mk.injEq] at hg
        obtain ⟨rfl, -, rfl⟩ := hg
        have := (Alike.cons hq).1
        simp only [Value.bool.injEq] at this
        rw [this]
/-- What has come for sure ahead of those of 'seen'. -/
def anc (os : Array Oper) : Nat → List Nat → List Nat → List Nat
  | 0, _, acc => acc
  | f + 1, todo, acc =>
    match todo with
    | [] => acc
    | i :: todo =>
      let new := (depsOf os i).filter fun d => !has acc d
      anc os f (new ++ todo) (acc ++ new)
def fsts (l : List (Nat × Nat)) : List Nat := l.map (·.1)
def without (C : List Nat) (l : List Nat) : List Nat := l.filter fun j => !has C j
def withoutP (C : List Nat) (l : List (Nat × Nat)) : List (Nat × Nat) := l.filter fun j => !has C j.1
theorem fsts_without {C : List Nat} {l : List (Nat × Nat)} : fsts (withoutP C l) = without C (fsts l) := by
  unfold fsts withoutP without
  rw [List.filter_map]; rfl
/-- Loads that are still to come: the same is read. -/
def stabOf (P : Program) (n : Fm) (os : Array Oper) (e : Env) (own : List OB) : List (Nat × Nat) → Option (List (Value × Value))
  | [] => some []
  | (j, q) :: r =>
    match Nat.ble 64 q with
    | true => stabOf P n os e own r
    | false =>
      match fine n os e j (dstOf os j), gval os e j, (dstOf os j).bind (lk e), semLd P own q (execOp (ev e) (operAt os j)), stabOf P n os e own r with
      | true, some g, some u, some ⟨.value v, l⟩, some a => some ((.bool g, .bool true) :: (u, v) :: (l ++ a))
      | _, _, _, _, _ => none
theorem stab_ok {P : Program} {n : Fm} {os : Array Oper} {e : Env} {own : List OB} {W0 : World} {Γ : List Asn} : ∀ {l : List (Nat × Nat)} {q : List (Value × Value)}, stabOf P n os e own l = some q → Alike q → ∀ x ∈ l, Nat.ble 64 x.2 = false → Stable P n W0 os e (owns own ++ Γ) x.1
  | [], _, _, _, _, hj, _ => by cases hj
  | (j, q) :: r, qs, h, hq, i, hi, hb => by
    unfold stabOf at h
    split at h
    · rename_i hb2
      rcases List.mem_cons.1 hi with e3 | hi
      · subst e3; rw [hb2] at hb; cases hb
      · exact stab_ok h hq i hi hb
    · split at h
      · rename_i g u v l a h1 h2 h3 h4 h5
        obtain rfl := Option.some.inj h
        obtain ⟨e1, hq⟩ := Alike.cons hq
        obtain ⟨e2, hq⟩ := Alike.cons hq
        obtain ⟨hq1, hq2⟩ := Alike.app hq
        simp only [Value.bool.injEq] at e1
        subst e1; subst e2
        rcases List.mem_cons.1 hi with e3 | hi
        · subst e3
          cases hd : dstOf os j with
          | none => simp [hd] at h3
          | some d =>
            simp only [hd, Option.bind_some] at h3
            rw [hd] at h1
            exact stable_cons j d u h1 h2 h3 (fun w hw => semLd_ok hw h4 hq1) stable_nil j (List.mem_cons_self ..)
        · exact stab_ok h5 hq2 i hi hb
      · cases h
theorem Stable.conv {P : Program} {n : Fm} {os : Array Oper} {e : Env} {W0 : World} {Γ Γ' : List Asn} {j : Nat} (hg : ∀ w, Sat W0 Γ w → Sat W0 Γ' w) (h : Stable P n W0 os e Γ' j) : Stable P n W0 os e Γ j :=
  let ⟨o, v, t, h1, h2, h3, h4, h5, h6, h7, h8⟩ := h; ⟨o, v, t, h1, h2, h3, h4, h5, h6, fun ht w hw => h7 ht w (hg w hw), h8⟩
theorem OlAll.sub {P : Program} {n : Fm} {os : Array Oper} {e : Env} {W0 : World} {gam : List Asn} {Pl Pl' : List (Nat × Nat)} (hs : ∀ x ∈ Pl', x ∈ Pl) (h : OlAll P n W0 os e gam Pl) : OlAll P n W0 os e gam Pl' := fun x hx => h x (hs x hx)
theorem OlAll.put {P : Program} {n : Fm} {os : Array Oper} {e : Env} {W0 : World} {gam : List Asn} {Pl : List (Nat × Nat)} {dst : Option Tmp} {v : Value} (hf : ∀ j ∈ fsts Pl, ∀ d, dst = some d → d ∉ looksOf os j ∧ dstOf os j ≠ some d) (h : OlAll P n W0 os e gam Pl) : OlAll P n W0 os (putE e dst v) gam Pl :=
  fun x hx hb Γ => (h x hx hb Γ).put (hf x.1 (List.mem_map.2 ⟨x, hx, rfl⟩))
/-- What is promised stands where it says. -/
def olsA (gam : List Asn) : List (Nat × Nat) → List (Bool × Asn)
  | [] => []
  | x :: r => (Nat.ble 64 x.2, bif Nat.ble 64 x.2 then nthA gam (x.2 - 64) else Asn.pure True) :: olsA gam r
/-- The same, under another name (for the kernel not to compare what they are of). -/
def olsB (gam : List Asn) (up : Nat → Nat) : List (Nat × Nat) → List (Bool × Asn)
  | [] => []
  | x :: r => (Nat.ble 64 (up x.2), bif Nat.ble 64 (up x.2) then nthA gam (up x.2 - 64) else Asn.pure True) :: olsB gam up r
theorem stab_all {P : Program} {n : Fm} {os : Array Oper} {e : Env} {own : List OB} {W0 : World} {gam F : List Asn} {l : List (Nat × Nat)} {q : List (Value × Value)} (h : stabOf P n os e own l = some q) (hq : Alike q) (ho : OlAll P n W0 os e gam l) : ∀ j ∈ fsts l, Stable P n W0 os e (owns own ++ (gam ++ F)) j := by
  intro j hj
  obtain ⟨x, hx, rfl⟩ := List.mem_map.1 hj
  cases hb : Nat.ble 64 x.2 with
  | false => exact stab_ok h hq x hx hb
  | true =>
    refine Stable.conv (fun w hw => ?_) (ho x hx hb (delA gam (x.2 - 64) ++ (owns own ++ F)))
    have h1 := Sat.swap hw
    exact sat_nthA h1

/-- Where a block stands of which io were taken, and up given back in front. -/
def reix : List Nat → Nat → Nat → Nat → Nat
  | [], _, up, j => j + up
  | i :: is, p, up, j => match Nat.beq j i with
    | true => p
    | false => reix is (p + 1) up (bif Nat.blt i j then j - 1 else j)
def upP (up : Nat → Nat) (l : List (Nat × Nat)) : List (Nat × Nat) := l.map fun x => (x.1, up x.2)
theorem OlAll.move {P : Program} {n : Fm} {os : Array Oper} {e : Env} {W0 : World} {gam gam' : List Asn} {up : Nat → Nat} {Pl : List (Nat × Nat)} (h : OlAll P n W0 os e gam Pl) (hm : olsA gam Pl = olsB gam' up Pl) : OlAll P n W0 os e gam' (upP up Pl) := by
  intro x hx hb Γ
  induction Pl with
  | nil => cases hx
  | cons y r ih =>
    have hm' : (Nat.ble 64 y.2, bif Nat.ble 64 y.2 then nthA gam (y.2 - 64) else Asn.pure True) :: olsA gam r = (Nat.ble 64 (up y.2), bif Nat.ble 64 (up y.2) then nthA gam' (up y.2 - 64) else Asn.pure True) :: olsB gam' up r := hm
    injection hm' with h1 h2
    rcases List.mem_cons.1 (show x ∈ (y.1, up y.2) :: upP up r from hx) with e1 | hx
    · subst e1
      simp only [Prod.mk.injEq] at h1
      simp only at hb
      have hb2 : Nat.ble 64 y.2 = true := by rw [h1.1]; exact hb
      have h3 := h1.2
      rw [hb, hb2] at h3
      simp only [cond_true] at h3
      have := h y (List.mem_cons_self ..) hb2 Γ
      rw [h3] at this
      exact this
    · exact ih (fun z hz => h z (List.mem_cons_of_mem _ hz)) h2 hx
theorem fsts_up {up : Nat → Nat} {l : List (Nat × Nat)} : fsts (upP up l) = fsts l := by
  unfold fsts upP; rw [List.map_map]; rfl
/-- Behind a writer. -/
def XS.putW (s : XS) (v : Value) (own : List OB) (gam : List Asn) (up : Nat → Nat) : XS :=
  match s.pos with
  | .ops os k i => ⟨.ops os (k - 1) (i + 1), s.stk, putE s.env (dstOf os i) v, own, gam⟩
  | .draw os i D Pp Pl =>
    let C := anc os os.size [i] []
    ⟨.draw os os.size (i :: D) (without C Pp) (upP up (withoutP C Pl)), s.stk, putE s.env (dstOf os i) v, own, gam⟩
  | .turn os i D Pp Pl =>
    let C := anc os os.size [i] []
    ⟨.draw os os.size (i :: D) (without C Pp) (upP up (withoutP C Pl)), s.stk, putE s.env (dstOf os i) v, own, gam⟩
  | _ => s
/-- What is to be shown where a writer is in hand. -/
def XS.ok1 (n : Fm) (s : XS) : Option (List (Value × Value)) :=
  match s.pos with
  | .ops os k i =>
    match Nat.blt 0 k && fine n os s.env i (dstOf os i), gval os s.env i with
    | true, some g => some [(.bool g, .bool true)]
    | _, _ => none
  | .draw os i D Pp Pl =>
    let C := anc os os.size [i] []
    match fine n os s.env i (dstOf os i) && writeOk os i (dstOf os i) D C Pp (fsts Pl) (without C Pp) (without C (fsts Pl)), gval os s.env i with
    | true, some g => some [(.bool g, .bool true)]
    | _, _ => none
  | .turn os i D Pp Pl =>
    let C := anc os os.size [i] []
    match fine n os s.env i (dstOf os i) && turnOk os i (dstOf os i) D C Pp (fsts Pl) (without C Pp) (without C (fsts Pl)), gval os s.env i with
    | true, some g => some [(.bool g, .bool true)]
    | _, _ => none
  | _ => none
def XS.ok2 (P : Program) (n : Fm) (s : XS) (v : Value) (own : List OB) (up : Nat → Nat) : Option (List (Value × Value)) :=
  match s.pos with
  | .draw os i _ _ Pl => stabOf P n os (putE s.env (dstOf os i) v) own (upP up (withoutP (anc os os.size [i] []) Pl))
  | .turn os i _ _ Pl => stabOf P n os (putE s.env (dstOf os i) v) own (upP up (withoutP (anc os os.size [i] []) Pl))
  | _ => some []
/-- Where what is promised stands, ahead and behind. -/
def XS.ol1 (s : XS) : List (Bool × Asn) :=
  match s.pos with
  | .draw os i _ _ Pl => olsA s.gam (withoutP (anc os os.size [i] []) Pl)
  | .turn os i _ _ Pl => olsA s.gam (withoutP (anc os os.size [i] []) Pl)
  | _ => []
def XS.ol2 (s : XS) (gam : List Asn) (up : Nat → Nat) : List (Bool × Asn) :=
  match s.pos with
  | .draw os i _ _ Pl => olsB gam up (withoutP (anc os os.size [i] []) Pl)
  | .turn os i _ _ Pl => olsB gam up (withoutP (anc os os.size [i] []) Pl)
  | _ => []
theorem read_fresh {os : Array Oper} {i : Nat} {dst : Option Tmp} {D Pp Pl : List Nat} (h : readOk os i dst D Pp Pl = true) : ∀ j ∈ Pl, ∀ d, dst = some d → d ∉ looksOf os j ∧ dstOf os j ≠ some d := by
  simp only [readOk, Bool.and_eq_true] at h
  exact fun j hj => freshFor_spec h.1.2 j (List.mem_append_right _ hj)
theorem write_fresh {os : Array Oper} {i : Nat} {dst : Option Tmp} {D C Pp Pl Pp' Pl' : List Nat} (h : writeOk os i dst D C Pp Pl Pp' Pl' = true) : ∀ j ∈ Pl', ∀ d, dst = some d → d ∉ looksOf os j ∧ dstOf os j ≠ some d := by
  simp only [writeOk, turnOk, Bool.and_eq_true] at h
  exact fun j hj => freshFor_spec h.2.2 j (List.mem_append_right _ hj)
theorem turn_fresh {os : Array Oper} {i : Nat} {dst : Option Tmp} {D C Pp Pl Pp' Pl' : List Nat} (h : turnOk os i dst D C Pp Pl Pp' Pl' = true) : ∀ j ∈ Pl', ∀ d, dst = some d → d ∉ looksOf os j ∧ dstOf os j ≠ some d := by
  simp only [turnOk, Bool.and_eq_true] at h
  exact fun j hj => freshFor_spec h.2 j (List.mem_append_right _ hj)
theorem ol_first {P : Program} {n : Fm} {W0 : World} {os : Array Oper} {e : Env} {gam : List Asn} {i j : Nat} {Pl : List (Nat × Nat)} (hj : Nat.blt j 64 = true) (h : OlAll P n W0 os e gam Pl) : OlAll P n W0 os e gam ((i, j) :: Pl) := by
  intro x hx hb
  rcases List.mem_cons.1 hx with rfl | hx
  · have h1 : j < 64 := by simpa using hj
    have h2 : 64 ≤ j := Nat.le_of_ble_eq_true hb
    omega
  · exact h x hx hb
/-- The operation in hand. -/
def XS.op (s : XS) : Oper :=
  match s.pos with
  | .ops os _ i => operAt os i
  | .draw os i _ _ _ => operAt os i
  | .turn os i _ _ _ => operAt os i
  | _ => default
def XS.sem (s : XS) : Sem Next := execOp (ev s.env) s.op

theorem putZ_ok {X : Ctx} {s : XS} {Z : Type} (rv : Z → Value) (ow : Z → List OB) (ga : Z → List Asn) (up : Z → Nat → Nat) {q : List (Value × Value)} (h : s.ok1 X.n = some q) (hq : Alike q)
    (h2 : ∀ z, ∃ q, s.ok2 X.P X.n (rv z) (ow z) (up z) = some q ∧ Alike q) (h3 : ∀ z, s.ol1 = s.ol2 (ga z) (up z))
    (st : StepTo X.P X.W0 (s.all X.F) s.env s.op.op s.op.type fun v Δ => ∃ z, v = rv z ∧ Δ = owns (ow z) ++ (ga z ++ X.F)) (k : ∀ z, GP X (s.putW (rv z) (ow z) (ga z) (up z))) : GP X s := by
  obtain ⟨pos, stk, env, own0, gam0⟩ := s
  unfold XS.ok1 at h
  cases pos with
  | ops os k' i =>
    simp only at h
    split at h
    · rename_i g hc hg
      obtain rfl := Option.some.inj h
      have e1 := (Alike.cons hq).1
      simp only [Value.bool.injEq] at e1
      subst e1
      simp only [Bool.and_eq_true] at hc
      obtain ⟨hk, hf⟩ := hc
      have hk' : 0 < k' := by simpa using hk
      obtain ⟨k2, rfl⟩ : ∃ k2, k' = k2 + 1 := ⟨k' - 1, by omega⟩
      obtain ⟨h1, h2', h3, h4⟩ := fine_key hf
      exact ops_step h1 (gval_is hg) h2' h3 h4 st fun v' Γ' ⟨z, e1, e2⟩ => by subst e1; subst e2; exact k z
    · cases h
  | draw os i D Pp Pl =>
    simp only at h
    split at h
    · rename_i g hc hg
      obtain rfl := Option.some.inj h
      have e1 := (Alike.cons hq).1
      simp only [Value.bool.injEq] at e1
      subst e1
      simp only [Bool.and_eq_true] at hc
      obtain ⟨hf, hw⟩ := hc
      obtain ⟨h1, h2', h3', h4⟩ := fine_key hf
      intro hol
      refine draw_write h1 (gval_is hg) h2' h3' h4 hw st fun v' Γ' ⟨z, e1, e2⟩ => ?_
      subst e1; subst e2
      obtain ⟨q2, hq2, hq3⟩ := h2 z
      have ho1 : OlAll X.P X.n X.W0 os env gam0 (withoutP (anc os os.size [i] []) Pl) := hol.sub fun x hx => (List.mem_filter.1 hx).1
      have ho2 : OlAll X.P X.n X.W0 os (putE env (dstOf os i) (rv z)) gam0 (withoutP (anc os os.size [i] []) Pl) := ho1.put (by rw [fsts_without]; exact write_fresh hw)
      have ho3 := ho2.move (h3 z)
      have hs := stab_all (W0 := X.W0) (gam := ga z) (F := X.F) hq2 hq3 ho3
      rw [fsts_up, fsts_without] at hs
      refine ⟨hs, ?_⟩
      have := k z
      unfold XS.putW GP at this
      simp only at this
      have e : (List.map (fun x => x.1) (upP (up z) (withoutP (anc os os.size [i] []) Pl))) = without (anc os os.size [i] []) (fsts Pl) := by
        rw [← fsts_without, ← fsts_up (up := up z)]; rfl
      rw [e] at this
      exact this ho3
    · cases h
  | turn os i D Pp Pl =>
    simp only at h
    split at h
    · rename_i g hc hg
      obtain rfl := Option.some.inj h
      have e1 := (Alike.cons hq).1
      simp only [Value.bool.injEq] at e1
      subst e1
      simp only [Bool.and_eq_true] at hc
      obtain ⟨hf, hw⟩ := hc
      obtain ⟨h1, h2', h3', h4⟩ := fine_key hf
      intro hol
      refine (turn_write h1 (gval_is hg) h2' h3' h4 hw st fun v' Γ' ⟨z, e1, e2⟩ => ?_).2.2.2
      subst e1; subst e2
      obtain ⟨q2, hq2, hq3⟩ := h2 z
      have ho1 : OlAll X.P X.n X.W0 os env gam0 (withoutP (anc os os.size [i] []) Pl) := hol.sub fun x hx => (List.mem_filter.1 hx).1
      have ho2 : OlAll X.P X.n X.W0 os (putE env (dstOf os i) (rv z)) gam0 (withoutP (anc os os.size [i] []) Pl) := ho1.put (by rw [fsts_without]; exact turn_fresh hw)
      have ho3 := ho2.move (h3 z)
      have hs := stab_all (W0 := X.W0) (gam := ga z) (F := X.F) hq2 hq3 ho3
      rw [fsts_up, fsts_without] at hs
      refine ⟨hs, ?_⟩
      have := k z
      unfold XS.putW GP at this
      simp only at this
      have e : (List.map (fun x => x.1) (upP (up z) (withoutP (anc os os.size [i] []) Pl))) = without (anc os os.size [i] []) (fsts Pl) := by
        rw [← fsts_without, ← fsts_up (up := up z)]; rfl
      rw [e] at this
      exact this ho3
    · cases h
  | _ => cases h
theorem ol_same {s : XS} : s.ol1 = s.ol2 s.gam fun j => j := by
  unfold XS.ol1 XS.ol2
  have : ∀ l : List (Nat × Nat), olsA s.gam l = olsB s.gam (fun j => j) l := fun l => by
      induction l with
      | nil => rfl
      | cons x r ih => unfold olsA olsB; rw [ih]
  split
  · exact this _
  · exact this _
  · rfl
theorem putW_ok {X : Ctx} {s : XS} {v : Value} {own : List OB} {gam : List Asn} {q a : List (Value × Value)} (h : s.ok1 X.n = some q) (h2 : s.ok2 X.P X.n v own (fun j => j) = some a) (hq : Alike (q ++ a)) (h3 : s.ol1 = s.ol2 gam fun j => j)
    (st : StepTo X.P X.W0 (s.all X.F) s.env s.op.op s.op.type (Is v (owns own ++ (gam ++ X.F)))) (k : GP X (s.putW v own gam fun j => j)) : GP X s :=
  putZ_ok (Z := Unit) (fun _ => v) (fun _ => own) (fun _ => gam) (fun _ j => j) h hq.app.1 (fun _ => ⟨a, h2, hq.app.2⟩) (fun _ => h3) (st.mono fun _ _ ⟨e1, e2⟩ => ⟨(), e1, e2⟩) fun _ => k

def SP' (s : XS) (h : List Nat) : Option SP := some ⟨s, h, [], []⟩
/-- At a row of two: 100 and more: stop at so many from here on. -/
def seqH (f : List Nat → Option SP) (h : List Nat) : Option SP :=
  match h with
  | [] => f []
  | x :: r => match Nat.blt x 100 || Nat.ble 300 x with
    | true => f (x :: r)
    | false => match Nat.beq x 100 with
      | true => none
      | false => f ((x - 1) :: r)
/-- At a region's operation: 300 and more: stop at so many from here on. -/
def opsH (f : List Nat → Option SP) (h : List Nat) : Option SP :=
  match h with
  | [] => f []
  | x :: r => match Nat.blt x 300 with
    | true => f (x :: r)
    | false => match Nat.beq x 300 with
      | true => none
      | false => f ((x - 1) :: r)
theorem opsH_some {f : List Nat → Option SP} {h : List Nat} {r : SP} (hr : opsH f h = some r) : ∃ h, f h = some r := by
  unfold opsH at hr
  split at hr
  · exact ⟨_, hr⟩
  · split at hr
    · exact ⟨_, hr⟩
    · split at hr
      · cases hr
      · exact ⟨_, hr⟩
/-- An operation of a region in the text's order. -/
def stepOps (P : Program) (n : Fm) (s : XS) (os : Array Oper) (k i : Nat) (h : List Nat) : Option SP :=
  match gdOf os s.env i h with
  | none => none
  | some (true, h, q) =>
    match fine n os s.env i (dstOf os i), valOf P s.env s.own (operAt os i) h with
    | true, some r => some ⟨⟨.ops os k (i + 1), s.stk, putE s.env (dstOf os i) r.v, r.own, s.gam⟩, r.h, q ++ r.q, r.p⟩
    | _, _ => none
  | some (false, h, q) =>
    match fineOff n os i (dstOf os i) with
    | true => some ⟨⟨.ops os k (i + 1), s.stk, putE s.env (dstOf os i) undef, s.own, s.gam⟩, h, q, []⟩
    | false => none
/-- One of a region whose order is open. -/
def stepDraw (P : Program) (n : Fm) (s : XS) (os : Array Oper) (i : Nat) (D Pp : List Nat) (Pl : List (Nat × Nat)) (h : List Nat) : Option SP :=
  match gdOf os s.env i h with
  | none => none
  | some (false, h, q) =>
    match fine n os s.env i (dstOf os i) && readOk os i (dstOf os i) D Pp (fsts Pl) with
    | true => some ⟨⟨.draw os os.size (i :: D) (i :: Pp) Pl, s.stk, putE s.env (dstOf os i) undef, s.own, s.gam⟩, h, q, []⟩
    | false => none
  | some (true, h, q) =>
    match fine n os s.env i (dstOf os i) with
    | false => none
    | true =>
      match cls (operAt os i).op, isStore (operAt os i).op, readOk os i (dstOf os i) D Pp (fsts Pl) with
      | 2, false, true =>
        match h with
        | [] => none
        | j :: h =>
          match semLd P s.own j (execOp (ev s.env) (operAt os i)), Nat.blt j 64 with
          | some ⟨.value v, l⟩, true => some ⟨⟨.draw os os.size (i :: D) Pp ((i, j) :: Pl), s.stk, putE s.env (dstOf os i) v, s.own, s.gam⟩, h, q ++ l, []⟩
          | _, _ => none
      | _, false, true =>
        match valOf P s.env [] (operAt os i) h with
        | some r => some ⟨⟨.draw os os.size (i :: D) (i :: Pp) Pl, s.stk, putE s.env (dstOf os i) r.v, s.own, s.gam⟩, r.h, q ++ (r.q ++ (if r.own.isEmpty then [] else [(undef, .bool true)])), r.p⟩
        | none => none
      | _, _, _ =>
        match valOf P s.env s.own (operAt os i) h with
        | some r =>
          match s.ok1 n, s.ok2 P n r.v r.own (fun j => j) with
          | some a, some b => some ⟨s.putW r.v r.own s.gam (fun j => j), r.h, q ++ (r.q ++ (a ++ b)), r.p⟩
          | _, _ => none
        | none => none
/-- The turn of one of several. -/
def stepTurn (P : Program) (n : Fm) (s : XS) (os : Array Oper) (i : Nat) (h : List Nat) : Option SP :=
  match gdOf os s.env i h with
  | some (true, h, q) =>
    match valOf P s.env s.own (operAt os i) h with
    | some r =>
      match s.ok1 n, s.ok2 P n r.v r.own (fun j => j) with
      | some a, some b => some ⟨s.putW r.v r.own s.gam (fun j => j), r.h, q ++ (r.q ++ (a ++ b)), r.p⟩
      | _, _ => none
    | none => none
  | _ => none
def step (P : Program) (n : Fm) (s : XS) (h : List Nat) : Option SP :=
  match s.pos with
  | .turn os i _ _ _ => stepTurn P n s os i h
  | .code (.seq a b) => seqH (SP' ⟨.code a, .thn b :: s.stk, s.env, s.own, s.gam⟩) h
  | .code .skip => SP' ⟨.ex .normal, s.stk, s.env, s.own, s.gam⟩ h
  | .code (.label _) => SP' ⟨.ex .normal, s.stk, s.env, s.own, s.gam⟩ h
  | .code .ret => SP' ⟨.ex .ret, s.stk, s.env, s.own, s.gam⟩ h
  | .code (.exit i) => SP' ⟨.ex (.exit i), s.stk, s.env, s.own, s.gam⟩ h
  | .code (.block i c) => SP' ⟨.code c, .blk i :: s.stk, s.env, s.own, s.gam⟩ h
  | .code (.region _ os false) => SP' ⟨.ops os os.size 0, s.stk, s.env, s.own, s.gam⟩ h
  | .code (.region _ os true) => match P.follows .mixedOrders with | true => SP' ⟨.draw os os.size [] [] [], s.stk, s.env, s.own, s.gam⟩ h | false => none
  | .code (.cond o x y) =>
    match h with
    | [] => none
    | t :: h =>
      match knows s.env o, ev s.env o with
      | true, .bool b => some ⟨⟨.code (bif Nat.beq t 1 then x else y), s.stk, s.env, s.own, s.gam⟩, h, [(.bool b, .bool (Nat.beq t 1))], []⟩
      | _, _ => none
  | .code _ => none
  | .ex x =>
    match s.stk with
    | [] => none
    | .thn c :: r =>
      match x with
      | .normal => SP' ⟨.code c, r, s.env, s.own, s.gam⟩ h
      | .ret => SP' ⟨.ex .ret, r, s.env, s.own, s.gam⟩ h
      | .exit i => SP' ⟨.ex (.exit i), r, s.env, s.own, s.gam⟩ h
      | _ => none
    | .blk j :: r =>
      match x with
      | .normal => SP' ⟨.ex .normal, r, s.env, s.own, s.gam⟩ h
      | .ret => SP' ⟨.ex .ret, r, s.env, s.own, s.gam⟩ h
      | .exit i => SP' ⟨.ex (bif Nat.beq i j then .normal else .exit i), r, s.env, s.own, s.gam⟩ h
      | _ => none
    | .rnd _ :: r =>
      match x with
      | .ret => SP' ⟨.ex .ret, r, s.env, s.own, s.gam⟩ h
      | .exit i => SP' ⟨.ex (.exit i), r, s.env, s.own, s.gam⟩ h
      | _ => none
  | .ops _ 0 _ => opsH (SP' ⟨.ex .normal, s.stk, s.env, s.own, s.gam⟩) h
  | .ops os (k + 1) i => opsH (stepOps P n s os k i) h
  | .draw os i D Pp Pl =>
    match Nat.beq i os.size with
    | false => stepDraw P n s os i D Pp Pl h
    | true =>
      match Nat.beq D.length os.size && (List.range os.size).all (has D) with
      | true => SP' ⟨.ex .normal, s.stk, s.env, s.own, s.gam⟩ h
      | false =>
        match h with
        | [] => none
        | x :: h => SP' ⟨.draw os x D Pp Pl, s.stk, s.env, s.own, s.gam⟩ h

theorem sp_some {s : XS} {h : List Nat} {r : SP} (hr : SP' s h = some r) : r.s = s := by
  obtain rfl := Option.some.inj hr; rfl
theorem stepOps_ok {X : Ctx} {s : XS} {os : Array Oper} {k i : Nat} {h : List Nat} {r : SP} (hs : s.pos = .ops os (k + 1) i) (hr : stepOps X.P X.n s os k i h = some r) (hq : Alike r.q) (hp : AllP r.p) (hk : GP X r.s) : GP X s := by
  obtain ⟨pos, stk, env, own, gam⟩ := s
  simp only at hs
  subst hs
  unfold stepOps at hr
  split at hr
  · cases hr
  · rename_i h' q hg
    split at hr
    · rename_i v hf hv
      obtain rfl := Option.some.inj hr
      obtain ⟨hq1, hq2⟩ := Alike.app hq
      obtain ⟨h1, h2, h3, h4⟩ := fine_key hf
      exact ops_step h1 (gval_is (gdOf_ok hg hq1)) h2 h3 h4 (valOf_ok (Γ := gam ++ X.F) hv hq2 hp) fun v' Γ' ⟨e1, e2⟩ => by subst e1; subst e2; exact hk
    · cases hr
  · rename_i h' q hg
    split at hr
    · rename_i hf
      obtain rfl := Option.some.inj hr
      obtain ⟨h1, h4⟩ := fineOff_key hf
      exact ops_off h1 (gval_is (gdOf_ok hg hq)) h4 hk
    · cases hr
theorem stepDraw_ok {X : Ctx} {s : XS} {os : Array Oper} {i : Nat} {D Pp : List Nat} {Pl : List (Nat × Nat)} {h : List Nat} {r : SP} (hs : s.pos = .draw os i D Pp Pl) (hr : stepDraw X.P X.n s os i D Pp Pl h = some r) (hq : Alike r.q) (hp : AllP r.p) (hk : GP X r.s) : GP X s := by
  obtain ⟨pos, stk, env, own, gam⟩ := s
  simp only at hs
  subst hs
  unfold stepDraw at hr
  split at hr
  · cases hr
  · rename_i h' q hg
    split at hr
    · rename_i hc
      obtain rfl := Option.some.inj hr
      simp only [Bool.and_eq_true] at hc
      obtain ⟨h1, h2, h3, h4⟩ := fine_key hc.1
      intro hol
      exact draw_off h1 (gval_is (gdOf_ok hg hq)) h2 h3 h4 hc.2 (hk (hol.put (read_fresh hc.2)))
    · cases hr
  · rename_i h' q hg
    split at hr
    · cases hr
    · rename_i hf
      obtain ⟨h1, h2, h3, h4⟩ := fine_key hf
      split at hr
      · rename_i hcls hst hok
        split at hr
        · cases hr
        · rename_i j h2'
          split at hr
          · rename_i v l hld hj
            obtain rfl := Option.some.inj hr
            obtain ⟨hq1, hq2⟩ := Alike.app hq
            intro hol
            exact draw_load v h1 (gval_is (gdOf_ok hg hq1)) h2 h3 h4 hok (fun w hw => semLd_ok (Γ := gam ++ X.F) hw hld hq2) (hk (ol_first hj (hol.put (read_fresh hok))))
          · cases hr
      · rename_i hcls hst hok hne
        split at hr
        · rename_i v hv
          obtain rfl := Option.some.inj hr
          obtain ⟨hq1, hq2⟩ := Alike.app hq
          obtain ⟨hq2, hq3⟩ := Alike.app hq2
          have ho : v.own = [] := by
            cases hov : v.own with
            | nil => rfl
            | cons x r =>
              rw [hov] at hq3
              have := (Alike.cons (show Alike ((undef, Value.bool true) :: []) from hq3)).1
              simp [undef] at this
          intro hol
          refine draw_quiet v.v h1 (gval_is (gdOf_ok hg hq1)) h2 h3 h4 hok (fun Γ => ?_) (hk (hol.put (read_fresh hok)))
          have := valOf_ok (P := X.P) (W0 := X.W0) (Γ := Γ) hv hq2 hp
          rw [ho] at this
          exact this
        · cases hr
      · split at hr
        · rename_i v hv
          split at hr
          · rename_i a b ha hb
            obtain rfl := Option.some.inj hr
            obtain ⟨hq1, hq2⟩ := Alike.app hq
            obtain ⟨hq2, hq3⟩ := Alike.app hq2
            exact putW_ok (gam := gam) ha hb hq3 ol_same (valOf_ok (Γ := gam ++ X.F) hv hq2 hp) hk
          · cases hr
        · cases hr
theorem stepTurn_ok {X : Ctx} {s : XS} {os : Array Oper} {i : Nat} {D Pp : List Nat} {Pl : List (Nat × Nat)} {h : List Nat} {r : SP} (hs : s.pos = .turn os i D Pp Pl) (hr : stepTurn X.P X.n s os i h = some r) (hq : Alike r.q) (hp : AllP r.p) (hk : GP X r.s) : GP X s := by
  obtain ⟨pos, stk, env, own, gam⟩ := s
  simp only at hs
  subst hs
  unfold stepTurn at hr
  split at hr
  · rename_i h' q hg
    split at hr
    · rename_i v hv
      split at hr
      · rename_i a b ha hb
        obtain rfl := Option.some.inj hr
        obtain ⟨hq1, hq2⟩ := Alike.app hq
        obtain ⟨hq2, hq3⟩ := Alike.app hq2
        exact putW_ok (gam := gam) ha hb hq3 ol_same (valOf_ok (Γ := gam ++ X.F) hv hq2 hp) hk
      · cases hr
    · cases hr
  · cases hr
theorem step_ok {X : Ctx} {s : XS} {h : List Nat} {r : SP} (hr : step X.P X.n s h = some r) (hq : Alike r.q) (hp : AllP r.p) (hk : GP X r.s) : GP X s := by
  have hr0 := hr
  obtain ⟨pos, stk, env, own, gam⟩ := s
  unfold step at hr
  split at hr <;> (try cases hr; done)
  · rename_i os i D Pp Pl hpos; cases hpos; exact stepTurn_ok rfl hr hq hp hk
  · rename_i a b hpos; cases hpos
    have hs : r.s = ⟨.code a, .thn b :: stk, env, own, gam⟩ := by
      unfold seqH at hr
      split at hr
      · exact sp_some hr
      · split at hr
        · exact sp_some hr
        · split at hr
          · cases hr
          · exact sp_some hr
    rw [hs] at hk; exact at_seq rfl hk
  · rename_i hpos; cases hpos; rw [sp_some hr] at hk; exact at_skip rfl hk
  · rename_i l hpos; cases hpos; rw [sp_some hr] at hk; exact at_label rfl hk
  · rename_i hpos; cases hpos; rw [sp_some hr] at hk; exact at_ret rfl hk
  · rename_i l hpos; cases hpos; rw [sp_some hr] at hk; exact at_exit rfl hk
  · rename_i i c hpos; cases hpos; rw [sp_some hr] at hk; exact at_block rfl hk
  · rename_i i os hpos; cases hpos; rw [sp_some hr] at hk; exact at_region os.size rfl rfl hk
  · rename_i i os hpos; cases hpos
    split at hr
    · rename_i hm; rw [sp_some hr] at hk; exact at_region_draw hm rfl (hk fun x hx => by cases hx)
    · cases hr
  · rename_i o x y hpos; cases hpos
    split at hr
    · cases hr
    · rename_i t h'
      split at hr
      · rename_i b hkn hev
        obtain rfl := Option.some.inj hr
        have e1 := (Alike.cons hq).1
        simp only [Value.bool.injEq] at e1
        cases hb : Nat.beq t 1 with
        | true => rw [hb] at hk e1; exact at_true rfl hkn hev e1 hk
        | false => rw [hb] at hk e1; exact at_false rfl hkn hev e1 hk
      · cases hr
  · rename_i x hpos; cases hpos
    split at hr
    · cases hr
    · rename_i c r hst; simp only at hst; subst hst
      split at hr
      · rw [sp_some hr] at hk; exact hk
      · rw [sp_some hr] at hk; exact hk
      · rw [sp_some hr] at hk; exact hk
      · cases hr
    · rename_i j r hst; simp only at hst; subst hst
      split at hr
      · rw [sp_some hr] at hk; exact hk
      · rw [sp_some hr] at hk; exact hk
      · rename_i i
        rw [sp_some hr] at hk
        cases hb : Nat.beq i j with
        | true =>
          rw [hb] at hk
          obtain rfl := Nat.eq_of_beq_eq_true hb
          exact at_in_here hk
        | false => rw [hb] at hk; exact at_in_other hb hk
      · cases hr
    · rename_i N r hst; simp only at hst; subst hst
      split at hr
      · rw [sp_some hr] at hk; exact hk
      · rw [sp_some hr] at hk; exact hk
      · cases hr
  · rename_i os i hpos; cases hpos; obtain ⟨_, hr⟩ := opsH_some hr; rw [sp_some hr] at hk; exact ops_end hk
  · rename_i os k i hpos; cases hpos; obtain ⟨_, hr⟩ := opsH_some hr; exact stepOps_ok rfl hr hq hp hk
  · rename_i os i D Pp Pl hpos; cases hpos
    split at hr
    · exact stepDraw_ok rfl hr hq hp hk
    · split at hr
      · rename_i hc; rw [sp_some hr] at hk
        simp only [Bool.and_eq_true] at hc
        exact fun _ => draw_end hc.2 hk
      · split at hr
        · cases hr
        · rw [sp_some hr] at hk; exact hk

/-- What many steps come to. -/
structure DR where
  s : XS
  q : List (Value × Value)
  p : List Prop
def drive (P : Program) (n : Fm) : Nat → XS → List Nat → DR
  | 0, s, _ => ⟨s, [], []⟩
  | f + 1, s, h =>
    match step P n s h with
    | none => ⟨s, [], []⟩
    | some r => ⟨(drive P n f r.s r.h).s, r.q ++ (drive P n f r.s r.h).q, r.p ++ (drive P n f r.s r.h).p⟩
theorem drive_ok {X : Ctx} : ∀ {f : Nat} {s : XS} {h : List Nat}, Alike (drive X.P X.n f s h).q → AllP (drive X.P X.n f s h).p → GP X (drive X.P X.n f s h).s → GP X s
  | 0, _, _, _, _, hk => hk
  | f + 1, s, h, hq, hp, hk => by
    unfold drive at hq hp hk
    split at hq
    · rename_i hr; simp only [hr] at hk; exact hk
    · rename_i r hr
      simp only [hr] at hp hk
      obtain ⟨hq1, hq2⟩ := Alike.app hq
      exact step_ok hr hq1 hp.app.1 (drive_ok hq2 hp.app.2 hk)
end Go.Proofs.YtcidmgkfaioceaaGreat
namespace Go.Proofs.YtcidmgkfaioceaaGreat
open Go Go.RowKit

/-- What is at hand: blocks of ours, what else is known. -/
structure Rs where
  own : List OB
  gam : List Asn
def Rs.all (r : Rs) (Γ : List Asn) : List Asn := owns r.own ++ (r.gam ++ Γ)
/-- A function's contract: called with these values where this is at hand, it answers so, and leaves that. -/
def Fn (P : Program) (f : FuncId) (args : List Value) (pre : Rs) {Z : Type} (rv : Z → Value) (post : Z → Rs) : Prop :=
  ∀ (W0 : World) (Γ : List Asn), Tr P f args.toArray W0 (pre.all Γ) fun r Δ => ∃ z, r = rv z ∧ Δ = (post z).all Γ
/-- An operation's. -/
def Oc (P : Program) (sem : Sem Next) (pre : Rs) {Z : Type} (rv : Z → Value) (post : Z → Rs) : Prop :=
  ∀ (W0 : World) (Γ : List Asn) (w : World), Sat W0 (pre.all Γ) w → ∃ z w' x, sem.run P w = .ok x w' ∧ (x = .value (rv z) ∨ (x = .skip ∧ rv z = undef)) ∧ Sat W0 ((post z).all Γ) w'
/-- The same said in other words. -/
def Gh (pre : Rs) {Z : Type} (post : Z → Rs) : Prop := ∀ (W0 : World) (Γ : List Asn) (w : World), Sat W0 (pre.all Γ) w → ∃ z, Sat W0 ((post z).all Γ) w
/-- A function that touches nothing. -/
def Fq (P : Program) (f : FuncId) (args : List Value) (v : Value) : Prop := ∀ (W0 : World) (Γ : List Asn), Tr P f args.toArray W0 Γ fun r Δ => r = v ∧ Δ = Γ

/-! What is taken of a list, and what is left. -/
def pkA : List Nat → List Asn → List Asn
  | [], _ => []
  | i :: is, l => nthA l i :: pkA is (delA l i)
def rsA : List Nat → List Asn → List Asn
  | [], l => l
  | i :: is, l => rsA is (delA l i)
def pkO : List Nat → List OB → List OB
  | [], _ => []
  | i :: is, l => match nthO l i with | some o => o :: pkO is (delO l i) | none => []
def rsO : List Nat → List OB → List OB
  | [], l => l
  | i :: is, l => match nthO l i with | some _ => rsO is (delO l i) | none => l

section
variable {W0 w : World} {Γ Δ A B C : List Asn}
theorem sat_pkA : ∀ {is : List Nat} {g : List Asn} {Γ : List Asn}, Sat W0 (g ++ Γ) w → Sat W0 (pkA is g ++ (rsA is g ++ Γ)) w
  | [], _, _, h => h
  | i :: is, g, Γ, h => by
    have h1 := sat_nthA (i := i) h
    have h2 : Sat W0 (delA g i ++ ([nthA g i] ++ Γ)) w := Sat.swap (A := [nthA g i]) h1
    have h3 := sat_pkA (is := is) h2
    have h4 : Sat W0 ((pkA is (delA g i) ++ rsA is (delA g i)) ++ ([nthA g i] ++ Γ)) w := by simpa using h3
    have h5 := h4.swap
    simpa [pkA, rsA] using h5
theorem owns_cons (o : OB) (l : List OB) : owns (o :: l) = o.asn :: owns l := rfl
theorem owns_append (l m : List OB) : owns (l ++ m) = owns l ++ owns m := by simp [owns]
theorem sat_nthO : ∀ {l : List OB} {i : Nat} {o : OB} {Γ : List Asn}, nthO l i = some o → Sat W0 (owns l ++ Γ) w → Sat W0 (o.asn :: (owns (delO l i) ++ Γ)) w
  | [], _, _, _, h, _ => by cases h
  | _ :: _, 0, _, _, h, hw => by obtain rfl := Option.some.inj h; exact hw
  | x :: r, i + 1, o, Γ, h, hw => by
    have h2 : Sat W0 (owns r ++ (x.asn :: Γ)) w := Sat.swap (A := [x.asn]) hw
    have h3 := sat_nthO (show nthO r i = some o from h) h2
    have h4 : Sat W0 ((o.asn :: owns (delO r i)) ++ ([x.asn] ++ Γ)) w := by simpa using h3
    have h5 := h4.swap
    have h6 : Sat W0 ([x.asn] ++ ([o.asn] ++ (owns (delO r i) ++ Γ))) w := by simpa using h5
    have h7 := h6.swap
    simpa [delO, owns] using h7
theorem sat_pkO : ∀ {is : List Nat} {l : List OB} {Γ : List Asn}, Sat W0 (owns l ++ Γ) w → Sat W0 (owns (pkO is l) ++ (owns (rsO is l) ++ Γ)) w
  | [], _, _, h => h
  | i :: is, l, Γ, h => by
    unfold pkO rsO
    split
    · rename_i o ho
      have h1 := sat_nthO ho h
      have h2 : Sat W0 (owns (delO l i) ++ ([o.asn] ++ Γ)) w := Sat.swap (A := [o.asn]) h1
      have h3 := sat_pkO (is := is) h2
      have h4 : Sat W0 ((owns (pkO is (delO l i)) ++ owns (rsO is (delO l i))) ++ ([o.asn] ++ Γ)) w := by simpa using h3
      have h5 := h4.swap
      simpa [owns] using h5
    · exact h
/-- What is taken stands first. -/
theorem sat_take (io ia : List Nat) {own : List OB} {gam F : List Asn} (h : Sat W0 (owns own ++ (gam ++ F)) w) : Sat W0 ((⟨pkO io own, pkA ia gam⟩ : Rs).all (owns (rsO io own) ++ (rsA ia gam ++ F))) w := by
  have h1 := sat_pkO (is := io) h
  have h2 : Sat W0 (gam ++ ((owns (pkO io own) ++ owns (rsO io own)) ++ F)) w := by
    have : Sat W0 ((owns (pkO io own) ++ owns (rsO io own)) ++ (gam ++ F)) w := by simpa using h1
    exact this.swap
  have h3 := sat_pkA (is := ia) h2
  have h4 : Sat W0 ((pkA ia gam ++ rsA ia gam) ++ (owns (pkO io own) ++ (owns (rsO io own) ++ F))) w := by simpa using h3
  have h5 := h4.swap
  have h6 : Sat W0 (owns (pkO io own) ++ (pkA ia gam ++ (rsA ia gam ++ (owns (rsO io own) ++ F)))) w := by simpa using h5
  unfold Rs.all
  -- the rest in its order
  have e : ∀ {X : List Asn}, Sat W0 (X ++ (rsA ia gam ++ (owns (rsO io own) ++ F))) w → Sat W0 (X ++ (owns (rsO io own) ++ (rsA ia gam ++ F))) w := by
    intro X hX
    have a1 := hX.swap
    have a2 : Sat W0 ((rsA ia gam ++ X) ++ (owns (rsO io own) ++ F)) w := by simpa using a1
    have a3 := a2.swap
    have a4 : Sat W0 ((owns (rsO io own) ++ rsA ia gam) ++ (X ++ F)) w := by simpa using a3
    have a5 := a4.swap
    simpa using a5
  have := e (X := owns (pkO io own) ++ pkA ia gam) (by simpa using h6)
  simpa using this
theorem sat_give {r : Rs} {own : List OB} {gam F : List Asn} (h : Sat W0 (r.all (owns own ++ (gam ++ F))) w) : Sat W0 (owns (r.own ++ own) ++ ((r.gam ++ gam) ++ F)) w := by
  unfold Rs.all at h
  have h1 : Sat W0 (owns r.own ++ (r.gam ++ (owns own ++ (gam ++ F)))) w := h
  have h2 := h1.swap
  have h3 : Sat W0 ((r.gam ++ owns r.own) ++ (owns own ++ (gam ++ F))) w := by simpa using h2
  have h4 := h3.swap
  have h5 : Sat W0 ((owns own ++ r.gam) ++ (owns r.own ++ (gam ++ F))) w := by simpa using h4
  have h6 := h5.swap
  have h7 : Sat W0 ((owns r.own ++ owns own) ++ (r.gam ++ (gam ++ F))) w := by simpa using h6
  simpa using h7
end

/-! The rules. -/
/-- The walk's aim, for nobody to look into. -/
structure G (X : Ctx) (s : XS) : Prop where
  get : GP X s

/-- The state behind so many steps. -/
def XS.dr (X : Ctx) (s : XS) (h : List Nat) : XS := (drive X.P X.n 400 s h).s
def XS.dq (X : Ctx) (s : XS) (h : List Nat) : List (Value × Value) := (drive X.P X.n 400 s h).q
def XS.dp (X : Ctx) (s : XS) (h : List Nat) : List Prop := (drive X.P X.n 400 s h).p
/-- Where what is promised stands behind a step that takes and gives back. -/
def upI (io ia : List Nat) (no na x : Nat) : Nat := bif Nat.ble 64 x then 64 + reix ia 0 na (x - 64) else reix io 0 no x
/-- What comes of what is taken (io, ia) and given (r) where an operation answers v. -/
def XS.put (s : XS) (io ia : List Nat) (v : Value) (r : Rs) : XS := s.putW v (r.own ++ rsO io s.own) (r.gam ++ rsA ia s.gam) (upI io ia r.own.length r.gam.length)
def XS.okP (X : Ctx) (s : XS) (io ia : List Nat) (v : Value) (r : Rs) : Option (List (Value × Value)) := s.ok2 X.P X.n v (r.own ++ rsO io s.own) (upI io ia r.own.length r.gam.length)
def XS.olP (s : XS) (io ia : List Nat) (r : Rs) : List (Bool × Asn) := s.ol2 (r.gam ++ rsA ia s.gam) (upI io ia r.own.length r.gam.length)
def oks : Option (List (Value × Value)) → List Value
  | none => [undef]
  | some q => q.map (·.1)
def okr : Option (List (Value × Value)) → List Value
  | none => []
  | some q => q.map (·.2)
theorem oks_ok {o : Option (List (Value × Value))} (h : oks o = okr o) : ∃ q, o = some q ∧ Alike q := by
  cases o with
  | none => simp [oks, okr] at h
  | some q => exact ⟨q, rfl, Alike.of h⟩

section
variable {X : Ctx} {s : XS}
/-- Steps that want something shown. -/
theorem an : AllP [] := trivial
theorem ap {p : Prop} {l : List Prop} (h : p) (t : AllP l) : AllP (p :: l) := ⟨h, t⟩
theorem xd (h : List Nat) {l : List Prop} (hl : AllP l) (k : G X (s.dr X h)) (hq : (s.dq X h).map (·.1) = (s.dq X h).map (·.2) := by kernel_rfl) (hp : s.dp X h = l := by kernel_rfl) : G X s := ⟨drive_ok (Alike.of hq) (by unfold XS.dp at hp; rw [hp]; exact hl) k.get⟩
theorem x0 (h : List Nat) (k : GP X (s.dr X h)) (hq : (s.dq X h).map (·.1) = (s.dq X h).map (·.2) := by kernel_rfl) (hp : s.dp X h = [] := by kernel_rfl) : GP X s := drive_ok (Alike.of hq) (by unfold XS.dp at hp; rw [hp]; trivial) k

theorem step_oc {s : XS} {Z : Type} {pre : Rs} {rv : Z → Value} {post : Z → Rs} {io ia : List Nat}
    (st : ∀ Γ, StepTo X.P X.W0 (pre.all Γ) s.env s.op.op s.op.type fun r Δ => ∃ z, r = rv z ∧ Δ = (post z).all Γ)
    (hpo : pkO io s.own = pre.own) (hpa : pkA ia s.gam = pre.gam) (h1 : oks (s.ok1 X.n) = okr (s.ok1 X.n)) (h2 : ∀ z, oks (s.okP X io ia (rv z) (post z)) = okr (s.okP X io ia (rv z) (post z))) (h3 : ∀ z, s.ol1 = s.olP io ia (post z))
    (k : ∀ z, GP X (s.put io ia (rv z) (post z))) : GP X s := by
  have hpre : (⟨pkO io s.own, pkA ia s.gam⟩ : Rs) = pre := by rw [hpo, hpa]
  have hs : ∀ w, Sat X.W0 (s.all X.F) w → Sat X.W0 (pre.all (owns (rsO io s.own) ++ (rsA ia s.gam ++ X.F))) w := fun w hw => by rw [← hpre]; exact sat_take io ia hw
  obtain ⟨q, hq, hq2⟩ := oks_ok h1
  refine putZ_ok rv (fun z => (post z).own ++ rsO io s.own) (fun z => (post z).gam ++ rsA ia s.gam) (fun z => upI io ia (post z).own.length (post z).gam.length) hq hq2 (fun z => oks_ok (h2 z)) h3 ?_ k
  intro w hw ro o a K Q kk
  refine st _ w (hs w hw) ro o a K Q ?_
  rintro v Γ' w' ⟨z, rfl, rfl⟩ h2
  exact kk _ _ w' ⟨z, rfl, rfl⟩ (sat_give h2)
def semEnter (P : Program) : Sem Next → Option (FuncId × Array Value)
  | .pure (.enter f args) => some (f, args)
  | .program k => semEnter P (k P)
  | .mark _ k => semEnter P k
  | _ => none
theorem semEnter_ok {P : Program} {f : FuncId} {args : Array Value} {w : World} : ∀ {s : Sem Next}, semEnter P s = some (f, args) → s.run P w = .ok (.enter f args) w := by
  intro s
  induction s with
  | pure a =>
    intro h
    cases a with
    | enter g as => simp only [semEnter, Option.some.injEq, Prod.mk.injEq] at h; obtain ⟨rfl, rfl⟩ := h; rfl
    | _ => cases h
  | program k ih => intro h; exact ih P h
  | mark m k ih => intro h; exact ih h
  | _ => intro h; cases h
/-- A call, by a contract. -/
theorem xc (h io ia : List Nat) {f : FuncId} {args : List Value} {pre : Rs} {Z : Type} {rv : Z → Value} {post : Z → Rs} (hc : Fn X.P f args pre rv post) (k : ∀ z, G X ((s.dr X h).put io ia (rv z) (post z)))
    (hq : (s.dq X h).map (·.1) = (s.dq X h).map (·.2) := by kernel_rfl) (hp : s.dp X h = [] := by kernel_rfl) (he : semEnter X.P (s.dr X h).sem = some (f, args.toArray) := by kernel_rfl)
    (hpo : pkO io (s.dr X h).own = pre.own := by kernel_rfl) (hpa : pkA ia (s.dr X h).gam = pre.gam := by kernel_rfl) (h1 : oks ((s.dr X h).ok1 X.n) = okr ((s.dr X h).ok1 X.n) := by kernel_rfl)
    (h2 : ∀ z, oks ((s.dr X h).okP X io ia (rv z) (post z)) = okr ((s.dr X h).okP X io ia (rv z) (post z)) := by intro _; kernel_rfl) (h3 : ∀ z, (s.dr X h).ol1 = (s.dr X h).olP io ia (post z) := by intro _; kernel_rfl) : G X s := by
  refine ⟨x0 h ?_ hq hp⟩
  refine step_oc (fun Γ => ?_) hpo hpa h1 h2 h3 fun z => (k z).get
  exact StepTo.call (fun w => semEnter_ok he) (hc X.W0 Γ)
/-- An operation, by what a step over assertions comes to. -/
theorem xt (h io ia : List Nat) {pre : Rs} {Z : Type} {rv : Z → Value} {post : Z → Rs} (hc : ∀ Γ, StepTo X.P X.W0 (pre.all Γ) (s.dr X h).env (s.dr X h).op.op (s.dr X h).op.type fun r Δ => ∃ z, r = rv z ∧ Δ = (post z).all Γ) (k : ∀ z, G X ((s.dr X h).put io ia (rv z) (post z)))
    (hq : (s.dq X h).map (·.1) = (s.dq X h).map (·.2) := by kernel_rfl) (hp : s.dp X h = [] := by kernel_rfl)
    (hpo : pkO io (s.dr X h).own = pre.own := by kernel_rfl) (hpa : pkA ia (s.dr X h).gam = pre.gam := by kernel_rfl) (h1 : oks ((s.dr X h).ok1 X.n) = okr ((s.dr X h).ok1 X.n) := by kernel_rfl)
    (h2 : ∀ z, oks ((s.dr X h).okP X io ia (rv z) (post z)) = okr ((s.dr X h).okP X io ia (rv z) (post z)) := by intro _; kernel_rfl) (h3 : ∀ z, (s.dr X h).ol1 = (s.dr X h).olP io ia (post z) := by intro _; kernel_rfl) : G X s :=
  ⟨x0 h (step_oc hc hpo hpa h1 h2 h3 fun z => (k z).get) hq hp⟩
/-- An operation, by a contract. -/
theorem xo (h io ia : List Nat) {sem : Sem Next} {pre : Rs} {Z : Type} {rv : Z → Value} {post : Z → Rs} (hc : Oc X.P sem pre rv post) (k : ∀ z, G X ((s.dr X h).put io ia (rv z) (post z)))
    (hq : (s.dq X h).map (·.1) = (s.dq X h).map (·.2) := by kernel_rfl) (hp : s.dp X h = [] := by kernel_rfl) (he : ∀ w, (s.dr X h).sem.run X.P w = sem.run X.P w := by intro _; kernel_rfl)
    (hpo : pkO io (s.dr X h).own = pre.own := by kernel_rfl) (hpa : pkA ia (s.dr X h).gam = pre.gam := by kernel_rfl) (h1 : oks ((s.dr X h).ok1 X.n) = okr ((s.dr X h).ok1 X.n) := by kernel_rfl)
    (h2 : ∀ z, oks ((s.dr X h).okP X io ia (rv z) (post z)) = okr ((s.dr X h).okP X io ia (rv z) (post z)) := by intro _; kernel_rfl) (h3 : ∀ z, (s.dr X h).ol1 = (s.dr X h).olP io ia (post z) := by intro _; kernel_rfl) : G X s := by
  refine ⟨x0 h ?_ hq hp⟩
  refine step_oc (fun Γ => ?_) hpo hpa h1 h2 h3 fun z => (k z).get
  intro w hw ro o a K Q kk
  obtain ⟨z, w', x, r1, r2, r3⟩ := hc X.W0 Γ w hw
  have e : (execOp (ev (s.dr X h).env) (bare (s.dr X h).op.op (s.dr X h).op.type)).run X.P w = sem.run X.P w := he w
  rw [e, r1]
  rcases r2 with rfl | ⟨rfl, r2⟩
  · exact kk _ _ w' ⟨z, rfl, rfl⟩ r3
  · exact kk undef _ w' ⟨z, r2.symm, rfl⟩ r3

/-- A new block. -/
def semNew (P : Program) : Sem Next → Nat → Option (Value × Array Value × TypeId)
  | .program k, b => semNew P (k P) b
  | .mark _ k, b => semNew P k b
  | .new (.cells c T (0, 0)) k, b => (semVal P (k b)).map fun v => (v, c, T)
  | _, _ => none
theorem semNew_ok {P : Program} {W0 w : World} {Γ : List Asn} {Z : Nat → Value × Array Value × TypeId} (hw : Sat W0 Γ w) : ∀ {s : Sem Next}, (∀ b, semNew P s b = some (Z b)) →
    ∃ b w' x, s.run P w = .ok x w' ∧ (x = .value (Z b).1 ∨ (x = .skip ∧ (Z b).1 = undef)) ∧ Sat W0 (OB.asn ⟨b, (Z b).2.1, (Z b).2.2⟩ :: Γ) w' := by
  intro s
  induction s with
  | program k ih => intro h; exact ih P h
  | mark m k ih => intro h; exact ih h
  | new o k ih =>
    intro h
    have h0 := h w.heap.size
    cases o with
    | cells c T fr =>
      obtain ⟨lo, hi⟩ := fr
      by_cases hf : lo = 0 ∧ hi = 0
      · obtain ⟨rfl, rfl⟩ := hf
        have h0' : (semVal P (k w.heap.size)).map (fun v => (v, c, T)) = some (Z w.heap.size) := h0
        simp only [Option.map_eq_some_iff] at h0'
        obtain ⟨v, hv, e⟩ := h0'
        obtain ⟨x, h1, h2⟩ := semVal_ok (w := { w with heap := w.heap.push (.cells c T (0, 0)) }) hv
        refine ⟨w.heap.size, _, x, h1, ?_, ?_⟩
        · rw [← e]; exact h2
        · rw [← e]; exact hw.alloc _
      · exfalso
        unfold semNew at h0
        split at h0 <;> simp_all
    | _ => cases h0
  | _ => intro h; cases h 0
def newZ (o : Option (Value × Array Value × TypeId)) : Value × Array Value × TypeId := o.getD (undef, #[], 0)
def XS.nw (X : Ctx) (s : XS) (b : Nat) : Value × Array Value × TypeId := newZ (semNew X.P s.sem b)
def XS.putN (X : Ctx) (s : XS) (b : Nat) : XS := s.put [] [] (s.nw X b).1 ⟨[⟨b, (s.nw X b).2.1, (s.nw X b).2.2⟩], []⟩
theorem some_newZ {o : Option (Value × Array Value × TypeId)} (h : o.isSome = true) : o = some (newZ o) := by
  cases o with
  | none => cases h
  | some x => rfl
theorem xn (h : List Nat) (k : ∀ b, G X ((s.dr X h).putN X b)) (hq : (s.dq X h).map (·.1) = (s.dq X h).map (·.2) := by kernel_rfl) (hp : s.dp X h = [] := by kernel_rfl)
    (he : ∀ b, (semNew X.P (s.dr X h).sem b).isSome = true := by intro _; kernel_rfl) (h1 : oks ((s.dr X h).ok1 X.n) = okr ((s.dr X h).ok1 X.n) := by kernel_rfl)
    (h2 : ∀ b, oks ((s.dr X h).okP X [] [] ((s.dr X h).nw X b).1 ⟨[⟨b, ((s.dr X h).nw X b).2.1, ((s.dr X h).nw X b).2.2⟩], []⟩) = okr ((s.dr X h).okP X [] [] ((s.dr X h).nw X b).1 ⟨[⟨b, ((s.dr X h).nw X b).2.1, ((s.dr X h).nw X b).2.2⟩], []⟩) := by intro _; kernel_rfl)
    (h3 : ∀ b, (s.dr X h).ol1 = (s.dr X h).olP [] [] ⟨[⟨b, ((s.dr X h).nw X b).2.1, ((s.dr X h).nw X b).2.2⟩], []⟩ := by intro _; kernel_rfl) : G X s := by
  refine ⟨x0 h ?_ hq hp⟩
  refine step_oc (io := []) (ia := []) (pre := ⟨[], []⟩) (rv := fun b : Nat => ((s.dr X h).nw X b).1) (post := fun b : Nat => ⟨[⟨b, ((s.dr X h).nw X b).2.1, ((s.dr X h).nw X b).2.2⟩], []⟩) (fun Γ => ?_) rfl rfl h1 h2 h3 fun b => (k b).get
  intro w hw ro o a K Q kk
  obtain ⟨b, w', x, r1, r2, r3⟩ := semNew_ok (Z := fun b => (s.dr X h).nw X b) hw fun b => some_newZ (he b)
  have e : execOp (ev (s.dr X h).env) (bare (s.dr X h).op.op (s.dr X h).op.type) = (s.dr X h).sem := rfl
  rw [e, r1]
  rcases r2 with rfl | ⟨rfl, r2⟩
  · exact kk _ _ w' ⟨b, rfl, rfl⟩ r3
  · exact kk undef _ w' ⟨b, r2.symm, rfl⟩ r3

/-! What is known is said in other words. -/
def XS.with (s : XS) (own : List OB) (gam : List Asn) (up : Nat → Nat) : XS :=
  ⟨match s.pos with | .draw os i D Pp Pl => .draw os i D Pp (upP up Pl) | .turn os i D Pp Pl => .turn os i D Pp (upP up Pl) | p => p, s.stk, s.env, own, gam⟩
def XS.ok3 (P : Program) (n : Fm) (s : XS) (own : List OB) (up : Nat → Nat) : Option (List (Value × Value)) :=
  match s.pos with
  | .draw os _ _ _ Pl => stabOf P n os s.env own (upP up Pl)
  | .turn os _ _ _ Pl => stabOf P n os s.env own (upP up Pl)
  | _ => some []
def XS.ow1 (s : XS) : List (Bool × Asn) :=
  match s.pos with
  | .draw _ _ _ _ Pl => olsA s.gam Pl
  | .turn _ _ _ _ Pl => olsA s.gam Pl
  | _ => []
def XS.ow2 (s : XS) (gam : List Asn) (up : Nat → Nat) : List (Bool × Asn) :=
  match s.pos with
  | .draw _ _ _ _ Pl => olsB gam up Pl
  | .turn _ _ _ _ Pl => olsB gam up Pl
  | _ => []
/-- A fact that what is at hand tells. -/
theorem known_ok {p : Prop} (hg : ∀ w, Sat X.W0 (s.all X.F) w → p) (k : p → GP X s) : GP X s := by
  obtain ⟨pos, stk, env, own0, gam0⟩ := s
  cases pos with
  | draw os i D Pp Pl => exact fun ho t1 t2 t3 t4 fuel listed a w hi hl hw => k (hg w hw) ho t1 t2 t3 t4 fuel listed a w hi hl hw
  | turn os i D Pp Pl => exact fun ho t1 t2 t3 t4 fuel listed a w hi hl hw hr => k (hg w hw) ho t1 t2 t3 t4 fuel listed a w hi hl hw hr
  | code c => exact At.known hg k
  | ops os k' i => exact At.known hg k
  | ex x => exact At.known hg k
theorem exists_ok {Z : Type} {p : Z → Prop} (hg : ∀ w, Sat X.W0 (s.all X.F) w → ∃ z, p z) (k : ∀ z, p z → GP X s) : GP X s := by
  obtain ⟨pos, stk, env, own0, gam0⟩ := s
  cases pos with
  | draw os i D Pp Pl => exact fun ho t1 t2 t3 t4 fuel listed a w hi hl hw => let ⟨z, hz⟩ := hg w hw; k z hz ho t1 t2 t3 t4 fuel listed a w hi hl hw
  | turn os i D Pp Pl => exact fun ho t1 t2 t3 t4 fuel listed a w hi hl hw hr => let ⟨z, hz⟩ := hg w hw; k z hz ho t1 t2 t3 t4 fuel listed a w hi hl hw hr
  | code c => exact fun a w ha hw => let ⟨z, hz⟩ := hg w hw; k z hz a w ha hw
  | ops os k' i => exact fun a w ha hw => let ⟨z, hz⟩ := hg w hw; k z hz a w ha hw
  | ex x => exact fun a w ha hw => let ⟨z, hz⟩ := hg w hw; k z hz a w ha hw
/-- What is at hand tells a fact. -/
theorem xk (h ia : List Nat) {A : List Asn} {p : Prop} (hc : ∀ (W0 : World) (Γ : List Asn) (w : World), Sat W0 (A ++ Γ) w → p) (k : p → G X (s.dr X h)) (hq : (s.dq X h).map (·.1) = (s.dq X h).map (·.2) := by kernel_rfl) (hp : s.dp X h = [] := by kernel_rfl)
    (hpa : pkA ia (s.dr X h).gam = A := by kernel_rfl) : G X s := by
  refine ⟨x0 h (known_ok (p := p) (fun w hw => ?_) fun hp => (k hp).get) hq hp⟩
  have h1 := sat_take [] ia hw
  rw [hpa] at h1
  exact hc _ _ w h1
theorem xg (h io ia : List Nat) {pre : Rs} {Z : Type} {post : Z → Rs} (hc : Gh pre post) (k : ∀ z, G X ((s.dr X h).with ((post z).own ++ rsO io (s.dr X h).own) ((post z).gam ++ rsA ia (s.dr X h).gam) (upI io ia (post z).own.length (post z).gam.length)))
    (hq : (s.dq X h).map (·.1) = (s.dq X h).map (·.2) := by kernel_rfl) (hp : s.dp X h = [] := by kernel_rfl) (hpo : pkO io (s.dr X h).own = pre.own := by kernel_rfl) (hpa : pkA ia (s.dr X h).gam = pre.gam := by kernel_rfl)
    (h2 : ∀ z, oks ((s.dr X h).ok3 X.P X.n ((post z).own ++ rsO io (s.dr X h).own) (upI io ia (post z).own.length (post z).gam.length)) = okr ((s.dr X h).ok3 X.P X.n ((post z).own ++ rsO io (s.dr X h).own) (upI io ia (post z).own.length (post z).gam.length)) := by intro _; kernel_rfl)
    (h3 : ∀ z, (s.dr X h).ow1 = (s.dr X h).ow2 ((post z).gam ++ rsA ia (s.dr X h).gam) (upI io ia (post z).own.length (post z).gam.length) := by intro _; kernel_rfl) : G X s := by
  refine ⟨x0 h ?_ hq hp⟩
  generalize s.dr X h = s at *
  have hpre : (⟨pkO io s.own, pkA ia s.gam⟩ : Rs) = pre := by rw [hpo, hpa]
  have hs : ∀ w, Sat X.W0 (s.all X.F) w → ∃ z, Sat X.W0 (owns ((post z).own ++ rsO io s.own) ++ (((post z).gam ++ rsA ia s.gam) ++ X.F)) w := fun w hw => by
    have h1 := sat_take io ia hw
    rw [hpre] at h1
    obtain ⟨z, h2⟩ := hc _ _ w h1
    exact ⟨z, sat_give h2⟩
  obtain ⟨pos, stk, env, own0, gam0⟩ := s
  cases pos with
  | draw os i D Pp Pl =>
    intro ho t1 t2 t3 t4 fuel listed a w hi hl hw
    obtain ⟨z, hz⟩ := hs w hw
    obtain ⟨q, hq, hq2⟩ := oks_ok (h2 z)
    have ho2 := ho.move (h3 z)
    have hs := stab_all (W0 := X.W0) (gam := (post z).gam ++ rsA ia gam0) (F := X.F) hq hq2 ho2
    have e : List.map (fun x => x.1) (upP (upI io ia (post z).own.length (post z).gam.length) Pl) = List.map (fun x => x.1) Pl := fsts_up
    have k' : Draw X.P X.n X.W0 os (wpK X.n X.P X.Q0 stk) D Pp (List.map (fun x => x.1) (upP (upI io ia (post z).own.length (post z).gam.length) Pl)) env (owns ((post z).own ++ rsO io own0) ++ (((post z).gam ++ rsA ia gam0) ++ X.F)) := (k z).get ho2
    rw [e] at k'
    rw [fsts_up] at hs
    exact k' t1 t2 t3 hs fuel listed a w hi hl hz
  | turn os i D Pp Pl =>
    intro ho t1 t2 t3 t4 fuel listed a w hi hl hw hr
    obtain ⟨z, hz⟩ := hs w hw
    obtain ⟨q, hq, hq2⟩ := oks_ok (h2 z)
    have ho2 := ho.move (h3 z)
    have hs := stab_all (W0 := X.W0) (gam := (post z).gam ++ rsA ia gam0) (F := X.F) hq hq2 ho2
    have e : List.map (fun x => x.1) (upP (upI io ia (post z).own.length (post z).gam.length) Pl) = List.map (fun x => x.1) Pl := fsts_up
    have k' : TurnK X.P X.n X.W0 os (wpK X.n X.P X.Q0 stk) D Pp (List.map (fun x => x.1) (upP (upI io ia (post z).own.length (post z).gam.length) Pl)) env (owns ((post z).own ++ rsO io own0) ++ (((post z).gam ++ rsA ia gam0) ++ X.F)) i := (k z).get ho2
    rw [e] at k'
    rw [fsts_up] at hs
    exact k' t1 t2 t3 hs fuel listed a w hi hl hz hr
  | code c => exact fun a w ha hw => let ⟨z, hz⟩ := hs w hw; (k z).get a w ha hz
  | ops os k' i => exact fun a w ha hw => let ⟨z, hz⟩ := hs w hw; (k z).get a w ha hz
  | ex x => exact fun a w ha hw => let ⟨z, hz⟩ := hs w hw; (k z).get a w ha hz
end
end Go.Proofs.YtcidmgkfaioceaaGreat
namespace Go.Proofs.YtcidmgkfaioceaaGreat
open Go Go.RowKit

theorem lk_same {e : Env} {d : Nat} {v : Value} (h : lk e d = some v) : lk ((d, v) :: e) = lk e := by
  funext t
  rw [lk_cons]
  by_cases ht : d = t
  · subst ht; simp [h]
  · simp [ht]
theorem ev_lk {e e' : Env} (h : lk e' = lk e) : ev e' = ev e := by
  funext x
  cases x <;> simp [ev, h]
theorem knows_lk {e e' : Env} (h : lk e' = lk e) : knows e' = knows e := by
  funext x
  cases x <;> simp [knows, h]
theorem guard_lk {os : Array Oper} {e e' : Env} (h : lk e' = lk e) {g : Option (Nat × Bool)} {t : Bool} : GuardIs os e' g t = GuardIs os e g t := by
  unfold GuardIs
  split <;> simp [h]
theorem stable_lk {P : Program} {n : Fm} {W0 : World} {os : Array Oper} {e e' : Env} {Γ : List Asn} {j : Nat} (h : lk e' = lk e) (hs : Stable P n W0 os e Γ j) : Stable P n W0 os e' Γ j := by
  obtain ⟨o, v, t, h1, h2, h3, h4, h5, h6, h7, h8⟩ := hs
  exact ⟨o, v, t, h1, h2, by rw [knows_lk h]; exact h3, by rw [guard_lk h]; exact h4, h5, fun d hd => by rw [h]; exact h6 d hd, fun ht w hw => by rw [ev_lk h]; exact h7 ht w hw, h8⟩
theorem OlAll.lk {P : Program} {n : Fm} {W0 : World} {os : Array Oper} {e e' : Env} {gam : List Asn} {Pl : List (Nat × Nat)} (h : lk e' = lk e) (ho : OlAll P n W0 os e gam Pl) : OlAll P n W0 os e' gam Pl := fun x hx hb Γ => stable_lk h (ho x hx hb Γ)
def XS.setE (s : XS) (e : Env) : XS := ⟨s.pos, s.stk, e, s.own, s.gam⟩
section
variable {X : Ctx} {s : XS}
theorem env_ok {e' : Env} (h : lk e' = lk s.env) (k : GP X (s.setE e')) : GP X s := by
  obtain ⟨pos, stk, env, own, gam⟩ := s
  simp only at h
  have hat : ∀ {Γ : List Asn} {K : Act → World → Prop}, At X.n X.W0 e' Γ K → At X.n X.W0 env Γ K := fun k a w ha hw => k a w ⟨ha.size, ha.defers, fun t v ht => ha.get t v (by rw [← h]; exact ht)⟩ hw
  cases pos with
  | draw os i D Pp Pl =>
    intro ho t1 t2 t3 t4 fuel listed a w hi hl hw
    have k' : Draw X.P X.n X.W0 os (wpK X.n X.P X.Q0 stk) D Pp (Pl.map (·.1)) e' (owns own ++ (gam ++ X.F)) := k (ho.lk h)
    refine k' t1 t2 (fun j hj => ?_) (fun j hj => ?_) fuel listed a w ⟨hi.size, hi.l1, hi.l2, hi.dlt, hi.tmps, hi.defers, fun t v ht => hi.get t v (by rw [← h]; exact ht), hi.down⟩ hl hw
    · obtain ⟨o, v, t, h1, h2, h3, h4, h5, h6, h7, h8⟩ := t3 j hj
      exact ⟨o, v, t, h1, h2, by rw [knows_lk h]; exact h3, by rw [guard_lk h]; exact h4, h5, fun d hd => by rw [h]; exact h6 d hd, fun ht Γ => by
        have := h7 ht Γ
        intro w hw ro o' a' K Q kk
        rw [ev_lk h]
        exact this w hw ro o' a' K Q kk, h8⟩
    · obtain ⟨o, v, t, h1, h2, h3, h4, h5, h6, h7, h8⟩ := t4 j hj
      exact ⟨o, v, t, h1, h2, by rw [knows_lk h]; exact h3, by rw [guard_lk h]; exact h4, h5, fun d hd => by rw [h]; exact h6 d hd, fun ht w hw => by rw [ev_lk h]; exact h7 ht w hw, h8⟩
  | turn os i D Pp Pl =>
    intro ho t1 t2 t3 t4 fuel listed a w hi hl hw hr
    have k' : TurnK X.P X.n X.W0 os (wpK X.n X.P X.Q0 stk) D Pp (Pl.map (·.1)) e' (owns own ++ (gam ++ X.F)) i := k (ho.lk h)
    refine k' t1 t2 (fun j hj => ?_) (fun j hj => ?_) fuel listed a w ⟨hi.size, hi.l1, hi.l2, hi.dlt, hi.tmps, hi.defers, fun t v ht => hi.get t v (by rw [← h]; exact ht), hi.down⟩ hl hw hr
    · obtain ⟨o, v, t, h1, h2, h3, h4, h5, h6, h7, h8⟩ := t3 j hj
      exact ⟨o, v, t, h1, h2, by rw [knows_lk h]; exact h3, by rw [guard_lk h]; exact h4, h5, fun d hd => by rw [h]; exact h6 d hd, fun ht Γ => by
        have := h7 ht Γ
        intro w hw ro o' a' K Q kk
        rw [ev_lk h]
        exact this w hw ro o' a' K Q kk, h8⟩
    · obtain ⟨o, v, t, h1, h2, h3, h4, h5, h6, h7, h8⟩ := t4 j hj
      exact ⟨o, v, t, h1, h2, by rw [knows_lk h]; exact h3, by rw [guard_lk h]; exact h4, h5, fun d hd => by rw [h]; exact h6 d hd, fun ht w hw => by rw [ev_lk h]; exact h7 ht w hw, h8⟩
  | code c => exact hat k
  | ops os k' i => exact hat k
  | ex x => exact hat k

/-- The slot that the walk wants to know a truth of. -/
def slotOf : Operand → Nat
  | .tmp t => t
  | _ => 0
def XS.want (s : XS) : Nat :=
  let op (os : Array Oper) (i : Nat) : Nat :=
    match (operAt os i).op with
    | .pick c _ _ => slotOf c
    | _ => match (operAt os i).guard with
      | some (j, _) => (dstOf os j).getD 0
      | none => 0
  match s.pos with
  | .code (.cond c _ _) => slotOf c
  | .ops os _ i => op os i
  | .draw os i _ _ _ => op os i
  | .turn os i _ _ _ => op os i
  | _ => 0
def XS.tell (s : XS) (d : Nat) (b : Bool) : XS := s.setE ((d, .bool b) :: s.env)
/-- A parting: the plain function parts there, too. -/
theorem xs (h : List Nat) {α : Type} {t : Bool} {a b : Option α} {y : α} (H : (bif t then a else b) = some y) (kT : a = some y → G X ((s.dr X h).tell (s.dr X h).want true)) (kF : b = some y → G X ((s.dr X h).tell (s.dr X h).want false))
    (hq : (s.dq X h).map (·.1) = (s.dq X h).map (·.2) := by kernel_rfl) (hp : s.dp X h = [] := by kernel_rfl) (hl : lk (s.dr X h).env (s.dr X h).want = some (.bool t) := by kernel_rfl) : G X s := by
  refine ⟨x0 h ?_ hq hp⟩
  cases t with
  | true => exact env_ok (lk_same hl) (kT H).get
  | false => exact env_ok (lk_same hl) (kF H).get
/-- The same at a slot that is named. -/
theorem xsd (h : List Nat) (d : Nat) {α : Type} {t : Bool} {a b : Option α} {y : α} (H : (bif t then a else b) = some y) (kT : a = some y → G X ((s.dr X h).tell d true)) (kF : b = some y → G X ((s.dr X h).tell d false))
    (hq : (s.dq X h).map (·.1) = (s.dq X h).map (·.2) := by kernel_rfl) (hp : s.dp X h = [] := by kernel_rfl) (hl : lk (s.dr X h).env d = some (.bool t) := by kernel_rfl) : G X s := by
  refine ⟨x0 h ?_ hq hp⟩
  cases t with
  | true => exact env_ok (lk_same hl) (kT H).get
  | false => exact env_ok (lk_same hl) (kF H).get
/-- A slot's value, spelt otherwise. -/
theorem xw (h : List Nat) (d : Nat) {v v' : Value} (e : v = v') (k : G X ((s.dr X h).setE ((d, v') :: (s.dr X h).env)))
    (hq : (s.dq X h).map (·.1) = (s.dq X h).map (·.2) := by kernel_rfl) (hp : s.dp X h = [] := by kernel_rfl) (hl : lk (s.dr X h).env d = some v := by kernel_rfl) : G X s := by
  refine ⟨x0 h ?_ hq hp⟩
  subst e
  exact env_ok (lk_same hl) k.get

/-- Several may be next: each one's turn. -/
def XS.trn (s : XS) (i : Nat) : XS :=
  match s.pos with
  | .draw os _ D Pp Pl => ⟨.turn os i D Pp Pl, s.stk, s.env, s.own, s.gam⟩
  | _ => s
def XS.trnOk (s : XS) (l : List Nat) : Bool :=
  match s.pos with
  | .draw os _ D _ _ => (aloneL os l D && l.all fun i => !has D i && subL (depsOf os i) D && Nat.blt i os.size) && !l.isEmpty
  | _ => false
def AllG (X : Ctx) (s : XS) : List Nat → Prop
  | [] => True
  | i :: r => G X (s.trn i) ∧ AllG X s r
theorem AllG.get {X : Ctx} {s : XS} : ∀ {l : List Nat} {i : Nat}, AllG X s l → i ∈ l → GP X (s.trn i)
  | [], _, _, h => by cases h
  | _ :: _, _, h, hi => (List.mem_cons.1 hi).elim (fun e => by subst e; exact h.1.get) fun h2 => AllG.get h.2 h2
theorem xtn (h l : List Nat) (k : AllG X (s.dr X h) l) (hq : (s.dq X h).map (·.1) = (s.dq X h).map (·.2) := by kernel_rfl) (hp : s.dp X h = [] := by kernel_rfl) (h1 : (s.dr X h).trnOk l = true := by kernel_rfl) : G X s := by
  refine ⟨x0 h ?_ hq hp⟩
  generalize s.dr X h = s at *
  obtain ⟨pos, stk, env, own, gam⟩ := s
  unfold XS.trnOk at h1
  cases pos with
  | draw os i D Pp Pl =>
    simp only [Bool.and_eq_true, List.all_eq_true, Bool.not_eq_true'] at h1
    obtain ⟨⟨h2, h3⟩, h4⟩ := h1
    intro ho
    cases l with
    | nil => simp at h4
    | cons i0 l =>
      refine draw_turns i0 l h2 fun j hj => ?_
      obtain ⟨⟨h5, h6⟩, h7⟩ := h3 j hj
      refine ⟨fun hm => ?_, subL_spec h6, by simpa using h7, ?_⟩
      · rw [has_iff.2 hm] at h5; cases h5
      · exact (k.get hj) ho
  | _ => cases h1
/-- Behind a call that touches nothing. -/
def XS.putQ (s : XS) (v : Value) : XS :=
  match s.pos with
  | .ops os k i => ⟨.ops os (k - 1) (i + 1), s.stk, putE s.env (dstOf os i) v, s.own, s.gam⟩
  | .draw os i D Pp Pl => ⟨.draw os os.size (i :: D) (i :: Pp) Pl, s.stk, putE s.env (dstOf os i) v, s.own, s.gam⟩
  | _ => s
def XS.ok4 (n : Fm) (s : XS) : Option (List (Value × Value)) :=
  match s.pos with
  | .ops os k i =>
    match Nat.blt 0 k && fine n os s.env i (dstOf os i), gval os s.env i with
    | true, some g => some [(.bool g, .bool true)]
    | _, _ => none
  | .draw os i D Pp Pl =>
    match fine n os s.env i (dstOf os i) && readOk os i (dstOf os i) D Pp (fsts Pl), gval os s.env i with
    | true, some g => some [(.bool g, .bool true)]
    | _, _ => none
  | _ => none
theorem quiet_ok {v : Value} (h1 : oks (s.ok4 X.n) = okr (s.ok4 X.n)) (st : ∀ Γ, StepTo X.P X.W0 Γ s.env s.op.op s.op.type (Is v Γ)) (k : GP X (s.putQ v)) : GP X s := by
  obtain ⟨q, hq, hq2⟩ := oks_ok h1
  obtain ⟨pos, stk, env, own0, gam0⟩ := s
  unfold XS.ok4 at hq
  cases pos with
  | ops os k' i =>
    simp only at hq
    split at hq
    · rename_i g hc hg
      obtain rfl := Option.some.inj hq
      have e1 := (Alike.cons hq2).1
      simp only [Value.bool.injEq] at e1
      subst e1
      simp only [Bool.and_eq_true] at hc
      obtain ⟨hk, hf⟩ := hc
      have hk' : 0 < k' := by simpa using hk
      obtain ⟨k2, rfl⟩ : ∃ k2, k' = k2 + 1 := ⟨k' - 1, by omega⟩
      obtain ⟨h1, h2', h3, h4⟩ := fine_key hf
      exact ops_is h1 (gval_is hg) h2' h3 h4 (st _) k
    · cases hq
  | draw os i D Pp Pl =>
    simp only at hq
    split at hq
    · rename_i g hc hg
      obtain rfl := Option.some.inj hq
      have e1 := (Alike.cons hq2).1
      simp only [Value.bool.injEq] at e1
      subst e1
      simp only [Bool.and_eq_true] at hc
      obtain ⟨hf, hok⟩ := hc
      obtain ⟨h1, h2', h3, h4⟩ := fine_key hf
      exact fun ho => draw_quiet v h1 (gval_is hg) h2' h3 h4 hok st (k (ho.put (read_fresh hok)))
    · cases hq
  | _ => cases hq
theorem xq (h : List Nat) {f : FuncId} {args : List Value} {v : Value} (hc : Fq X.P f args v) (k : G X ((s.dr X h).putQ v))
    (hq : (s.dq X h).map (·.1) = (s.dq X h).map (·.2) := by kernel_rfl) (hp : s.dp X h = [] := by kernel_rfl) (he : semEnter X.P (s.dr X h).sem = some (f, args.toArray) := by kernel_rfl)
    (h1 : oks ((s.dr X h).ok4 X.n) = okr ((s.dr X h).ok4 X.n) := by kernel_rfl) : G X s := by
  refine ⟨x0 h ?_ hq hp⟩
  exact quiet_ok h1 (fun Γ => StepTo.call (fun w => semEnter_ok he) (hc X.W0 Γ)) k.get
/-- An operation that touches nothing, its value told. -/
theorem xv (h : List Nat) {v : Value} (hv : ∀ w, (s.dr X h).sem.run X.P w = .ok (.value v) w) (k : G X ((s.dr X h).putQ v))
    (hq : (s.dq X h).map (·.1) = (s.dq X h).map (·.2) := by kernel_rfl) (hp : s.dp X h = [] := by kernel_rfl) (h1 : oks ((s.dr X h).ok4 X.n) = okr ((s.dr X h).ok4 X.n) := by kernel_rfl) : G X s := by
  refine ⟨x0 h ?_ hq hp⟩
  exact quiet_ok h1 (fun Γ => StepTo.pure hv) k.get

/-- The same by the operation's own words. -/
def Ov (P : Program) (sem : Sem Next) (v : Value) : Prop := ∀ w, sem.run P w = .ok (.value v) w
theorem xp (h : List Nat) {sem : Sem Next} {v : Value} (hc : Ov X.P sem v) (k : G X ((s.dr X h).putQ v)) (hq : (s.dq X h).map (·.1) = (s.dq X h).map (·.2) := by kernel_rfl) (hp : s.dp X h = [] := by kernel_rfl)
    (he : (s.dr X h).sem = sem := by kernel_rfl) (h1 : oks ((s.dr X h).ok4 X.n) = okr ((s.dr X h).ok4 X.n) := by kernel_rfl) : G X s := by
  subst he
  exact xv h hc k hq hp h1

/-- A load off what is known: it is the same until the region's next writer. -/
def Ol (P : Program) (sem : Sem Next) (A : Asn) (v : Value) : Prop := ∀ (W0 : World) (Γ : List Asn) (w : World), Sat W0 (A :: Γ) w → sem.run P w = .ok (.value v) w
theorem ol_new {P : Program} {n : Fm} {W0 : World} {ops : Array Oper} {D Pp Pl : List Nat} {e : Env} {A : Asn} {i : Nat} {dst : Option Tmp} {op : Op} {ty : TypeId} {g : Option (Nat × Bool)} {v : Value} (hk : key ops i = some (dst, op, ty, g)) (hg : GuardIs ops e g true) (hs : notSel op = true)
    (hn : op.operands.toList.all (knows e) = true) (hd : below n dst = true) (hok : readOk ops i dst D Pp Pl = true) (hrun : ∀ Γ w, Sat W0 (A :: Γ) w → (execOp (ev e) (bare op ty)).run P w = .ok (.value v) w) (Γ : List Asn) : Stable P n W0 ops (putE e dst v) (A :: Γ) i := by
  simp only [readOk, Bool.and_eq_true] at hok
  obtain ⟨⟨⟨⟨q1, q2⟩, q3⟩, q4⟩, q5⟩ := hok
  obtain ⟨o, ho, rfl, rfl, rfl, rfl⟩ := key_some hk
  have hself : ∀ d, o.dst = some d → d ∉ o.looksAt ops := fun d e1 hm => by
    simp only [e1, looksOf, ho] at q5
    rw [has_iff.2 hm] at q5; cases q5
  exact ⟨o, v, true, ho, hs, all_put hn hself, hg.put hself, hd, fun d e1 => by simp only [putE, e1, lk_cons, if_true], fun _ w hw => by rw [exec_put hs hself]; exact hrun Γ w hw, fun h => by cases h⟩
theorem ol_cons {P : Program} {n : Fm} {W0 : World} {os : Array Oper} {e : Env} {gam : List Asn} {i j : Nat} {Pl : List (Nat × Nat)} (hj : ∀ Γ, Stable P n W0 os e (nthA gam j :: Γ) i) (h : OlAll P n W0 os e gam Pl) : OlAll P n W0 os e gam ((i, 64 + j) :: Pl) := by
  intro x hx hb Γ
  rcases List.mem_cons.1 hx with rfl | hx
  · rw [show 64 + j - 64 = j by omega]; exact hj Γ
  · exact h x hx hb Γ
def XS.putL (s : XS) (v : Value) (ia : Nat) : XS :=
  match s.pos with
  | .ops os k i => ⟨.ops os (k - 1) (i + 1), s.stk, putE s.env (dstOf os i) v, s.own, s.gam⟩
  | .draw os i D Pp Pl => ⟨.draw os os.size (i :: D) Pp ((i, 64 + ia) :: Pl), s.stk, putE s.env (dstOf os i) v, s.own, s.gam⟩
  | _ => s
theorem xpl (h : List Nat) (ia : Nat) {sem : Sem Next} {A : Asn} {v : Value} (hc : Ol X.P sem A v) (k : G X ((s.dr X h).putL v ia)) (hq : (s.dq X h).map (·.1) = (s.dq X h).map (·.2) := by kernel_rfl) (hp : s.dp X h = [] := by kernel_rfl)
    (he : ∀ w, (s.dr X h).sem.run X.P w = sem.run X.P w := by intro _; kernel_rfl) (hn : pkA [ia] (s.dr X h).gam = [A] := by kernel_rfl) (h1 : oks ((s.dr X h).ok4 X.n) = okr ((s.dr X h).ok4 X.n) := by kernel_rfl) : G X s := by
  refine ⟨x0 h ?_ hq hp⟩
  generalize s.dr X h = s at *
  have hA : nthA s.gam ia = A := by
    have h5 : [nthA s.gam ia] = [A] := hn
    injection h5
  have hrun2 : ∀ (Γ : List Asn) (w : World), Sat X.W0 (A :: Γ) w → s.sem.run X.P w = .ok (.value v) w := fun Γ w hw => by rw [he]; exact hc X.W0 Γ w hw
  have hrun : ∀ w, Sat X.W0 (s.all X.F) w → s.sem.run X.P w = .ok (.value v) w := fun w hw => by
    have h2 := sat_take [] [ia] hw
    rw [hn] at h2
    rw [he]
    exact hc X.W0 _ w h2
  obtain ⟨q, hq, hq2⟩ := oks_ok h1
  have k := k.get
  obtain ⟨pos, stk, env, own0, gam0⟩ := s
  unfold XS.ok4 at hq
  cases pos with
  | ops os k' i =>
    simp only at hq
    split at hq
    · rename_i g hc hg
      obtain rfl := Option.some.inj hq
      have e1 := (Alike.cons hq2).1
      simp only [Value.bool.injEq] at e1
      subst e1
      simp only [Bool.and_eq_true] at hc
      obtain ⟨hk, hf⟩ := hc
      have hk' : 0 < k' := by simpa using hk
      obtain ⟨k2, rfl⟩ : ∃ k2, k' = k2 + 1 := ⟨k' - 1, by omega⟩
      obtain ⟨h1, h2', h3, h4⟩ := fine_key hf
      exact ops_val h1 (gval_is hg) h2' h3 h4 (fun w hw => ⟨w, hrun w hw, hw⟩) k
    · cases hq
  | draw os i D Pp Pl =>
    simp only at hq
    split at hq
    · rename_i g hc hg
      obtain rfl := Option.some.inj hq
      have e1 := (Alike.cons hq2).1
      simp only [Value.bool.injEq] at e1
      subst e1
      simp only [Bool.and_eq_true] at hc
      obtain ⟨hf, hok⟩ := hc
      obtain ⟨h1, h2', h3, h4⟩ := fine_key hf
      intro ho
      refine draw_load v h1 (gval_is hg) h2' h3 h4 hok hrun (k (ol_cons (fun Γ => ?_) (ho.put (read_fresh hok))))
      have hA' : nthA gam0 ia = A := hA
      show Stable X.P X.n X.W0 os (putE env (dstOf os i) v) (nthA gam0 ia :: Γ) i
      rw [hA']
      exact ol_new h1 (gval_is hg) h2' h3 h4 hok (fun Γ w hw => hrun2 Γ w hw) Γ
    · cases hq
  | _ => cases hq

/-! Loops. -/
structure IV where
  env : Env
  own : List OB
  gam : List Asn
def slots (e : Env) : List Nat := e.map (·.1)
def looks (e : Env) (l : List Nat) : List Value := l.map fun t => (lk e t).getD undef
def vals (e : Env) : List Value := e.map (·.2)
theorem sub_of {e : Env} : ∀ {e' : Env}, looks e (slots e') = vals e' → (slots e').all (fun t => (lk e t).isSome) = true → Env.Sub e e'
  | [], _, _ => trivial
  | (t, v) :: r, h, hk => by
    simp only [looks, slots, vals, List.map_cons, List.cons.injEq] at h
    simp only [slots, List.map_cons, List.all_cons, Bool.and_eq_true] at hk
    refine ⟨?_, sub_of h.2 hk.2⟩
    cases hl : lk e t with
    | none => simp [hl] at hk
    | some u => simp [hl] at h; rw [h.1]
/-- A state is one of those that the loop's words speak of. -/
def Meets (X : Ctx) (v : IV) (a : Act) (w : World) : Prop := EnvOk X.n v.env a ∧ Sat X.W0 (owns v.own ++ (v.gam ++ X.F)) w
theorem meets_of {v : IV} {io ia : List Nat} {a : Act} {w : World} (he : looks s.env (slots v.env) = vals v.env) (hk : (slots v.env).all (fun t => (lk s.env t).isSome) = true) (hpo : pkO io s.own = v.own) (hpa : pkA ia s.gam = v.gam)
    (ha : EnvOk X.n s.env a) (hw : Sat X.W0 (s.all X.F) w) : Meets X v a w := by
  refine ⟨ha.sub (sub_of he hk), ?_⟩
  have h1 := sat_take io ia hw
  rw [hpo, hpa] at h1
  -- what is left over is let go
  refine h1.imp fun S I hs => ?_
  have h2 : Star (owns v.own ++ (v.gam ++ (owns (rsO io s.own) ++ (rsA ia s.gam ++ X.F)))) S I (fun b => w.heap[b]?) := hs
  have h3 : Star ((owns v.own ++ v.gam) ++ (owns (rsO io s.own) ++ (rsA ia s.gam ++ X.F))) S I (fun b => w.heap[b]?) := by simpa using h2
  obtain ⟨S1, S2, q1, q2, q3, q4, q5⟩ := h3.append_of
  have h4 : Star ((owns (rsO io s.own) ++ rsA ia s.gam) ++ X.F) S2 I (fun b => w.heap[b]?) := by simpa using q5
  obtain ⟨T1, T2, k1, k2, k3, k4, k5⟩ := h4.append_of
  have := Star.append (S1 := S1) (S2 := T2) q1 (fun b hb => q2 b (k2 b hb)) (fun b hs ht => q3 b hs (k2 b ht)) q4 k5
  simpa using this
/-- A loop: v tells what holds at its head, of numbers and lists that R relates to a number that falls. -/
theorem xl (h : List Nat) {ι : Type} (v : ι → IV) (R : Nat → ι → Prop) (io ia : List Nat) (m : Nat) (i : ι) (hR : R m i)
    (k : ∀ (N : Act → World → Prop) (m : Nat) (i : ι), R m i → (∀ m' i', m' < m → R m' i' → ∀ a w, Meets X (v i') a w → N a w) →
      G X ⟨.code (subCode (match (s.dr X h).pos with | .code c => c | _ => .skip) 0), .rnd N :: (s.dr X h).stk, (v i).env, (v i).own, (v i).gam⟩)
    (hq : (s.dq X h).map (·.1) = (s.dq X h).map (·.2) := by kernel_rfl) (hp : s.dp X h = [] := by kernel_rfl)
    (hc : (s.dr X h).pos = .code (.loop (subCode (match (s.dr X h).pos with | .code c => c | _ => .skip) 0)) := by kernel_rfl)
    (he : looks (s.dr X h).env (slots (v i).env) = vals (v i).env := by kernel_rfl) (hk : (slots (v i).env).all (fun t => (lk (s.dr X h).env t).isSome) = true := by kernel_rfl)
    (hpo : pkO io (s.dr X h).own = (v i).own := by kernel_rfl) (hpa : pkA ia (s.dr X h).gam = (v i).gam := by kernel_rfl) : G X s := by
  refine ⟨x0 h ?_ hq hp⟩
  generalize s.dr X h = s at *
  generalize hx : subCode (match s.pos with | .code c => c | _ => .skip) 0 = x at *
  unfold GP
  rw [hc]
  simp only
  intro a w ha hw
  have hm := meets_of he hk hpo hpa ha hw
  refine wpF_loop_ghost (fun m a w => ∃ i, R m i ∧ Meets X (v i) a w) m ⟨i, hR, hm⟩ ?_
  rintro m a w ⟨i, hRi, hmi⟩
  exact (k (fun a w => ∃ m', m' < m ∧ ∃ i, R m' i ∧ Meets X (v i) a w) m i hRi (fun m' i' hlt hR' a w hM => ⟨m', hlt, i', hR', hM⟩)).get a w hmi.1 hmi.2
/-- The end of a round, of one way of several that go on alike. -/
theorem xe (h : List Nat) {N : Act → World → Prop} (v : IV) (io ia : List Nat) (hN : ∀ a w, Meets X v a w → N a w)
    (hq : (s.dq X h).map (·.1) = (s.dq X h).map (·.2) := by kernel_rfl) (hp : s.dp X h = [] := by kernel_rfl) (hc : (s.dr X h).pos = .ex .normal := by kernel_rfl) (hs : (s.dr X h).stk = .rnd N :: (s.dr X h).stk.tail := by kernel_rfl)
    (he : looks (s.dr X h).env (slots v.env) = vals v.env := by kernel_rfl) (hk : (slots v.env).all (fun t => (lk (s.dr X h).env t).isSome) = true := by kernel_rfl)
    (hpo : pkO io (s.dr X h).own = v.own := by kernel_rfl) (hpa : pkA ia (s.dr X h).gam = v.gam := by kernel_rfl) : G X s := by
  refine ⟨x0 h ?_ hq hp⟩
  generalize s.dr X h = s at *
  unfold GP
  rw [hc, hs]
  exact fun a w ha hw => hN a w (meets_of he hk hpo hpa ha hw)
/-- Several ways that go on alike: the first part of a row of two, then the second one. -/
theorem xj (h : List Nat) {ι : Type} (v : ι → IV) (R : ι → Prop)
    (k2 : ∀ i, R i → G X ⟨.code (subCode (match (s.dr X h).pos with | .code c => c | _ => .skip) 1), (s.dr X h).stk, (v i).env, (v i).own, (v i).gam⟩)
    (k : ∀ (N : Act → World → Prop), (∀ i, R i → ∀ a w, Meets X (v i) a w → N a w) →
      G X ⟨.code (subCode (match (s.dr X h).pos with | .code c => c | _ => .skip) 0), .rnd N :: (s.dr X h).stk, (s.dr X h).env, (s.dr X h).own, (s.dr X h).gam⟩)
    (hq : (s.dq X h).map (·.1) = (s.dq X h).map (·.2) := by kernel_rfl) (hp : s.dp X h = [] := by kernel_rfl)
    (hc : (s.dr X h).pos = .code (.seq (subCode (match (s.dr X h).pos with | .code c => c | _ => .skip) 0) (subCode (match (s.dr X h).pos with | .code c => c | _ => .skip) 1)) := by kernel_rfl) : G X s := by
  refine ⟨x0 h ?_ hq hp⟩
  generalize s.dr X h = s at *
  generalize hx : subCode (match s.pos with | .code c => c | _ => .skip) 0 = x at *
  generalize hy : subCode (match s.pos with | .code c => c | _ => .skip) 1 = y at *
  unfold GP
  rw [hc]
  simp only
  intro a w ha hw
  refine wpIn_seq (wpIn_mono ((k (fun a w => ∃ i, R i ∧ Meets X (v i) a w) (fun i hi a w hM => ⟨i, hi, hM⟩)).get a w ha hw) ?_)
  intro ex a' w' hq
  cases ex with
  | normal => obtain ⟨i, hi, hM⟩ := hq; exact (k2 i hi).get a' w' hM.1 hM.2
  | _ => exact hq
end

/-! A function's contract. -/
def ctx (P : Program) (fn : Func) (n : Fm) (W0 : World) (F : List Asn) {Z : Type} (rv : Z → Value) (post : Z → Rs) : Ctx :=
  ⟨P, n, W0, F, bodyPost P fn (Back W0 fun r Δ => ∃ z, r = rv z ∧ Δ = (post z).all F)⟩
theorem xf {P : Program} {f : FuncId} {args : List Value} {pre : Rs} {Z : Type} {rv : Z → Value} {post : Z → Rs} {fn : Func} (hf : P.funcs[f]? = some fn) (k : ∀ W0 F, G (ctx P fn ⟨Nat.max args.length fn.ntmps, [], none⟩ W0 F rv post) ⟨.code (bodyOf fn), [], argEnv 0 args, pre.own, pre.gam⟩)
    (hb : fn.body = some (bodyOf fn) := by kernel_rfl) : Fn P f args pre rv post := by
  intro W0 Γ
  exact Tr.enter (Nat.max args.length fn.ntmps) hf hb rfl (k W0 Γ).get
/-- The results, off the frame. -/
def resOf (P : Program) (s : XS) : List ResultVar → List Nat → Option (List Value × List (Value × Value))
  | [], _ => some ([], [])
  | .tmp t :: rs, h =>
    match lk s.env t, resOf P s rs h with
    | some v, some (vs, q) => some (v :: vs, q)
    | _, _ => none
  | .cell a t :: rs, h =>
    match h with
    | [] => none
    | j :: h =>
      match lk s.env a with
      | some (.pointer (some p)) =>
        match semLd P s.own j (loadVar t p), resOf P s rs h with
        | some ⟨v, q1⟩, some (vs, q) => some (v :: vs, q1 ++ q)
        | _, _ => none
      | _ => none
theorem resOf_ok {P : Program} {W0 : World} {s : XS} {F : List Asn} : ∀ {rs : List ResultVar} {h : List Nat} {vs : List Value} {q : List (Value × Value)}, resOf P s rs h = some (vs, q) → Alike q → ResVs P W0 s.env (s.all F) rs vs
  | [], _, _, _, h, _ => by
    simp only [resOf, Option.some.injEq, Prod.mk.injEq] at h
    obtain ⟨rfl, -⟩ := h
    exact .nil
  | .tmp t :: rs, _, _, _, h, hq => by
    unfold resOf at h
    split at h
    · rename_i v vs q h1 h2
      simp only [Option.some.injEq, Prod.mk.injEq] at h
      obtain ⟨rfl, rfl⟩ := h
      exact .cons (.tmp h1) (resOf_ok h2 hq)
    · cases h
  | .cell a t :: rs, h', _, _, h, hq => by
    unfold resOf at h
    split at h
    · cases h
    · split at h
      · rename_i p hp
        split at h
        · rename_i v q1 vs q h1 h2
          simp only [Option.some.injEq, Prod.mk.injEq] at h
          obtain ⟨rfl, rfl⟩ := h
          obtain ⟨hq1, hq2⟩ := Alike.app hq
          exact .cons (.cell hp fun w hw => semLd_ok hw h1 hq1) (resOf_ok h2 hq2)
        · cases h
      · cases h
def isEnd (s : XS) : Bool :=
  match s.pos, s.stk with
  | .ex .ret, [] => true
  | .ex .normal, [] => true
  | _, _ => false
def resV (o : Option (List Value × List (Value × Value))) : Value :=
  match o with
  | some (vs, _) => packed vs
  | none => .tuple #[undef, undef, undef, undef, undef, undef, undef, undef, undef]
def resQ (o : Option (List Value × List (Value × Value))) : Option (List (Value × Value)) := o.map (·.2)
theorem xr {P : Program} {fn : Func} {n : Fm} {W0 : World} {F : List Asn} {Z : Type} {rv : Z → Value} {post : Z → Rs} {s : XS} (h hr io ia : List Nat) (z : Z)
    (hq : (s.dq (ctx P fn n W0 F rv post) h).map (·.1) = (s.dq (ctx P fn n W0 F rv post) h).map (·.2) := by kernel_rfl) (hp : s.dp (ctx P fn n W0 F rv post) h = [] := by kernel_rfl)
    (he : isEnd (s.dr (ctx P fn n W0 F rv post) h) = true := by kernel_rfl) (hrq : oks (resQ (resOf P (s.dr (ctx P fn n W0 F rv post) h) fn.results.toList hr)) = okr (resQ (resOf P (s.dr (ctx P fn n W0 F rv post) h) fn.results.toList hr)) := by kernel_rfl)
    (hrv : resV (resOf P (s.dr (ctx P fn n W0 F rv post) h) fn.results.toList hr) = rv z := by kernel_rfl) (hpo : pkO io (s.dr (ctx P fn n W0 F rv post) h).own = (post z).own := by kernel_rfl) (hpa : pkA ia (s.dr (ctx P fn n W0 F rv post) h).gam = (post z).gam := by kernel_rfl) (hds : n.ds = [] := by kernel_rfl) :
    G (ctx P fn n W0 F rv post) s := by
  refine ⟨x0 h ?_ hq hp⟩
  generalize s.dr (ctx P fn n W0 F rv post) h = s at *
  obtain ⟨q, hq2, hq3⟩ := oks_ok hrq
  cases ho : resOf P s fn.results.toList hr with
  | none => rw [ho] at hq2; cases hq2
  | some x =>
    obtain ⟨vs, q'⟩ := x
    rw [ho] at hq2 hrv
    obtain rfl := Option.some.inj hq2
    have hres := resOf_ok (W0 := W0) (F := F) ho hq3
    have hgo : ∀ w, Sat W0 (s.all F) w → Sat W0 ((post z).all F) w := fun w hw => by
      have h1 := sat_take io ia hw
      rw [hpo, hpa] at h1
      refine h1.imp fun S I hs => ?_
      have h2 : Star (owns (post z).own ++ ((post z).gam ++ (owns (rsO io s.own) ++ (rsA ia s.gam ++ F)))) S I (fun b => w.heap[b]?) := hs
      have h3 : Star ((owns (post z).own ++ (post z).gam) ++ (owns (rsO io s.own) ++ (rsA ia s.gam ++ F))) S I (fun b => w.heap[b]?) := by simpa using h2
      obtain ⟨S1, S2, q1, q2, q3, q4, q5⟩ := h3.append_of
      have h4 : Star ((owns (rsO io s.own) ++ rsA ia s.gam) ++ F) S2 I (fun b => w.heap[b]?) := by simpa using q5
      obtain ⟨T1, T2, k1, k2, k3, k4, k5⟩ := h4.append_of
      have := Star.append (S1 := S1) (S2 := T2) q1 (fun b hb => q2 b (k2 b hb)) (fun b hs ht => q3 b hs (k2 b ht)) q4 k5
      simpa [Rs.all] using this
    have hR : ∃ z', packed vs = rv z' ∧ (post z).all F = (post z').all F := ⟨z, hrv, rfl⟩
    unfold GP
    unfold isEnd at he
    split at he
    · rename_i h1 h2
      rw [h1, h2]
      exact at_back hds vs _ hres hgo hR
    · rename_i h1 h2
      rw [h1, h2]
      exact at_back_end hds vs _ hres hgo hR
    · cases he
/-- A contract whose results y are named: the answer and what is left are of y. -/
def FnY (P : Program) (f : FuncId) (args : List Value) (pre : Rs) {Y Z : Type} (rv : Y → Z → Value) (post : Y → Z → Rs) (y : Y) : Prop := Fn P f args pre (rv y) (post y)
def ctxY (P : Program) (fn : Func) (n : Fm) (W0 : World) (F : List Asn) {Y Z : Type} (rv : Y → Z → Value) (post : Y → Z → Rs) (y : Y) : Ctx := ctx P fn n W0 F (rv y) (post y)
theorem xfY {P : Program} {f : FuncId} {args : List Value} {pre : Rs} {Y Z : Type} {rv : Y → Z → Value} {post : Y → Z → Rs} {y : Y} {fn : Func} (hf : P.funcs[f]? = some fn) (k : ∀ W0 F, G (ctxY P fn ⟨Nat.max args.length fn.ntmps, [], none⟩ W0 F rv post y) ⟨.code (bodyOf fn), [], argEnv 0 args, pre.own, pre.gam⟩)
    (hb : fn.body = some (bodyOf fn) := by kernel_rfl) : FnY P f args pre rv post y := xf hf k hb
/-- The end. -/
theorem xrY {P : Program} {fn : Func} {n : Fm} {W0 : World} {F : List Asn} {Y Z : Type} {y y' : Y} (e : y' = y) {rv : Y → Z → Value} {post : Y → Z → Rs} {s : XS} (h hr io ia : List Nat) (z : Z)
    (hq : (s.dq (ctxY P fn n W0 F rv post y) h).map (·.1) = (s.dq (ctxY P fn n W0 F rv post y) h).map (·.2) := by kernel_rfl) (hp : s.dp (ctxY P fn n W0 F rv post y) h = [] := by kernel_rfl)
    (he : isEnd (s.dr (ctxY P fn n W0 F rv post y) h) = true := by kernel_rfl) (hrq : oks (resQ (resOf P (s.dr (ctxY P fn n W0 F rv post y) h) fn.results.toList hr)) = okr (resQ (resOf P (s.dr (ctxY P fn n W0 F rv post y) h) fn.results.toList hr)) := by kernel_rfl)
    (hrv : resV (resOf P (s.dr (ctxY P fn n W0 F rv post y) h) fn.results.toList hr) = rv y' z := by kernel_rfl) (hpo : pkO io (s.dr (ctxY P fn n W0 F rv post y) h).own = (post y' z).own := by kernel_rfl) (hpa : pkA ia (s.dr (ctxY P fn n W0 F rv post y) h).gam = (post y' z).gam := by kernel_rfl) (hds : n.ds = [] := by kernel_rfl) :
    G (ctxY P fn n W0 F rv post y) s := by
  subst e
  exact xr h hr io ia z hq hp he hrq hrv hpo hpa hds
theorem Fn.quiet {P : Program} {f : FuncId} {args : List Value} {v : Value} (h : Fn P f args ⟨[], []⟩ (fun _ : Unit => v) (fun _ => ⟨[], []⟩)) : Fq P f args v := fun W0 Γ => (h W0 Γ).mono fun _ _ ⟨_, h1, h2⟩ => ⟨h1, h2⟩
end Go.Proofs.YtcidmgkfaioceaaGreat
namespace Go.Proofs.YtcidmgkfaioceaaGreat
open Go Go.RowKit

/-- How a value lies in a row of cells; X: the places that its cells name. -/
class Rw (α : Type) where
  X : Type
  k : Nat
  cells : α → X → List Value
  asn : α → X → Asn
  d : α
  len : ∀ a x, (cells a x).length = k
  one : ∀ a x, (cells a x).all oneCell = true
  dup : ∀ a x S I h, (asn a x).holds S I h → (asn a x).holds (fun _ => False) I h
variable {α : Type} [Rw α]
def rowsOf (l : List α) (xs : List (Rw.X α)) : List (List Value) := List.zipWith Rw.cells l xs
def Knows (I : Nat → Prop) (h : Nat → Option Obj) (l : List α) (xs : List (Rw.X α)) : Prop := ∀ (i : Nat) (a : α) (x : Rw.X α), l[i]? = some a → xs[i]? = some x → (Rw.asn a x).holds (fun _ => False) I h
theorem Knows.loc {S I : Nat → Prop} {h h' : Nat → Option Obj} {l : List α} {xs : List (Rw.X α)} (q : Knows I h l xs) (he : ∀ b, S b ∨ I b → h' b = h b) : Knows I h' l xs := fun i a x h1 h2 => (Rw.asn a x).loc (q i a x h1 h2) fun b hb => he b (hb.elim (fun f => f.elim) .inr)
theorem Knows.mono {I I' : Nat → Prop} {h : Nat → Option Obj} {l : List α} {xs : List (Rw.X α)} (q : Knows I h l xs) (hi : ∀ b, I b → I' b) : Knows I' h l xs := fun i a x h1 h2 => (Rw.asn a x).mono (q i a x h1 h2) hi
/-- An array of ours. -/
def ArrA (a : Option Addr) (cap : Nat) (l : List α) : Asn where
  holds S I h := ∃ xs : List (Rw.X α), xs.length = l.length ∧ (RowsA (Rw.k α) a cap (rowsOf l xs)).holds S I h ∧ Knows I h l xs
  loc := fun ⟨xs, h1, h2, h3⟩ he => ⟨xs, h1, (RowsA _ _ _ _).loc h2 he, h3.loc he⟩
  mono := fun ⟨xs, h1, h2, h3⟩ hi => ⟨xs, h1, (RowsA _ _ _ _).mono h2 hi, h3.mono hi⟩
/-- The same, for good. -/
def ImmA (a : Option Addr) (cap : Nat) (l : List α) : Asn where
  holds S I h := l.length ≤ cap ∧ ∃ xs : List (Rw.X α), xs.length = l.length ∧ (ImmR (Rw.k α) a (rowsOf l xs)).holds S I h ∧ Knows I h l xs
  loc := fun ⟨h0, xs, h1, h2, h3⟩ he => ⟨h0, xs, h1, (ImmR _ _ _).loc h2 he, h3.loc he⟩
  mono := fun ⟨h0, xs, h1, h2, h3⟩ hi => ⟨h0, xs, h1, (ImmR _ _ _).mono h2 hi, h3.mono hi⟩
theorem rowsOf_len {l : List α} {xs : List (Rw.X α)} (h : xs.length = l.length) : (rowsOf l xs).length = l.length := by simp [rowsOf, h]
/-- The rows lie at a. -/
def LieA (a : Option Addr) (l : List α) (xs : List (Rw.X α)) : Asn where
  holds S I h := (∀ r ∈ rowsOf l xs, r.length = Rw.k α) ∧ (rowsOf l xs = [] ∨ ∃ (b off : Nat) (c : Array Value) (T : TypeId) (fr : Nat × Nat), a = some ⟨b, off, none⟩ ∧ (S b ∨ I b) ∧ h b = some (.cells c T fr) ∧ LiesAt c off (rowsOf l xs).flatten) ∧ Knows I h l xs
  loc := fun ⟨h1, h2, h3⟩ he => ⟨h1, h2.imp id fun ⟨b, off, c, T, fr, e1, e2, e3, e4⟩ => ⟨b, off, c, T, fr, e1, e2, (he b e2).trans e3, e4⟩, h3.loc he⟩
  mono := fun ⟨h1, h2, h3⟩ hi => ⟨h1, h2.imp id fun ⟨b, off, c, T, fr, e1, e2, e3, e4⟩ => ⟨b, off, c, T, fr, e1, e2.imp id (hi b), e3, e4⟩, h3.mono hi⟩
def Asn.and (A B : Asn) : Asn where
  holds S I h := A.holds S I h ∧ B.holds S I h
  loc := fun ⟨h1, h2⟩ he => ⟨A.loc h1 he, B.loc h2 he⟩
  mono := fun ⟨h1, h2⟩ hi => ⟨A.mono h1 hi, B.mono h2 hi⟩
/-- Under A the list l may be read at a. -/
structure Rdb (A : Asn) (a : Option Addr) (cap : Nat) (l : List α) : Prop where
  rd : ∀ S I h, A.holds S I h → l.length ≤ cap ∧ ∃ xs : List (Rw.X α), xs.length = l.length ∧ (LieA a l xs).holds S I h
theorem rA (a : Option Addr) (cap : Nat) (l : List α) : Rdb (ArrA a cap l) a cap l where
  rd := fun _ _ _ ⟨xs, h1, ⟨q1, q2⟩, h3⟩ => ⟨by rw [← rowsOf_len h1]; rcases q2 with ⟨e, _⟩ | ⟨_, _, _, _, _, _, _, e, _⟩; (· rw [e]; simp); exact e, xs, h1, q1, q2.elim (fun ⟨e, _⟩ => .inl e) fun ⟨b, off, c, T, e1, e2, e3, _, _, e6⟩ => .inr ⟨b, off, c, T, _, e1, .inl e2, e3, e6⟩, h3⟩
theorem rI (a : Option Addr) (cap : Nat) (l : List α) : Rdb (ImmA a cap l) a cap l where
  rd := fun _ _ _ ⟨h0, xs, h1, ⟨q1, q2⟩, h3⟩ => ⟨h0, xs, h1, q1, q2.elim .inl fun ⟨b, off, c, T, fr, e1, e2, e3, e6⟩ => .inr ⟨b, off, c, T, fr, e1, .inr e2, e3, e6⟩, h3⟩
theorem rN (A : Asn) (a : Option Addr) (cap : Nat) : Rdb A a cap ([] : List α) where
  rd := fun _ _ _ _ => ⟨Nat.zero_le _, [], rfl, fun r hr => by simp [rowsOf] at hr, .inl rfl, fun i a x h => by simp at h⟩
theorem Sat.read {W0 w : World} {Γ : List Asn} {A : Asn} {a : Option Addr} {cap : Nat} {l : List α} (hA : Rdb A a cap l) (hw : Sat W0 (A :: Γ) w) : ∃ xs : List (Rw.X α), xs.length = l.length ∧ Sat W0 (A.and (LieA a l xs) :: Γ) w := by
  obtain ⟨S, I, ⟨S1, S2, h1, h2, h3, h4, h5⟩, r⟩ := hw
  obtain ⟨_, xs, q1, q2⟩ := hA.rd S1 I _ h4
  exact ⟨xs, q1, S, I, ⟨S1, S2, h1, h2, h3, ⟨h4, q2⟩, h5⟩, r⟩
theorem Sat.unread {W0 w : World} {Γ : List Asn} {A B : Asn} (hw : Sat W0 (A.and B :: Γ) w) : Sat W0 (A :: Γ) w := Sat.head_imp (A := A.and B) (B := A) (fun _ _ _ h => h.1) hw

theorem rowsOf_get {l : List α} {xs : List (Rw.X α)} {i : Nat} {a : α} {x : Rw.X α} (h1 : l[i]? = some a) (h2 : xs[i]? = some x) : (rowsOf l xs)[i]? = some (Rw.cells a x) := by
  simp [rowsOf, List.getElem?_zipWith, h1, h2]
theorem getX {l : List α} {xs : List (Rw.X α)} (h : xs.length = l.length) {i : Nat} {a : α} (h1 : l[i]? = some a) : ∃ x, xs[i]? = some x := by
  have : i < l.length := by
    rcases Nat.lt_or_ge i l.length with q | q
    · exact q
    · rw [List.getElem?_eq_none q] at h1; cases h1
  exact ⟨xs[i]'(by omega), List.getElem?_eq_getElem _⟩
theorem rowsOf_k {l : List α} {xs : List (Rw.X α)} : ∀ r ∈ rowsOf l xs, r.length = Rw.k α := by
  intro r hr
  obtain ⟨i, hi⟩ := List.mem_iff_getElem?.1 hr
  simp only [rowsOf, List.getElem?_zipWith] at hi
  split at hi
  · obtain rfl := Option.some.inj hi; exact Rw.len _ _
  · cases hi
theorem rowsOf_one {l : List α} {xs : List (Rw.X α)} : (rowsOf l xs).flatten.all oneCell = true := by
  rw [List.all_eq_true]
  intro v hv
  obtain ⟨r, hr, hv⟩ := List.mem_flatten.1 hv
  obtain ⟨i, hi⟩ := List.mem_iff_getElem?.1 hr
  simp only [rowsOf, List.getElem?_zipWith] at hi
  split at hi
  · rename_i a x _ _
    obtain rfl := Option.some.inj hi
    have := Rw.one a x
    rw [List.all_eq_true] at this
    exact this v hv
  · cases hi

def nthT (l : List α) (i : Int) : α := l.getD i.toNat (Rw.d)
theorem nthT_get {l : List α} {i : Int} (h : 0 ≤ i ∧ i < ((l.length : Nat) : Int)) : l[i.toNat]? = some (nthT l i) := by
  have : i.toNat < l.length := by omega
  simp [nthT, this]

section get
variable {P : Program} {A : Asn} {a : Option Addr} {cap : Nat} {l : List α} {i : Int} {b off : Nat} {e : α}
/-- What is in a row, in a world of which A is known. -/
theorem Rdb.row {W0 w : World} {Γ : List Asn} (hA : Rdb A a cap l) (hb : 0 ≤ i ∧ i < ((l.length : Nat) : Int)) (he : nthT l i = e) (hw : Sat W0 (A :: Γ) w) :
    ∃ (x : Rw.X α) (b off : Nat), a = some ⟨b, off, none⟩ ∧ (∀ j v, (Rw.cells e x)[j]? = some v → w.cell? ⟨b, off + (i.toNat * Rw.k α + j), none⟩ = some v) ∧ Sat W0 (Rw.asn e x :: A :: Γ) w := by
  have hw0 := hw
  obtain ⟨S, I, ⟨S1, S2, h1, h2, h3, h4, h5⟩, r⟩ := hw0
  obtain ⟨_, xs, q1, q2, q3, q4⟩ := hA.rd S1 I _ h4
  have hg := nthT_get hb
  rw [he] at hg
  obtain ⟨x, hx⟩ := getX q1 hg
  have hrow := rowsOf_get hg hx
  rcases q3 with q3 | ⟨b, off, c, T, fr, e1, _, e2, e3⟩
  · rw [q3] at hrow; simp at hrow
  · refine ⟨x, b, off, e1, fun j v hv => ?_, S, I, ⟨fun _ => False, S, fun _ h => h.elim, fun _ h => h, fun _ h _ => h, q4 _ _ _ hg hx, S1, S2, h1, h2, h3, h4, h5⟩, r⟩
    rw [cell_of e2]
    exact e3 _ v (flatten_get q2 hrow hv)
theorem oc_ld (hA : Rdb A a cap l) (ha : a = some ⟨b, off, none⟩) (hb : 0 ≤ i ∧ i < ((l.length : Nat) : Int)) (he : nthT l i = e) (j : Nat) (hj : Nat.blt j (Rw.k α) = true := by kernel_rfl) :
    Oc P (load ((⟨b, off + i.toNat * Rw.k α, none⟩ : Addr).add j) >>= fun v => pure (Next.value v)) ⟨[], [A]⟩ (fun x : Rw.X α => (Rw.cells e x).getD j undef) (fun x => ⟨[], [Rw.asn e x, A]⟩) := by
  intro W0 Γ w hw
  obtain ⟨x, b', off', e1, e2, e3⟩ := hA.row hb he hw
  rw [ha] at e1
  simp only [Option.some.injEq, Addr.mk.injEq, and_true] at e1
  obtain ⟨rfl, rfl⟩ := e1
  have hjk : j < (Rw.cells e x).length := by rw [Rw.len]; simpa using hj
  have hg : (Rw.cells e x)[j]? = some ((Rw.cells e x).getD j undef) := by simp [List.getD_eq_getElem?_getD, List.getElem?_eq_getElem hjk]
  refine ⟨x, w, _, run_seq (run_load_cell (v := (Rw.cells e x).getD j undef) ?_) rfl, .inl rfl, e3⟩
  rw [add_none, Nat.add_assoc]
  exact e2 j _ hg
/-- The same where the cell names nothing. -/
theorem ol_ld (hA : Rdb A a cap l) (ha : a = some ⟨b, off, none⟩) (hb : 0 ≤ i ∧ i < ((l.length : Nat) : Int)) (j : Nat) {v : Value} (hv : ∀ x : Rw.X α, (Rw.cells (nthT l i) x)[j]? = some v) :
    Ol P (load ((⟨b, off + i.toNat * Rw.k α, none⟩ : Addr).add j) >>= fun v => pure (Next.value v)) A v := by
  intro W0 Γ w hw
  obtain ⟨x, b', off', e1, e2, e3⟩ := hA.row hb rfl hw
  rw [ha] at e1
  simp only [Option.some.injEq, Addr.mk.injEq, and_true] at e1
  obtain ⟨rfl, rfl⟩ := e1
  refine run_seq (run_load_cell (v := v) ?_) rfl
  rw [add_none, Nat.add_assoc]
  exact e2 j _ (hv x)
theorem ol_ldN (hA : Rdb A a cap l) (ha : a = some ⟨b, off, none⟩) (hb : 0 ≤ i ∧ i < ((l.length : Nat) : Int)) (j m : Nat) {vs : List Value} (hv : ∀ x : Rw.X α, ((Rw.cells (nthT l i) x).drop j).take m = vs) (hj : Nat.ble (j + m) (Rw.k α) = true := by kernel_rfl) :
    Ol P (loadCells ((⟨b, off + i.toNat * Rw.k α, none⟩ : Addr).add j) m >>= fun cs => pure (Next.value (.agg cs))) A (.agg vs.toArray) := by
  intro W0 Γ w hw
  obtain ⟨x, b', off', e1, e2, e3⟩ := hA.row hb rfl hw
  rw [ha] at e1
  simp only [Option.some.injEq, Addr.mk.injEq, and_true] at e1
  obtain ⟨rfl, rfl⟩ := e1
  have hjk : j + m ≤ (Rw.cells (nthT l i) x).length := by rw [Rw.len]; simpa using hj
  rw [← hv x]
  refine run_seq (run_loadCells (vs := ((Rw.cells (nthT l i) x).drop j).take m) m (by simp; omega) fun q v hq => ?_) rfl
  rw [List.getElem?_take] at hq
  split at hq
  · rw [List.getElem?_drop] at hq
    rw [add_none, add_none, Nat.add_assoc, Nat.add_assoc]
    exact e2 _ v hq
  · cases hq
theorem oc_ldN (hA : Rdb A a cap l) (ha : a = some ⟨b, off, none⟩) (hb : 0 ≤ i ∧ i < ((l.length : Nat) : Int)) (he : nthT l i = e) (j m : Nat) (hj : Nat.ble (j + m) (Rw.k α) = true := by kernel_rfl) :
    Oc P (loadCells ((⟨b, off + i.toNat * Rw.k α, none⟩ : Addr).add j) m >>= fun cs => pure (Next.value (.agg cs))) ⟨[], [A]⟩ (fun x : Rw.X α => .agg (((Rw.cells e x).drop j).take m).toArray) (fun x => ⟨[], [Rw.asn e x, A]⟩) := by
  intro W0 Γ w hw
  obtain ⟨x, b', off', e1, e2, e3⟩ := hA.row hb he hw
  rw [ha] at e1
  simp only [Option.some.injEq, Addr.mk.injEq, and_true] at e1
  obtain ⟨rfl, rfl⟩ := e1
  have hjk : j + m ≤ (Rw.cells e x).length := by rw [Rw.len]; simpa using hj
  refine ⟨x, w, _, run_seq (run_loadCells (vs := ((Rw.cells e x).drop j).take m) m (by simp; omega) fun q v hq => ?_) rfl, .inl rfl, e3⟩
  rw [List.getElem?_take] at hq
  split at hq
  · rw [List.getElem?_drop] at hq
    rw [add_none, add_none, Nat.add_assoc, Nat.add_assoc]
    exact e2 _ v hq
  · cases hq
end get

/-- What stands in the way of an index: the slice's place, length, the index, the row's size. -/
def inI : Value → Int
  | .int _ n => n
  | _ => -1
def ixOf (P : Program) (s : XS) : Option (Option Addr × Nat × Int × Nat) :=
  match s.op.op with
  | .indexAddr t x ix =>
    match ev s.env x, ev s.env ix, P.underlying t with
    | .slice a m _, .int .i64 n, some (.slice E) => (P.info? E).map fun i => (a, m, n, i.size)
    | _, _, _ => none
  | _ => none
/-- An array's place, where it has rows. -/
theorem xiG {X : Ctx} {s : XS} (h : List Nat) (ia : Nat) {A : Asn} {a : Option Addr} {m : Nat} {i : Int} {K : Nat} (hA : ∀ (W0 : World) (Γ : List Asn) (w : World), Sat W0 (A :: Γ) w → ∃ b off, a = some ⟨b, off, none⟩) (hb : 0 ≤ i ∧ i < ((m : Nat) : Int)) (k : ∀ b off, a = some ⟨b, off, none⟩ → G X ((s.dr X h).putQ (.pointer (some ⟨b, off + i.toNat * K, none⟩))))
    (hq : (s.dq X h).map (·.1) = (s.dq X h).map (·.2) := by kernel_rfl) (hp : s.dp X h = [] := by kernel_rfl) (hn : pkA [ia] (s.dr X h).gam = [A] := by kernel_rfl)
    (hx : ixOf X.P (s.dr X h) = some (a, m, i, K) := by kernel_rfl) (h1 : oks ((s.dr X h).ok4 X.n) = okr ((s.dr X h).ok4 X.n) := by kernel_rfl) : G X s := by
  refine ⟨x0 h ?_ hq hp⟩
  generalize s.dr X h = s at *
  refine exists_ok (Z := Nat × Nat) (p := fun z => a = some ⟨z.1, z.2, none⟩) (fun w hw => ?_) fun z hz => ?_
  · have h2 := sat_take [] [ia] hw
    rw [hn] at h2
    obtain ⟨b, off, e1⟩ := hA _ _ _ (show Sat X.W0 (A :: _) w from h2)
    exact ⟨(b, off), e1⟩
  · obtain ⟨b, off⟩ := z
    refine quiet_ok h1 (fun Γ => StepTo.pure fun w => ?_) (k b off hz).get
    unfold ixOf at hx
    split at hx
    · rename_i t x ix hop
      split at hx
      · rename_i a' m c n' E e1 e2 e3
        simp only [Option.map_eq_some_iff, Prod.mk.injEq] at hx
        obtain ⟨info, hi, rfl, rfl, rfl, hk⟩ := hx
        rw [hop]
        refine index_at (a := a') (m := m) (c := c) (x := n') (i := n'.toNat) info (fun w => ?_) e3 hi hk hz (by omega) (by omega) rfl w
        show ((Instr.indexAt t (ev s.env x) (ev s.env ix)) >>= fun v => pure (Next.value v)).run X.P w = _
        rw [e1, e2]
      · cases hx
    · cases hx
/-- 'xs[i]', its place. -/
theorem xi {X : Ctx} {s : XS} (h : List Nat) (ia : Nat) {A : Asn} {a : Option Addr} {cap : Nat} {l : List α} {i : Int} (hA : Rdb A a cap l) (hb : 0 ≤ i ∧ i < ((l.length : Nat) : Int)) (k : ∀ b off, a = some ⟨b, off, none⟩ → G X ((s.dr X h).putQ (.pointer (some ⟨b, off + i.toNat * Rw.k α, none⟩))))
    (hq : (s.dq X h).map (·.1) = (s.dq X h).map (·.2) := by kernel_rfl) (hp : s.dp X h = [] := by kernel_rfl) (hn : pkA [ia] (s.dr X h).gam = [A] := by kernel_rfl)
    (hx : ixOf X.P (s.dr X h) = some (a, l.length, i, Rw.k α) := by kernel_rfl) (h1 : oks ((s.dr X h).ok4 X.n) = okr ((s.dr X h).ok4 X.n) := by kernel_rfl) : G X s := by
  refine ⟨x0 h ?_ hq hp⟩
  generalize s.dr X h = s at *
  refine exists_ok (Z := Nat × Nat) (p := fun z => a = some ⟨z.1, z.2, none⟩) (fun w hw => ?_) fun z hz => ?_
  · have h2 := sat_take [] [ia] hw
    rw [hn] at h2
    obtain ⟨x, b, off, e1, _⟩ := hA.row hb rfl (show Sat X.W0 (A :: _) w from h2)
    exact ⟨(b, off), e1⟩
  · obtain ⟨b, off⟩ := z
    refine quiet_ok h1 (fun Γ => StepTo.pure fun w => ?_) (k b off hz).get
    unfold ixOf at hx
    split at hx
    · rename_i t x ix hop
      split at hx
      · rename_i a' m c n' E e1 e2 e3
        simp only [Option.map_eq_some_iff, Prod.mk.injEq] at hx
        obtain ⟨info, hi, rfl, rfl, rfl, hk⟩ := hx
        rw [hop]
        refine index_at (a := a') (m := l.length) (c := c) (x := n') (i := n'.toNat) info (fun w => ?_) e3 hi hk hz (by omega) (by omega) rfl w
        show ((Instr.indexAt t (ev s.env x) (ev s.env ix)) >>= fun v => pure (Next.value v)).run X.P w = _
        rw [e1, e2]
      · cases hx
    · cases hx

/-- What a step over assertions comes to, as a run. -/
theorem run_of {P : Program} {W0 w : World} {Γ : List Asn} {op : Op} {ty : TypeId} {Post : Value → List Asn → Prop} {sv : Sem Value} (h : StepTo P W0 Γ [] op ty Post) (hx : (execOp (ev []) (bare op ty)) = (sv >>= fun v => pure (Next.value v))) (hw : Sat W0 Γ w) :
    ∃ v w' Γ', (sv >>= fun v => pure (Next.value v)).run P w = .ok (.value v) w' ∧ Post v Γ' ∧ Sat W0 Γ' w' := by
  have h1 := h w hw none ⟨some 0, op, ty, "", #[], none⟩ ⟨#[undef], []⟩ (fun a w' => ∃ v Γ', Post v Γ' ∧ Sat W0 Γ' w' ∧ a = (⟨#[undef], []⟩ : Act).put (some 0) v) (fun _ _ _ => False) (fun v Γ' w' p1 p2 => ⟨v, Γ', p1, p2, rfl⟩)
  rw [hx] at h1
  rw [Sem.run_bind] at h1 ⊢
  cases hr : sv.run P w with
  | halt x w' => rw [hr] at h1; cases x <;> exact h1.elim
  | ok v w' =>
    rw [hr] at h1
    obtain ⟨v', Γ', p1, p2, p3⟩ := h1
    have e : v = v' := by
      have := congrArg (fun a : Act => a.tmps[0]?) p3
      simpa [Act.put] using this
    subst e
    exact ⟨v, w', Γ', rfl, p1, p2⟩

/-! Rows are written. -/
section set
variable {P : Program} {a : Option Addr} {cap : Nat} {l : List α} {i : Int} {b off : Nat} {e : α}
def setT (l : List α) (i : Int) (e : α) : List α := l.set i.toNat e
theorem rowsOf_set {l : List α} {xs : List (Rw.X α)} {i : Nat} {e : α} {x : Rw.X α} : (rowsOf l xs).set i (Rw.cells e x) = rowsOf (l.set i e) (xs.set i x) := by
  unfold rowsOf
  apply List.ext_getElem?
  intro j
  simp only [List.getElem?_zipWith, List.getElem?_set, List.length_zipWith]
  by_cases h : i = j
  · subst h
    simp only [if_true]
    by_cases h1 : i < l.length <;> by_cases h2 : i < xs.length <;> simp [h1, h2, Nat.lt_min]
  · simp [h]
end set
section run
variable {P : Program} {W0 w : World} {Γ : List Asn} {k : Nat} {a : Option Addr} {cap : Nat} {rows : List (List Value)}
theorem run_row {b off i j : Nat} {row vs : List Value} (ha : a = some ⟨b, off, none⟩) (hi : rows[i]? = some row) (hjk : j + vs.length ≤ k) (hv : vs.all oneCell = true) (hw : Sat W0 (RowsA k a cap rows :: Γ) w) :
    ∃ w', (storeCells ⟨b, off + (i * k + j), none⟩ vs).run P w = .ok () w' ∧ Sat W0 (RowsA k a cap (rows.set i (putRow row j vs)) :: Γ) w' := by
  subst ha
  obtain ⟨S, I, ⟨S1, S2, h1, h2, h3, ⟨h4, h5⟩, h6⟩, d1, d2, d3, d4, d5⟩ := hw
  have hil : i < rows.length := by
    rcases Nat.lt_or_ge i rows.length with h | h
    · exact h
    · rw [List.getElem?_eq_none h] at hi; cases hi
  have hrk : row.length = k := h4 row (List.mem_of_getElem? hi)
  rcases h5 with ⟨rfl, _⟩ | ⟨b', off', c, T, q1, q2, q3, q4, q5, q6⟩
  · simp at hil
  · simp only [Option.some.injEq, Addr.mk.injEq, and_true] at q1
    obtain ⟨rfl, rfl⟩ := q1
    have hmul : i * k + k ≤ cap * k := by
      have : (i + 1) * k ≤ cap * k := Nat.mul_le_mul_right _ (by omega)
      rwa [Nat.succ_mul] at this
    obtain ⟨w', r1, r2, r3, r4, r5, r6, r7⟩ := run_storeCells (P := P) (off := off + (i * k + j)) vs 0 w c q3 (by omega) hv
    have hne : ∀ d, d ≠ b → w'.heap[d]? = w.heap[d]? := r4
    have hnot : ∀ d, S2 d ∨ I d → d ≠ b := by
      rintro d hd rfl
      exact hd.elim (h3 d q2) (d1 d (h1 d q2))
    have hk' : ∀ r ∈ rows.set i (putRow row j vs), r.length = k := by
      intro r hr
      rcases List.mem_or_eq_of_mem_set hr with h | rfl
      · exact h4 r h
      · rw [putRow_length (by omega), hrk]
    refine ⟨w', r1, S, I, ⟨S1, S2, h1, h2, h3, ⟨hk', .inr ⟨b, off, _, T, rfl, q2, r2, by simpa using q4, ?_, ?_⟩⟩, h6.loc fun d hd => hne d (hnot d hd)⟩, d1, fun d hd => r3 ▸ d2 d hd, fun d hd => r3 ▸ d3 d hd, d4, ?_⟩
    · rw [putCells_size]; exact q5
    · intro q v hq
      obtain ⟨i', j', row', e1, e2, rfl, e4⟩ := flatten_at hk' hq
      rw [putCells_get _ _ _ _ (by omega)]
      by_cases hii : i' = i
      · subst hii
        rw [List.getElem?_set_self hil] at e1
        obtain rfl := Option.some.inj e1
        rw [putRow_get (by omega)] at e2
        by_cases h7 : j ≤ j' ∧ j' < j + vs.length
        · rw [if_pos h7] at e2
          rw [if_pos (by omega), show off + (i' * k + j') - (off + (i' * k + j) + 0) = j' - j from by omega]
          exact e2
        · rw [if_neg h7] at e2
          rw [if_neg (by omega)]
          exact q6 _ _ (flatten_get h4 hi e2)
      · rw [List.getElem?_set_ne (fun e3 => hii e3.symm)] at e1
        rw [if_neg ?_]
        · exact q6 _ _ (flatten_get h4 e1 e2)
        · rintro ⟨g1, g2⟩
          rcases Nat.lt_or_gt_of_ne hii with h8 | h8
          · have : (i' + 1) * k ≤ i * k := Nat.mul_le_mul_right _ h8
            rw [Nat.succ_mul] at this; omega
          · have : (i + 1) * k ≤ i' * k := Nat.mul_le_mul_right _ h8
            rw [Nat.succ_mul] at this; omega
    · exact ⟨r5.trans d5.os, r6.trans d5.tape, r7.trans d5.output, by rw [r3]; exact d5.size, fun d hd => (hne d (hnot d (.inr (d4 d hd)))).trans (d5.block d hd)⟩
end run
section set2
variable {P : Program} {W0 w : World} {Γ : List Asn} {a : Option Addr} {cap : Nat} {l : List α} {i : Int} {b off : Nat}
/-- An array's rows and what is known of them, apart. -/
def KnA (l : List α) (xs : List (Rw.X α)) : Asn where
  holds _ I h := Knows I h l xs
  loc := fun q he => q.loc he
  mono := fun q hi => q.mono hi
theorem ArrA.split (h : Sat W0 (ArrA a cap l :: Γ) w) : ∃ xs : List (Rw.X α), xs.length = l.length ∧ Sat W0 (RowsA (Rw.k α) a cap (rowsOf l xs) :: KnA l xs :: Γ) w := by
  obtain ⟨S, I, ⟨S1, S2, h1, h2, h3, ⟨xs, q1, q2, q3⟩, h5⟩, r⟩ := h
  exact ⟨xs, q1, S, I, ⟨S1, S2, h1, h2, h3, q2, fun _ => False, S2, fun _ h => h.elim, fun _ h => h, fun _ h _ => h, q3, h5⟩, r⟩
theorem ArrA.join {xs : List (Rw.X α)} (hl : xs.length = l.length) (h : Sat W0 (RowsA (Rw.k α) a cap (rowsOf l xs) :: KnA l xs :: Γ) w) : Sat W0 (ArrA a cap l :: Γ) w := by
  obtain ⟨S, I, ⟨S1, S2, h1, h2, h3, h4, T1, T2, k1, k2, k3, k4, k5⟩, r⟩ := h
  exact ⟨S, I, ⟨S1, T2, h1, fun b hb => h2 b (k2 b hb), fun b hb ht => h3 b hb (k2 b ht), ⟨xs, hl, h4, k4⟩, k5⟩, r⟩
theorem KnA.set {xs : List (Rw.X α)} {i : Nat} {e : α} {x : Rw.X α} (h : Sat W0 (KnA l xs :: Rw.asn e x :: Γ) w) : Sat W0 (KnA (l.set i e) (xs.set i x) :: Γ) w := by
  obtain ⟨S, I, ⟨S1, S2, h1, h2, h3, h4, T1, T2, k1, k2, k3, k4, k5⟩, r⟩ := h
  refine ⟨S, I, ⟨S1, T2, h1, fun b hb => h2 b (k2 b hb), fun b hb ht => h3 b hb (k2 b ht), fun j a y e1 e2 => ?_, k5⟩, r⟩
  rw [List.getElem?_set] at e1 e2
  split at e1
  · split at e1
    · split at e2
      · split at e2
        · obtain rfl := Option.some.inj e1
          obtain rfl := Option.some.inj e2
          exact Rw.dup _ _ _ _ _ k4
        · cases e2
      · rename_i hn _ hm; exact absurd hn hm
    · cases e1
  · rename_i hn
    rw [if_neg hn] at e2
    exact h4 j a y e1 e2
/-- A whole row, another one. -/
theorem oc_st {e : α} (x : Rw.X α) (ha : a = some ⟨b, off, none⟩) (hb : 0 ≤ i ∧ i < ((l.length : Nat) : Int)) {l' : List α} (hl : setT l i e = l') : Oc P (storeCells ⟨b, off + i.toNat * Rw.k α, none⟩ (Rw.cells e x) >>= fun _ => pure Next.skip) ⟨[], [ArrA a cap l, Rw.asn e x]⟩ (fun _ : Unit => undef) (fun _ => ⟨[], [ArrA a cap l']⟩) := by
  subst hl
  intro W0 Γ w hw
  obtain ⟨xs, q1, h1⟩ := ArrA.split (show Sat W0 (ArrA a cap l :: Rw.asn e x :: Γ) w from hw)
  have hg := nthT_get hb
  obtain ⟨x0, hx0⟩ := getX q1 hg
  obtain ⟨w', r1, r2⟩ := run_row (P := P) (j := 0) (vs := Rw.cells e x) ha (rowsOf_get hg hx0) (by rw [Rw.len]; omega) (Rw.one e x) h1
  rw [Nat.add_zero] at r1
  refine ⟨(), w', _, run_seq r1 rfl, .inr ⟨rfl, rfl⟩, ?_⟩
  have e1 : putRow (Rw.cells (nthT l i) x0) 0 (Rw.cells e x) = Rw.cells e x := by
    unfold putRow
    rw [List.take_zero, List.nil_append, Nat.zero_add, List.drop_of_length_le (by rw [Rw.len, Rw.len]; exact Nat.le_refl _), List.append_nil]
  rw [e1, rowsOf_set] at r2
  have h3 : Sat W0 (KnA (l.set i.toNat e) (xs.set i.toNat x) :: RowsA (Rw.k α) a cap (rowsOf (l.set i.toNat e) (xs.set i.toNat x)) :: Γ) w' := KnA.set (r2.less (.take (.there .here) (.take (.there .here) (.take .here .refl))))
  exact ArrA.join (by simp [q1, setT]) (h3.less (.take (.there .here) (.take .here .refl)))
/-- Some of its cells, others. -/
theorem oc_stf {e : α} (j : Nat) (vs : List Value) (ha : a = some ⟨b, off, none⟩) (hb : 0 ≤ i ∧ i < ((l.length : Nat) : Int)) (hrow : ∀ x : Rw.X α, putRow (Rw.cells (nthT l i) x) j vs = Rw.cells e x) (hasn : ∀ x : Rw.X α, Rw.asn e x = Rw.asn (nthT l i) x) {l' : List α} (hl : setT l i e = l')
    (hj : Nat.ble (j + vs.length) (Rw.k α) = true := by kernel_rfl) (hv : vs.all oneCell = true := by kernel_rfl) :
    Oc P (storeCells ((⟨b, off + i.toNat * Rw.k α, none⟩ : Addr).add j) vs >>= fun _ => pure Next.skip) ⟨[], [ArrA a cap l]⟩ (fun _ : Unit => undef) (fun _ => ⟨[], [ArrA a cap l']⟩) := by
  subst hl
  intro W0 Γ w hw
  obtain ⟨xs, q1, h1⟩ := ArrA.split (show Sat W0 (ArrA a cap l :: Γ) w from hw)
  have hg := nthT_get hb
  obtain ⟨x0, hx0⟩ := getX q1 hg
  obtain ⟨w', r1, r2⟩ := run_row (P := P) (j := j) (vs := vs) ha (rowsOf_get hg hx0) (by simpa using hj) hv h1
  rw [← Nat.add_assoc] at r1
  refine ⟨(), w', _, run_seq (by rw [add_none]; exact r1) rfl, .inr ⟨rfl, rfl⟩, ?_⟩
  rw [hrow x0, rowsOf_set] at r2
  have h2 : Sat W0 (KnA l xs :: Rw.asn e x0 :: RowsA (Rw.k α) a cap (rowsOf (l.set i.toNat e) (xs.set i.toNat x0)) :: Γ) w' := by
    have h3 : Sat W0 (KnA l xs :: RowsA (Rw.k α) a cap (rowsOf (l.set i.toNat e) (xs.set i.toNat x0)) :: Γ) w' := r2.less (.take (.there .here) (.take .here .refl))
    obtain ⟨S, I, ⟨S1, S2, p1, p2, p3, p4, p5⟩, r⟩ := h3
    exact ⟨S, I, ⟨S1, S2, p1, p2, p3, p4, fun _ => False, S2, fun _ h => h.elim, fun _ h => h, fun _ h _ => h, by rw [hasn x0]; exact p4 _ _ _ hg hx0, p5⟩, r⟩
  exact ArrA.join (by simp [q1, setT]) ((KnA.set h2).less (.take (.there .here) (.take .here .refl)))
end set2

/-! The same said in other words. -/
section gh
variable {a : Option Addr} {cap : Nat} {l : List α}
/-- A block's cells, spelt otherwise. -/
theorem gh_cells (b T : Nat) {c c' : Array Value} (e : c = c') : Gh ⟨[⟨b, c, T⟩], []⟩ fun _ : Unit => ⟨[⟨b, c', T⟩], []⟩ := by
  subst e
  exact fun _ _ _ hw => ⟨(), hw⟩
theorem gh_frz (a : Option Addr) (cap : Nat) (l : List α) : Gh ⟨[], [ArrA a cap l]⟩ fun _ : Unit => ⟨[], [ImmA a cap l]⟩ := by
  intro W0 Γ w hw
  refine ⟨(), ?_⟩
  obtain ⟨xs, q1, h1⟩ := ArrA.split (show Sat W0 (ArrA a cap l :: Γ) w from hw)
  have h0 := (RowsA.len h1).2
  rw [rowsOf_len q1] at h0
  have h2 := RowsA.freeze h1
  obtain ⟨S, I, ⟨S1, S2, p1, p2, p3, p4, T1, T2, k1, k2, k3, k4, k5⟩, r⟩ := h2
  exact ⟨S, I, ⟨S1, T2, p1, fun b hb => p2 b (k2 b hb), fun b hb ht => p3 b hb (k2 b ht), ⟨h0, xs, q1, p4, k4⟩, k5⟩, r⟩
theorem gh_dup (a : Option Addr) (cap : Nat) (l : List α) : Gh ⟨[], [ImmA a cap l]⟩ fun _ : Unit => ⟨[], [ImmA a cap l, ImmA a cap l]⟩ := by
  intro W0 Γ w hw
  refine ⟨(), ?_⟩
  have h : Sat W0 (ImmA a cap l :: Γ) w := hw
  exact h.imp fun S I h => by
    obtain ⟨S1, S2, h1, h2, h3, q, h5⟩ := h
    exact ⟨fun _ => False, S, fun _ h => h.elim, fun _ h => h, fun _ h _ => h, q, S1, S2, h1, h2, h3, q, h5⟩
theorem gh_nil (a : Option Addr) : Gh ⟨[], []⟩ fun _ : Unit => ⟨[], [ArrA a 0 ([] : List α)]⟩ := by
  intro W0 Γ w hw
  refine ⟨(), ?_⟩
  have h : Sat W0 Γ w := hw
  exact h.imp fun S I h => ⟨fun _ => False, S, fun _ h => h.elim, fun _ h => h, fun _ h _ => h, ⟨[], rfl, ⟨fun r hr => by simp [rowsOf] at hr, .inl ⟨rfl, rfl⟩⟩, fun i a x h => by simp at h⟩, h⟩
theorem gh_nilI (a : Option Addr) (cap : Nat) : Gh ⟨[], []⟩ fun _ : Unit => ⟨[], [ImmA a cap ([] : List α)]⟩ := by
  intro W0 Γ w hw
  refine ⟨(), ?_⟩
  have h : Sat W0 Γ w := hw
  exact h.imp fun S I h => ⟨fun _ => False, S, fun _ h => h.elim, fun _ h => h, fun _ h _ => h, ⟨Nat.zero_le _, [], rfl, ⟨fun r hr => by simp [rowsOf] at hr, .inl rfl⟩, fun i a x h => by simp at h⟩, h⟩
/-- A block of one row. -/
theorem gh_one (b T : Nat) (e : α) (x : Rw.X α) : Gh ⟨[⟨b, (Rw.cells e x).toArray, T⟩], [Rw.asn e x]⟩ fun _ : Unit => ⟨[], [ArrA (some ⟨b, 0, none⟩) 1 [e]]⟩ := by
  intro W0 Γ w hw
  refine ⟨(), ?_⟩
  have h : Sat W0 (Asn.own b (.cells (Rw.cells e x).toArray T (0, 0)) :: Rw.asn e x :: Γ) w := hw
  have h1 := RowsA.of_own (k := Rw.k α) (rows := rowsOf [e] [x]) h rowsOf_k (by simp [rowsOf])
  have h2 : Sat W0 (KnA (l := [e]) (xs := [x]) :: RowsA (Rw.k α) (some ⟨b, 0, none⟩) 1 (rowsOf [e] [x]) :: Γ) w := by
    have h3 : Sat W0 (Rw.asn e x :: RowsA (Rw.k α) (some ⟨b, 0, none⟩) 1 (rowsOf [e] [x]) :: Γ) w := h1.less (.take (.there .here) (.take .here .refl))
    obtain ⟨S, I, ⟨S1, S2, p1, p2, p3, p4, p5⟩, r⟩ := h3
    refine ⟨S, I, ⟨S1, S2, p1, p2, p3, fun i a y e1 e2 => ?_, p5⟩, r⟩
    cases i with
    | zero =>
      simp only [List.getElem?_cons_zero, Option.some.injEq] at e1 e2
      subst e1; subst e2
      exact Rw.dup _ _ _ _ _ p4
    | succ i => simp at e1
  exact ArrA.join rfl (h2.less (.take (.there .here) (.take .here .refl)))
/-- A block of rows that name nothing. -/
theorem gh_own (b T n : Nat) (l : List α) (xs : List (Rw.X α)) (hk : ∀ (i : Nat) (a : α) (x : Rw.X α), l[i]? = some a → xs[i]? = some x → ∀ I h, (Rw.asn a x).holds (fun _ => False) I h) (hl : xs.length = l.length := by kernel_rfl) (hn : l.length = n := by kernel_rfl) :
    Gh ⟨[⟨b, (rowsOf l xs).flatten.toArray, T⟩], []⟩ fun _ : Unit => ⟨[], [ArrA (some ⟨b, 0, none⟩) n l]⟩ := by
  intro W0 Γ w hw
  refine ⟨(), ?_⟩
  have h : Sat W0 (Asn.own b (.cells (rowsOf l xs).flatten.toArray T (0, 0)) :: Γ) w := hw
  have h1 := RowsA.of_own (k := Rw.k α) (rows := rowsOf l xs) h rowsOf_k rfl
  rw [rowsOf_len hl, hn] at h1
  refine ArrA.join hl ?_
  exact h1.imp fun S I hs => by
    obtain ⟨S1, S2, p1, p2, p3, p4, p5⟩ := hs
    exact ⟨S1, S2, p1, p2, p3, p4, fun _ => False, S2, fun _ h => h.elim, fun _ h => h, fun _ h _ => h, fun i a x e1 e2 => hk i a x e1 e2 _ _, p5⟩
end gh
/-- A slice at no place has no rows. -/
theorem nil_of {A : Asn} {cap : Nat} {l : List α} (hA : Rdb A none cap l) : ∀ (W0 : World) (Γ : List Asn) (w : World), Sat W0 ([A] ++ Γ) w → l = [] := by
  intro W0 Γ w hw
  obtain ⟨xs, q1, h⟩ := Sat.read hA (show Sat W0 (A :: Γ) w from hw)
  obtain ⟨S, I, ⟨S1, S2, p1, p2, p3, ⟨p4, p5, p6, p7⟩, p8⟩, r⟩ := h
  rcases p6 with p6 | ⟨b, off, cc, T, fr, e1, _⟩
  · have := rowsOf_len q1
    rw [p6] at this
    exact List.eq_nil_of_length_eq_zero this.symm
  · cases e1
/-- An array of ours has room. -/
theorem cap_of {A : Asn} {a : Option Addr} {cap : Nat} {l : List α} (hA : Rdb A a cap l) : ∀ (W0 : World) (Γ : List Asn) (w : World), Sat W0 ([A] ++ Γ) w → l.length ≤ cap := by
  intro W0 Γ w hw
  obtain ⟨S, I, ⟨S1, S2, h1, h2, h3, h4, h5⟩, r⟩ := (show Sat W0 (A :: Γ) w from hw)
  exact (hA.rd S1 I _ h4).1
/-- What hangs together. -/
def ObA {Z : Type} (o : Z → Rs) : Asn := Asn.ex fun z => Asn.star ((o z).all [])
theorem gh_open {Z : Type} (o : Z → Rs) : Gh ⟨[], [ObA o]⟩ o := by
  intro W0 Γ w hw
  obtain ⟨z, h⟩ := Sat.ex_of (f := fun z => Asn.star ((o z).all [])) (show Sat W0 (ObA o :: Γ) w from hw)
  have := h.star_of
  exact ⟨z, by simpa [Rs.all] using this⟩
theorem gh_shut {Z : Type} (o : Z → Rs) (z : Z) : Gh (o z) fun _ : Unit => ⟨[], [ObA o]⟩ := by
  intro W0 Γ w hw
  exact ⟨(), Sat.ex_mk (f := fun z => Asn.star ((o z).all [])) z (Sat.star_mk (by simpa [Rs.all] using hw))⟩

/-! A part of what may be read. -/
theorem rowsOf_part {l : List α} {xs : List (Rw.X α)} (lo n : Nat) : rowsOf ((l.drop lo).take n) ((xs.drop lo).take n) = ((rowsOf l xs).drop lo).take n := by
  unfold rowsOf
  rw [← List.take_zipWith, ← List.drop_zipWith]
theorem rdb_part {A : Asn} {a : Option Addr} {cap : Nat} {l l' : List α} (hA : Rdb A a cap l) {lo hi mx : Nat} (hk : 0 < Rw.k α) (h1 : lo ≤ hi) (h2 : hi ≤ l.length) (h3 : hi ≤ mx) (hl : (l.drop lo).take (hi - lo) = l') :
    Rdb A (if mx = lo then a else a.map (·.add (lo * Rw.k α))) (mx - lo) l' where
  rd := fun S I h ha => by
    subst hl
    obtain ⟨h0, xs, q1, p1, p2, p3⟩ := hA.rd S I h ha
    refine ⟨by simp; omega, (xs.drop lo).take (hi - lo), by simp [q1], rowsOf_k, ?_, fun i a x e1 e2 => ?_⟩
    · by_cases hm : mx = lo
      · left
        rw [rowsOf_part, show hi - lo = 0 by omega]; rfl
      · rw [if_neg hm]
        rcases p2 with p2 | ⟨b, off, c, T, fr, e1, e2, e3, e4⟩
        · left; rw [rowsOf_part, p2]; simp
        · right
          refine ⟨b, off + lo * Rw.k α, c, T, fr, by rw [e1]; simp [add_none], e2, e3, fun j v hj => ?_⟩
          rw [rowsOf_part] at hj
          have e5 : (rowsOf l xs).flatten = ((rowsOf l xs).take lo).flatten ++ ((rowsOf l xs).drop lo).flatten := by rw [← List.flatten_append, List.take_append_drop]
          have e6 : ((rowsOf l xs).take lo).flatten.length = lo * Rw.k α := by
            rw [flatten_length (k := Rw.k α) (fun r hr => p1 r (List.mem_of_mem_take hr)), List.length_take, rowsOf_len q1, Nat.min_eq_left (by omega)]
          have e7 : ∀ {m : List (List Value)} {n : Nat} {q : Nat} {u : Value}, (m.take n).flatten[q]? = some u → m.flatten[q]? = some u := by
            intro m n q u hq
            have : m.flatten = (m.take n).flatten ++ (m.drop n).flatten := by rw [← List.flatten_append, List.take_append_drop]
            rw [this, List.getElem?_append_left (List.getElem?_eq_some_iff.1 hq).1]; exact hq
          have e8 := e4 (lo * Rw.k α + j) v (by rw [e5, List.getElem?_append_right (by omega), e6, show lo * Rw.k α + j - lo * Rw.k α = j by omega]; exact e7 hj)
          rwa [← Nat.add_assoc] at e8
    · rw [List.getElem?_take] at e1 e2
      split at e1
      · rename_i hi'
        rw [if_pos hi', List.getElem?_drop] at e2
        rw [List.getElem?_drop] at e1
        exact p3 _ a x e1 e2
      · cases e1
/-- What a slice of a slice is of: place, length, room, bounds, the row's size. -/
def bnd (d : Int) (e : Env) : Option Operand → Option Int
  | none => some d
  | some o => match ev e o with | .int .i64 n => some n | _ => none
def slOf (P : Program) (s : XS) : Option (Option Addr × Nat × Nat × Int × Int × Int × Nat) :=
  match s.op.op with
  | .slice t x lo hi mx =>
    match ev s.env x, P.underlying t with
    | .slice a m c, some (.slice E) =>
      match P.info? E, bnd 0 s.env lo, bnd ((m : Nat) : Int) s.env hi, bnd ((c : Nat) : Int) s.env mx, hi.isSome || mx.isNone with
      | some i, some lo', some hi', some mx', true => some (a, m, c, lo', hi', mx', i.size)
      | _, _, _, _, _ => none
    | _, _ => none
  | _ => none
theorem bnd_ok {d : Int} {e : Env} {o : Option Operand} {n : Int} (h : bnd d e o = some n) : (o.map (ev e) = none ∧ n = d) ∨ (o.map (ev e) = some (.int .i64 n)) := by
  cases o with
  | none => left; simp [bnd] at h; exact ⟨rfl, h.symm⟩
  | some o =>
    right
    simp only [bnd] at h
    split at h
    · rename_i n' hn; simp only [Option.some.injEq] at h; subst h; simp [hn]
    · cases h
theorem xsl {X : Ctx} {s : XS} (h : List Nat) (ia : Nat) {A : Asn} {a : Option Addr} {cap : Nat} {l l' : List α} (hA : Rdb A a cap l) {lo hi mx : Int} (hb : 0 ≤ lo ∧ lo ≤ hi ∧ hi ≤ ((l.length : Nat) : Int)) (hm : mx = ((cap : Nat) : Int) ∨ hi ≤ mx ∧ mx ≤ ((l.length : Nat) : Int)) (hl : (l.drop lo.toNat).take (hi.toNat - lo.toNat) = l')
    (k : ∀ a', Rdb A a' (mx.toNat - lo.toNat) l' → G X ((s.dr X h).putQ (.slice a' l'.length (mx.toNat - lo.toNat)))) (hk : Nat.blt 0 (Rw.k α) = true := by kernel_rfl)
    (hq : (s.dq X h).map (·.1) = (s.dq X h).map (·.2) := by kernel_rfl) (hp : s.dp X h = [] := by kernel_rfl) (hn : pkA [ia] (s.dr X h).gam = [A] := by kernel_rfl)
    (hx : slOf X.P (s.dr X h) = some (a, l.length, cap, lo, hi, mx, Rw.k α) := by kernel_rfl) (h1 : oks ((s.dr X h).ok4 X.n) = okr ((s.dr X h).ok4 X.n) := by kernel_rfl) : G X s := by
  refine ⟨x0 h ?_ hq hp⟩
  generalize s.dr X h = s at *
  refine known_ok (p := l.length ≤ cap) (fun w hw => ?_) fun hcap => ?_
  · have h2 := sat_take [] [ia] hw
    rw [hn] at h2
    exact cap_of hA _ _ w h2
  have hlen : hi.toNat - lo.toNat = l'.length := by rw [← hl]; simp; omega
  have hpart := rdb_part (lo := lo.toNat) (hi := hi.toNat) (mx := mx.toNat) hA (by simpa using hk) (by omega) (by omega) (by omega) hl
  refine quiet_ok h1 (fun Γ => StepTo.pure fun w => ?_) (k _ hpart).get
  unfold slOf at hx
  split at hx
  · rename_i t x lo' hi' mx' hop
    split at hx
    · rename_i a' m c E e1 e2
      split at hx
      · rename_i info lo2 hi2 mx2 i1 i2 i3 i4 i5
        simp only [Option.some.injEq, Prod.mk.injEq] at hx
        obtain ⟨rfl, rfl, rfl, rfl, rfl, rfl, hkk⟩ := hx
        rw [hop, ← hlen]
        refine slice_at (a := a') (m := l.length) (c := c) (lo'.map (ev s.env)) (hi'.map (ev s.env)) (mx'.map (ev s.env)) info (fun w => ?_) e2 i1 hkk ?_ ?_ ?_ (by omega) (by omega) (by omega) w
        · show ((Instr.sliceAt t (ev s.env x) (lo'.map (ev s.env)) (hi'.map (ev s.env)) (mx'.map (ev s.env))) >>= fun v => pure (Next.value v)).run X.P w = _
          rw [e1]
        · rcases bnd_ok i2 with ⟨q1, q2⟩ | q1
          · exact .inl ⟨q1, by rw [q2]; rfl⟩
          · exact .inr ⟨_, q1, by omega⟩
        · rcases bnd_ok i3 with ⟨q1, q2⟩ | q1
          · rcases bnd_ok i4 with ⟨q3, q4⟩ | q3
            · exact .inl ⟨q1, by rw [q2]; rfl, q3⟩
            · cases hi' <;> cases mx' <;> simp_all
          · exact .inr ⟨_, q1, by omega⟩
        · rcases bnd_ok i4 with ⟨q1, q2⟩ | q1
          · exact .inl ⟨q1, by rw [q2]; rfl⟩
          · exact .inr ⟨_, q1, by omega⟩
      · cases hx
    · cases hx
  · cases hx

/-! make. -/
def mkOf (P : Program) (s : XS) : Option (Int × Int × Value) :=
  match s.op.op with
  | .makeSlice t l c =>
    match ev s.env l, ev s.env c, P.underlying t with
    | .int .i64 l, .int .i64 c, some (.slice E) =>
      match P.info? E with
      | some i => bif Nat.beq i.size 1 && Nat.ble i.bytes 128 then i.zero.map fun z => (l, c, z) else none
      | none => none
    | _, _, _ => none
  | _ => none
theorem made_rows (v : Value) (hv : v.cells = #[v]) (n : Nat) : Go.madeCells v.cells (n * 1) = (List.replicate n [v]).flatten.toArray := by
  have e : (List.replicate n [v]).flatten = List.replicate n v := by
    induction n with
    | zero => rfl
    | succ n ih => rw [List.replicate_succ, List.flatten_cons, ih]; rfl
  rw [hv, e, Nat.mul_one]
  apply Array.ext
  · simp [Go.madeCells]
  · intro i h1 h2
    simp [Go.madeCells, Nat.mod_one]
theorem mk_step {P : Program} {W0 : World} {s : XS} (x0 : Rw.X α) {n : Int} (hb : 0 ≤ n ∧ n ≤ 1099511627776) (hd : ∀ I h, (Rw.asn (Rw.d : α) x0).holds (fun _ => False) I h) (hx : mkOf P s = some (n, n, (Rw.cells (Rw.d : α) x0).headD undef))
    (hk : Rw.k α = 1) (hv : ((Rw.cells (Rw.d : α) x0).headD undef).cells = #[(Rw.cells (Rw.d : α) x0).headD undef]) (Γ : List Asn) : StepTo P W0 Γ s.env s.op.op s.op.type fun v Δ => ∃ b : Nat, v = Value.slice (some ⟨b, 0, none⟩) (List.replicate n.toNat (Rw.d : α)).length n.toNat ∧ Δ = ArrA (some ⟨b, 0, none⟩) n.toNat (List.replicate n.toNat (Rw.d : α)) :: Γ := by
  unfold mkOf at hx
  split at hx
  · rename_i t l c hop
    split at hx
    · rename_i l' c' E e1 e2 e3
      split at hx
      · rename_i info hi
        cases hc : (Nat.beq info.size 1 && Nat.ble info.bytes 128) with
        | false => simp [hc] at hx
        | true =>
          simp only [hc, cond_true, Option.map_eq_some_iff, Prod.mk.injEq] at hx
          obtain ⟨z, hz, rfl, hcn, rfl⟩ := hx
          simp only [Bool.and_eq_true] at hc
          have hs := Nat.eq_of_beq_eq_true hc.1
          have hby := Nat.le_of_ble_eq_true hc.2
          refine StepTo.val fun w hw => ?_
          have hb2 : (info.bytes : Int) * c' ≤ 281474976710656 := by
            have h3 : (info.bytes : Int) ≤ 128 := by omega
            have h4 : (info.bytes : Int) * c' ≤ 128 * c' := Int.mul_le_mul_of_nonneg_right h3 (by omega)
            omega
          have hr := run_make (P := P) w t E info ((Rw.cells (Rw.d : α) x0).headD undef) e3 hi hz .i64 .i64 l' c' hb.1 (by omega) hb2 (by omega)
          rw [hs] at hr
          refine ⟨_, w.alloc (.cells (Go.madeCells ((Rw.cells (Rw.d : α) x0).headD undef).cells (c'.toNat * 1)) E), _, ?_, ⟨w.heap.size, rfl, rfl⟩, ?_⟩
          · rw [hop]
            show ((Instr.makeSlice t (ev s.env l) (ev s.env c)) >>= fun v => pure (Next.value v)).run P w = _
            rw [e1, e2, List.length_replicate]
            have hcn' : c' = l' := hcn
            subst hcn'
            exact run_seq hr rfl
          · have hcells : [(Rw.cells (Rw.d : α) x0).headD undef] = Rw.cells (Rw.d : α) x0 := by
              have := Rw.len (Rw.d : α) x0
              rw [hk] at this
              match hh : Rw.cells (Rw.d : α) x0, this with
              | [v], _ => rfl
            have hrows : rowsOf (List.replicate l'.toNat (Rw.d : α)) (List.replicate l'.toNat x0) = List.replicate l'.toNat [(Rw.cells (Rw.d : α) x0).headD undef] := by
              rw [hcells]; simp [rowsOf, List.zipWith_replicate]
            rw [made_rows _ hv]
            have hcn' : c' = l' := hcn
            subst hcn'
            have h5 := hw.alloc (.cells (List.replicate c'.toNat [(Rw.cells (Rw.d : α) x0).headD undef]).flatten.toArray E (0, 0))
            have h6 := RowsA.of_own (k := Rw.k α) (rows := rowsOf (List.replicate c'.toNat (Rw.d : α)) (List.replicate c'.toNat x0)) h5 rowsOf_k (by rw [hrows])
            rw [rowsOf_len (by simp), List.length_replicate] at h6
            refine ArrA.join (xs := List.replicate c'.toNat x0) (by simp) (h6.imp fun S I hs => ?_)
            obtain ⟨S1, S2, p1, p2, p3, p4, p5⟩ := hs
            refine ⟨S1, S2, p1, p2, p3, p4, fun _ => False, S2, fun _ h => h.elim, fun _ h => h, fun _ h _ => h, fun i a x e1 e2 => ?_, p5⟩
            obtain rfl := List.eq_of_mem_replicate (List.mem_of_getElem? e1)
            obtain rfl := List.eq_of_mem_replicate (List.mem_of_getElem? e2)
            exact hd _ _
      · cases hx
    · cases hx
  · cases hx

theorem xmk {X : Ctx} {s : XS} (h : List Nat) (x0 : Rw.X α) {n : Int} {zs : List α} (hb : 0 ≤ n ∧ n ≤ 1099511627776) (hz : List.replicate n.toNat (Rw.d : α) = zs) (hd : ∀ I h, (Rw.asn (Rw.d : α) x0).holds (fun _ => False) I h)
    (k : ∀ b : Nat, G X ((s.dr X h).put [] [] (.slice (some ⟨b, 0, none⟩) zs.length n.toNat) ⟨[], [ArrA (some ⟨b, 0, none⟩) n.toNat zs]⟩))
    (hq : (s.dq X h).map (·.1) = (s.dq X h).map (·.2) := by kernel_rfl) (hp : s.dp X h = [] := by kernel_rfl) (hx : mkOf X.P (s.dr X h) = some (n, n, (Rw.cells (Rw.d : α) x0).headD undef) := by kernel_rfl)
    (hk : Rw.k α = 1 := by kernel_rfl) (hv : ((Rw.cells (Rw.d : α) x0).headD undef).cells = #[(Rw.cells (Rw.d : α) x0).headD undef] := by kernel_rfl) (h1 : oks ((s.dr X h).ok1 X.n) = okr ((s.dr X h).ok1 X.n) := by kernel_rfl)
    (h2 : ∀ b : Nat, oks ((s.dr X h).okP X [] [] (.slice (some ⟨b, 0, none⟩) zs.length n.toNat) ⟨[], [ArrA (some ⟨b, 0, none⟩) n.toNat zs]⟩) = okr ((s.dr X h).okP X [] [] (.slice (some ⟨b, 0, none⟩) zs.length n.toNat) ⟨[], [ArrA (some ⟨b, 0, none⟩) n.toNat zs]⟩) := by intro _; kernel_rfl) (h3 : ∀ b : Nat, (s.dr X h).ol1 = (s.dr X h).olP [] [] ⟨[], [ArrA (some ⟨b, 0, none⟩) n.toNat zs]⟩ := by intro _; kernel_rfl) : G X s := by
  refine ⟨_root_.Go.Proofs.YtcidmgkfaioceaaGreat.x0 h ?_ hq hp⟩
  generalize s.dr X h = s at *
  subst hz
  refine step_oc (io := []) (ia := []) (pre := ⟨[], []⟩) (rv := fun b : Nat => Value.slice (some ⟨b, 0, none⟩) (List.replicate n.toNat (Rw.d : α)).length n.toNat) (post := fun b => ⟨[], [ArrA (some ⟨b, 0, none⟩) n.toNat (List.replicate n.toNat (Rw.d : α))]⟩) (fun Γ => ?_) rfl rfl h1 h2 h3 fun z => (k z).get
  exact mk_step x0 hb hd hx hk hv Γ
/-! append. -/
def apOf (P : Program) (s : XS) : Option (Option Addr × Nat × Nat × Option Addr × Nat × Nat) :=
  match s.op.op with
  | .call { callee := .builtin .append, args := args, argTypes := ts } =>
    match args.toList, ts.toList with
    | [x, y], [t, t'] =>
      match ev s.env x, ev s.env y, P.underlying t with
      | .slice a m c, .slice a2 m2 _, some (.slice E) =>
        match P.info? E with
        | some info => bif Nat.beq t t' && Nat.blt 0 info.bytes && Nat.ble info.bytes 128 && (match info.zero with | some zv => Nat.beq zv.cells.size info.size | none => false) then some (a, m, c, a2, m2, info.size) else none
        | none => none
      | _, _, _ => none
    | _, _ => none
  | _ => none
theorem ap_step {P : Program} {W0 : World} {s : XS} {a a2 : Option Addr} {cap : Nat} {l ys : List α} {B : Asn} {cap2 : Nat} (hB : Rdb B a2 cap2 ys) (hn : (l ++ ys).length ≤ 1099511627776)
    (hx : apOf P s = some (a, l.length, cap, a2, ys.length, Rw.k α)) (Γ : List Asn) : StepTo P W0 (ArrA a cap l :: B :: Γ) s.env s.op.op s.op.type fun v Δ => ∃ z : Option Addr × Nat, v = Value.slice z.1 (l ++ ys).length z.2 ∧ Δ = ArrA z.1 z.2 (l ++ ys) :: B :: Γ := by
  unfold apOf at hx
  split at hx
  · rename_i args ts hop
    split at hx
    · rename_i x y t t' hargs hts
      split at hx
      · rename_i a' m c a2' m2 c2 E e1 e2 e3
        split at hx
        · rename_i info hi
          cases hc : (Nat.beq t t' && Nat.blt 0 info.bytes && Nat.ble info.bytes 128 && (match info.zero with | some zv => Nat.beq zv.cells.size info.size | none => false)) with
          | false => simp [hc] at hx
          | true =>
            simp only [hc, cond_true, Option.some.injEq, Prod.mk.injEq] at hx
            obtain ⟨rfl, rfl, rfl, rfl, rfl, hk⟩ := hx
            simp only [Bool.and_eq_true] at hc
            obtain ⟨⟨⟨ht, hb0⟩, hb1⟩, hzz⟩ := hc
            obtain rfl := Nat.eq_of_beq_eq_true ht
            cases hzv : info.zero with
            | none => simp [hzv] at hzz
            | some zv =>
              simp only [hzv] at hzz
              have hzs := Nat.eq_of_beq_eq_true hzz
              have hargs' : args = #[x, y] := by rw [← hargs]
              have hts' : ts = #[t, t] := by rw [← hts]
              subst hargs'; subst hts'
              intro w hw
              obtain ⟨xs, q1, g1⟩ := ArrA.split (show Sat W0 (ArrA a' c l :: B :: Γ) w from hw)
              have g2 : Sat W0 (B :: RowsA (Rw.k α) a' c (rowsOf l xs) :: KnA l xs :: Γ) w := g1.less (.take (.there (.there .here)) (.take .here (.take .here .refl)))
              obtain ⟨ys', q2, g3⟩ := g2.read hB
              have g4 : Sat W0 (RowsA (Rw.k α) a' c (rowsOf l xs) :: B.and (LieA a2' ys ys') :: KnA l xs :: Γ) w := g3.less (.take (.there .here) (.take .here .refl))
              have hrd : Reads W0 (RowsA (Rw.k α) a' c (rowsOf l xs) :: B.and (LieA a2' ys ys') :: KnA l xs :: Γ) a2' (rowsOf ys ys') := by
                intro w hw j v hj
                have hw1 := hw.pull (.there .here)
                obtain ⟨S, I, ⟨S1, S2, p1, p2, p3, ⟨p4, p5, p6, p7⟩, p8⟩, r⟩ := hw1
                rcases p6 with p6 | ⟨b, off, cc, T, fr, e1, e2, e3, e4⟩
                · rw [p6] at hj; simp at hj
                · exact ⟨_, e1, by rw [add_none, cell_of e3]; exact e4 j v hj⟩
              have hst := st_append (P := P) (W0 := W0) (e := s.env) (op := s.op.op) (ty := s.op.type) (k := Rw.k α) (a1 := a') (a2 := a2') (cap := c) (rows := rowsOf l xs) (news := rowsOf ys ys') t s.op.type E c2 info zv (fun w => by
                  rw [hop]
                  have e9 : execOp (ev s.env) (bare (Op.call { callee := Callee.builtin Builtin.append, args := #[x, y], argTypes := #[t, t] }) s.op.type) = (Builtin.append_ #[t, t] s.op.type #[ev s.env x, ev s.env y] >>= fun v => pure (Next.value v)) := by kernel_rfl
                  rw [e9, e1, e2, rowsOf_len q1, rowsOf_len q2]) e3 hi hzv hk (by rw [hzs, hk]) .here hrd rowsOf_k rowsOf_one (by
                    rw [rowsOf_len q1, rowsOf_len q2]
                    rw [List.length_append] at hn
                    exact Nat.le_trans (Nat.mul_le_mul hn (Nat.le_of_ble_eq_true hb1)) (by decide)) (by simpa using hb0)
              intro ro o aa K Q kk
              refine hst w g4 ro o aa K Q ?_
              rintro v Δ w' ⟨a3, c3, rfl, rfl⟩ hw'
              refine kk _ _ w' ⟨(a3, c3), ?_, rfl⟩ ?_
              · rw [rowsOf_len q1, rowsOf_len q2, List.length_append]
              · have g5 : Sat W0 (B.and (LieA a2' ys ys') :: RowsA (Rw.k α) a3 c3 (rowsOf l xs ++ rowsOf ys ys') :: KnA l xs :: Γ) w' := hw'.less (.take (.there .here) (.take .here .refl))
                have g6 : Sat W0 (ArrA a3 c3 (l ++ ys) :: B :: Γ) w' := by
                  obtain ⟨S, I, ⟨S1, S2, p1, p2, p3, ⟨p4, p5, p6, p7⟩, T1, T2, k1, k2, k3, k4, U1, U2, u1, u2, u3, u4, u5⟩, r⟩ := g5
                  refine ⟨S, I, ⟨T1, fun b => S1 b ∨ U2 b, fun b hb => p2 b (k1 b hb), fun b hb => hb.elim (p1 b) fun hu => p2 b (k2 b (u2 b hu)), fun b hb hc => hc.elim (fun hs => p3 b hs (k1 b hb)) fun hu => k3 b hb (u2 b hu), ⟨xs ++ ys', by simp [q1, q2], ?_, fun i a x e1 e2 => ?_⟩, S1, U2, fun _ hb => .inl hb, fun _ hb => .inr hb, fun b hs hu => p3 b hs (k2 b (u2 b hu)), p4, u5⟩, r⟩
                  · have : rowsOf (l ++ ys) (xs ++ ys') = rowsOf l xs ++ rowsOf ys ys' := List.zipWith_append q1.symm
                    rw [this]; exact k4
                  · rcases Nat.lt_or_ge i l.length with hi' | hi'
                    · rw [List.getElem?_append_left hi'] at e1
                      rw [List.getElem?_append_left (by omega)] at e2
                      exact u4 i a x e1 e2
                    · rw [List.getElem?_append_right hi'] at e1
                      rw [List.getElem?_append_right (by omega), q1] at e2
                      exact p7 _ a x e1 e2
                exact g6
        · cases hx
      · cases hx
    · cases hx
  · cases hx
theorem xa {X : Ctx} {s : XS} (h : List Nat) (ia : List Nat) {a a2 : Option Addr} {cap : Nat} {l ys zs : List α} {B : Asn} {cap2 : Nat} (hB : Rdb B a2 cap2 ys) (hz : l ++ ys = zs) (hn : zs.length ≤ 1099511627776)
    (k : ∀ z : Option Addr × Nat, G X ((s.dr X h).put [] ia (.slice z.1 zs.length z.2) ⟨[], [ArrA z.1 z.2 zs, B]⟩))
    (hq : (s.dq X h).map (·.1) = (s.dq X h).map (·.2) := by kernel_rfl) (hp : s.dp X h = [] := by kernel_rfl) (hpa : pkA ia (s.dr X h).gam = [ArrA a cap l, B] := by kernel_rfl)
    (hx : apOf X.P (s.dr X h) = some (a, l.length, cap, a2, ys.length, Rw.k α) := by kernel_rfl) (h1 : oks ((s.dr X h).ok1 X.n) = okr ((s.dr X h).ok1 X.n) := by kernel_rfl)
    (h2 : ∀ z : Option Addr × Nat, oks ((s.dr X h).okP X [] ia (.slice z.1 zs.length z.2) ⟨[], [ArrA z.1 z.2 zs, B]⟩) = okr ((s.dr X h).okP X [] ia (.slice z.1 zs.length z.2) ⟨[], [ArrA z.1 z.2 zs, B]⟩) := by intro _; kernel_rfl) (h3 : ∀ z : Option Addr × Nat, (s.dr X h).ol1 = (s.dr X h).olP [] ia ⟨[], [ArrA z.1 z.2 zs, B]⟩ := by intro _; kernel_rfl) : G X s := by
  refine ⟨x0 h ?_ hq hp⟩
  generalize s.dr X h = s at *
  subst hz
  refine step_oc (io := []) (ia := ia) (pre := ⟨[], [ArrA a cap l, B]⟩) (rv := fun z : Option Addr × Nat => Value.slice z.1 (l ++ ys).length z.2) (post := fun z => ⟨[], [ArrA z.1 z.2 (l ++ ys), B]⟩) (fun Γ => ?_) rfl hpa h1 h2 h3 fun z => (k z).get
  exact ap_step hB hn hx Γ
end Go.Proofs.YtcidmgkfaioceaaGreat
namespace Go.Proofs.YtcidmgkfaioceaaGreat
open Go Go.RowKit

def chk {α : Type} (p : Prop) [Decidable p] (x : Option α) : Option α := if p then x else none
def letP {α β : Type} (e : β) (k : β → Option α) : Option α := k e
section
variable {α β : Type} {x z : Option α} {y : α}
theorem chkE {p : Prop} [Decidable p] (h : chk p x = some y) : p ∧ x = some y := by
  unfold chk at h
  split at h
  · exact ⟨by assumption, h⟩
  · cases h
theorem letE {e : β} {k : β → Option α} (h : letP e k = some y) : ∃ u, e = u ∧ k u = some y := ⟨e, rfl, h⟩
theorem bindE {u : Option β} {k : β → Option α} (h : u.bind k = some y) : ∃ v, u = some v ∧ k v = some y := by
  cases u with
  | none => cases h
  | some v => exact ⟨v, rfl, h⟩
section
variable {X : Ctx} {s : XS}
theorem chkG {p : Prop} [Decidable p] {x : Option α} (h : chk p x = some y) (k : p → x = some y → G X s) : G X s := let ⟨h1, h2⟩ := chkE h; k h1 h2
theorem letG {e : β} {f : β → Option α} (h : letP e f = some y) (k : ∀ u, e = u → f u = some y → G X s) : G X s := k e rfl h
theorem bindG {u : Option β} {f : β → Option α} (h : u.bind f = some y) (k : ∀ v, u = some v → f v = some y → G X s) : G X s := let ⟨v, h1, h2⟩ := bindE h; k v h1 h2
end
theorem someE {a : α} (h : some a = some y) : a = y := Option.some.inj h
theorem noneE (h : (none : Option α) = some y) : False := by cases h
/-- A pointer to an object, or nil. -/
def optV {α : Type} (o : Option α) (b : Nat) : Value := match o with | none => .pointer none | some _ => .pointer (some ⟨b, 0, none⟩)
def optA {α : Type} (A : α → Asn) (o : Option α) : Asn := match o with | none => Asn.pure True | some x => A x
def optM {α β : Type} (o : Option α) (f : α → Option β) (n : Option β) : Option β := match o with | none => n | some x => f x
theorem optE {α β : Type} {o : Option α} {f : α → Option β} {n : Option β} {y : β} (h : optM o f n = some y) : (o = none ∧ n = some y) ∨ ∃ x, o = some x ∧ f x = some y := by
  cases o with
  | none => exact .inl ⟨rfl, h⟩
  | some x => exact .inr ⟨x, rfl, h⟩
theorem optG {α β : Type} {o : Option α} {f : α → Option β} {n : Option β} {y : β} {X : Ctx} {s : XS} (h : optM o f n = some y) (k1 : o = none → n = some y → G X s) (k2 : ∀ x, o = some x → f x = some y → G X s) : G X s :=
  (optE h).elim (fun ⟨h1, h2⟩ => k1 h1 h2) fun ⟨x, h1, h2⟩ => k2 x h1 h2
theorem optV_n {α : Type} {o : Option α} (b : Nat) (h : o = none) : optV o b = .pointer none := by rw [h]; rfl
theorem optV_s {α : Type} {o : Option α} {x : α} (b : Nat) (h : o = some x) : optV o b = .pointer (some ⟨b, 0, none⟩) := by rw [h]; rfl
theorem gh_opt {α : Type} {A : α → Asn} {o : Option α} {x : α} (h : o = some x) : Gh ⟨[], [optA A o]⟩ fun _ : Unit => ⟨[], [A x]⟩ := by
  subst h; exact fun _ _ _ hw => ⟨(), hw⟩
theorem chk_true {p : Prop} [Decidable p] (hp : p) : chk p x = x := by simp [chk, hp]
end
theorem ov_rem {P : Program} {a b : Int} (hb : 1 ≤ b) : Ov P (Op.intDiv .rem .i64 a b >>= fun v => pure (Next.value v)) (.int .i64 (a.tmod b)) := by
  intro w
  refine run_seq (x := .int .i64 (a.tmod b)) (w' := w) ?_ rfl
  simp [Op.intDiv, show b ≠ 0 from by omega]
theorem ov_quo {P : Program} {a b : Int} (hb : 1 ≤ b) : Ov P (Op.intDiv .quo .i64 a b >>= fun v => pure (Next.value v)) (.int .i64 (wr (a.tdiv b))) := by
  intro w
  refine run_seq (x := .int .i64 (wr (a.tdiv b))) (w' := w) ?_ rfl
  simp [Op.intDiv, wr, show b ≠ 0 from by omega]
def U8 : Type := Int
/-! Bits. -/
def bxor (k : IntKind) (x y : Int) : Int := k.wrap ((BitVec.ofInt k.bits x ^^^ BitVec.ofInt k.bits y).toNat : Nat)
def bor (k : IntKind) (x y : Int) : Int := k.wrap ((BitVec.ofInt k.bits x ||| BitVec.ofInt k.bits y).toNat : Nat)
def band (k : IntKind) (x y : Int) : Int := k.wrap ((BitVec.ofInt k.bits x &&& BitVec.ofInt k.bits y).toNat : Nat)
def shlI (k : IntKind) (x n : Int) : Int := k.wrap (x * 2 ^ (min n.toNat k.bits))
def shrI (k : IntKind) (x n : Int) : Int := x.fdiv (2 ^ (min n.toNat k.bits))
theorem ov_shl {P : Program} {k yk : IntKind} {a n : Int} (hn : 0 ≤ n) : Ov P (Op.shift .shl k a yk n >>= fun v => pure (Next.value v)) (.int k (shlI k a n)) := by
  intro w
  refine run_seq (x := .int k (shlI k a n)) (w' := w) ?_ rfl
  simp [Op.shift, shlI, show ¬ n < 0 from by omega]
theorem ov_shr {P : Program} {k yk : IntKind} {a n : Int} (hn : 0 ≤ n) : Ov P (Op.shift .shr k a yk n >>= fun v => pure (Next.value v)) (.int k (shrI k a n)) := by
  intro w
  refine run_seq (x := .int k (shrI k a n)) (w' := w) ?_ rfl
  simp [Op.shift, shrI, show ¬ n < 0 from by omega]
instance rwInt : Rw Int where
  X := Unit
  k := 1
  cells n _ := [.int .i64 n]
  asn _ _ := Asn.pure True
  d := 0
  len _ _ := rfl
  one _ _ := rfl
  dup _ _ _ _ _ h := h
instance rwU8 : Rw U8 where
  X := Unit
  k := 1
  cells n _ := [.int .u8 n]
  asn _ _ := Asn.pure True
  d := (0 : Int)
  len _ _ := rfl
  one _ _ := rfl
  dup _ _ _ _ _ h := h
theorem imm_dup {α : Type} [Rw α] (a : Option Addr) (cap : Nat) (l : List α) (S I : Nat → Prop) (h : Nat → Option Obj) (q : (ImmA a cap l).holds S I h) : (ImmA a cap l).holds (fun _ => False) I h := q
theorem imm_nil {α : Type} [Rw α] {a : Option Addr} {cap : Nat} {S I : Nat → Prop} {h : Nat → Option Obj} : (ImmA a cap ([] : List α)).holds S I h := ⟨Nat.zero_le _, [], rfl, ⟨fun r hr => by simp [rowsOf] at hr, .inl rfl⟩, fun i a x h => by simp at h⟩
instance rwList {α : Type} [Rw α] : Rw (List α) where
  X := Option Addr × Nat
  k := 1
  cells l x := [.slice x.1 l.length x.2]
  asn l x := ImmA x.1 x.2 l
  d := []
  len _ _ := rfl
  one _ _ := rfl
  dup _ _ := imm_dup _ _ _
def nthB (xs : List U8) (i : Int) : Int := nthT xs i
def nth (xs : List Int) (i : Int) : Int := xs.getD i.toNat 0
def setI (xs : List Int) (i v : Int) : List Int := xs.set i.toNat v
theorem set_len {α : Type} [Rw α] {l m : List α} {i : Int} {e : α} (h : setT l i e = m) : l.length = m.length := by
  rw [← h]; simp [setT]
end Go.Proofs.YtcidmgkfaioceaaGreat
namespace Go.Proofs.YtcidmgkfaioceaaGreat
open Go Go.RowKit
set_option linter.unusedVariables false
set_option linter.unusedSimpArgs false
/-- An entry of a map whose keys are integers. -/
structure KV where
  key : Int
  val : Value
  born : Nat
def kvE (x : KV) : MapEntry := { key := .int .i64 x.key, val := x.val, born := x.born }
def mapO (l : List KV) (clock : Nat) : Obj := .map (l.map kvE).toArray clock
def kvFind (k : Int) : List KV → Nat → Option (Nat × Value)
  | [], _ => none
  | x :: l, i => if k = x.key then some (i, x.val) else kvFind k l (i + 1)
theorem findNow_int (k : Int) (ik : IntKind) : ∀ (l : List KV) (i : Nat), Instr.findNow (.int ik) (.int .i64 k) (l.map kvE) i = some (kvFind k l i)
  | [], i => rfl
  | x :: l, i => by
    have ih := findNow_int k ik l (i + 1)
    simp only [List.map_cons, Instr.findNow, kvE, Instr.sameNow, if_true, kvFind]
    by_cases h : k = x.key
    · simp [h]
    · have : (k == x.key) = false := by simpa using h
      rw [this, if_neg h]; exact ih
section
variable {P : Program} {n : Nat} {W0 w : World} {e : Env} {Γ Γ' : List Asn} {op : Op} {ty : TypeId} {t K V b clock : Nat} {l : List KV} {k : Int} {v : Value}
theorem run_findKey {ik : IntKind} (hK : P.underlying K = some (.int ik)) : (Instr.findKey K (.int .i64 k) (l.map kvE)).run P w = .ok (kvFind k l 0) w := by
  unfold Instr.findKey
  refine run_seq (run_underlying hK _) ?_
  rw [findNow_int]; rfl
theorem run_checkKey {ik : IntKind} (empty : Bool) (hK : P.underlying K = some (.int ik)) : (Instr.checkKey empty 10000 K (.int .i64 k)).run P w = .ok () w := by
  unfold Instr.checkKey
  refine run_seq (run_underlying hK _) ?_
  rfl
theorem st_make_map (hx : ∀ w, (execOp (ev e) (bare op ty)).run P w = (Instr.makeMap t none >>= fun v => pure (Next.value v)).run P w) :
    StepTo P W0 Γ e op ty (fun v Δ => ∃ b : Nat, v = .map (some b) ∧ Δ = Asn.own b (mapO [] 0) :: Γ) := by
  refine StepTo.val fun w hw => ⟨_, _, _, ?_, ⟨w.heap.size, rfl, rfl⟩, hw.alloc _⟩
  rw [hx]; rfl
theorem run_insert_new {ik : IntKind} (ht : P.underlying t = some (.map K V)) (hK : P.underlying K = some (.int ik)) (h0 : Sat W0 (Asn.own b (mapO l clock) :: Γ') w) (hn : kvFind k l 0 = none) :
    ∃ w', (Instr.mapUpdate t (.map (some b)) (.int .i64 k) v).run P w = .ok () w' ∧ Sat W0 (Asn.own b (mapO (l ++ [⟨k, v, clock⟩]) (clock + 1)) :: Γ') w' := by
  have hb := h0.own_at
  refine ⟨{ w with heap := w.heap.setIfInBounds b (mapO (l ++ [⟨k, v, clock⟩]) (clock + 1)) }, ?_, ?_⟩
  · unfold Instr.mapUpdate
    refine run_seq (run_underlying ht _) ?_
    refine run_seq (Go.MapKept.run_getObj_map hb) ?_
    refine run_seq (run_checkKey false hK) ?_
    have hf := run_findKey (P := P) (w := w) (l := l) (k := k) hK
    rw [hn] at hf
    refine run_seq (by simpa using hf) ?_
    rw [show ((l.map kvE).toArray.push { key := .int .i64 k, val := v, born := clock }) = ((l ++ [(⟨k, v, clock⟩ : KV)]).map kvE).toArray by simp [kvE]]
    exact Go.MapKept.run_setObj_map _ hb
  · refine h0.put rfl rfl rfl (by simp) ?_ fun c hc => by simp [Ne.symm hc]
    have hlt : b < w.heap.size := (Array.getElem?_eq_some_iff.1 hb).1
    simp [hlt]
theorem run_insert_old {ik : IntKind} {i : Nat} {u : Value} (ht : P.underlying t = some (.map K V)) (hK : P.underlying K = some (.int ik)) (h0 : Sat W0 (Asn.own b (mapO l clock) :: Γ') w) {x : KV} (hn : kvFind k l 0 = some (i, u)) (hi : l[i]? = some x) (hxk : x.key = k) :
    ∃ w', (Instr.mapUpdate t (.map (some b)) (.int .i64 k) v).run P w = .ok () w' ∧ Sat W0 (Asn.own b (mapO (l.set i ⟨k, v, x.born⟩) clock) :: Γ') w' := by
  have hb := h0.own_at
  have hil : i < l.length := (List.getElem?_eq_some_iff.1 hi).1
  have hlx : l[i] = x := (List.getElem?_eq_some_iff.1 hi).2
  refine ⟨{ w with heap := w.heap.setIfInBounds b (mapO (l.set i ⟨k, v, x.born⟩) clock) }, ?_, ?_⟩
  · unfold Instr.mapUpdate
    refine run_seq (run_underlying ht _) ?_
    refine run_seq (Go.MapKept.run_getObj_map hb) ?_
    refine run_seq (run_checkKey false hK) ?_
    have hf := run_findKey (P := P) (w := w) (l := l) (k := k) hK
    rw [hn] at hf
    refine run_seq (by simpa using hf) ?_
    refine run_seq (w' := w) (x := .int .i64 k) ?_ ?_
    · have : (((l.map kvE).toArray[i]?).map (·.key)).getD (.int .i64 k) = .int .i64 k := by
        simp [hi, kvE, hxk]
      rw [this]
      unfold Instr.keyThatStays
      simp [Instr.sameBits]
    · have : ((l.map kvE).toArray.modify i fun e => { e with key := .int .i64 k, val := v }) = ((l.set i (⟨k, v, x.born⟩ : KV)).map kvE).toArray := by
        apply Array.ext'
        simp only [Array.toList_modify]
        apply List.ext_getElem?
        intro j
        rw [List.getElem?_modify]
        by_cases h : i = j
        · subst h; simp [kvE, hil, hlx]
        · simp [h]
      rw [this]
      exact Go.MapKept.run_setObj_map _ hb
  · have hlt : b < w.heap.size := (Array.getElem?_eq_some_iff.1 hb).1
    refine h0.put rfl rfl rfl (by simp) ?_ fun c hc => by simp [Ne.symm hc]
    simp [hlt]
/-- What a lookup answers. -/
def kvGet (z : Value) (k : Int) (l : List KV) : Value × Bool := match kvFind k l 0 with | some (_, v) => (v, true) | none => (z, false)
theorem run_lookup {ik : IntKind} {o : Oper} {z : Value} {info : TypeInfo} (ok : Bool) (hx : ∀ w, (execOp (ev e) o).run P w = (Instr.lookup t (.map (some b)) (.int .i64 k) ok >>= fun v => pure (Next.value v)).run P w)
    (ht : P.underlying t = some (.map K V)) (hK : P.underlying K = some (.int ik)) (hi : P.info? V = some info) (hz : info.zero = some z) (hp : Pull Γ (Asn.own b (mapO l clock)) Γ') :
    ∀ w, Sat W0 Γ w → (execOp (ev e) o).run P w = .ok (.value (if ok then .tuple #[(kvGet z k l).1, .bool (kvGet z k l).2] else (kvGet z k l).1)) w := by
  intro w hw
  have hb := (hw.pull hp).own_at
  rw [hx]
  refine run_seq (w' := w) (x := if ok then .tuple #[(kvGet z k l).1, .bool (kvGet z k l).2] else (kvGet z k l).1) ?_ rfl
  unfold Instr.lookup
  refine run_seq (run_underlying ht _) ?_
  dsimp only
  refine run_seq (Go.MapKept.run_getObj_map hb) ?_
  dsimp only
  refine run_seq (x := (l.map kvE).toArray) (w' := w) rfl ?_
  refine run_seq (run_checkKey _ hK) ?_
  have hf := run_findKey (P := P) (w := w) (l := l) (k := k) hK
  unfold kvGet
  cases hk : kvFind k l 0 with
  | none =>
    rw [hk] at hf
    refine run_seq (x := none) (w' := w) (by simpa using hf) ?_
    dsimp only
    refine run_seq (x := z) (w' := w) (by simp [zeroValue, typeInfo, hi, hz]) ?_
    refine run_seq (x := (z, false)) (w' := w) rfl ?_
    cases ok <;> rfl
  | some p =>
    rw [hk] at hf
    refine run_seq (x := some p) (w' := w) (by simpa using hf) ?_
    refine run_seq (x := (p.2, true)) (w' := w) rfl ?_
    cases ok <;> rfl
/-! A loop over a map that it leaves alone. -/
theorem run_pick (m : Nat) (hm : 0 < m) : ∃ j w', j < m ∧ (choose (.mapNext m)).run P w = .ok j w' ∧ (w' = w ∨ w' = { w with drawn := w.drawn + 1 }) := by
  by_cases h : m ≤ 1
  · refine ⟨0, w, hm, ?_, .inl rfl⟩
    simp [choose, Sem.run, Question.forced, h]
  · refine ⟨w.tape w.drawn (.mapNext m) % m, _, Nat.mod_lt _ hm, ?_, .inr rfl⟩
    simp [choose, Sem.run, Question.forced, Question.cut, h]
theorem st_range {b' : Nat} {t' : TypeId} (hx : ∀ w, (execOp (ev e) (bare op ty)).run P w = (Instr.range t' (.map (some b')) >>= fun v => pure (Next.value v)).run P w) (ht : P.underlying t' = some (.map K V))
    (hm : ∀ w, Sat W0 Γ w → w.heap[b']? = some (mapO l clock)) :
    StepTo P W0 Γ e op ty (fun v Δ => ∃ r : Nat, v = .pointer (some ⟨r, 0, none⟩) ∧ Δ = Asn.own r (.mapIter (some b') clock #[] clock) :: Γ) := by
  refine StepTo.val fun w hw => ⟨_, _, _, ?_, ⟨w.heap.size, rfl, rfl⟩, hw.alloc _⟩
  rw [hx]
  refine run_seq (x := .pointer (some ⟨w.heap.size, 0, none⟩)) (w' := { w with heap := w.heap.push (.mapIter (some b') clock #[] clock) }) ?_ rfl
  unfold Instr.range
  refine run_seq (run_underlying ht _) ?_
  dsimp only
  refine run_seq (Go.MapKept.run_getObj_map (hm w hw)) ?_
  rfl
theorem st_next {m it since last : Nat} {seen : Array Nat} {ty' : TypeId} (hx : ∀ w, (execOp (ev e) (bare op ty)).run P w = (Instr.next (.pointer (some ⟨it, 0, none⟩)) false ty' >>= fun v => pure (Next.value v)).run P w)
    (hp : Pull Γ (Asn.own it (.mapIter (some m) since seen last)) Γ') (hm : ∀ w, Sat W0 Γ w → w.heap[m]? = some (mapO l clock)) (hs : ∀ x ∈ l, x.born < since) (hl : ∀ x ∈ l, x.born < last) :
    StepTo P W0 Γ e op ty (fun v Δ => (∃ x ∈ l, x.born ∉ seen ∧ v = .tuple #[.bool true, .int .i64 x.key, x.val] ∧ Δ = Asn.own it (.mapIter (some m) since (seen.push x.born) clock) :: Γ') ∨
      ((∀ x ∈ l, x.born ∈ seen) ∧ v = .tuple #[.bool false] ∧ Δ = Asn.own it (.mapIter (some m) since seen last) :: Γ')) := by
  refine StepTo.val fun w hw => ?_
  have h0 := hw.pull hp
  have hb := h0.own_at
  have hb2 := hm w hw
  have hg : (getObj it).run P w = .ok (.mapIter (some m) since seen last) w := by simp [getObj, Sem.run, hb]
  let L := l.filter fun x => !seen.contains x.born
  have hleft : ((l.map kvE).toArray.filter fun e => !seen.contains e.born) = (L.map kvE).toArray := by
    simp only [L, List.filter_toArray, List.filter_map]; rfl
  have hLs : ∀ x ∈ L, x.born < since := fun x hx => hs x (List.mem_filter.1 hx).1
  have hold : ((L.map kvE).toArray.filter fun e => decide (e.born < since)) = (L.map kvE).toArray := by
    rw [List.filter_toArray]
    congr 1
    rw [List.filter_eq_self]
    intro x hx
    obtain ⟨y, hy, rfl⟩ := List.mem_map.1 hx
    exact decide_eq_true (hLs y hy)
  have hnew : ((L.map kvE).toArray.filter fun e => decide (e.born ≥ since)) = #[] := by
    rw [List.filter_toArray]
    congr 1
    rw [List.filter_eq_nil_iff]
    intro x hx
    obtain ⟨y, hy, rfl⟩ := List.mem_map.1 hx
    have := hLs y hy
    simp [kvE]; omega
  have hgo : (!seen.isEmpty && !(l.map kvE).toArray.isEmpty && (l.map kvE).toArray.all fun e => decide (e.born ≥ last)) = false := by
    cases l with
    | nil => simp
    | cons x l =>
      have := hl x (List.mem_cons_self ..)
      have h2 : decide (x.born ≥ last) = false := by simp; omega
      simp [kvE, h2]
  by_cases hL : L = []
  · refine ⟨.tuple #[.bool false], w, _, ?_, .inr ⟨?_, rfl, rfl⟩, h0⟩
    · rw [hx]
      refine run_seq (w' := w) (x := .tuple #[.bool false]) ?_ rfl
      unfold Instr.next
      dsimp only
      refine run_seq hg ?_
      dsimp only
      refine run_seq (Go.MapKept.run_getObj_map hb2) ?_
      dsimp only
      rw [hgo, hleft, hold, hnew, hL, if_neg Bool.false_ne_true]
      have e1 : ((if (List.map kvE []).toArray.isEmpty = true then #[none] else #[]) ++ Array.map some ((List.map kvE []).toArray ++ #[]) : Array (Option MapEntry)) = #[none] := by simp
      rw [e1]
      refine run_seq (x := 0) (w' := w) ?_ rfl
      simp [choose, Sem.run, Question.forced]
    · intro x hx
      have : x ∉ L := by rw [hL]; simp
      simpa [L, hx] using this
  · have hpos : 0 < L.length := by
      rcases Nat.eq_zero_or_pos L.length with h | h
      · exact absurd (List.eq_nil_of_length_eq_zero h) hL
      · exact h
    have hne : (L.map kvE).toArray.isEmpty = false := by
      cases hq : L with
      | nil => exact absurd hq hL
      | cons x r => rfl
    obtain ⟨j, w', hj, hrun, hw'⟩ := run_pick (P := P) (w := w) L.length hpos
    have hw2 : Sat W0 (Asn.own it (.mapIter (some m) since seen last) :: Γ') w' := by
      rcases hw' with rfl | rfl
      · exact h0
      · exact h0.drew
    have hb3 := hw2.own_at
    have hxL : L[j] ∈ L := List.getElem_mem hj
    have hmem := List.mem_filter.1 hxL
    refine ⟨.tuple #[.bool true, .int .i64 L[j].key, L[j].val], { w' with heap := w'.heap.setIfInBounds it (.mapIter (some m) since (seen.push L[j].born) clock) }, _, ?_, .inl ⟨L[j], hmem.1, by simpa using hmem.2, rfl, rfl⟩, ?_⟩
    · rw [hx]
      refine run_seq (w' := { w' with heap := w'.heap.setIfInBounds it (.mapIter (some m) since (seen.push L[j].born) clock) }) (x := .tuple #[.bool true, .int .i64 L[j].key, L[j].val]) ?_ rfl
      unfold Instr.next
      dsimp only
      refine run_seq hg ?_
      dsimp only
      refine run_seq (Go.MapKept.run_getObj_map hb2) ?_
      dsimp only
      have e1 : ((if (L.map kvE).toArray.isEmpty = true then #[none] else #[]) ++ Array.map some ((L.map kvE).toArray ++ #[]) : Array (Option MapEntry)) = (L.map fun x => some (kvE x)).toArray := by
        rw [hne, if_neg Bool.false_ne_true]; simp
      rw [hgo, hleft, hold, hnew, if_neg Bool.false_ne_true, e1]
      refine run_seq (x := j) (w' := w') (by rw [show (L.map fun x => some (kvE x)).toArray.size = L.length by simp]; exact hrun) ?_
      rw [show (L.map fun x => some (kvE x)).toArray[j]? = some (some (kvE L[j])) by simp [hj]]
      dsimp only
      refine run_seq (x := ()) (w' := { w' with heap := w'.heap.setIfInBounds it (.mapIter (some m) since (seen.push L[j].born) clock) }) ?_ rfl
      have hlt : it < w'.heap.size := (Array.getElem?_eq_some_iff.1 hb3).1
      simp [setObj, Sem.run, hb3, kvE]
    · have hlt : it < w'.heap.size := (Array.getElem?_eq_some_iff.1 hb3).1
      refine hw2.put rfl rfl rfl (by simp) ?_ fun c hc => by simp [Ne.symm hc]
      simp [hlt]
theorem run_entry {m it since : Nat} {seen : Array Nat} {x : KV} {o : Oper} (hx : ∀ w, (execOp (ev e) o).run P w = (Instr.entry (.pointer (some ⟨it, 0, none⟩)) >>= fun v => pure (Next.value v)).run P w)
    (hi : Holds W0 Γ it (.mapIter (some m) since (seen.push x.born) clock)) (hm : Holds W0 Γ m (mapO l clock)) (hxl : x ∈ l) (hd : ∀ y ∈ l, y.born = x.born → y = x) :
    ∀ w, Sat W0 Γ w → (execOp (ev e) o).run P w = .ok (.value (.tuple #[.int .i64 x.key, x.val])) w := by
  intro w hw
  have hb := hi w hw
  have hg : (getObj it).run P w = .ok (.mapIter (some m) since (seen.push x.born) clock) w := by simp [getObj, Sem.run, hb]
  rw [hx]
  refine run_seq (w' := w) (x := .tuple #[.int .i64 x.key, x.val]) ?_ rfl
  unfold Instr.entry
  dsimp only
  refine run_seq hg ?_
  dsimp only
  rw [show (seen.push x.born).back? = some x.born by simp]
  dsimp only
  refine run_seq (Go.MapKept.run_getObj_map (hm w hw)) ?_
  dsimp only
  rw [if_neg (by simp)]
  have : (l.map kvE).toArray.find? (fun e => e.born == x.born) = some (kvE x) := by
    rw [List.find?_toArray, List.find?_map]
    cases hf : l.find? ((fun e => e.born == x.born) ∘ kvE) with
    | none =>
      rw [List.find?_eq_none] at hf
      exact absurd (by simp [kvE]) (hf x hxl)
    | some y =>
      have h1 := List.find?_some hf
      have h2 := List.mem_of_find?_eq_some hf
      have : y.born = x.born := by simpa [kvE] using h1
      rw [hd y h2 this]; rfl
  rw [this]
  rfl
end
/-- How many entries a loop has still to come to. -/
def unseen (l : List KV) (seen : Array Nat) : Nat := (l.filter fun x => !seen.contains x.born).length
theorem unseen_push {l : List KV} {seen : Array Nat} {x : KV} (hx : x ∈ l) (hn : x.born ∉ seen) : unseen l (seen.push x.born) < unseen l seen := by
  unfold unseen
  induction l with
  | nil => cases hx
  | cons y l ih =>
    have hle : ∀ l : List KV, (l.filter fun x_1 => !(seen.push x.born).contains x_1.born).length ≤ (l.filter fun x => !seen.contains x.born).length := by
      intro l
      induction l with
      | nil => simp
      | cons z l ih2 =>
        by_cases h : z.born ∈ seen <;> by_cases h2 : z.born = x.born <;> simp_all <;> omega
    by_cases h : y.born = x.born
    · have := hle l
      have hn2 : y.born ∉ seen := by rw [h]; exact hn
      simp [h, hn, hn2] at this ⊢
      omega
    · rcases List.mem_cons.1 hx with rfl | hx
      · exact absurd rfl h
      · have := ih hx
        by_cases h3 : y.born ∈ seen <;> simp_all
end Go.Proofs.YtcidmgkfaioceaaGreat
namespace Go.Proofs.YtcidmgkfaioceaaGreat
open Go Go.RowKit
set_option linter.unusedVariables false
set_option linter.unusedSimpArgs false
section pure
variable {α β : Type}
def mget : List (Int × α) → Int → Option α
  | [], _ => none
  | p :: r, k => if k = p.1 then some p.2 else mget r k
def mset : List (Int × α) → Int → α → List (Int × α)
  | [], k, v => [(k, v)]
  | p :: r, k, v => if k = p.1 then (p.1, v) :: r else p :: mset r k v
def mdel : List (Int × α) → Int → List (Int × α)
  | [], _ => []
  | p :: r, k => if k = p.1 then r else p :: mdel r k
def mmap (f : α → β) (l : List (Int × α)) : List (Int × β) := l.map fun p => (p.1, f p.2)
theorem mget_map (f : α → β) (l : List (Int × α)) (k : Int) : mget (mmap f l) k = (mget l k).map f := by
  induction l with
  | nil => rfl
  | cons p r ih =>
    show (if k = p.1 then some (f p.2) else mget (mmap f r) k) = (if k = p.1 then some p.2 else mget r k).map f
    by_cases h : k = p.1
    · simp [h]
    · rw [if_neg h, if_neg h, ih]
theorem mset_map (f : α → β) (l : List (Int × α)) (k : Int) (v : α) : mset (mmap f l) k (f v) = mmap f (mset l k v) := by
  induction l with
  | nil => rfl
  | cons p r ih =>
    show (if k = p.1 then (p.1, f v) :: mmap f r else (p.1, f p.2) :: mset (mmap f r) k (f v)) = _
    by_cases h : k = p.1
    · simp [mset, h, mmap]
    · rw [if_neg h, ih]; simp [mset, h, mmap]
theorem mdel_map (f : α → β) (l : List (Int × α)) (k : Int) : mdel (mmap f l) k = mmap f (mdel l k) := by
  induction l with
  | nil => rfl
  | cons p r ih =>
    show (if k = p.1 then mmap f r else (p.1, f p.2) :: mdel (mmap f r) k) = _
    by_cases h : k = p.1
    · simp [mdel, h]
    · rw [if_neg h, ih]; simp [mdel, h, mmap]
end pure
theorem erase_map {α β : Type} (f : α → β) : ∀ (l : List α) (j : Nat), (l.map f).eraseIdx j = (l.eraseIdx j).map f
  | [], _ => rfl
  | _ :: _, 0 => rfl
  | x :: l, j + 1 => by simp [erase_map f l j]
def pairKV (x : KV) : Int × Value := (x.key, x.val)
def stamps (l : List KV) (clock : Nat) : Prop := (∀ x ∈ l, x.born < clock) ∧ (l.map KV.born).Nodup
/-- A map in memory, by its pairs. -/
def KMapA (b : Nat) (l : List (Int × Value)) : Asn :=
  .ex fun x : List KV × Nat => .star [.own b (mapO x.1 x.2), .pure (x.1.map pairKV = l ∧ stamps x.1 x.2)]
theorem kvFind_none {k : Int} : ∀ {l : List KV} {i : Nat}, kvFind k l i = none → mget (l.map pairKV) k = none
  | [], _, _ => rfl
  | x :: l, i, h => by
    unfold kvFind at h
    by_cases hk : k = x.key
    · simp [hk] at h
    · simp only [hk, if_false] at h
      simpa [mget, pairKV, hk] using kvFind_none h
theorem kvFind_some {k : Int} : ∀ {l : List KV} {i j : Nat} {u : Value}, kvFind k l i = some (j, u) → i ≤ j ∧ mget (l.map pairKV) k = some u ∧ ∃ x, l[j - i]? = some x ∧ x.key = k ∧ x.val = u ∧
      (∀ v : Value, mset (l.map pairKV) k v = (l.set (j - i) ⟨k, v, x.born⟩).map pairKV) ∧ mdel (l.map pairKV) k = (l.eraseIdx (j - i)).map pairKV
  | [], _, _, _, h => by simp [kvFind] at h
  | x :: l, i, j, u, h => by
    unfold kvFind at h
    by_cases hk : k = x.key
    · simp only [hk, if_true, Option.some.injEq, Prod.mk.injEq] at h
      obtain ⟨rfl, rfl⟩ := h
      refine ⟨Nat.le_refl _, by simp [mget, pairKV, hk], x, by simp, hk.symm, rfl, fun v => ?_, ?_⟩
      · simp [mset, pairKV, hk]
      · simp [mdel, pairKV, hk]
    · simp only [hk, if_false] at h
      obtain ⟨h1, h2, y, h3, h4, h5, h6, h7⟩ := kvFind_some h
      have e : j - i = (j - (i + 1)) + 1 := by omega
      refine ⟨by omega, by simpa [mget, pairKV, hk] using h2, y, by rw [e]; simpa using h3, h4, h5, fun v => ?_, ?_⟩
      · rw [e]
        have := h6 v
        simp only [List.map_cons, List.set_cons_succ]
        rw [← this]
        simp [mset, pairKV, hk]
      · rw [e]
        simp only [List.map_cons, List.eraseIdx_cons_succ]
        rw [← h7]
        simp [mdel, pairKV, hk]
theorem kvFind_miss {k : Int} {l : List KV} (h : mget (l.map pairKV) k = none) (v : Value) : mset (l.map pairKV) k v = l.map pairKV ++ [(k, v)] ∧ mdel (l.map pairKV) k = l.map pairKV := by
  induction l with
  | nil => exact ⟨rfl, rfl⟩
  | cons x l ih =>
    simp only [List.map_cons, mget] at h
    by_cases hk : k = (pairKV x).1
    · simp [hk] at h
    · rw [if_neg hk] at h
      obtain ⟨h1, h2⟩ := ih h
      simp [mset, mdel, hk, h1, h2]
section
variable {P : Program} {n : Nat} {W0 w : World} {e : Env} {Γ Γ' : List Asn} {op : Op} {ty : TypeId} {t K V b clock : Nat} {k : Int} {v : Value} {l : List (Int × Value)}
theorem KMapA.mk {kvs : List KV} (hl : kvs.map pairKV = l) (hs : stamps kvs clock) (h : Sat W0 (Asn.own b (mapO kvs clock) :: Γ) w) : Sat W0 (KMapA b l :: Γ) w :=
  Sat.ex_mk (kvs, clock) (Sat.star_mk ((Sat.pure_mk ⟨hl, hs⟩ h).less (.take (.there .here) (.take .here .refl))))
theorem KMapA.of (h : Sat W0 (KMapA b l :: Γ) w) : ∃ kvs clock, kvs.map pairKV = l ∧ stamps kvs clock ∧ Sat W0 (Asn.own b (mapO kvs clock) :: Γ) w := by
  obtain ⟨x, hx⟩ := h.ex_of
  have h1 := hx.star_of.less (.take (.there .here) (.take .here .refl))
  obtain ⟨h2, h3⟩ := h1.pure_of
  exact ⟨x.1, x.2, h2.1, h2.2, h3⟩
theorem kmap_lookup {ik : IntKind} {o : Oper} {z : Value} {info : TypeInfo} (ok : Bool) (hx : ∀ w, (execOp (ev e) o).run P w = (Instr.lookup t (.map (some b)) (.int .i64 k) ok >>= fun v => pure (Next.value v)).run P w)
    (ht : P.underlying t = some (.map K V)) (hK : P.underlying K = some (.int ik)) (hi : P.info? V = some info) (hz : info.zero = some z) (hp : Pull Γ (KMapA b l) Γ') :
    ∀ w, Sat W0 Γ w → (execOp (ev e) o).run P w = .ok (.value (if ok then .tuple #[(mget l k).getD z, .bool (mget l k).isSome] else (mget l k).getD z)) w := by
  intro w hw
  obtain ⟨kvs, clock, hl, hs, h1⟩ := KMapA.of (hw.pull hp)
  have h2 := run_lookup (Γ := Asn.own b (mapO kvs clock) :: Γ') (z := z) ok hx ht hK hi hz .here w h1
  rw [h2]
  have : kvGet z k kvs = ((mget l k).getD z, (mget l k).isSome) := by
    unfold kvGet
    subst hl
    cases hf : kvFind k kvs 0 with
    | none => simp [kvFind_none hf]
    | some p =>
      obtain ⟨j, u⟩ := p
      obtain ⟨_, h3, _⟩ := kvFind_some hf
      simp [h3]
  rw [this]
theorem run_kmap_set {ik : IntKind} (ht : P.underlying t = some (.map K V)) (hK : P.underlying K = some (.int ik)) (hw : Sat W0 (KMapA b l :: Γ') w) : ∃ w', (Instr.mapUpdate t (.map (some b)) (.int .i64 k) v).run P w = .ok () w' ∧ Sat W0 (KMapA b (mset l k v) :: Γ') w' := by
  obtain ⟨kvs, clock, hl, hs, h1⟩ := KMapA.of hw
  subst hl
  cases hf : kvFind k kvs 0 with
  | none =>
    obtain ⟨w', r1, hw'⟩ := run_insert_new (v := v) ht hK h1 hf
    refine ⟨w', r1, KMapA.mk ?_ ?_ hw'⟩
    · rw [(kvFind_miss (kvFind_none hf) v).1]; simp [pairKV]
    · refine ⟨fun x hx => ?_, ?_⟩
      · rcases List.mem_append.1 hx with hx | hx
        · exact Nat.lt_succ_of_lt (hs.1 x hx)
        · simp only [List.mem_singleton] at hx; subst hx; exact Nat.lt_succ_self _
      · rw [List.map_append, List.nodup_append]
        refine ⟨hs.2, by simp, ?_⟩
        intro a ha c hc
        simp only [List.map_cons, List.map_nil, List.mem_singleton] at hc
        subst hc
        obtain ⟨x, hx, rfl⟩ := List.mem_map.1 ha
        exact Nat.ne_of_lt (hs.1 x hx)
  | some p =>
    obtain ⟨j, u⟩ := p
    obtain ⟨_, _, x, h3, h4, _, h6, _⟩ := kvFind_some hf
    simp only [Nat.sub_zero] at h3 h6
    obtain ⟨w', r1, hw'⟩ := run_insert_old (v := v) ht hK h1 hf h3 h4
    refine ⟨w', r1, KMapA.mk (h6 v).symm ?_ hw'⟩
    have hborn : (kvs.set j ⟨k, v, x.born⟩).map KV.born = kvs.map KV.born := by
      rw [List.map_set]
      apply List.ext_getElem?
      intro q
      by_cases hq : j = q
      · subst hq
        have hl : j < kvs.length := (List.getElem?_eq_some_iff.1 h3).1
        simp [hl, h3]
        have := (List.getElem?_eq_some_iff.1 h3).2
        rw [this]
      · rw [List.getElem?_set_ne hq]
    refine ⟨fun y hy => ?_, by rw [hborn]; exact hs.2⟩
    have : y.born ∈ kvs.map KV.born := by rw [← hborn]; exact List.mem_map.2 ⟨y, hy, rfl⟩
    obtain ⟨z, hz, he⟩ := List.mem_map.1 this
    rw [← he]; exact hs.1 z hz
theorem run_kmap_del {ik : IntKind} {t2 tr : TypeId} (ht : P.underlying t = some (.map K V)) (hK : P.underlying K = some (.int ik)) (hw : Sat W0 (KMapA b l :: Γ') w) : ∃ w', (Builtin.delete_ #[t, t2] tr #[.map (some b), .int .i64 k]).run P w = .ok (.tuple #[]) w' ∧ Sat W0 (KMapA b (mdel l k) :: Γ') w' := by
  obtain ⟨kvs, clock, hl, hs, h1⟩ := KMapA.of hw
  subst hl
  have hb := h1.own_at
  have hf := run_findKey (P := P) (w := w) (l := kvs) (k := k) hK
  have hlt : b < w.heap.size := (Array.getElem?_eq_some_iff.1 hb).1
  have main : ∀ kvs' : List KV, kvs'.map pairKV = mdel (kvs.map pairKV) k → stamps kvs' clock →
      (match kvFind k kvs 0 with | some (i, _) => ((kvs.map kvE).toArray.eraseIdxIfInBounds i) | none => (kvs.map kvE).toArray) = (kvs'.map kvE).toArray →
      ∃ w', (Builtin.delete_ #[t, t2] tr #[.map (some b), .int .i64 k]).run P w = .ok (.tuple #[]) w' ∧ Sat W0 (KMapA b (mdel (kvs.map pairKV) k) :: Γ') w' := by
    intro kvs' h5 h6 h7
    refine ⟨{ w with heap := w.heap.setIfInBounds b (mapO kvs' clock) }, ?_, KMapA.mk h5 h6 (h1.put rfl rfl rfl (by simp) (by simp [hlt]) fun c hc => by simp [Ne.symm hc])⟩
    unfold Builtin.delete_
    dsimp only
    refine run_seq (run_underlying ht _) ?_
    refine run_seq (Go.MapKept.run_getObj_map hb) ?_
    dsimp only
    refine run_seq (run_checkKey _ hK) ?_
    refine run_seq (x := kvFind k kvs 0) (w' := w) (by simpa using hf) ?_
    cases hq : kvFind k kvs 0 with
    | none =>
      rw [hq] at h7
      dsimp only at h7 ⊢
      rw [h7]
      exact run_seq (Go.MapKept.run_setObj_map _ hb) rfl
    | some p =>
      obtain ⟨i, u⟩ := p
      rw [hq] at h7
      dsimp only at h7 ⊢
      rw [h7]
      exact run_seq (Go.MapKept.run_setObj_map _ hb) rfl
  cases hq : kvFind k kvs 0 with
  | none => exact main kvs (kvFind_miss (kvFind_none hq) undef).2.symm hs (by rw [hq])
  | some p =>
    obtain ⟨j, u⟩ := p
    obtain ⟨_, _, x, h3, _, _, _, h7⟩ := kvFind_some hq
    simp only [Nat.sub_zero] at h3 h7
    refine main (kvs.eraseIdx j) h7.symm ⟨fun y hy => hs.1 y (List.mem_of_mem_eraseIdx hy), ?_⟩ ?_
    · rw [← erase_map]; exact List.Nodup.sublist (List.eraseIdx_sublist _ _) hs.2
    · rw [hq]
      dsimp only
      apply Array.ext'
      have hl : j < kvs.length := (List.getElem?_eq_some_iff.1 h3).1
      simp [Array.eraseIdxIfInBounds, hl, erase_map]
end
end Go.Proofs.YtcidmgkfaioceaaGreat
namespace Go.Proofs.YtcidmgkfaioceaaGreat
open Go Go.RowKit
section
variable {P : Program} {n : Nat} {W0 w : World} {e : Env} {Γ Γ' : List Asn} {K : Act → World → Prop} {k : Nat} {a a1 a2 : Option Addr} {cap : Nat} {rows news : List (List Value)} {xs ys zs : List Int}
theorem RowsA.take (m : Nat) (h : Sat W0 (RowsA k a cap rows :: Γ) w) : Sat W0 (RowsA k a cap (rows.take m) :: Γ) w := by
  refine Sat.head_imp (A := RowsA k a cap rows) (B := RowsA k a cap (rows.take m)) (fun S I h ⟨h1, h2⟩ => ⟨fun r hr => h1 r (List.mem_of_mem_take hr), ?_⟩) h
  rcases h2 with ⟨rfl, rfl⟩ | ⟨b, off, c, T, q1, q2, q3, q4, q5, q6⟩
  · exact .inl ⟨by simp, rfl⟩
  · refine .inr ⟨b, off, c, T, q1, q2, q3, by simp; omega, q5, fun j v hj => q6 j v ?_⟩
    have : rows.flatten = (rows.take m).flatten ++ (rows.drop m).flatten := by rw [← List.flatten_append, List.take_append_drop]
    rw [this, List.getElem?_append_left]
    · exact hj
    · rcases Nat.lt_or_ge j (rows.take m).flatten.length with h | h
      · exact h
      · rw [List.getElem?_eq_none h] at hj; cases hj

theorem take_flat (h : ∀ r ∈ rows, r.length = k) (m : Nat) (hm : m ≤ rows.length) : (rows.take m).flatten.length = m * k := by
  rw [flatten_length (fun r hr => h r (List.mem_of_mem_take hr)), List.length_take, Nat.min_eq_left hm]

/-- append onto the beginning of a slice, of its own end. -/
theorem run_within (t ty' E cap2 i j m : Nat) (info : TypeInfo) (ht : P.underlying t = some (.slice E)) (hi : P.info? E = some info) (hk : info.size = k) (h0 : Sat W0 (RowsA k a cap rows :: Γ) w)
    (hr : ∀ q v, (rows.drop j).flatten[q]? = some v → ∃ p, a2 = some p ∧ w.cell? (p.add q) = some v) (hone : rows.flatten.all oneCell = true) (hij : i ≤ j) (hjm : j + m = rows.length) :
    ∃ w', (Builtin.append_ #[t, t] ty' #[.slice a i cap, .slice a2 m cap2]).run P w = .ok (.slice a (i + m) cap) w' ∧ Sat W0 (RowsA k a cap (rows.take i ++ rows.drop j ++ rows.drop (i + m)) :: Γ) w' := by
  subst hk
  obtain ⟨hrk, hlc⟩ := RowsA.len h0
  have hnk : ∀ r ∈ rows.drop j, r.length = info.size := fun r hr => hrk r (List.mem_of_mem_drop hr)
  have hml : (rows.drop j).length = m := by simp; omega
  have hnl : (rows.drop j).flatten.length = m * info.size := by rw [flatten_length hnk, hml]
  have hf := run_firstCells (P := P) (w := w) info.size m cap2 hnl hr
  have hone2 : (rows.drop j).flatten.all oneCell = true := by
    have : rows.flatten = (rows.take j).flatten ++ (rows.drop j).flatten := by rw [← List.flatten_append, List.take_append_drop]
    rw [this, List.all_append, Bool.and_eq_true] at hone
    exact hone.2
  have hroom : i + m ≤ cap := by omega
  have hrows' : ∀ r ∈ rows.take i ++ rows.drop j ++ rows.drop (i + m), r.length = info.size := by
    intro r hr
    rcases List.mem_append.1 hr with hr | hr
    · rcases List.mem_append.1 hr with hr | hr
      · exact hrk r (List.mem_of_mem_take hr)
      · exact hnk r hr
    · exact hrk r (List.mem_of_mem_drop hr)
  have hlen' : (rows.take i ++ rows.drop j ++ rows.drop (i + m)).length = rows.length := by simp; omega
  have hrest := h0
  obtain ⟨S, I, ⟨S1, S2, h1, h2, h3, ⟨_, h5⟩, h6⟩, d1, d2, d3, d4, d5⟩ := h0
  rcases h5 with ⟨rfl, rfl⟩ | ⟨b, off, c, T, rfl, q2, q3, q4, q5, q6⟩
  · have : i = 0 ∧ j = 0 ∧ m = 0 := by simp at hjm; omega
    obtain ⟨rfl, rfl, rfl⟩ := this
    refine ⟨w, ?_, by simpa using hrest⟩
    simp only [List.drop_nil, List.flatten_nil] at hf
    cases a <;> simp [Builtin.append_, run_underlying ht, Go.sizeOf, typeInfo, hi, Builtin.lenOf, hf, storeCells]
  · have hsz : off + (i * info.size) + 0 + (rows.drop j).flatten.length ≤ c.size := by
      rw [hnl, Nat.add_zero, Nat.add_assoc, ← Nat.add_mul]
      exact Nat.le_trans (Nat.add_le_add_left (Nat.mul_le_mul_right _ hroom) _) q5
    obtain ⟨w', r1, r2, r3, r4, r5, r6, r7⟩ := run_storeCells (P := P) (off := off + i * info.size) (rows.drop j).flatten 0 w c q3 (by omega) hone2
    have hne : ∀ d, d ≠ b → w'.heap[d]? = w.heap[d]? := r4
    have hnot : ∀ d, S2 d ∨ I d → d ≠ b := by
      rintro d hd rfl
      exact hd.elim (h3 d q2) (d1 d (h1 d q2))
    refine ⟨w', ?_, S, I, ⟨S1, S2, h1, h2, h3, ⟨hrows', .inr ⟨b, off, _, T, rfl, q2, r2, by omega, ?_, ?_⟩⟩, h6.loc fun d hd => hne d (hnot d hd)⟩, d1, fun d hd => r3 ▸ d2 d hd, fun d hd => r3 ▸ d3 d hd, d4, ?_⟩
    · simp [Builtin.append_, run_underlying ht, Go.sizeOf, typeInfo, hi, Builtin.lenOf, hroom, hf, add_none, r1]
    · rw [putCells_size]; exact q5
    · intro q v hq
      rw [List.flatten_append, List.flatten_append, List.append_assoc, List.getElem?_append, take_flat hrk i (by omega), List.getElem?_append, hnl] at hq
      rw [putCells_get _ _ _ _ (by omega), hnl]
      split at hq
      · rename_i hlt
        rw [if_neg (by omega)]
        have e1 : rows.flatten = (rows.take i).flatten ++ (rows.drop i).flatten := by rw [← List.flatten_append, List.take_append_drop]
        exact q6 q v (by rw [e1, List.getElem?_append_left (by rw [take_flat hrk i (by omega)]; exact hlt)]; exact hq)
      · rename_i hge
        split at hq
        · rename_i hlt2
          rw [if_pos (by omega), show off + q - (off + i * info.size + 0) = q - i * info.size from by omega]
          exact hq
        · rename_i hge2
          rw [if_neg (by omega)]
          have e1 : rows.flatten = (rows.take (i + m)).flatten ++ (rows.drop (i + m)).flatten := by rw [← List.flatten_append, List.take_append_drop]
          have e2 := take_flat hrk (i + m) (by omega)
          rw [Nat.add_mul] at e2
          refine q6 q v ?_
          rw [e1, List.getElem?_append_right (by omega), e2, show q - (i * info.size + m * info.size) = q - i * info.size - m * info.size from by omega]
          exact hq
    · exact ⟨r5.trans d5.os, r6.trans d5.tape, r7.trans d5.output, by rw [r3]; exact d5.size, fun d hd => (hne d (hnot d (.inr (d4 d hd)))).trans (d5.block d hd)⟩

/-- clear of a slice's end. -/
theorem run_clear (t ty' E cap2 p m : Nat) (info : TypeInfo) (zv : Value) (ht : P.underlying t = some (.slice E)) (hi : P.info? E = some info) (hz : info.zero = some zv) (hzs : zv.cells.size = k) (hzo : zv.cells.toList.all oneCell = true) (hk0 : Nat.blt 0 k = true)
    (h0 : Sat W0 (RowsA k a cap rows :: Γ) w) (ha2 : ∀ b off, a = some ⟨b, off, none⟩ → 0 < m → a2 = some ⟨b, off + p * k, none⟩) (hpm : p + m = rows.length) :
    ∃ w', (Builtin.clear_ #[t] ty' #[.slice a2 m cap2]).run P w = .ok (.tuple #[]) w' ∧ Sat W0 (RowsA k a cap (rows.take p) :: Γ) w' := by
  subst hzs
  obtain ⟨hrk, hlc⟩ := RowsA.len h0
  cases m with
  | zero =>
    refine ⟨w, ?_, RowsA.take p h0⟩
    cases a2 <;> simp [Builtin.clear_, run_underlying ht]
  | succ m =>
    have hrest := h0
    obtain ⟨S, I, ⟨S1, S2, h1, h2, h3, ⟨_, h5⟩, h6⟩, d1, d2, d3, d4, d5⟩ := h0
    rcases h5 with ⟨rfl, rfl⟩ | ⟨b, off, c, T, rfl, q2, q3, q4, q5, q6⟩
    · simp at hpm
    · obtain rfl := ha2 b off rfl (by omega)
      have hzl : (Builtin.zeroCells zv.cells (m + 1)).toList.length = (m + 1) * zv.cells.size := by simp [size_zeroCells]
      have hzall : (Builtin.zeroCells zv.cells (m + 1)).toList.all oneCell = true := by
        simp only [Builtin.zeroCells, Array.toList_map, List.all_map, List.all_eq_true]
        intro x hx
        have hk : 0 < zv.cells.size := by simpa using hk0
        have hlt : x % zv.cells.size < zv.cells.size := Nat.mod_lt _ hk
        rw [List.all_eq_true] at hzo
        simp only [Function.comp]
        rw [getElem!_pos zv.cells _ hlt]
        exact hzo _ (by simp)
      have hsz : off + p * zv.cells.size + 0 + (Builtin.zeroCells zv.cells (m + 1)).toList.length ≤ c.size := by
        rw [hzl, Nat.add_zero, Nat.add_assoc, ← Nat.add_mul]
        exact Nat.le_trans (Nat.add_le_add_left (Nat.mul_le_mul_right _ (by omega)) _) q5
      obtain ⟨w', r1, r2, r3, r4, r5, r6, r7⟩ := run_storeCells (P := P) (off := off + p * zv.cells.size) (Builtin.zeroCells zv.cells (m + 1)).toList 0 w c q3 (by omega) hzall
      have hne : ∀ d, d ≠ b → w'.heap[d]? = w.heap[d]? := r4
      have hnot : ∀ d, S2 d ∨ I d → d ≠ b := by
        rintro d hd rfl
        exact hd.elim (h3 d q2) (d1 d (h1 d q2))
      have hrk' : ∀ r ∈ rows.take p, r.length = zv.cells.size := fun r hr => hrk r (List.mem_of_mem_take hr)
      refine ⟨w', ?_, S, I, ⟨S1, S2, h1, h2, h3, ⟨hrk', .inr ⟨b, off, _, T, rfl, q2, r2, by simp; omega, ?_, ?_⟩⟩, h6.loc fun d hd => hne d (hnot d hd)⟩, d1, fun d hd => r3 ▸ d2 d hd, fun d hd => r3 ▸ d3 d hd, d4, ?_⟩
      · simp [Builtin.clear_, run_underlying ht, zeroValue, typeInfo, hi, hz, r1]
      · rw [putCells_size]; exact q5
      · intro q v hq
        have hql : q < p * zv.cells.size := by
          rw [← take_flat hrk p (by omega)]
          rcases Nat.lt_or_ge q (rows.take p).flatten.length with h | h
          · exact h
          · rw [List.getElem?_eq_none h] at hq; cases hq
        rw [putCells_get _ _ _ _ (by omega), if_neg (by omega)]
        have e1 : rows.flatten = (rows.take p).flatten ++ (rows.drop p).flatten := by rw [← List.flatten_append, List.take_append_drop]
        exact q6 q v (by rw [e1, List.getElem?_append_left (by rw [take_flat hrk p (by omega)]; exact hql)]; exact hq)
      · exact ⟨r5.trans d5.os, r6.trans d5.tape, r7.trans d5.output, by rw [r3]; exact d5.size, fun d hd => (hne d (hnot d (.inr (d4 d hd)))).trans (d5.block d hd)⟩
/-! The places that a slice operation names. -/
theorem slice_front (c m : Nat) (h : (if m = 0 then a else Option.map (fun x => Addr.add x (0 * c)) a) = a1) : a1 = a := by
  subst h
  split
  · rfl
  · cases a <;> simp [Addr.add]
theorem reads_drop {j : Nat} (hr : Reads W0 Γ a rows) (hk : ∀ r ∈ rows, r.length = k) (hk0 : 0 < k) (hc : rows.length ≤ cap) (ha : a1 = (if cap = j then a else Option.map (fun x => Addr.add x (j * k)) a)) : Reads W0 Γ a1 (rows.drop j) := by
  intro w hw q v hq
  have hne : j < rows.length := by
    rcases Nat.lt_or_ge j rows.length with h | h
    · exact h
    · rw [List.drop_eq_nil_of_le h] at hq; simp at hq
  have e1 : rows.flatten = (rows.take j).flatten ++ (rows.drop j).flatten := by rw [← List.flatten_append, List.take_append_drop]
  have e2 := take_flat hk j (by omega)
  obtain ⟨p, hp, hc'⟩ := hr w hw (j * k + q) v (by rw [e1, List.getElem?_append_right (by omega), e2, show j * k + q - j * k = q from by omega]; exact hq)
  obtain ⟨p0, hp0, hc0⟩ := hr w hw 0 _ (List.getElem?_eq_getElem (by rw [e1, List.length_append, e2]; rcases Nat.eq_zero_or_pos j with h | h; (· subst h; have := (List.getElem?_eq_some_iff.1 hq).1; omega); have := Nat.mul_pos h hk0; omega))
  have hs := spot_none hc0
  rw [if_neg (by omega), hp] at ha
  rw [hp] at hp0
  obtain rfl := Option.some.inj hp0
  refine ⟨_, ha, ?_⟩
  obtain ⟨b, o, sp⟩ := p
  subst hs
  rw [add_none] at hc'
  show w.cell? (((⟨b, o, none⟩ : Addr).add (j * k)).add q) = some v
  rw [add_none, add_none, Nat.add_assoc]; exact hc'
theorem clear_place {p q : Nat} (ha : a1 = (if cap = p then a else Option.map (fun x => Addr.add x (p * k)) a)) (hq : p + q ≤ cap) : ∀ b off, a = some ⟨b, off, none⟩ → 0 < q → a1 = some ⟨b, off + p * k, none⟩ := by
  intro b off h1 h2
  rw [ha, if_neg (by omega), h1, Option.map_some, add_none]
end

section
variable {α : Type} [Rw α]
/-- A slice's head alone. -/
theorem xs2 {X : Ctx} {s : XS} (h : List Nat) {a : Option Addr} {m cap K : Nat} {lo hi mx : Int} (hb : 0 ≤ lo ∧ lo ≤ hi ∧ hi ≤ mx ∧ mx ≤ ((cap : Nat) : Int))
    (k : G X ((s.dr X h).putQ (.slice (if mx.toNat = lo.toNat then a else a.map (·.add (lo.toNat * K))) (hi.toNat - lo.toNat) (mx.toNat - lo.toNat))))
    (hq : (s.dq X h).map (·.1) = (s.dq X h).map (·.2) := by kernel_rfl) (hp : s.dp X h = [] := by kernel_rfl)
    (hx : slOf X.P (s.dr X h) = some (a, m, cap, lo, hi, mx, K) := by kernel_rfl) (h1 : oks ((s.dr X h).ok4 X.n) = okr ((s.dr X h).ok4 X.n) := by kernel_rfl) : G X s := by
  refine ⟨x0 h ?_ hq hp⟩
  generalize s.dr X h = s at *
  refine quiet_ok h1 (fun Γ => StepTo.pure fun w => ?_) k.get
  unfold slOf at hx
  split at hx
  · rename_i t x lo' hi' mx' hop
    split at hx
    · rename_i a' m c E e1 e2
      split at hx
      · rename_i info lo2 hi2 mx2 i1 i2 i3 i4 i5
        simp only [Option.some.injEq, Prod.mk.injEq] at hx
        obtain ⟨rfl, rfl, rfl, rfl, rfl, rfl, hkk⟩ := hx
        rw [hop]
        refine slice_at (a := a') (m := m) (c := c) (lo'.map (ev s.env)) (hi'.map (ev s.env)) (mx'.map (ev s.env)) info (fun w => ?_) e2 i1 hkk ?_ ?_ ?_ (by omega) (by omega) (by omega) w
        · show ((Instr.sliceAt t (ev s.env x) (lo'.map (ev s.env)) (hi'.map (ev s.env)) (mx'.map (ev s.env))) >>= fun v => pure (Next.value v)).run X.P w = _
          rw [e1]
        · rcases bnd_ok i2 with ⟨q1, q2⟩ | q1
          · exact .inl ⟨q1, by rw [q2]; rfl⟩
          · exact .inr ⟨_, q1, by omega⟩
        · rcases bnd_ok i3 with ⟨q1, q2⟩ | q1
          · rcases bnd_ok i4 with ⟨q3, q4⟩ | q3
            · exact .inl ⟨q1, by rw [q2]; rfl, q3⟩
            · cases hi' <;> cases mx' <;> simp_all
          · exact .inr ⟨_, q1, by omega⟩
        · rcases bnd_ok i4 with ⟨q1, q2⟩ | q1
          · exact .inl ⟨q1, by rw [q2]; rfl⟩
          · exact .inr ⟨_, q1, by omega⟩
      · cases hx
    · cases hx
  · cases hx
theorem KnA.sub {W0 w : World} {Γ : List Asn} {l l' : List α} {xs xs' : List (Rw.X α)} (h : Sat W0 (KnA l xs :: Γ) w) (hs : ∀ (i : Nat) (a : α) (x : Rw.X α), l'[i]? = some a → xs'[i]? = some x → ∃ j : Nat, l[j]? = some a ∧ xs[j]? = some x) : Sat W0 (KnA l' xs' :: Γ) w :=
  Sat.head_imp (A := KnA l xs) (B := KnA l' xs') (fun S I hp q i a x e1 e2 => by obtain ⟨j, h1, h2⟩ := hs i a x e1 e2; exact q j a x h1 h2) h
theorem rowsOf_take {l : List α} {xs : List (Rw.X α)} (n : Nat) : rowsOf (l.take n) (xs.take n) = (rowsOf l xs).take n := by unfold rowsOf; rw [← List.take_zipWith]
theorem rowsOf_drop {l : List α} {xs : List (Rw.X α)} (n : Nat) : rowsOf (l.drop n) (xs.drop n) = (rowsOf l xs).drop n := by unfold rowsOf; rw [← List.drop_zipWith]
theorem rowsOf_app {l m : List α} {xs ys : List (Rw.X α)} (h : xs.length = l.length) : rowsOf (l ++ m) (xs ++ ys) = rowsOf l xs ++ rowsOf m ys := by unfold rowsOf; rw [List.zipWith_append h.symm]
theorem some_getD {β : Type} {o : Option β} {d : β} (h : o.isSome = true) : o = some (o.getD d) := by
  cases o with
  | none => cases h
  | some x => rfl
/-- What is known of a type. -/
def infoT (P : Program) (E : TypeId) : TypeInfo := (P.info? E).getD default
def zeroT (P : Program) (E : TypeId) : Value := (infoT P E).zero.getD undef
theorem gh_same (a : Option Addr) (cap : Nat) {l l' : List α} (e : l = l') : Gh ⟨[], [ArrA a cap l]⟩ fun _ : Unit => ⟨[], [ArrA a cap l']⟩ := by
  subst e
  exact fun _ _ _ hw => ⟨(), hw⟩
theorem oc_within (t ty' E cap2 i j m : Nat) (P : Program) (a a2 : Option Addr) (cap : Nat) (l : List α) (hk0 : 0 < Rw.k α) (hij : i ≤ j) (hjm : j + m = l.length)
    (ha2 : a2 = if cap = j then a else a.map (·.add (j * Rw.k α))) (ht : P.underlying t = some (.slice E) := by kernel_rfl) (hi : (P.info? E).isSome = true := by kernel_rfl) (hk : (infoT P E).size = Rw.k α := by kernel_rfl) :
    Oc P (Builtin.append_ #[t, t] ty' #[.slice a i cap, .slice a2 m cap2] >>= fun v => pure (Next.value v)) ⟨[], [ArrA a cap l]⟩ (fun _ : Unit => .slice a (i + m) cap) (fun _ => ⟨[], [ArrA a cap (l.take i ++ l.drop j ++ l.drop (i + m))]⟩) := by
  intro W0 Γ w hw
  obtain ⟨xs, q1, h1⟩ := ArrA.split (show Sat W0 (ArrA a cap l :: Γ) w from hw)
  have hrl := rowsOf_len q1
  obtain ⟨_, hlc⟩ := RowsA.len h1
  have hrd : Reads W0 (RowsA (Rw.k α) a cap (rowsOf l xs) :: KnA l xs :: Γ) a (rowsOf l xs) := RowsA.reads .here
  have hrd2 := reads_drop (j := j) (cap := cap) hrd rowsOf_k hk0 hlc ha2
  obtain ⟨w', r1, r2⟩ := run_within t ty' E cap2 i j m (infoT P E) ht (some_getD hi) hk h1 (hrd2 w h1) rowsOf_one hij (by rw [hrl]; exact hjm)
  refine ⟨(), w', _, run_seq r1 rfl, .inl rfl, ?_⟩
  rw [← rowsOf_take, ← rowsOf_drop, ← rowsOf_drop, ← rowsOf_app (by simp [q1]), ← rowsOf_app (by simp [q1])] at r2
  have r3 : Sat W0 (KnA l xs :: RowsA (Rw.k α) a cap (rowsOf (l.take i ++ l.drop j ++ l.drop (i + m)) (xs.take i ++ xs.drop j ++ xs.drop (i + m))) :: Γ) w' := r2.less (.take (.there .here) (.take .here .refl))
  have r4 := KnA.sub (l' := l.take i ++ l.drop j ++ l.drop (i + m)) (xs' := xs.take i ++ xs.drop j ++ xs.drop (i + m)) r3 (by
    intro q a x e1 e2
    have hl1 : (xs.take i).length = (l.take i).length := by simp [q1]
    have hl2 : (xs.drop j).length = (l.drop j).length := by simp [q1]
    rw [List.append_assoc, List.getElem?_append] at e1 e2
    rw [hl1] at e2
    split at e1
    · rename_i hc
      rw [if_pos hc] at e2
      rw [List.getElem?_take] at e1 e2
      split at e1
      · rename_i hd; rw [if_pos hd] at e2; exact ⟨_, e1, e2⟩
      · cases e1
    · rename_i hc
      rw [if_neg hc, List.getElem?_append] at e2
      rw [List.getElem?_append] at e1
      rw [hl2] at e2
      split at e1
      · rename_i hd; rw [if_pos hd] at e2; rw [List.getElem?_drop] at e1 e2; exact ⟨_, e1, e2⟩
      · rename_i hd; rw [if_neg hd] at e2; rw [List.getElem?_drop] at e1 e2; exact ⟨_, e1, e2⟩)
  exact ArrA.join (by simp [q1]) (r4.less (.take (.there .here) (.take .here .refl)))
theorem oc_clear (t ty' E cap2 p m : Nat) (P : Program) (a a2 : Option Addr) (cap : Nat) (l : List α) (hpm : p + m = l.length) (ha2 : a2 = if cap = p then a else a.map (·.add (p * Rw.k α)))
    (ht : P.underlying t = some (.slice E) := by kernel_rfl) (hi : (P.info? E).isSome = true := by kernel_rfl) (hz : (infoT P E).zero.isSome = true := by kernel_rfl) (hzs : (zeroT P E).cells.size = Rw.k α := by kernel_rfl) (hzo : (zeroT P E).cells.toList.all oneCell = true := by kernel_rfl) (hk0 : Nat.blt 0 (Rw.k α) = true := by kernel_rfl) :
    Oc P (Builtin.clear_ #[t] ty' #[.slice a2 m cap2] >>= fun v => pure (Next.value v)) ⟨[], [ArrA a cap l]⟩ (fun _ : Unit => .tuple #[]) (fun _ => ⟨[], [ArrA a cap (l.take p)]⟩) := by
  intro W0 Γ w hw
  obtain ⟨xs, q1, h1⟩ := ArrA.split (show Sat W0 (ArrA a cap l :: Γ) w from hw)
  have hrl := rowsOf_len q1
  obtain ⟨_, hlc⟩ := RowsA.len h1
  obtain ⟨w', r1, r2⟩ := run_clear t ty' E cap2 p m (infoT P E) (zeroT P E) ht (some_getD hi) (some_getD hz) hzs hzo hk0 h1 (a2 := a2) (fun b off e1 e2 => clear_place (q := m) ha2 (by omega) b off e1 e2) (by rw [hrl]; exact hpm)
  refine ⟨(), w', _, run_seq r1 rfl, .inl rfl, ?_⟩
  rw [← rowsOf_take] at r2
  have r3 : Sat W0 (KnA l xs :: RowsA (Rw.k α) a cap (rowsOf (l.take p) (xs.take p)) :: Γ) w' := r2.less (.take (.there .here) (.take .here .refl))
  have r4 := KnA.sub (l' := l.take p) (xs' := xs.take p) r3 (by
    intro q a x e1 e2
    rw [List.getElem?_take] at e1 e2
    split at e1
    · rename_i hd; rw [if_pos hd] at e2; exact ⟨_, e1, e2⟩
    · cases e1)
  exact ArrA.join (by simp [q1]) (r4.less (.take (.there .here) (.take .here .refl)))
end
end Go.Proofs.YtcidmgkfaioceaaGreat
