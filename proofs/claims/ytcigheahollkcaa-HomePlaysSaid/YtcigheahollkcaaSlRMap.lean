/- A map from numbers to records, each with at most one list of numbers, which lies for good.
   Conditions: none. -/
import Derived.Test.YtcigheahollkcaaSlMapV
import Derived.Test.YtcigheahollkcaaSlRec
namespace Go.Proofs.Ytcigheahollkcaa
open Go Go.RowKit
set_option linter.unusedVariables false
set_option linter.unusedSimpArgs false
set_option linter.unusedSectionVars false
theorem mget_mset_r {α : Type} (l : List (Int × α)) (k k' : Int) (v : α) : mget (mset l k v) k' = if k' = k then some v else mget l k' := by
  induction l with
  | nil => rfl
  | cons p r ih =>
    unfold mset
    by_cases h : k = p.1
    · rw [if_pos h]
      show (if k' = p.1 then some v else mget r k') = if k' = k then some v else (if k' = p.1 then some p.2 else mget r k')
      rw [← h]
      by_cases h2 : k' = k
      · simp [h2]
      · simp [h2]
    · rw [if_neg h]
      show (if k' = p.1 then some p.2 else mget (mset r k v) k') = if k' = k then some v else (if k' = p.1 then some p.2 else mget r k')
      rw [ih]
      by_cases h2 : k' = k
      · subst h2; simp [h]
      · simp [h2]
/-- The values hold the records, whose lists lie for good. -/
def RecM {α : Type} [Rec α] (vs : List (Int × Value)) (o : List (Int × α)) : Asn where
  holds _ I h := (∀ k, (mget vs k).isSome = (mget o k).isSome) ∧ ∀ (k : Int) (v : Value) (x : α), mget vs k = some v → mget o k = some x → ∃ a cap, v = .agg (Rec.row x a cap).toArray ∧ ImmH a (Rec.data x) I h
  loc := by
    rintro S I h h' ⟨h0, h1⟩ he
    refine ⟨h0, fun i r e hr hx => ?_⟩
    obtain ⟨a, cap, q1, q2⟩ := h1 i r e hr hx
    exact ⟨a, cap, q1, (ImmI a (Rec.data e)).loc q2 fun b hb => he b (hb.elim (fun f => f.elim) .inr)⟩
  mono := by
    rintro S I I' h ⟨h0, h1⟩ hi
    refine ⟨h0, fun i r e hr hx => ?_⟩
    obtain ⟨a, cap, q1, q2⟩ := h1 i r e hr hx
    exact ⟨a, cap, q1, (ImmI a (Rec.data e)).mono q2 hi⟩
def RMapX {α : Type} [Rec α] (vs : List (Int × Value)) (b : Nat) (o : List (Int × α)) : Asn := .star [KMapA b vs, RecM vs o]
section
variable {P : Program} {n : Nat} {W0 w : World} {e : Env} {Γ Γ' Γ'' : List Asn} {K : Act → World → Prop} {op : Op} {ty : TypeId} {t Kt V b : Nat} {α : Type} [Rec α] {vs : List (Int × Value)} {o : List (Int × α)} {k : Int} {a : Option Addr} {c : Nat}
theorem RMapX.split (hw : Sat W0 (RMapX vs b o :: Γ) w) : Sat W0 (KMapA b vs :: RecM vs o :: Γ) w := Sat.star_of hw
theorem RMapX.join (hw : Sat W0 (KMapA b vs :: RecM vs o :: Γ) w) : Sat W0 (RMapX vs b o :: Γ) w := Sat.star_mk (l := [_, _]) hw
theorem RMapX.nil (hw : Sat W0 (KMapA b [] :: Γ) w) : Sat W0 (RMapX (α := α) [] b [] :: Γ) w := by
  have h1 : Sat W0 (RecM (α := α) [] [] :: KMapA b [] :: Γ) w := hw.imp fun S _ h => ⟨fun _ => False, S, fun _ h => h.elim, fun _ h => h, fun _ h _ => h, ⟨fun _ => rfl, fun k v x hr => by cases hr⟩, h⟩
  exact RMapX.join (h1.less (.take (.there .here) (.take .here .refl)))
theorem RMapX.got {zv : Value} (hz : zv = .agg (Rec.row (Rec.zero : α) none 0).toArray) (hd : Rec.data (Rec.zero : α) = []) (hp : Pull Γ (RMapX vs b o) Γ') (k : Int) (hw : Sat W0 Γ w) :
    ∃ a c, (mget vs k).getD zv = .agg (Rec.row ((mget o k).getD Rec.zero) a c).toArray ∧ (mget vs k).isSome = (mget o k).isSome ∧ Sat W0 (ImmI a (Rec.data ((mget o k).getD Rec.zero)) :: Γ) w := by
  have h1 := RMapX.split (hw.pull hp)
  have h2 : Sat W0 (RecM vs o :: KMapA b vs :: Γ') w := h1.less (.take (.there .here) (.take .here .refl))
  have h3 : Sat W0 (RecM vs o :: RecM vs o :: KMapA b vs :: Γ') w := by
    refine h2.imp fun S I h => ?_
    obtain ⟨S1, S2, q1, q2, q3, q4, q5⟩ := h
    exact ⟨fun _ => False, S, fun _ h => h.elim, fun _ h => h, fun _ h _ => h, q4, S1, S2, q1, q2, q3, q4, q5⟩
  have back : ∀ {A : Asn}, Sat W0 (A :: RecM vs o :: KMapA b vs :: Γ') w → Sat W0 (A :: Γ) w := fun {A} h => by
    have h5 : Sat W0 (RMapX vs b o :: A :: Γ') w := RMapX.join (h.less (.take (.there (.there .here)) (.take (.there .here) (.take .here .refl))))
    exact h5.push (.there hp)
  obtain ⟨S, I, ⟨S1, S2, q1, q2, q3, ⟨q4, q5⟩, q6⟩, r⟩ := h3
  cases hx : mget o k with
  | none =>
    have : mget vs k = none := by
      have := q4 k
      rw [hx] at this
      cases hv : mget vs k with
      | none => rfl
      | some v => rw [hv] at this; cases this
    refine ⟨none, 0, by rw [this]; exact hz, by rw [this]; rfl, ?_⟩
    show Sat W0 (ImmI none (Rec.data (Rec.zero : α)) :: Γ) w
    rw [hd]
    exact ImmR.nil_mk hw
  | some x =>
    obtain ⟨v, hv⟩ := Option.isSome_iff_exists.1 (by rw [q4 k, hx]; rfl : (mget vs k).isSome = true)
    obtain ⟨a, c, q7, q8⟩ := q5 k v x hv hx
    refine ⟨a, c, by rw [hv]; exact q7, by rw [hv]; rfl, back ⟨S, I, ?_, r⟩⟩
    exact ⟨fun _ => False, S2, fun _ h => h.elim, q2, fun _ h _ => h, q8.to, q6⟩
theorem rmap_get {zv : Value} (hz : zv = .agg (Rec.row (Rec.zero : α) none 0).toArray) (hd : Rec.data (Rec.zero : α) = []) (hp : Pull Γ (RMapX vs b o) Γ') (k : Int)
    (h : ∀ a c, (mget vs k).getD zv = .agg (Rec.row ((mget o k).getD Rec.zero) a c).toArray → (mget vs k).isSome = (mget o k).isSome → At n W0 e (ImmI a (Rec.data ((mget o k).getD Rec.zero)) :: Γ) K) : At n W0 e Γ K := by
  intro ac w ha hw
  obtain ⟨a, c, h1, h2, h3⟩ := RMapX.got hz hd hp k hw
  exact h a c h1 h2 ac w ha h3
theorem rmap_get_draw {ops : Array Oper} {Q : Exit → Act → World → Prop} {D Pp Pl : List Nat} {zv : Value} (hz : zv = .agg (Rec.row (Rec.zero : α) none 0).toArray) (hd : Rec.data (Rec.zero : α) = []) (hp : Pull Γ (RMapX vs b o) Γ') (k : Int)
    (h : ∀ a c, (mget vs k).getD zv = .agg (Rec.row ((mget o k).getD Rec.zero) a c).toArray → (mget vs k).isSome = (mget o k).isSome → Draw P n W0 ops Q D Pp Pl e (ImmI a (Rec.data ((mget o k).getD Rec.zero)) :: Γ)) : Draw P n W0 ops Q D Pp Pl e Γ := by
  intro t1 t2 t3 t4 fuel listed ac w hin hl hw
  obtain ⟨a, c, h1, h2, h3⟩ := RMapX.got hz hd hp k hw
  refine h a c h1 h2 t1 t2 t3 (fun j hj => ?_) fuel listed ac w hin hl h3
  obtain ⟨o, v, t, q1, q2, q3, q4, q5, q6, q7, q8⟩ := t4 j hj
  exact ⟨o, v, t, q1, q2, q3, q4, q5, q6, fun ht w hw => q7 ht w hw.tail, q8⟩
theorem RMapX.kmap (hp : Pull Γ (RMapX vs b o) Γ') (hw : Sat W0 Γ w) : Sat W0 (KMapA b vs :: Γ') w := (RMapX.split (hw.pull hp)).less (.take .here (.drop .here .refl))
theorem rmap_lookup1 {ik : IntKind} {op' : Oper} {info : TypeInfo} {zv v : Value} (hv : (mget vs k).getD zv = v) (hx : ∀ w, (execOp (ev e) op').run P w = (Instr.lookup t (.map (some b)) (.int .i64 k) false >>= fun v => pure (Next.value v)).run P w)
    (ht : P.underlying t = some (.map Kt V)) (hK : P.underlying Kt = some (.int ik)) (hi : P.info? V = some info) (hz : info.zero = some zv) (hp : Pull Γ (RMapX vs b o) Γ') :
    ∀ w, Sat W0 Γ w → (execOp (ev e) op').run P w = .ok (.value v) w := by
  intro w hw
  rw [kmap_lookup (z := zv) false hx ht hK hi hz .here w (RMapX.kmap hp hw), ← hv]; rfl
theorem rmap_lookup2 {ik : IntKind} {op' : Oper} {info : TypeInfo} {zv v : Value} {is : Bool} (hv : (mget vs k).getD zv = v) (hs : (mget vs k).isSome = is) (hx : ∀ w, (execOp (ev e) op').run P w = (Instr.lookup t (.map (some b)) (.int .i64 k) true >>= fun v => pure (Next.value v)).run P w)
    (ht : P.underlying t = some (.map Kt V)) (hK : P.underlying Kt = some (.int ik)) (hi : P.info? V = some info) (hz : info.zero = some zv) (hp : Pull Γ (RMapX vs b o) Γ') :
    ∀ w, Sat W0 Γ w → (execOp (ev e) op').run P w = .ok (.value (.tuple #[v, .bool is])) w := by
  intro w hw
  rw [kmap_lookup (z := zv) true hx ht hK hi hz .here w (RMapX.kmap hp hw), ← hv, ← hs]; rfl
theorem st_rset {ik : IntKind} {x : α} {v : Value} (hv : v = .agg (Rec.row x a c).toArray) (hx : ∀ w, (execOp (ev e) (bare op ty)).run P w = (Instr.mapUpdate t (.map (some b)) (.int .i64 k) v >>= fun _ => pure Next.skip).run P w)
    (ht : P.underlying t = some (.map Kt V)) (hK : P.underlying Kt = some (.int ik)) (hp : Pull Γ (RMapX vs b o) Γ') (hi : Pull Γ' (ImmI a (Rec.data x)) Γ'') : StepTo P W0 Γ e op ty (Is undef (RMapX (mset vs k v) b (mset o k x) :: Γ')) := by
  have h1 : StepTo P W0 (KMapA b vs :: RecM vs o :: Γ') e op ty (Is undef (KMapA b (mset vs k v) :: RecM vs o :: Γ')) := st_kmap_set (W0 := W0) hx ht hK .here
  refine StepTo.conv (fun w hw => RMapX.split (hw.pull hp)) (StepTo.conseq2 h1 ?_)
  rintro v' Δ ⟨h2, h3⟩
  refine ⟨_, ⟨h2, rfl⟩, fun w hw => ?_⟩
  rw [h3] at hw
  have h4 : Sat W0 (ImmI a (Rec.data x) :: KMapA b (mset vs k v) :: RecM vs o :: Γ'') w := (hw.pull (.there (.there hi)))
  have h5 : Sat W0 (RecM vs o :: ImmI a (Rec.data x) :: ImmI a (Rec.data x) :: KMapA b (mset vs k v) :: Γ'') w := (ImmR.dup h4).less (.take (.there (.there (.there .here))) (.take .here (.take .here (.take .here .refl))))
  have h6 : Sat W0 (RecM (mset vs k v) (mset o k x) :: ImmI a (Rec.data x) :: KMapA b (mset vs k v) :: Γ'') w := by
    refine h5.imp fun S I h => ?_
    obtain ⟨S1, S2, q1, q2, q3, ⟨q4, q5⟩, T1, T2, k1, k2, k3, k4, k5⟩ := h
    refine ⟨S1, T2, q1, fun b hb => q2 b (k2 b hb), fun b hb ht => q3 b hb (k2 b ht), ⟨fun k' => ?_, fun k' v' x' h7 h8 => ?_⟩, k5⟩
    · rw [mget_mset_r, mget_mset_r]
      by_cases e : k' = k
      · rw [if_pos e, if_pos e]; rfl
      · rw [if_neg e, if_neg e]; exact q4 k'
    · rw [mget_mset_r] at h7 h8
      by_cases e : k' = k
      · rw [if_pos e] at h7 h8
        injection h7 with h7
        injection h8 with h8
        subst h7; subst h8
        exact ⟨a, c, hv, ImmH.any k4⟩
      · rw [if_neg e] at h7 h8
        exact q5 k' v' x' h7 h8
  have h7 : Sat W0 (KMapA b (mset vs k v) :: RecM (mset vs k v) (mset o k x) :: ImmI a (Rec.data x) :: Γ'') w := h6.less (.take (.there (.there .here)) (.take .here (.take .here .refl)))
  have h8 : Sat W0 (ImmI a (Rec.data x) :: RMapX (mset vs k v) b (mset o k x) :: Γ'') w := (RMapX.join h7).less (.take (.there .here) (.take .here .refl))
  exact h8.push (.there hi)
end
end Go.Proofs.Ytcigheahollkcaa
