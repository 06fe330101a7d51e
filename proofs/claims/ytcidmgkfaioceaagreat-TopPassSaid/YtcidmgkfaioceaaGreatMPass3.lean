/- Walks of the program's functions, and the plain laws of what they compute (part 3): MapN, MapW, Own, Ty, Eqs, Kp, Cpy, Pla, Ent, Pac, Trn, Mem, Hom.
   Conditions: none. -/
import Derived.Test.YtcidmgkfaioceaaGreatProg
import Derived.Laws.StructEq
import Derived.Test.YtcidmgkfaioceaaGreatMPass2
set_option linter.unusedVariables false
set_option linter.unusedSimpArgs false
set_option linter.unusedSectionVars false
namespace Go.Proofs.YtcidmgkfaioceaaGreat
open Go Go.RowKit
set_option linter.unusedVariables false
set_option linter.unusedSectionVars false
theorem mget_mset {α : Type} (l : List (Int × α)) (k k' : Int) (v : α) : mget (mset l k v) k' = if k' = k then some v else mget l k' := by
  induction l with
  | nil => rfl
  | cons p r ih =>
    unfold mset
    by_cases h : k = p.1
    · rw [if_pos h]
      show (if k' = p.1 then some v else mget r k') = if k' = k then some v else (if k' = p.1 then some p.2 else mget r k')
      rw [← h]
      by_cases h2 : k' = k
      · simp [h2]
      · simp [h2]
    · rw [if_neg h]
      show (if k' = p.1 then some p.2 else mget (mset r k v) k') = if k' = k then some v else (if k' = p.1 then some p.2 else mget r k')
      rw [ih]
      by_cases h2 : k' = k
      · subst h2; simp [h]
      · simp [h2]
/-- Values of maps: as they stand there. -/
class Mv (α : Type) [Rw α] where
  val : α → Rw.X α → Value
  x0 : Rw.X α
  z0 : ∀ (I : Nat → Prop) (h : Nat → Option Obj), (Rw.asn (Rw.d : α) x0).holds (fun _ => False) I h
section
variable {α : Type} [Rw α] [Mv α]
def mvals : List (Int × α) → List (Rw.X α) → List (Int × Value)
  | p :: o, z :: zs => (p.1, Mv.val p.2 z) :: mvals o zs
  | _, _ => []
def KnM (I : Nat → Prop) (h : Nat → Option Obj) : List (Int × α) → List (Rw.X α) → Prop
  | p :: o, z :: zs => (Rw.asn p.2 z).holds (fun _ => False) I h ∧ KnM I h o zs
  | [], [] => True
  | _, _ => False
theorem KnM.got {I : Nat → Prop} {h : Nat → Option Obj} (k : Int) : ∀ {o : List (Int × α)} {zs : List (Rw.X α)}, KnM I h o zs → ∃ z : Rw.X α, (mget (mvals o zs) k).getD (Mv.val (Rw.d : α) Mv.x0) = Mv.val ((mget o k).getD Rw.d) z ∧ (Rw.asn ((mget o k).getD Rw.d) z).holds (fun _ => False) I h ∧ (mget (mvals o zs) k).isSome = (mget o k).isSome
  | [], [], _ => ⟨Mv.x0, rfl, Mv.z0 _ _, rfl⟩
  | [], _ :: _, q => q.elim
  | _ :: _, [], q => q.elim
  | p :: o, z :: zs, q => by
    unfold mvals mget
    by_cases hk : k = p.1
    · rw [if_pos hk, if_pos hk]; exact ⟨z, rfl, q.1, rfl⟩
    · rw [if_neg hk, if_neg hk]; exact KnM.got k q.2
theorem KnM.set {I : Nat → Prop} {h : Nat → Option Obj} {k : Int} {x : α} {z : Rw.X α} (hx : (Rw.asn x z).holds (fun _ => False) I h) : ∀ {o : List (Int × α)} {zs : List (Rw.X α)}, KnM I h o zs → ∃ zs', mvals (mset o k x) zs' = mset (mvals o zs) k (Mv.val x z) ∧ KnM I h (mset o k x) zs'
  | [], [], _ => ⟨[z], rfl, hx, trivial⟩
  | [], _ :: _, q => q.elim
  | _ :: _, [], q => q.elim
  | p :: o, y :: zs, q => by
    by_cases hk : k = p.1
    · exact ⟨z :: zs, by simp [mvals, mset, hk], by simp only [mset, if_pos hk]; exact ⟨hx, q.2⟩⟩
    · obtain ⟨zs', h1, h2⟩ := KnM.set (k := k) hx q.2
      exact ⟨y :: zs', by simp [mvals, mset, hk, h1], by simp only [mset, if_neg hk]; exact ⟨q.1, h2⟩⟩
theorem KnM.del {I : Nat → Prop} {h : Nat → Option Obj} {k : Int} : ∀ {o : List (Int × α)} {zs : List (Rw.X α)}, KnM I h o zs → ∃ zs', mvals (mdel o k) zs' = mdel (mvals o zs) k ∧ KnM I h (mdel o k) zs'
  | [], [], _ => ⟨[], rfl, trivial⟩
  | [], _ :: _, q => q.elim
  | _ :: _, [], q => q.elim
  | p :: o, y :: zs, q => by
    by_cases hk : k = p.1
    · exact ⟨zs, by simp [mvals, mdel, hk], by simp only [mdel, if_pos hk]; exact q.2⟩
    · obtain ⟨zs', h1, h2⟩ := KnM.del (k := k) q.2
      exact ⟨y :: zs', by simp [mvals, mdel, hk, h1], by simp only [mdel, if_neg hk]; exact ⟨q.1, h2⟩⟩
theorem KnM.loc {S I : Nat → Prop} {h h' : Nat → Option Obj} (he : ∀ b, S b ∨ I b → h' b = h b) : ∀ {o : List (Int × α)} {zs : List (Rw.X α)}, KnM I h o zs → KnM I h' o zs
  | [], [], q => q
  | [], _ :: _, q => q
  | _ :: _, [], q => q
  | p :: o, z :: zs, q => ⟨(Rw.asn p.2 z).loc q.1 fun b hb => he b (hb.elim (fun f => f.elim) .inr), KnM.loc he q.2⟩
theorem KnM.mono {I I' : Nat → Prop} {h : Nat → Option Obj} (hi : ∀ b, I b → I' b) : ∀ {o : List (Int × α)} {zs : List (Rw.X α)}, KnM I h o zs → KnM I' h o zs
  | [], [], q => q
  | [], _ :: _, q => q
  | _ :: _, [], q => q
  | p :: o, z :: zs, q => ⟨(Rw.asn p.2 z).mono q.1 hi, KnM.mono hi q.2⟩
/-- The values are these, and what they name lies for good. -/
def MvM (vs : List (Int × Value)) (o : List (Int × α)) : Asn where
  holds _ I h := ∃ zs, vs = mvals o zs ∧ KnM I h o zs
  loc := fun ⟨zs, h1, h2⟩ he => ⟨zs, h1, h2.loc he⟩
  mono := fun ⟨zs, h1, h2⟩ hi => ⟨zs, h1, h2.mono hi⟩
def FMapA (b : Nat) (o : List (Int × α)) : Asn := .ex fun vs : List (Int × Value) => .star [KMapA b vs, MvM vs o]
variable {P : Program} {W0 w : World} {Γ : List Asn} {t K V b : Nat} {k : Int} {o : List (Int × α)} {vs : List (Int × Value)}
theorem FMapA.of (h : Sat W0 (FMapA b o :: Γ) w) : ∃ vs, Sat W0 (KMapA b vs :: MvM vs o :: Γ) w := by
  obtain ⟨vs, hv⟩ := h.ex_of
  exact ⟨vs, hv.star_of⟩
theorem FMapA.mk (vs : List (Int × Value)) (h : Sat W0 (KMapA b vs :: MvM vs o :: Γ) w) : Sat W0 (FMapA b o :: Γ) w := Sat.ex_mk vs (Sat.star_mk (l := [_, _]) h)
theorem MvM.same (h : Sat W0 (KMapA b vs :: MvM vs o :: Γ) w) : (∀ k, (mget vs k).isSome = (mget o k).isSome) := by
  obtain ⟨S, I, ⟨S1, S2, p1, p2, p3, p4, T1, T2, k1, k2, k3, ⟨zs, rfl, k4⟩, k5⟩, r⟩ := h
  intro k
  obtain ⟨z, _, _, q⟩ := k4.got k
  exact q
/-- What a key's value is, and what it names. -/
theorem MvM.got (k : Int) (h : Sat W0 (KMapA b vs :: MvM vs o :: Γ) w) : ∃ z : Rw.X α, (mget vs k).getD (Mv.val (Rw.d : α) Mv.x0) = Mv.val ((mget o k).getD Rw.d) z ∧ Sat W0 (Rw.asn ((mget o k).getD Rw.d) z :: KMapA b vs :: MvM vs o :: Γ) w := by
  obtain ⟨S, I, ⟨S1, S2, p1, p2, p3, p4, T1, T2, k1, k2, k3, k4, k5⟩, r⟩ := h
  obtain ⟨zs, rfl, k6⟩ := k4
  obtain ⟨z, q1, q2, q3⟩ := k6.got k
  exact ⟨z, q1, S, I, ⟨fun _ => False, S, fun _ h => h.elim, fun _ h => h, fun _ h _ => h, q2, S1, S2, p1, p2, p3, p4, T1, T2, k1, k2, k3, ⟨zs, rfl, k6⟩, k5⟩, r⟩
theorem run_lookupF {ik : IntKind} (ok : Bool) (ht : P.underlying t = some (.map K V)) (hK : P.underlying K = some (.int ik)) (hi : (P.info? V).isSome = true) (hz : (infoT P V).zero = some (Mv.val (Rw.d : α) Mv.x0)) (h : Sat W0 (KMapA b vs :: MvM vs o :: Γ) w) :
    (Instr.lookup t (.map (some b)) (.int .i64 k) ok >>= fun v => pure (Next.value v)).run P w = .ok (.value (if ok then .tuple #[(mget vs k).getD (Mv.val (Rw.d : α) Mv.x0), .bool (mget vs k).isSome] else (mget vs k).getD (Mv.val (Rw.d : α) Mv.x0))) w :=
  kmap_lookup (e := [(0, .map (some b)), (1, .int .i64 k)]) (o := { dst := none, op := .lookup t (.tmp 0) (.tmp 1) ok, type := 0, pos := "", after := #[], guard := none }) ok (fun w => rfl) ht hK (some_getD hi) hz .here w h
def mgo (o : List (Int × α)) (k : Int) : α := (mget o k).getD Rw.d
theorem oc_mget2 (t K V : Nat) (P : Program) (b : Nat) (k : Int) (o : List (Int × α)) {e : α} (he : mgo o k = e) (hK : ∃ ik, P.underlying K = some (.int ik)) (ht : P.underlying t = some (.map K V) := by kernel_rfl) (hi : (P.info? V).isSome = true := by kernel_rfl) (hz : (infoT P V).zero = some (Mv.val (Rw.d : α) Mv.x0) := by kernel_rfl) :
    Oc P (Instr.lookup t (.map (some b)) (.int .i64 k) true >>= fun v => pure (Next.value v)) ⟨[], [FMapA b o]⟩ (fun z : Rw.X α => .tuple #[Mv.val e z, .bool (mget o k).isSome]) (fun z => ⟨[], [Rw.asn e z, FMapA b o]⟩) := by
  subst he
  intro W0 Γ w hw
  obtain ⟨ik, hK⟩ := hK
  obtain ⟨vs, h1⟩ := FMapA.of (show Sat W0 (FMapA b o :: Γ) w from hw)
  obtain ⟨z, q1, q2⟩ := MvM.got k h1
  refine ⟨z, w, _, run_lookupF true ht hK hi hz h1, .inl ?_, ?_⟩
  · rw [q1, MvM.same h1]; rfl
  · have h2 : Sat W0 (FMapA b o :: Rw.asn ((mget o k).getD Rw.d) z :: Γ) w := FMapA.mk vs (q2.less (.take (.there .here) (.take (.there .here) (.take .here .refl))))
    exact h2.less (.take (.there .here) (.take .here .refl))
theorem oc_mget1 (t K V : Nat) (P : Program) (b : Nat) (k : Int) (o : List (Int × α)) {e : α} (he : mgo o k = e) (hK : ∃ ik, P.underlying K = some (.int ik)) (ht : P.underlying t = some (.map K V) := by kernel_rfl) (hi : (P.info? V).isSome = true := by kernel_rfl) (hz : (infoT P V).zero = some (Mv.val (Rw.d : α) Mv.x0) := by kernel_rfl) :
    Oc P (Instr.lookup t (.map (some b)) (.int .i64 k) false >>= fun v => pure (Next.value v)) ⟨[], [FMapA b o]⟩ (fun z : Rw.X α => Mv.val e z) (fun z => ⟨[], [Rw.asn e z, FMapA b o]⟩) := by
  subst he
  intro W0 Γ w hw
  obtain ⟨ik, hK⟩ := hK
  obtain ⟨vs, h1⟩ := FMapA.of (show Sat W0 (FMapA b o :: Γ) w from hw)
  obtain ⟨z, q1, q2⟩ := MvM.got k h1
  refine ⟨z, w, _, run_lookupF false ht hK hi hz h1, .inl ?_, ?_⟩
  · rw [q1]; rfl
  · have h2 : Sat W0 (FMapA b o :: Rw.asn ((mget o k).getD Rw.d) z :: Γ) w := FMapA.mk vs (q2.less (.take (.there .here) (.take (.there .here) (.take .here .refl))))
    exact h2.less (.take (.there .here) (.take .here .refl))
/-- The same where the value names nothing. -/
theorem ol_mget1 (t K V : Nat) (P : Program) (b : Nat) (k : Int) (o : List (Int × α)) {v : Value} (hv : ∀ z : Rw.X α, Mv.val ((mget o k).getD Rw.d) z = v) (hK : ∃ ik, P.underlying K = some (.int ik)) (ht : P.underlying t = some (.map K V) := by kernel_rfl) (hi : (P.info? V).isSome = true := by kernel_rfl) (hz : (infoT P V).zero = some (Mv.val (Rw.d : α) Mv.x0) := by kernel_rfl) :
    Ol P (Instr.lookup t (.map (some b)) (.int .i64 k) false >>= fun v => pure (Next.value v)) (FMapA b o) v := by
  intro W0 Γ w hw
  obtain ⟨ik, hK⟩ := hK
  obtain ⟨vs, g1⟩ := FMapA.of (show Sat W0 (FMapA b o :: Γ) w from hw)
  obtain ⟨z', q1, q2⟩ := MvM.got k g1
  rw [run_lookupF false ht hK hi hz g1]
  rw [← hv z', ← q1]; rfl
theorem ol_mget2 (t K V : Nat) (P : Program) (b : Nat) (k : Int) (o : List (Int × α)) {v : Value} (hv : ∀ z : Rw.X α, Mv.val ((mget o k).getD Rw.d) z = v) (hK : ∃ ik, P.underlying K = some (.int ik)) (ht : P.underlying t = some (.map K V) := by kernel_rfl) (hi : (P.info? V).isSome = true := by kernel_rfl) (hz : (infoT P V).zero = some (Mv.val (Rw.d : α) Mv.x0) := by kernel_rfl) :
    Ol P (Instr.lookup t (.map (some b)) (.int .i64 k) true >>= fun v => pure (Next.value v)) (FMapA b o) (.tuple #[v, .bool (mget o k).isSome]) := by
  intro W0 Γ w hw
  obtain ⟨ik, hK⟩ := hK
  obtain ⟨vs, g1⟩ := FMapA.of (show Sat W0 (FMapA b o :: Γ) w from hw)
  obtain ⟨z', q1, q2⟩ := MvM.got k g1
  rw [run_lookupF true ht hK hi hz g1]
  rw [← hv z', ← q1, MvM.same g1]; rfl
theorem oc_mmake (α : Type) [Rw α] [Mv α] (t : Nat) (P : Program) : Oc P (Instr.makeMap t none >>= fun v => pure (Next.value v)) ⟨[], []⟩ (fun b : Nat => .map (some b)) (fun b => ⟨[], [FMapA (α := α) b []]⟩) := by
  intro W0 Γ w hw
  refine ⟨w.heap.size, _, _, rfl, .inl rfl, ?_⟩
  have h1 : Sat W0 (Asn.own w.heap.size (mapO [] 0) :: Γ) (w.alloc (mapO [] 0)) := (show Sat W0 Γ w from hw).alloc _
  have h2 : Sat W0 (KMapA w.heap.size [] :: Γ) (w.alloc (mapO [] 0)) := KMapA.mk (kvs := []) (clock := 0) rfl ⟨fun x hx => (by cases hx), List.nodup_nil⟩ h1
  have h3 : Sat W0 (MvM (α := α) [] [] :: KMapA w.heap.size [] :: Γ) (w.alloc (mapO [] 0)) := h2.imp fun S _ h => ⟨fun _ => False, S, fun _ h => h.elim, fun _ h => h, fun _ h _ => h, ⟨[], rfl, trivial⟩, h⟩
  exact FMapA.mk [] (h3.less (.take (.there .here) (.take .here .refl)))
theorem oc_mset (t K V : Nat) (P : Program) (b : Nat) (k : Int) (o : List (Int × α)) (x : α) (z : Rw.X α) {o' : List (Int × α)} (ho : mset o k x = o') (hK : ∃ ik, P.underlying K = some (.int ik)) (ht : P.underlying t = some (.map K V) := by kernel_rfl) :
    Oc P (Instr.mapUpdate t (.map (some b)) (.int .i64 k) (Mv.val x z) >>= fun _ => pure Next.skip) ⟨[], [FMapA b o, Rw.asn x z]⟩ (fun _ : Unit => undef) (fun _ => ⟨[], [FMapA b o']⟩) := by
  subst ho
  intro W0 Γ w hw
  obtain ⟨ik, hK⟩ := hK
  obtain ⟨vs, h1⟩ := FMapA.of (show Sat W0 (FMapA b o :: Rw.asn x z :: Γ) w from hw)
  obtain ⟨w', r1, r2⟩ := run_kmap_set (v := Mv.val x z) ht hK h1
  refine ⟨(), w', _, run_seq r1 rfl, .inr ⟨rfl, rfl⟩, FMapA.mk (mset vs k (Mv.val x z)) ?_⟩
  have r3 : Sat W0 (MvM vs o :: Rw.asn x z :: KMapA b (mset vs k (Mv.val x z)) :: Γ) w' := r2.less (.take (.there .here) (.take (.there .here) (.take .here .refl)))
  have r4 : Sat W0 (MvM (mset vs k (Mv.val x z)) (mset o k x) :: KMapA b (mset vs k (Mv.val x z)) :: Γ) w' := by
    obtain ⟨S, I, ⟨S1, S2, p1, p2, p3, ⟨zs, rfl, p4⟩, T1, T2, k1, k2, k3, k4, k5⟩, r⟩ := r3
    obtain ⟨zs', q1, q2⟩ := p4.set (k := k) (Rw.dup _ _ _ _ _ k4)
    exact ⟨S, I, ⟨S1, T2, p1, fun b hb => p2 b (k2 b hb), fun b hb ht => p3 b hb (k2 b ht), ⟨zs', q1.symm, q2⟩, k5⟩, r⟩
  exact r4.less (.take (.there .here) (.take .here .refl))
theorem oc_mdel (t K V t2 tr : Nat) (P : Program) (b : Nat) (k : Int) (o : List (Int × α)) {o' : List (Int × α)} (ho : mdel o k = o') (hK : ∃ ik, P.underlying K = some (.int ik)) (ht : P.underlying t = some (.map K V) := by kernel_rfl) :
    Oc P (Builtin.delete_ #[t, t2] tr #[.map (some b), .int .i64 k] >>= fun v => pure (Next.value v)) ⟨[], [FMapA b o]⟩ (fun _ : Unit => .tuple #[]) (fun _ => ⟨[], [FMapA b o']⟩) := by
  subst ho
  intro W0 Γ w hw
  obtain ⟨ik, hK⟩ := hK
  obtain ⟨vs, h1⟩ := FMapA.of (show Sat W0 (FMapA b o :: Γ) w from hw)
  obtain ⟨w', r1, r2⟩ := run_kmap_del (t2 := t2) (tr := tr) ht hK h1
  refine ⟨(), w', _, run_seq r1 rfl, .inl rfl, FMapA.mk (mdel vs k) ?_⟩
  have r3 : Sat W0 (MvM vs o :: KMapA b (mdel vs k) :: Γ) w' := r2.less (.take (.there .here) (.take .here .refl))
  have r4 : Sat W0 (MvM (mdel vs k) (mdel o k) :: KMapA b (mdel vs k) :: Γ) w' := by
    obtain ⟨S, I, ⟨S1, S2, p1, p2, p3, ⟨zs, rfl, p4⟩, p5⟩, r⟩ := r3
    obtain ⟨zs', q1, q2⟩ := p4.del (k := k)
    exact ⟨S, I, ⟨S1, S2, p1, p2, p3, ⟨zs', q1.symm, q2⟩, p5⟩, r⟩
  exact r4.less (.take (.there .here) (.take .here .refl))
instance : Mv Int where
 val n _ := .int .i64 n
 x0 := ()
 z0 _ _ := trivial
end
end Go.Proofs.YtcidmgkfaioceaaGreat
namespace Go.Proofs.YtcidmgkfaioceaaGreat
open Go Go.RowKit
set_option linter.unusedVariables false
set_option linter.unusedSectionVars false
set_option linter.unusedSimpArgs false
section
variable {α : Type} [Rw α]
theorem ArrA.none_mk {W0 w : World} {Γ : List Asn} {a : Option Addr} (h : Sat W0 Γ w) : Sat W0 (ArrA a 0 ([] : List α) :: Γ) w := by
  obtain ⟨z, h2⟩ := gh_nil (α := α) a W0 Γ w h
  exact h2
def wvals : List (Int × List α) → List (Option Addr × Nat) → List (Int × Value)
  | p :: w, a :: ac => (p.1, .slice a.1 p.2.length a.2) :: wvals w ac
  | _, _ => []
def wrows : List (Int × List α) → List (Option Addr × Nat) → List Asn
  | p :: w, a :: ac => ArrA a.1 a.2 p.2 :: wrows w ac
  | _, _ => []
def wrowsX (k : Int) : List (Int × List α) → List (Option Addr × Nat) → List Asn
  | p :: w, a :: ac => if k = p.1 then wrows w ac else ArrA a.1 a.2 p.2 :: wrowsX k w ac
  | _, _ => []
def wadr (k : Int) : List (Int × List α) → List (Option Addr × Nat) → Option Addr × Nat
  | p :: w, a :: ac => if k = p.1 then a else wadr k w ac
  | _, _ => (none, 0)
def wget (w : List (Int × List α)) (k : Int) : List α := (mget w k).getD []
def acset (k : Int) (a' : Option Addr × Nat) : List (Int × List α) → List (Option Addr × Nat) → List (Option Addr × Nat)
  | p :: w, a :: ac => if k = p.1 then a' :: ac else a :: acset k a' w ac
  | _, _ => [a']
def WMapA (b : Nat) (w : List (Int × List α)) : Asn :=
  .ex fun ac : List (Option Addr × Nat) => .star (.pure (ac.length = w.length) :: KMapA b (wvals w ac) :: wrows w ac)
/-- The same, but for the list of k, which lies at a. -/
def WHoleA (b : Nat) (w : List (Int × List α)) (k : Int) (a : Option Addr) (c : Nat) : Asn :=
  .ex fun ac : List (Option Addr × Nat) => .star (.pure (ac.length = w.length ∧ wadr k w ac = (a, c)) :: KMapA b (wvals w ac) :: wrowsX k w ac)
theorem w_pull {k : Int} : ∀ {w : List (Int × List α)} {ac : List (Option Addr × Nat)} {Γ : List Asn}, ac.length = w.length → (mget w k).isSome = true → Pull (wrows w ac ++ Γ) (ArrA (wadr k w ac).1 (wadr k w ac).2 (wget w k)) (wrowsX k w ac ++ Γ)
  | [], _, _, _, h => by simp [mget] at h
  | p :: w, [], _, hl, _ => by simp at hl
  | p :: w, a :: ac, Γ, hl, h => by
    unfold wrows wrowsX wadr wget mget
    unfold mget at h
    by_cases hk : k = p.1
    · simp only [hk, if_true, Option.getD_some]
      exact .here
    · simp only [hk, if_false] at h ⊢
      exact .there (w_pull (by simpa using hl) h)
theorem w_none {k : Int} : ∀ {w : List (Int × List α)} {ac : List (Option Addr × Nat)}, ac.length = w.length → mget w k = none → wrowsX k w ac = wrows w ac ∧ wadr k w ac = (none, 0) ∧ mget (wvals w ac) k = none
  | [], ac, hl, _ => by cases ac <;> exact ⟨rfl, rfl, rfl⟩
  | p :: w, [], hl, _ => by simp at hl
  | p :: w, a :: ac, hl, h => by
    unfold mget at h
    by_cases hk : k = p.1
    · simp [hk] at h
    · simp only [hk, if_false] at h
      obtain ⟨h1, h2, h3⟩ := w_none (ac := ac) (by simpa using hl) h
      refine ⟨?_, ?_, ?_⟩
      · simp [wrowsX, wrows, hk, h1]
      · simp [wadr, hk, h2]
      · simp [wvals, mget, hk, h3]
theorem w_some {k : Int} : ∀ {w : List (Int × List α)} {ac : List (Option Addr × Nat)}, ac.length = w.length → (mget w k).isSome = true → mget (wvals w ac) k = some (.slice (wadr k w ac).1 (wget w k).length (wadr k w ac).2)
  | [], _, _, h => by simp [mget] at h
  | p :: w, [], hl, _ => by simp at hl
  | p :: w, a :: ac, hl, h => by
    unfold wvals wadr wget mget
    unfold mget at h
    by_cases hk : k = p.1
    · simp [hk]
    · simp only [hk, if_false] at h ⊢
      exact w_some (by simpa using hl) h
theorem w_set {k : Int} (a' : Option Addr × Nat) (ws : List α) : ∀ {w : List (Int × List α)} {ac : List (Option Addr × Nat)}, ac.length = w.length →
    (acset k a' w ac).length = (mset w k ws).length ∧ wvals (mset w k ws) (acset k a' w ac) = mset (wvals w ac) k (.slice a'.1 ws.length a'.2) ∧ ∀ Γ, Pull (wrows (mset w k ws) (acset k a' w ac) ++ Γ) (ArrA a'.1 a'.2 ws) (wrowsX k w ac ++ Γ)
  | [], ac, hl => by cases ac <;> first | exact ⟨rfl, rfl, fun Γ => .here⟩ | simp at hl
  | p :: w, [], hl => by simp at hl
  | p :: w, a :: ac, hl => by
    obtain ⟨h1, h2, h3⟩ := w_set (k := k) a' ws (w := w) (ac := ac) (by simpa using hl)
    by_cases hk : k = p.1
    · simp only [mset, acset, hk, if_true, wvals, wrowsX]
      exact ⟨by simpa using hl, trivial, fun Γ => .here⟩
    · simp only [mset, acset, hk, if_false, wvals, wrowsX]
      refine ⟨by simpa using h1, by rw [h2], fun Γ => .there (h3 Γ)⟩
variable {P : Program} {W0 w : World} {Γ Γ' : List Asn} {t K V b : Nat} {k : Int} {m : List (Int × List α)}
theorem pull_mid {A : Asn} : ∀ l : List Asn, Pull (l ++ A :: Γ) A (l ++ Γ)
  | [] => .here
  | _ :: l => .there (pull_mid l)
theorem WHoleA.of {a : Option Addr} {c : Nat} (h : Sat W0 (WHoleA b m k a c :: Γ) w) : ∃ ac, ac.length = m.length ∧ wadr k m ac = (a, c) ∧ Sat W0 (KMapA b (wvals m ac) :: (wrowsX k m ac ++ Γ)) w := by
  obtain ⟨ac, hac⟩ := h.ex_of
  obtain ⟨h2, h3⟩ := hac.star_of.pure_of
  exact ⟨ac, h2.1, h2.2, h3⟩
theorem WHoleA.mk {a : Option Addr} {c : Nat} (ac : List (Option Addr × Nat)) (h1 : ac.length = m.length) (h2 : wadr k m ac = (a, c)) (h : Sat W0 (KMapA b (wvals m ac) :: (wrowsX k m ac ++ Γ)) w) : Sat W0 (WHoleA b m k a c :: Γ) w :=
  Sat.ex_mk ac (Sat.star_mk (Sat.pure_mk ⟨h1, h2⟩ h))
theorem WMapA.of (h : Sat W0 (WMapA b m :: Γ) w) : ∃ ac, ac.length = m.length ∧ Sat W0 (KMapA b (wvals m ac) :: (wrows m ac ++ Γ)) w := by
  obtain ⟨ac, hac⟩ := h.ex_of
  obtain ⟨h2, h3⟩ := hac.star_of.pure_of
  exact ⟨ac, h2, h3⟩
theorem WMapA.mk (ac : List (Option Addr × Nat)) (h1 : ac.length = m.length) (h : Sat W0 (KMapA b (wvals m ac) :: (wrows m ac ++ Γ)) w) : Sat W0 (WMapA b m :: Γ) w :=
  Sat.ex_mk ac (Sat.star_mk (Sat.pure_mk h1 h))
/-- The list of one key is taken out. -/
theorem WMapA.focus (k : Int) (h : Sat W0 (WMapA b m :: Γ) w) : ∃ a c, Sat W0 (ArrA a c (wget m k) :: WHoleA b m k a c :: Γ) w := by
  obtain ⟨ac, h1, h2⟩ := WMapA.of h
  cases hk : mget m k with
  | none =>
    obtain ⟨e1, e2, e3⟩ := w_none h1 hk
    refine ⟨none, 0, ?_⟩
    have : wget m k = [] := by simp [wget, hk]
    rw [this]
    exact ArrA.none_mk (WHoleA.mk ac h1 e2 (by rw [e1]; exact h2))
  | some ws =>
    have hs : (mget m k).isSome = true := by simp [hk]
    have hp := w_pull (Γ := Γ) h1 hs
    refine ⟨(wadr k m ac).1, (wadr k m ac).2, ?_⟩
    have h3 : Sat W0 (ArrA (wadr k m ac).1 (wadr k m ac).2 (wget m k) :: KMapA b (wvals m ac) :: (wrowsX k m ac ++ Γ)) w := Sat.pull (.there hp) h2
    exact (WHoleA.mk ac h1 rfl (Sat.push (.there (pull_mid _)) h3)).less (.take (.there .here) (.take .here .refl))
/-- And put back. -/
theorem WMapA.unfocus {a : Option Addr} {c : Nat} (h : Sat W0 (ArrA a c (wget m k) :: WHoleA b m k a c :: Γ) w) : Sat W0 (WMapA b m :: Γ) w := by
  obtain ⟨ac, h1, h2, h3⟩ := WHoleA.of (h.less (.take (.there .here) (.take .here .refl)))
  have h4 : Sat W0 (ArrA a c (wget m k) :: KMapA b (wvals m ac) :: (wrowsX k m ac ++ Γ)) w := Sat.pull (.there (pull_mid _)) h3
  cases hk : mget m k with
  | none =>
    obtain ⟨e1, e2, e3⟩ := w_none h1 hk
    rw [e1] at h4
    exact WMapA.mk ac h1 h4.tail
  | some ws =>
    have hs : (mget m k).isSome = true := by simp [hk]
    have hp := w_pull (Γ := Γ) h1 hs
    rw [h2] at hp
    exact WMapA.mk ac h1 (Sat.push (.there hp) h4)
theorem oc_wmake (α : Type) [Rw α] (t : Nat) (P : Program) : Oc P (Instr.makeMap t none >>= fun v => pure (Next.value v)) ⟨[], []⟩ (fun b : Nat => .map (some b)) (fun b => ⟨[], [WMapA (α := α) b []]⟩) := by
  intro W0 Γ w hw
  refine ⟨w.heap.size, _, _, rfl, .inl rfl, ?_⟩
  have h1 : Sat W0 (Asn.own w.heap.size (mapO [] 0) :: Γ) (w.alloc (mapO [] 0)) := (show Sat W0 Γ w from hw).alloc _
  have h2 : Sat W0 (KMapA w.heap.size [] :: Γ) (w.alloc (mapO [] 0)) := KMapA.mk (kvs := []) (clock := 0) rfl ⟨fun x hx => (by cases hx), List.nodup_nil⟩ h1
  exact WMapA.mk [] rfl h2
theorem gh_focus (b : Nat) (m : List (Int × List α)) (k : Int) : Gh ⟨[], [WMapA b m]⟩ (fun z : Option Addr × Nat => ⟨[], [ArrA z.1 z.2 (wget m k), WHoleA b m k z.1 z.2]⟩) := by
  intro W0 Γ w hw
  obtain ⟨a, c, h⟩ := WMapA.focus k (show Sat W0 (WMapA b m :: Γ) w from hw)
  exact ⟨(a, c), h⟩
theorem gh_unfocus (b : Nat) (m : List (Int × List α)) (k : Int) (a : Option Addr) (c : Nat) : Gh ⟨[], [ArrA a c (wget m k), WHoleA b m k a c]⟩ (fun _ : Unit => ⟨[], [WMapA b m]⟩) := by
  intro W0 Γ w hw
  exact ⟨(), WMapA.unfocus (show Sat W0 (ArrA a c (wget m k) :: WHoleA b m k a c :: Γ) w from hw)⟩
theorem ol_wget (t K V : Nat) (P : Program) (b : Nat) (m : List (Int × List α)) (k : Int) (a : Option Addr) (c : Nat) (hK : ∃ ik, P.underlying K = some (.int ik)) (ht : P.underlying t = some (.map K V) := by kernel_rfl) (hi : (P.info? V).isSome = true := by kernel_rfl) (hz : (infoT P V).zero = some (.slice none 0 0) := by kernel_rfl) :
    Ol P (Instr.lookup t (.map (some b)) (.int .i64 k) false >>= fun v => pure (Next.value v)) (WHoleA b m k a c) (.slice a (List.length (wget m k)) c) := by
  intro W0 Γ w hw
  obtain ⟨ik, hK⟩ := hK
  obtain ⟨ac, h1, h2, h3⟩ := WHoleA.of hw
  have h4 := kmap_lookup (e := [(0, .map (some b)), (1, .int .i64 k)]) (o := { dst := none, op := .lookup t (.tmp 0) (.tmp 1) false, type := 0, pos := "", after := #[], guard := none }) (P := P) (z := .slice none 0 0) false (fun w => rfl) ht hK (some_getD hi) hz .here w h3
  refine Eq.trans h4 ?_
  cases hk : mget m k with
  | none =>
    obtain ⟨e1, e2, e3⟩ := w_none h1 hk
    rw [h2] at e2
    simp only [Prod.mk.injEq] at e2
    simp [e3, wget, hk, e2.1, e2.2]
  | some ws =>
    have hs : (mget m k).isSome = true := by simp [hk]
    rw [w_some h1 hs, h2]
    rfl
theorem oc_wset (t K V : Nat) (P : Program) (b : Nat) (m : List (Int × List α)) (k : Int) (a a' : Option Addr) (c c' : Nat) (ws : List α) {m' : List (Int × List α)} (hm : mset m k ws = m') (hK : ∃ ik, P.underlying K = some (.int ik)) (ht : P.underlying t = some (.map K V) := by kernel_rfl) :
    Oc P (Instr.mapUpdate t (.map (some b)) (.int .i64 k) (.slice a' (List.length ws) c') >>= fun _ => pure Next.skip) ⟨[], [WHoleA b m k a c, ArrA a' c' ws]⟩ (fun _ : Unit => undef) (fun _ => ⟨[], [WMapA b m']⟩) := by
  subst hm
  intro W0 Γ w hw
  obtain ⟨ik, hK⟩ := hK
  have h0 : Sat W0 (WHoleA b m k a c :: ArrA a' c' ws :: Γ) w := hw
  obtain ⟨ac, h1, h2, h3⟩ := WHoleA.of h0
  obtain ⟨q1, q2, q3⟩ := w_set (k := k) (a', c') ws h1
  obtain ⟨w', r1, hw'⟩ := run_kmap_set (v := .slice a' (List.length ws) c') ht hK h3
  refine ⟨(), w', _, run_seq r1 rfl, .inr ⟨rfl, rfl⟩, WMapA.mk (acset k (a', c') m ac) q1 ?_⟩
  rw [q2]
  have h5 : Sat W0 (ArrA a' c' ws :: KMapA b (mset (wvals m ac) k (.slice a' ws.length c')) :: (wrowsX k m ac ++ Γ)) w' := Sat.pull (.there (pull_mid _)) hw'
  exact Sat.push (.there (q3 Γ)) h5
theorem RowsA.rest {W0 w : World} {Γ : List Asn} {k cap : Nat} {a a1 : Option Addr} {rows : List (List Value)} (h : Sat W0 (RowsA k a cap rows :: Γ) w) (hr : 1 ≤ rows.length) (ha : a1 = if cap = 1 then a else a.map (·.add (1 * k))) : Sat W0 (RowsA k a1 (cap - 1) (rows.drop 1) :: Γ) w := by
  refine Sat.head_imp (A := RowsA k a cap rows) (B := RowsA k a1 (cap - 1) (rows.drop 1)) (fun S I h ⟨h1, h2⟩ => ⟨fun r hr => h1 r (List.mem_of_mem_drop hr), ?_⟩) h
  rcases h2 with ⟨rfl, rfl⟩ | ⟨b, off, c, T, q1, q2, q3, q4, q5, q6⟩
  · simp at hr
  · by_cases hc : cap = 1
    · refine .inl ⟨?_, by omega⟩
      have : rows.length ≤ 1 := by omega
      exact List.drop_eq_nil_of_le this
    · rw [if_neg hc, q1, Option.map_some, add_none] at ha
      refine .inr ⟨b, off + 1 * k, c, T, ha, q2, q3, by simp; omega, ?_, fun j v hj => ?_⟩
      · have : cap * k = (cap - 1) * k + k := by
          have : cap = (cap - 1) + 1 := by omega
          rw [this, Nat.add_mul]; simp
        omega
      · cases rows with
        | nil => simp at hr
        | cons r rs =>
          have hrk := h1 r (List.mem_cons_self ..)
          have := q6 (k + j) v (by
            rw [List.flatten_cons, List.getElem?_append_right (by omega), hrk]
            simpa using hj)
          rw [Nat.one_mul, Nat.add_assoc]; exact this
/-- A list of ours goes on behind its first one. -/
theorem xtl {X : Ctx} {s : XS} (h : List Nat) (ia : List Nat) {a : Option Addr} {cap : Nat} {l l' : List α} (hb : 1 ≤ l.length) (hl : l.drop 1 = l') (k : ∀ a' : Option Addr, G X ((s.dr X h).put [] ia (.slice a' l'.length (cap - 1)) ⟨[], [ArrA a' (cap - 1) l']⟩))
    (hq : (s.dq X h).map (·.1) = (s.dq X h).map (·.2) := by kernel_rfl) (hp : s.dp X h = [] := by kernel_rfl) (hpa : pkA ia (s.dr X h).gam = [ArrA a cap l] := by kernel_rfl)
    (hx : slOf X.P (s.dr X h) = some (a, l.length, cap, 1, ((l.length : Nat) : Int), ((cap : Nat) : Int), Rw.k α) := by kernel_rfl) (h1 : oks ((s.dr X h).ok1 X.n) = okr ((s.dr X h).ok1 X.n) := by kernel_rfl)
    (h2 : ∀ a' : Option Addr, oks ((s.dr X h).okP X [] ia (.slice a' l'.length (cap - 1)) ⟨[], [ArrA a' (cap - 1) l']⟩) = okr ((s.dr X h).okP X [] ia (.slice a' l'.length (cap - 1)) ⟨[], [ArrA a' (cap - 1) l']⟩) := by intro _; kernel_rfl) (h3 : ∀ a' : Option Addr, (s.dr X h).ol1 = (s.dr X h).olP [] ia ⟨[], [ArrA a' (cap - 1) l']⟩ := by intro _; kernel_rfl) : G X s := by
  refine ⟨x0 h ?_ hq hp⟩
  generalize s.dr X h = s at *
  subst hl
  refine step_oc (io := []) (ia := ia) (pre := ⟨[], [ArrA a cap l]⟩) (rv := fun a' : Option Addr => Value.slice a' (l.drop 1).length (cap - 1)) (post := fun a' => ⟨[], [ArrA a' (cap - 1) (l.drop 1)]⟩) (fun Γ => ?_) rfl hpa h1 h2 h3 fun z => (k z).get
  intro w hw
  obtain ⟨xs, q1, g1⟩ := ArrA.split (show Sat X.W0 (ArrA a cap l :: Γ) w from hw)
  have hlc := (RowsA.len g1).2
  rw [rowsOf_len q1] at hlc
  have g2 := RowsA.rest g1 (by rw [rowsOf_len q1]; exact hb) rfl
  rw [← rowsOf_drop] at g2
  have g3 : Sat X.W0 (KnA l xs :: RowsA (Rw.k α) (if cap = 1 then a else a.map (·.add (1 * Rw.k α))) (cap - 1) (rowsOf (l.drop 1) (xs.drop 1)) :: Γ) w := g2.less (.take (.there .here) (.take .here .refl))
  have g4 := KnA.sub (l' := l.drop 1) (xs' := xs.drop 1) g3 (by
    intro q a x e1 e2
    rw [List.getElem?_drop] at e1 e2
    exact ⟨_, e1, e2⟩)
  have g5 : Sat X.W0 (ArrA (if cap = 1 then a else a.map (·.add (1 * Rw.k α))) (cap - 1) (l.drop 1) :: Γ) w := ArrA.join (by simp [q1]) (g4.less (.take (.there .here) (.take .here .refl)))
  have hrun : (execOp (ev s.env) (bare s.op.op s.op.type)).run X.P w = .ok (.value (.slice (if cap = 1 then a else a.map (·.add (1 * Rw.k α))) (l.length - 1) (cap - 1))) w := by
    unfold slOf at hx
    split at hx
    · rename_i t x lo' hi' mx' hop
      split at hx
      · rename_i a' m c E e1 e2
        split at hx
        · rename_i info lo2 hi2 mx2 i1 i2 i3 i4 i5
          simp only [Option.some.injEq, Prod.mk.injEq] at hx
          obtain ⟨rfl, rfl, rfl, rfl, rfl, rfl, hkk⟩ := hx
          rw [hop]
          have := slice_at (P := X.P) (e := s.env) (a := a') (m := l.length) (c := c) (sz := Rw.k α) (lo := 1) (hi := l.length) (mx := c) (o := bare (Op.slice t x lo' hi' mx') s.op.type) (lo'.map (ev s.env)) (hi'.map (ev s.env)) (mx'.map (ev s.env)) info (fun w => by
            show ((Instr.sliceAt t (ev s.env x) (lo'.map (ev s.env)) (hi'.map (ev s.env)) (mx'.map (ev s.env))) >>= fun v => pure (Next.value v)).run X.P w = _
            rw [e1]) e2 i1 hkk (by
            rcases bnd_ok i2 with ⟨q1, q2⟩ | q1
            · exact .inl ⟨q1, by omega⟩
            · exact .inr ⟨_, q1, by omega⟩) (by
            rcases bnd_ok i3 with ⟨q1, q2⟩ | q1
            · rcases bnd_ok i4 with ⟨q3, q4⟩ | q3
              · exact .inl ⟨q1, by omega, q3⟩
              · cases hi' <;> cases mx' <;> simp_all
            · exact .inr ⟨_, q1, by omega⟩) (by
            rcases bnd_ok i4 with ⟨q1, q2⟩ | q1
            · exact .inl ⟨q1, by omega⟩
            · exact .inr ⟨_, q1, by omega⟩) (by omega) (by omega) (by omega) w
          exact this
        · cases hx
      · cases hx
    · cases hx
  intro ro o aa K Q kk
  rw [hrun]
  exact kk _ _ w ⟨_, by simp, rfl⟩ g5
end
end Go.Proofs.YtcidmgkfaioceaaGreat
namespace Go.Proofs.YtcidmgkfaioceaaGreat
open Go Go.RowKit
set_option linter.unusedVariables false
set_option linter.unusedSectionVars false
set_option linter.unusedSimpArgs false

class Ro (α : Type) where
  X : Type
  k : Nat
  cells : α → X → List Value
  asn : α → X → List Asn
  d : α
  x0 : X
  len : ∀ a x, (cells a x).length = k
  one : ∀ a x, (cells a x).all oneCell = true
variable {α : Type} [Ro α]
structure Gr (α : Type) [Ro α] where
  v : α
  x : Ro.X α
instance rwGr : Rw (Gr α) where
  X := Unit
  k := Ro.k α
  cells g _ := Ro.cells g.v g.x
  asn _ _ := Asn.pure True
  d := ⟨Ro.d, Ro.x0⟩
  len g _ := Ro.len g.v g.x
  one g _ := Ro.one g.v g.x
  dup _ _ _ _ _ h := h
def zg (l : List α) (xs : List (Ro.X α)) : List (Gr α) := List.zipWith Gr.mk l xs
def oAll : List α → List (Ro.X α) → List Asn
  | v :: l, x :: xs => Ro.asn v x ++ oAll l xs
  | _, _ => []
def oBut : Nat → List α → List (Ro.X α) → List Asn
  | 0, _ :: l, _ :: xs => oAll l xs
  | n + 1, v :: l, x :: xs => Ro.asn v x ++ oBut n l xs
  | _, _, _ => []
def nthR (l : List α) (i : Int) : α := l.getD i.toNat Ro.d
def setR (l : List α) (i : Int) (v : α) : List α := l.set i.toNat v
def ArrO (a : Option Addr) (cap : Nat) (l : List α) : Asn := .ex fun xs : List (Ro.X α) => .star (.pure (xs.length = l.length) :: ArrA a cap (zg l xs) :: oAll l xs)
/-- The same, but for what row i owns. -/
def HolO (a : Option Addr) (cap : Nat) (l : List α) (i : Int) (x : Ro.X α) : Asn := .ex fun xs : List (Ro.X α) => .star (.pure (xs.length = l.length ∧ xs[i.toNat]? = some x) :: ArrA a cap (zg l xs) :: oBut i.toNat l xs)
section
variable {W0 w : World} {Γ : List Asn} {a : Option Addr} {cap : Nat} {l : List α} {i : Int} {x : Ro.X α}
theorem zg_len {xs : List (Ro.X α)} (h : xs.length = l.length) : (zg l xs).length = l.length := by simp [zg, h]
theorem zg_get {n : Nat} {xs : List (Ro.X α)} {v : α} (h1 : l[n]? = some v) (h2 : xs[n]? = some x) : (zg l xs)[n]? = some ⟨v, x⟩ := by simp [zg, List.getElem?_zipWith, h1, h2]
theorem nthR_get (h : 0 ≤ i ∧ i < ((l.length : Nat) : Int)) : l[i.toNat]? = some (nthR l i) := by
  have : i.toNat < l.length := by omega
  simp [nthR, this]
theorem o_but : ∀ {n : Nat} {l : List α} {xs : List (Ro.X α)} {v : α} {x : Ro.X α} {Γ : List Asn}, l[n]? = some v → xs[n]? = some x → (Sat W0 (oAll l xs ++ Γ) w ↔ Sat W0 (Ro.asn v x ++ (oBut n l xs ++ Γ)) w)
  | _, [], _, _, _, _, h, _ => by simp at h
  | _, _ :: _, [], _, _, _, _, h => by simp at h
  | 0, v0 :: l, x0 :: xs, v, x, Γ, h1, h2 => by
    simp only [List.getElem?_cons_zero, Option.some.injEq] at h1 h2
    subst h1; subst h2
    simp [oAll, oBut, List.append_assoc]
  | n + 1, v0 :: l, x0 :: xs, v, x, Γ, h1, h2 => by
    simp only [List.getElem?_cons_succ] at h1 h2
    have ih : ∀ Γ, _ := fun Γ => o_but (Γ := Γ) h1 h2
    constructor
    · intro h
      have h3 : Sat W0 (Ro.asn v0 x0 ++ (oAll l xs ++ Γ)) w := by simpa [oAll, List.append_assoc] using h
      have h4 := (ih _).1 (Sat.swap h3)
      have h5 : Sat W0 ((Ro.asn v x ++ oBut n l xs) ++ (Ro.asn v0 x0 ++ Γ)) w := by simpa [List.append_assoc] using h4
      have h6 := Sat.swap h5
      have h7 : Sat W0 (Ro.asn v0 x0 ++ (Ro.asn v x ++ (oBut n l xs ++ Γ))) w := by simpa [List.append_assoc] using h6
      simpa [oBut, List.append_assoc] using Sat.swap h7
    · intro h
      have h3 : Sat W0 (Ro.asn v x ++ (Ro.asn v0 x0 ++ (oBut n l xs ++ Γ))) w := by simpa [oBut, List.append_assoc] using h
      have h4 := Sat.swap h3
      have h5 : Sat W0 ((Ro.asn v0 x0) ++ ((Ro.asn v x ++ oBut n l xs) ++ Γ)) w := by simpa [List.append_assoc] using h4
      have h6 := Sat.swap h5
      have h7 : Sat W0 (Ro.asn v x ++ (oBut n l xs ++ (Ro.asn v0 x0 ++ Γ))) w := by simpa [List.append_assoc] using h6
      have h8 := (ih _).2 h7
      simpa [oAll, List.append_assoc] using Sat.swap h8
theorem ArrO.of (h : Sat W0 (ArrO a cap l :: Γ) w) : ∃ xs, xs.length = l.length ∧ Sat W0 (ArrA a cap (zg l xs) :: (oAll l xs ++ Γ)) w := by
  obtain ⟨xs, hx⟩ := h.ex_of
  obtain ⟨h2, h3⟩ := hx.star_of.pure_of
  exact ⟨xs, h2, h3⟩
theorem ArrO.mk (xs : List (Ro.X α)) (h1 : xs.length = l.length) (h : Sat W0 (ArrA a cap (zg l xs) :: (oAll l xs ++ Γ)) w) : Sat W0 (ArrO a cap l :: Γ) w :=
  Sat.ex_mk xs (Sat.star_mk (Sat.pure_mk h1 h))
theorem HolO.of (h : Sat W0 (HolO a cap l i x :: Γ) w) : ∃ xs, xs.length = l.length ∧ xs[i.toNat]? = some x ∧ Sat W0 (ArrA a cap (zg l xs) :: (oBut i.toNat l xs ++ Γ)) w := by
  obtain ⟨xs, hx⟩ := h.ex_of
  obtain ⟨h2, h3⟩ := hx.star_of.pure_of
  exact ⟨xs, h2.1, h2.2, h3⟩
theorem HolO.mk (xs : List (Ro.X α)) (h1 : xs.length = l.length) (h2 : xs[i.toNat]? = some x) (h : Sat W0 (ArrA a cap (zg l xs) :: (oBut i.toNat l xs ++ Γ)) w) : Sat W0 (HolO a cap l i x :: Γ) w :=
  Sat.ex_mk xs (Sat.star_mk (Sat.pure_mk ⟨h1, h2⟩ h))
/-- What a row owns is taken out. -/
theorem gh_foc (a : Option Addr) (cap : Nat) (l : List α) (i : Int) (hb : 0 ≤ i ∧ i < ((l.length : Nat) : Int)) : Gh ⟨[], [ArrO a cap l]⟩ fun x : Ro.X α => ⟨[], Ro.asn (nthR l i) x ++ [HolO a cap l i x]⟩ := by
  intro W0 Γ w hw
  obtain ⟨xs, h1, h2⟩ := ArrO.of (show Sat W0 (ArrO a cap l :: Γ) w from hw)
  have hlt : i.toNat < xs.length := by omega
  have hx : xs[i.toNat]? = some xs[i.toNat] := List.getElem?_eq_getElem hlt
  refine ⟨xs[i.toNat], ?_⟩
  have h3 : Sat W0 (oAll l xs ++ (ArrA a cap (zg l xs) :: Γ)) w := Sat.swap (A := [ArrA a cap (zg l xs)]) h2
  have h4 := (o_but (nthR_get hb) hx).1 h3
  have h5 : Sat W0 ((Ro.asn (nthR l i) xs[i.toNat] ++ oBut i.toNat l xs) ++ ([ArrA a cap (zg l xs)] ++ Γ)) w := by simpa [List.append_assoc] using h4
  have h6 : Sat W0 (ArrA a cap (zg l xs) :: (oBut i.toNat l xs ++ (Ro.asn (nthR l i) xs[i.toNat] ++ Γ))) w := by
    have h7 := Sat.swap h5
    have h8 : Sat W0 (([ArrA a cap (zg l xs)] ++ Ro.asn (nthR l i) xs[i.toNat]) ++ (oBut i.toNat l xs ++ Γ)) w := by simpa [List.append_assoc] using h7
    have h9 := Sat.swap h8
    have h10 : Sat W0 ((oBut i.toNat l xs ++ [ArrA a cap (zg l xs)]) ++ (Ro.asn (nthR l i) xs[i.toNat] ++ Γ)) w := by simpa [List.append_assoc] using h9
    have h11 : Sat W0 (oBut i.toNat l xs ++ ([ArrA a cap (zg l xs)] ++ (Ro.asn (nthR l i) xs[i.toNat] ++ Γ))) w := by simpa [List.append_assoc] using h10
    exact Sat.swap h11
  have h7 := HolO.mk xs h1 hx h6
  have h8 : Sat W0 ([HolO a cap l i xs[i.toNat]] ++ (Ro.asn (nthR l i) xs[i.toNat] ++ Γ)) w := h7
  have h9 := Sat.swap h8
  unfold Rs.all
  simpa [owns, List.append_assoc] using h9
theorem arrA_cells {a : Option Addr} {cap : Nat} {l m : List (Gr α)} (hl : l.length = m.length) (h : ∀ (n : Nat) (g g' : Gr α), l[n]? = some g → m[n]? = some g' → Ro.cells g.v g.x = Ro.cells g'.v g'.x) : ∀ {Γ}, Sat W0 (ArrA a cap l :: Γ) w → Sat W0 (ArrA a cap m :: Γ) w := by
  intro Γ hw
  obtain ⟨xs, q1, h1⟩ := ArrA.split hw
  have e : rowsOf l xs = rowsOf m xs := by
    unfold rowsOf
    apply List.ext_getElem?
    intro n
    simp only [List.getElem?_zipWith]
    cases e1 : l[n]? with
    | none =>
      have : m[n]? = none := by
        rw [List.getElem?_eq_none_iff] at e1 ⊢; omega
      simp [this]
    | some g =>
      have hlt : n < m.length := by have := (List.getElem?_eq_some_iff.1 e1).1; omega
      rw [List.getElem?_eq_getElem hlt]
      cases e2 : xs[n]? with
      | none => rfl
      | some u => simp only [Option.some.injEq]; exact h n g _ e1 (List.getElem?_eq_getElem hlt)
  rw [e] at h1
  refine ArrA.join (by rw [q1, hl]) ?_
  have h2 : Sat W0 (KnA l xs :: RowsA (Rw.k (Gr α)) a cap (rowsOf m xs) :: Γ) w := h1.less (.take (.there .here) (.take .here .refl))
  have h3 : Sat W0 (KnA m xs :: RowsA (Rw.k (Gr α)) a cap (rowsOf m xs) :: Γ) w := Sat.head_imp (A := KnA l xs) (B := KnA m xs) (fun _ _ _ _ => fun _ _ _ _ _ => trivial) h2
  exact h3.less (.take (.there .here) (.take .here .refl))
theorem zg_set {xs : List (Ro.X α)} {n : Nat} {v : α} {x : Ro.X α} : (zg l xs).set n ⟨v, x⟩ = zg (l.set n v) (xs.set n x) := by
  unfold zg
  apply List.ext_getElem?
  intro j
  simp only [List.getElem?_zipWith, List.getElem?_set, List.length_zipWith]
  by_cases h : n = j
  · subst h
    simp only [if_true]
    by_cases h1 : n < l.length <;> by_cases h2 : n < xs.length <;> simp [h1, h2, Nat.lt_min]
  · simp [h]
theorem oBut_set : ∀ {n : Nat} {l : List α} {xs : List (Ro.X α)} {v : α} {x : Ro.X α}, oBut n (l.set n v) (xs.set n x) = oBut n l xs
  | _, [], _, _, _ => by simp [oBut]
  | 0, _ :: _, [], _, _ => by simp [oBut]
  | n + 1, _ :: _, [], _, _ => by simp [oBut]
  | 0, _ :: _, _ :: _, _, _ => by simp [oBut]
  | n + 1, v0 :: l, x0 :: xs, v, x => by simp only [List.set_cons_succ, oBut]; rw [oBut_set]
/-- The array closed again, row i with another value and place. -/
theorem HolO.close {xs : List (Ro.X α)} {v : α} {x' : Ro.X α} (hb : 0 ≤ i ∧ i < ((l.length : Nat) : Int)) (h1 : xs.length = l.length) (h : Sat W0 (ArrA a cap ((zg l xs).set i.toNat ⟨v, x'⟩) :: (oBut i.toNat l xs ++ (Ro.asn v x' ++ Γ))) w) : Sat W0 (ArrO a cap (setR l i v) :: Γ) w := by
  refine ArrO.mk (xs.set i.toNat x') (by simp [setR, h1]) ?_
  rw [zg_set] at h
  have hlt : i.toNat < l.length := by omega
  have e1 : (setR l i v)[i.toNat]? = some v := by simp [setR, hlt]
  have e2 : (xs.set i.toNat x')[i.toNat]? = some x' := by simp [h1, hlt]
  have h2 : Sat W0 ([ArrA a cap (zg (l.set i.toNat v) (xs.set i.toNat x'))] ++ ((oBut i.toNat l xs ++ Ro.asn v x') ++ Γ)) w := by simpa [List.append_assoc] using h
  have h3 := Sat.swap h2
  have h4 : Sat W0 (oBut i.toNat l xs ++ (Ro.asn v x' ++ ([ArrA a cap (zg (l.set i.toNat v) (xs.set i.toNat x'))] ++ Γ))) w := by simpa [List.append_assoc] using h3
  have h5 := Sat.swap h4
  have h6 : Sat W0 (Ro.asn v x' ++ (oBut i.toNat (setR l i v) (xs.set i.toNat x') ++ ([ArrA a cap (zg (l.set i.toNat v) (xs.set i.toNat x'))] ++ Γ))) w := by rw [setR, oBut_set]; exact h5
  have h7 := (o_but e1 e2).2 h6
  exact Sat.swap h7
theorem gh_unf (a : Option Addr) (cap : Nat) (l : List α) (i : Int) (x : Ro.X α) (v : α) (hb : 0 ≤ i ∧ i < ((l.length : Nat) : Int)) {l' : List α} (hl : setR l i v = l') (hc : Ro.cells v x = Ro.cells (nthR l i) x := by kernel_rfl) : Gh ⟨[], Ro.asn v x ++ [HolO a cap l i x]⟩ fun _ : Unit => ⟨[], [ArrO a cap l']⟩ := by
  subst hl
  intro W0 Γ w hw
  have h0 : Sat W0 (Ro.asn v x ++ ([HolO a cap l i x] ++ Γ)) w := by
    unfold Rs.all at hw
    simpa [owns, List.append_assoc] using hw
  obtain ⟨xs, h1, h2, h3⟩ := HolO.of (Sat.swap h0)
  refine ⟨(), HolO.close hb h1 (x' := x) ?_⟩
  have hg := zg_get (nthR_get hb) h2
  have hlt : i.toNat < (zg l xs).length := by rw [zg_len h1]; omega
  refine arrA_cells (by simp) (fun n g g' e1 e2 => ?_) h3
  rw [List.getElem?_set] at e2
  split at e2
  · rename_i hn
    subst hn
    obtain rfl := Option.some.inj e2
    rw [hg] at e1
    obtain rfl := Option.some.inj e1
    exact hc.symm
  · rw [e1] at e2
    obtain rfl := Option.some.inj e2
    rfl
theorem set_nthR (hb : 0 ≤ i ∧ i < ((l.length : Nat) : Int)) : setR l i (nthR l i) = l := by
  unfold setR
  apply List.ext_getElem?
  intro n
  rw [List.getElem?_set]
  split
  · rename_i h; subst h
    rw [nthR_get hb]; simp; omega
  · rfl
/-- Row i as it was. -/
theorem gh_unfs (a : Option Addr) (cap : Nat) (l : List α) (i : Int) (x : Ro.X α) (hb : 0 ≤ i ∧ i < ((l.length : Nat) : Int)) : Gh ⟨[], Ro.asn (nthR l i) x ++ [HolO a cap l i x]⟩ fun _ : Unit => ⟨[], [ArrO a cap l]⟩ := gh_unf a cap l i x (nthR l i) hb (set_nthR hb) rfl
theorem HolO.at (hb : 0 ≤ i ∧ i < ((l.length : Nat) : Int)) (h : Sat W0 (HolO a cap l i x :: Γ) w) : ∃ b off, a = some ⟨b, off, none⟩ ∧ ∀ j v, (Ro.cells (nthR l i) x)[j]? = some v → w.cell? ⟨b, off + (i.toNat * Ro.k α + j), none⟩ = some v := by
  obtain ⟨xs, h1, h2, h3⟩ := HolO.of h
  have hg := zg_get (nthR_get hb) h2
  have hb2 : 0 ≤ i ∧ i < (((zg l xs).length : Nat) : Int) := by rw [zg_len h1]; exact hb
  have he : nthT (zg l xs) i = ⟨nthR l i, x⟩ := by
    have := nthT_get hb2
    rw [hg] at this
    exact (Option.some.inj this).symm
  obtain ⟨u, b, off, e1, e2, _⟩ := (rA a cap (zg l xs)).row hb2 he h3
  exact ⟨b, off, e1, e2⟩
theorem ix_hol (a : Option Addr) (cap : Nat) (l : List α) (i : Int) (x : Ro.X α) (hb : 0 ≤ i ∧ i < ((l.length : Nat) : Int)) : ∀ (W0 : World) (Γ : List Asn) (w : World), Sat W0 (HolO a cap l i x :: Γ) w → ∃ b off, a = some ⟨b, off, none⟩ := fun _ _ _ hw => let ⟨b, off, e, _⟩ := HolO.at hb hw; ⟨b, off, e⟩
variable {P : Program} {b off : Nat}
theorem ol_hld (a : Option Addr) (cap : Nat) (l : List α) (i : Int) (x : Ro.X α) (ha : a = some ⟨b, off, none⟩) (hb : 0 ≤ i ∧ i < ((l.length : Nat) : Int)) (j : Nat) {v : Value} (hv : (Ro.cells (nthR l i) x)[j]? = some v) :
    Ol P (load ((⟨b, off + i.toNat * Ro.k α, none⟩ : Addr).add j) >>= fun v => pure (Next.value v)) (HolO a cap l i x) v := by
  intro W0 Γ w hw
  obtain ⟨b', off', e1, e2⟩ := HolO.at hb hw
  rw [ha] at e1
  simp only [Option.some.injEq, Addr.mk.injEq, and_true] at e1
  obtain ⟨rfl, rfl⟩ := e1
  refine run_seq (run_load_cell (v := v) ?_) rfl
  rw [add_none, Nat.add_assoc]
  exact e2 j _ hv
theorem ol_hldN (a : Option Addr) (cap : Nat) (l : List α) (i : Int) (x : Ro.X α) (ha : a = some ⟨b, off, none⟩) (hb : 0 ≤ i ∧ i < ((l.length : Nat) : Int)) (j m : Nat) {vs : List Value} (hv : ((Ro.cells (nthR l i) x).drop j).take m = vs) (hj : Nat.ble (j + m) (Ro.k α) = true := by kernel_rfl) :
    Ol P (loadCells ((⟨b, off + i.toNat * Ro.k α, none⟩ : Addr).add j) m >>= fun cs => pure (Next.value (.agg cs))) (HolO a cap l i x) (.agg vs.toArray) := by
  intro W0 Γ w hw
  obtain ⟨b', off', e1, e2⟩ := HolO.at hb hw
  rw [ha] at e1
  simp only [Option.some.injEq, Addr.mk.injEq, and_true] at e1
  obtain ⟨rfl, rfl⟩ := e1
  have hjk : j + m ≤ (Ro.cells (nthR l i) x).length := by rw [Ro.len]; simpa using hj
  rw [← hv]
  refine run_seq (run_loadCells (vs := ((Ro.cells (nthR l i) x).drop j).take m) m (by simp; omega) fun q v hq => ?_) rfl
  rw [List.getElem?_take] at hq
  split at hq
  · rw [List.getElem?_drop] at hq
    rw [add_none, add_none, Nat.add_assoc, Nat.add_assoc]
    exact e2 _ _ hq
  · cases hq
/-- Row i is another one. -/
theorem oc_hst (a : Option Addr) (cap : Nat) (l : List α) (i : Int) (x : Ro.X α) (v : α) (x' : Ro.X α) (ha : a = some ⟨b, off, none⟩) (hb : 0 ≤ i ∧ i < ((l.length : Nat) : Int)) {l' : List α} (hl : setR l i v = l') : Oc P (storeCells ⟨b, off + i.toNat * Ro.k α, none⟩ (Ro.cells v x') >>= fun _ => pure Next.skip) ⟨[], Ro.asn v x' ++ [HolO a cap l i x]⟩ (fun _ : Unit => undef) (fun _ => ⟨[], [ArrO a cap l']⟩) := by
  subst hl
  intro W0 Γ w hw
  have h0 : Sat W0 (Ro.asn v x' ++ ([HolO a cap l i x] ++ Γ)) w := by
    unfold Rs.all at hw
    simpa [owns, List.append_assoc] using hw
  obtain ⟨xs, h1, h2, h3⟩ := HolO.of (Sat.swap h0)
  have hb2 : 0 ≤ i ∧ i < (((zg l xs).length : Nat) : Int) := by rw [zg_len h1]; exact hb
  have h4 : Sat W0 ([Asn.pure True] ++ ([ArrA a cap (zg l xs)] ++ (oBut i.toNat l xs ++ (Ro.asn v x' ++ Γ)))) w := Sat.pure_mk trivial h3
  obtain ⟨z, w', y, r1, r2, r3⟩ := oc_st (P := P) (cap := cap) (l := zg l xs) (i := i) (e := (⟨v, x'⟩ : Gr α)) () ha hb2 (l' := (zg l xs).set i.toNat ⟨v, x'⟩) rfl W0 (oBut i.toNat l xs ++ (Ro.asn v x' ++ Γ)) w (show Sat W0 (ArrA a cap (zg l xs) :: Asn.pure True :: (oBut i.toNat l xs ++ (Ro.asn v x' ++ Γ))) w from Sat.swap (A := [Asn.pure True]) (B := [ArrA a cap (zg l xs)]) h4)
  exact ⟨(), w', y, r1, r2, HolO.close hb h1 r3⟩
theorem zg_append {m : List α} {xs ys : List (Ro.X α)} (h : xs.length = l.length) : zg l xs ++ zg m ys = zg (l ++ m) (xs ++ ys) := (List.zipWith_append h.symm).symm
theorem oAll_append : ∀ {l m : List α} {xs ys : List (Ro.X α)}, xs.length = l.length → oAll (l ++ m) (xs ++ ys) = oAll l xs ++ oAll m ys
  | [], _, [], _, _ => rfl
  | [], _, _ :: _, _, h => by simp at h
  | _ :: _, _, [], _, h => by simp at h
  | v :: l, m, x :: xs, ys, h => by simp only [List.cons_append, oAll, List.append_assoc]; rw [oAll_append (by simpa using h)]
theorem apO_step {P : Program} {W0 : World} {s : XS} {a a2 : Option Addr} {cap : Nat} {l ys : List α} {cap2 : Nat} (hn : (l ++ ys).length ≤ 1099511627776)
    (hx : apOf P s = some (a, l.length, cap, a2, ys.length, Ro.k α)) (Γ : List Asn) : StepTo P W0 (ArrO a cap l :: ArrO a2 cap2 ys :: Γ) s.env s.op.op s.op.type fun v Δ => ∃ z : Option Addr × Nat, v = Value.slice z.1 (l ++ ys).length z.2 ∧ Δ = ArrO z.1 z.2 (l ++ ys) :: Γ := by
  intro w hw ro o aa K Q kk
  obtain ⟨xs, h1, h2⟩ := ArrO.of hw
  have h3 : Sat W0 (ArrO a2 cap2 ys :: ((ArrA a cap (zg l xs) :: oAll l xs) ++ Γ)) w := Sat.swap1 (A := ArrA a cap (zg l xs) :: oAll l xs) h2
  obtain ⟨us, h4, h5⟩ := ArrO.of h3
  have h6 : Sat W0 (ArrA a cap (zg l xs) :: ArrA a2 cap2 (zg ys us) :: (oAll ys us ++ (oAll l xs ++ Γ))) w := by
    have h7 : Sat W0 ((ArrA a2 cap2 (zg ys us) :: oAll ys us) ++ ([ArrA a cap (zg l xs)] ++ (oAll l xs ++ Γ))) w := by simpa using h5
    simpa using Sat.swap h7
  have hx2 : apOf P s = some (a, (zg l xs).length, cap, a2, (zg ys us).length, Rw.k (Gr α)) := by rw [zg_len h1, zg_len h4]; exact hx
  refine ap_step (W0 := W0) (rA a2 cap2 (zg ys us)) (by rw [zg_append h1, zg_len (by simp [h1, h4])]; exact hn) hx2 _ w h6 ro o aa K Q ?_
  rintro v Δ w' ⟨z, rfl, rfl⟩ hw'
  rw [zg_append h1] at hw' ⊢
  rw [zg_len (by simp [h1, h4])]
  refine kk _ _ w' ⟨z, rfl, rfl⟩ ?_
  refine ArrO.mk (xs ++ us) (by simp [h1, h4]) ?_
  rw [oAll_append h1]
  have h8 : Sat W0 ([ArrA z.1 z.2 (zg (l ++ ys) (xs ++ us))] ++ ([ArrA a2 cap2 (zg ys us)] ++ (oAll ys us ++ (oAll l xs ++ Γ)))) w' := hw'
  have h9 := (Sat.swap h8).tail
  have h10 : Sat W0 (([ArrA z.1 z.2 (zg (l ++ ys) (xs ++ us))] ++ oAll ys us) ++ (oAll l xs ++ Γ)) w' := by simpa [List.append_assoc] using h9
  have h11 := Sat.swap h10
  have h12 : Sat W0 (oAll l xs ++ ([ArrA z.1 z.2 (zg (l ++ ys) (xs ++ us))] ++ (oAll ys us ++ Γ))) w' := by simpa [List.append_assoc] using h11
  have h13 := Sat.swap h12
  simpa [List.append_assoc] using h13
end
theorem xaO {X : Ctx} {s : XS} (h : List Nat) (ia : List Nat) {a a2 : Option Addr} {cap : Nat} {l ys zs : List α} {cap2 : Nat} (hz : l ++ ys = zs) (hn : zs.length ≤ 1099511627776)
    (k : ∀ z : Option Addr × Nat, G X ((s.dr X h).put [] ia (.slice z.1 zs.length z.2) ⟨[], [ArrO z.1 z.2 zs]⟩))
    (hq : (s.dq X h).map (·.1) = (s.dq X h).map (·.2) := by kernel_rfl) (hp : s.dp X h = [] := by kernel_rfl) (hpa : pkA ia (s.dr X h).gam = [ArrO a cap l, ArrO a2 cap2 ys] := by kernel_rfl)
    (hx : apOf X.P (s.dr X h) = some (a, l.length, cap, a2, ys.length, Ro.k α) := by kernel_rfl) (h1 : oks ((s.dr X h).ok1 X.n) = okr ((s.dr X h).ok1 X.n) := by kernel_rfl)
    (h2 : ∀ z : Option Addr × Nat, oks ((s.dr X h).okP X [] ia (.slice z.1 zs.length z.2) ⟨[], [ArrO z.1 z.2 zs]⟩) = okr ((s.dr X h).okP X [] ia (.slice z.1 zs.length z.2) ⟨[], [ArrO z.1 z.2 zs]⟩) := by intro _; kernel_rfl) (h3 : ∀ z : Option Addr × Nat, (s.dr X h).ol1 = (s.dr X h).olP [] ia ⟨[], [ArrO z.1 z.2 zs]⟩ := by intro _; kernel_rfl) : G X s := by
  refine ⟨x0 h ?_ hq hp⟩
  generalize s.dr X h = s at *
  subst hz
  exact step_oc (io := []) (ia := ia) (pre := ⟨[], [ArrO a cap l, ArrO a2 cap2 ys]⟩) (rv := fun z : Option Addr × Nat => Value.slice z.1 (l ++ ys).length z.2) (post := fun z => ⟨[], [ArrO z.1 z.2 (l ++ ys)]⟩) (fun Γ => apO_step hn hx Γ) rfl hpa h1 h2 h3 fun z => (k z).get
/-- A block of one row, with what it owns. -/
theorem gh_oneO (b T : Nat) (e : α) (x : Ro.X α) : Gh ⟨[⟨b, (Ro.cells e x).toArray, T⟩], Ro.asn e x⟩ fun _ : Unit => ⟨[], [ArrO (some ⟨b, 0, none⟩) 1 [e]]⟩ := by
  intro W0 Γ w hw
  refine ⟨(), ArrO.mk [x] rfl ?_⟩
  have h1 : Sat W0 ([OB.asn ⟨b, (Ro.cells e x).toArray, T⟩] ++ ([Asn.pure True] ++ (Ro.asn e x ++ Γ))) w := by
    have h2 : Sat W0 (Asn.pure True :: (OB.asn ⟨b, (Ro.cells e x).toArray, T⟩ :: (Ro.asn e x ++ Γ))) w := Sat.pure_mk trivial hw
    exact Sat.swap (A := [Asn.pure True]) (B := [OB.asn ⟨b, (Ro.cells e x).toArray, T⟩]) h2
  obtain ⟨_, h3⟩ := gh_one (α := Gr α) b T ⟨e, x⟩ () W0 (Ro.asn e x ++ Γ) w h1
  simpa [oAll, zg, Rs.all, owns] using h3
theorem gh_nilO (a : Option Addr) : Gh ⟨[], []⟩ fun _ : Unit => ⟨[], [ArrO a 0 ([] : List α)]⟩ := by
  intro W0 Γ w hw
  obtain ⟨_, h⟩ := gh_nil (α := Gr α) a W0 Γ w hw
  exact ⟨(), ArrO.mk [] rfl h⟩
/-- make: rows that own nothing. -/
theorem oAll_rep {W0 w : World} (hd : ∀ {Γ}, Sat W0 Γ w → Sat W0 (Ro.asn (Ro.d : α) Ro.x0 ++ Γ) w) : ∀ (n : Nat) {Γ : List Asn}, Sat W0 Γ w → Sat W0 (oAll (List.replicate n (Ro.d : α)) (List.replicate n Ro.x0) ++ Γ) w
  | 0, _, h => h
  | n + 1, _, h => by
    simp only [List.replicate_succ, oAll, List.append_assoc]
    exact hd (oAll_rep hd n h)
theorem xmkO {X : Ctx} {s : XS} (h : List Nat) {n : Int} {zs : List α} (hb : 0 ≤ n ∧ n ≤ 1099511627776) (hz : List.replicate n.toNat (Ro.d : α) = zs) (hd : ∀ {W0 : World} {w : World} {Γ : List Asn}, Sat W0 Γ w → Sat W0 (Ro.asn (Ro.d : α) Ro.x0 ++ Γ) w)
    (k : ∀ b : Nat, G X ((s.dr X h).put [] [] (.slice (some ⟨b, 0, none⟩) zs.length n.toNat) ⟨[], [ArrO (some ⟨b, 0, none⟩) n.toNat zs]⟩))
    (hq : (s.dq X h).map (·.1) = (s.dq X h).map (·.2) := by kernel_rfl) (hp : s.dp X h = [] := by kernel_rfl) (hx : mkOf X.P (s.dr X h) = some (n, n, (Ro.cells (Ro.d : α) Ro.x0).headD undef) := by kernel_rfl)
    (hk : Ro.k α = 1 := by kernel_rfl) (hv : ((Ro.cells (Ro.d : α) Ro.x0).headD undef).cells = #[(Ro.cells (Ro.d : α) Ro.x0).headD undef] := by kernel_rfl) (h1 : oks ((s.dr X h).ok1 X.n) = okr ((s.dr X h).ok1 X.n) := by kernel_rfl)
    (h2 : ∀ b : Nat, oks ((s.dr X h).okP X [] [] (.slice (some ⟨b, 0, none⟩) zs.length n.toNat) ⟨[], [ArrO (some ⟨b, 0, none⟩) n.toNat zs]⟩) = okr ((s.dr X h).okP X [] [] (.slice (some ⟨b, 0, none⟩) zs.length n.toNat) ⟨[], [ArrO (some ⟨b, 0, none⟩) n.toNat zs]⟩) := by intro _; kernel_rfl) (h3 : ∀ b : Nat, (s.dr X h).ol1 = (s.dr X h).olP [] [] ⟨[], [ArrO (some ⟨b, 0, none⟩) n.toNat zs]⟩ := by intro _; kernel_rfl) : G X s := by
  refine ⟨_root_.Go.Proofs.YtcidmgkfaioceaaGreat.x0 h ?_ hq hp⟩
  generalize s.dr X h = s at *
  subst hz
  refine step_oc (io := []) (ia := []) (pre := ⟨[], []⟩) (rv := fun b : Nat => Value.slice (some ⟨b, 0, none⟩) (List.replicate n.toNat (Ro.d : α)).length n.toNat) (post := fun b => ⟨[], [ArrO (some ⟨b, 0, none⟩) n.toNat (List.replicate n.toNat (Ro.d : α))]⟩) (fun Γ => ?_) rfl rfl h1 h2 h3 fun z => (k z).get
  intro w hw ro o aa K Q kk
  refine mk_step (α := Gr α) (P := X.P) (W0 := X.W0) () hb (fun _ _ => trivial) hx hk hv Γ w hw ro o aa K Q ?_
  rintro v Δ w' ⟨b, rfl, rfl⟩ hw'
  have e : List.replicate n.toNat (Rw.d : Gr α) = zg (List.replicate n.toNat (Ro.d : α)) (List.replicate n.toNat Ro.x0) := by
    unfold zg; rw [List.zipWith_replicate, Nat.min_self]; rfl
  rw [List.length_replicate]
  refine kk _ _ w' ⟨b, by rw [List.length_replicate], rfl⟩ (ArrO.mk (List.replicate n.toNat Ro.x0) (by simp) ?_)
  rw [e] at hw'
  exact Sat.swap (A := oAll (List.replicate n.toNat (Ro.d : α)) (List.replicate n.toNat Ro.x0)) (B := [ArrA (some ⟨b, 0, none⟩) n.toNat (zg (List.replicate n.toNat (Ro.d : α)) (List.replicate n.toNat Ro.x0))]) (C := Γ) (oAll_rep (fun h => hd h) n.toNat hw')
theorem setR_len {l l' : List α} {i : Int} {v : α} (h : setR l i v = l') : l.length = l'.length := by subst h; simp [setR]
/-- Lists that are owned. -/
instance roList {β : Type} [Rw β] : Ro (List β) where
  X := Option Addr × Nat
  k := 1
  cells l x := [.slice x.1 l.length x.2]
  asn l x := [ArrA x.1 x.2 l]
  d := []
  x0 := (none, 0)
  len _ _ := rfl
  one _ _ := rfl
theorem roList_d {β : Type} [Rw β] {W0 : World} {w : World} {Γ : List Asn} (h : Sat W0 Γ w) : Sat W0 (Ro.asn (Ro.d : List β) Ro.x0 ++ Γ) w := ArrA.none_mk h
/-- Frozen, all of them. -/
theorem gh_frzO {β : Type} [Rw β] (a : Option Addr) (cap : Nat) (l : List (List β)) : Gh ⟨[], [ArrO a cap l]⟩ fun _ : Unit => ⟨[], [ArrA a cap l]⟩ := by
  intro W0 Γ w hw
  obtain ⟨xs, h1, h2⟩ := ArrO.of (show Sat W0 (ArrO a cap l :: Γ) w from hw)
  refine ⟨(), ?_⟩
  have key : ∀ (l : List (List β)) (xs : List (Option Addr × Nat)) (Γ : List Asn), Sat W0 (oAll l xs ++ Γ) w → Sat W0 (KnA (α := List β) l xs :: Γ) w := by
    intro l
    induction l with
    | nil =>
      intro xs Γ h
      have h3 : Sat W0 Γ w := by cases xs <;> exact h
      exact h3.imp fun S I h => ⟨fun _ => False, S, fun _ h => h.elim, fun _ h => h, fun _ h _ => h, fun i a x e => by simp at e, h⟩
    | cons v l ih =>
      intro xs Γ h
      cases xs with
      | nil => exact (show Sat W0 Γ w from h).imp fun S I h => ⟨fun _ => False, S, fun _ h => h.elim, fun _ h => h, fun _ h _ => h, fun i a x _ e => by simp at e, h⟩
      | cons x xs =>
        have h3 : Sat W0 (ArrA x.1 x.2 v :: (oAll l xs ++ Γ)) w := h
        obtain ⟨_, h4⟩ := gh_frz x.1 x.2 v W0 (oAll l xs ++ Γ) w h3
        have h5 : Sat W0 (oAll l xs ++ (ImmA x.1 x.2 v :: Γ)) w := Sat.swap (A := [ImmA x.1 x.2 v]) h4
        have h6 := ih xs _ h5
        refine h6.imp fun S I hs => ?_
        obtain ⟨S1, S2, p1, p2, p3, p4, T1, T2, k1, k2, k3, k4, k5⟩ := hs
        refine ⟨fun _ => False, T2, fun _ h => h.elim, fun b hb => p2 b (k2 b hb), fun _ h _ => h, fun i u y e1 e2 => ?_, k5⟩
        cases i with
        | zero =>
          simp only [List.getElem?_cons_zero, Option.some.injEq] at e1 e2
          subst e1; subst e2
          exact k4
        | succ i =>
          simp only [List.getElem?_cons_succ] at e1 e2
          exact p4 i u y e1 e2
  have h3 : Sat W0 (KnA l xs :: (ArrA a cap (zg l xs) :: Γ)) w := key l xs _ (Sat.swap (A := [ArrA a cap (zg l xs)]) h2)
  have h4 : Sat W0 (ArrA a cap (zg l xs) :: KnA l xs :: Γ) w := Sat.swap (A := [KnA l xs]) (B := [ArrA a cap (zg l xs)]) h3
  obtain ⟨us, q1, h5⟩ := ArrA.split h4
  have e : rowsOf (zg l xs) us = rowsOf l xs := by
    unfold rowsOf zg
    apply List.ext_getElem?
    intro n
    simp only [List.getElem?_zipWith]
    cases e1 : l[n]? with
    | none => simp
    | some g =>
      have hlt : n < l.length := (List.getElem?_eq_some_iff.1 e1).1
      have hu : n < us.length := by rw [q1, zg_len h1]; exact hlt
      have hx : n < xs.length := by omega
      simp [List.getElem?_eq_getElem hu, List.getElem?_eq_getElem hx]
      rfl
  rw [e] at h5
  have h6 : Sat W0 (RowsA (Rw.k (List β)) a cap (rowsOf l xs) :: KnA (zg l xs) us :: KnA l xs :: Γ) w := h5
  exact ArrA.join h1 (h6.less (.take .here (.take (.there .here) (.drop .here .refl))))
/-- A block of rows, with what they name for good. -/
theorem kn_rows {β : Type} [Rw β] {W0 w : World} : ∀ {l : List β} {xs : List (Rw.X β)} {Γ : List Asn}, Sat W0 (List.zipWith Rw.asn l xs ++ Γ) w → Sat W0 (KnA l xs :: Γ) w
  | [], _, Γ, h => (show Sat W0 Γ w by simpa using h).imp fun S I h => ⟨fun _ => False, S, fun _ h => h.elim, fun _ h => h, fun _ h _ => h, fun i a x e => by simp at e, h⟩
  | _ :: _, [], Γ, h => (show Sat W0 Γ w by simpa using h).imp fun S I h => ⟨fun _ => False, S, fun _ h => h.elim, fun _ h => h, fun _ h _ => h, fun i a x _ e => by simp at e, h⟩
  | v :: l, x :: xs, Γ, h => by
    have h3 : Sat W0 (Rw.asn v x :: (List.zipWith Rw.asn l xs ++ Γ)) w := by simpa using h
    have h5 : Sat W0 (List.zipWith Rw.asn l xs ++ (Rw.asn v x :: Γ)) w := Sat.swap (A := [Rw.asn v x]) h3
    have h6 := kn_rows h5
    refine h6.imp fun S I hs => ?_
    obtain ⟨S1, S2, p1, p2, p3, p4, T1, T2, k1, k2, k3, k4, k5⟩ := hs
    refine ⟨fun _ => False, T2, fun _ h => h.elim, fun b hb => p2 b (k2 b hb), fun _ h _ => h, fun i u y e1 e2 => ?_, k5⟩
    cases i with
    | zero =>
      simp only [List.getElem?_cons_zero, Option.some.injEq] at e1 e2
      subst e1; subst e2
      exact Rw.dup _ _ _ _ _ k4
    | succ i =>
      simp only [List.getElem?_cons_succ] at e1 e2
      exact p4 i u y e1 e2
theorem gh_rows {β : Type} [Rw β] (b T n : Nat) (l : List β) (xs : List (Rw.X β)) (hl : xs.length = l.length := by kernel_rfl) (hn : l.length = n := by kernel_rfl) :
    Gh ⟨[⟨b, (rowsOf l xs).flatten.toArray, T⟩], List.zipWith Rw.asn l xs⟩ fun _ : Unit => ⟨[], [ArrA (some ⟨b, 0, none⟩) n l]⟩ := by
  intro W0 Γ w hw
  refine ⟨(), ?_⟩
  have h0 : Sat W0 (OB.asn ⟨b, (rowsOf l xs).flatten.toArray, T⟩ :: (List.zipWith Rw.asn l xs ++ Γ)) w := by
    unfold Rs.all at hw
    simpa [owns, List.append_assoc] using hw
  have h : Sat W0 (Asn.own b (.cells (rowsOf l xs).flatten.toArray T (0, 0)) :: (List.zipWith Rw.asn l xs ++ Γ)) w := h0
  have h1 := RowsA.of_own (k := Rw.k β) (rows := rowsOf l xs) h rowsOf_k rfl
  rw [rowsOf_len hl, hn] at h1
  have h2 := Sat.swap (A := [RowsA (Rw.k β) (some ⟨b, 0, none⟩) n (rowsOf l xs)]) h1
  have h3 := kn_rows h2
  have h4 : Sat W0 (RowsA (Rw.k β) (some ⟨b, 0, none⟩) n (rowsOf l xs) :: KnA l xs :: Γ) w := Sat.swap (A := [KnA l xs]) (B := [RowsA (Rw.k β) (some ⟨b, 0, none⟩) n (rowsOf l xs)]) h3
  exact ArrA.join hl h4
end Go.Proofs.YtcidmgkfaioceaaGreat
namespace Go.Proofs.YtcidmgkfaioceaaGreat
open Go Go.RowKit
set_option linter.unusedVariables false
structure PktS where
 kind : Int
 src : Int
 dst : Int
 id : Int
 line : Int
 ptr : Int
 state : Int
 flag : Bool
 data : List Int
structure DealS where
 kind : Int
 line : Int
 id : Int
 step : Int
 state : Int
 head : Int
 data : List Int
 next : Int
 told : Int
structure Ent where
 fwd : Int
 back : Int
 line : Int
 used : Int
 dirty : Bool
 data : List Int
structure LinkS where
 fwd : Int
 back : Int
structure CfgS where
 nodes : Int
 lines : Int
 words : Int
 sets : Int
 ways : Int
 out : Int
 inn : Int
 init : List Int
structure RowS where
 state : Int
 head : Int
 data : List Int
structure OpS where
 kind : Int
 addr : Int
 value : Int
structure EventS where
 node : Int
 index : Int
 done_ : Bool
 value : Int
structure PickS where
 deliver : Bool
 at_ : Int
 bit : Int
 mask : Int
structure ChoiceS where
 do_ : Int
 at_ : Int
 bit : Int
 mask : Int
structure AskS where
 who : Int
 id : Int
structure SetupS where
 nodes : Int
 lines : Int
 words : Int
 sets : Int
 ways : Int
 out : Int
 inn : Int
 init : List Int
 who : List Int
 kinds : List Int
 addrs : List Int
 values : List Int
instance rwPktS : Rw PktS where
 X := Option Addr × Nat
 k := 9
 cells p x := [.int .i64 p.kind, .int .i64 p.src, .int .i64 p.dst, .int .i64 p.id, .int .i64 p.line, .int .i64 p.ptr, .int .i64 p.state, .bool p.flag, .slice x.1 (List.length p.data) x.2]
 asn p x := ImmA x.1 x.2 p.data
 d := ⟨0, 0, 0, 0, 0, 0, 0, false, []⟩
 len _ _ := rfl
 one _ _ := rfl
 dup _ _ := imm_dup _ _ _
instance rwEnt : Rw Ent where
 X := Option Addr × Nat
 k := 6
 cells p x := [.int .i64 p.fwd, .int .i64 p.back, .int .i64 p.line, .int .i64 p.used, .bool p.dirty, .slice x.1 (List.length p.data) x.2]
 asn p x := ImmA x.1 x.2 p.data
 d := ⟨0, 0, 0, 0, false, []⟩
 len _ _ := rfl
 one _ _ := rfl
 dup _ _ := imm_dup _ _ _
instance rwOpS : Rw OpS where
 X := Unit
 k := 3
 cells p x := [.int .i64 p.kind, .int .i64 p.addr, .int .i64 p.value]
 asn p x := Asn.pure True
 d := ⟨0, 0, 0⟩
 len _ _ := rfl
 one _ _ := rfl
 dup _ _ _ _ _ h := h
instance rwEventS : Rw EventS where
 X := Unit
 k := 4
 cells p x := [.int .i64 p.node, .int .i64 p.index, .bool p.done_, .int .i64 p.value]
 asn p x := Asn.pure True
 d := ⟨0, 0, false, 0⟩
 len _ _ := rfl
 one _ _ := rfl
 dup _ _ _ _ _ h := h
instance rwChoiceS : Rw ChoiceS where
 X := Unit
 k := 4
 cells p x := [.int .i64 p.do_, .int .i64 p.at_, .int .i64 p.bit, .int .u16 p.mask]
 asn p x := Asn.pure True
 d := ⟨0, 0, 0, 0⟩
 len _ _ := rfl
 one _ _ := rfl
 dup _ _ _ _ _ h := h
instance rwAskS : Rw AskS where
 X := Unit
 k := 2
 cells p x := [.int .i64 p.who, .int .i64 p.id]
 asn p x := Asn.pure True
 d := ⟨0, 0⟩
 len _ _ := rfl
 one _ _ := rfl
 dup _ _ _ _ _ h := h
instance rwRowS : Rw RowS where
 X := Option Addr × Nat
 k := 3
 cells p x := [.int .i64 p.state, .int .i64 p.head, .slice x.1 (List.length p.data) x.2]
 asn p x := ImmA x.1 x.2 p.data
 d := ⟨0, 0, []⟩
 len _ _ := rfl
 one _ _ := rfl
 dup _ _ := imm_dup _ _ _
def cloneS (l : List Int) : Option (List Int) := chk (l.length ≤ 1099511627776) (some l)
set_option maxRecDepth 100000 in
set_option maxHeartbeats 4000000 in
theorem cloneF {l : List Int} {lA : Asn} (la : Option Addr) (lc : Nat) (hlA : Rdb lA la lc l) {y : List Int} (H : cloneS l = some y) : FnY Tryz.prog 39 [.slice la (List.length l) lc] ⟨[], [lA]⟩ (Z := Option Addr × Nat) (fun y (za0, zc0) => .slice za0 (List.length y) zc0) (fun y (za0, zc0) => ⟨[], [(ArrA za0 zc0 y), lA]⟩) y := by
 unfold cloneS at H
 obtain ⟨q1, H⟩ := chkE H
 obtain rfl := someE H
 refine xfY Tryz.func39 fun W0 F => ?_
 rcases la with _ | p
 · refine xk [] [0] (nil_of hlA) fun hl => ?_
   subst hl
   refine xg [] [] [] (gh_nil (α := Int) none) fun _ => ?_
   exact xrY rfl [1] [] [] [0,0] (none, 0)
 · refine xn [0] fun b => ?_
   refine xg [] [] [] (gh_nil (α := Int) (some ⟨b, 0, none⟩)) fun _ => ?_
   refine xa [] [0,0] (a := some ⟨b, 0, none⟩) (l := ([] : List Int)) (zs := l) (cap := 0) hlA rfl q1 fun ⟨a, c⟩ => ?_
   exact xrY rfl [] [] [] [0,0] (a, c)
def cloneES (l : List EventS) : Option (List EventS) := chk (l.length ≤ 1099511627776) (some l)
set_option maxRecDepth 100000 in
set_option maxHeartbeats 4000000 in
theorem cloneEF {l : List EventS} {lA : Asn} (la : Option Addr) (lc : Nat) (hlA : Rdb lA la lc l) {y : List EventS} (H : cloneES l = some y) : FnY Tryz.prog 73 [.slice la (List.length l) lc] ⟨[], [lA]⟩ (Z := Option Addr × Nat) (fun y (za0, zc0) => .slice za0 (List.length y) zc0) (fun y (za0, zc0) => ⟨[], [(ArrA za0 zc0 y), lA]⟩) y := by
 unfold cloneES at H
 obtain ⟨q1, H⟩ := chkE H
 obtain rfl := someE H
 refine xfY Tryz.func73 fun W0 F => ?_
 rcases la with _ | p
 · refine xk [] [0] (nil_of hlA) fun hl => ?_
   subst hl
   refine xg [] [] [] (gh_nil (α := EventS) none) fun _ => ?_
   exact xrY rfl [1] [] [] [0,0] (none, 0)
 · refine xn [0] fun b => ?_
   refine xg [] [] [] (gh_nil (α := EventS) (some ⟨b, 0, none⟩)) fun _ => ?_
   refine xa [] [0,0] (a := some ⟨b, 0, none⟩) (l := ([] : List EventS)) (zs := l) (cap := 0) hlA rfl q1 fun ⟨a, c⟩ => ?_
   exact xrY rfl [] [] [] [0,0] (a, c)
def cloneOS (l : List OpS) : Option (List OpS) := chk (l.length ≤ 1099511627776) (some l)
set_option maxRecDepth 100000 in
set_option maxHeartbeats 4000000 in
theorem cloneOF {l : List OpS} {lA : Asn} (la : Option Addr) (lc : Nat) (hlA : Rdb lA la lc l) {y : List OpS} (H : cloneOS l = some y) : FnY Tryz.prog 125 [.slice la (List.length l) lc] ⟨[], [lA]⟩ (Z := Option Addr × Nat) (fun y (za0, zc0) => .slice za0 (List.length y) zc0) (fun y (za0, zc0) => ⟨[], [(ArrA za0 zc0 y), lA]⟩) y := by
 unfold cloneOS at H
 obtain ⟨q1, H⟩ := chkE H
 obtain rfl := someE H
 refine xfY Tryz.func125 fun W0 F => ?_
 rcases la with _ | p
 · refine xk [] [0] (nil_of hlA) fun hl => ?_
   subst hl
   refine xg [] [] [] (gh_nil (α := OpS) none) fun _ => ?_
   exact xrY rfl [1] [] [] [0,0] (none, 0)
 · refine xn [0] fun b => ?_
   refine xg [] [] [] (gh_nil (α := OpS) (some ⟨b, 0, none⟩)) fun _ => ?_
   refine xa [] [0,0] (a := some ⟨b, 0, none⟩) (l := ([] : List OpS)) (zs := l) (cap := 0) hlA rfl q1 fun ⟨a, c⟩ => ?_
   exact xrY rfl [] [] [] [0,0] (a, c)
def cloneBS (l : List U8) : Option (List U8) := chk (l.length ≤ 1099511627776) (some l)
set_option maxRecDepth 100000 in
set_option maxHeartbeats 4000000 in
theorem cloneBF {l : List U8} {lA : Asn} (la : Option Addr) (lc : Nat) (hlA : Rdb lA la lc l) {y : List U8} (H : cloneBS l = some y) : FnY Tryz.prog 185 [.slice la (List.length l) lc] ⟨[], [lA]⟩ (Z := Option Addr × Nat) (fun y (za0, zc0) => .slice za0 (List.length y) zc0) (fun y (za0, zc0) => ⟨[], [(ArrA za0 zc0 y), lA]⟩) y := by
 unfold cloneBS at H
 obtain ⟨q1, H⟩ := chkE H
 obtain rfl := someE H
 refine xfY Tryz.func185 fun W0 F => ?_
 rcases la with _ | p
 · refine xk [] [0] (nil_of hlA) fun hl => ?_
   subst hl
   refine xg [] [] [] (gh_nil (α := U8) none) fun _ => ?_
   exact xrY rfl [1] [] [] [0,0] (none, 0)
 · refine xn [0] fun b => ?_
   refine xg [] [] [] (gh_nil (α := U8) (some ⟨b, 0, none⟩)) fun _ => ?_
   refine xa [] [0,0] (a := some ⟨b, 0, none⟩) (l := ([] : List U8)) (zs := l) (cap := 0) hlA rfl q1 fun ⟨a, c⟩ => ?_
   exact xrY rfl [] [] [] [0,0] (a, c)
end Go.Proofs.YtcidmgkfaioceaaGreat
namespace Go.Proofs.YtcidmgkfaioceaaGreat
open Go Go.RowKit
def semV (P : Program) : Sem Value → Option Value
  | .pure v => some v
  | .program k => semV P (k P)
  | .mark _ k => semV P k
  | _ => none
theorem semV_ok {P : Program} {v : Value} {w : World} : ∀ {s : Sem Value}, semV P s = some v → s.run P w = .ok v w := by
  intro s
  induction s with
  | pure a => intro h; obtain rfl := Option.some.inj h; rfl
  | program k ih => intro h; exact ih P h
  | mark m k ih => intro h; exact ih h
  | _ => intro h; cases h
def eqV (P : Program) (t : TypeId) : Value → Value → Option Bool
  | .int k a, .int k' b => match P.underlying t, decide (k = k') with
    | some (.int _), true => some (decide (a = b))
    | _, _ => none
  | .bool a, .bool b => match P.underlying t with
    | some .bool => some (a == b)
    | _ => none
  | _, _ => none
theorem eqV_ok {P : Program} {t : TypeId} {x y : Value} {b : Bool} {w : World} {d : Nat} (h : eqV P t x y = some b) : (Op.equalIn (d + 1) t x y).run P w = .ok b w := by
  unfold eqV at h
  split at h
  · split at h
    · rename_i hu hk
      obtain rfl := of_decide_eq_true hk
      obtain rfl := Option.some.inj h
      rw [run_equalIn_int w d t _ _ _ _ hu]
      congr 1
    · cases h
  · split at h
    · rename_i a b' _ hu
      obtain rfl := Option.some.inj h
      exact run_equalIn_bool' w d t a b' hu
    · cases h
  · cases h
def eqF (P : Program) (xs ys : Array Value) : List Field → Option Bool
  | [] => some true
  | f :: fs =>
    match decide (f.name ≠ "_"), semV P (part f.type xs f.offset), semV P (part f.type ys f.offset) with
    | true, some x, some y => match eqV P f.type x y, eqF P xs ys fs with
      | some a, some b => some (a && b)
      | _, _ => none
    | _, _, _ => none
theorem eqF_ok {P : Program} {xs ys : Array Value} {w : World} {d : Nat} : ∀ {fs : List Field} {b : Bool}, eqF P xs ys fs = some b → (Op.eqFields (d + 1) xs ys fs).run P w = .ok b w
  | [], b, h => by obtain rfl := Option.some.inj h; rfl
  | f :: fs, b, h => by
    unfold eqF at h
    split at h
    · rename_i x y hn hx hy
      split at h
      · rename_i a b' ha hb
        obtain rfl := Option.some.inj h
        have hn' := of_decide_eq_true hn
        unfold Op.eqFields
        rw [if_pos hn']
        refine run_seq (semV_ok hx) ?_
        refine run_seq (semV_ok hy) ?_
        refine run_seq (eqV_ok ha) ?_
        cases a with
        | true => simpa using eqF_ok hb
        | false => rfl
      · cases h
    · cases h
theorem ov_eq (P : Program) (t : TypeId) (x y : Operand) {xs ys : Array Value} {b : Bool} (hf : eqF P xs ys (P.fieldsOf t).toList = some b := by kernel_rfl) (hm : P.eqGuardType P.depth t = false := by kernel_rfl) (hp : P.stoodInHeld t = false := by kernel_rfl) (ht : P.underlying t = some (.struct (P.fieldsOf t)) := by kernel_rfl) :
    Ov P ((do eqGuard .eql t x y (.agg xs) (.agg ys); binOp .eql t (.agg xs) (.agg ys)) >>= fun v => pure (Next.value v)) (.bool b) := by
  intro w
  refine run_seq (run_seq (run_eqGuard_agg w .eql t x y xs ys hm) ?_) rfl
  rw [run_eql_struct, run_equalIn_agg w 9999 t xs ys ht hp, eqF_ok hf]; rfl
theorem ov_neq (P : Program) (t : TypeId) (x y : Operand) {xs ys : Array Value} {b : Bool} (hf : eqF P xs ys (P.fieldsOf t).toList = some b := by kernel_rfl) (hm : P.eqGuardType P.depth t = false := by kernel_rfl) (hp : P.stoodInHeld t = false := by kernel_rfl) (ht : P.underlying t = some (.struct (P.fieldsOf t)) := by kernel_rfl) :
    Ov P ((do eqGuard .neq t x y (.agg xs) (.agg ys); binOp .neq t (.agg xs) (.agg ys)) >>= fun v => pure (Next.value v)) (.bool (!b)) := by
  intro w
  refine run_seq (run_seq (run_eqGuard_agg w .neq t x y xs ys hm) ?_) rfl
  rw [run_neq_struct, run_equalIn_agg w 9999 t xs ys ht hp, eqF_ok hf]; rfl
end Go.Proofs.YtcidmgkfaioceaaGreat
namespace Go.Proofs.YtcidmgkfaioceaaGreat
open Go Go.RowKit
set_option linter.unusedVariables false
def withinS (v : Int) (n : Int) : Option (Int) :=
 (bif decide (n < (1 : Int)) then some (0 : Int) else chk (1 ≤ n) ((bif decide ((v.tmod n) < (0 : Int)) then chk (inR ((v.tmod n) + n)) (some ((v.tmod n) + n)) else some (v.tmod n))))
set_option maxRecDepth 100000 in
set_option maxHeartbeats 4000000 in
theorem within_fq {v : Int} {n : Int} {y : Int} (H : withinS v n = some y) : Fq Tryz.prog 8 [.int .i64 v, .int .i64 n] (.int .i64 y) := by
 unfold withinS at H
 refine Fn.quiet (xf Tryz.func8 fun W0 F => ?_)
 refine xs [] H ?_ ?_
 · intro H
   obtain rfl := someE H
   exact xr [1] [] [] [] ()
 · intro H
   refine chkG H fun q3_2_1 H => ?_
   refine xp [0] (ov_rem (a := v) (b := n) q3_2_1) ?_
   refine xs [] H ?_ ?_
   · intro H
     refine chkG H fun q5_2_1 H => ?_
     obtain rfl := someE H
     refine xd [1,0] (ap q5_2_1 an) ?_
     exact xr [] [] [] [] ()
   · intro H
     obtain rfl := someE H
     exact xr [0] [] [] [] ()
def copyS (l : List Int) : Option (List Int) :=
 chk ((l).length ≤ 1099511627776) (letP (l) fun l1_1 => some l1_1)
set_option maxRecDepth 100000 in
set_option maxHeartbeats 4000000 in
theorem copyF {l : List Int} {lA : Asn} (la : Option Addr) (lc : Nat) (hlA : Rdb lA la lc l) {y : List Int} (H : copyS l = some y) : FnY Tryz.prog 114 [.slice la (List.length l) lc] ⟨[], [lA]⟩ (Z := Option Addr × Nat) (fun y (za0, zc0) => .slice za0 (List.length y) zc0) (fun y (za0, zc0) => ⟨[], [(ArrA za0 zc0 y), lA]⟩) y := by
 unfold copyS at H
 refine xfY Tryz.func114 fun W0 F => ?_
 refine xg [] [] [] (gh_nil (α := Int) none) fun _ => ?_
 refine chkG H fun q1_1_1 H => ?_
 refine letG H fun l1_1 hl1_1 H => ?_
 refine xa [] [0,0] (a := none) (l := ([] : List Int)) (zs := l1_1) (cap := 0) hlA hl1_1 (hl1_1 ▸ q1_1_1) fun ⟨a1_1, c1_1⟩ => ?_
 exact xrY (someE H) [] [] [] [0,0] (a1_1, c1_1)
def sameS_j0 : Option (Bool) :=
 some true
def sameS_l1 (a : List Int) (b : List Int) (k0 : Option (Bool)) : Nat → Int → Option (Bool)
 | 0, _ => none
 | m + 1, v1_5 => (bif decide (v1_5 < (((List.length a) : Nat) : Int)) then chk (0 ≤ v1_5 ∧ v1_5 < ((a.length : Nat) : Int)) (chk (0 ≤ v1_5 ∧ v1_5 < ((b.length : Nat) : Int)) ((bif !(decide ((nth a v1_5) = (nth b v1_5))) then some false else chk (inR (v1_5 + (1 : Int))) ((sameS_l1 a b k0 m) (v1_5 + (1 : Int)))))) else k0)
def sameS (a : List Int) (b : List Int) : Option (Bool) :=
 (bif !(decide ((((List.length a) : Nat) : Int) = (((List.length b) : Nat) : Int))) then some false else sameS_l1 a b sameS_j0 (List.length a + 1) (0 : Int))
set_option maxRecDepth 100000 in
set_option maxHeartbeats 4000000 in
theorem sameF {a : List Int} {aA : Asn} {b : List Int} {bA : Asn} (aa : Option Addr) (ac : Nat) (ba : Option Addr) (bc : Nat) (haA : Rdb aA aa ac a) (hbA : Rdb bA ba bc b) {y : Bool} (H : sameS a b = some y) : FnY Tryz.prog 28 [.slice aa (List.length a) ac, .slice ba (List.length b) bc] ⟨[], [aA, bA]⟩ (Z := Unit) (fun y _ => .bool y) (fun y _ => ⟨[], [aA, bA]⟩) y := by
 unfold sameS at H
 refine xfY Tryz.func28 fun W0 F => ?_
 refine xs [] H ?_ ?_
 · intro H
   exact xrY (someE H) [1] [] [] [0,0] ()
 · intro H
   refine xj [0,100] (ι := Unit) (fun _ => ⟨[], [], [aA, bA]⟩) (fun _ => sameS_j0 = some y) ?_ ?_
   · rintro _ H
     replace H : sameS_j0 = some y := H
     rw [sameS_j0] at H
     exact xrY (someE H) [] [] [] [0,0] ()
   · intro N0 hN0
     refine xl [] (ι := Int) (fun v1_5 => ⟨[(0, .slice aa (List.length a) ac), (1, .slice ba (List.length b) bc), (5, .int .i64 v1_5)], [], [aA, bA]⟩) (fun m1 v1_5 => sameS_l1 a b (sameS_j0) m1 v1_5 = some y) [] [0,0] ((List.length a + 1)) ((0 : Int)) H ?_
     rintro N1 (_ | m1) v1_5 H hN1
     · exact (noneE H).elim
     replace H : sameS_l1 a b (sameS_j0) (m1 + 1) v1_5 = some y := H
     rw [sameS_l1] at H
     refine xs [] H ?_ ?_
     · intro H
       refine chkG H fun q6_2_1 H => ?_
       refine xi [1,0,1,2] 0 haA q6_2_1 fun b1 o1 e1 => ?_
       refine xpl [3] 0 (ol_ld haA e1 q6_2_1 0 (fun _ => rfl)) ?_
       refine chkG H fun q6_6_1 H => ?_
       refine xi [4,5,6] 1 hbA q6_6_1 fun b2 o2 e2 => ?_
       refine xpl [7] 1 (ol_ld hbA e2 q6_6_1 0 (fun _ => rfl)) ?_
       refine xs [8] H ?_ ?_
       · intro H
         exact xrY (someE H) [1] [] [] [0,0] ()
       · intro H
         refine chkG H fun q5_1_1 H => ?_
         refine xd [0,0] (ap q5_1_1 an) ?_
         exact xe [] _ [] [0,0] (hN1 _ (v1_5 + (1 : Int)) (Nat.lt_succ_self _) H)
     · intro H
       exact xe [0] _ [] [0,0] (hN0 () H)
def sameES_j0 : Option (Bool) :=
 some true
def sameES_l1 (a : List EventS) (b : List EventS) (k0 : Option (Bool)) : Nat → Int → Option (Bool)
 | 0, _ => none
 | m + 1, v1_5 => (bif decide (v1_5 < (((List.length a) : Nat) : Int)) then chk (0 ≤ v1_5 ∧ v1_5 < ((a.length : Nat) : Int)) (chk (0 ≤ v1_5 ∧ v1_5 < ((b.length : Nat) : Int)) ((bif !(decide (((nthT a v1_5).node) = ((nthT b v1_5).node)) && (decide (((nthT a v1_5).index) = ((nthT b v1_5).index)) && ((((nthT a v1_5).done_) == ((nthT b v1_5).done_)) && (decide (((nthT a v1_5).value) = ((nthT b v1_5).value)) && true)))) then some false else chk (inR (v1_5 + (1 : Int))) ((sameES_l1 a b k0 m) (v1_5 + (1 : Int)))))) else k0)
def sameES (a : List EventS) (b : List EventS) : Option (Bool) :=
 (bif !(decide ((((List.length a) : Nat) : Int) = (((List.length b) : Nat) : Int))) then some false else sameES_l1 a b sameES_j0 (List.length a + 1) (0 : Int))
set_option maxRecDepth 100000 in
set_option maxHeartbeats 4000000 in
theorem sameEF {a : List EventS} {aA : Asn} {b : List EventS} {bA : Asn} (aa : Option Addr) (ac : Nat) (ba : Option Addr) (bc : Nat) (haA : Rdb aA aa ac a) (hbA : Rdb bA ba bc b) {y : Bool} (H : sameES a b = some y) : FnY Tryz.prog 34 [.slice aa (List.length a) ac, .slice ba (List.length b) bc] ⟨[], [aA, bA]⟩ (Z := Unit) (fun y _ => .bool y) (fun y _ => ⟨[], [aA, bA]⟩) y := by
 unfold sameES at H
 refine xfY Tryz.func34 fun W0 F => ?_
 refine xs [] H ?_ ?_
 · intro H
   exact xrY (someE H) [1] [] [] [0,0] ()
 · intro H
   refine xj [0,100] (ι := Unit) (fun _ => ⟨[], [], [aA, bA]⟩) (fun _ => sameES_j0 = some y) ?_ ?_
   · rintro _ H
     replace H : sameES_j0 = some y := H
     rw [sameES_j0] at H
     exact xrY (someE H) [] [] [] [0,0] ()
   · intro N0 hN0
     refine xl [] (ι := Int) (fun v1_5 => ⟨[(0, .slice aa (List.length a) ac), (1, .slice ba (List.length b) bc), (5, .int .i64 v1_5)], [], [aA, bA]⟩) (fun m1 v1_5 => sameES_l1 a b (sameES_j0) m1 v1_5 = some y) [] [0,0] ((List.length a + 1)) ((0 : Int)) H ?_
     rintro N1 (_ | m1) v1_5 H hN1
     · exact (noneE H).elim
     replace H : sameES_l1 a b (sameES_j0) (m1 + 1) v1_5 = some y := H
     rw [sameES_l1] at H
     refine xs [] H ?_ ?_
     · intro H
       refine chkG H fun q6_2_1 H => ?_
       refine xi [1,0,1,2] 0 haA q6_2_1 fun b1 o1 e1 => ?_
       refine xpl [3] 0 (ol_ldN haA e1 q6_2_1 0 4 (fun _ => rfl)) ?_
       refine chkG H fun q6_6_1 H => ?_
       refine xi [4,5,6] 1 hbA q6_6_1 fun b2 o2 e2 => ?_
       refine xpl [7] 1 (ol_ldN hbA e2 q6_6_1 0 4 (fun _ => rfl)) ?_
       refine xp [8] (ov_neq Tryz.prog 95 (.tmp 20) (.tmp 24) (xs := #[.int .i64 ((nthT a v1_5).node), .int .i64 ((nthT a v1_5).index), .bool ((nthT a v1_5).done_), .int .i64 ((nthT a v1_5).value)]) (ys := #[.int .i64 ((nthT b v1_5).node), .int .i64 ((nthT b v1_5).index), .bool ((nthT b v1_5).done_), .int .i64 ((nthT b v1_5).value)]) (b := (decide (((nthT a v1_5).node) = ((nthT b v1_5).node)) && (decide (((nthT a v1_5).index) = ((nthT b v1_5).index)) && ((((nthT a v1_5).done_) == ((nthT b v1_5).done_)) && (decide (((nthT a v1_5).value) = ((nthT b v1_5).value)) && true)))))) ?_
       refine xs [] H ?_ ?_
       · intro H
         exact xrY (someE H) [1] [] [] [0,0] ()
       · intro H
         refine chkG H fun q5_1_1 H => ?_
         refine xd [0,0] (ap q5_1_1 an) ?_
         exact xe [] _ [] [0,0] (hN1 _ (v1_5 + (1 : Int)) (Nat.lt_succ_self _) H)
     · intro H
       exact xe [0] _ [] [0,0] (hN0 () H)
def cutS (l : List Int) (n : Int) : Option (List Int) :=
 letP (if n < (((List.length l) : Nat) : Int) then n else (((List.length l) : Nat) : Int)) fun u1_4 => chk (0 ≤ (0 : Int) ∧ (0 : Int) ≤ u1_4 ∧ u1_4 ≤ ((List.length l : Nat) : Int)) (letP ((l.drop ((0 : Int)).toNat).take ((u1_4).toNat - ((0 : Int)).toNat)) fun l1_5 => (copyS l1_5).bind fun y1_6 => some y1_6)
set_option maxRecDepth 100000 in
set_option maxHeartbeats 4000000 in
theorem cutF {l : List Int} {lA : Asn} {n : Int} (la : Option Addr) (lc : Nat) (hlA : Rdb lA la lc l) {y : List Int} (H : cutS l n = some y) : FnY Tryz.prog 68 [.slice la (List.length l) lc, .int .i64 n] ⟨[], [lA]⟩ (Z := Option Addr × Nat) (fun y (za0, zc0) => .slice za0 (List.length y) zc0) (fun y (za0, zc0) => ⟨[], [(ArrA za0 zc0 y), lA]⟩) y := by
 unfold cutS at H
 refine xfY Tryz.func68 fun W0 F => ?_
 refine letG H fun u1_4 hu1_4 H => ?_
 refine xw [307] 9 (congrArg (Value.int .i64) hu1_4) ?_
 refine chkG H fun q1_5_1 H => ?_
 refine letG H fun l1_5 hl1_5 H => ?_
 refine xsl [] 0 hlA (mx := ((lc : Nat) : Int)) q1_5_1 (.inl rfl) hl1_5 fun a1_5 rl1_5 => ?_
 refine bindG H fun y1_6 hy1_6 H => ?_
 refine xc [] [] [0] (copyF a1_5 ((((lc : Nat) : Int)).toNat - ((0 : Int)).toNat) rl1_5 hy1_6) fun ⟨t1_6_a0, t1_6_c0⟩ => ?_
 exact xrY (someE H) [] [] [] [0,0] (t1_6_a0, t1_6_c0)
end Go.Proofs.YtcidmgkfaioceaaGreat
namespace Go.Proofs.YtcidmgkfaioceaaGreat
open Go Go.RowKit
def cpI (xs ys : List Int) : List Int := ys.take xs.length ++ xs.drop ys.length
theorem cp_len {xs ys zs : List Int} (h : cpI xs ys = zs) : xs.length = zs.length := by rw [← h]; simp [cpI]; omega
section
variable {P : Program} {W0 w : World} {Γ : List Asn} {t t2 : TypeId}
theorem ints_nil : ∀ {xs : List Int}, ints xs = [] → xs = []
  | [], _ => rfl
  | _ :: _, h => by simp [ints] at h
theorem run_copy {E c1 c2 : Nat} {tr : TypeId} {a a2 : Option Addr} {xs ys zs : List Int} (info : TypeInfo) (ht : P.underlying t = some (.slice E)) (hi : P.info? E = some info) (hk : info.size = 1) (h0 : Sat W0 (IntsA a c1 xs :: Γ) w)
    (hr : ∀ j v, (ints ys).flatten[j]? = some v → ∃ p, a2 = some p ∧ w.cell? (p.add j) = some v) (hzs : cpI xs ys = zs) :
    ∃ w', (Builtin.copy_ #[t, t2] tr #[.slice a xs.length c1, .slice a2 ys.length c2]).run P w = .ok (.int .i64 ((min ys.length xs.length : Nat) : Int)) w' ∧ Sat W0 (IntsA a c1 zs :: Γ) w' := by
  subst hzs
  generalize hn : Nat.min ys.length xs.length = m
  have hm : m ≤ ys.length ∧ m ≤ xs.length := by rw [← hn]; exact ⟨Nat.min_le_left .., Nat.min_le_right ..⟩
  have hfl : (ints (ys.take m)).flatten.length = m * 1 := by rw [ints_flatten]; simp; omega
  have hf := run_firstCells (P := P) (w := w) (a := a2) (rows := ints (ys.take m)) 1 m c2 hfl (fun j v hj => hr j v (by
    rw [ints_flatten, List.getElem?_map] at hj ⊢
    rw [List.getElem?_take] at hj
    split at hj
    · exact hj
    · simp at hj))
  have hz : ys.take xs.length ++ xs.drop ys.length = ys.take m ++ xs.drop m := by
    rcases Nat.le_total ys.length xs.length with h | h
    · have : m = ys.length := by rw [← hn]; exact Nat.min_eq_left h
      rw [this, List.take_of_length_le h, List.take_of_length_le (Nat.le_refl _)]
    · have : m = xs.length := by rw [← hn]; exact Nat.min_eq_right h
      rw [this, List.drop_of_length_le h, List.drop_of_length_le (Nat.le_refl _)]
  unfold cpI
  rw [hz]
  have hrest := h0
  obtain ⟨S, I, ⟨S1, S2, h1, h2, h3, ⟨h4, h5⟩, h6⟩, d1, d2, d3, d4, d5⟩ := h0
  have hlast : (ints (ys.take m ++ xs.drop m)).length = xs.length := by simp; omega
  rcases h5 with ⟨e1, rfl⟩ | ⟨b, off, c, T, rfl, q2, q3, q4, q5, q6⟩
  · have : xs = [] := ints_nil e1
    subst this
    have hm0 : m = 0 := by simpa using hm.2
    subst hm0
    refine ⟨w, ?_, ?_⟩
    · simp only [List.take_zero, ints, List.map_nil, List.flatten_nil, Nat.zero_mul] at hf
      have hff : (Builtin.firstCells 1 0 (.slice a2 ys.length c2)).run P w = .ok #[] w := by
        cases a2 with
        | none => rfl
        | some p => rfl
      unfold Builtin.copy_
      simp [run_underlying ht, Builtin.lenOf, Go.sizeOf, typeInfo, hi, hk, hff, goInt]
      cases a <;> simp [storeCells]
    · simp only [List.take_zero, List.nil_append, List.drop_zero]
      exact hrest
  · have hlen : (ints xs).length = xs.length := ints_length xs
    rw [hlen] at q4
    have hsz : off + 0 + (ints (ys.take m)).flatten.length ≤ c.size := by rw [hfl]; simp at q5; omega
    obtain ⟨w', r1, r2, r3, r4, r5, r6, r7⟩ := run_storeCells (P := P) (off := off) (ints (ys.take m)).flatten 0 w c q3 hsz (ints_one _)
    have hne : ∀ d, d ≠ b → w'.heap[d]? = w.heap[d]? := r4
    have hnot : ∀ d, S2 d ∨ I d → d ≠ b := by
      rintro d hd rfl
      exact hd.elim (h3 d q2) (d1 d (h1 d q2))
    refine ⟨w', ?_, S, I, ⟨S1, S2, h1, h2, h3, ⟨ints_rows _, .inr ⟨b, off, _, T, rfl, q2, r2, by rw [hlast]; omega, ?_, ?_⟩⟩, h6.loc fun d hd => hne d (hnot d hd)⟩, d1, fun d hd => r3 ▸ d2 d hd, fun d hd => r3 ▸ d3 d hd, d4, ?_⟩
    · have hn' : min ys.length xs.length = m := hn
      unfold Builtin.copy_
      have hfe : Builtin.firstCells 1 m (.slice a2 ys.length c2) = Builtin.firstCells 1 m (.slice a2 m c2) := by cases a2 <;> rfl
      simp [run_underlying ht, Builtin.lenOf, Go.sizeOf, typeInfo, hi, hk, hn', hfe, hf, goInt, r1]
    · rw [putCells_size]; exact q5
    · intro j v hj
      rw [putCells_get _ _ _ _ (by omega)]
      rw [ints_flatten, List.getElem?_map, List.getElem?_append] at hj
      have hfl' : (ints (ys.take m)).flatten.length = m := by rw [hfl, Nat.mul_one]
      have htl : (ys.take m).length = m := by simp; omega
      by_cases hjm : j < m
      · rw [if_pos (by omega)] at hj
        rw [if_pos (by omega), show off + j - (off + 0) = j by omega, ints_flatten, List.getElem?_map]
        exact hj
      · rw [if_neg (by omega), htl, List.getElem?_drop, show m + (j - m) = j by omega] at hj
        rw [if_neg (by omega)]
        refine q6 j v ?_
        rw [ints_flatten, List.getElem?_map]; exact hj
    · exact ⟨r5.trans d5.os, r6.trans d5.tape, r7.trans d5.output, by rw [r3]; exact d5.size, fun d hd => (hne d (hnot d (.inr (d4 d hd)))).trans (d5.block d hd)⟩
theorem rows_ints : ∀ {l : List Int} {xs : List (Rw.X Int)}, xs.length = l.length → rowsOf l xs = ints l
  | [], [], _ => rfl
  | x :: l, y :: xs, h => by
    have := rows_ints (l := l) (xs := xs) (by simpa using h)
    show Rw.cells x y :: rowsOf l xs = _
    rw [this]; rfl
  | [], _ :: _, h => by simp at h
  | _ :: _, [], h => by simp at h
theorem oc_copy (t t2 E tr : TypeId) (P : Program) {a a2 : Option Addr} {cap cap2 : Nat} {xs ys zs : List Int} {B : Asn} (hB : Rdb B a2 cap2 ys) (hz : cpI xs ys = zs) (ht : P.underlying t = some (.slice E) := by kernel_rfl) (hi : (P.info? E).isSome = true := by kernel_rfl) (hk : (infoT P E).size = 1 := by kernel_rfl) :
    Oc P (Builtin.copy_ #[t, t2] tr #[.slice a xs.length cap, .slice a2 ys.length cap2] >>= fun v => pure (Next.value v)) ⟨[], [ArrA a cap xs, B]⟩ (fun _ : Unit => .int .i64 ((min ys.length xs.length : Nat) : Int)) (fun _ => ⟨[], [ArrA a cap zs, B]⟩) := by
  intro W0 Γ w hw
  obtain ⟨us, q1, g1⟩ := ArrA.split (show Sat W0 (ArrA a cap xs :: B :: Γ) w from hw)
  have g2 : Sat W0 (B :: RowsA 1 a cap (rowsOf xs us) :: KnA xs us :: Γ) w := g1.less (.take (.there (.there .here)) (.take .here (.take .here .refl)))
  obtain ⟨ys', q2, g3⟩ := g2.read hB
  rw [rows_ints q1] at g3
  have hrd : ∀ j v, (ints ys).flatten[j]? = some v → ∃ p, a2 = some p ∧ w.cell? (p.add j) = some v := by
    intro j v hj
    obtain ⟨S, I, ⟨S1, S2, p1, p2, p3, ⟨p4, p5, p6, p7⟩, p8⟩, r⟩ := g3
    rw [rows_ints q2] at p6
    rcases p6 with p6 | ⟨b, off, cc, T, fr, e1, e2, e3, e4⟩
    · rw [p6] at hj; simp at hj
    · exact ⟨_, e1, by rw [add_none, cell_of e3]; exact e4 j v hj⟩
  have g4 : Sat W0 (IntsA a cap xs :: B.and (LieA a2 ys ys') :: KnA xs us :: Γ) w := g3.less (.take (.there .here) (.take .here .refl))
  obtain ⟨w', r1, r2⟩ := run_copy (t := t) (t2 := t2) (E := E) (tr := tr) (c2 := cap2) (infoT P E) ht (some_getD hi) hk g4 hrd hz
  refine ⟨(), w', _, run_seq r1 rfl, .inl rfl, ?_⟩
  have r3 : Sat W0 (B :: IntsA a cap zs :: Γ) w' := by
    have r4 : Sat W0 (B.and (LieA a2 ys ys') :: IntsA a cap zs :: Γ) w' := r2.less (.take (.there .here) (.take .here (.drop .here .refl)))
    exact r4.unread
  have r5 : Sat W0 (RowsA (Rw.k Int) a cap (rowsOf zs (List.replicate zs.length ())) :: KnA zs (List.replicate zs.length ()) :: B :: Γ) w' := by
    rw [rows_ints (by simp)]
    have r6 : Sat W0 (IntsA a cap zs :: B :: Γ) w' := r3.less (.take (.there .here) (.take .here .refl))
    obtain ⟨S, I, ⟨S1, S2, p1, p2, p3, p4, p5⟩, r⟩ := r6
    exact ⟨S, I, ⟨S1, S2, p1, p2, p3, p4, fun _ => False, S2, fun _ h => h.elim, fun _ h => h, fun _ h _ => h, fun _ _ _ _ _ => trivial, p5⟩, r⟩
  exact ArrA.join (by simp) r5
end
end Go.Proofs.YtcidmgkfaioceaaGreat
namespace Go.Proofs.YtcidmgkfaioceaaGreat
open Go Go.RowKit
set_option linter.unusedVariables false
def prestS (line : Int) (by_ : Int) : Option (Int) :=
 (bif decide (line < (0 : Int)) then some ((-1) : Int) else chk (1 ≤ by_) (some (line.tmod by_)))
set_option maxRecDepth 100000 in
set_option maxHeartbeats 4000000 in
theorem prest_fq {line : Int} {by_ : Int} {y : Int} (H : prestS line by_ = some y) : Fq Tryz.prog 129 [.int .i64 line, .int .i64 by_] (.int .i64 y) := by
 unfold prestS at H
 refine Fn.quiet (xf Tryz.func129 fun W0 F => ?_)
 refine xs [] H ?_ ?_
 · intro H
   obtain rfl := someE H
   exact xr [1] [] [] [] ()
 · intro H
   refine chkG H fun q3_2_1 H => ?_
   refine xp [0] (ov_rem (a := line) (b := by_) q3_2_1) ?_
   obtain rfl := someE H
   exact xr [] [] [] [] ()
def pwithinS (n : Int) (most : Int) : Option (Bool) :=
 (bif decide ((1 : Int) ≤ n) then some (decide (n ≤ most)) else some false)
set_option maxRecDepth 100000 in
set_option maxHeartbeats 4000000 in
theorem pwithin_fq {n : Int} {most : Int} {y : Bool} (H : pwithinS n most = some y) : Fq Tryz.prog 76 [.int .i64 n, .int .i64 most] (.bool y) := by
 unfold pwithinS at H
 refine Fn.quiet (xf Tryz.func76 fun W0 F => ?_)
 refine xs [] H ?_ ?_
 · intro H
   obtain rfl := someE H
   exact xr [1,1,1,1] [] [] [] ()
 · intro H
   obtain rfl := someE H
   exact xr [0,0,0,0] [] [] [] ()
def phomeS (c : CfgS) (line : Int) : Option (Int) :=
 (prestS line c.nodes).bind fun y1_3 => some y1_3
set_option maxRecDepth 100000 in
set_option maxHeartbeats 4000000 in
theorem phomeF {c : CfgS} {line : Int} (c0a : Option Addr) (c0c : Nat) {y : Int} (H : phomeS c line = some y) : FnY Tryz.prog 89 [.agg #[.int .i64 c.nodes, .int .i64 c.lines, .int .i64 c.words, .int .i64 c.sets, .int .i64 c.ways, .int .i64 c.out, .int .i64 c.inn, .slice c0a (List.length c.init) c0c], .int .i64 line] ⟨[], []⟩ (Z := Unit) (fun y _ => .int .i64 y) (fun y _ => ⟨[], []⟩) y := by
 unfold phomeS at H
 refine xfY Tryz.func89 fun W0 F => ?_
 refine xn [] fun b0_0 => ?_
 refine bindG H fun y1_3 hy1_3 H => ?_
 refine xq [0] (prest_fq hy1_3) ?_
 exact xrY (someE H) [] [] [] [] ()
def paddrsS (c : CfgS) : Option (Int) :=
 some (wr (c.lines * c.words))
set_option maxRecDepth 100000 in
set_option maxHeartbeats 4000000 in
theorem paddrsF {c : CfgS} (c0a : Option Addr) (c0c : Nat) {y : Int} (H : paddrsS c = some y) : FnY Tryz.prog 101 [.agg #[.int .i64 c.nodes, .int .i64 c.lines, .int .i64 c.words, .int .i64 c.sets, .int .i64 c.ways, .int .i64 c.out, .int .i64 c.inn, .slice c0a (List.length c.init) c0c]] ⟨[], []⟩ (Z := Unit) (fun y _ => .int .i64 y) (fun y _ => ⟨[], []⟩) y := by
 unfold paddrsS at H
 refine xfY Tryz.func101 fun W0 F => ?_
 refine xn [] fun b0_0 => ?_
 exact xrY (someE H) [0,0,1] [] [] [] ()
def plineS_j0 (c : CfgS) (addr : Int) (e0_13 : Bool) : Option (Int × Int) :=
 (bif e0_13 then some (((-1) : Int), (0 : Int)) else chk (1 ≤ c.words) (chk (1 ≤ c.words) (some (wr (addr.tdiv c.words), addr.tmod c.words))))
def plineS (c : CfgS) (addr : Int) : Option (Int × Int) :=
 (bif decide (addr < (0 : Int)) then (plineS_j0 c addr) true else (paddrsS c).bind fun y1_5 => (plineS_j0 c addr) (decide (y1_5 ≤ addr)))
set_option maxRecDepth 100000 in
set_option maxHeartbeats 4000000 in
theorem plineF {c : CfgS} {addr : Int} (c0a : Option Addr) (c0c : Nat) {y : Int × Int} (H : plineS c addr = some y) : FnY Tryz.prog 124 [.agg #[.int .i64 c.nodes, .int .i64 c.lines, .int .i64 c.words, .int .i64 c.sets, .int .i64 c.ways, .int .i64 c.out, .int .i64 c.inn, .slice c0a (List.length c.init) c0c], .int .i64 addr] ⟨[], []⟩ (Z := Unit) (fun y _ => .tuple #[.int .i64 y.1, .int .i64 y.2]) (fun y _ => ⟨[], []⟩) y := by
 unfold plineS at H
 refine xfY Tryz.func124 fun W0 F => ?_
 refine xn [] fun b0_0 => ?_
 refine xj [101] (ι := Bool) (fun e0_13 => ⟨[(1, .int .i64 addr), (2, .pointer (some ⟨b0_0, 0, none⟩)), (13, .bool e0_13)], [⟨b0_0, #[.int .i64 c.nodes, .int .i64 c.lines, .int .i64 c.words, .int .i64 c.sets, .int .i64 c.ways, .int .i64 c.out, .int .i64 c.inn, .slice c0a (List.length c.init) c0c], 25⟩], []⟩) (fun e0_13 => plineS_j0 c addr e0_13 = some y) ?_ ?_
 · rintro e0_13 H
   replace H : plineS_j0 c addr e0_13 = some y := H
   rw [plineS_j0] at H
   refine xs [] H ?_ ?_
   · intro H
     exact xrY (someE H) [1] [] [] [] ()
   · intro H
     refine chkG H fun q3_3_1 H => ?_
     refine xp [0,0,1,2,0,3] (ov_quo (a := addr) (b := c.words) q3_3_1) ?_
     refine chkG H fun q3_7_1 H => ?_
     refine xp [4,5,6,0,7] (ov_rem (a := addr) (b := c.words) q3_7_1) ?_
     exact xrY (someE H) [8,9] [] [] [] ()
 · intro N0 hN0
   refine xs [] H ?_ ?_
   · intro H
     exact xe [0,0,0,0,1] _ [0] [] (hN0 (true) H)
   · intro H
     refine bindG H fun y1_5 hy1_5 H => ?_
     refine xc [1,1,0,1] [] [] (paddrsF c0a c0c hy1_5) fun _ => ?_
     exact xe [1,0] _ [0] [] (hN0 (decide (y1_5 ≤ addr)) H)
def pwordsS_j0 (c : CfgS) (line : Int) (e0_14 : Bool) : Option (List Int) :=
 (bif e0_14 then some ([] : List Int) else chk (0 ≤ c.words ∧ c.words ≤ 1099511627776) (letP (List.replicate (c.words).toNat ((0 : Int) : Int)) fun l3_2 => letP (if (((List.length c.init) : Nat) : Int) < (wr (line * c.words)) then (((List.length c.init) : Nat) : Int) else (wr (line * c.words))) fun u4_7 => chk (0 ≤ u4_7 ∧ u4_7 ≤ (((List.length c.init) : Nat) : Int) ∧ (((List.length c.init) : Nat) : Int) ≤ ((List.length c.init : Nat) : Int)) (letP ((c.init.drop (u4_7).toNat).take (((((List.length c.init) : Nat) : Int)).toNat - (u4_7).toNat)) fun l5_4 => letP (cpI l3_2 l5_4) fun l5_5 => some l5_5)))
def pwordsS (c : CfgS) (line : Int) : Option (List Int) :=
 (bif decide (line < (0 : Int)) then (pwordsS_j0 c line) true else (pwordsS_j0 c line) (decide (c.lines ≤ line)))
set_option maxRecDepth 100000 in
set_option maxHeartbeats 4000000 in
theorem pwordsF {c : CfgS} {c0A : Asn} {line : Int} (c0a : Option Addr) (c0c : Nat) (hc0A : Rdb c0A c0a c0c c.init) {y : List Int} (H : pwordsS c line = some y) : FnY Tryz.prog 160 [.agg #[.int .i64 c.nodes, .int .i64 c.lines, .int .i64 c.words, .int .i64 c.sets, .int .i64 c.ways, .int .i64 c.out, .int .i64 c.inn, .slice c0a (List.length c.init) c0c], .int .i64 line] ⟨[], [c0A]⟩ (Z := Option Addr × Nat) (fun y (za0, zc0) => .slice za0 (List.length y) zc0) (fun y (za0, zc0) => ⟨[], [(ArrA za0 zc0 y), c0A]⟩) y := by
 unfold pwordsS at H
 refine xfY Tryz.func160 fun W0 F => ?_
 refine xn [] fun b0_0 => ?_
 refine xj [101] (ι := Bool) (fun e0_14 => ⟨[(1, .int .i64 line), (2, .pointer (some ⟨b0_0, 0, none⟩)), (14, .bool e0_14)], [⟨b0_0, #[.int .i64 c.nodes, .int .i64 c.lines, .int .i64 c.words, .int .i64 c.sets, .int .i64 c.ways, .int .i64 c.out, .int .i64 c.inn, .slice c0a (List.length c.init) c0c], 25⟩], [c0A]⟩) (fun e0_14 => pwordsS_j0 c line e0_14 = some y) ?_ ?_
 · rintro e0_14 H
   replace H : pwordsS_j0 c line e0_14 = some y := H
   rw [pwordsS_j0] at H
   refine xs [] H ?_ ?_
   · intro H
     refine xg [1] [] [] (gh_nil (α := Int) none) fun _ => ?_
     exact xrY (someE H) [] [] [] [0,0] (none, 0)
   · intro H
     refine chkG H fun q3_2_1 H => ?_
     refine letG H fun l3_2 hl3_2 H => ?_
     refine xmk (α := Int) [0,0] () q3_2_1 hl3_2 (fun _ _ => trivial) fun b3_2 => ?_
     refine letG H fun u4_7 hu4_7 H => ?_
     refine xw [0,1,0,302] 25 (congrArg (Value.int .i64) hu4_7) ?_
     refine chkG H fun q5_4_1 H => ?_
     refine letG H fun l5_4 hl5_4 H => ?_
     refine xsl [0] 1 hc0A (mx := ((c0c : Nat) : Int)) q5_4_1 (.inl rfl) hl5_4 fun a5_4 rl5_4 => ?_
     refine letG H fun l5_5 hl5_5 H => ?_
     refine xo [] [] [0,0] (oc_copy (a := some ⟨b3_2, 0, none⟩) (cap := (c.words).toNat) 22 22 3 22 Tryz.prog rl5_4 hl5_5) fun _ => ?_
     refine xw [300] 5 (congrArg (fun n : Nat => (.slice (some ⟨b3_2, 0, none⟩) n ((c.words).toNat) : Value)) (cp_len hl5_5)) ?_
     refine xw [300] 26 (congrArg (fun n : Nat => (.slice (some ⟨b3_2, 0, none⟩) n ((c.words).toNat) : Value)) (cp_len hl5_5)) ?_
     exact xrY (someE H) [] [] [] [0,0] ((some ⟨b3_2, 0, none⟩), (c.words).toNat)
 · intro N0 hN0
   refine xs [] H ?_ ?_
   · intro H
     exact xe [0,0,0,0,1] _ [0] [0] (hN0 (true) H)
   · intro H
     exact xe [1,1,1,0,1,0] _ [0] [0] (hN0 (decide (c.lines ≤ line)) H)
def pcheckS_j2 (e0_3 : Bool) (e1_4 : Bool) (c : CfgS) (e2_5 : Bool) : Option (Int) :=
 (bif !e0_3 then some (1 : Int) else (bif !e1_4 then some (1 : Int) else (bif !e2_5 then some (1 : Int) else (bif decide ((wr (c.lines * c.words)) < (((List.length c.init) : Nat) : Int)) then some (1 : Int) else some (0 : Int)))))
def pcheckS_j1 (c : CfgS) (e0_3 : Bool) (e1_4 : Bool) : Option (Int) :=
 (pwithinS c.out (8 : Int)).bind fun y3_2 => (bif y3_2 then (pwithinS c.inn (8 : Int)).bind fun y3_6 => (pcheckS_j2 e0_3 e1_4 c) y3_6 else (pcheckS_j2 e0_3 e1_4 c) false)
def pcheckS_j0 (c : CfgS) (e0_3 : Bool) : Option (Int) :=
 (pwithinS c.sets (4 : Int)).bind fun y2_2 => (bif y2_2 then (pwithinS c.ways (3 : Int)).bind fun y2_6 => (pcheckS_j1 c e0_3) y2_6 else (pcheckS_j1 c e0_3) false)
def pcheckS (c : CfgS) : Option (Int) :=
 (pwithinS c.nodes (6 : Int)).bind fun y1_2 => (bif y1_2 then (pwithinS c.lines (8 : Int)).bind fun y1_6 => (bif y1_6 then (pwithinS c.words (4 : Int)).bind fun y1_11 => (pcheckS_j0 c) y1_11 else (pcheckS_j0 c) false) else (pcheckS_j0 c) false)
set_option maxRecDepth 100000 in
set_option maxHeartbeats 4000000 in
theorem pcheckF {c : CfgS} (c0a : Option Addr) (c0c : Nat) {y : Int} (H : pcheckS c = some y) : FnY Tryz.prog 37 [.agg #[.int .i64 c.nodes, .int .i64 c.lines, .int .i64 c.words, .int .i64 c.sets, .int .i64 c.ways, .int .i64 c.out, .int .i64 c.inn, .slice c0a (List.length c.init) c0c]] ⟨[], []⟩ (Z := Unit) (fun y _ => .int .i64 y) (fun y _ => ⟨[], []⟩) y := by
 unfold pcheckS at H
 refine xfY Tryz.func37 fun W0 F => ?_
 refine xn [] fun b0_0 => ?_
 refine xj [100] (ι := Bool) (fun e0_3 => ⟨[(1, .pointer (some ⟨b0_0, 0, none⟩)), (3, .bool e0_3)], [⟨b0_0, #[.int .i64 c.nodes, .int .i64 c.lines, .int .i64 c.words, .int .i64 c.sets, .int .i64 c.ways, .int .i64 c.out, .int .i64 c.inn, .slice c0a (List.length c.init) c0c], 25⟩], []⟩) (fun e0_3 => pcheckS_j0 c e0_3 = some y) ?_ ?_
 · rintro e0_3 H
   replace H : pcheckS_j0 c e0_3 = some y := H
   rw [pcheckS_j0] at H
   refine xj [100] (ι := Bool) (fun e1_4 => ⟨[(1, .pointer (some ⟨b0_0, 0, none⟩)), (3, .bool e0_3), (4, .bool e1_4)], [⟨b0_0, #[.int .i64 c.nodes, .int .i64 c.lines, .int .i64 c.words, .int .i64 c.sets, .int .i64 c.ways, .int .i64 c.out, .int .i64 c.inn, .slice c0a (List.length c.init) c0c], 25⟩], []⟩) (fun e1_4 => pcheckS_j1 c e0_3 e1_4 = some y) ?_ ?_
   · rintro e1_4 H
     replace H : pcheckS_j1 c e0_3 e1_4 = some y := H
     rw [pcheckS_j1] at H
     refine xj [100] (ι := Bool) (fun e2_5 => ⟨[(1, .pointer (some ⟨b0_0, 0, none⟩)), (3, .bool e0_3), (4, .bool e1_4), (5, .bool e2_5)], [⟨b0_0, #[.int .i64 c.nodes, .int .i64 c.lines, .int .i64 c.words, .int .i64 c.sets, .int .i64 c.ways, .int .i64 c.out, .int .i64 c.inn, .slice c0a (List.length c.init) c0c], 25⟩], []⟩) (fun e2_5 => pcheckS_j2 e0_3 e1_4 c e2_5 = some y) ?_ ?_
     · rintro e2_5 H
       replace H : pcheckS_j2 e0_3 e1_4 c e2_5 = some y := H
       rw [pcheckS_j2] at H
       refine xs [] H ?_ ?_
       · intro H
         exact xrY (someE H) [0,0,1,0,0,1,0,0,0,0,0,0,0,0,0,1,1] [] [] [] ()
       · intro H
         refine xs [1,1,0] H ?_ ?_
         · intro H
           exact xrY (someE H) [0,0,1,0,0,0,0,0,0,0,0,0,1,1] [] [] [] ()
         · intro H
           refine xs [1,1,0] H ?_ ?_
           · intro H
             exact xrY (someE H) [0,0,0,0,0,0,0,0,0,1,1] [] [] [] ()
           · intro H
             refine xs [1,1,0,1,1,1,0,1,1,0,1,1,1,0] H ?_ ?_
             · intro H
               exact xrY (someE H) [1] [] [] [] ()
             · intro H
               exact xrY (someE H) [0] [] [] [] ()
     · intro N2 hN2
       refine bindG H fun y3_2 hy3_2 H => ?_
       refine xq [0] (pwithin_fq hy3_2) ?_
       refine xs [] H ?_ ?_
       · intro H
         refine bindG H fun y3_6 hy3_6 H => ?_
         refine xq [1,1,0,1] (pwithin_fq hy3_6) ?_
         exact xe [1] _ [0] [] (hN2 (y3_6) H)
       · intro H
         exact xe [0,0,0,0] _ [0] [] (hN2 (false) H)
   · intro N1 hN1
     refine bindG H fun y2_2 hy2_2 H => ?_
     refine xq [0] (pwithin_fq hy2_2) ?_
     refine xs [] H ?_ ?_
     · intro H
       refine bindG H fun y2_6 hy2_6 H => ?_
       refine xq [1,1,0,1] (pwithin_fq hy2_6) ?_
       exact xe [1] _ [0] [] (hN1 (y2_6) H)
     · intro H
       exact xe [0,0,0,0] _ [0] [] (hN1 (false) H)
 · intro N0 hN0
   refine bindG H fun y1_2 hy1_2 H => ?_
   refine xq [0] (pwithin_fq hy1_2) ?_
   refine xs [] H ?_ ?_
   · intro H
     refine bindG H fun y1_6 hy1_6 H => ?_
     refine xq [1,1,0,1] (pwithin_fq hy1_6) ?_
     refine xs [1] H ?_ ?_
     · intro H
       refine bindG H fun y1_11 hy1_11 H => ?_
       refine xq [1,1,0,1] (pwithin_fq hy1_11) ?_
       exact xe [1] _ [0] [] (hN0 (y1_11) H)
     · intro H
       exact xe [0,0,0,0] _ [0] [] (hN0 (false) H)
   · intro H
     exact xe [0,0,0,0,0,0,0,0] _ [0] [] (hN0 (false) H)
def prightS (c : CfgS) (op : OpS) : Option (Bool) :=
 (plineS c op.addr).bind fun y1_3 => (bif decide ((1 : Int) ≤ op.kind) then (bif decide (op.kind ≤ (4 : Int)) then (bif !(decide (y1_3.1 = ((-1) : Int))) then (bif decide (op.value = (0 : Int)) then some true else (bif decide (op.kind = (2 : Int)) then some true else some (decide (op.kind = (3 : Int))))) else some false) else some false) else some false)
set_option maxRecDepth 100000 in
set_option maxHeartbeats 4000000 in
theorem prightF {c : CfgS} {op : OpS} (c0a : Option Addr) (c0c : Nat) {y : Bool} (H : prightS c op = some y) : FnY Tryz.prog 81 [.agg #[.int .i64 c.nodes, .int .i64 c.lines, .int .i64 c.words, .int .i64 c.sets, .int .i64 c.ways, .int .i64 c.out, .int .i64 c.inn, .slice c0a (List.length c.init) c0c], .agg #[.int .i64 op.kind, .int .i64 op.addr, .int .i64 op.value]] ⟨[], []⟩ (Z := Unit) (fun y _ => .bool y) (fun y _ => ⟨[], []⟩) y := by
 unfold prightS at H
 refine xfY Tryz.func81 fun W0 F => ?_
 refine xn [] fun b0_0 => ?_
 refine xn [] fun b0_1 => ?_
 refine bindG H fun y1_3 hy1_3 H => ?_
 refine xc [1,0] [] [] (plineF c0a c0c hy1_3) fun _ => ?_
 refine xs [0] H ?_ ?_
 · intro H
   refine xs [1,1,0,1,1] H ?_ ?_
   · intro H
     refine xs [1,1,1] H ?_ ?_
     · intro H
       refine xs [1,1,0,1,1] H ?_ ?_
       · intro H
         exact xrY (someE H) [0,0,0,1,1,1,0,0,0,1,1,1] [] [] [] ()
       · intro H
         refine xs [1,1,0,1,1,0,1] H ?_ ?_
         · intro H
           exact xrY (someE H) [0,0,0,1,1,1] [] [] [] ()
         · intro H
           exact xrY (someE H) [1,1,0,1,1,0,1] [] [] [] ()
     · intro H
       exact xrY (someE H) [0,0,0,0,0,0,0,0,0,0,0,0,0,0] [] [] [] ()
   · intro H
     exact xrY (someE H) [0,0,0,0,0,0,0,0,0,0,0,0,0,0,0,0,0] [] [] [] ()
 · intro H
   exact xrY (someE H) [0,0,0,0,0,0,0,0,0,0,0,0,0,0,0,0,0,0,0,0,0] [] [] [] ()
end Go.Proofs.YtcidmgkfaioceaaGreat
namespace Go.Proofs.YtcidmgkfaioceaaGreat
open Go Go.RowKit
set_option linter.unusedVariables false
def eheadS (l : LinkS) : Option (Bool) :=
 some (decide (l.back = ((-1) : Int)))
set_option maxRecDepth 100000 in
set_option maxHeartbeats 4000000 in
theorem eheadF {l : LinkS} {y : Bool} (H : eheadS l = some y) : FnY Tryz.prog 239 [.agg #[.int .i64 l.fwd, .int .i64 l.back]] ⟨[], []⟩ (Z := Unit) (fun y _ => .bool y) (fun y _ => ⟨[], []⟩) y := by
 unfold eheadS at H
 refine xfY Tryz.func239 fun W0 F => ?_
 refine xn [] fun b0_0 => ?_
 exact xrY (someE H) [0] [] [] [] ()
def etailS (l : LinkS) : Option (Bool) :=
 some (decide (l.fwd = ((-1) : Int)))
set_option maxRecDepth 100000 in
set_option maxHeartbeats 4000000 in
theorem etailF {l : LinkS} {y : Bool} (H : etailS l = some y) : FnY Tryz.prog 244 [.agg #[.int .i64 l.fwd, .int .i64 l.back]] ⟨[], []⟩ (Z := Unit) (fun y _ => .bool y) (fun y _ => ⟨[], []⟩) y := by
 unfold etailS at H
 refine xfY Tryz.func244 fun W0 F => ?_
 refine xn [] fun b0_0 => ?_
 exact xrY (someE H) [0] [] [] [] ()
def eonlyS (l : LinkS) : Option (Bool) :=
 (eheadS l).bind fun y1_1 => (bif y1_1 then (etailS l).bind fun y1_4 => some y1_4 else some false)
set_option maxRecDepth 100000 in
set_option maxHeartbeats 4000000 in
theorem eonlyF {l : LinkS} {y : Bool} (H : eonlyS l = some y) : FnY Tryz.prog 238 [.agg #[.int .i64 l.fwd, .int .i64 l.back]] ⟨[], []⟩ (Z := Unit) (fun y _ => .bool y) (fun y _ => ⟨[], []⟩) y := by
 unfold eonlyS at H
 refine xfY Tryz.func238 fun W0 F => ?_
 refine xn [] fun b0_0 => ?_
 refine bindG H fun y1_1 hy1_1 H => ?_
 refine xc [0] [] [] (eheadF hy1_1) fun _ => ?_
 refine xs [] H ?_ ?_
 · intro H
   refine bindG H fun y1_4 hy1_4 H => ?_
   refine xc [1,0,1] [] [] (etailF hy1_4) fun _ => ?_
   exact xrY (someE H) [1] [] [] [] ()
 · intro H
   exact xrY (someE H) [0,0,0] [] [] [] ()
def eisS (e : Ent) (at_ : Int) : Option (Bool) :=
 (bif decide ((0 : Int) ≤ at_) then some (decide (at_ < (((List.length e.data) : Nat) : Int))) else some false)
set_option maxRecDepth 100000 in
set_option maxHeartbeats 4000000 in
theorem eisF {e : Ent} {at_ : Int} (e0a : Option Addr) (e0c : Nat) {y : Bool} (H : eisS e at_ = some y) : FnY Tryz.prog 55 [.agg #[.int .i64 e.fwd, .int .i64 e.back, .int .i64 e.line, .int .i64 e.used, .bool e.dirty, .slice e0a (List.length e.data) e0c], .int .i64 at_] ⟨[], []⟩ (Z := Unit) (fun y _ => .bool y) (fun y _ => ⟨[], []⟩) y := by
 unfold eisS at H
 refine xfY Tryz.func55 fun W0 F => ?_
 refine xn [] fun b0_0 => ?_
 refine xs [] H ?_ ?_
 · intro H
   exact xrY (someE H) [1,1,1,0,1,1,1] [] [] [] ()
 · intro H
   exact xrY (someE H) [0,0,0,0,0,0] [] [] [] ()
def ewordS (e : Ent) (at_ : Int) : Option (Int) :=
 (eisS e at_).bind fun y1_2 => (bif !y1_2 then some (0 : Int) else chk (0 ≤ at_ ∧ at_ < ((e.data.length : Nat) : Int)) (some (nth e.data at_)))
set_option maxRecDepth 100000 in
set_option maxHeartbeats 4000000 in
theorem ewordF {e : Ent} {e0A : Asn} {at_ : Int} (e0a : Option Addr) (e0c : Nat) (he0A : Rdb e0A e0a e0c e.data) {y : Int} (H : ewordS e at_ = some y) : FnY Tryz.prog 16 [.agg #[.int .i64 e.fwd, .int .i64 e.back, .int .i64 e.line, .int .i64 e.used, .bool e.dirty, .slice e0a (List.length e.data) e0c], .int .i64 at_] ⟨[], [e0A]⟩ (Z := Unit) (fun y _ => .int .i64 y) (fun y _ => ⟨[], [e0A]⟩) y := by
 unfold ewordS at H
 refine xfY Tryz.func16 fun W0 F => ?_
 refine xn [] fun b0_0 => ?_
 refine bindG H fun y1_2 hy1_2 H => ?_
 refine xc [0] [] [] (eisF e0a e0c hy1_2) fun _ => ?_
 refine xs [] H ?_ ?_
 · intro H
   exact xrY (someE H) [1] [] [] [0] ()
 · intro H
   refine chkG H fun q3_3_1 H => ?_
   refine xi [0,0] 0 he0A q3_3_1 fun b1 o1 e1 => ?_
   refine xpl [] 0 (ol_ld he0A e1 q3_3_1 0 (fun _ => rfl)) ?_
   exact xrY (someE H) [] [] [] [0] ()
def ecloneS (e : Ent) : Option (Ent) :=
 (cloneS e.data).bind fun y1_2 => some (⟨e.fwd, e.back, e.line, e.used, e.dirty, y1_2⟩ : Ent)
set_option maxRecDepth 100000 in
set_option maxHeartbeats 4000000 in
theorem ecloneF {e : Ent} {e0A : Asn} (e0a : Option Addr) (e0c : Nat) (he0A : Rdb e0A e0a e0c e.data) {y : Ent} (H : ecloneS e = some y) : FnY Tryz.prog 54 [.agg #[.int .i64 e.fwd, .int .i64 e.back, .int .i64 e.line, .int .i64 e.used, .bool e.dirty, .slice e0a (List.length e.data) e0c]] ⟨[], [e0A]⟩ (Z := Option Addr × Nat) (fun y (za0, zc0) => .agg #[.int .i64 y.fwd, .int .i64 y.back, .int .i64 y.line, .int .i64 y.used, .bool y.dirty, .slice za0 (List.length y.data) zc0]) (fun y (za0, zc0) => ⟨[], [(ArrA za0 zc0 y.data), e0A]⟩) y := by
 unfold ecloneS at H
 refine xfY Tryz.func54 fun W0 F => ?_
 refine xn [] fun b0_0 => ?_
 refine xn [] fun b0_1 => ?_
 refine bindG H fun y1_2 hy1_2 H => ?_
 refine xc [1] [] [0] (cloneF e0a e0c he0A hy1_2) fun ⟨t1_2_a0, t1_2_c0⟩ => ?_
 exact xrY (someE H) [1,1,0] [0] [] [0,0] (t1_2_a0, t1_2_c0)
def enewS (line : Int) (fwd : Int) (back : Int) (dirty : Bool) (data : List Int) : Option (Ent) :=
 (cloneS data).bind fun y1_6 => some (⟨fwd, back, line, (0 : Int), dirty, y1_6⟩ : Ent)
set_option maxRecDepth 100000 in
set_option maxHeartbeats 4000000 in
theorem enewF {line : Int} {fwd : Int} {back : Int} {dirty : Bool} {data : List Int} {dataA : Asn} (dataa : Option Addr) (datac : Nat) (hdataA : Rdb dataA dataa datac data) {y : Ent} (H : enewS line fwd back dirty data = some y) : FnY Tryz.prog 237 [.int .i64 line, .int .i64 fwd, .int .i64 back, .bool dirty, .slice dataa (List.length data) datac] ⟨[], [dataA]⟩ (Z := Option Addr × Nat) (fun y (za0, zc0) => .agg #[.int .i64 y.fwd, .int .i64 y.back, .int .i64 y.line, .int .i64 y.used, .bool y.dirty, .slice za0 (List.length y.data) zc0]) (fun y (za0, zc0) => ⟨[], [(ArrA za0 zc0 y.data), dataA]⟩) y := by
 unfold enewS at H
 refine xfY Tryz.func237 fun W0 F => ?_
 refine xn [] fun b0_0 => ?_
 refine bindG H fun y1_6 hy1_6 H => ?_
 refine xc [] [] [0] (cloneF dataa datac hdataA hy1_6) fun ⟨t1_6_a0, t1_6_c0⟩ => ?_
 exact xrY (someE H) [0] [0] [] [0,0] (t1_6_a0, t1_6_c0)
end Go.Proofs.YtcidmgkfaioceaaGreat
namespace Go.Proofs.YtcidmgkfaioceaaGreat
open Go Go.RowKit
set_option linter.unusedVariables false
def pbelowS (n : Int) (least : Int) (bound : Int) : Option (Bool) :=
 (bif decide (least ≤ n) then some (decide (n < bound)) else some false)
set_option maxRecDepth 100000 in
set_option maxHeartbeats 4000000 in
theorem pbelow_fq {n : Int} {least : Int} {bound : Int} {y : Bool} (H : pbelowS n least bound = some y) : Fq Tryz.prog 213 [.int .i64 n, .int .i64 least, .int .i64 bound] (.bool y) := by
 unfold pbelowS at H
 refine Fn.quiet (xf Tryz.func213 fun W0 F => ?_)
 refine xs [] H ?_ ?_
 · intro H
   obtain rfl := someE H
   exact xr [1,1,1,1] [] [] [] ()
 · intro H
   obtain rfl := someE H
   exact xr [0,0,0,0] [] [] [] ()
def preqS (kind : Int) : Option (Bool) :=
 (bif decide ((1 : Int) ≤ kind) then some (decide (kind ≤ (6 : Int))) else some false)
set_option maxRecDepth 100000 in
set_option maxHeartbeats 4000000 in
theorem preq_fq {kind : Int} {y : Bool} (H : preqS kind = some y) : Fq Tryz.prog 106 [.int .i64 kind] (.bool y) := by
 unfold preqS at H
 refine Fn.quiet (xf Tryz.func106 fun W0 F => ?_)
 refine xs [] H ?_ ?_
 · intro H
   obtain rfl := someE H
   exact xr [1,1,1] [] [] [] ()
 · intro H
   obtain rfl := someE H
   exact xr [0,0,0] [] [] [] ()
def pansS (kind : Int) : Option (Int) :=
 (bif decide (kind = (1 : Int)) then some (7 : Int) else (bif decide (kind = (2 : Int)) then some (8 : Int) else (bif decide (kind = (4 : Int)) then some (8 : Int) else (bif decide (kind = (5 : Int)) then some (8 : Int) else (bif decide (kind = (3 : Int)) then some (9 : Int) else (bif decide (kind = (6 : Int)) then some (9 : Int) else some (0 : Int)))))))
set_option maxRecDepth 100000 in
set_option maxHeartbeats 4000000 in
theorem pans_fq {kind : Int} {y : Int} (H : pansS kind = some y) : Fq Tryz.prog 230 [.int .i64 kind] (.int .i64 y) := by
 unfold pansS at H
 refine Fn.quiet (xf Tryz.func230 fun W0 F => ?_)
 refine xs [] H ?_ ?_
 · intro H
   obtain rfl := someE H
   exact xr [1] [] [] [] ()
 · intro H
   refine xs [0] H ?_ ?_
   · intro H
     obtain rfl := someE H
     exact xr [1,1] [] [] [] ()
   · intro H
     refine xs [0] H ?_ ?_
     · intro H
       obtain rfl := someE H
       exact xr [1,1] [] [] [] ()
     · intro H
       refine xs [0] H ?_ ?_
       · intro H
         obtain rfl := someE H
         exact xr [1] [] [] [] ()
       · intro H
         refine xs [0] H ?_ ?_
         · intro H
           obtain rfl := someE H
           exact xr [1,1] [] [] [] ()
         · intro H
           refine xs [0] H ?_ ?_
           · intro H
             obtain rfl := someE H
             exact xr [1] [] [] [] ()
           · intro H
             obtain rfl := someE H
             exact xr [0] [] [] [] ()
def pchkS_j1 (e0_3 : Bool) (p : PktS) (e1_4 : Bool) : Option (Int) :=
 (bif !e0_3 then some (1 : Int) else (bif !e1_4 then some (1 : Int) else (pbelowS p.state (0 : Int) (3 : Int)).bind fun y3_9 => (bif !y3_9 then some (1 : Int) else (bif decide ((4 : Int) < (((List.length p.data) : Nat) : Int)) then some (1 : Int) else some (0 : Int)))))
def pchkS_j0 (p : PktS) (e0_3 : Bool) : Option (Int) :=
 (pbelowS p.kind (1 : Int) (10 : Int)).bind fun y2_2 => (bif y2_2 then (pbelowS p.line (0 : Int) (8 : Int)).bind fun y2_6 => (bif y2_6 then (pbelowS p.ptr ((-1) : Int) (6 : Int)).bind fun y2_11 => (pchkS_j1 e0_3 p) y2_11 else (pchkS_j1 e0_3 p) false) else (pchkS_j1 e0_3 p) false)
def pchkS (p : PktS) : Option (Int) :=
 (pbelowS p.src (0 : Int) (6 : Int)).bind fun y1_2 => (bif y1_2 then (pbelowS p.dst (0 : Int) (6 : Int)).bind fun y1_6 => (bif y1_6 then (pbelowS p.id (0 : Int) (4096 : Int)).bind fun y1_11 => (pchkS_j0 p) y1_11 else (pchkS_j0 p) false) else (pchkS_j0 p) false)
set_option maxRecDepth 100000 in
set_option maxHeartbeats 4000000 in
theorem pchkF {p : PktS} (p0a : Option Addr) (p0c : Nat) {y : Int} (H : pchkS p = some y) : FnY Tryz.prog 177 [.agg #[.int .i64 p.kind, .int .i64 p.src, .int .i64 p.dst, .int .i64 p.id, .int .i64 p.line, .int .i64 p.ptr, .int .i64 p.state, .bool p.flag, .slice p0a (List.length p.data) p0c]] ⟨[], []⟩ (Z := Unit) (fun y _ => .int .i64 y) (fun y _ => ⟨[], []⟩) y := by
 unfold pchkS at H
 refine xfY Tryz.func177 fun W0 F => ?_
 refine xn [] fun b0_0 => ?_
 refine xj [100] (ι := Bool) (fun e0_3 => ⟨[(1, .pointer (some ⟨b0_0, 0, none⟩)), (3, .bool e0_3)], [⟨b0_0, #[.int .i64 p.kind, .int .i64 p.src, .int .i64 p.dst, .int .i64 p.id, .int .i64 p.line, .int .i64 p.ptr, .int .i64 p.state, .bool p.flag, .slice p0a (List.length p.data) p0c], 176⟩], []⟩) (fun e0_3 => pchkS_j0 p e0_3 = some y) ?_ ?_
 · rintro e0_3 H
   replace H : pchkS_j0 p e0_3 = some y := H
   rw [pchkS_j0] at H
   refine xj [100] (ι := Bool) (fun e1_4 => ⟨[(1, .pointer (some ⟨b0_0, 0, none⟩)), (3, .bool e0_3), (4, .bool e1_4)], [⟨b0_0, #[.int .i64 p.kind, .int .i64 p.src, .int .i64 p.dst, .int .i64 p.id, .int .i64 p.line, .int .i64 p.ptr, .int .i64 p.state, .bool p.flag, .slice p0a (List.length p.data) p0c], 176⟩], []⟩) (fun e1_4 => pchkS_j1 e0_3 p e1_4 = some y) ?_ ?_
   · rintro e1_4 H
     replace H : pchkS_j1 e0_3 p e1_4 = some y := H
     rw [pchkS_j1] at H
     refine xs [] H ?_ ?_
     · intro H
       exact xrY (someE H) [0,0,1,0,0,0,0,1,0,0,0,0,1,1] [] [] [] ()
     · intro H
       refine xs [1,1,0] H ?_ ?_
       · intro H
         exact xrY (someE H) [0,0,0,0,1,0,0,0,0,1,1] [] [] [] ()
       · intro H
         refine bindG H fun y3_9 hy3_9 H => ?_
         refine xq [1,1,0,1] (pbelow_fq hy3_9) ?_
         refine xs [1,0] H ?_ ?_
         · intro H
           exact xrY (someE H) [0,0,0,0,1,1] [] [] [] ()
         · intro H
           refine xs [1,1,0,1,1,0] H ?_ ?_
           · intro H
             exact xrY (someE H) [1] [] [] [] ()
           · intro H
             exact xrY (someE H) [0] [] [] [] ()
   · intro N1 hN1
     refine bindG H fun y2_2 hy2_2 H => ?_
     refine xq [0] (pbelow_fq hy2_2) ?_
     refine xs [] H ?_ ?_
     · intro H
       refine bindG H fun y2_6 hy2_6 H => ?_
       refine xq [1,1,0,1] (pbelow_fq hy2_6) ?_
       refine xs [1] H ?_ ?_
       · intro H
         refine bindG H fun y2_11 hy2_11 H => ?_
         refine xq [1,1,0,1] (pbelow_fq hy2_11) ?_
         exact xe [1] _ [0] [] (hN1 (y2_11) H)
       · intro H
         exact xe [0,0,0,0] _ [0] [] (hN1 (false) H)
     · intro H
       exact xe [0,0,0,0,0,0,0,0] _ [0] [] (hN1 (false) H)
 · intro N0 hN0
   refine bindG H fun y1_2 hy1_2 H => ?_
   refine xq [0] (pbelow_fq hy1_2) ?_
   refine xs [] H ?_ ?_
   · intro H
     refine bindG H fun y1_6 hy1_6 H => ?_
     refine xq [1,1,0,1] (pbelow_fq hy1_6) ?_
     refine xs [1] H ?_ ?_
     · intro H
       refine bindG H fun y1_11 hy1_11 H => ?_
       refine xq [1,1,0,1] (pbelow_fq hy1_11) ?_
       exact xe [1] _ [0] [] (hN0 (y1_11) H)
     · intro H
       exact xe [0,0,0,0] _ [0] [] (hN0 (false) H)
   · intro H
     exact xe [0,0,0,0,0,0,0,0] _ [0] [] (hN0 (false) H)
def dkindS (step : Int) : Option (Int) :=
 (bif decide (step = (1 : Int)) then some (1 : Int) else (bif decide (step = (2 : Int)) then some (3 : Int) else (bif decide (step = (3 : Int)) then some (6 : Int) else (bif decide (step = (4 : Int)) then some (4 : Int) else (bif decide (step = (5 : Int)) then some (5 : Int) else (bif decide (step = (6 : Int)) then some (2 : Int) else some (0 : Int)))))))
set_option maxRecDepth 100000 in
set_option maxHeartbeats 4000000 in
theorem dkind_fq {step : Int} {y : Int} (H : dkindS step = some y) : Fq Tryz.prog 224 [.int .i64 step] (.int .i64 y) := by
 unfold dkindS at H
 refine Fn.quiet (xf Tryz.func224 fun W0 F => ?_)
 refine xs [] H ?_ ?_
 · intro H
   obtain rfl := someE H
   exact xr [1] [] [] [] ()
 · intro H
   refine xs [0] H ?_ ?_
   · intro H
     obtain rfl := someE H
     exact xr [1] [] [] [] ()
   · intro H
     refine xs [0] H ?_ ?_
     · intro H
       obtain rfl := someE H
       exact xr [1] [] [] [] ()
     · intro H
       refine xs [0] H ?_ ?_
       · intro H
         obtain rfl := someE H
         exact xr [1] [] [] [] ()
       · intro H
         refine xs [0] H ?_ ?_
         · intro H
           obtain rfl := someE H
           exact xr [1] [] [] [] ()
         · intro H
           refine xs [0] H ?_ ?_
           · intro H
             obtain rfl := someE H
             exact xr [1] [] [] [] ()
           · intro H
             obtain rfl := someE H
             exact xr [0] [] [] [] ()
def dbeginS (kind : Int) (line : Int) (id : Int) : Option (DealS) :=
 some (⟨kind, line, id, (1 : Int), (0 : Int), ((-1) : Int), ([] : List Int), ((-1) : Int), ((-1) : Int)⟩ : DealS)
set_option maxRecDepth 100000 in
set_option maxHeartbeats 4000000 in
theorem dbeginF {kind : Int} {line : Int} {id : Int} {y : DealS} (H : dbeginS kind line id = some y) : FnY Tryz.prog 202 [.int .i64 kind, .int .i64 line, .int .i64 id] ⟨[], []⟩ (Z := Option Addr × Nat) (fun y (za0, zc0) => .agg #[.int .i64 y.kind, .int .i64 y.line, .int .i64 y.id, .int .i64 y.step, .int .i64 y.state, .int .i64 y.head, .slice za0 (List.length y.data) zc0, .int .i64 y.next, .int .i64 y.told]) (fun y (za0, zc0) => ⟨[], [(ArrA za0 zc0 y.data)]⟩) y := by
 unfold dbeginS at H
 refine xfY Tryz.func202 fun W0 F => ?_
 refine xn [] fun b0_0 => ?_
 refine xg [0] [] [] (gh_nil (α := Int) none) fun _ => ?_
 exact xrY (someE H) [] [0] [] [0] (none, 0)
def daskS_j0 (y1_2 : Int) (node : Int) (d : DealS) (e0_b1_10_2 : Int) (e0_b1_10_5 : Int) (e0_b1_10_6 : Int) (e0_b1_10_7 : Bool) (e0_b1_10_8x : List Int) : Option (PktS) :=
 some (⟨y1_2, node, e0_b1_10_2, d.id, d.line, e0_b1_10_5, e0_b1_10_6, e0_b1_10_7, e0_b1_10_8x⟩ : PktS)
def daskS (d : DealS) (node : Int) (home : Int) : Option (PktS) :=
 (dkindS d.step).bind fun y1_2 => (bif decide (d.step = (1 : Int)) then some (⟨y1_2, node, home, d.id, d.line, (0 : Int), (0 : Int), false, ([] : List Int)⟩ : PktS) else (bif decide (d.step = (2 : Int)) then (daskS_j0 y1_2 node d) d.head node (0 : Int) false ([] : List Int) else (bif decide (d.step = (3 : Int)) then (daskS_j0 y1_2 node d) d.next (0 : Int) (0 : Int) false ([] : List Int) else (bif decide (d.step = (4 : Int)) then (daskS_j0 y1_2 node d) d.head d.next (0 : Int) false ([] : List Int) else (bif decide (d.step = (5 : Int)) then (daskS_j0 y1_2 node d) d.next d.head (0 : Int) false ([] : List Int) else (bif decide (d.step = (6 : Int)) then (cloneS d.data).bind fun y15_10 => (daskS_j0 y1_2 node d) home d.head d.state (decide ((0 : Int) < (((List.length d.data) : Nat) : Int))) y15_10 else some (⟨(0 : Int), (0 : Int), (0 : Int), (0 : Int), (0 : Int), (0 : Int), (0 : Int), false, ([] : List Int)⟩ : PktS)))))))
set_option maxRecDepth 100000 in
set_option maxHeartbeats 4000000 in
theorem daskF {d : DealS} {d0A : Asn} {node : Int} {home : Int} (d0a : Option Addr) (d0c : Nat) (hd0A : Rdb d0A d0a d0c d.data) {y : PktS} (H : daskS d node home = some y) : FnY Tryz.prog 194 [.agg #[.int .i64 d.kind, .int .i64 d.line, .int .i64 d.id, .int .i64 d.step, .int .i64 d.state, .int .i64 d.head, .slice d0a (List.length d.data) d0c, .int .i64 d.next, .int .i64 d.told], .int .i64 node, .int .i64 home] ⟨[], [d0A]⟩ (Z := Option Addr × Nat) (fun y (za0, zc0) => .agg #[.int .i64 y.kind, .int .i64 y.src, .int .i64 y.dst, .int .i64 y.id, .int .i64 y.line, .int .i64 y.ptr, .int .i64 y.state, .bool y.flag, .slice za0 (List.length y.data) zc0]) (fun y (za0, zc0) => ⟨[], [(ArrA za0 zc0 y.data), d0A]⟩) y := by
 unfold daskS at H
 refine xfY Tryz.func194 fun W0 F => ?_
 refine xn [] fun b0_0 => ?_
 refine xn [] fun b0_1 => ?_
 refine bindG H fun y1_2 hy1_2 H => ?_
 refine xq [0,1,1,2] (dkind_fq hy1_2) ?_
 refine xn [3,4,5,6,1,7,8,1,9,10] fun b1_10 => ?_
 refine xj [11,0,100] (ι := Int × Int × Int × Bool × List Int × Option Addr × Nat) (fun (e0_b1_10_2, e0_b1_10_5, e0_b1_10_6, e0_b1_10_7, e0_b1_10_8x, e0_b1_10_8a, e0_b1_10_8c) => ⟨[(6, .pointer (some ⟨b0_1, 0, none⟩)), (7, .pointer (some ⟨b1_10, 0, none⟩))], [⟨b1_10, #[.int .i64 y1_2, .int .i64 node, .int .i64 e0_b1_10_2, .int .i64 d.id, .int .i64 d.line, .int .i64 e0_b1_10_5, .int .i64 e0_b1_10_6, .bool e0_b1_10_7, .slice e0_b1_10_8a (List.length e0_b1_10_8x) e0_b1_10_8c], 176⟩, ⟨b0_1, #[.int .i64 (0), .int .i64 (0), .int .i64 (0), .int .i64 (0), .int .i64 (0), .int .i64 (0), .int .i64 (0), .bool false, .slice none 0 0], 176⟩], [(ArrA e0_b1_10_8a e0_b1_10_8c e0_b1_10_8x), d0A]⟩) (fun (e0_b1_10_2, e0_b1_10_5, e0_b1_10_6, e0_b1_10_7, e0_b1_10_8x, e0_b1_10_8a, e0_b1_10_8c) => daskS_j0 y1_2 node d e0_b1_10_2 e0_b1_10_5 e0_b1_10_6 e0_b1_10_7 e0_b1_10_8x = some y) ?_ ?_
 · rintro ⟨e0_b1_10_2, e0_b1_10_5, e0_b1_10_6, e0_b1_10_7, e0_b1_10_8x, e0_b1_10_8a, e0_b1_10_8c⟩ H
   replace H : daskS_j0 y1_2 node d e0_b1_10_2 e0_b1_10_5 e0_b1_10_6 e0_b1_10_7 e0_b1_10_8x = some y := H
   rw [daskS_j0] at H
   exact xrY (someE H) [0,1] [1] [] [0,0] (e0_b1_10_8a, e0_b1_10_8c)
 · intro N0 hN0
   refine xs [2] H ?_ ?_
   · intro H
     refine xg [1,0,1] [] [] (gh_nil (α := Int) none) fun _ => ?_
     exact xrY (someE H) [] [1] [] [0,0] (none, 0)
   · intro H
     refine xs [0] H ?_ ?_
     · intro H
       refine xg [1,2,0,0] [] [] (gh_nil (α := Int) none) fun _ => ?_
       exact xe [] _ [0,0] [0,0] (hN0 (d.head, node, (0 : Int), false, ([] : List Int), none, 0) H)
     · intro H
       refine xs [0] H ?_ ?_
       · intro H
         refine xg [1,2,0] [] [] (gh_nil (α := Int) none) fun _ => ?_
         exact xe [] _ [0,0] [0,0] (hN0 (d.next, (0 : Int), (0 : Int), false, ([] : List Int), none, 0) H)
       · intro H
         refine xs [0] H ?_ ?_
         · intro H
           refine xg [1,0,1,2,2,3,2,4,5,0,6,7,0] [] [] (gh_nil (α := Int) none) fun _ => ?_
           exact xe [] _ [0,0] [0,0] (hN0 (d.head, d.next, (0 : Int), false, ([] : List Int), none, 0) H)
         · intro H
           refine xs [0] H ?_ ?_
           · intro H
             refine xg [1,0,1,2,2,3,2,4,5,0,6,7,0] [] [] (gh_nil (α := Int) none) fun _ => ?_
             exact xe [] _ [0,0] [0,0] (hN0 (d.next, d.head, (0 : Int), false, ([] : List Int), none, 0) H)
           · intro H
             refine xs [0] H ?_ ?_
             · intro H
               refine bindG H fun y15_10 hy15_10 H => ?_
               refine xc [1,0,1,2,2,3,2,4,5,2,6,7,8,9,2,11,10] [] [0] (cloneF d0a d0c hd0A hy15_10) fun ⟨t15_10_a0, t15_10_c0⟩ => ?_
               exact xe [12,0,13,14,0,15,16,0,17,18,0] _ [0,0] [0,0] (hN0 (home, d.head, d.state, decide ((0 : Int) < (((List.length d.data) : Nat) : Int)), y15_10, t15_10_a0, t15_10_c0) H)
             · intro H
               refine xg [0,1] [] [] (gh_nil (α := Int) none) fun _ => ?_
               exact xrY (someE H) [] [1] [] [0,0] (none, 0)
def dfitsS (d : DealS) (p : PktS) : Option (Bool) :=
 (dkindS d.step).bind fun y1_2 => (pansS y1_2).bind fun y1_3 => (bif !(decide (y1_3 = (0 : Int))) then (bif decide (p.kind = y1_3) then (bif decide (p.id = d.id) then some (decide (p.line = d.line)) else some false) else some false) else some false)
set_option maxRecDepth 100000 in
set_option maxHeartbeats 4000000 in
theorem dfitsF {d : DealS} {p : PktS} (d0a : Option Addr) (d0c : Nat) (p0a : Option Addr) (p0c : Nat) {y : Bool} (H : dfitsS d p = some y) : FnY Tryz.prog 218 [.agg #[.int .i64 d.kind, .int .i64 d.line, .int .i64 d.id, .int .i64 d.step, .int .i64 d.state, .int .i64 d.head, .slice d0a (List.length d.data) d0c, .int .i64 d.next, .int .i64 d.told], .agg #[.int .i64 p.kind, .int .i64 p.src, .int .i64 p.dst, .int .i64 p.id, .int .i64 p.line, .int .i64 p.ptr, .int .i64 p.state, .bool p.flag, .slice p0a (List.length p.data) p0c]] ⟨[], []⟩ (Z := Unit) (fun y _ => .bool y) (fun y _ => ⟨[], []⟩) y := by
 unfold dfitsS at H
 refine xfY Tryz.func218 fun W0 F => ?_
 refine xn [] fun b0_0 => ?_
 refine xn [] fun b0_1 => ?_
 refine bindG H fun y1_2 hy1_2 H => ?_
 refine xq [1] (dkind_fq hy1_2) ?_
 refine bindG H fun y1_3 hy1_3 H => ?_
 refine xq [] (pans_fq hy1_3) ?_
 refine xs [] H ?_ ?_
 · intro H
   refine xs [1,1,0,1,1,1] H ?_ ?_
   · intro H
     refine xs [1,1,0,1,1,1,1,1] H ?_ ?_
     · intro H
       exact xrY (someE H) [1,1,0,1,1,1,1,1] [] [] [] ()
     · intro H
       exact xrY (someE H) [0,0,0,0,0,0] [] [] [] ()
   · intro H
     exact xrY (someE H) [0,0,0,0,0,0,0,0,0,0,0,0] [] [] [] ()
 · intro H
   exact xrY (someE H) [0,0,0,0,0,0,0,0,0,0,0,0,0,0,0,0,0] [] [] [] ()
end Go.Proofs.YtcidmgkfaioceaaGreat
namespace Go.Proofs.YtcidmgkfaioceaaGreat
open Go Go.RowKit
set_option linter.unusedVariables false
structure TurnsS where
 owners : List (Int × Int)
 wait : List (Int × List AskS)
structure DirS where
 c : CfgS
 rows : List (Int × RowS)
structure HomeS where
 dir : DirS
 turns : TurnsS
 c : CfgS
 node : Int
instance : Mv RowS where
 val r x := .agg (Rw.cells r x).toArray
 x0 := (none, 0)
 z0 _ _ := imm_nil
def TurnsO (b : Nat) (c : TurnsS) : Nat × Nat → Rs := fun (b_owners, b_wait) => ⟨[⟨b, #[.map (some b_owners), .map (some b_wait)], 257⟩], [(FMapA b_owners c.owners), (WMapA b_wait c.wait)]⟩
abbrev TurnsA (b : Nat) (c : TurnsS) : Asn := ObA (TurnsO b c)
def DirO (b : Nat) (c : DirS) : Option Addr × Nat × Nat → Rs := fun (a_c_init, c_c_init, b_rows) => ⟨[⟨b, #[.int .i64 c.c.nodes, .int .i64 c.c.lines, .int .i64 c.c.words, .int .i64 c.c.sets, .int .i64 c.c.ways, .int .i64 c.c.out, .int .i64 c.c.inn, .slice a_c_init (List.length c.c.init) c_c_init, .map (some b_rows)], 200⟩], [(ImmA a_c_init c_c_init c.c.init), (FMapA b_rows c.rows)]⟩
abbrev DirA (b : Nat) (c : DirS) : Asn := ObA (DirO b c)
def HomeO (b : Nat) (c : HomeS) : Nat × Nat × Option Addr × Nat → Rs := fun (b_dir, b_turns, a_c_init, c_c_init) => ⟨[⟨b, #[.pointer (some ⟨b_dir, 0, none⟩), .pointer (some ⟨b_turns, 0, none⟩), .int .i64 c.c.nodes, .int .i64 c.c.lines, .int .i64 c.c.words, .int .i64 c.c.sets, .int .i64 c.c.ways, .int .i64 c.c.out, .int .i64 c.c.inn, .slice a_c_init (List.length c.c.init) c_c_init, .int .i64 c.node], 152⟩], [(DirA b_dir c.dir), (TurnsA b_turns c.turns), (ImmA a_c_init c_c_init c.c.init)]⟩
abbrev HomeA (b : Nat) (c : HomeS) : Asn := ObA (HomeO b c)
def tnewS : Option (TurnsS) :=
 some ({ owners := ([] : List (Int × Int)), wait := ([] : List (Int × (List AskS))) } : TurnsS)
set_option maxRecDepth 100000 in
set_option maxHeartbeats 4000000 in
theorem tnewF {y : TurnsS} (H : tnewS = some y) : FnY Tryz.prog 127 [] ⟨[], []⟩ (Z := Nat) (fun y (zb0 : Nat) => .pointer (some ⟨zb0, 0, none⟩)) (fun y (zb0 : Nat) => ⟨[], [(TurnsA zb0 y)]⟩) y := by
 unfold tnewS at H
 refine xfY Tryz.func127 fun W0 F => ?_
 refine xo [] [] [] (oc_mmake Int 243 Tryz.prog) fun m1_0 => ?_
 refine xo [] [] [] (oc_wmake AskS 255 Tryz.prog) fun m1_1 => ?_
 refine xn [] fun b1_3 => ?_
 refine xg [] [0] [1,0] (gh_shut (TurnsO b1_3 ({ owners := ([] : List (Int × Int)), wait := ([] : List (Int × (List AskS))) } : TurnsS)) (m1_0, m1_1)) fun _ => ?_
 exact xrY (someE H) [] [] [] [0] (b1_3)
def townerS (tc : TurnsS) (line : Int) : Option (Int) :=
 (bif Option.isSome (mget tc.owners line) then some (mgo tc.owners line) else some ((-1) : Int))
set_option maxRecDepth 100000 in
set_option maxHeartbeats 4000000 in
theorem townerF {tc : TurnsS} {line : Int} (t : Nat) (t_b_owners : Nat) (t_b_wait : Nat) {y : Int} (H : townerS tc line = some y) : FnY Tryz.prog 134 [.pointer (some ⟨t, 0, none⟩), .int .i64 line] ⟨[⟨t, #[.map (some t_b_owners), .map (some t_b_wait)], 257⟩], [(FMapA t_b_owners tc.owners), (WMapA t_b_wait tc.wait)]⟩ (Z := Unit) (fun y _ => .int .i64 y) (fun y _ => ⟨[⟨t, #[.map (some t_b_owners), .map (some t_b_wait)], 257⟩], [(FMapA t_b_owners tc.owners), (WMapA t_b_wait tc.wait)]⟩) y := by
 unfold townerS at H
 refine xfY Tryz.func134 fun W0 F => ?_
 refine xpl [0] 0 (ol_mget2 (α := Int) 243 3 3 Tryz.prog t_b_owners line tc.owners (fun _ => rfl) ⟨.i64, by kernel_rfl⟩) ?_
 refine xs [] H ?_ ?_
 · intro H
   exact xrY (someE H) [1] [] [0] [0,0] ()
 · intro H
   exact xrY (someE H) [0] [] [0] [0,0] ()
def townedS (tc : TurnsS) (line : Int) : Option (Bool) :=
 some (Option.isSome (mget tc.owners line))
set_option maxRecDepth 100000 in
set_option maxHeartbeats 4000000 in
theorem townedF {tc : TurnsS} {line : Int} (t : Nat) (t_b_owners : Nat) (t_b_wait : Nat) {y : Bool} (H : townedS tc line = some y) : FnY Tryz.prog 226 [.pointer (some ⟨t, 0, none⟩), .int .i64 line] ⟨[⟨t, #[.map (some t_b_owners), .map (some t_b_wait)], 257⟩], [(FMapA t_b_owners tc.owners), (WMapA t_b_wait tc.wait)]⟩ (Z := Unit) (fun y _ => .bool y) (fun y _ => ⟨[⟨t, #[.map (some t_b_owners), .map (some t_b_wait)], 257⟩], [(FMapA t_b_owners tc.owners), (WMapA t_b_wait tc.wait)]⟩) y := by
 unfold townedS at H
 refine xfY Tryz.func226 fun W0 F => ?_
 refine xpl [0] 0 (ol_mget2 (α := Int) 243 3 3 Tryz.prog t_b_owners line tc.owners (fun _ => rfl) ⟨.i64, by kernel_rfl⟩) ?_
 exact xrY (someE H) [] [] [0] [0,0] ()
def twaitS (tc : TurnsS) (line : Int) : Option (Int) :=
 some (((List.length (wget tc.wait line)) : Nat) : Int)
set_option maxRecDepth 100000 in
set_option maxHeartbeats 4000000 in
theorem twaitF {tc : TurnsS} {line : Int} (t : Nat) (t_b_owners : Nat) (t_b_wait : Nat) {y : Int} (H : twaitS tc line = some y) : FnY Tryz.prog 227 [.pointer (some ⟨t, 0, none⟩), .int .i64 line] ⟨[⟨t, #[.map (some t_b_owners), .map (some t_b_wait)], 257⟩], [(FMapA t_b_owners tc.owners), (WMapA t_b_wait tc.wait)]⟩ (Z := Unit) (fun y _ => .int .i64 y) (fun y _ => ⟨[⟨t, #[.map (some t_b_owners), .map (some t_b_wait)], 257⟩], [(FMapA t_b_owners tc.owners), (WMapA t_b_wait tc.wait)]⟩) y := by
 unfold twaitS at H
 refine xfY Tryz.func227 fun W0 F => ?_
 refine xg [0] [] [1] (gh_focus t_b_wait tc.wait line) fun ⟨wa1, wc1⟩ => ?_
 refine xpl [] 1 (ol_wget 255 3 322 Tryz.prog t_b_wait tc.wait line wa1 wc1 ⟨.i64, by kernel_rfl⟩) ?_
 refine xg [] [] [0,0] (gh_unfocus t_b_wait tc.wait line wa1 wc1) fun _ => ?_
 exact xrY (someE H) [] [] [0] [1,0] ()
def taskS_j0 (tc : TurnsS) (line : Int) (who : Int) (id : Int) (e0_19 : Bool) : Option (Bool × TurnsS) :=
 (bif e0_19 then chk (((wget tc.wait line) ++ ([(⟨who, id⟩ : AskS)])).length ≤ 1099511627776) (letP ((wget tc.wait line) ++ ([(⟨who, id⟩ : AskS)])) fun l4_15 => letP (mset tc.wait line l4_15) fun l4_16 => some (false, ({ tc with wait := l4_16 } : TurnsS))) else letP (mset tc.owners line who) fun l6_6 => some (true, ({ tc with owners := l6_6 } : TurnsS)))
def taskS (tc : TurnsS) (line : Int) (who : Int) (id : Int) : Option (Bool × TurnsS) :=
 (bif decide (who < (0 : Int)) then some (false, tc) else (townedS tc line).bind fun y3_2 => (bif y3_2 then (taskS_j0 tc line who id) true else (twaitS tc line).bind fun y3_6 => (taskS_j0 tc line who id) (decide ((0 : Int) < y3_6))))
set_option maxRecDepth 100000 in
set_option maxHeartbeats 4000000 in
theorem taskF {tc : TurnsS} {line : Int} {who : Int} {id : Int} (t : Nat) {y : Bool × TurnsS} (H : taskS tc line who id = some y) : FnY Tryz.prog 228 [.pointer (some ⟨t, 0, none⟩), .int .i64 line, .int .i64 who, .int .i64 id] ⟨[], [(TurnsA t tc)]⟩ (Z := Unit) (fun y _ => .bool y.1) (fun y _ => ⟨[], [(TurnsA t y.2)]⟩) y := by
 unfold taskS at H
 refine xfY Tryz.func228 fun W0 F => ?_
 refine xs [] H ?_ ?_
 · intro H
   exact xrY (someE H) [1] [] [] [0] ()
 · intro H
   refine xj [0,101] (ι := Bool) (fun e0_19 => ⟨[(0, .pointer (some ⟨t, 0, none⟩)), (1, .int .i64 line), (2, .int .i64 who), (3, .int .i64 id), (19, .bool e0_19)], [], [(TurnsA t tc)]⟩) (fun e0_19 => taskS_j0 tc line who id e0_19 = some y) ?_ ?_
   · rintro e0_19 H
     replace H : taskS_j0 tc line who id e0_19 = some y := H
     rw [taskS_j0] at H
     refine xs [] H ?_ ?_
     · intro H
       refine xg [1,0,1,2,3] [] [0] (gh_open (TurnsO t tc)) fun ⟨b_owners1, b_wait2⟩ => ?_
       refine xg [0,4,5,6,7,8,0,9,10] [] [1] (gh_focus b_wait2 tc.wait line) fun ⟨wa1, wc1⟩ => ?_
       refine xpl [] 1 (ol_wget 255 3 322 Tryz.prog b_wait2 tc.wait line wa1 wc1 ⟨.i64, by kernel_rfl⟩) ?_
       refine xn [11,12,13,14] fun b4_14 => ?_
       refine xg [15] [0] [3] (gh_one b4_14 324 (⟨who, id⟩ : AskS) ()) fun _ => ?_
       refine chkG H fun q4_15_1 H => ?_
       refine letG H fun l4_15 hl4_15 H => ?_
       refine xa [] [1,0] (a := wa1) (l := (wget tc.wait line)) (zs := l4_15) (cap := wc1) (rA (some ⟨b4_14, 0, none⟩) 1 ([(⟨who, id⟩ : AskS)])) hl4_15 (hl4_15 ▸ q4_15_1) fun ⟨a4_15, c4_15⟩ => ?_
       refine letG H fun l4_16 hl4_16 H => ?_
       refine xo [16] [] [2,0] (oc_wset 255 3 322 Tryz.prog b_wait2 tc.wait line wa1 a4_15 wc1 c4_15 l4_15 hl4_16 ⟨.i64, by kernel_rfl⟩) fun _ => ?_
       refine xg [] [0] [2,0] (gh_shut (TurnsO t ({ tc with wait := l4_16 } : TurnsS)) (b_owners1, b_wait2)) fun _ => ?_
       exact xrY (someE H) [] [] [] [0] ()
     · intro H
       refine xg [0] [] [0] (gh_open (TurnsO t tc)) fun ⟨b_owners3, b_wait4⟩ => ?_
       refine letG H fun l6_6 hl6_6 H => ?_
       refine xo [0] [] [0,2] (oc_mset (α := Int) 243 3 3 Tryz.prog b_owners3 line tc.owners (who : Int) () hl6_6 ⟨.i64, by kernel_rfl⟩) fun _ => ?_
       refine xg [] [0] [0,0] (gh_shut (TurnsO t ({ tc with owners := l6_6 } : TurnsS)) (b_owners3, b_wait4)) fun _ => ?_
       exact xrY (someE H) [] [] [] [0] ()
   · intro N0 hN0
     refine xg [] [] [0] (gh_open (TurnsO t tc)) fun ⟨b_owners5, b_wait6⟩ => ?_
     refine bindG H fun y3_2 hy3_2 H => ?_
     refine xc [] [0] [0,0] (townedF t b_owners5 b_wait6 hy3_2) fun _ => ?_
     refine xs [] H ?_ ?_
     · intro H
       refine xg [0,0,0,0,1] [0] [0,0] (gh_shut (TurnsO t tc) (b_owners5, b_wait6)) fun _ => ?_
       exact xe [] _ [] [0] (hN0 (true) H)
     · intro H
       refine bindG H fun y3_6 hy3_6 H => ?_
       refine xc [1,1,1] [0] [0,0] (twaitF t b_owners5 b_wait6 hy3_6) fun _ => ?_
       refine xg [1,0] [0] [0,0] (gh_shut (TurnsO t tc) (b_owners5, b_wait6)) fun _ => ?_
       exact xe [] _ [] [0] (hN0 (decide ((0 : Int) < y3_6)) H)
def trelS (tc : TurnsS) (line : Int) (who : Int) : Option (Int × TurnsS) :=
 (townedS tc line).bind fun y1_2 => (bif !y1_2 then some ((6 : Int), tc) else (bif !(decide ((mgo tc.owners line) = who)) then some ((6 : Int), tc) else letP (mdel tc.owners line) fun l3_5 => some ((0 : Int), ({ tc with owners := l3_5 } : TurnsS))))
set_option maxRecDepth 100000 in
set_option maxHeartbeats 4000000 in
theorem trelF {tc : TurnsS} {line : Int} {who : Int} (t : Nat) {y : Int × TurnsS} (H : trelS tc line who = some y) : FnY Tryz.prog 242 [.pointer (some ⟨t, 0, none⟩), .int .i64 line, .int .i64 who] ⟨[], [(TurnsA t tc)]⟩ (Z := Unit) (fun y _ => .int .i64 y.1) (fun y _ => ⟨[], [(TurnsA t y.2)]⟩) y := by
 unfold trelS at H
 refine xfY Tryz.func242 fun W0 F => ?_
 refine xg [] [] [0] (gh_open (TurnsO t tc)) fun ⟨b_owners1, b_wait2⟩ => ?_
 refine bindG H fun y1_2 hy1_2 H => ?_
 refine xc [] [0] [0,0] (townedF t b_owners1 b_wait2 hy1_2) fun _ => ?_
 refine xs [] H ?_ ?_
 · intro H
   refine xg [0,0,0,0,0,0,0,0,1,1] [0] [0,0] (gh_shut (TurnsO t tc) (b_owners1, b_wait2)) fun _ => ?_
   exact xrY (someE H) [] [] [] [0] ()
 · intro H
   refine xpl [1,1,1,1,0,1,1] 0 (ol_mget1 (α := Int) 243 3 3 Tryz.prog b_owners1 line tc.owners (fun _ => rfl) ⟨.i64, by kernel_rfl⟩) ?_
   refine xs [1,1,0] H ?_ ?_
   · intro H
     refine xg [1] [0] [0,0] (gh_shut (TurnsO t tc) (b_owners1, b_wait2)) fun _ => ?_
     exact xrY (someE H) [] [] [] [0] ()
   · intro H
     refine letG H fun l3_5 hl3_5 H => ?_
     refine xo [0,0] [] [0] (oc_mdel (α := Int) 243 3 3 3 32 Tryz.prog b_owners1 line tc.owners hl3_5 ⟨.i64, by kernel_rfl⟩) fun _ => ?_
     refine xg [] [0] [0,0] (gh_shut (TurnsO t ({ tc with owners := l3_5 } : TurnsS)) (b_owners1, b_wait2)) fun _ => ?_
     exact xrY (someE H) [] [] [] [0] ()
def tnextS_j0 (tc : TurnsS) (line : Int) (e0_16 : Bool) : Option (Int × Int × Bool × TurnsS) :=
 (bif e0_16 then some ((0 : Int), (0 : Int), false, tc) else chk (0 ≤ (0 : Int) ∧ (0 : Int) < (((wget tc.wait line).length : Nat) : Int)) (letP (nthT (wget tc.wait line) (0 : Int)) fun x3_7 => chk (1 ≤ List.length (wget tc.wait line)) (letP (List.drop 1 (wget tc.wait line)) fun l4_11 => letP (mset tc.wait line l4_11) fun l4_12 => letP (mset tc.owners line x3_7.who) fun l5_7 => some (x3_7.who, x3_7.id, true, ({ owners := l5_7, wait := l4_12 } : TurnsS)))))
def tnextS (tc : TurnsS) (line : Int) : Option (Int × Int × Bool × TurnsS) :=
 (townedS tc line).bind fun y1_2 => (bif y1_2 then (tnextS_j0 tc line) true else (twaitS tc line).bind fun y1_6 => (tnextS_j0 tc line) (decide (y1_6 = (0 : Int))))
set_option maxRecDepth 100000 in
set_option maxHeartbeats 4000000 in
theorem tnextF {tc : TurnsS} {line : Int} (t : Nat) {y : Int × Int × Bool × TurnsS} (H : tnextS tc line = some y) : FnY Tryz.prog 197 [.pointer (some ⟨t, 0, none⟩), .int .i64 line] ⟨[], [(TurnsA t tc)]⟩ (Z := Unit) (fun y _ => .tuple #[.int .i64 y.1, .int .i64 y.2.1, .bool y.2.2.1]) (fun y _ => ⟨[], [(TurnsA t y.2.2.2)]⟩) y := by
 unfold tnextS at H
 refine xfY Tryz.func197 fun W0 F => ?_
 refine xj [102] (ι := Bool) (fun e0_16 => ⟨[(0, .pointer (some ⟨t, 0, none⟩)), (1, .int .i64 line), (16, .bool e0_16)], [], [(TurnsA t tc)]⟩) (fun e0_16 => tnextS_j0 tc line e0_16 = some y) ?_ ?_
 · rintro e0_16 H
   replace H : tnextS_j0 tc line e0_16 = some y := H
   rw [tnextS_j0] at H
   refine xs [] H ?_ ?_
   · intro H
     exact xrY (someE H) [1] [] [] [0] ()
   · intro H
     refine xg [0] [] [0] (gh_open (TurnsO t tc)) fun ⟨b_owners1, b_wait2⟩ => ?_
     refine xg [0] [] [1] (gh_focus b_wait2 tc.wait line) fun ⟨wa1, wc1⟩ => ?_
     refine xpl [] 1 (ol_wget 255 3 322 Tryz.prog b_wait2 tc.wait line wa1 wc1 ⟨.i64, by kernel_rfl⟩) ?_
     refine chkG H fun q3_6_1 H => ?_
     refine xi [] 0 (rA wa1 wc1 (wget tc.wait line)) q3_6_1 fun b1 o1 e1 => ?_
     refine letG H fun x3_7 hx3_7 H => ?_
     refine xo [] [] [0] (oc_ldN (rA wa1 wc1 (wget tc.wait line)) e1 q3_6_1 hx3_7 0 2) fun _ => ?_
     refine xn [] fun b3_8 => ?_
     refine xpl [0,0,1,2,3,1,4,5,6,7,8,1,9,10] 2 (ol_wget 255 3 322 Tryz.prog b_wait2 tc.wait line wa1 wc1 ⟨.i64, by kernel_rfl⟩) ?_
     refine chkG H fun q4_11_1 H => ?_
     refine letG H fun l4_11 hl4_11 H => ?_
     refine xtl [11] [1] (a := wa1) (cap := wc1) q4_11_1 hl4_11 fun a4_11 => ?_
     refine letG H fun l4_12 hl4_12 H => ?_
     refine xo [12] [] [2,0] (oc_wset 255 3 322 Tryz.prog b_wait2 tc.wait line wa1 a4_11 wc1 (wc1 - 1) l4_11 hl4_12 ⟨.i64, by kernel_rfl⟩) fun _ => ?_
     refine letG H fun l5_7 hl5_7 H => ?_
     refine xo [0,1,2,3,1,4,5,6,0,7] [] [2,3] (oc_mset (α := Int) 243 3 3 Tryz.prog b_owners1 line tc.owners (x3_7.who : Int) () hl5_7 ⟨.i64, by kernel_rfl⟩) fun _ => ?_
     refine xg [0,1,0,2,3,0,4,5,6] [1] [0,0] (gh_shut (TurnsO t ({ owners := l5_7, wait := l4_12 } : TurnsS)) (b_owners1, b_wait2)) fun _ => ?_
     exact xrY (someE H) [] [] [] [0] ()
 · intro N0 hN0
   refine xg [] [] [0] (gh_open (TurnsO t tc)) fun ⟨b_owners3, b_wait4⟩ => ?_
   refine bindG H fun y1_2 hy1_2 H => ?_
   refine xc [] [0] [0,0] (townedF t b_owners3 b_wait4 hy1_2) fun _ => ?_
   refine xs [] H ?_ ?_
   · intro H
     refine xg [0,0,0,0,1] [0] [0,0] (gh_shut (TurnsO t tc) (b_owners3, b_wait4)) fun _ => ?_
     exact xe [] _ [] [0] (hN0 (true) H)
   · intro H
     refine bindG H fun y1_6 hy1_6 H => ?_
     refine xc [1,1,1] [0] [0,0] (twaitF t b_owners3 b_wait4 hy1_6) fun _ => ?_
     refine xg [1,0] [0] [0,0] (gh_shut (TurnsO t tc) (b_owners3, b_wait4)) fun _ => ?_
     exact xe [] _ [] [0] (hN0 (decide (y1_6 = (0 : Int))) H)
end Go.Proofs.YtcidmgkfaioceaaGreat
namespace Go.Proofs.YtcidmgkfaioceaaGreat
open Go Go.RowKit
set_option linter.unusedVariables false
def mnewS_j0 (c : CfgS) (e0_m1_1 : List (Int × RowS)) : Option (DirS) :=
 some ({ c := c, rows := e0_m1_1 } : DirS)
def mnewS_j2 (v1_13 : Int) (r1 : Int → (List (Int × RowS)) → Option (DirS)) (e2_m1_1 : List (Int × RowS)) : Option (DirS) :=
 chk (inR (v1_13 + (1 : Int))) (r1 (v1_13 + (1 : Int)) e2_m1_1)
def mnewS_l1 (c : CfgS) (node : Int) (k0 : (List (Int × RowS)) → Option (DirS)) : Nat → Int → (List (Int × RowS)) → Option (DirS)
 | 0, _, _ => none
 | m + 1, v1_13, v1_m1_1 => (bif decide (v1_13 < c.lines) then (phomeS c v1_13).bind fun y5_2 => (bif decide (y5_2 = node) then (pwordsS c v1_13).bind fun y6_7 => letP (mset v1_m1_1 v1_13 (⟨(0 : Int), ((-1) : Int), y6_7⟩ : RowS)) fun l6_9 => (mnewS_j2 v1_13 (mnewS_l1 c node k0 m)) l6_9 else (mnewS_j2 v1_13 (mnewS_l1 c node k0 m)) v1_m1_1) else k0 v1_m1_1)
def mnewS (c : CfgS) (node : Int) : Option (DirS) :=
 mnewS_l1 c node (mnewS_j0 c) (c.lines.toNat + 1) (0 : Int) ([] : List (Int × RowS))
set_option maxRecDepth 100000 in
set_option maxHeartbeats 4000000 in
theorem mnewF {c : CfgS} {node : Int} (c0a : Option Addr) (c0c : Nat) {y : DirS} (H : mnewS c node = some y) : FnY Tryz.prog 126 [.agg #[.int .i64 c.nodes, .int .i64 c.lines, .int .i64 c.words, .int .i64 c.sets, .int .i64 c.ways, .int .i64 c.out, .int .i64 c.inn, .slice c0a (List.length c.init) c0c], .int .i64 node] ⟨[], [(ImmA c0a c0c c.init)]⟩ (Z := Nat) (fun y (zb0 : Nat) => .pointer (some ⟨zb0, 0, none⟩)) (fun y (zb0 : Nat) => ⟨[], [(DirA zb0 y)]⟩) y := by
 unfold mnewS at H
 refine xfY Tryz.func126 fun W0 F => ?_
 refine xn [] fun b0_0 => ?_
 refine xo [0] [] [] (oc_mmake RowS 198 Tryz.prog) fun m1_1 => ?_
 refine xn [] fun b1_3 => ?_
 refine xj [100] (ι := (List (Int × RowS))) (fun e0_m1_1 => ⟨[(5, .pointer (some ⟨b1_3, 0, none⟩))], [⟨b1_3, #[.int .i64 c.nodes, .int .i64 c.lines, .int .i64 c.words, .int .i64 c.sets, .int .i64 c.ways, .int .i64 c.out, .int .i64 c.inn, .slice c0a (List.length c.init) c0c, .map (some m1_1)], 200⟩], [(FMapA m1_1 e0_m1_1), (ImmA c0a c0c c.init)]⟩) (fun e0_m1_1 => mnewS_j0 c e0_m1_1 = some y) ?_ ?_
 · rintro e0_m1_1 H
   replace H : mnewS_j0 c e0_m1_1 = some y := H
   rw [mnewS_j0] at H
   refine xg [] [0] [1,0] (gh_shut (DirO b1_3 ({ c := c, rows := e0_m1_1 } : DirS)) (c0a, c0c, m1_1)) fun _ => ?_
   exact xrY (someE H) [] [] [] [0] (b1_3)
 · intro N0 hN0
   refine xl [1] (ι := Int × (List (Int × RowS))) (fun (v1_13, v1_m1_1) => ⟨[(1, .int .i64 node), (2, .pointer (some ⟨b0_0, 0, none⟩)), (5, .pointer (some ⟨b1_3, 0, none⟩)), (12, .int .i64 c.lines), (13, .int .i64 v1_13)], [⟨b1_3, #[.int .i64 c.nodes, .int .i64 c.lines, .int .i64 c.words, .int .i64 c.sets, .int .i64 c.ways, .int .i64 c.out, .int .i64 c.inn, .slice c0a (List.length c.init) c0c, .map (some m1_1)], 200⟩, ⟨b0_0, #[.int .i64 c.nodes, .int .i64 c.lines, .int .i64 c.words, .int .i64 c.sets, .int .i64 c.ways, .int .i64 c.out, .int .i64 c.inn, .slice c0a (List.length c.init) c0c], 25⟩], [(FMapA m1_1 v1_m1_1), (ImmA c0a c0c c.init)]⟩) (fun m1 (v1_13, v1_m1_1) => mnewS_l1 c node (mnewS_j0 c) m1 v1_13 v1_m1_1 = some y) [0,0] [0,0] ((c.lines.toNat + 1)) ((0 : Int), ([] : List (Int × RowS))) H ?_
   rintro N1 (_ | m1) ⟨v1_13, v1_m1_1⟩ H hN1
   · exact (noneE H).elim
   replace H : mnewS_l1 c node (mnewS_j0 c) (m1 + 1) v1_13 v1_m1_1 = some y := H
   rw [mnewS_l1] at H
   refine xs [] H ?_ ?_
   · intro H
     refine xj [1,100] (ι := (List (Int × RowS))) (fun e2_m1_1 => ⟨[(1, .int .i64 node), (2, .pointer (some ⟨b0_0, 0, none⟩)), (5, .pointer (some ⟨b1_3, 0, none⟩)), (12, .int .i64 c.lines), (13, .int .i64 v1_13)], [⟨b1_3, #[.int .i64 c.nodes, .int .i64 c.lines, .int .i64 c.words, .int .i64 c.sets, .int .i64 c.ways, .int .i64 c.out, .int .i64 c.inn, .slice c0a (List.length c.init) c0c, .map (some m1_1)], 200⟩, ⟨b0_0, #[.int .i64 c.nodes, .int .i64 c.lines, .int .i64 c.words, .int .i64 c.sets, .int .i64 c.ways, .int .i64 c.out, .int .i64 c.inn, .slice c0a (List.length c.init) c0c], 25⟩], [(FMapA m1_1 e2_m1_1), (ImmA c0a c0c c.init)]⟩) (fun e2_m1_1 => mnewS_j2 v1_13 (mnewS_l1 c node (mnewS_j0 c) m1) e2_m1_1 = some y) ?_ ?_
     · rintro e2_m1_1 H
       replace H : mnewS_j2 v1_13 (mnewS_l1 c node (mnewS_j0 c) m1) e2_m1_1 = some y := H
       rw [mnewS_j2] at H
       refine chkG H fun q7_0_1 H => ?_
       refine xd [0] (ap q7_0_1 an) ?_
       exact xe [] _ [0,0] [0,0] (hN1 _ (v1_13 + (1 : Int), e2_m1_1) (Nat.lt_succ_self _) H)
     · intro N2 hN2
       refine bindG H fun y5_2 hy5_2 H => ?_
       refine xc [1] [] [] (phomeF c0a c0c hy5_2) fun _ => ?_
       refine xs [] H ?_ ?_
       · intro H
         refine bindG H fun y6_7 hy6_7 H => ?_
         refine xc [1,0,1,2,3,0,4,5,1,6,7] [] [1] (pwordsF c0a c0c (rI c0a c0c c.init) hy6_7) fun ⟨t6_7_a0, t6_7_c0⟩ => ?_
         refine xg [8,9] [] [0] (gh_frz t6_7_a0 t6_7_c0 y6_7) fun _ => ?_
         refine xg [] [] [0] (gh_dup t6_7_a0 t6_7_c0 y6_7) fun _ => ?_
         refine letG H fun l6_9 hl6_9 H => ?_
         refine xo [] [] [3,0] (oc_mset (α := RowS) 198 3 86 Tryz.prog m1_1 v1_13 v1_m1_1 (⟨(0 : Int), ((-1) : Int), y6_7⟩ : RowS) (t6_7_a0, t6_7_c0) hl6_9 ⟨.i64, by kernel_rfl⟩) fun _ => ?_
         exact xe [] _ [0,0] [0,1] (hN2 (l6_9) H)
       · intro H
         exact xe [0] _ [0,0] [0,0] (hN2 (v1_m1_1) H)
   · intro H
     exact xe [0] _ [0] [0,0] (hN0 (v1_m1_1) H)
def mrowS (dc : DirS) (line : Int) : Option (RowS × Bool) :=
 letP (mgo dc.rows line) fun x1_5 => (cloneS x1_5.data).bind fun y2_2 => some ((⟨x1_5.state, x1_5.head, y2_2⟩ : RowS), Option.isSome (mget dc.rows line))
set_option maxRecDepth 100000 in
set_option maxHeartbeats 4000000 in
theorem mrowF {dc : DirS} {line : Int} (d : Nat) (d_a_c_init : Option Addr) (d_c_c_init : Nat) (d_b_rows : Nat) {y : RowS × Bool} (H : mrowS dc line = some y) : FnY Tryz.prog 74 [.pointer (some ⟨d, 0, none⟩), .int .i64 line] ⟨[⟨d, #[.int .i64 dc.c.nodes, .int .i64 dc.c.lines, .int .i64 dc.c.words, .int .i64 dc.c.sets, .int .i64 dc.c.ways, .int .i64 dc.c.out, .int .i64 dc.c.inn, .slice d_a_c_init (List.length dc.c.init) d_c_c_init, .map (some d_b_rows)], 200⟩], [(ImmA d_a_c_init d_c_c_init dc.c.init), (FMapA d_b_rows dc.rows)]⟩ (Z := Option Addr × Nat) (fun y (za0, zc0) => .tuple #[.agg #[.int .i64 y.1.state, .int .i64 y.1.head, .slice za0 (List.length y.1.data) zc0], .bool y.2]) (fun y (za0, zc0) => ⟨[⟨d, #[.int .i64 dc.c.nodes, .int .i64 dc.c.lines, .int .i64 dc.c.words, .int .i64 dc.c.sets, .int .i64 dc.c.ways, .int .i64 dc.c.out, .int .i64 dc.c.inn, .slice d_a_c_init (List.length dc.c.init) d_c_c_init, .map (some d_b_rows)], 200⟩], [(ArrA za0 zc0 y.1.data), (ImmA d_a_c_init d_c_c_init dc.c.init), (FMapA d_b_rows dc.rows)]⟩) y := by
 unfold mrowS at H
 refine xfY Tryz.func74 fun W0 F => ?_
 refine xn [] fun b0_0 => ?_
 refine letG H fun x1_5 hx1_5 H => ?_
 refine xo [1] [] [1] (oc_mget2 (α := RowS) 198 3 86 Tryz.prog d_b_rows line dc.rows hx1_5 ⟨.i64, by kernel_rfl⟩) fun z1_5_1 => ?_
 refine xn [] fun b1_9 => ?_
 refine bindG H fun y2_2 hy2_2 H => ?_
 refine xc [0,0] [] [0] (cloneF z1_5_1.1 z1_5_1.2 (rI z1_5_1.1 z1_5_1.2 x1_5.data) hy2_2) fun ⟨t2_2_a0, t2_2_c0⟩ => ?_
 exact xrY (someE H) [0,0,1] [1] [2] [0,2,1] (t2_2_a0, t2_2_c0)
def msetS_j0 (data : List Int) (dc : DirS) (line : Int) (state : Int) (head : Int) (x1_5 : RowS) : Option (Int × DirS) :=
 (bif decide ((0 : Int) < (((List.length data) : Nat) : Int)) then (cloneS data).bind fun y10_1 => letP (mset dc.rows line (⟨state, head, y10_1⟩ : RowS)) fun l11_6 => some ((0 : Int), ({ dc with rows := l11_6 } : DirS)) else letP (mset dc.rows line (⟨state, head, x1_5.data⟩ : RowS)) fun l11_6 => some ((0 : Int), ({ dc with rows := l11_6 } : DirS)))
def msetS_j1 (dc : DirS) (head : Int) (state : Int) (data : List Int) (k0 : Option (Int × DirS)) (e1_25 : Bool) : Option (Int × DirS) :=
 (bif e1_25 then some ((1 : Int), dc) else (bif !((decide (head = ((-1) : Int))) == (decide (state = (0 : Int)))) then some ((1 : Int), dc) else (bif !(decide ((((List.length data) : Nat) : Int) = (0 : Int))) then (bif !(decide ((((List.length data) : Nat) : Int) = dc.c.words)) then some ((1 : Int), dc) else k0) else k0)))
def msetS (dc : DirS) (line : Int) (state : Int) (head : Int) (data : List Int) : Option (Int × DirS) :=
 letP (mgo dc.rows line) fun x1_5 => (bif !(Option.isSome (mget dc.rows line)) then some ((3 : Int), dc) else (bif decide (state < (0 : Int)) then (msetS_j1 dc head state data (msetS_j0 data dc line state head x1_5)) true else (bif decide ((2 : Int) < state) then (msetS_j1 dc head state data (msetS_j0 data dc line state head x1_5)) true else (bif decide (head < ((-1) : Int)) then (msetS_j1 dc head state data (msetS_j0 data dc line state head x1_5)) true else (msetS_j1 dc head state data (msetS_j0 data dc line state head x1_5)) (decide (dc.c.nodes ≤ head))))))
set_option maxRecDepth 100000 in
set_option maxHeartbeats 4000000 in
theorem msetF {dc : DirS} {line : Int} {state : Int} {head : Int} {data : List Int} {dataA : Asn} (d : Nat) (dataa : Option Addr) (datac : Nat) (hdataA : Rdb dataA dataa datac data) {y : Int × DirS} (H : msetS dc line state head data = some y) : FnY Tryz.prog 241 [.pointer (some ⟨d, 0, none⟩), .int .i64 line, .int .i64 state, .int .i64 head, .slice dataa (List.length data) datac] ⟨[], [(DirA d dc), dataA]⟩ (Z := Unit) (fun y _ => .int .i64 y.1) (fun y _ => ⟨[], [(DirA d y.2), dataA]⟩) y := by
 unfold msetS at H
 refine xfY Tryz.func241 fun W0 F => ?_
 refine xg [] [] [0] (gh_open (DirO d dc)) fun ⟨a_c_init1, c_c_init2, b_rows3⟩ => ?_
 refine letG H fun x1_5 hx1_5 H => ?_
 refine xo [0] [] [1] (oc_mget2 (α := RowS) 198 3 86 Tryz.prog b_rows3 line dc.rows hx1_5 ⟨.i64, by kernel_rfl⟩) fun z1_5_1 => ?_
 refine xn [] fun b1_9 => ?_
 refine xj [0,100] (ι := Unit) (fun _ => ⟨[(0, .pointer (some ⟨d, 0, none⟩)), (1, .int .i64 line), (2, .int .i64 state), (3, .int .i64 head), (4, .slice dataa (List.length data) datac), (11, .pointer (some ⟨b1_9, 0, none⟩))], [⟨b1_9, #[.int .i64 x1_5.state, .int .i64 x1_5.head, .slice z1_5_1.1 (List.length x1_5.data) z1_5_1.2], 86⟩, ⟨d, #[.int .i64 dc.c.nodes, .int .i64 dc.c.lines, .int .i64 dc.c.words, .int .i64 dc.c.sets, .int .i64 dc.c.ways, .int .i64 dc.c.out, .int .i64 dc.c.inn, .slice a_c_init1 (List.length dc.c.init) c_c_init2, .map (some b_rows3)], 200⟩], [(ImmA z1_5_1.1 z1_5_1.2 x1_5.data), (FMapA b_rows3 dc.rows), (ImmA a_c_init1 c_c_init2 dc.c.init), dataA]⟩) (fun _ => msetS_j0 data dc line state head x1_5 = some y) ?_ ?_
 · rintro _ H
   replace H : msetS_j0 data dc line state head x1_5 = some y := H
   rw [msetS_j0] at H
   refine xs [0,0] H ?_ ?_
   · intro H
     refine bindG H fun y10_1 hy10_1 H => ?_
     refine xc [1] [] [3] (cloneF dataa datac hdataA hy10_1) fun ⟨t10_1_a0, t10_1_c0⟩ => ?_
     refine xg [0,0,1,2,3,1,4,5,0,6] [] [0] (gh_frz t10_1_a0 t10_1_c0 y10_1) fun _ => ?_
     refine xg [] [] [0] (gh_dup t10_1_a0 t10_1_c0 y10_1) fun _ => ?_
     refine letG H fun l11_6 hl11_6 H => ?_
     refine xo [] [] [4,0] (oc_mset (α := RowS) 198 3 86 Tryz.prog b_rows3 line dc.rows (⟨state, head, y10_1⟩ : RowS) (t10_1_a0, t10_1_c0) hl11_6 ⟨.i64, by kernel_rfl⟩) fun _ => ?_
     refine xg [] [1] [4,0] (gh_shut (DirO d ({ dc with rows := l11_6 } : DirS)) (a_c_init1, c_c_init2, b_rows3)) fun _ => ?_
     exact xrY (someE H) [] [] [] [0,1] ()
   · intro H
     refine xg [0,0,1,2,3,1,4,5,0,6] [] [0] (gh_dup z1_5_1.1 z1_5_1.2 x1_5.data) fun _ => ?_
     refine letG H fun l11_6 hl11_6 H => ?_
     refine xo [] [] [2,0] (oc_mset (α := RowS) 198 3 86 Tryz.prog b_rows3 line dc.rows (⟨state, head, x1_5.data⟩ : RowS) (z1_5_1.1, z1_5_1.2) hl11_6 ⟨.i64, by kernel_rfl⟩) fun _ => ?_
     refine xg [] [1] [2,0] (gh_shut (DirO d ({ dc with rows := l11_6 } : DirS)) (a_c_init1, c_c_init2, b_rows3)) fun _ => ?_
     exact xrY (someE H) [] [] [] [0,1] ()
 · intro N0 hN0
   refine xs [] H ?_ ?_
   · intro H
     refine xg [1] [1] [2,1] (gh_shut (DirO d dc) (a_c_init1, c_c_init2, b_rows3)) fun _ => ?_
     exact xrY (someE H) [] [] [] [0,1] ()
   · intro H
     refine xj [0,100] (ι := Bool) (fun e1_25 => ⟨[(0, .pointer (some ⟨d, 0, none⟩)), (1, .int .i64 line), (2, .int .i64 state), (3, .int .i64 head), (4, .slice dataa (List.length data) datac), (11, .pointer (some ⟨b1_9, 0, none⟩)), (25, .bool e1_25)], [⟨b1_9, #[.int .i64 x1_5.state, .int .i64 x1_5.head, .slice z1_5_1.1 (List.length x1_5.data) z1_5_1.2], 86⟩, ⟨d, #[.int .i64 dc.c.nodes, .int .i64 dc.c.lines, .int .i64 dc.c.words, .int .i64 dc.c.sets, .int .i64 dc.c.ways, .int .i64 dc.c.out, .int .i64 dc.c.inn, .slice a_c_init1 (List.length dc.c.init) c_c_init2, .map (some b_rows3)], 200⟩], [(ImmA z1_5_1.1 z1_5_1.2 x1_5.data), (FMapA b_rows3 dc.rows), (ImmA a_c_init1 c_c_init2 dc.c.init), dataA]⟩) (fun e1_25 => msetS_j1 dc head state data (msetS_j0 data dc line state head x1_5) e1_25 = some y) ?_ ?_
     · rintro e1_25 H
       replace H : msetS_j1 dc head state data (msetS_j0 data dc line state head x1_5) e1_25 = some y := H
       rw [msetS_j1] at H
       refine xs [] H ?_ ?_
       · intro H
         refine xg [1] [1] [2,1] (gh_shut (DirO d dc) (a_c_init1, c_c_init2, b_rows3)) fun _ => ?_
         exact xrY (someE H) [] [] [] [0,1] ()
       · intro H
         refine xs [0] H ?_ ?_
         · intro H
           refine xg [0,0,0,0,0,0,0,0,0,0,0,0,0,1,1] [1] [2,1] (gh_shut (DirO d dc) (a_c_init1, c_c_init2, b_rows3)) fun _ => ?_
           exact xrY (someE H) [] [] [] [0,1] ()
         · intro H
           refine xs [1,1,1,1] H ?_ ?_
           · intro H
             refine xs [1,1,1,1,1,1,1,1,1,1,1,0] H ?_ ?_
             · intro H
               refine xg [1] [1] [2,1] (gh_shut (DirO d dc) (a_c_init1, c_c_init2, b_rows3)) fun _ => ?_
               exact xrY (someE H) [] [] [] [0,1] ()
             · intro H
               exact xe [0] _ [0,0] [0,0,0,0] (hN0 () H)
           · intro H
             exact xe [0,0,0,0,0,0,0,0,1,0,0,0] _ [0,0] [0,0,0,0] (hN0 () H)
     · intro N1 hN1
       refine xs [] H ?_ ?_
       · intro H
         exact xe [0,0,1,0,0,1,0,0,0,0,0,0,0,1] _ [0,0] [0,0,0,0] (hN1 (true) H)
       · intro H
         refine xs [1,1,0] H ?_ ?_
         · intro H
           exact xe [0,0,1,0,0,0,0,0,0,0,1] _ [0,0] [0,0,0,0] (hN1 (true) H)
         · intro H
           refine xs [1,1,0] H ?_ ?_
           · intro H
             exact xe [0,0,0,0,0,0,0,1] _ [0,0] [0,0,0,0] (hN1 (true) H)
           · intro H
             exact xe [1,1,1,1,1,1,1,1,0] _ [0,0] [0,0,0,0] (hN1 (decide (dc.c.nodes ≤ head)) H)
end Go.Proofs.YtcidmgkfaioceaaGreat
namespace Go.Proofs.YtcidmgkfaioceaaGreat
open Go Go.RowKit
set_option linter.unusedVariables false
def hnewS (c : CfgS) (node : Int) : Option (HomeS) :=
 (mnewS c node).bind fun y1_2 => (tnewS).bind fun y1_3 => some ({ dir := y1_2, turns := y1_3, c := c, node := node } : HomeS)
set_option maxRecDepth 100000 in
set_option maxHeartbeats 4000000 in
theorem hnewF {c : CfgS} {node : Int} (c0a : Option Addr) (c0c : Nat) {y : HomeS} (H : hnewS c node = some y) : FnY Tryz.prog 86 [.agg #[.int .i64 c.nodes, .int .i64 c.lines, .int .i64 c.words, .int .i64 c.sets, .int .i64 c.ways, .int .i64 c.out, .int .i64 c.inn, .slice c0a (List.length c.init) c0c], .int .i64 node] ⟨[], [(ImmA c0a c0c c.init)]⟩ (Z := Nat) (fun y (zb0 : Nat) => .pointer (some ⟨zb0, 0, none⟩)) (fun y (zb0 : Nat) => ⟨[], [(HomeA zb0 y)]⟩) y := by
 unfold hnewS at H
 refine xfY Tryz.func86 fun W0 F => ?_
 refine xn [] fun b0_0 => ?_
 refine xg [0,0,1,4,0,5,2] [] [0] (gh_dup c0a c0c c.init) fun _ => ?_
 refine bindG H fun y1_2 hy1_2 H => ?_
 refine xc [] [] [0] (mnewF c0a c0c hy1_2) fun t1_2_b0 => ?_
 refine bindG H fun y1_3 hy1_3 H => ?_
 refine xc [3] [] [] (tnewF hy1_3) fun t1_3_b0 => ?_
 refine xn [6,7] fun b1_7 => ?_
 refine xg [8] [] [2] (gh_dup c0a c0c c.init) fun _ => ?_
 refine xg [] [0] [3,2,0] (gh_shut (HomeO b1_7 ({ dir := y1_2, turns := y1_3, c := c, node := node } : HomeS)) (t1_2_b0, t1_3_b0, c0a, c0c)) fun _ => ?_
 exact xrY (someE H) [] [] [] [0] (b1_7)
def hgrS (hc : HomeS) (line : Int) (who : Int) (id : Int) : Option (PktS) :=
 (mrowS hc.dir line).bind fun y1_5 => some (⟨(7 : Int), hc.node, who, id, line, y1_5.1.head, y1_5.1.state, false, y1_5.1.data⟩ : PktS)
set_option maxRecDepth 100000 in
set_option maxHeartbeats 4000000 in
theorem hgrF {hc : HomeS} {line : Int} {who : Int} {id : Int} (h : Nat) (h_b_dir : Nat) (h_b_turns : Nat) (h_a_c_init : Option Addr) (h_c_c_init : Nat) {y : PktS} (H : hgrS hc line who id = some y) : FnY Tryz.prog 198 [.pointer (some ⟨h, 0, none⟩), .int .i64 line, .int .i64 who, .int .i64 id] ⟨[⟨h, #[.pointer (some ⟨h_b_dir, 0, none⟩), .pointer (some ⟨h_b_turns, 0, none⟩), .int .i64 hc.c.nodes, .int .i64 hc.c.lines, .int .i64 hc.c.words, .int .i64 hc.c.sets, .int .i64 hc.c.ways, .int .i64 hc.c.out, .int .i64 hc.c.inn, .slice h_a_c_init (List.length hc.c.init) h_c_c_init, .int .i64 hc.node], 152⟩], [(DirA h_b_dir hc.dir), (TurnsA h_b_turns hc.turns), (ImmA h_a_c_init h_c_c_init hc.c.init)]⟩ (Z := Option Addr × Nat) (fun y (za0, zc0) => .agg #[.int .i64 y.kind, .int .i64 y.src, .int .i64 y.dst, .int .i64 y.id, .int .i64 y.line, .int .i64 y.ptr, .int .i64 y.state, .bool y.flag, .slice za0 (List.length y.data) zc0]) (fun y (za0, zc0) => ⟨[⟨h, #[.pointer (some ⟨h_b_dir, 0, none⟩), .pointer (some ⟨h_b_turns, 0, none⟩), .int .i64 hc.c.nodes, .int .i64 hc.c.lines, .int .i64 hc.c.words, .int .i64 hc.c.sets, .int .i64 hc.c.ways, .int .i64 hc.c.out, .int .i64 hc.c.inn, .slice h_a_c_init (List.length hc.c.init) h_c_c_init, .int .i64 hc.node], 152⟩], [(ArrA za0 zc0 y.data), (DirA h_b_dir hc.dir), (TurnsA h_b_turns hc.turns), (ImmA h_a_c_init h_c_c_init hc.c.init)]⟩) y := by
 unfold hgrS at H
 refine xfY Tryz.func198 fun W0 F => ?_
 refine xn [] fun b0_0 => ?_
 refine xg [1] [] [0] (gh_open (DirO h_b_dir hc.dir)) fun ⟨a_c_init1, c_c_init2, b_rows3⟩ => ?_
 refine bindG H fun y1_5 hy1_5 H => ?_
 refine xc [] [0] [0,0] (mrowF h_b_dir a_c_init1 c_c_init2 b_rows3 hy1_5) fun ⟨t1_5_a0, t1_5_c0⟩ => ?_
 refine xn [] fun b1_9 => ?_
 refine xg [0,0,1,2,3,3,4,5,6,7,8,0,9,10,0,11,12,0,13,14,2] [1] [1,1] (gh_shut (DirO h_b_dir hc.dir) (a_c_init1, c_c_init2, b_rows3)) fun _ => ?_
 exact xrY (someE H) [] [1] [2] [1,0,0,0] (t1_5_a0, t1_5_c0)
def hunS_j0 (hc : HomeS) (p : PktS) (e0_5x : List Int) : Option (Int × HomeS) :=
 (msetS hc.dir p.line p.state p.ptr e0_5x).bind fun y6_11 => (bif !(decide (y6_11.1 = (0 : Int))) then some (y6_11.1, ({ hc with dir := y6_11.2 } : HomeS)) else (trelS hc.turns p.line p.src).bind fun y9_8 => some (y9_8.1, ({ hc with dir := y6_11.2, turns := y9_8.2 } : HomeS)))
def hunS (hc : HomeS) (p : PktS) : Option (Int × HomeS) :=
 (townerS hc.turns p.line).bind fun y1_6 => (bif !(decide (y1_6 = p.src)) then some ((6 : Int), hc) else (bif p.flag then (hunS_j0 hc p) p.data else (hunS_j0 hc p) ([] : List Int)))
set_option maxRecDepth 100000 in
set_option maxHeartbeats 4000000 in
theorem hunF {hc : HomeS} {p : PktS} (h : Nat) (p0a : Option Addr) (p0c : Nat) {y : Int × HomeS} (H : hunS hc p = some y) : FnY Tryz.prog 229 [.pointer (some ⟨h, 0, none⟩), .agg #[.int .i64 p.kind, .int .i64 p.src, .int .i64 p.dst, .int .i64 p.id, .int .i64 p.line, .int .i64 p.ptr, .int .i64 p.state, .bool p.flag, .slice p0a (List.length p.data) p0c]] ⟨[], [(HomeA h hc), (ImmA p0a p0c p.data)]⟩ (Z := Unit) (fun y _ => .int .i64 y.1) (fun y _ => ⟨[], [(HomeA h y.2)]⟩) y := by
 unfold hunS at H
 refine xfY Tryz.func229 fun W0 F => ?_
 refine xn [] fun b0_0 => ?_
 refine xg [0,1,2,3] [] [0] (gh_open (HomeO h hc)) fun ⟨b_dir1, b_turns2, a_c_init3, c_c_init4⟩ => ?_
 refine xg [0,4,5,1,7,8,1,6] [] [1] (gh_open (TurnsO b_turns2 hc.turns)) fun ⟨b_owners5, b_wait6⟩ => ?_
 refine bindG H fun y1_6 hy1_6 H => ?_
 refine xc [] [0] [0,0] (townerF b_turns2 b_owners5 b_wait6 hy1_6) fun _ => ?_
 refine xs [9] H ?_ ?_
 · intro H
   refine xg [1] [0] [0,0] (gh_shut (TurnsO b_turns2 hc.turns) (b_owners5, b_wait6)) fun _ => ?_
   refine xg [] [0] [1,0,0] (gh_shut (HomeO h hc) (b_dir1, b_turns2, a_c_init3, c_c_init4)) fun _ => ?_
   exact xrY (someE H) [] [] [] [0] ()
 · intro H
   refine xj [0,101] (ι := List Int × Option Addr × Nat) (fun (e0_5x, e0_5a, e0_5c) => ⟨[(0, .pointer (some ⟨h, 0, none⟩)), (3, .pointer (some ⟨b0_0, 0, none⟩)), (5, .slice e0_5a (List.length e0_5x) e0_5c)], [⟨b_turns2, #[.map (some b_owners5), .map (some b_wait6)], 257⟩, ⟨h, #[.pointer (some ⟨b_dir1, 0, none⟩), .pointer (some ⟨b_turns2, 0, none⟩), .int .i64 hc.c.nodes, .int .i64 hc.c.lines, .int .i64 hc.c.words, .int .i64 hc.c.sets, .int .i64 hc.c.ways, .int .i64 hc.c.out, .int .i64 hc.c.inn, .slice a_c_init3 (List.length hc.c.init) c_c_init4, .int .i64 hc.node], 152⟩, ⟨b0_0, #[.int .i64 p.kind, .int .i64 p.src, .int .i64 p.dst, .int .i64 p.id, .int .i64 p.line, .int .i64 p.ptr, .int .i64 p.state, .bool p.flag, .slice p0a (List.length p.data) p0c], 176⟩], [(ImmA e0_5a e0_5c e0_5x), (FMapA b_owners5 hc.turns.owners), (WMapA b_wait6 hc.turns.wait), (DirA b_dir1 hc.dir), (ImmA a_c_init3 c_c_init4 hc.c.init), (ImmA p0a p0c p.data)]⟩) (fun (e0_5x, e0_5a, e0_5c) => hunS_j0 hc p e0_5x = some y) ?_ ?_
   · rintro ⟨e0_5x, e0_5a, e0_5c⟩ H
     replace H : hunS_j0 hc p e0_5x = some y := H
     rw [hunS_j0] at H
     refine bindG H fun y6_11 hy6_11 H => ?_
     refine xc [0,1,2,3,1,4,5,2,6,7,2,8,9,2,10,11] [] [3,0] (msetF b_dir1 e0_5a e0_5c (rI e0_5a e0_5c e0_5x) hy6_11) fun _ => ?_
     refine xs [12] H ?_ ?_
     · intro H
       refine xg [1] [0] [2,2] (gh_shut (TurnsO b_turns2 hc.turns) (b_owners5, b_wait6)) fun _ => ?_
       refine xg [] [0] [1,0,1] (gh_shut (HomeO h ({ hc with dir := y6_11.2 } : HomeS)) (b_dir1, b_turns2, a_c_init3, c_c_init4)) fun _ => ?_
       exact xrY (someE H) [] [] [] [0] ()
     · intro H
       refine xg [0,0,1,2,3,1,4,5,2,6,7,2,8] [0] [2,2] (gh_shut (TurnsO b_turns2 hc.turns) (b_owners5, b_wait6)) fun _ => ?_
       refine bindG H fun y9_8 hy9_8 H => ?_
       refine xc [] [] [0] (trelF b_turns2 hy9_8) fun _ => ?_
       refine xg [9] [0] [1,0,1] (gh_shut (HomeO h ({ hc with dir := y6_11.2, turns := y9_8.2 } : HomeS)) (b_dir1, b_turns2, a_c_init3, c_c_init4)) fun _ => ?_
       exact xrY (someE H) [] [] [] [0] ()
   · intro N0 hN0
     refine xs [2] H ?_ ?_
     · intro H
       refine xg [1,2] [] [4] (gh_dup p0a p0c p.data) fun _ => ?_
       exact xe [] _ [0,0,0] [0,1,1,1,1,0] (hN0 (p.data, p0a, p0c) H)
     · intro H
       refine xg [0] [] [] (gh_nilI (α := Int) none 0) fun _ => ?_
       exact xe [] _ [0,0,0] [0,0,0,0,0,0] (hN0 (([] : List Int), none, 0) H)
def hhanS_j2 (hc : HomeS) (p : PktS) (e2_65 : Bool) : Option (PktS × Bool × Int × HomeS) :=
 (bif e2_65 then some ((⟨(0 : Int), (0 : Int), (0 : Int), (0 : Int), (0 : Int), (0 : Int), (0 : Int), false, ([] : List Int)⟩ : PktS), false, (3 : Int), hc) else (bif decide (p.kind = (1 : Int)) then (taskS hc.turns p.line p.src p.id).bind fun y7_10 => (bif !y7_10.1 then some ((⟨(0 : Int), (0 : Int), (0 : Int), (0 : Int), (0 : Int), (0 : Int), (0 : Int), false, ([] : List Int)⟩ : PktS), false, (0 : Int), ({ hc with turns := y7_10.2 } : HomeS)) else (hgrS ({ hc with turns := y7_10.2 } : HomeS) p.line p.src p.id).bind fun y9_7 => some (y9_7, true, (0 : Int), ({ hc with turns := y7_10.2 } : HomeS))) else (hunS hc p).bind fun y10_2 => (bif !(decide (y10_2.1 = (0 : Int))) then some ((⟨(0 : Int), (0 : Int), (0 : Int), (0 : Int), (0 : Int), (0 : Int), (0 : Int), false, ([] : List Int)⟩ : PktS), false, y10_2.1, y10_2.2) else some ((⟨(8 : Int), y10_2.2.node, p.src, p.id, p.line, (0 : Int), (0 : Int), false, ([] : List Int)⟩ : PktS), true, (0 : Int), y10_2.2))))
def hhanS_j1 (hc : HomeS) (p : PktS) : Option (PktS × Bool × Int × HomeS) :=
 (phomeS hc.c p.line).bind fun y4_6 => (bif !(decide (y4_6 = hc.node)) then (hhanS_j2 hc p) true else (hhanS_j2 hc p) (decide (hc.c.lines ≤ p.line)))
def hhanS_j0 (hc : HomeS) (p : PktS) (e0_7 : Bool) : Option (PktS × Bool × Int × HomeS) :=
 (bif !e0_7 then some ((⟨(0 : Int), (0 : Int), (0 : Int), (0 : Int), (0 : Int), (0 : Int), (0 : Int), false, ([] : List Int)⟩ : PktS), false, (1 : Int), hc) else (bif !(decide (p.kind = (1 : Int))) then (bif !(decide (p.kind = (2 : Int))) then some ((⟨(0 : Int), (0 : Int), (0 : Int), (0 : Int), (0 : Int), (0 : Int), (0 : Int), false, ([] : List Int)⟩ : PktS), false, (1 : Int), hc) else (hhanS_j1 hc p)) else (hhanS_j1 hc p)))
def hhanS (hc : HomeS) (p : PktS) : Option (PktS × Bool × Int × HomeS) :=
 (pchkS p).bind fun y1_1 => (bif decide (y1_1 = (0 : Int)) then (bif decide (p.dst = hc.node) then (hhanS_j0 hc p) (decide (p.src < hc.c.nodes)) else (hhanS_j0 hc p) false) else (hhanS_j0 hc p) false)
set_option maxRecDepth 100000 in
set_option maxHeartbeats 4000000 in
theorem hhanF {hc : HomeS} {p : PktS} (h : Nat) (p0a : Option Addr) (p0c : Nat) {y : PktS × Bool × Int × HomeS} (H : hhanS hc p = some y) : FnY Tryz.prog 200 [.pointer (some ⟨h, 0, none⟩), .agg #[.int .i64 p.kind, .int .i64 p.src, .int .i64 p.dst, .int .i64 p.id, .int .i64 p.line, .int .i64 p.ptr, .int .i64 p.state, .bool p.flag, .slice p0a (List.length p.data) p0c]] ⟨[], [(HomeA h hc), (ImmA p0a p0c p.data)]⟩ (Z := Option Addr × Nat) (fun y (za0, zc0) => .tuple #[.agg #[.int .i64 y.1.kind, .int .i64 y.1.src, .int .i64 y.1.dst, .int .i64 y.1.id, .int .i64 y.1.line, .int .i64 y.1.ptr, .int .i64 y.1.state, .bool y.1.flag, .slice za0 (List.length y.1.data) zc0], .bool y.2.1, .int .i64 y.2.2.1]) (fun y (za0, zc0) => ⟨[], [(ArrA za0 zc0 y.1.data), (HomeA h y.2.2.2)]⟩) y := by
 unfold hhanS at H
 refine xfY Tryz.func200 fun W0 F => ?_
 refine xn [] fun b0_0 => ?_
 refine xn [] fun b0_1 => ?_
 refine xj [100] (ι := Bool) (fun e0_7 => ⟨[(0, .pointer (some ⟨h, 0, none⟩)), (3, .pointer (some ⟨b0_0, 0, none⟩)), (4, .pointer (some ⟨b0_1, 0, none⟩)), (7, .bool e0_7)], [⟨b0_1, #[.int .i64 (0), .int .i64 (0), .int .i64 (0), .int .i64 (0), .int .i64 (0), .int .i64 (0), .int .i64 (0), .bool false, .slice none 0 0], 176⟩, ⟨b0_0, #[.int .i64 p.kind, .int .i64 p.src, .int .i64 p.dst, .int .i64 p.id, .int .i64 p.line, .int .i64 p.ptr, .int .i64 p.state, .bool p.flag, .slice p0a (List.length p.data) p0c], 176⟩], [(HomeA h hc), (ImmA p0a p0c p.data)]⟩) (fun e0_7 => hhanS_j0 hc p e0_7 = some y) ?_ ?_
 · rintro e0_7 H
   replace H : hhanS_j0 hc p e0_7 = some y := H
   rw [hhanS_j0] at H
   refine xj [100] (ι := Unit) (fun _ => ⟨[(0, .pointer (some ⟨h, 0, none⟩)), (3, .pointer (some ⟨b0_0, 0, none⟩)), (4, .pointer (some ⟨b0_1, 0, none⟩))], [⟨b0_1, #[.int .i64 (0), .int .i64 (0), .int .i64 (0), .int .i64 (0), .int .i64 (0), .int .i64 (0), .int .i64 (0), .bool false, .slice none 0 0], 176⟩, ⟨b0_0, #[.int .i64 p.kind, .int .i64 p.src, .int .i64 p.dst, .int .i64 p.id, .int .i64 p.line, .int .i64 p.ptr, .int .i64 p.state, .bool p.flag, .slice p0a (List.length p.data) p0c], 176⟩], [(HomeA h hc), (ImmA p0a p0c p.data)]⟩) (fun _ => hhanS_j1 hc p = some y) ?_ ?_
   · rintro _ H
     replace H : hhanS_j1 hc p = some y := H
     rw [hhanS_j1] at H
     refine xj [101] (ι := Bool) (fun e2_65 => ⟨[(0, .pointer (some ⟨h, 0, none⟩)), (3, .pointer (some ⟨b0_0, 0, none⟩)), (4, .pointer (some ⟨b0_1, 0, none⟩)), (65, .bool e2_65)], [⟨b0_1, #[.int .i64 (0), .int .i64 (0), .int .i64 (0), .int .i64 (0), .int .i64 (0), .int .i64 (0), .int .i64 (0), .bool false, .slice none 0 0], 176⟩, ⟨b0_0, #[.int .i64 p.kind, .int .i64 p.src, .int .i64 p.dst, .int .i64 p.id, .int .i64 p.line, .int .i64 p.ptr, .int .i64 p.state, .bool p.flag, .slice p0a (List.length p.data) p0c], 176⟩], [(HomeA h hc), (ImmA p0a p0c p.data)]⟩) (fun e2_65 => hhanS_j2 hc p e2_65 = some y) ?_ ?_
     · rintro e2_65 H
       replace H : hhanS_j2 hc p e2_65 = some y := H
       rw [hhanS_j2] at H
       refine xs [] H ?_ ?_
       · intro H
         refine xg [1,0] [] [] (gh_nil (α := Int) none) fun _ => ?_
         exact xrY (someE H) [] [0] [] [0,0] (none, 0)
       · intro H
         refine xs [0,1] H ?_ ?_
         · intro H
           refine xg [1,0,1,2,3] [] [0] (gh_open (HomeO h hc)) fun ⟨b_dir1, b_turns2, a_c_init3, c_c_init4⟩ => ?_
           refine bindG H fun y7_10 hy7_10 H => ?_
           refine xc [0,4,5,2,6,7,2,8,9,2,10] [] [1] (taskF b_turns2 hy7_10) fun _ => ?_
           refine xs [11] H ?_ ?_
           · intro H
             refine xg [1,1] [] [] (gh_nil (α := Int) none) fun _ => ?_
             refine xg [] [0] [2,1,1] (gh_shut (HomeO h ({ hc with turns := y7_10.2 } : HomeS)) (b_dir1, b_turns2, a_c_init3, c_c_init4)) fun _ => ?_
             exact xrY (someE H) [] [0] [] [1,0] (none, 0)
           · intro H
             refine bindG H fun y9_7 hy9_7 H => ?_
             refine xc [0,2,2,2] [0] [1,0,0] (hgrF h b_dir1 b_turns2 a_c_init3 c_c_init4 hy9_7) fun ⟨t9_7_a0, t9_7_c0⟩ => ?_
             refine xg [1] [0] [1,1,1] (gh_shut (HomeO h ({ hc with turns := y7_10.2 } : HomeS)) (b_dir1, b_turns2, a_c_init3, c_c_init4)) fun _ => ?_
             exact xrY (someE H) [] [0] [] [1,0] (t9_7_a0, t9_7_c0)
         · intro H
           refine xg [0,1] [] [1] (gh_dup p0a p0c p.data) fun _ => ?_
           refine bindG H fun y10_2 hy10_2 H => ?_
           refine xc [] [] [2,0] (hunF h p0a p0c hy10_2) fun _ => ?_
           refine xs [] H ?_ ?_
           · intro H
             refine xg [1,0] [] [] (gh_nil (α := Int) none) fun _ => ?_
             exact xrY (someE H) [] [0] [] [0,0] (none, 0)
           · intro H
             refine xg [0,0,1,2,3] [] [0] (gh_open (HomeO h y10_2.2)) fun ⟨b_dir5, b_turns6, a_c_init7, c_c_init8⟩ => ?_
             refine xg [0,4,5,2,6,7,2,8,9,2,10,11,1,12,13] [] [] (gh_nil (α := Int) none) fun _ => ?_
             refine xg [] [0] [1,1,1] (gh_shut (HomeO h y10_2.2) (b_dir5, b_turns6, a_c_init7, c_c_init8)) fun _ => ?_
             exact xrY (someE H) [] [0] [] [1,0] (none, 0)
     · intro N2 hN2
       refine xg [0,1,2,3] [] [0] (gh_open (HomeO h hc)) fun ⟨b_dir9, b_turns10, a_c_init11, c_c_init12⟩ => ?_
       refine bindG H fun y4_6 hy4_6 H => ?_
       refine xc [0,4,5,2,7,8,9,10,0,6] [] [] (phomeF a_c_init11 c_c_init12 hy4_6) fun _ => ?_
       refine xs [11,12,13] H ?_ ?_
       · intro H
         refine xg [0,14,0,15,0,16,0,17,0,18,0,19,0,20,0,21,1] [0] [0,0,0] (gh_shut (HomeO h hc) (b_dir9, b_turns10, a_c_init11, c_c_init12)) fun _ => ?_
         exact xe [] _ [0,0] [0,0] (hN2 (true) H)
       · intro H
         refine xg [1,14,1,2,15,1,16,1,17,1,18,1,19,1,0,20,1,21,0] [0] [0,0,0] (gh_shut (HomeO h hc) (b_dir9, b_turns10, a_c_init11, c_c_init12)) fun _ => ?_
         exact xe [] _ [0,0] [0,0] (hN2 (decide (hc.c.lines ≤ p.line)) H)
   · intro N1 hN1
     refine xs [] H ?_ ?_
     · intro H
       refine xg [0,0,0,0,0,0,0,0,1,1,0] [] [] (gh_nil (α := Int) none) fun _ => ?_
       exact xrY (someE H) [] [0] [] [0,0] (none, 0)
     · intro H
       refine xs [1,1,1,1,1] H ?_ ?_
       · intro H
         refine xs [1,1,1,1,1,1,0] H ?_ ?_
         · intro H
           refine xg [1,0] [] [] (gh_nil (α := Int) none) fun _ => ?_
           exact xrY (someE H) [] [0] [] [0,0] (none, 0)
         · intro H
           exact xe [0] _ [0,0] [0,0] (hN1 () H)
       · intro H
         exact xe [0,0,0,1,0,0,0] _ [0,0] [0,0] (hN1 () H)
 · intro N0 hN0
   refine bindG H fun y1_1 hy1_1 H => ?_
   refine xc [0,1,1] [] [] (pchkF p0a p0c hy1_1) fun _ => ?_
   refine xs [2,3,4] H ?_ ?_
   · intro H
     refine xg [1,5,1,1,6,1,7,1,8,1,9,1] [] [0] (gh_open (HomeO h hc)) fun ⟨b_dir13, b_turns14, a_c_init15, c_c_init16⟩ => ?_
     refine xs [1,0,10,1,11,1,12,13] H ?_ ?_
     · intro H
       refine xg [1,14,1,2,15,1,16,1,17,1,18,1,19,1,0,20,1,21,1,22] [0] [0,0,0] (gh_shut (HomeO h hc) (b_dir13, b_turns14, a_c_init15, c_c_init16)) fun _ => ?_
       exact xe [] _ [0,0] [0,0] (hN0 (decide (p.src < hc.c.nodes)) H)
     · intro H
       refine xg [0,14,0,15,0,16,0,17,0,18,0,19,0,20,0,21,0,22] [0] [0,0,0] (gh_shut (HomeO h hc) (b_dir13, b_turns14, a_c_init15, c_c_init16)) fun _ => ?_
       exact xe [] _ [0,0] [0,0] (hN0 (false) H)
   · intro H
     exact xe [0,5,0,6,0,7,0,8,0,9,0,10,0,11,0,12,13,0,14,0,15,0,16,0,17,0,18,0,19,0,20,0,21,0,22] _ [0,0] [0,0] (hN0 (false) H)
end Go.Proofs.YtcidmgkfaioceaaGreat
