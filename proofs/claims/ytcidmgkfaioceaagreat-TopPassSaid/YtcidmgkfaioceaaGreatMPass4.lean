/- Walks of the program's functions, and the plain laws of what they compute (part 4): Rng, LayS, SrtT, Val, Srt, Rdy, Crb, Dls, Net, Star, Fab.
   Conditions: none. -/
import Derived.RangeFuncLeaves
import Derived.RangeFuncRecord
import Derived.RangeFuncSeq
import Derived.Shelf.SlGeneric
import Derived.Shelf.SlIterI.Sorted
import Derived.Shelf.SortM.Plain
import Derived.Shelf.SortM.SortNone
import Derived.Ground.GgzProg
import Derived.Ground.SlgmProg
import Derived.Sort.Row
import Derived.Sort.Grow
import Derived.Lib.SlKeysI
import Derived.Test.YtcidmgkfaioceaaGreatMPass3
set_option linter.unusedVariables false
set_option linter.unusedSimpArgs false
set_option linter.unusedSectionVars false
namespace Go.Proofs.YtcidmgkfaioceaaGreat
open Go Go.RowKit
set_option linter.unusedVariables false
set_option linter.unusedSimpArgs false

def mkD (D : Nat) : Deferred := { target := .collected D, args := #[] }
/-! Functions that hold such a loop. -/
theorem Tr.enterM {P : Program} {f : FuncId} {fn : Func} {c : Code} {args : List Value} {W0 : World} {Γ : List Asn} {R : Value → List Asn → Prop} (n : Nat)
    (hf : P.funcs[f]? = some fn) (hb : fn.body = some c) (hn : Nat.max args.length fn.ntmps = n) (h : At ⟨n, [], none⟩ W0 (argEnv 0 args) Γ (wpF ⟨n, [], none⟩ P c (bodyPostM Fence.wide 0 P fn (Back W0 R)))) : Tr P f args.toArray W0 Γ R := by
  intro w hw
  refine callsIn_wide.1 (callsIn_of_wp_marks (F := Fence.wide) (n := 0) hf hb trivial (h _ w ⟨?_, rfl, ?_⟩ hw))
  · subst hn
    simp
    show args.length + (fn.ntmps - args.length) = max args.length fn.ntmps
    omega
  · intro t v hv
    obtain ⟨_, h2⟩ := argEnv_get _ _ _ _ hv
    have hlt : t < args.length := by
      rcases Nat.lt_or_ge t args.length with h | h
      · exact h
      · simp [h] at h2
    simp only [Nat.sub_zero] at h2
    simp only [List.size_toArray, Array.getElem?_append, hlt, if_true]
    simpa using h2
def ctxM (P : Program) (fn : Func) (n : Fm) (W0 : World) (F : List Asn) {Y Z : Type} (rv : Y → Z → Value) (post : Y → Z → Rs) (y : Y) : Ctx :=
  ⟨P, n, W0, F, bodyPostM Fence.wide 0 P fn (Back W0 fun r Δ => ∃ z, r = rv y z ∧ Δ = (post y z).all F)⟩
theorem xfM {P : Program} {f : FuncId} {args : List Value} {pre : Rs} {Y Z : Type} {rv : Y → Z → Value} {post : Y → Z → Rs} {y : Y} {fn : Func} (hf : P.funcs[f]? = some fn) (k : ∀ W0 F, G (ctxM P fn ⟨Nat.max args.length fn.ntmps, [], none⟩ W0 F rv post y) ⟨.code (bodyOf fn), [], argEnv 0 args, pre.own, pre.gam⟩)
    (hb : fn.body = some (bodyOf fn) := by kernel_rfl) : FnY P f args pre rv post y := by
  intro W0 Γ
  exact Tr.enterM (Nat.max args.length fn.ntmps) hf hb rfl (k W0 Γ).get
section sat
variable {W0 w : World} {Γ : List Asn}
theorem Sat.putObj {b : Nat} {o o' : Obj} (h : Sat W0 (Asn.own b o :: Γ) w) : Sat W0 (Asn.own b o' :: Γ) (w.putObj b o') := by
  have hb := h.own_at
  have hlt : b < w.heap.size := (Array.getElem?_eq_some_iff.1 hb).1
  exact h.put rfl rfl rfl World.putObj_size (World.putObj_heap_same hlt) fun c hc => World.putObj_heap_other hc
end sat
def XS.unD (s : XS) (D j : Nat) : XS := ⟨s.pos, s.stk, s.env, s.own, Asn.own D (.deferred none) :: delA s.gam j⟩
/-- The end of a function that holds such a loop, behind it. -/
theorem xrM {P : Program} {fn : Func} {m D : Nat} {W0 : World} {F : List Asn} {Y Z : Type} {y y' : Y} (e : y' = y) {rv : Y → Z → Value} {post : Y → Z → Rs} {s : XS} (h hr io ia : List Nat) (j : Nat) (z : Z)
    (hq : (s.dq (ctxM P fn ⟨m, [mkD D], none⟩ W0 F rv post y) h).map (·.1) = (s.dq (ctxM P fn ⟨m, [mkD D], none⟩ W0 F rv post y) h).map (·.2) := by kernel_rfl) (hp : s.dp (ctxM P fn ⟨m, [mkD D], none⟩ W0 F rv post y) h = [] := by kernel_rfl)
    (he : isEnd (s.dr (ctxM P fn ⟨m, [mkD D], none⟩ W0 F rv post y) h) = true := by kernel_rfl) (hj : nthA (s.dr (ctxM P fn ⟨m, [mkD D], none⟩ W0 F rv post y) h).gam j = Asn.own D (.deferred (some [])) := by kernel_rfl)
    (hrq : oks (resQ (resOf P ((s.dr (ctxM P fn ⟨m, [mkD D], none⟩ W0 F rv post y) h).unD D j) fn.results.toList hr)) = okr (resQ (resOf P ((s.dr (ctxM P fn ⟨m, [mkD D], none⟩ W0 F rv post y) h).unD D j) fn.results.toList hr)) := by kernel_rfl)
    (hrv : resV (resOf P ((s.dr (ctxM P fn ⟨m, [mkD D], none⟩ W0 F rv post y) h).unD D j) fn.results.toList hr) = rv y' z := by kernel_rfl) (hpo : pkO io ((s.dr (ctxM P fn ⟨m, [mkD D], none⟩ W0 F rv post y) h).unD D j).own = (post y' z).own := by kernel_rfl)
    (hpa : pkA ia ((s.dr (ctxM P fn ⟨m, [mkD D], none⟩ W0 F rv post y) h).unD D j).gam = (post y' z).gam := by kernel_rfl) :
    G (ctxM P fn ⟨m, [mkD D], none⟩ W0 F rv post y) s := by
  subst e
  refine ⟨x0 h ?_ hq hp⟩
  generalize s.dr (ctxM P fn ⟨m, [mkD D], none⟩ W0 F rv post y') h = s at *
  obtain ⟨q, hq2, hq3⟩ := oks_ok hrq
  cases ho : resOf P (s.unD D j) fn.results.toList hr with
  | none => rw [ho] at hq2; cases hq2
  | some x =>
    obtain ⟨vs, q'⟩ := x
    rw [ho] at hq2 hrv
    obtain rfl := Option.some.inj hq2
    have hres := resOf_ok (W0 := W0) (F := F) ho hq3
    have hgo : ∀ w, Sat W0 ((s.unD D j).all F) w → Sat W0 ((post y' z).all F) w := fun w hw => by
      have h1 := sat_take io ia hw
      rw [hpo, hpa] at h1
      refine h1.imp fun S I hs => ?_
      have h2 : Star (owns (post y' z).own ++ ((post y' z).gam ++ (owns (rsO io (s.unD D j).own) ++ (rsA ia (s.unD D j).gam ++ F)))) S I (fun b => w.heap[b]?) := hs
      have h3 : Star ((owns (post y' z).own ++ (post y' z).gam) ++ (owns (rsO io (s.unD D j).own) ++ (rsA ia (s.unD D j).gam ++ F))) S I (fun b => w.heap[b]?) := by simpa using h2
      obtain ⟨S1, S2, q1, q2, q3, q4, q5⟩ := h3.append_of
      have h4 : Star ((owns (rsO io (s.unD D j).own) ++ rsA ia (s.unD D j).gam) ++ F) S2 I (fun b => w.heap[b]?) := by simpa using q5
      obtain ⟨T1, T2, k1, k2, k3, k4, k5⟩ := h4.append_of
      have := Star.append (S1 := S1) (S2 := T2) q1 (fun b hb => q2 b (k2 b hb)) (fun b hs ht => q3 b hs (k2 b ht)) q4 k5
      simpa [Rs.all] using this
    have fin : ∀ a w, EnvOk ⟨m, [mkD D], none⟩ s.env a → Sat W0 (s.all F) w → LeavesInM Fence.wide 0 P fn a.tmps (Back W0 fun r Δ => ∃ z, r = rv y' z ∧ Δ = (post y' z).all F) a.defers .returning w := fun a w ha hw => by
      have hd : a.defers = [mkD D] := ha.defers
      rw [hd]
      have h1 : Sat W0 (s.gam ++ (owns s.own ++ F)) w := Sat.swap hw
      have h2 := sat_nthA (i := j) h1
      rw [hj] at h2
      have h3 : Sat W0 (Asn.own D (.deferred none) :: (delA s.gam j ++ (owns s.own ++ F))) (w.putObj D (.deferred none)) := Sat.putObj h2
      have h4 : Sat W0 ((s.unD D j).all F) (w.putObj D (.deferred none)) := by
        have h5 : Sat W0 ((Asn.own D (.deferred none) :: delA s.gam j) ++ (owns s.own ++ F)) (w.putObj D (.deferred none)) := h3
        exact Sat.swap h5
      have ha2 : EnvOk ⟨m, [mkD D], none⟩ (s.unD D j).env a := ha
      exact ⟨by simp, .inl ⟨D, _, rfl, run_takeDeferred h2.own_at, packed vs, run_mapM_results ha2 h4 fn vs hres, _, _, rfl, ⟨z, hrv, rfl⟩, hgo _ h4⟩⟩
    unfold GP
    unfold isEnd at he
    split at he
    · rename_i h1 h2
      rw [h1, h2]
      exact fin
    · rename_i h1 h2
      rw [h1, h2]
      exact fin
    · cases he
/-- The end of such a function ahead of its loop. -/
theorem xrM0 {P : Program} {fn : Func} {m : Nat} {W0 : World} {F : List Asn} {Y Z : Type} {y y' : Y} (e : y' = y) {rv : Y → Z → Value} {post : Y → Z → Rs} {s : XS} (h hr io ia : List Nat) (z : Z)
    (hq : (s.dq (ctxM P fn ⟨m, [], none⟩ W0 F rv post y) h).map (·.1) = (s.dq (ctxM P fn ⟨m, [], none⟩ W0 F rv post y) h).map (·.2) := by kernel_rfl) (hp : s.dp (ctxM P fn ⟨m, [], none⟩ W0 F rv post y) h = [] := by kernel_rfl)
    (he : isEnd (s.dr (ctxM P fn ⟨m, [], none⟩ W0 F rv post y) h) = true := by kernel_rfl) (hrq : oks (resQ (resOf P (s.dr (ctxM P fn ⟨m, [], none⟩ W0 F rv post y) h) fn.results.toList hr)) = okr (resQ (resOf P (s.dr (ctxM P fn ⟨m, [], none⟩ W0 F rv post y) h) fn.results.toList hr)) := by kernel_rfl)
    (hrv : resV (resOf P (s.dr (ctxM P fn ⟨m, [], none⟩ W0 F rv post y) h) fn.results.toList hr) = rv y' z := by kernel_rfl) (hpo : pkO io (s.dr (ctxM P fn ⟨m, [], none⟩ W0 F rv post y) h).own = (post y' z).own := by kernel_rfl)
    (hpa : pkA ia (s.dr (ctxM P fn ⟨m, [], none⟩ W0 F rv post y) h).gam = (post y' z).gam := by kernel_rfl) : G (ctxM P fn ⟨m, [], none⟩ W0 F rv post y) s := by
  subst e
  refine ⟨x0 h ?_ hq hp⟩
  generalize s.dr (ctxM P fn ⟨m, [], none⟩ W0 F rv post y') h = s at *
  obtain ⟨q, hq2, hq3⟩ := oks_ok hrq
  cases ho : resOf P s fn.results.toList hr with
  | none => rw [ho] at hq2; cases hq2
  | some x =>
    obtain ⟨vs, q'⟩ := x
    rw [ho] at hq2 hrv
    obtain rfl := Option.some.inj hq2
    have hres := resOf_ok (W0 := W0) (F := F) ho hq3
    have hgo : ∀ w, Sat W0 (s.all F) w → Sat W0 ((post y' z).all F) w := fun w hw => by
      have h1 := sat_take io ia hw
      rw [hpo, hpa] at h1
      refine h1.imp fun S I hs => ?_
      have h2 : Star (owns (post y' z).own ++ ((post y' z).gam ++ (owns (rsO io s.own) ++ (rsA ia s.gam ++ F)))) S I (fun b => w.heap[b]?) := hs
      have h3 : Star ((owns (post y' z).own ++ (post y' z).gam) ++ (owns (rsO io s.own) ++ (rsA ia s.gam ++ F))) S I (fun b => w.heap[b]?) := by simpa using h2
      obtain ⟨S1, S2, q1, q2, q3, q4, q5⟩ := h3.append_of
      have h4 : Star ((owns (rsO io s.own) ++ rsA ia s.gam) ++ F) S2 I (fun b => w.heap[b]?) := by simpa using q5
      obtain ⟨T1, T2, k1, k2, k3, k4, k5⟩ := h4.append_of
      have := Star.append (S1 := S1) (S2 := T2) q1 (fun b hb => q2 b (k2 b hb)) (fun b hs ht => q3 b hs (k2 b ht)) q4 k5
      simpa [Rs.all] using this
    have hR : ∃ z', packed vs = rv y' z' ∧ (post y' z).all F = (post y' z').all F := ⟨z, hrv, rfl⟩
    have key : ∀ {a : Act} {w : World}, bodyPost P fn (Back W0 fun r Δ => ∃ z, r = rv y' z ∧ Δ = (post y' z).all F) .ret a w → LeavesInM Fence.wide 0 P fn a.tmps (Back W0 fun r Δ => ∃ z, r = rv y' z ∧ Δ = (post y' z).all F) a.defers .returning w := by
      rintro a w ⟨h1, h2⟩
      rw [h1]
      exact h2
    unfold GP
    unfold isEnd at he
    split at he
    · rename_i h1 h2
      rw [h1, h2]
      exact fun a w ha hw => key (at_back (n := ⟨m, [], none⟩) rfl vs _ hres hgo hR a w ha hw)
    · rename_i h1 h2
      rw [h1, h2]
      exact fun a w ha hw => key (at_back (n := ⟨m, [], none⟩) rfl vs _ hres hgo hR a w ha hw)
    · cases he
/-! The function that gives the values. -/
/-- A round's yield: called with the i-th values it answers true. -/
def YOk (P : Program) (W0 : World) (F : List Asn) (A : Rs) (l : Nat) (enc : Nat → List Value) (N : Nat) (Ω : Nat → Asn) : Prop :=
  ∀ i w, i < N → Sat W0 (owns A.own ++ ((Ω i :: A.gam) ++ F)) w → YieldAt Fence.wide 0 P l (enc i).toArray w fun e w' => e = .returned (.bool true) ∧ Sat W0 (owns A.own ++ ((Ω (i + 1) :: A.gam) ++ F)) w'
def ItFn (P : Program) (gf : FuncId) (caps : List Value) (A : Rs) (enc : Nat → List Value) (N : Nat) : Prop :=
  ∀ W0 F l Ω, YOk P W0 F A l enc N Ω → Tr P gf ((.func (.yield l) #[] #[] :: caps).toArray) W0 (owns A.own ++ ((Ω 0 :: A.gam) ++ F)) fun _ Δ => Δ = owns A.own ++ ((Ω N :: A.gam) ++ F)
theorem xfI {P : Program} {gf : FuncId} {caps : List Value} {A : Rs} {enc : Nat → List Value} {N : Nat} {fn : Func} (hf : P.funcs[gf]? = some fn)
    (k : ∀ W0 F l Ω, YOk P W0 F A l enc N Ω → G (ctx P fn ⟨Nat.max (caps.length + 1) fn.ntmps, [], none⟩ W0 F (fun _ : Unit => .tuple #[]) (fun _ => ⟨A.own, Ω N :: A.gam⟩)) ⟨.code (bodyOf fn), [], argEnv 0 (.func (.yield l) #[] #[] :: caps), A.own, Ω 0 :: A.gam⟩)
    (hb : fn.body = some (bodyOf fn) := by kernel_rfl) : ItFn P gf caps A enc N := by
  intro W0 F l Ω hY
  have h1 : Tr P gf ((.func (.yield l) #[] #[] :: caps).toArray) W0 (owns A.own ++ ((Ω 0 :: A.gam) ++ F)) fun r Δ => ∃ z : Unit, r = .tuple #[] ∧ Δ = (⟨A.own, Ω N :: A.gam⟩ : Rs).all F := Tr.enter (Nat.max (caps.length + 1) fn.ntmps) hf hb rfl (k W0 F l Ω hY).get
  exact h1.mono fun r Δ ⟨_, _, h⟩ => h
/-- yield is called. -/
theorem xy {X : Ctx} {s : XS} {A : Rs} {l : Nat} {enc : Nat → List Value} {N : Nat} {Ω : Nat → Asn} (hY : YOk X.P X.W0 X.F A l enc N Ω) (i : Nat) (hi : i < N) (h io ia : List Nat)
    (k : G X ((s.dr X h).put io ia (.bool true) ⟨A.own, Ω (i + 1) :: A.gam⟩))
    (hq : (s.dq X h).map (·.1) = (s.dq X h).map (·.2) := by kernel_rfl) (hp : s.dp X h = [] := by kernel_rfl) (he : ∀ w, (s.dr X h).sem.run X.P w = (Instr.yield l (enc i).toArray).run X.P w := by intro _; kernel_rfl)
    (hpo : pkO io (s.dr X h).own = A.own := by kernel_rfl) (hpa : pkA ia (s.dr X h).gam = Ω i :: A.gam := by kernel_rfl) (hro : rsO io (s.dr X h).own = [] := by kernel_rfl) (hra : rsA ia (s.dr X h).gam = [] := by kernel_rfl)
    (h1 : oks ((s.dr X h).ok1 X.n) = okr ((s.dr X h).ok1 X.n) := by kernel_rfl)
    (h2 : oks ((s.dr X h).okP X io ia (.bool true) ⟨A.own, Ω (i + 1) :: A.gam⟩) = okr ((s.dr X h).okP X io ia (.bool true) ⟨A.own, Ω (i + 1) :: A.gam⟩) := by kernel_rfl) (h3 : (s.dr X h).ol1 = (s.dr X h).olP io ia ⟨A.own, Ω (i + 1) :: A.gam⟩ := by kernel_rfl) : G X s := by
  refine ⟨x0 h ?_ hq hp⟩
  generalize s.dr X h = s at *
  obtain ⟨q, hq, hq2⟩ := oks_ok h1
  refine putZ_ok (Z := Unit) (fun _ => .bool true) (fun _ => A.own ++ rsO io s.own) (fun _ => (Ω (i + 1) :: A.gam) ++ rsA ia s.gam) (fun _ => upI io ia A.own.length (Ω (i + 1) :: A.gam).length) hq hq2 (fun _ => oks_ok h2) (fun _ => h3) ?_ (fun _ => k.get)
  intro w hw ro o a K Q kk
  have hw2 := sat_take io ia hw
  rw [hpo, hpa, hro, hra] at hw2
  have hw3 : Sat X.W0 (owns A.own ++ ((Ω i :: A.gam) ++ X.F)) w := hw2
  obtain ⟨fn, tmps, assign, body, hrun, hround⟩ := hY i w hi hw3
  have e : (execOp (ev s.env) (bare s.op.op s.op.type)).run X.P w = (Instr.yield l (enc i).toArray).run X.P w := he w
  rw [e, hrun]
  refine ⟨fun h => (by cases h), ?_⟩
  have h5 : RoundIn Fence.wide 0 X.P l fn tmps assign body w fun
      | .returned v, w'' => K (a.put o.dst v) w''
      | .panicked chain, w'' => Q (.panic chain) a w''
      | .outgrown, _ => LetsOut Q := hround.mono fun e w' ⟨he, hs⟩ => by
    subst he
    refine kk _ _ w' ⟨(), rfl, rfl⟩ ?_
    rw [hro, hra]
    simpa using hs
  exact ⟨trivial, h5.2⟩
/-! The loop. -/
theorem wpK_ro {n n' : Fm} {P : Program} {Q0 : Exit → Act → World → Prop} (h : n.ro = n'.ro) : ∀ stk, wpK n P Q0 stk = wpK n' P Q0 stk
  | [] => rfl
  | .thn c :: s => by unfold wpK; rw [wpK_ro h s]; unfold wpF; rw [h]
  | .blk i :: s => by unfold wpK; rw [wpK_ro h s]
  | .rnd N :: s => by unfold wpK; rw [wpK_ro h s]
section perm
variable {W0 w : World} {A B C : List Asn} {x : Asn}
theorem Sat.pull2 (h : Sat W0 (A ++ (B ++ x :: C)) w) : Sat W0 (x :: (A ++ (B ++ C))) w := by
  have h1 : Sat W0 ((A ++ B) ++ ([x] ++ C)) w := by simpa using h
  have h2 := h1.swap
  simpa using h2
theorem Sat.push2 (h : Sat W0 (x :: (A ++ (B ++ C))) w) : Sat W0 (A ++ (B ++ x :: C)) w := by
  have h1 : Sat W0 ([x] ++ ((A ++ B) ++ C)) w := by simpa using h
  have h2 := h1.swap
  simpa using h2
end perm
def codeP : Pos → Code
  | .code c => c
  | _ => .skip
def rfG : Code → Operand
  | .rangeFunc g _ _ _ => g
  | _ => .const undef
def rfA : Code → Code
  | .rangeFunc _ _ a _ => a
  | _ => .skip
def rfB : Code → Code
  | .rangeFunc _ _ _ b => b
  | _ => .skip
theorem xrg {X : Ctx} {s : XS} (h io ia jo ja : List Nat) {gf : FuncId} {caps : List Value} {A : Rs} {N : Nat} {Z : Type} (v : Nat → Value) (p : Nat) (hIt : ItFn X.P gf caps A (fun i => [v i]) N) (e1 : Env) (e2 : Nat → Env) (Φ : Nat → Z → Rs) (z0 : Z)
    (hassign : ∀ l F N1 i z, i < N → (∀ a w, EnvOk ⟨X.n.n, [], some l⟩ (e2 i) a → Sat X.W0 (owns (Φ i z).own ++ ((Φ i z).gam ++ F)) w → N1 a w) →
      G ⟨X.P, ⟨X.n.n, [], some l⟩, X.W0, F, fun _ _ _ => False⟩ ⟨.code (rfA (codeP (s.dr X h).pos)), [.rnd N1], (p, v i) :: e1, (Φ i z).own, (Φ i z).gam⟩)
    (hbody : ∀ l F N2 i z, i < N → (∀ z' a w, Sat X.W0 (owns (Φ (i + 1) z').own ++ ((Φ (i + 1) z').gam ++ F)) w → N2 a w) →
      G ⟨X.P, ⟨X.n.n, [], some l⟩, X.W0, F, fun _ _ _ => False⟩ ⟨.code (rfB (codeP (s.dr X h).pos)), [.rnd N2], e2 i, (Φ i z).own, (Φ i z).gam⟩)
    (k : ∀ z D, G ⟨X.P, ⟨X.n.n, mkD D :: X.n.ds, none⟩, X.W0, X.F, X.Q0⟩ ⟨.ex .normal, (s.dr X h).stk, (s.dr X h).env, A.own ++ (Φ N z).own, Asn.own D (.deferred (some [])) :: (A.gam ++ (Φ N z).gam)⟩)
    (eg : ∀ args w, (callFunc gf args).run X.P w = .ok (.enter gf args) w)
    (hq : (s.dq X h).map (·.1) = (s.dq X h).map (·.2) := by kernel_rfl) (hp : s.dp X h = [] := by kernel_rfl)
    (hpos : (s.dr X h).pos = .code (.rangeFunc (rfG (codeP (s.dr X h).pos)) #[p] (rfA (codeP (s.dr X h).pos)) (rfB (codeP (s.dr X h).pos))) := by kernel_rfl) (hro : X.n.ro = none := by kernel_rfl)
    (hg : ev (s.dr X h).env (rfG (codeP (s.dr X h).pos)) = .func (.func gf) #[] caps.toArray := by kernel_rfl) (hgk : knows (s.dr X h).env (rfG (codeP (s.dr X h).pos)) = true := by kernel_rfl)
    (hpn : Nat.blt p X.n.n = true := by kernel_rfl) (he : looks (s.dr X h).env (slots e1) = vals e1 := by kernel_rfl) (hk : (slots e1).all (fun t => (lk (s.dr X h).env t).isSome) = true := by kernel_rfl)
    (hpo : pkO io (s.dr X h).own = A.own := by kernel_rfl) (hpa : pkA ia (s.dr X h).gam = A.gam := by kernel_rfl)
    (hqo : pkO jo (rsO io (s.dr X h).own) = (Φ 0 z0).own := by kernel_rfl) (hqa : pkA ja (rsA ia (s.dr X h).gam) = (Φ 0 z0).gam := by kernel_rfl) : G X s := by
  refine ⟨x0 h ?_ hq hp⟩
  generalize s.dr X h = s at *
  generalize codeP s.pos = cc at *
  generalize rfG cc = g at *
  generalize rfA cc = assign at *
  generalize rfB cc = body at *
  unfold GP
  rw [hpos]
  simp only
  intro a w ha hw
  unfold wpF
  rw [hro]
  have hsub := sub_of he hk
  have hga : a.eval g = .func (.func gf) #[] caps.toArray := (ha.eval hgk).trans hg
  have hpl : p < X.n.n := by simpa using hpn
  -- the record of the loop
  let B := owns A.own ++ A.gam
  refine wpIn_rangeFunc fun fn hfn => ?_
  let rec0 : Loop := { state := .ready, pending := none, fn := fn, tmps := a.tmps, params := #[p], assign := assign, body := body, defers := w.heap.size }
  let D := w.heap.size
  let L := w.heap.size + 1
  let w1 := (w.alloc (.deferred (some []))).alloc (.loop rec0)
  let Ω : Nat → Asn := fun i => .ex fun z => .star (owns (Φ i z).own ++ ((Φ i z).gam ++ (Asn.own L (.loop rec0) :: (Asn.own D (.deferred (some [])) :: X.F))))
  have toO : ∀ {i : Nat} {w : World}, Sat X.W0 (owns A.own ++ ((Ω i :: A.gam) ++ [])) w → ∃ z, Sat X.W0 (owns (Φ i z).own ++ ((Φ i z).gam ++ (Asn.own L (.loop rec0) :: (Asn.own D (.deferred (some [])) :: (X.F ++ B))))) w := by
    intro i w hw
    have h1 : Sat X.W0 (owns A.own ++ ([Ω i] ++ A.gam)) w := by simpa using hw
    have h2 : Sat X.W0 (Ω i :: B) w := h1.swap
    obtain ⟨z, h3⟩ := h2.ex_of
    exact ⟨z, by simpa [List.append_assoc] using h3.star_of⟩
  have ofO : ∀ {i : Nat} {w : World} {z : Z}, Sat X.W0 (owns (Φ i z).own ++ ((Φ i z).gam ++ (Asn.own L (.loop rec0) :: (Asn.own D (.deferred (some [])) :: (X.F ++ B))))) w → Sat X.W0 (owns A.own ++ ((Ω i :: A.gam) ++ [])) w := by
    intro i w z hw
    have h1 : Sat X.W0 (Ω i :: B) w := Sat.ex_mk z (Sat.star_mk (by simpa [List.append_assoc] using hw))
    have h2 : Sat X.W0 ([Ω i] ++ (owns A.own ++ A.gam)) w := h1
    simpa using h2.swap
  -- ahead of the first round
  have hw0 : Sat X.W0 (owns A.own ++ ((Ω 0 :: A.gam) ++ [])) w1 := by
    have h1 := sat_take io ia hw
    rw [hpo, hpa] at h1
    have h2 : Sat X.W0 ((owns (rsO io s.own) ++ (rsA ia s.gam ++ X.F)) ++ (B ++ [])) w := by
      have : Sat X.W0 (B ++ ((owns (rsO io s.own) ++ (rsA ia s.gam ++ X.F)) ++ [])) w := by simpa [Rs.all, B, List.append_assoc] using h1
      exact this.swap
    have h3 := sat_take (F := X.F ++ B) jo ja (show Sat X.W0 (owns (rsO io s.own) ++ (rsA ia s.gam ++ (X.F ++ B))) w by simpa [List.append_assoc] using h2)
    rw [hqo, hqa] at h3
    have h4 : Sat X.W0 (owns (Φ 0 z0).own ++ ((Φ 0 z0).gam ++ (X.F ++ B))) w := by
      have h5 : Sat X.W0 ((owns (rsO jo (rsO io s.own)) ++ rsA ja (rsA ia s.gam)) ++ ((owns (Φ 0 z0).own ++ (Φ 0 z0).gam) ++ (X.F ++ B))) w := by
        have : Sat X.W0 ((owns (Φ 0 z0).own ++ (Φ 0 z0).gam) ++ ((owns (rsO jo (rsO io s.own)) ++ rsA ja (rsA ia s.gam)) ++ (X.F ++ B))) w := by simpa [Rs.all, List.append_assoc] using h3
        exact this.swap
      have drop : ∀ {L M : List Asn}, Sat X.W0 (L ++ M) w → Sat X.W0 M w := by
        intro L M
        induction L with
        | nil => exact id
        | cons x L ih => exact fun h => ih (Sat.tail h)
      simpa [List.append_assoc] using drop h5
    have h6 := (h4.alloc (.deferred (some []))).alloc (.loop rec0)
    have hD : (w.alloc (.deferred (some []))).heap.size = L := World.size_alloc ..
    change Sat X.W0 (Asn.own (w.alloc (.deferred (some []))).heap.size (.loop rec0) :: Asn.own D (.deferred (some [])) :: (owns (Φ 0 z0).own ++ ((Φ 0 z0).gam ++ (X.F ++ B)))) w1 at h6
    rw [hD] at h6
    have h7 : Sat X.W0 (owns (Φ 0 z0).own ++ ((Φ 0 z0).gam ++ (Asn.own L (.loop rec0) :: (Asn.own D (.deferred (some [])) :: (X.F ++ B))))) w1 := Sat.push2 (by
      have h8 : Sat X.W0 ([Asn.own L (.loop rec0)] ++ ([Asn.own D (.deferred (some []))] ++ (owns (Φ 0 z0).own ++ ((Φ 0 z0).gam ++ (X.F ++ B))))) w1 := h6
      have h9 : Sat X.W0 ([Asn.own D (.deferred (some []))] ++ ([Asn.own L (.loop rec0)] ++ (owns (Φ 0 z0).own ++ ((Φ 0 z0).gam ++ (X.F ++ B))))) w1 := h8.swap
      have h10 : Sat X.W0 (([Asn.own L (.loop rec0)] ++ owns (Φ 0 z0).own) ++ ((Φ 0 z0).gam ++ Asn.own D (.deferred (some [])) :: (X.F ++ B))) w1 := Sat.push2 (A := [Asn.own L (.loop rec0)] ++ owns (Φ 0 z0).own) (by simpa using h9)
      simpa using h10)
    exact ofO h7
  -- the rounds
  have hY : YOk X.P X.W0 [] A L (fun i => [v i]) N Ω := by
    intro i w' hi hw'
    obtain ⟨z, hz⟩ := toO hw'
    have hL := (Sat.pull2 hz).own_at
    have hy := run_yield (P := X.P) (args := #[v i]) hL rfl
    refine ⟨_, _, _, _, hy, roundIn_of_wpIn trivial ?_⟩
    have ha' : EnvOk ⟨X.n.n, [], some L⟩ ((p, v i) :: e1) { tmps := a.tmps.setIfInBounds p (v i), defers := [] } := by
      have h1 := (ha.sub hsub).put hpl (v i)
      exact ⟨h1.size, rfl, h1.get⟩
    have hA := (hassign L (Asn.own L (.loop rec0) :: (Asn.own D (.deferred (some [])) :: (X.F ++ B))) (fun a₁ w₁ => ∃ w₂, (Instr.beginRound L).run X.P w₁ = .ok () w₂ ∧ body.wpIn (Fence.wide.inRound L) 0 X.P (roundPost X.P L fun e w' => e = .returned (.bool true) ∧ Sat X.W0 (owns A.own ++ ((Ω (i + 1) :: A.gam) ++ [])) w') a₁ w₂) i z hi ?_).get
    · refine hA _ w' ?_ hz
      have h1 : EnvOk ⟨X.n.n, [], some L⟩ ((p, v i) :: e1) { tmps := a.tmps.setIfInBounds p (v i), defers := [] } := ha'
      have hfold : (rec0.params.zip #[v i]).foldl (fun tmps (x : Nat × Value) => match x with | (t, a) => tmps.setIfInBounds t a) rec0.tmps = a.tmps.setIfInBounds p (v i) := by simp [rec0]
      exact hfold.symm ▸ h1
    · intro a₁ w₁ ha₁ hw₁
      have h1 := Sat.pull2 hw₁
      have hL1 := h1.own_at
      refine ⟨_, run_beginRound hL1 rfl, ?_⟩
      have h2 : Sat X.W0 (Asn.own L (.loop { rec0 with state := .busy }) :: (owns (Φ i z).own ++ ((Φ i z).gam ++ (Asn.own D (.deferred (some [])) :: (X.F ++ B))))) (w₁.putObj L (.loop { rec0 with state := .busy })) := Sat.putObj h1
      have h3 := Sat.push2 h2
      have hB := (hbody L (Asn.own L (.loop { rec0 with state := .busy }) :: (Asn.own D (.deferred (some [])) :: (X.F ++ B))) (fun a₂ w₂ => ∃ v w', (Instr.endRound L none).run X.P w₂ = .ok v w' ∧ (Ending.returned v = .returned (.bool true) ∧ Sat X.W0 (owns A.own ++ ((Ω (i + 1) :: A.gam) ++ [])) w')) i z hi ?_).get
      · have hB2 := hB a₁ _ ha₁ h3
        refine wpIn_mono hB2 fun e a₂ w₂ hq => ?_
        cases e with
        | normal => exact hq
        | _ => exact hq.elim
      · intro z' a₂ w₂ hw₂
        have h4 := Sat.pull2 hw₂
        have hL2 := h4.own_at
        refine ⟨_, _, run_endRound none hL2, rfl, ?_⟩
        have h5 : Sat X.W0 (Asn.own L (.loop rec0) :: (owns (Φ (i + 1) z').own ++ ((Φ (i + 1) z').gam ++ (Asn.own D (.deferred (some [])) :: (X.F ++ B))))) (w₂.putObj L (.loop rec0)) := Sat.putObj h4
        exact ofO (Sat.push2 h5)
  have hT := hIt X.W0 [] L Ω hY w1 hw0
  refine ⟨L, [mkD D], w1, { target := .fn (.func gf) caps.toArray, args := #[.func (.yield L) #[] #[]] }, w1, gf, (.func (.yield L) #[] #[] :: caps).toArray, w1, run_enterLoop_outer fn a.tmps #[p] assign body, ?_, fun _ _ => trivial, ?_, fun h => (by cases h), callsIn_fen (hT.mono ?_)⟩
  · simp only [resolve, hga]
    simp [go_sem]
  · simp [invoke, go_sem, eg]
  · rintro e w' ⟨r, Γ', rfl, rfl, hs⟩
    obtain ⟨z, hz⟩ := toO hs
    have h1 := Sat.pull2 hz
    have hL := h1.own_at
    refine ⟨none, _, run_endLoop hL (by simp [rec0]), ?_⟩
    have h2 : Sat X.W0 (Asn.own L (.loop { rec0 with state := .exhausted }) :: (owns (Φ N z).own ++ ((Φ N z).gam ++ (Asn.own D (.deferred (some [])) :: (X.F ++ B))))) (w'.putObj L (.loop { rec0 with state := .exhausted })) := Sat.putObj h1
    have h3 := Sat.pull2 h2.tail
    have hk2 := (k z D).get
    unfold GP at hk2
    simp only at hk2
    show wpK X.n X.P X.Q0 s.stk .normal _ _
    rw [wpK_ro (n' := ⟨X.n.n, mkD D :: X.n.ds, none⟩) hro]
    refine hk2 _ _ ⟨ha.size, ?_, ha.get⟩ ?_
    · simp [ha.defers]
    · have perm : ∀ {d b e F a c : List Asn} {w : World}, Sat X.W0 (d ++ (b ++ (e ++ (F ++ (a ++ c))))) w → Sat X.W0 (a ++ (b ++ (d ++ (c ++ (e ++ F))))) w := by
        intro d b e F a c w h0
        have h1 : Sat X.W0 (F ++ ((d ++ (b ++ e)) ++ (a ++ c))) w := Sat.swap (by simpa [List.append_assoc] using h0)
        have h2 : Sat X.W0 (e ++ ((F ++ (d ++ b)) ++ (a ++ c))) w := Sat.swap (by simpa [List.append_assoc] using h1)
        have h3 : Sat X.W0 (c ++ ((e ++ (F ++ (d ++ (b ++ a)))) ++ [])) w := Sat.swap (by simpa [List.append_assoc] using h2)
        have h4 : Sat X.W0 (d ++ ((c ++ (e ++ F)) ++ (b ++ a))) w := Sat.swap (by simpa [List.append_assoc] using h3)
        have h5 : Sat X.W0 (b ++ ((d ++ (c ++ (e ++ F))) ++ a)) w := Sat.swap (by simpa [List.append_assoc] using h4)
        have h6 : Sat X.W0 (a ++ ((b ++ (d ++ (c ++ (e ++ F)))) ++ [])) w := Sat.swap (by simpa [List.append_assoc] using h5)
        simpa [List.append_assoc] using h6
      have h4 := perm (d := [Asn.own D (.deferred (some []))]) (b := owns (Φ N z).own) (e := (Φ N z).gam) (F := X.F) (a := owns A.own) (c := A.gam) (by simpa [B, List.append_assoc] using h3)
      unfold XS.all
      simp only [owns_append]
      simpa [List.append_assoc] using h4
theorem xrgM {P : Program} {fn : Func} {m : Nat} {W0 : World} {F : List Asn} {Y Z0 : Type} {rv : Y → Z0 → Value} {post : Y → Z0 → Rs} {y : Y} {s : XS} (h io ia jo ja : List Nat) {gf : FuncId} {caps : List Value} {A : Rs} {N : Nat} {Z : Type} (v : Nat → Value) (p : Nat) (hIt : ItFn P gf caps A (fun i => [v i]) N) (e1 : Env) (e2 : Nat → Env) (Φ : Nat → Z → Rs) (z0 : Z)
    (hassign : ∀ l F N1 i z, i < N → (∀ a w, EnvOk ⟨m, [], some l⟩ (e2 i) a → Sat W0 (owns (Φ i z).own ++ ((Φ i z).gam ++ F)) w → N1 a w) →
      G ⟨P, ⟨m, [], some l⟩, W0, F, fun _ _ _ => False⟩ ⟨.code (rfA (codeP (s.dr (ctxM P fn ⟨m, [], none⟩ W0 F rv post y) h).pos)), [.rnd N1], (p, v i) :: e1, (Φ i z).own, (Φ i z).gam⟩)
    (hbody : ∀ l F N2 i z, i < N → (∀ z' a w, Sat W0 (owns (Φ (i + 1) z').own ++ ((Φ (i + 1) z').gam ++ F)) w → N2 a w) →
      G ⟨P, ⟨m, [], some l⟩, W0, F, fun _ _ _ => False⟩ ⟨.code (rfB (codeP (s.dr (ctxM P fn ⟨m, [], none⟩ W0 F rv post y) h).pos)), [.rnd N2], e2 i, (Φ i z).own, (Φ i z).gam⟩)
    (k : ∀ z D, G (ctxM P fn ⟨m, [mkD D], none⟩ W0 F rv post y) ⟨.ex .normal, (s.dr (ctxM P fn ⟨m, [], none⟩ W0 F rv post y) h).stk, (s.dr (ctxM P fn ⟨m, [], none⟩ W0 F rv post y) h).env, A.own ++ (Φ N z).own, Asn.own D (.deferred (some [])) :: (A.gam ++ (Φ N z).gam)⟩)
    (eg : ∀ args w, (callFunc gf args).run P w = .ok (.enter gf args) w)
    (hq : (s.dq (ctxM P fn ⟨m, [], none⟩ W0 F rv post y) h).map (·.1) = (s.dq (ctxM P fn ⟨m, [], none⟩ W0 F rv post y) h).map (·.2) := by kernel_rfl) (hp : s.dp (ctxM P fn ⟨m, [], none⟩ W0 F rv post y) h = [] := by kernel_rfl)
    (hpos : (s.dr (ctxM P fn ⟨m, [], none⟩ W0 F rv post y) h).pos = .code (.rangeFunc (rfG (codeP (s.dr (ctxM P fn ⟨m, [], none⟩ W0 F rv post y) h).pos)) #[p] (rfA (codeP (s.dr (ctxM P fn ⟨m, [], none⟩ W0 F rv post y) h).pos)) (rfB (codeP (s.dr (ctxM P fn ⟨m, [], none⟩ W0 F rv post y) h).pos))) := by kernel_rfl)
    (hg : ev (s.dr (ctxM P fn ⟨m, [], none⟩ W0 F rv post y) h).env (rfG (codeP (s.dr (ctxM P fn ⟨m, [], none⟩ W0 F rv post y) h).pos)) = .func (.func gf) #[] caps.toArray := by kernel_rfl) (hgk : knows (s.dr (ctxM P fn ⟨m, [], none⟩ W0 F rv post y) h).env (rfG (codeP (s.dr (ctxM P fn ⟨m, [], none⟩ W0 F rv post y) h).pos)) = true := by kernel_rfl)
    (hpn : Nat.blt p m = true := by kernel_rfl) (he : looks (s.dr (ctxM P fn ⟨m, [], none⟩ W0 F rv post y) h).env (slots e1) = vals e1 := by kernel_rfl) (hk : (slots e1).all (fun t => (lk (s.dr (ctxM P fn ⟨m, [], none⟩ W0 F rv post y) h).env t).isSome) = true := by kernel_rfl)
    (hpo : pkO io (s.dr (ctxM P fn ⟨m, [], none⟩ W0 F rv post y) h).own = A.own := by kernel_rfl) (hpa : pkA ia (s.dr (ctxM P fn ⟨m, [], none⟩ W0 F rv post y) h).gam = A.gam := by kernel_rfl)
    (hqo : pkO jo (rsO io (s.dr (ctxM P fn ⟨m, [], none⟩ W0 F rv post y) h).own) = (Φ 0 z0).own := by kernel_rfl) (hqa : pkA ja (rsA ia (s.dr (ctxM P fn ⟨m, [], none⟩ W0 F rv post y) h).gam) = (Φ 0 z0).gam := by kernel_rfl) : G (ctxM P fn ⟨m, [], none⟩ W0 F rv post y) s :=
  xrg (X := (ctxM P fn ⟨m, [], none⟩ W0 F rv post y)) h io ia jo ja v p hIt e1 e2 Φ z0 hassign hbody k eg hq hp hpos rfl hg hgk hpn he hk hpo hpa hqo hqa
end Go.Proofs.YtcidmgkfaioceaaGreat
namespace Go.Proofs.YtcidmgkfaioceaaGreat
open Go Go.Proofs Go.Shelf
def layKeys_ren : Go.Shelf.Ren := ⟨fun | 7 => 225 | 10 => 240 | n => n, fun | 23 => 255 | 26 => 3 | 3 => 322 | 28 => 112 | 0 => 0 | 27 => 111 | 33 => 119 | 4 => 4 | n => n, fun | n => n⟩
theorem layKeys : Go.Proofs.SlLaysZI.n7 Tryz.prog layKeys_ren := {
  mixed := by kernel_rfl
  f7 := ⟨Tryz.f225.name, by decide, Tryz.func225.trans (congrArg some (by kernel_rfl))⟩
  f10 := ⟨Tryz.f240.name, by decide, Tryz.func240.trans (congrArg some (by kernel_rfl))⟩
  t0 := Tryz.underlying0
  a0 := Tryz.isAgg0
  z0 := Tryz.sizeOf0
  v0 := Tryz.zeroValue0
  t4 := Tryz.underlying4
  a4 := Tryz.isAgg4
  z4 := Tryz.sizeOf4
  v4 := Tryz.zeroValue4
  t23 := Tryz.underlying255
  a23 := Tryz.isAgg255
  z23 := Tryz.sizeOf255
  v23 := Tryz.zeroValue255
  t26 := Tryz.underlying3
  a26 := Tryz.isAgg3
  z26 := Tryz.sizeOf3
  v26 := Tryz.zeroValue3
  t27 := Tryz.underlying111
  a27 := Tryz.isAgg111
  z27 := Tryz.sizeOf111
  v27 := Tryz.zeroValue111
  t28 := Tryz.underlying112
  a28 := Tryz.isAgg112
  z28 := Tryz.sizeOf112
  v28 := Tryz.zeroValue112
  t33 := Tryz.underlying119
  a33 := Tryz.isAgg119
  z33 := Tryz.sizeOf119
  v33 := Tryz.zeroValue119 }
def laySorted_ren : Go.Shelf.Ren := ⟨fun | 6 => 50 | 8 => 91 | 9 => 92 | 11 => 130 | 13 => 132 | 12 => 131 | 23 => 174 | 24 => 175 | 14 => 165 | 15 => 166 | 16 => 167 | 17 => 168 | 18 => 169 | 19 => 170 | 20 => 171 | 21 => 172 | 22 => 173 | 25 => 207 | 26 => 208 | 27 => 209 | 28 => 210 | 29 => 211 | 30 => 212 | 31 => 234 | n => n, fun | 26 => 3 | 28 => 112 | 24 => 22 | 0 => 0 | 3 => 3 | 37 => 220 | 48 => 266 | 50 => 268 | 4 => 4 | 40 => 260 | 39 => 259 | 45 => 241 | 5 => 5 | 9 => 9 | 51 => 306 | 55 => 310 | 57 => 326 | 58 => 71 | 33 => 119 | n => n, fun | n => n⟩
theorem laySorted : Go.Proofs.SlLaysZI.n6 Tryz.prog laySorted_ren := {
  mixed := by kernel_rfl
  f6 := ⟨Tryz.f50.name, by decide, Tryz.func50.trans (congrArg some (by kernel_rfl))⟩
  f8 := ⟨Tryz.f91.name, by decide, Tryz.func91.trans (congrArg some (by kernel_rfl))⟩
  f11 := ⟨Tryz.f130.name, by decide, Tryz.func130.trans (congrArg some (by kernel_rfl))⟩
  t0 := Tryz.underlying0
  a0 := Tryz.isAgg0
  z0 := Tryz.sizeOf0
  v0 := Tryz.zeroValue0
  t24 := Tryz.underlying22
  a24 := Tryz.isAgg22
  z24 := Tryz.sizeOf22
  v24 := Tryz.zeroValue22
  t26 := Tryz.underlying3
  a26 := Tryz.isAgg3
  z26 := Tryz.sizeOf3
  v26 := Tryz.zeroValue3
  t28 := Tryz.underlying112
  a28 := Tryz.isAgg112
  z28 := Tryz.sizeOf112
  v28 := Tryz.zeroValue112
  i26 := by kernel_rfl }
def laySort_ren : Go.Shelf.Ren := ⟨fun | 5 => 92 | 8 => 132 | 7 => 131 | 19 => 174 | 20 => 175 | 10 => 165 | 11 => 166 | 12 => 167 | 13 => 168 | 14 => 169 | 15 => 170 | 16 => 171 | 17 => 172 | 18 => 173 | 30 => 207 | 31 => 208 | 32 => 209 | 33 => 210 | 34 => 211 | 35 => 212 | 40 => 234 | n => n, fun | 23 => 22 | 25 => 3 | 3 => 3 | 32 => 220 | 22 => 22 | 0 => 0 | 44 => 266 | 46 => 268 | 4 => 4 | 36 => 260 | 35 => 259 | 41 => 241 | 5 => 5 | 9 => 9 | 53 => 306 | 57 => 310 | 63 => 326 | 64 => 71 | n => n, fun | n => n⟩
theorem laySort : Go.Proofs.SlLaysM.n5 Tryz.prog laySort_ren := {
  mixed := by kernel_rfl
  f5 := ⟨Tryz.f92.name, by decide, Tryz.func92.trans (congrArg some (by kernel_rfl))⟩
  f7 := ⟨Tryz.f131.name, by decide, Tryz.func131.trans (congrArg some (by kernel_rfl))⟩
  f8 := Tryz.func132.trans (congrArg some (by kernel_rfl))
  f10 := ⟨Tryz.f165.name, by decide, Tryz.func165.trans (congrArg some (by kernel_rfl))⟩
  f11 := ⟨Tryz.f166.name, by decide, Tryz.func166.trans (congrArg some (by kernel_rfl))⟩
  f12 := ⟨Tryz.f167.name, by decide, Tryz.func167.trans (congrArg some (by kernel_rfl))⟩
  f13 := ⟨Tryz.f168.name, by decide, Tryz.func168.trans (congrArg some (by kernel_rfl))⟩
  f14 := ⟨Tryz.f169.name, by decide, Tryz.func169.trans (congrArg some (by kernel_rfl))⟩
  f15 := ⟨Tryz.f170.name, by decide, Tryz.func170.trans (congrArg some (by kernel_rfl))⟩
  f16 := ⟨Tryz.f171.name, by decide, Tryz.func171.trans (congrArg some (by kernel_rfl))⟩
  f17 := ⟨Tryz.f172.name, by decide, Tryz.func172.trans (congrArg some (by kernel_rfl))⟩
  f18 := ⟨Tryz.f173.name, by decide, Tryz.func173.trans (congrArg some (by kernel_rfl))⟩
  f19 := Tryz.func174.trans (congrArg some (by kernel_rfl))
  f20 := Tryz.func175.trans (congrArg some (by kernel_rfl))
  f30 := ⟨Tryz.f207.name, by decide, Tryz.func207.trans (congrArg some (by kernel_rfl))⟩
  f31 := Tryz.func208.trans (congrArg some (by kernel_rfl))
  f32 := Tryz.func209.trans (congrArg some (by kernel_rfl))
  f33 := ⟨Tryz.f210.name, by decide, Tryz.func210.trans (congrArg some (by kernel_rfl))⟩
  f34 := ⟨Tryz.f211.name, by decide, Tryz.func211.trans (congrArg some (by kernel_rfl))⟩
  f35 := ⟨Tryz.f212.name, by decide, Tryz.func212.trans (congrArg some (by kernel_rfl))⟩
  f40 := ⟨Tryz.f234.name, by decide, Tryz.func234.trans (congrArg some (by kernel_rfl))⟩
  t0 := Tryz.underlying0
  a0 := Tryz.isAgg0
  z0 := Tryz.sizeOf0
  v0 := Tryz.zeroValue0
  t3 := Tryz.underlying3
  a3 := Tryz.isAgg3
  z3 := Tryz.sizeOf3
  v3 := Tryz.zeroValue3
  t4 := Tryz.underlying4
  a4 := Tryz.isAgg4
  z4 := Tryz.sizeOf4
  v4 := Tryz.zeroValue4
  t5 := Tryz.underlying5
  a5 := Tryz.isAgg5
  z5 := Tryz.sizeOf5
  v5 := Tryz.zeroValue5
  t9 := Tryz.underlying9
  a9 := Tryz.isAgg9
  z9 := Tryz.sizeOf9
  v9 := Tryz.zeroValue9
  t22 := Tryz.underlying22
  a22 := Tryz.isAgg22
  z22 := Tryz.sizeOf22
  v22 := Tryz.zeroValue22
  t23 := Tryz.underlying22
  a23 := Tryz.isAgg22
  z23 := Tryz.sizeOf22
  v23 := Tryz.zeroValue22
  t25 := Tryz.underlying3
  a25 := Tryz.isAgg3
  z25 := Tryz.sizeOf3
  v25 := Tryz.zeroValue3
  t32 := Tryz.underlying220
  a32 := Tryz.isAgg220
  z32 := Tryz.sizeOf220
  v32 := Tryz.zeroValue220
  t35 := Tryz.underlying259
  a35 := Tryz.isAgg259
  z35 := Tryz.sizeOf259
  v35 := Tryz.zeroValue259
  t36 := Tryz.underlying260
  a36 := Tryz.isAgg260
  z36 := Tryz.sizeOf260
  v36 := Tryz.zeroValue260
  t41 := Tryz.underlying241
  a41 := Tryz.isAgg241
  z41 := Tryz.sizeOf241
  v41 := Tryz.zeroValue241
  t44 := Tryz.underlying266
  a44 := Tryz.isAgg266
  z44 := Tryz.sizeOf266
  v44 := Tryz.zeroValue266
  t46 := Tryz.underlying268
  a46 := Tryz.isAgg268
  z46 := Tryz.sizeOf268
  v46 := Tryz.zeroValue268
  t53 := Tryz.underlying306
  a53 := Tryz.isAgg306
  z53 := Tryz.sizeOf306
  v53 := Tryz.zeroValue306
  t57 := Tryz.underlying310
  a57 := Tryz.isAgg310
  z57 := Tryz.sizeOf310
  v57 := Tryz.zeroValue310
  t63 := Tryz.underlying326
  a63 := Tryz.isAgg326
  z63 := Tryz.sizeOf326
  v63 := Tryz.zeroValue326
  t64 := Tryz.underlying71
  a64 := Tryz.isAgg71
  z64 := Tryz.sizeOf71
  v64 := Tryz.zeroValue71 }
end Go.Proofs.YtcidmgkfaioceaaGreat
namespace Go.Proofs.YtcidmgkfaioceaaGreat
open Go Go.RowKit
set_option linter.unusedVariables false
set_option linter.unusedSectionVars false
set_option linter.unusedSimpArgs false
section
variable {W0 : World} {Γ Γ' : List Asn}
theorem Sat.under {w w' : World} (h : Sat W0 Γ w) (hb : Below w.heap.size w w') : Sat W0 Γ w' := by
  obtain ⟨S, I, h1, d1, d2, d3, d4, d5⟩ := h
  exact ⟨S, I, h1.loc fun b hs => hb.block b (hs.elim (d2 b) (d3 b)), d1, fun b hs => Nat.lt_of_lt_of_le (d2 b hs) hb.size, fun b hi => Nat.lt_of_lt_of_le (d3 b hi) hb.size, d4, d5.trans (hb.mono d5.size)⟩
theorem Sat.newer {w w' : World} (h : Sat W0 Γ w) (hb : Below w.heap.size w w') {g : Nat} {o : Obj} (hg : w.heap.size ≤ g) (ho : w'.heap[g]? = some o) : Sat W0 (Asn.own g o :: Γ) w' := by
  obtain ⟨S, I, h1, d1, d2, d3, d4, d5⟩ := h
  have hl : g < w'.heap.size := (Array.getElem?_eq_some_iff.1 ho).1
  refine ⟨fun b => S b ∨ b = g, I, ⟨fun b => b = g, S, fun _ h => .inr h, fun _ h => .inl h, ?_, ⟨rfl, ho⟩, h1.loc fun b hs => hb.block b (hs.elim (d2 b) (d3 b))⟩, ?_, ?_, fun b hi => Nat.lt_of_lt_of_le (d3 b hi) hb.size, d4, d5.trans (hb.mono d5.size)⟩
  · rintro b rfl hs
    exact absurd (d2 _ hs) (by omega)
  · rintro b (hs | rfl) hi
    · exact d1 b hs hi
    · exact absurd (d3 _ hi) (by omega)
  · rintro b (hs | rfl)
    · exact Nat.lt_of_lt_of_le (d2 b hs) hb.size
    · exact hl
theorem lies_of_take {c : Array Value} {vs : List Value} (h : c.toList.take vs.length = vs) : LiesAt c 0 vs := by
  intro j v hj
  have hlt : j < vs.length := (List.getElem?_eq_some_iff.1 hj).1
  rw [← h, List.getElem?_take_of_lt hlt, Array.getElem?_toList] at hj
  rw [Nat.zero_add]; exact hj
theorem Sat.row {w w' : World} {e : TypeId} {v : Value} {xs : List Int} (h : Sat W0 Γ w) (hb : Below w.heap.size w w') (hr : w'.ownsRow w.heap.size e 1 v xs.length (xs.map fun x => .int .i64 x)) :
    ∃ a cap, v = .slice a xs.length cap ∧ Sat W0 (RowsA 1 a cap (ints xs) :: Γ) w' := by
  obtain ⟨_, ⟨rfl, hn⟩ | ⟨g, cap, cur, rfl, hg, hc, hn, _, hs, ht⟩⟩ := hr
  · obtain rfl : xs = [] := List.eq_nil_of_length_eq_zero hn
    exact ⟨none, 0, rfl, RowsA.none_mk (h.under hb)⟩
  · refine ⟨_, cap, rfl, (h.newer hb hg hc).head_imp ?_⟩
    rintro S I h' ⟨q1, q2⟩
    refine ⟨ints_rows xs, .inr ⟨g, 0, cur, e, rfl, q1, q2, by simpa using hn, by omega, ?_⟩⟩
    rw [ints_flatten]
    refine lies_of_take ?_
    simpa using ht
theorem RowsA.block {a : Option Addr} {cap : Nat} {xs : List Int} {w : World} (h : Sat W0 (RowsA 1 a cap (ints xs) :: Γ) w) :
    (xs = [] ∧ cap = 0) ∨ ∃ b off c T, a = some ⟨b, off, none⟩ ∧ xs.length ≤ cap ∧ off + cap * 1 ≤ c.size ∧ LiesAt c off (xs.map fun x => .int .i64 x) ∧ Sat W0 (Asn.own b (.cells c T (0, 0)) :: Γ) w := by
  obtain ⟨S, I, ⟨S1, S2, h1, h2, h3, ⟨_, h4⟩, h5⟩, r⟩ := h
  rcases h4 with ⟨q1, q2⟩ | ⟨b, off, c, T, rfl, q1, q2, q3, q4, q5⟩
  · exact .inl ⟨ints_nil q1, q2⟩
  · exact .inr ⟨b, off, c, T, rfl, by simpa using q3, q4, by rw [← ints_flatten]; exact q5, S, I, ⟨S1, S2, h1, h2, h3, ⟨q1, q2⟩, h5⟩, r⟩
theorem putCells_lies {c : Array Value} {off : Nat} {ys : List Int} (hs : off + ys.length ≤ c.size) : LiesAt (Go.Sort.putCells (Value.int .i64) off ys.toArray c) off (ys.map fun x => .int .i64 x) := by
  intro j v hj
  have hlt : j < ys.length := by have := (List.getElem?_eq_some_iff.1 hj).1; simpa using this
  have h2 : off + j < c.size := by omega
  simp only [List.getElem?_map, List.getElem?_eq_getElem hlt, Option.map_some, Option.some.injEq] at hj
  subst hj
  unfold Go.Sort.putCells
  rw [Array.getElem?_mapIdx, Array.getElem?_eq_getElem h2]
  simp [hlt]
theorem Sat.sorted {w : World} {a : Option Addr} {cap b off n : Nat} {xs ys : List Int} {c : Array Value} {T : TypeId} {os : Array Obj} (hl : ys.length = xs.length) (ha : a = some ⟨b, off, none⟩) (h1 : xs.length ≤ cap) (h2 : off + cap * 1 ≤ c.size)
    (h : Sat W0 (Asn.own b (.cells c T (0, 0)) :: Γ) w) : Sat W0 (RowsA 1 a cap (ints ys) :: Γ) (Go.Sort.grow (Go.Sort.putRow (Value.int .i64) (Go.Sort.ahead w n) b off ys.toArray) os) := by
  have hb := h.own_at
  have hlt : b < w.heap.size := (Array.getElem?_eq_some_iff.1 hb).1
  have hp : Sat W0 (Asn.own b (.cells (Go.Sort.putCells (Value.int .i64) off ys.toArray c) T (0, 0)) :: Γ) (Go.Sort.putRow (Value.int .i64) (Go.Sort.ahead w n) b off ys.toArray) := by
    refine h.put rfl rfl rfl (by simp [Go.Sort.putRow, Go.Sort.mapBlock, Go.Sort.ahead]) ?_ fun q hq => ?_
    · simp [Go.Sort.putRow, Go.Sort.mapBlock, Go.Sort.ahead, Array.getElem?_modify, hb, Go.Sort.onCells]
    · simp [Go.Sort.putRow, Go.Sort.mapBlock, Go.Sort.ahead, Array.getElem?_modify, Ne.symm hq]
  have hg : Below (Go.Sort.putRow (Value.int .i64) (Go.Sort.ahead w n) b off ys.toArray).heap.size (Go.Sort.putRow (Value.int .i64) (Go.Sort.ahead w n) b off ys.toArray) (Go.Sort.grow (Go.Sort.putRow (Value.int .i64) (Go.Sort.ahead w n) b off ys.toArray) os) :=
    ⟨rfl, rfl, rfl, by simp [Go.Sort.grow], fun k hk => by simp only [Go.Sort.grow]; rw [Array.getElem?_append_left hk]⟩
  refine (hp.under hg).head_imp ?_
  rintro S I h' ⟨q1, q2⟩
  refine ⟨ints_rows ys, .inr ⟨b, off, _, T, ha, q1, q2, by simp [hl]; exact h1, by simp [Go.Sort.putCells]; omega, ?_⟩⟩
  rw [ints_flatten]
  exact putCells_lies (by omega)
theorem holds_of_lies {w : World} {b off : Nat} {c : Array Value} {T : TypeId} {xs : List Int} (hb : w.heap[b]? = some (.cells c T (0, 0))) (h : LiesAt c off (xs.map fun x => .int .i64 x)) : Go.Sort.Holds (Value.int .i64) w b off xs.toArray := by
  intro j hj
  have hj' : j < xs.length := by simpa using hj
  refine ⟨?_, by simp [World.frozen?, hb]⟩
  have := h j (.int .i64 xs[j]) (by simp [hj'])
  simp [World.cell?, hb, this, hj']
end
def srt (xs : List Int) : List Int := xs.mergeSort leI
theorem srt_length (xs : List Int) : (srt xs).length = xs.length := List.length_mergeSort ..
section
variable {W0 : World} {Γ Γ' : List Asn}
theorem sortI_tr {a : Option Addr} {cap : Nat} {xs : List Int} (hx : xs.length ≤ 1099511627776) :
    Tr Tryz.prog 92 #[.slice a xs.length cap] W0 (RowsA 1 a cap (ints xs) :: Γ) (fun r Δ => r = .tuple #[] ∧ Δ = RowsA 1 a cap (ints (srt xs)) :: Γ) := by
  intro w hw
  rcases RowsA.block hw with ⟨rfl, rfl⟩ | ⟨b, off, c, T, ha, h1, h2, h3, h4⟩
  · refine (AnyM.slices_Sort_int_none laySort a 0 w).mono ?_
    rintro e w' ⟨rfl, rfl⟩
    exact ⟨_, _, rfl, ⟨rfl, rfl⟩, by rw [show srt [] = [] from by simp [srt]]; exact hw⟩
  · subst ha
    have hb := h4.own_at
    refine (AnyM.slices_Sort_int laySort b off cap xs w (holds_of_lies hb h3) (Array.getElem?_eq_some_iff.1 hb).1 (by omega)).mono ?_
    rintro e w' ⟨rfl, n, os, rfl⟩
    exact ⟨_, _, rfl, ⟨rfl, rfl⟩, Sat.sorted (srt_length xs) rfl h1 h2 h4⟩
end
section
variable {W0 : World} {Γ Γ' : List Asn}
def keyL (x : KV) : Lit × DataW Unit := (.int .i64 x.key, .nil)
theorem key_reads {P : Program} {k : TypeId} (hk : P.underlying k = some (.int .i64)) (x : KV) (hx : inR x.key ∧ x.key ≠ -9223372036854775808) : Go.WideElems.rd P k (fun _ => some ((.nil : DataW Unit), [])) (kvE x) = some (keyL x) := by
  have hw : (Lit.int .i64 x.key).wf = true := by
    obtain ⟨h1, _⟩ := hx
    unfold inR at h1
    show (decide (IntKind.i64.min ≤ x.key) && decide (x.key ≤ IntKind.i64.max)) = true
    rw [Bool.and_eq_true]
    exact ⟨decide_eq_true (by show (-9223372036854775808 : Int) ≤ _; omega), decide_eq_true (by show _ ≤ (9223372036854775807 : Int); omega)⟩
  have : keyOf P k (Value.int .i64 x.key) = some (.int .i64 x.key) := by simp [keyOf, hk, mapKey, hw]
  exact Go.WideElems.rd_mk (R := fun _ => some ((.nil : DataW Unit), [])) (key := .int .i64 x.key) (val := x.val) (yv := (.nil, [])) (born := x.born) this rfl
theorem map_owned {P : Program} {k : TypeId} {w : World} {b : Nat} {kvs : List KV} {clock : Nat} (hk : P.underlying k = some (.int .i64)) (hb : w.heap[b]? = some (mapO kvs clock)) (hs : stamps kvs clock)
    (hl : kvs.length ≤ 1099511627776) (hn : (kvs.map KV.key).Nodup) (hr : ∀ x ∈ kvs, inR x.key ∧ x.key ≠ -9223372036854775808) :
    w.ownsMap P k (fun _ => some ((.nil : DataW Unit), [])) b kvs.length (.map ((kvs.map keyL).foldr DataW.insert [])) := by
  refine ⟨(kvs.map kvE).toArray, clock, hb, ⟨?_, ⟨?_, ?_, ?_⟩, ?_⟩, by simp, ?_⟩
  · simp [maxLen]; omega
  · intro x hx
    obtain ⟨y, hy, rfl⟩ := List.mem_map.1 (by simpa using hx)
    exact hs.1 y hy
  · simpa [Function.comp_def, kvE] using hs.2
  · have : (kvs.map kvE).map (·.key) = (kvs.map KV.key).map (Value.int .i64) := by simp [Function.comp_def, kvE]
    show (((kvs.map kvE).toArray.toList).map (·.key)).Nodup
    rw [List.toList_toArray, this]
    exact hn.map _ (fun a b hab h => hab (by injection h))
  · intro x hx
    obtain ⟨y, hy, rfl⟩ := List.mem_map.1 (by simpa using hx)
    exact ⟨_, key_reads hk y (hr y hy)⟩
  · congr 2
    rw [List.toList_toArray, List.map_map]
    refine List.map_congr_left fun x hx => ?_
    exact (Go.WideElems.rg_of (key_reads hk x (hr x hx))).symm
theorem keys_perm {kvs : List KV} : (intKeys (.map ((kvs.map keyL).foldr DataW.insert []) : DataW Unit)).Perm (kvs.map KV.key) := by
  have h := (Go.WideShapes.sorted_perm (kvs.map keyL)).map (fun p : Lit × DataW Unit => Go.intOf p.1)
  rw [List.map_map] at h
  exact h
theorem sorts_ok (m : Nat) : AnyZI.SortsIn Tryz.prog laySorted_ren Fence.wide m :=
  ⟨fun blk off cap ss W hH hblk hsz => callsIn_wide.2 (AnyM.slices_Sort_int laySort blk off cap ss W hH hblk hsz), fun p cap W => callsIn_wide.2 (AnyM.slices_Sort_int_none laySort p cap W)⟩
theorem keysK_tr {mb : Option Nat} : Tr Tryz.prog 225 #[.map mb] W0 Γ (fun r Δ => ∃ nb : Nat, r = .func (.func 240) #[] #[.pointer (some ⟨nb, 0, none⟩)] ∧ Δ = Asn.own nb (.cells #[.map mb] 255 (0, 0)) :: Γ) := by
  intro w hw
  refine (callsIn_wide.1 (AnyZI.keys_in layKeys Fence.wide 5 trivial rfl mb w)).mono ?_
  rintro e w' ⟨rfl, rfl⟩
  exact ⟨_, _, rfl, ⟨_, rfl, rfl⟩, hw.alloc _⟩
theorem sortedK_tr {b nb : Nat} {T : TypeId} {l : List (Int × Value)} (hl : l.length ≤ 1099511627776) (hn : (l.map Prod.fst).Nodup) (hk : ∀ p ∈ l, inR p.1 ∧ p.1 ≠ -9223372036854775808) :
    Tr Tryz.prog 50 #[.func (.func 240) #[] #[.pointer (some ⟨nb, 0, none⟩)]] W0 (Asn.own nb (.cells #[.map (some b)] T (0, 0)) :: KMapA b l :: Γ)
      (fun r Δ => ∃ a cap, r = .slice a (srt (l.map Prod.fst)).length cap ∧ Δ = RowsA 1 a cap (ints (srt (l.map Prod.fst))) :: Asn.own nb (.cells #[.map (some b)] T (0, 0)) :: KMapA b l :: Γ) := by
  intro w hw
  have hnb := hw.own_at
  obtain ⟨kvs, clock, rfl, hs, h1⟩ := KMapA.of (hw.pull (.there .here))
  have hb := h1.own_at
  have hfst : (kvs.map pairKV).map Prod.fst = kvs.map KV.key := by simp [Function.comp_def, pairKV]
  rw [hfst] at hn ⊢
  have hlk : kvs.length ≤ 1099511627776 := by simpa using hl
  have hkk : ∀ x ∈ kvs, inR x.key ∧ x.key ≠ -9223372036854775808 := fun x hx => hk (pairKV x) (List.mem_map_of_mem hx)
  have hown := map_owned (P := Tryz.prog) (k := 3) Tryz.underlying3 hb hs hlk hn hkk
  have hsz : Go.Maps.size (.map ((kvs.map keyL).foldr DataW.insert []) : DataW Unit) = kvs.length := by
    show ((kvs.map keyL).foldr DataW.insert []).length = _
    rw [(Go.WideShapes.sorted_perm (kvs.map keyL)).length_eq, List.length_map]
  have hseq : SeqGives Fence.wide 2 Tryz.prog 240 #[.pointer (some ⟨nb, 0, none⟩)] encZ (fun ss => ss.Perm (intKeys (.map ((kvs.map keyL).foldr DataW.insert []) : DataW Unit))) kvs.length w := by
    rw [← hsz]
    exact AnyZI.keys_gives (ρ := layKeys_ren) { layKeys with } Fence.wide _ trivial rfl (by omega) nb b _ _ w (Array.getElem?_eq_some_iff.1 hnb).1 (by simp [World.cell?, hnb]) hown
  have cS := AnyZI.sorted_in laySorted Fence.wide 5 trivial trivial trivial trivial rfl (by omega) (sorts_ok _) (enters_of Tryz.func92 (by kernel_rfl) rfl) 240 #[.pointer (some ⟨nb, 0, none⟩)] trivial (enters_of Tryz.func240 (by kernel_rfl) rfl) _ kvs.length (by unfold maxLen; omega) (by omega) _ hseq
  refine (callsIn_wide.1 cS).mono ?_
  rintro e w' ⟨v, ss, rfl, hS, hrow, _, hB⟩
  obtain ⟨a, cap, rfl, hz⟩ := Sat.row (xs := srt ss) hw hB (by rw [srt_length]; exact hrow)
  have he : srt ss = srt (kvs.map KV.key) := mergeSort_of_perm_i (hS.trans keys_perm)
  rw [he] at hz ⊢
  exact ⟨_, _, rfl, ⟨a, cap, rfl, rfl⟩, hz⟩
theorem wvals_keys {α : Type} [Rw α] : ∀ {w : List (Int × List α)} {ac : List (Option Addr × Nat)}, ac.length = w.length → (wvals w ac).map Prod.fst = w.map Prod.fst
  | [], [], _ => rfl
  | [], _ :: _, h => by simp at h
  | _ :: _, [], h => by simp at h
  | p :: w, a :: ac, h => by
    simp only [List.length_cons, Nat.add_right_cancel_iff] at h
    simp [wvals, wvals_keys h]
theorem arr_ints {a : Option Addr} {cap : Nat} {y : List Int} {w : World} (h : Sat W0 (RowsA 1 a cap (ints y) :: Γ) w) : Sat W0 (ArrA a cap y :: Γ) w := by
  have e : rowsOf y (List.replicate y.length ()) = ints y := by
    unfold rowsOf ints
    apply List.ext_getElem?
    intro n
    simp only [List.getElem?_zipWith, List.getElem?_map]
    cases e1 : y[n]? with
    | none => rfl
    | some v =>
      have hlt : n < y.length := (List.getElem?_eq_some_iff.1 e1).1
      simp [List.getElem?_replicate, hlt]
      rfl
  rw [← e] at h
  refine ArrA.join (xs := (List.replicate y.length () : List Unit)) (by simp) (h.imp fun S I hs => ?_)
  obtain ⟨S1, S2, p1, p2, p3, p4, p5⟩ := hs
  exact ⟨S1, S2, p1, p2, p3, p4, fun _ => False, S2, fun _ h => h.elim, fun _ h => h, fun _ h _ => h, fun _ _ _ _ _ => trivial, p5⟩
def KeysOk {α : Type} (l : List (Int × α)) : Prop := l.length ≤ 1099511627776 ∧ (l.map Prod.fst).Nodup ∧ ∀ p ∈ l, inR p.1 ∧ p.1 ≠ -9223372036854775808
instance {α : Type} (l : List (Int × α)) : Decidable (KeysOk l) := by unfold KeysOk; infer_instance
end
theorem sortedK {α : Type} [Rw α] (nb b : Nat) (l : List (Int × List α)) {y : List Int} (h : KeysOk l) (hy : srt (l.map Prod.fst) = y) : Fn Tryz.prog 50 [.func (.func 240) #[] #[.pointer (some ⟨nb, 0, none⟩)]] ⟨[⟨nb, #[.map (some b)], 255⟩], [WMapA b l]⟩ (Z := Option Addr × Nat) (fun z => .slice z.1 y.length z.2) (fun z => ⟨[], [ArrA z.1 z.2 y, WMapA b l]⟩) := by
  subst hy
  intro W0 Γ w hw
  have hw0 : Sat W0 (Asn.own nb (.cells #[.map (some b)] 255 (0, 0)) :: WMapA b l :: Γ) w := hw
  obtain ⟨ac, hac, h2⟩ := WMapA.of (hw0.less (.take (.there .here) (.take .here .refl)))
  have hk2 := wvals_keys hac
  have hlen : (wvals l ac).length = l.length := by have := congrArg List.length hk2; simpa using this
  have h3 : Sat W0 (Asn.own nb (.cells #[.map (some b)] 255 (0, 0)) :: KMapA b (wvals l ac) :: (wrows l ac ++ Γ)) w := h2.pull (.there (pull_mid _))
  have t := sortedK_tr (W0 := W0) (Γ := wrows l ac ++ Γ) (b := b) (nb := nb) (T := 255) (l := wvals l ac) (by rw [hlen]; exact h.1) (by rw [hk2]; exact h.2.1) (fun p hp => by
    have : p.1 ∈ l.map Prod.fst := by rw [← hk2]; exact List.mem_map_of_mem hp
    obtain ⟨q, hq, he⟩ := List.mem_map.1 this
    rw [← he]; exact h.2.2 q hq) w h3
  rw [hk2] at t
  refine t.mono ?_
  rintro e w' ⟨r, Δ, rfl, ⟨a, cap, rfl, rfl⟩, hz⟩
  refine ⟨_, _, rfl, ⟨(a, cap), rfl, rfl⟩, ?_⟩
  have h5 : Sat W0 (KMapA b (wvals l ac) :: (wrows l ac ++ (RowsA 1 a cap (ints (srt (l.map Prod.fst))) :: Γ))) w' := by
    have h6 : Sat W0 ([RowsA 1 a cap (ints (srt (l.map Prod.fst)))] ++ ((KMapA b (wvals l ac) :: wrows l ac) ++ Γ)) w' := hz.drop (.there .here)
    exact Sat.swap h6
  have h7 := WMapA.mk ac hac h5
  have h8 : Sat W0 (RowsA 1 a cap (ints (srt (l.map Prod.fst))) :: WMapA b l :: Γ) w' := h7.less (.take (.there .here) (.take .here .refl))
  exact arr_ints h8
end Go.Proofs.YtcidmgkfaioceaaGreat
namespace Go.Proofs.YtcidmgkfaioceaaGreat
open Go Go.RowKit
set_option linter.unusedVariables false
theorem bifS (t : Bool) : (bif t then some true else some false) = some t := by cases t <;> rfl
def int1 (x : Int) : Value := .int .i64 x
def valsA (nb : Nat) (a : Option Addr) (c : Nat) (l : List Int) (X : Asn) : Rs := ⟨[⟨nb, #[.slice a l.length c], 22⟩], [X]⟩
set_option maxRecDepth 100000 in
set_option maxHeartbeats 4000000 in
theorem valsIt (nb : Nat) (a : Option Addr) (c : Nat) (l : List Int) {X : Asn} (hX : Rdb X a c l) (hl : l.length ≤ 1099511627776) : ItFn Tryz.prog 93 [.pointer (some ⟨nb, 0, none⟩)] ⟨[⟨nb, #[.slice a (List.length l) c], 22⟩], [X]⟩ (fun i => [.int .i64 (nthT l ((i : Nat) : Int))]) l.length := by
 refine xfI Tryz.func93 fun W0 F y Ω hY => ?_
 refine xl [0] (ι := Nat) (fun i => ⟨[(0, .func (.yield y) #[] #[]), (5, .slice a (List.length l) c), (6, .int .i64 ((List.length l : Nat) : Int)), (7, .int .i64 ((i : Nat) : Int))], [⟨nb, #[.slice a (List.length l) c], 22⟩], [Ω i, X]⟩) (fun m i => i ≤ l.length ∧ l.length < m + i) [0] [0,0] (l.length + 1) 0 ⟨by omega, by omega⟩ ?_
 rintro N m i ⟨h1, h2⟩ hN
 refine xs [] (bifS (decide (((i : Nat) : Int) < ((List.length l : Nat) : Int)))) ?_ ?_
 · intro H
   have hi : i < l.length := by simpa using H
   have q : 0 ≤ ((i : Nat) : Int) ∧ ((i : Nat) : Int) < ((l.length : Nat) : Int) := ⟨by omega, by omega⟩
   refine xi [1] 1 hX q fun b o e => ?_
   refine xpl [] 1 (ol_ld hX e q 0 (fun _ => rfl)) ?_
   refine xy hY i hi [] [0] [0,0] ?_
   refine xw [0,302] 7 (congrArg (Value.int .i64) (show wr (((i : Nat) : Int) + 1) = (((i + 1 : Nat) : Nat) : Int) by rw [wr_in (by omega) (by omega)]; omega)) ?_
   exact xe [] _ [0] [0,0] (hN (m - 1) (i + 1) (by omega) ⟨by omega, by omega⟩)
 · intro H
   have h3 : ¬ (i < l.length) := by simpa using H
   have hi : i = l.length := by omega
   subst hi
   exact xr [0] [] [0] [0,0] ()
theorem take_snoc {l : List Int} {i : Nat} (hi : i < l.length) : l.take i ++ [nthT l ((i : Nat) : Int)] = l.take (i + 1) := by
 have : nthT l ((i : Nat) : Int) = l[i] := by unfold nthT; simp [hi]
 rw [this, List.take_succ_eq_append_getElem hi]
set_option maxRecDepth 100000 in
set_option maxHeartbeats 4000000 in
theorem apseqF (nb : Nat) (a : Option Addr) (c : Nat) (l : List Int) {X : Asn} (hX : Rdb X a c l) (hl : l.length ≤ 1099511627776) : FnY Tryz.prog 130 [.slice none 0 0, .func (.func 93) #[] #[.pointer (some ⟨nb, 0, none⟩)]] ⟨[⟨nb, #[.slice a (List.length l) c], 22⟩], [X]⟩ (Z := Option Addr × Nat) (fun y z => .slice z.1 (List.length y) z.2) (fun y z => ⟨[⟨nb, #[.slice a (List.length l) c], 22⟩], [ArrA z.1 z.2 y, X]⟩) l := by
 refine xfM Tryz.func130 fun W0 F => ?_
 refine xn [] fun sb => ?_
 refine xg [] [] [] (gh_nil (α := Int) none) fun _ => ?_
 refine xrg [] [1] [1] [0] [0] (fun i => .int .i64 (nthT l ((i : Nat) : Int))) 7 (valsIt nb a c l hX hl) [(2, .pointer (some ⟨sb, 0, none⟩))] (fun i => [(5, .int .i64 (nthT l ((i : Nat) : Int))), (2, .pointer (some ⟨sb, 0, none⟩))])
  (fun i (z : Option Addr × Nat) => ⟨[⟨sb, #[.slice z.1 (List.length (l.take i)) z.2], 22⟩], [ArrA z.1 z.2 (l.take i)]⟩) (none, 0) ?_ ?_ ?_ (fun _ _ => rfl)
 · intro y F N i z hi hN
   exact xe [] ⟨[(5, .int .i64 (nthT l ((i : Nat) : Int))), (2, .pointer (some ⟨sb, 0, none⟩))], [⟨sb, #[.slice z.1 (List.length (l.take i)) z.2], 22⟩], [ArrA z.1 z.2 (l.take i)]⟩ [0] [0] fun a w h => hN a w h.1 h.2
 · rintro y F N i ⟨sa, sc⟩ hi hN
   refine xn [0] fun b => ?_
   refine xg [] [0] [] (gh_own b 3 1 ([nthT l ((i : Nat) : Int)] : List Int) [()] (fun _ _ _ _ _ _ _ => trivial)) fun _ => ?_
   refine xa [] [1,0] (a := sa) (l := l.take i) (zs := l.take (i + 1)) (cap := sc) (rA (some ⟨b, 0, none⟩) 1 ([nthT l ((i : Nat) : Int)] : List Int)) (take_snoc hi) (by simp; omega) fun ⟨a2, c2⟩ => ?_
   exact xe [0] ⟨[], [⟨sb, #[.slice a2 (List.length (l.take (i + 1))) c2], 22⟩], [ArrA a2 c2 (l.take (i + 1))]⟩ [0] [0] fun a w h => hN (a2, c2) a w h.2
 · rintro ⟨sa, sc⟩ D
   exact xrM (P := Tryz.prog) (fn := Tryz.f130) (D := D) (W0 := W0) (F := F) (Y := List Int) (Z := Option Addr × Nat) (rv := fun y z => .slice z.1 (List.length y) z.2) (post := fun y z => ⟨[⟨nb, #[.slice a (List.length l) c], 22⟩], [ArrA z.1 z.2 y, X]⟩) (y := l) (y' := l.take l.length) List.take_length [1] [] [0] [2,1] 0 (sa, sc)
theorem ints_arr {W0 w : World} {Γ : List Asn} {a : Option Addr} {cap : Nat} {y : List Int} (h : Sat W0 (ArrA a cap y :: Γ) w) : Sat W0 (RowsA 1 a cap (ints y) :: Γ) w := by
  obtain ⟨xs, hx, h2⟩ := ArrA.split h
  have e : rowsOf y xs = ints y := by
    unfold rowsOf ints
    apply List.ext_getElem?
    intro n
    simp only [List.getElem?_zipWith, List.getElem?_map]
    cases e1 : y[n]? with
    | none => rfl
    | some v =>
      have hlt : n < y.length := (List.getElem?_eq_some_iff.1 e1).1
      have hlt2 : n < xs.length := by omega
      simp only [List.getElem?_eq_getElem hlt2]
      rfl
  rw [e] at h2
  exact h2.drop (.there .here)
theorem sortF {a : Option Addr} {c : Nat} {l : List Int} (hl : l.length ≤ 1099511627776) : FnY Tryz.prog 92 [.slice a (List.length l) c] ⟨[], [ArrA a c l]⟩ (Z := Unit) (fun y _ => .tuple #[]) (fun y _ => ⟨[], [ArrA a c y]⟩) (srt l) := by
  intro W0 Γ w hw
  refine (sortI_tr (a := a) (cap := c) hl w (ints_arr hw)).mono ?_
  rintro e w' ⟨r, Δ, rfl, ⟨rfl, rfl⟩, hz⟩
  exact ⟨_, _, rfl, ⟨(), rfl, rfl⟩, arr_ints hz⟩
set_option maxRecDepth 100000 in
set_option maxHeartbeats 4000000 in
theorem collF (nb : Nat) (a : Option Addr) (c : Nat) (l : List Int) {X : Asn} (hX : Rdb X a c l) (hl : l.length ≤ 1099511627776) : FnY Tryz.prog 91 [.func (.func 93) #[] #[.pointer (some ⟨nb, 0, none⟩)]] ⟨[⟨nb, #[.slice a (List.length l) c], 22⟩], [X]⟩ (Z := Option Addr × Nat) (fun y z => .slice z.1 (List.length y) z.2) (fun y z => ⟨[⟨nb, #[.slice a (List.length l) c], 22⟩], [ArrA z.1 z.2 y, X]⟩) l := by
 refine xfY Tryz.func91 fun W0 F => ?_
 refine xc [] [0] [0] (apseqF nb a c l hX hl) fun ⟨a2, c2⟩ => ?_
 exact xrY rfl [] [] [0] [0,0] (a2, c2)
set_option maxRecDepth 100000 in
set_option maxHeartbeats 4000000 in
theorem sortedV (nb : Nat) (a : Option Addr) (c : Nat) (l : List Int) {X : Asn} (hX : Rdb X a c l) {y : List Int} (hl : l.length ≤ 1099511627776) (hy : srt l = y) : Fn Tryz.prog 50 [.func (.func 93) #[] #[.pointer (some ⟨nb, 0, none⟩)]] ⟨[⟨nb, #[.slice a (List.length l) c], 22⟩], [X]⟩ (Z := Option Addr × Nat) (fun z => .slice z.1 (List.length y) z.2) (fun z => ⟨[], [ArrA z.1 z.2 y, X]⟩) := by
 have h : FnY Tryz.prog 50 [.func (.func 93) #[] #[.pointer (some ⟨nb, 0, none⟩)]] ⟨[⟨nb, #[.slice a (List.length l) c], 22⟩], [X]⟩ (Z := Option Addr × Nat) (fun y z => .slice z.1 (List.length y) z.2) (fun y z => ⟨[], [ArrA z.1 z.2 y, X]⟩) y := by
  have hs : (srt l).length = l.length := srt_length l
  refine xfY Tryz.func50 fun W0 F => ?_
  refine xc [] [0] [0] (collF nb a c l hX hl) fun ⟨a2, c2⟩ => ?_
  refine xc [] [] [0] (sortF (a := a2) (c := c2) hl) fun _ => ?_
  refine xw [300] 3 (congrArg (fun n : Nat => (.slice a2 n c2 : Value)) hs.symm) ?_
  exact xrY hy [] [] [] [0,0] (a2, c2)
 exact h
end Go.Proofs.YtcidmgkfaioceaaGreat
namespace Go.Proofs.YtcidmgkfaioceaaGreat
open Go Go.RowKit
set_option linter.unusedVariables false
def ins (x : Int) : List Int → List Int
 | [] => [x]
 | y :: l => if x ≤ y then x :: y :: l else y :: ins x l
def isrt : List Int → List Int
 | [] => []
 | x :: l => ins x (isrt l)
theorem ins_perm (x : Int) : ∀ l : List Int, (ins x l).Perm (x :: l)
 | [] => .refl _
 | y :: l => by
  unfold ins
  split
  · exact .refl _
  · exact ((ins_perm x l).cons y).trans (.swap x y l)
theorem isrt_perm : ∀ l : List Int, (isrt l).Perm l
 | [] => .refl _
 | x :: l => (ins_perm x (isrt l)).trans ((isrt_perm l).cons x)
theorem ins_sorted (x : Int) : ∀ {l : List Int}, l.Pairwise (· ≤ ·) → (ins x l).Pairwise (· ≤ ·)
 | [], _ => by simp [ins]
 | y :: l, h => by
  unfold ins
  have h1 := List.pairwise_cons.1 h
  split
  · rename_i hxy
    refine List.pairwise_cons.2 ⟨fun z hz => ?_, h⟩
    rcases List.mem_cons.1 hz with rfl | hz
    · exact hxy
    · exact Int.le_trans hxy (h1.1 z hz)
  · rename_i hxy
    refine List.pairwise_cons.2 ⟨fun z hz => ?_, ins_sorted x h1.2⟩
    rcases List.mem_cons.1 ((ins_perm x l).mem_iff.1 hz) with rfl | hz
    · omega
    · exact h1.1 z hz
theorem isrt_sorted : ∀ l : List Int, (isrt l).Pairwise (· ≤ ·)
 | [] => .nil
 | x :: l => ins_sorted x (isrt_sorted l)
theorem srt_is (l : List Int) : srt l = isrt l := by
 refine List.Perm.eq_of_pairwise (le := (· ≤ ·)) (fun a b _ _ h1 h2 => Int.le_antisymm h1 h2) ?_ (isrt_sorted l) ((List.mergeSort_perm l _).trans (isrt_perm l).symm)
 have h := List.pairwise_mergeSort (le := fun a b : Int => decide (a ≤ b)) (fun a b c h1 h2 => by simp at *; omega) (fun a b => by simp; omega) l
 exact h.imp fun h => by simpa using h
theorem keysF (b : Nat) : Fn Tryz.prog 225 [.map (some b)] ⟨[], []⟩ (Z := Nat) (fun nb => .func (.func 240) #[] #[.pointer (some ⟨nb, 0, none⟩)]) (fun nb => ⟨[⟨nb, #[.map (some b)], 255⟩], []⟩) := by
 refine xf Tryz.func225 fun W0 F => ?_
 refine xn [] fun nb => ?_
 exact xr [] [] [0] [] nb
theorem valsF (a : Option Addr) (m c : Nat) : Fn Tryz.prog 51 [.slice a m c] ⟨[], []⟩ (Z := Nat) (fun nb => .func (.func 93) #[] #[.pointer (some ⟨nb, 0, none⟩)]) (fun nb => ⟨[⟨nb, #[.slice a m c], 22⟩], []⟩) := by
 refine xf Tryz.func51 fun W0 F => ?_
 refine xn [] fun nb => ?_
 exact xr [] [] [0] [] nb
end Go.Proofs.YtcidmgkfaioceaaGreat
namespace Go.Proofs.YtcidmgkfaioceaaGreat
open Go Go.RowKit
set_option linter.unusedVariables false
def treadyS_j0 (e0_3x : List Int) : Option (List Int) :=
 some e0_3x
def treadyS_l1 (y2_5 : List Int) (tc : TurnsS) (k0 : (List Int) → Option (List Int)) : Nat → (List Int) → Int → Option (List Int)
 | 0, _, _ => none
 | m + 1, v1_3x, v1_13 => (bif decide (v1_13 < (((List.length y2_5) : Nat) : Int)) then chk (0 ≤ v1_13 ∧ v1_13 < ((y2_5.length : Nat) : Int)) ((townedS tc (nth y2_5 v1_13)).bind fun y5_2 => (bif !y5_2 then (twaitS tc (nth y2_5 v1_13)).bind fun y5_7 => (bif decide ((0 : Int) < y5_7) then chk ((v1_3x ++ ([nth y2_5 v1_13])).length ≤ 1099511627776) (letP (v1_3x ++ ([nth y2_5 v1_13])) fun l6_3 => chk (inR (v1_13 + (1 : Int))) ((treadyS_l1 y2_5 tc k0 m) l6_3 (v1_13 + (1 : Int)))) else chk (inR (v1_13 + (1 : Int))) ((treadyS_l1 y2_5 tc k0 m) v1_3x (v1_13 + (1 : Int)))) else chk (inR (v1_13 + (1 : Int))) ((treadyS_l1 y2_5 tc k0 m) v1_3x (v1_13 + (1 : Int))))) else k0 v1_3x)
def treadyS (tc : TurnsS) : Option (List Int) :=
 chk (KeysOk tc.wait) (letP (isrt (List.map Prod.fst tc.wait)) fun y2_5 => treadyS_l1 y2_5 tc treadyS_j0 (List.length tc.wait + 1) ([] : List Int) (0 : Int))
set_option maxRecDepth 100000 in
set_option maxHeartbeats 4000000 in
theorem treadyF {tc : TurnsS} (t : Nat) (t_b_owners : Nat) (t_b_wait : Nat) {y : List Int} (H : treadyS tc = some y) : FnY Tryz.prog 195 [.pointer (some ⟨t, 0, none⟩)] ⟨[⟨t, #[.map (some t_b_owners), .map (some t_b_wait)], 257⟩], [(FMapA t_b_owners tc.owners), (WMapA t_b_wait tc.wait)]⟩ (Z := Option Addr × Nat) (fun y (za0, zc0) => .slice za0 (List.length y) zc0) (fun y (za0, zc0) => ⟨[⟨t, #[.map (some t_b_owners), .map (some t_b_wait)], 257⟩], [(ArrA za0 zc0 y), (FMapA t_b_owners tc.owners), (WMapA t_b_wait tc.wait)]⟩) y := by
 unfold treadyS at H
 refine xfY Tryz.func195 fun W0 F => ?_
 refine xj [102] (ι := List Int × Option Addr × Nat) (fun (e0_3x, e0_3a, e0_3c) => ⟨[(3, .slice e0_3a (List.length e0_3x) e0_3c)], [⟨t, #[.map (some t_b_owners), .map (some t_b_wait)], 257⟩], [(ArrA e0_3a e0_3c e0_3x), (WMapA t_b_wait tc.wait), (FMapA t_b_owners tc.owners)]⟩) (fun (e0_3x, e0_3a, e0_3c) => treadyS_j0 e0_3x = some y) ?_ ?_
 · rintro ⟨e0_3x, e0_3a, e0_3c⟩ H
   replace H : treadyS_j0 e0_3x = some y := H
   rw [treadyS_j0] at H
   exact xrY (someE H) [] [] [0] [0,1,0] (e0_3a, e0_3c)
 · intro N0 hN0
   refine xc [0] [] [] (keysF t_b_wait) fun b2_4 => ?_
   refine chkG H fun q2_5_1 H => ?_
   refine letG H fun y2_5 hy2_5 H => ?_
   refine xc [] [0] [1] (sortedK b2_4 t_b_wait tc.wait q2_5_1 ((srt_is _).trans hy2_5)) fun ⟨t2_5_a, t2_5_c⟩ => ?_
   refine xg [] [] [] (gh_nil (α := Int) none) fun _ => ?_
   refine xl [] (ι := List Int × Int × Option Addr × Nat) (fun (v1_3x, v1_13, v1_3a, v1_3c) => ⟨[(0, .pointer (some ⟨t, 0, none⟩)), (3, .slice v1_3a (List.length v1_3x) v1_3c), (11, .slice t2_5_a (List.length y2_5) t2_5_c), (12, .int .i64 (((List.length y2_5) : Nat) : Int)), (13, .int .i64 v1_13)], [⟨t, #[.map (some t_b_owners), .map (some t_b_wait)], 257⟩], [(ArrA v1_3a v1_3c v1_3x), (ArrA t2_5_a t2_5_c y2_5), (WMapA t_b_wait tc.wait), (FMapA t_b_owners tc.owners)]⟩) (fun m1 (v1_3x, v1_13, v1_3a, v1_3c) => treadyS_l1 y2_5 tc (treadyS_j0) m1 v1_3x v1_13 = some y) [0] [0,0,0,0] ((List.length tc.wait + 1)) (([] : List Int), (0 : Int), none, 0) H ?_
   rintro N1 (_ | m1) ⟨v1_3x, v1_13, v1_3a, v1_3c⟩ H hN1
   · exact (noneE H).elim
   replace H : treadyS_l1 y2_5 tc (treadyS_j0) (m1 + 1) v1_3x v1_13 = some y := H
   rw [treadyS_l1] at H
   refine xs [] H ?_ ?_
   · intro H
     refine chkG H fun q4_0_1 H => ?_
     refine xi [1] 1 (rA t2_5_a t2_5_c y2_5) q4_0_1 fun b1 o1 e1 => ?_
     refine xpl [] 1 (ol_ld (rA t2_5_a t2_5_c y2_5) e1 q4_0_1 0 (fun _ => rfl)) ?_
     refine bindG H fun y5_2 hy5_2 H => ?_
     refine xc [] [0] [3,2] (townedF t t_b_owners t_b_wait hy5_2) fun _ => ?_
     refine xs [] H ?_ ?_
     · intro H
       refine bindG H fun y5_7 hy5_7 H => ?_
       refine xc [1,1,1] [0] [0,0] (twaitF t t_b_owners t_b_wait hy5_7) fun _ => ?_
       refine xs [1,1] H ?_ ?_
       · intro H
         refine xn [1] fun b6_2 => ?_
         refine xg [] [0] [4] (gh_one b6_2 3 (nth y2_5 v1_13 : Int) ()) fun _ => ?_
         refine chkG H fun q6_3_1 H => ?_
         refine letG H fun l6_3 hl6_3 H => ?_
         refine xa [] [3,0] (a := v1_3a) (l := v1_3x) (zs := l6_3) (cap := v1_3c) (rA (some ⟨b6_2, 0, none⟩) 1 ([nth y2_5 v1_13])) hl6_3 (hl6_3 ▸ q6_3_1) fun ⟨a6_3, c6_3⟩ => ?_
         refine chkG H fun q7_0_1 H => ?_
         refine xd [0] (ap q7_0_1 an) ?_
         exact xe [] _ [0] [0,3,2,1] (hN1 _ (l6_3, v1_13 + (1 : Int), a6_3, c6_3) (Nat.lt_succ_self _) H)
       · intro H
         refine chkG H fun q7_0_2 H => ?_
         refine xd [0,0] (ap q7_0_2 an) ?_
         exact xe [] _ [0] [2,2,1,0] (hN1 _ (v1_3x, v1_13 + (1 : Int), v1_3a, v1_3c) (Nat.lt_succ_self _) H)
     · intro H
       refine chkG H fun q7_0_3 H => ?_
       refine xd [0,0,0,0,0,0,0] (ap q7_0_3 an) ?_
       exact xe [] _ [0] [2,2,1,0] (hN1 _ (v1_3x, v1_13 + (1 : Int), v1_3a, v1_3c) (Nat.lt_succ_self _) H)
   · intro H
     exact xe [0] _ [0] [0,1,1] (hN0 (v1_3x, v1_3a, v1_3c) H)
def hpendS (hc : HomeS) : Option (Bool) :=
 (treadyS hc.turns).bind fun y1_4 => some (decide ((0 : Int) < (((List.length y1_4) : Nat) : Int)))
set_option maxRecDepth 100000 in
set_option maxHeartbeats 4000000 in
theorem hpendF {hc : HomeS} (h : Nat) (h_b_dir : Nat) (h_b_turns : Nat) (h_a_c_init : Option Addr) (h_c_c_init : Nat) {y : Bool} (H : hpendS hc = some y) : FnY Tryz.prog 148 [.pointer (some ⟨h, 0, none⟩)] ⟨[⟨h, #[.pointer (some ⟨h_b_dir, 0, none⟩), .pointer (some ⟨h_b_turns, 0, none⟩), .int .i64 hc.c.nodes, .int .i64 hc.c.lines, .int .i64 hc.c.words, .int .i64 hc.c.sets, .int .i64 hc.c.ways, .int .i64 hc.c.out, .int .i64 hc.c.inn, .slice h_a_c_init (List.length hc.c.init) h_c_c_init, .int .i64 hc.node], 152⟩], [(DirA h_b_dir hc.dir), (TurnsA h_b_turns hc.turns), (ImmA h_a_c_init h_c_c_init hc.c.init)]⟩ (Z := Unit) (fun y _ => .bool y) (fun y _ => ⟨[⟨h, #[.pointer (some ⟨h_b_dir, 0, none⟩), .pointer (some ⟨h_b_turns, 0, none⟩), .int .i64 hc.c.nodes, .int .i64 hc.c.lines, .int .i64 hc.c.words, .int .i64 hc.c.sets, .int .i64 hc.c.ways, .int .i64 hc.c.out, .int .i64 hc.c.inn, .slice h_a_c_init (List.length hc.c.init) h_c_c_init, .int .i64 hc.node], 152⟩], [(DirA h_b_dir hc.dir), (TurnsA h_b_turns hc.turns), (ImmA h_a_c_init h_c_c_init hc.c.init)]⟩) y := by
 unfold hpendS at H
 refine xfY Tryz.func148 fun W0 F => ?_
 refine xg [0] [] [1] (gh_open (TurnsO h_b_turns hc.turns)) fun ⟨b_owners1, b_wait2⟩ => ?_
 refine bindG H fun y1_4 hy1_4 H => ?_
 refine xc [] [0] [0,0] (treadyF h_b_turns b_owners1 b_wait2 hy1_4) fun ⟨t1_4_a0, t1_4_c0⟩ => ?_
 refine xg [] [0] [1,1] (gh_shut (TurnsO h_b_turns hc.turns) (b_owners1, b_wait2)) fun _ => ?_
 exact xrY (someE H) [] [] [0] [2,0,1] ()
def hgrantS_j0 (e0_h : HomeS) : Option (PktS × Bool × HomeS) :=
 some ((⟨(0 : Int), (0 : Int), (0 : Int), (0 : Int), (0 : Int), (0 : Int), (0 : Int), false, ([] : List Int)⟩ : PktS), false, e0_h)
def hgrantS_l1 (y1_4 : List Int) (hc : HomeS) (k0 : HomeS → Option (PktS × Bool × HomeS)) : Nat → Int → TurnsS → Option (PktS × Bool × HomeS)
 | 0, _, _ => none
 | m + 1, v1_15, v1_b_turns2 => (bif decide (v1_15 < (((List.length y1_4) : Nat) : Int)) then chk (0 ≤ v1_15 ∧ v1_15 < ((y1_4.length : Nat) : Int)) ((tnextS v1_b_turns2 (nth y1_4 v1_15)).bind fun y4_5 => (bif y4_5.2.2.1 then (hgrS ({ hc with turns := y4_5.2.2.2 } : HomeS) (nth y1_4 v1_15) y4_5.1 y4_5.2.1).bind fun y6_4 => some (y6_4, true, ({ hc with turns := y4_5.2.2.2 } : HomeS)) else chk (inR (v1_15 + (1 : Int))) ((hgrantS_l1 y1_4 hc k0 m) (v1_15 + (1 : Int)) y4_5.2.2.2))) else k0 ({ hc with turns := v1_b_turns2 } : HomeS))
def hgrantS (hc : HomeS) : Option (PktS × Bool × HomeS) :=
 (treadyS hc.turns).bind fun y1_4 => hgrantS_l1 y1_4 hc hgrantS_j0 (List.length hc.turns.wait + 1) (0 : Int) hc.turns
set_option maxRecDepth 100000 in
set_option maxHeartbeats 4000000 in
theorem hgrantF {hc : HomeS} (h : Nat) {y : PktS × Bool × HomeS} (H : hgrantS hc = some y) : FnY Tryz.prog 150 [.pointer (some ⟨h, 0, none⟩)] ⟨[], [(HomeA h hc)]⟩ (Z := Option Addr × Nat) (fun y (za0, zc0) => .tuple #[.agg #[.int .i64 y.1.kind, .int .i64 y.1.src, .int .i64 y.1.dst, .int .i64 y.1.id, .int .i64 y.1.line, .int .i64 y.1.ptr, .int .i64 y.1.state, .bool y.1.flag, .slice za0 (List.length y.1.data) zc0], .bool y.2.1]) (fun y (za0, zc0) => ⟨[], [(ArrA za0 zc0 y.1.data), (HomeA h y.2.2)]⟩) y := by
 unfold hgrantS at H
 refine xfY Tryz.func150 fun W0 F => ?_
 refine xn [] fun b0_0 => ?_
 refine xj [100] (ι := HomeS) (fun e0_h => ⟨[(2, .pointer (some ⟨b0_0, 0, none⟩))], [⟨b0_0, #[.int .i64 (0), .int .i64 (0), .int .i64 (0), .int .i64 (0), .int .i64 (0), .int .i64 (0), .int .i64 (0), .bool false, .slice none 0 0], 176⟩], [(HomeA h e0_h)]⟩) (fun e0_h => hgrantS_j0 e0_h = some y) ?_ ?_
 · rintro e0_h H
   replace H : hgrantS_j0 e0_h = some y := H
   rw [hgrantS_j0] at H
   refine xg [0] [] [] (gh_nil (α := Int) none) fun _ => ?_
   exact xrY (someE H) [] [0] [] [0,0] (none, 0)
 · intro N0 hN0
   refine xg [] [] [0] (gh_open (HomeO h hc)) fun ⟨b_dir1, b_turns2, a_c_init3, c_c_init4⟩ => ?_
   refine xg [0] [] [1] (gh_open (TurnsO b_turns2 hc.turns)) fun ⟨b_owners5, b_wait6⟩ => ?_
   refine bindG H fun y1_4 hy1_4 H => ?_
   refine xc [] [0] [0,0] (treadyF b_turns2 b_owners5 b_wait6 hy1_4) fun ⟨t1_4_a0, t1_4_c0⟩ => ?_
   refine xg [] [0] [1,1] (gh_shut (TurnsO b_turns2 hc.turns) (b_owners5, b_wait6)) fun _ => ?_
   refine xl [] (ι := Int × TurnsS) (fun (v1_15, v1_b_turns2) => ⟨[(0, .pointer (some ⟨h, 0, none⟩)), (2, .pointer (some ⟨b0_0, 0, none⟩)), (13, .slice t1_4_a0 (List.length y1_4) t1_4_c0), (14, .int .i64 (((List.length y1_4) : Nat) : Int)), (15, .int .i64 v1_15)], [⟨h, #[.pointer (some ⟨b_dir1, 0, none⟩), .pointer (some ⟨b_turns2, 0, none⟩), .int .i64 hc.c.nodes, .int .i64 hc.c.lines, .int .i64 hc.c.words, .int .i64 hc.c.sets, .int .i64 hc.c.ways, .int .i64 hc.c.out, .int .i64 hc.c.inn, .slice a_c_init3 (List.length hc.c.init) c_c_init4, .int .i64 hc.node], 152⟩, ⟨b0_0, #[.int .i64 (0), .int .i64 (0), .int .i64 (0), .int .i64 (0), .int .i64 (0), .int .i64 (0), .int .i64 (0), .bool false, .slice none 0 0], 176⟩], [(TurnsA b_turns2 v1_b_turns2), (ArrA t1_4_a0 t1_4_c0 y1_4), (DirA b_dir1 hc.dir), (ImmA a_c_init3 c_c_init4 hc.c.init)]⟩) (fun m1 (v1_15, v1_b_turns2) => hgrantS_l1 y1_4 hc (hgrantS_j0) m1 v1_15 v1_b_turns2 = some y) [0,0] [0,0,0,0] ((List.length hc.turns.wait + 1)) ((0 : Int), hc.turns) H ?_
   rintro N1 (_ | m1) ⟨v1_15, v1_b_turns2⟩ H hN1
   · exact (noneE H).elim
   replace H : hgrantS_l1 y1_4 hc (hgrantS_j0) (m1 + 1) v1_15 v1_b_turns2 = some y := H
   rw [hgrantS_l1] at H
   refine xs [] H ?_ ?_
   · intro H
     refine chkG H fun q3_0_1 H => ?_
     refine xi [1] 1 (rA t1_4_a0 t1_4_c0 y1_4) q3_0_1 fun b1 o1 e1 => ?_
     refine xpl [] 1 (ol_ld (rA t1_4_a0 t1_4_c0 y1_4) e1 q3_0_1 0 (fun _ => rfl)) ?_
     refine bindG H fun y4_5 hy4_5 H => ?_
     refine xc [0] [] [0] (tnextF b_turns2 hy4_5) fun _ => ?_
     refine xs [] H ?_ ?_
     · intro H
       refine bindG H fun y6_4 hy6_4 H => ?_
       refine xc [1] [0] [2,0,1] (hgrF h b_dir1 b_turns2 a_c_init3 c_c_init4 hy6_4) fun ⟨t6_4_a0, t6_4_c0⟩ => ?_
       refine xg [1] [0] [1,1,1] (gh_shut (HomeO h ({ hc with turns := y4_5.2.2.2 } : HomeS)) (b_dir1, b_turns2, a_c_init3, c_c_init4)) fun _ => ?_
       exact xrY (someE H) [] [0] [] [1,0] (t6_4_a0, t6_4_c0)
     · intro H
       refine chkG H fun q7_0_1 H => ?_
       refine xd [0,0] (ap q7_0_1 an) ?_
       exact xe [] _ [0,0] [0,0,0,0] (hN1 _ (v1_15 + (1 : Int), y4_5.2.2.2) (Nat.lt_succ_self _) H)
   · intro H
     refine xg [0] [0] [2,0,1] (gh_shut (HomeO h ({ hc with turns := v1_b_turns2 } : HomeS)) (b_dir1, b_turns2, a_c_init3, c_c_init4)) fun _ => ?_
     exact xe [] _ [0] [0] (hN0 (({ hc with turns := v1_b_turns2 } : HomeS)) H)
end Go.Proofs.YtcidmgkfaioceaaGreat
namespace Go.Proofs.YtcidmgkfaioceaaGreat
open Go
set_option linter.unusedVariables false
set_option linter.unusedSimpArgs false
abbrev B16 := BitVec 16
def cR (s : B16) : B16 := (s <<< 1) ^^^ (if s.msb then 0x1021#16 else 0#16)
theorem cR_xor (a b : B16) : cR (a ^^^ b) = cR a ^^^ cR b := by
  unfold cR
  rw [BitVec.msb_xor, BitVec.shiftLeft_xor_distrib]
  cases a.msb <;> cases b.msb <;> simp [BitVec.xor_assoc] <;> grind [BitVec.xor_assoc, BitVec.xor_comm]
theorem cR_zero : cR 0#16 = 0#16 := by decide
theorem cR_inj {s : B16} (h : cR s = 0#16) : s = 0#16 := by
  unfold cR at h
  have h0 : (s <<< 1).getLsbD 0 = false := by simp
  cases hm : s.msb with
  | true =>
    simp [hm] at h
    have h1 : (s <<< 1 ^^^ 0x1021#16).getLsbD 0 = false := by rw [h]; rfl
    rw [BitVec.getLsbD_xor, h0] at h1
    exact absurd h1 (by decide)
  | false =>
    simp [hm] at h
    apply BitVec.eq_of_getLsbD_eq
    intro i hi
    rcases Nat.lt_or_ge i 15 with h15 | h15
    · have h1 : (s <<< 1).getLsbD (i + 1) = false := by rw [h]; simp
      rw [BitVec.getLsbD_shiftLeft] at h1
      simp at h1
      simpa using h1 (by omega)
    · obtain rfl : i = 15 := by omega
      have : s.msb = s.getLsbD 15 := by simp [BitVec.msb_eq_getLsbD_last]
      rw [← this, hm]
      simp
def cRn : Nat → B16 → B16
  | 0, s => s
  | n + 1, s => cRn n (cR s)
theorem cRn_xor : ∀ (n : Nat) (a b : B16), cRn n (a ^^^ b) = cRn n a ^^^ cRn n b
  | 0, _, _ => rfl
  | n + 1, a, b => by unfold cRn; rw [cR_xor, cRn_xor n]
theorem cRn_zero : ∀ n, cRn n 0#16 = 0#16
  | 0 => rfl
  | n + 1 => by unfold cRn; rw [cR_zero, cRn_zero n]
theorem cRn_inj : ∀ (n : Nat) {s : B16}, cRn n s = 0#16 → s = 0#16
  | 0, _, h => h
  | n + 1, s, h => cR_inj (cRn_inj n h)
/-- A digit comes. -/
def bit0 (b : Bool) : B16 := if b then 0x8000#16 else 0#16
def cG (s : B16) (b : Bool) : B16 := cR (s ^^^ bit0 b)
theorem cG_xor (s t : B16) (a b : Bool) : cG (s ^^^ t) (a ^^ b) = cG s a ^^^ cG t b := by
  unfold cG
  rw [← cR_xor]
  congr 1
  have : bit0 (a ^^ b) = bit0 a ^^^ bit0 b := by cases a <;> cases b <;> rfl
  rw [this]
  grind [BitVec.xor_assoc, BitVec.xor_comm]
theorem cG_fold_xor : ∀ (x e : List Bool), x.length = e.length → ∀ s t, (List.zipWith (· ^^ ·) x e).foldl cG (s ^^^ t) = x.foldl cG s ^^^ e.foldl cG t
  | [], [], _, _, _ => rfl
  | a :: x, b :: e, h, s, t => by
    simp only [List.zipWith_cons_cons, List.foldl_cons]
    rw [cG_xor]
    exact cG_fold_xor x e (by simpa using h) _ _
theorem cG_zeros : ∀ n, (List.replicate n false).foldl cG 0#16 = 0#16
  | 0 => rfl
  | n + 1 => by simp only [List.replicate_succ, List.foldl_cons]; rw [show cG 0#16 false = 0#16 by decide]; exact cG_zeros n
theorem cG_false_inj {s : B16} (h : cG s false = 0#16) : s = 0#16 := by
  unfold cG bit0 at h
  simpa using cR_inj h
theorem cG_zeros_inj : ∀ (n : Nat) {s : B16}, (List.replicate n false).foldl cG s = 0#16 → s = 0#16
  | 0, _, h => h
  | n + 1, s, h => cG_false_inj (cG_zeros_inj n (by simpa [List.replicate_succ] using h))
/-- The number of digits, at the left end of sixteen. -/
def valL : List Bool → B16
  | [] => 0#16
  | b :: w => bit0 b ^^^ (valL w >>> 1)
theorem bit0_msb (b : Bool) : (bit0 b).msb = b := by cases b <;> decide
theorem shr1_msb (x : B16) : (x >>> 1).msb = false := by
  rw [BitVec.msb_ushiftRight]
  simp
theorem cR_shr {x : B16} (h : x.getLsbD 0 = false) : cR (x >>> 1) = x := by
  unfold cR
  rw [shr1_msb]
  simp
  apply BitVec.eq_of_getLsbD_eq
  intro i hi
  rw [BitVec.getLsbD_shiftLeft, BitVec.getLsbD_ushiftRight]
  rcases Nat.eq_zero_or_pos i with rfl | hp
  · simpa using h.symm
  · simp [hi, show 1 + (i - 1) = i by omega, show ¬ i < 1 by omega]
/-- digits of w lie among the upper ones. -/
theorem valL_low : ∀ (w : List Bool) (i : Nat), i + w.length < 16 → (valL w).getLsbD i = false
  | [], i, _ => by simp [valL]
  | b :: w, i, h => by
    simp only [List.length_cons] at h
    unfold valL
    rw [BitVec.getLsbD_xor, BitVec.getLsbD_ushiftRight, valL_low w (1 + i) (by omega)]
    have : (bit0 b).getLsbD i = false := by
      have hi : i < 15 := by omega
      cases b
      · simp [bit0]
      · unfold bit0
        simp only [if_true]
        rw [show (0x8000#16) = (1#16 <<< 15) by decide, BitVec.getLsbD_shiftLeft]
        simp [hi]
    rw [this]
    rfl
theorem cG_absorb : ∀ (w : List Bool) (s : B16), w.length ≤ 16 → w.foldl cG s = cRn w.length (s ^^^ valL w)
  | [], s, _ => by simp [valL, cRn]
  | b :: w, s, h => by
    simp only [List.length_cons] at h
    simp only [List.foldl_cons, List.length_cons]
    rw [cG_absorb w _ (by omega)]
    show _ = cRn w.length (cR (s ^^^ (bit0 b ^^^ (valL w >>> 1))))
    congr 1
    unfold cG
    rw [← BitVec.xor_assoc, cR_xor (s ^^^ bit0 b), cR_shr (valL_low w 0 (by omega))]
theorem valL_zero : ∀ (w : List Bool), w.length ≤ 16 → valL w = 0#16 → ∀ b ∈ w, b = false
  | [], _, _, _, h => by simp at h
  | b :: w, hl, h, x, hx => by
    simp only [List.length_cons] at hl
    unfold valL at h
    have hb : b = false := by
      have h1 : (bit0 b ^^^ (valL w >>> 1)).msb = (0#16).msb := by rw [h]
      rw [BitVec.msb_xor, bit0_msb, shr1_msb] at h1
      simpa using h1
    subst hb
    rcases List.mem_cons.1 hx with rfl | hx
    · rfl
    · refine valL_zero w (by omega) ?_ x hx
      have h2 : valL w >>> 1 = 0#16 := by simpa [bit0] using h
      have h3 := cR_shr (valL_low w 0 (by omega))
      rw [h2, cR_zero] at h3
      exact h3.symm
theorem cG_burst {w : List Bool} (hw : w.length ≤ 16) (n : Nat) (m : Nat) (h : (List.replicate n false ++ (w ++ List.replicate m false)).foldl cG 0#16 = 0#16) : ∀ b ∈ w, b = false := by
  rw [List.foldl_append, cG_zeros, List.foldl_append] at h
  have h1 := cG_zeros_inj m h
  rw [cG_absorb w _ hw] at h1
  have h2 := cRn_inj _ h1
  exact valL_zero w hw (by simpa using h2)
/-- A burst somewhere: all digits outside of sixteen that stand side by side are as they were. -/
theorem cG_burst2 {L : List Bool} (a : Nat) (h0 : ∀ p, p < L.length → (p < a ∨ a + 16 ≤ p) → L[p]? = some false) (h : L.foldl cG 0#16 = 0#16) : ∀ b ∈ L, b = false := by
  have e : L = List.replicate (min a L.length) false ++ ((L.drop a).take 16 ++ List.replicate (L.length - (a + 16)) false) := by
    apply List.ext_getElem?
    intro p
    rcases Nat.lt_or_ge p L.length with hp | hp
    · rcases Nat.lt_or_ge p a with hpa | hpa
      · rw [List.getElem?_append_left (by simp; omega), h0 p hp (.inl hpa)]
        simp [List.getElem?_replicate]; omega
      · rw [List.getElem?_append_right (by simp; omega)]
        simp only [List.length_replicate, Nat.min_eq_left (show a ≤ L.length by omega)]
        rcases Nat.lt_or_ge p (a + 16) with hq | hq
        · rw [List.getElem?_append_left (by simp; omega), List.getElem?_take_of_lt (by omega), List.getElem?_drop, show a + (p - a) = p by omega]
        · rw [List.getElem?_append_right (by simp; omega), h0 p hp (.inr hq)]
          simp [List.getElem?_replicate]; omega
    · rw [List.getElem?_eq_none hp, List.getElem?_eq_none]
      simp; omega
  rw [e] at h
  have h1 := cG_burst (w := (L.drop a).take 16) (by simp; omega) _ _ h
  intro b hb
  rw [e] at hb
  rcases List.mem_append.1 hb with hb | hb
  · exact (List.mem_replicate.1 hb).2
  · rcases List.mem_append.1 hb with hb | hb
    · exact h1 b hb
    · exact (List.mem_replicate.1 hb).2
end Go.Proofs.YtcidmgkfaioceaaGreat
namespace Go.Proofs.YtcidmgkfaioceaaGreat
open Go Go.RowKit
set_option linter.unusedVariables false
def delPS (l : List PktS) (i j : Int) : Option (List PktS) := chk (0 ≤ i ∧ i ≤ j ∧ j ≤ ((l.length : Nat) : Int)) (bif decide (i = j) then some l else some (l.take i.toNat ++ l.drop j.toNat))
set_option maxRecDepth 100000 in
set_option maxHeartbeats 4000000 in
theorem delPF {l : List PktS} {i : Int} {j : Int} (la : Option Addr) (lc : Nat) {y : List PktS} (H : delPS l i j = some y) : FnY Tryz.prog 141 [.slice la (List.length l) lc, .int .i64 i, .int .i64 j] ⟨[], [(ArrA la lc l)]⟩ (Z := Option Addr × Nat) (fun y (za0, zc0) => .slice za0 (List.length y) zc0) (fun y (za0, zc0) => ⟨[], [(ArrA za0 zc0 y)]⟩) y := by
 unfold delPS at H
 refine xfY Tryz.func141 fun W0 F => ?_
 obtain ⟨q1, H⟩ := chkE H
 refine xk [] [0] (cap_of (rA la lc l)) fun hc => ?_
 refine xs2 [] (a := la) (m := l.length) (cap := lc) (K := Rw.k PktS) (lo := i) (hi := j) (mx := ((l.length : Nat) : Int)) (by omega) ?_
 refine xs [] H ?_ ?_
 · intro H
   obtain rfl := someE H
   exact xrY rfl [1] [] [] [0] (la, lc)
 · intro H
   obtain rfl := someE H
   have hm : j.toNat + (l.length - j.toNat) = l.length := by omega
   refine xs2 [0,0,1,2] (a := la) (m := l.length) (cap := lc) (K := Rw.k PktS) (lo := 0) (hi := i) (mx := ((lc : Nat) : Int)) (by omega) ?_
   refine xw [] 22 (v := .slice (if lc = 0 then la else la.map (·.add (0 * Rw.k PktS))) i.toNat lc) (v' := .slice la i.toNat lc) (by rw [slice_front (a := la) (Rw.k PktS) lc rfl]) ?_
   refine xs2 [3,4,5] (a := la) (m := l.length) (cap := lc) (K := Rw.k PktS) (lo := j) (hi := ((l.length : Nat) : Int)) (mx := ((lc : Nat) : Int)) (by omega) ?_
   refine xo [6] [] [0] (oc_within 187 187 176 (lc - j.toNat) i.toNat j.toNat (l.length - j.toNat) Tryz.prog la _ lc l (by decide) (by omega) hm rfl) fun _ => ?_
   refine xs2 [7] (a := la) (m := i.toNat + (l.length - j.toNat)) (cap := lc) (K := Rw.k PktS) (lo := ((i.toNat + (l.length - j.toNat) : Nat) : Int)) (hi := ((l.length : Nat) : Int)) (mx := ((lc : Nat) : Int)) (by omega) ?_
   refine xo [] [] [0] (oc_clear 187 187 176 (lc - (i.toNat + (l.length - j.toNat))) (i.toNat + (l.length - j.toNat)) (l.length - (i.toNat + (l.length - j.toNat))) Tryz.prog la _ lc (l.take i.toNat ++ l.drop j.toNat ++ l.drop (i.toNat + (l.length - j.toNat))) (by simp; omega) rfl) fun _ => ?_
   refine xg [] [] [0] (gh_same la lc (l := (l.take i.toNat ++ l.drop j.toNat ++ l.drop (i.toNat + (l.length - j.toNat))).take (i.toNat + (l.length - j.toNat))) (List.take_left' (by simp; omega))) fun _ => ?_
   refine xw [] 6 (v := .slice la (i.toNat + (l.length - j.toNat)) lc) (v' := .slice la (l.take i.toNat ++ l.drop j.toNat).length lc) (congrArg (fun n : Nat => Value.slice la n lc) (by simp; omega)) ?_
   exact xrY rfl [] [] [] [0] (la, lc)
def delES (l : List Ent) (i j : Int) : Option (List Ent) := chk (0 ≤ i ∧ i ≤ j ∧ j ≤ ((l.length : Nat) : Int)) (bif decide (i = j) then some l else some (l.take i.toNat ++ l.drop j.toNat))
set_option maxRecDepth 100000 in
set_option maxHeartbeats 4000000 in
theorem delEF {l : List Ent} {i : Int} {j : Int} (la : Option Addr) (lc : Nat) {y : List Ent} (H : delES l i j = some y) : FnY Tryz.prog 243 [.slice la (List.length l) lc, .int .i64 i, .int .i64 j] ⟨[], [(ArrA la lc l)]⟩ (Z := Option Addr × Nat) (fun y (za0, zc0) => .slice za0 (List.length y) zc0) (fun y (za0, zc0) => ⟨[], [(ArrA za0 zc0 y)]⟩) y := by
 unfold delES at H
 refine xfY Tryz.func243 fun W0 F => ?_
 obtain ⟨q1, H⟩ := chkE H
 refine xk [] [0] (cap_of (rA la lc l)) fun hc => ?_
 refine xs2 [] (a := la) (m := l.length) (cap := lc) (K := Rw.k Ent) (lo := i) (hi := j) (mx := ((l.length : Nat) : Int)) (by omega) ?_
 refine xs [] H ?_ ?_
 · intro H
   obtain rfl := someE H
   exact xrY rfl [1] [] [] [0] (la, lc)
 · intro H
   obtain rfl := someE H
   have hm : j.toNat + (l.length - j.toNat) = l.length := by omega
   refine xs2 [0,0,1,2] (a := la) (m := l.length) (cap := lc) (K := Rw.k Ent) (lo := 0) (hi := i) (mx := ((lc : Nat) : Int)) (by omega) ?_
   refine xw [] 22 (v := .slice (if lc = 0 then la else la.map (·.add (0 * Rw.k Ent))) i.toNat lc) (v' := .slice la i.toNat lc) (by rw [slice_front (a := la) (Rw.k Ent) lc rfl]) ?_
   refine xs2 [3,4,5] (a := la) (m := l.length) (cap := lc) (K := Rw.k Ent) (lo := j) (hi := ((l.length : Nat) : Int)) (mx := ((lc : Nat) : Int)) (by omega) ?_
   refine xo [6] [] [0] (oc_within 114 114 42 (lc - j.toNat) i.toNat j.toNat (l.length - j.toNat) Tryz.prog la _ lc l (by decide) (by omega) hm rfl) fun _ => ?_
   refine xs2 [7] (a := la) (m := i.toNat + (l.length - j.toNat)) (cap := lc) (K := Rw.k Ent) (lo := ((i.toNat + (l.length - j.toNat) : Nat) : Int)) (hi := ((l.length : Nat) : Int)) (mx := ((lc : Nat) : Int)) (by omega) ?_
   refine xo [] [] [0] (oc_clear 114 114 42 (lc - (i.toNat + (l.length - j.toNat))) (i.toNat + (l.length - j.toNat)) (l.length - (i.toNat + (l.length - j.toNat))) Tryz.prog la _ lc (l.take i.toNat ++ l.drop j.toNat ++ l.drop (i.toNat + (l.length - j.toNat))) (by simp; omega) rfl) fun _ => ?_
   refine xg [] [] [0] (gh_same la lc (l := (l.take i.toNat ++ l.drop j.toNat ++ l.drop (i.toNat + (l.length - j.toNat))).take (i.toNat + (l.length - j.toNat))) (List.take_left' (by simp; omega))) fun _ => ?_
   refine xw [] 6 (v := .slice la (i.toNat + (l.length - j.toNat)) lc) (v' := .slice la (l.take i.toNat ++ l.drop j.toNat).length lc) (congrArg (fun n : Nat => Value.slice la n lc) (by simp; omega)) ?_
   exact xrY rfl [] [] [] [0] (la, lc)
end Go.Proofs.YtcidmgkfaioceaaGreat
namespace Go.Proofs.YtcidmgkfaioceaaGreat
open Go Go.RowKit
set_option linter.unusedVariables false
structure BoxS where
 l : List PktS
 room : Int
structure ProcS where
 ops : List OpS
 values : List Int
 begun : Bool
structure TraceS where
 l : List EventS
def QueueO (b : Nat) (c : BoxS) : Option Addr × Nat → Rs := fun (a_l, c_l) => ⟨[⟨b, #[.slice a_l (List.length c.l) c_l, .int .i64 c.room], 191⟩], [(ArrA a_l c_l c.l)]⟩
abbrev QueueA (b : Nat) (c : BoxS) : Asn := ObA (QueueO b c)
def PoolO (b : Nat) (c : BoxS) : Option Addr × Nat → Rs := fun (a_l, c_l) => ⟨[⟨b, #[.slice a_l (List.length c.l) c_l, .int .i64 c.room], 189⟩], [(ArrA a_l c_l c.l)]⟩
abbrev PoolA (b : Nat) (c : BoxS) : Asn := ObA (PoolO b c)
def ProcO (b : Nat) (c : ProcS) : Option Addr × Nat × Option Addr × Nat → Rs := fun (a_ops, c_ops, a_values, c_values) => ⟨[⟨b, #[.slice a_ops (List.length c.ops) c_ops, .slice a_values (List.length c.values) c_values, .bool c.begun], 121⟩], [(ArrA a_ops c_ops c.ops), (ArrA a_values c_values c.values)]⟩
abbrev ProcA (b : Nat) (c : ProcS) : Asn := ObA (ProcO b c)
def TraceO (b : Nat) (c : TraceS) : Option Addr × Nat → Rs := fun (a_l, c_l) => ⟨[⟨b, #[.slice a_l (List.length c.l) c_l], 148⟩], [(ArrA a_l c_l c.l)]⟩
abbrev TraceA (b : Nat) (c : TraceS) : Asn := ObA (TraceO b c)
def quownS (p : PktS) : Option (PktS) :=
 (cloneS p.data).bind fun y1_2 => some (⟨p.kind, p.src, p.dst, p.id, p.line, p.ptr, p.state, p.flag, y1_2⟩ : PktS)
set_option maxRecDepth 100000 in
set_option maxHeartbeats 4000000 in
theorem quownF {p : PktS} {p0A : Asn} (p0a : Option Addr) (p0c : Nat) (hp0A : Rdb p0A p0a p0c p.data) {y : PktS} (H : quownS p = some y) : FnY Tryz.prog 140 [.agg #[.int .i64 p.kind, .int .i64 p.src, .int .i64 p.dst, .int .i64 p.id, .int .i64 p.line, .int .i64 p.ptr, .int .i64 p.state, .bool p.flag, .slice p0a (List.length p.data) p0c]] ⟨[], [p0A]⟩ (Z := Option Addr × Nat) (fun y (za0, zc0) => .agg #[.int .i64 y.kind, .int .i64 y.src, .int .i64 y.dst, .int .i64 y.id, .int .i64 y.line, .int .i64 y.ptr, .int .i64 y.state, .bool y.flag, .slice za0 (List.length y.data) zc0]) (fun y (za0, zc0) => ⟨[], [(ArrA za0 zc0 y.data), p0A]⟩) y := by
 unfold quownS at H
 refine xfY Tryz.func140 fun W0 F => ?_
 refine xn [] fun b0_0 => ?_
 refine xn [] fun b0_1 => ?_
 refine bindG H fun y1_2 hy1_2 H => ?_
 refine xc [1] [] [0] (cloneF p0a p0c hp0A hy1_2) fun ⟨t1_2_a0, t1_2_c0⟩ => ?_
 exact xrY (someE H) [1,1,0] [0] [] [0,0] (t1_2_a0, t1_2_c0)
def qunewS (room : Int) : Option (BoxS) :=
 letP (if (0 : Int) < room then room else (0 : Int)) fun u1_1 => some ({ l := ([] : List PktS), room := u1_1 } : BoxS)
set_option maxRecDepth 100000 in
set_option maxHeartbeats 4000000 in
theorem qunewF {room : Int} {y : BoxS} (H : qunewS room = some y) : FnY Tryz.prog 83 [.int .i64 room] ⟨[], []⟩ (Z := Nat) (fun y (zb0 : Nat) => .pointer (some ⟨zb0, 0, none⟩)) (fun y (zb0 : Nat) => ⟨[], [(QueueA zb0 y)]⟩) y := by
 unfold qunewS at H
 refine xfY Tryz.func83 fun W0 F => ?_
 refine letG H fun u1_1 hu1_1 H => ?_
 refine xw [304] 4 (congrArg (Value.int .i64) hu1_1) ?_
 refine xn [] fun b1_3 => ?_
 refine xg [] [] [] (gh_nil (α := PktS) none) fun _ => ?_
 refine xg [] [0] [0] (gh_shut (QueueO b1_3 ({ l := ([] : List PktS), room := u1_1 } : BoxS)) (none, 0)) fun _ => ?_
 exact xrY (someE H) [] [] [] [0] (b1_3)
def qulenS (tc : BoxS) : Option (Int) :=
 some (((List.length tc.l) : Nat) : Int)
set_option maxRecDepth 100000 in
set_option maxHeartbeats 4000000 in
theorem qulenF {tc : BoxS} (t : Nat) (t_a_l : Option Addr) (t_c_l : Nat) {y : Int} (H : qulenS tc = some y) : FnY Tryz.prog 67 [.pointer (some ⟨t, 0, none⟩)] ⟨[⟨t, #[.slice t_a_l (List.length tc.l) t_c_l, .int .i64 tc.room], 191⟩], [(ArrA t_a_l t_c_l tc.l)]⟩ (Z := Unit) (fun y _ => .int .i64 y) (fun y _ => ⟨[⟨t, #[.slice t_a_l (List.length tc.l) t_c_l, .int .i64 tc.room], 191⟩], [(ArrA t_a_l t_c_l tc.l)]⟩) y := by
 unfold qulenS at H
 refine xfY Tryz.func67 fun W0 F => ?_
 exact xrY (someE H) [0] [] [0] [0] ()
def quroomS (tc : BoxS) : Option (Int) :=
 letP (wr (tc.room - (((List.length tc.l) : Nat) : Int))) fun u1_9 => some u1_9
set_option maxRecDepth 100000 in
set_option maxHeartbeats 4000000 in
theorem quroomF {tc : BoxS} (t : Nat) (t_a_l : Option Addr) (t_c_l : Nat) {y : Int} (H : quroomS tc = some y) : FnY Tryz.prog 139 [.pointer (some ⟨t, 0, none⟩)] ⟨[⟨t, #[.slice t_a_l (List.length tc.l) t_c_l, .int .i64 tc.room], 191⟩], [(ArrA t_a_l t_c_l tc.l)]⟩ (Z := Unit) (fun y _ => .int .i64 y) (fun y _ => ⟨[⟨t, #[.slice t_a_l (List.length tc.l) t_c_l, .int .i64 tc.room], 191⟩], [(ArrA t_a_l t_c_l tc.l)]⟩) y := by
 unfold quroomS at H
 refine xfY Tryz.func139 fun W0 F => ?_
 refine letG H fun u1_9 hu1_9 H => ?_
 refine xw [0,1,2,3,0,4,5,6,7,0,8,9,1] 12 (congrArg (Value.int .i64) hu1_9) ?_
 exact xrY (someE H) [10] [] [0] [0] ()
def quputS (tc : BoxS) (p : PktS) : Option (Int × BoxS) :=
 (quroomS tc).bind fun y1_1 => (bif decide (y1_1 = (0 : Int)) then some ((5 : Int), tc) else (quownS p).bind fun y3_6 => chk ((tc.l ++ ([y3_6])).length ≤ 1099511627776) (letP (tc.l ++ ([y3_6])) fun l3_8 => some ((0 : Int), ({ tc with l := l3_8 } : BoxS))))
set_option maxRecDepth 100000 in
set_option maxHeartbeats 4000000 in
theorem quputF {tc : BoxS} {p : PktS} {p0A : Asn} (t : Nat) (p0a : Option Addr) (p0c : Nat) (hp0A : Rdb p0A p0a p0c p.data) {y : Int × BoxS} (H : quputS tc p = some y) : FnY Tryz.prog 107 [.pointer (some ⟨t, 0, none⟩), .agg #[.int .i64 p.kind, .int .i64 p.src, .int .i64 p.dst, .int .i64 p.id, .int .i64 p.line, .int .i64 p.ptr, .int .i64 p.state, .bool p.flag, .slice p0a (List.length p.data) p0c]] ⟨[], [(QueueA t tc), p0A]⟩ (Z := Unit) (fun y _ => .int .i64 y.1) (fun y _ => ⟨[], [(QueueA t y.2), p0A]⟩) y := by
 unfold quputS at H
 refine xfY Tryz.func107 fun W0 F => ?_
 refine xn [] fun b0_0 => ?_
 refine xg [] [] [0] (gh_open (QueueO t tc)) fun ⟨a_l1, c_l2⟩ => ?_
 refine bindG H fun y1_1 hy1_1 H => ?_
 refine xc [] [0] [0] (quroomF t a_l1 c_l2 hy1_1) fun _ => ?_
 refine xs [] H ?_ ?_
 · intro H
   refine xg [1] [0] [0] (gh_shut (QueueO t tc) (a_l1, c_l2)) fun _ => ?_
   exact xrY (someE H) [] [] [] [0,0] ()
 · intro H
   refine bindG H fun y3_6 hy3_6 H => ?_
   refine xc [0,0,1,2,3,4,0,5,1,6] [] [1] (quownF p0a p0c hp0A hy3_6) fun ⟨t3_6_a0, t3_6_c0⟩ => ?_
   refine xn [7] fun b3_7 => ?_
   refine xg [8] [] [0] (gh_frz t3_6_a0 t3_6_c0 y3_6.data) fun _ => ?_
   refine xg [] [] [0] (gh_dup t3_6_a0 t3_6_c0 y3_6.data) fun _ => ?_
   refine xg [] [0] [0] (gh_one b3_7 176 y3_6 (t3_6_a0, t3_6_c0)) fun _ => ?_
   refine chkG H fun q3_8_1 H => ?_
   refine letG H fun l3_8 hl3_8 H => ?_
   refine xa [] [3,0] (a := a_l1) (l := tc.l) (zs := l3_8) (cap := c_l2) (rA (some ⟨b3_7, 0, none⟩) 1 ([y3_6])) hl3_8 (hl3_8 ▸ q3_8_1) fun ⟨a3_8, c3_8⟩ => ?_
   refine xg [9,10,11,0] [0] [0] (gh_shut (QueueO t ({ tc with l := l3_8 } : BoxS)) (a3_8, c3_8)) fun _ => ?_
   exact xrY (someE H) [] [] [] [0,2] ()
def qupeekS (tc : BoxS) : Option (PktS × Bool) :=
 (bif decide ((((List.length tc.l) : Nat) : Int) = (0 : Int)) then some ((⟨(0 : Int), (0 : Int), (0 : Int), (0 : Int), (0 : Int), (0 : Int), (0 : Int), false, ([] : List Int)⟩ : PktS), false) else chk (0 ≤ (0 : Int) ∧ (0 : Int) < ((tc.l.length : Nat) : Int)) (letP (nthT tc.l (0 : Int)) fun x3_5 => (quownS x3_5).bind fun y3_6 => some (y3_6, true)))
set_option maxRecDepth 100000 in
set_option maxHeartbeats 4000000 in
theorem qupeekF {tc : BoxS} (t : Nat) (t_a_l : Option Addr) (t_c_l : Nat) {y : PktS × Bool} (H : qupeekS tc = some y) : FnY Tryz.prog 236 [.pointer (some ⟨t, 0, none⟩)] ⟨[⟨t, #[.slice t_a_l (List.length tc.l) t_c_l, .int .i64 tc.room], 191⟩], [(ArrA t_a_l t_c_l tc.l)]⟩ (Z := Option Addr × Nat) (fun y (za0, zc0) => .tuple #[.agg #[.int .i64 y.1.kind, .int .i64 y.1.src, .int .i64 y.1.dst, .int .i64 y.1.id, .int .i64 y.1.line, .int .i64 y.1.ptr, .int .i64 y.1.state, .bool y.1.flag, .slice za0 (List.length y.1.data) zc0], .bool y.2]) (fun y (za0, zc0) => ⟨[⟨t, #[.slice t_a_l (List.length tc.l) t_c_l, .int .i64 tc.room], 191⟩], [(ArrA za0 zc0 y.1.data), (ArrA t_a_l t_c_l tc.l)]⟩) y := by
 unfold qupeekS at H
 refine xfY Tryz.func236 fun W0 F => ?_
 refine xn [] fun b0_0 => ?_
 refine xs [1] H ?_ ?_
 · intro H
   refine xg [1,0] [] [] (gh_nil (α := Int) none) fun _ => ?_
   exact xrY (someE H) [] [0] [1] [0,0] (none, 0)
 · intro H
   refine chkG H fun q3_4_1 H => ?_
   refine xi [0,1] 0 (rA t_a_l t_c_l tc.l) q3_4_1 fun b1 o1 e1 => ?_
   refine letG H fun x3_5 hx3_5 H => ?_
   refine xo [] [] [0] (oc_ldN (rA t_a_l t_c_l tc.l) e1 q3_4_1 hx3_5 0 9) fun z3_5_1 => ?_
   refine bindG H fun y3_6 hy3_6 H => ?_
   refine xc [] [] [0] (quownF z3_5_1.1 z3_5_1.2 (rI z3_5_1.1 z3_5_1.2 x3_5.data) hy3_6) fun ⟨t3_6_a0, t3_6_c0⟩ => ?_
   exact xrY (someE H) [0] [0] [1] [0,1] (t3_6_a0, t3_6_c0)
def qutakeS (tc : BoxS) : Option (PktS × Bool × BoxS) :=
 (qupeekS tc).bind fun y1_1 => (bif y1_1.2 then (delPS tc.l (0 : Int) (1 : Int)).bind fun y3_5 => some (y1_1.1, y1_1.2, ({ tc with l := y3_5 } : BoxS)) else some (y1_1.1, y1_1.2, tc))
set_option maxRecDepth 100000 in
set_option maxHeartbeats 4000000 in
theorem qutakeF {tc : BoxS} (t : Nat) {y : PktS × Bool × BoxS} (H : qutakeS tc = some y) : FnY Tryz.prog 217 [.pointer (some ⟨t, 0, none⟩)] ⟨[], [(QueueA t tc)]⟩ (Z := Option Addr × Nat) (fun y (za0, zc0) => .tuple #[.agg #[.int .i64 y.1.kind, .int .i64 y.1.src, .int .i64 y.1.dst, .int .i64 y.1.id, .int .i64 y.1.line, .int .i64 y.1.ptr, .int .i64 y.1.state, .bool y.1.flag, .slice za0 (List.length y.1.data) zc0], .bool y.2.1]) (fun y (za0, zc0) => ⟨[], [(ArrA za0 zc0 y.1.data), (QueueA t y.2.2)]⟩) y := by
 unfold qutakeS at H
 refine xfY Tryz.func217 fun W0 F => ?_
 refine xn [] fun b0_0 => ?_
 refine xg [] [] [0] (gh_open (QueueO t tc)) fun ⟨a_l1, c_l2⟩ => ?_
 refine bindG H fun y1_1 hy1_1 H => ?_
 refine xc [] [0] [0] (qupeekF t a_l1 c_l2 hy1_1) fun ⟨t1_1_a0, t1_1_c0⟩ => ?_
 refine xn [] fun b1_5 => ?_
 refine xs [0] H ?_ ?_
 · intro H
   refine bindG H fun y3_5 hy3_5 H => ?_
   refine xc [1,1] [] [1] (delPF a_l1 c_l2 hy3_5) fun ⟨t3_5_a0, t3_5_c0⟩ => ?_
   refine xg [1,0,2] [1] [0] (gh_shut (QueueO t ({ tc with l := y3_5 } : BoxS)) (t3_5_a0, t3_5_c0)) fun _ => ?_
   exact xrY (someE H) [] [1] [] [1,0] (t1_1_a0, t1_1_c0)
 · intro H
   refine xg [0,0,2] [1] [1] (gh_shut (QueueO t tc) (a_l1, c_l2)) fun _ => ?_
   exact xrY (someE H) [] [1] [] [1,0] (t1_1_a0, t1_1_c0)
def poownS (p : PktS) : Option (PktS) :=
 (cloneS p.data).bind fun y1_2 => some (⟨p.kind, p.src, p.dst, p.id, p.line, p.ptr, p.state, p.flag, y1_2⟩ : PktS)
set_option maxRecDepth 100000 in
set_option maxHeartbeats 4000000 in
theorem poownF {p : PktS} {p0A : Asn} (p0a : Option Addr) (p0c : Nat) (hp0A : Rdb p0A p0a p0c p.data) {y : PktS} (H : poownS p = some y) : FnY Tryz.prog 176 [.agg #[.int .i64 p.kind, .int .i64 p.src, .int .i64 p.dst, .int .i64 p.id, .int .i64 p.line, .int .i64 p.ptr, .int .i64 p.state, .bool p.flag, .slice p0a (List.length p.data) p0c]] ⟨[], [p0A]⟩ (Z := Option Addr × Nat) (fun y (za0, zc0) => .agg #[.int .i64 y.kind, .int .i64 y.src, .int .i64 y.dst, .int .i64 y.id, .int .i64 y.line, .int .i64 y.ptr, .int .i64 y.state, .bool y.flag, .slice za0 (List.length y.data) zc0]) (fun y (za0, zc0) => ⟨[], [(ArrA za0 zc0 y.data), p0A]⟩) y := by
 unfold poownS at H
 refine xfY Tryz.func176 fun W0 F => ?_
 refine xn [] fun b0_0 => ?_
 refine xn [] fun b0_1 => ?_
 refine bindG H fun y1_2 hy1_2 H => ?_
 refine xc [1] [] [0] (cloneF p0a p0c hp0A hy1_2) fun ⟨t1_2_a0, t1_2_c0⟩ => ?_
 exact xrY (someE H) [1,1,0] [0] [] [0,0] (t1_2_a0, t1_2_c0)
def ponewS (room : Int) : Option (BoxS) :=
 letP (if (0 : Int) < room then room else (0 : Int)) fun u1_1 => some ({ l := ([] : List PktS), room := u1_1 } : BoxS)
set_option maxRecDepth 100000 in
set_option maxHeartbeats 4000000 in
theorem ponewF {room : Int} {y : BoxS} (H : ponewS room = some y) : FnY Tryz.prog 82 [.int .i64 room] ⟨[], []⟩ (Z := Nat) (fun y (zb0 : Nat) => .pointer (some ⟨zb0, 0, none⟩)) (fun y (zb0 : Nat) => ⟨[], [(PoolA zb0 y)]⟩) y := by
 unfold ponewS at H
 refine xfY Tryz.func82 fun W0 F => ?_
 refine letG H fun u1_1 hu1_1 H => ?_
 refine xw [304] 4 (congrArg (Value.int .i64) hu1_1) ?_
 refine xn [] fun b1_3 => ?_
 refine xg [] [] [] (gh_nil (α := PktS) none) fun _ => ?_
 refine xg [] [0] [0] (gh_shut (PoolO b1_3 ({ l := ([] : List PktS), room := u1_1 } : BoxS)) (none, 0)) fun _ => ?_
 exact xrY (someE H) [] [] [] [0] (b1_3)
def polenS (tc : BoxS) : Option (Int) :=
 some (((List.length tc.l) : Nat) : Int)
set_option maxRecDepth 100000 in
set_option maxHeartbeats 4000000 in
theorem polenF {tc : BoxS} (t : Nat) (t_a_l : Option Addr) (t_c_l : Nat) {y : Int} (H : polenS tc = some y) : FnY Tryz.prog 65 [.pointer (some ⟨t, 0, none⟩)] ⟨[⟨t, #[.slice t_a_l (List.length tc.l) t_c_l, .int .i64 tc.room], 189⟩], [(ArrA t_a_l t_c_l tc.l)]⟩ (Z := Unit) (fun y _ => .int .i64 y) (fun y _ => ⟨[⟨t, #[.slice t_a_l (List.length tc.l) t_c_l, .int .i64 tc.room], 189⟩], [(ArrA t_a_l t_c_l tc.l)]⟩) y := by
 unfold polenS at H
 refine xfY Tryz.func65 fun W0 F => ?_
 exact xrY (someE H) [0] [] [0] [0] ()
def poroomS (tc : BoxS) : Option (Int) :=
 letP (wr (tc.room - (((List.length tc.l) : Nat) : Int))) fun u1_9 => some u1_9
set_option maxRecDepth 100000 in
set_option maxHeartbeats 4000000 in
theorem poroomF {tc : BoxS} (t : Nat) (t_a_l : Option Addr) (t_c_l : Nat) {y : Int} (H : poroomS tc = some y) : FnY Tryz.prog 196 [.pointer (some ⟨t, 0, none⟩)] ⟨[⟨t, #[.slice t_a_l (List.length tc.l) t_c_l, .int .i64 tc.room], 189⟩], [(ArrA t_a_l t_c_l tc.l)]⟩ (Z := Unit) (fun y _ => .int .i64 y) (fun y _ => ⟨[⟨t, #[.slice t_a_l (List.length tc.l) t_c_l, .int .i64 tc.room], 189⟩], [(ArrA t_a_l t_c_l tc.l)]⟩) y := by
 unfold poroomS at H
 refine xfY Tryz.func196 fun W0 F => ?_
 refine letG H fun u1_9 hu1_9 H => ?_
 refine xw [0,1,2,3,0,4,5,6,7,0,8,9,1] 12 (congrArg (Value.int .i64) hu1_9) ?_
 exact xrY (someE H) [10] [] [0] [0] ()
def poputS (tc : BoxS) (p : PktS) : Option (Int × BoxS) :=
 (poroomS tc).bind fun y1_1 => (bif decide (y1_1 = (0 : Int)) then some ((5 : Int), tc) else (poownS p).bind fun y3_6 => chk ((tc.l ++ ([y3_6])).length ≤ 1099511627776) (letP (tc.l ++ ([y3_6])) fun l3_8 => some ((0 : Int), ({ tc with l := l3_8 } : BoxS))))
set_option maxRecDepth 100000 in
set_option maxHeartbeats 4000000 in
theorem poputF {tc : BoxS} {p : PktS} {p0A : Asn} (t : Nat) (p0a : Option Addr) (p0c : Nat) (hp0A : Rdb p0A p0a p0c p.data) {y : Int × BoxS} (H : poputS tc p = some y) : FnY Tryz.prog 199 [.pointer (some ⟨t, 0, none⟩), .agg #[.int .i64 p.kind, .int .i64 p.src, .int .i64 p.dst, .int .i64 p.id, .int .i64 p.line, .int .i64 p.ptr, .int .i64 p.state, .bool p.flag, .slice p0a (List.length p.data) p0c]] ⟨[], [(PoolA t tc), p0A]⟩ (Z := Unit) (fun y _ => .int .i64 y.1) (fun y _ => ⟨[], [(PoolA t y.2), p0A]⟩) y := by
 unfold poputS at H
 refine xfY Tryz.func199 fun W0 F => ?_
 refine xn [] fun b0_0 => ?_
 refine xg [] [] [0] (gh_open (PoolO t tc)) fun ⟨a_l1, c_l2⟩ => ?_
 refine bindG H fun y1_1 hy1_1 H => ?_
 refine xc [] [0] [0] (poroomF t a_l1 c_l2 hy1_1) fun _ => ?_
 refine xs [] H ?_ ?_
 · intro H
   refine xg [1] [0] [0] (gh_shut (PoolO t tc) (a_l1, c_l2)) fun _ => ?_
   exact xrY (someE H) [] [] [] [0,0] ()
 · intro H
   refine bindG H fun y3_6 hy3_6 H => ?_
   refine xc [0,0,1,2,3,4,0,5,1,6] [] [1] (poownF p0a p0c hp0A hy3_6) fun ⟨t3_6_a0, t3_6_c0⟩ => ?_
   refine xn [7] fun b3_7 => ?_
   refine xg [8] [] [0] (gh_frz t3_6_a0 t3_6_c0 y3_6.data) fun _ => ?_
   refine xg [] [] [0] (gh_dup t3_6_a0 t3_6_c0 y3_6.data) fun _ => ?_
   refine xg [] [0] [0] (gh_one b3_7 176 y3_6 (t3_6_a0, t3_6_c0)) fun _ => ?_
   refine chkG H fun q3_8_1 H => ?_
   refine letG H fun l3_8 hl3_8 H => ?_
   refine xa [] [3,0] (a := a_l1) (l := tc.l) (zs := l3_8) (cap := c_l2) (rA (some ⟨b3_7, 0, none⟩) 1 ([y3_6])) hl3_8 (hl3_8 ▸ q3_8_1) fun ⟨a3_8, c3_8⟩ => ?_
   refine xg [9,10,11,0] [0] [0] (gh_shut (PoolO t ({ tc with l := l3_8 } : BoxS)) (a3_8, c3_8)) fun _ => ?_
   exact xrY (someE H) [] [] [] [0,2] ()
def pogetS_j0 (at_ : Int) (tc : BoxS) (e0_16 : Bool) : Option (PktS × Bool) :=
 (bif e0_16 then some ((⟨(0 : Int), (0 : Int), (0 : Int), (0 : Int), (0 : Int), (0 : Int), (0 : Int), false, ([] : List Int)⟩ : PktS), false) else chk (0 ≤ at_ ∧ at_ < ((tc.l.length : Nat) : Int)) (letP (nthT tc.l at_) fun x3_6 => (poownS x3_6).bind fun y3_7 => some (y3_7, true)))
def pogetS (tc : BoxS) (at_ : Int) : Option (PktS × Bool) :=
 (bif decide (at_ < (0 : Int)) then (pogetS_j0 at_ tc) true else (pogetS_j0 at_ tc) (decide ((((List.length tc.l) : Nat) : Int) ≤ at_)))
set_option maxRecDepth 100000 in
set_option maxHeartbeats 4000000 in
theorem pogetF {tc : BoxS} {at_ : Int} (t : Nat) (t_a_l : Option Addr) (t_c_l : Nat) {y : PktS × Bool} (H : pogetS tc at_ = some y) : FnY Tryz.prog 135 [.pointer (some ⟨t, 0, none⟩), .int .i64 at_] ⟨[⟨t, #[.slice t_a_l (List.length tc.l) t_c_l, .int .i64 tc.room], 189⟩], [(ArrA t_a_l t_c_l tc.l)]⟩ (Z := Option Addr × Nat) (fun y (za0, zc0) => .tuple #[.agg #[.int .i64 y.1.kind, .int .i64 y.1.src, .int .i64 y.1.dst, .int .i64 y.1.id, .int .i64 y.1.line, .int .i64 y.1.ptr, .int .i64 y.1.state, .bool y.1.flag, .slice za0 (List.length y.1.data) zc0], .bool y.2]) (fun y (za0, zc0) => ⟨[⟨t, #[.slice t_a_l (List.length tc.l) t_c_l, .int .i64 tc.room], 189⟩], [(ArrA za0 zc0 y.1.data), (ArrA t_a_l t_c_l tc.l)]⟩) y := by
 unfold pogetS at H
 refine xfY Tryz.func135 fun W0 F => ?_
 refine xn [] fun b0_0 => ?_
 refine xj [101] (ι := Bool) (fun e0_16 => ⟨[(0, .pointer (some ⟨t, 0, none⟩)), (1, .int .i64 at_), (4, .pointer (some ⟨b0_0, 0, none⟩)), (16, .bool e0_16)], [⟨b0_0, #[.int .i64 (0), .int .i64 (0), .int .i64 (0), .int .i64 (0), .int .i64 (0), .int .i64 (0), .int .i64 (0), .bool false, .slice none 0 0], 176⟩, ⟨t, #[.slice t_a_l (List.length tc.l) t_c_l, .int .i64 tc.room], 189⟩], [(ArrA t_a_l t_c_l tc.l)]⟩) (fun e0_16 => pogetS_j0 at_ tc e0_16 = some y) ?_ ?_
 · rintro e0_16 H
   replace H : pogetS_j0 at_ tc e0_16 = some y := H
   rw [pogetS_j0] at H
   refine xs [] H ?_ ?_
   · intro H
     refine xg [1,0] [] [] (gh_nil (α := Int) none) fun _ => ?_
     exact xrY (someE H) [] [0] [1] [0,0] (none, 0)
   · intro H
     refine chkG H fun q3_5_1 H => ?_
     refine xi [0,1] 0 (rA t_a_l t_c_l tc.l) q3_5_1 fun b1 o1 e1 => ?_
     refine letG H fun x3_6 hx3_6 H => ?_
     refine xo [] [] [0] (oc_ldN (rA t_a_l t_c_l tc.l) e1 q3_5_1 hx3_6 0 9) fun z3_6_1 => ?_
     refine bindG H fun y3_7 hy3_7 H => ?_
     refine xc [] [] [0] (poownF z3_6_1.1 z3_6_1.2 (rI z3_6_1.1 z3_6_1.2 x3_6.data) hy3_7) fun ⟨t3_7_a0, t3_7_c0⟩ => ?_
     exact xrY (someE H) [0] [0] [1] [0,1] (t3_7_a0, t3_7_c0)
 · intro N0 hN0
   refine xs [] H ?_ ?_
   · intro H
     exact xe [0,0,0,0,0,0,0,1] _ [0,0] [0] (hN0 (true) H)
   · intro H
     exact xe [1,1,1,1,1,1,1,1,0] _ [0,0] [0] (hN0 (decide ((((List.length tc.l) : Nat) : Int) ≤ at_)) H)
def poremS (tc : BoxS) (at_ : Int) : Option (PktS × Bool × BoxS) :=
 (pogetS tc at_).bind fun y1_2 => (bif y1_2.2 then (delPS tc.l at_ (wr (at_ + (1 : Int)))).bind fun y3_8 => some (y1_2.1, y1_2.2, ({ tc with l := y3_8 } : BoxS)) else some (y1_2.1, y1_2.2, tc))
set_option maxRecDepth 100000 in
set_option maxHeartbeats 4000000 in
theorem poremF {tc : BoxS} {at_ : Int} (t : Nat) {y : PktS × Bool × BoxS} (H : poremS tc at_ = some y) : FnY Tryz.prog 109 [.pointer (some ⟨t, 0, none⟩), .int .i64 at_] ⟨[], [(PoolA t tc)]⟩ (Z := Option Addr × Nat) (fun y (za0, zc0) => .tuple #[.agg #[.int .i64 y.1.kind, .int .i64 y.1.src, .int .i64 y.1.dst, .int .i64 y.1.id, .int .i64 y.1.line, .int .i64 y.1.ptr, .int .i64 y.1.state, .bool y.1.flag, .slice za0 (List.length y.1.data) zc0], .bool y.2.1]) (fun y (za0, zc0) => ⟨[], [(ArrA za0 zc0 y.1.data), (PoolA t y.2.2)]⟩) y := by
 unfold poremS at H
 refine xfY Tryz.func109 fun W0 F => ?_
 refine xn [] fun b0_0 => ?_
 refine xg [] [] [0] (gh_open (PoolO t tc)) fun ⟨a_l1, c_l2⟩ => ?_
 refine bindG H fun y1_2 hy1_2 H => ?_
 refine xc [] [0] [0] (pogetF t a_l1 c_l2 hy1_2) fun ⟨t1_2_a0, t1_2_c0⟩ => ?_
 refine xn [] fun b1_6 => ?_
 refine xs [0] H ?_ ?_
 · intro H
   refine bindG H fun y3_8 hy3_8 H => ?_
   refine xc [1,1,1] [] [1] (delPF a_l1 c_l2 hy3_8) fun ⟨t3_8_a0, t3_8_c0⟩ => ?_
   refine xg [1,0,2] [1] [0] (gh_shut (PoolO t ({ tc with l := y3_8 } : BoxS)) (t3_8_a0, t3_8_c0)) fun _ => ?_
   exact xrY (someE H) [] [1] [] [1,0] (t1_2_a0, t1_2_c0)
 · intro H
   refine xg [0,0,2] [1] [1] (gh_shut (PoolO t tc) (a_l1, c_l2)) fun _ => ?_
   exact xrY (someE H) [] [1] [] [1,0] (t1_2_a0, t1_2_c0)
def prnewS (ops : List OpS) : Option (ProcS) :=
 (cloneOS ops).bind fun y1_1 => some ({ ops := y1_1, values := ([] : List Int), begun := false } : ProcS)
set_option maxRecDepth 100000 in
set_option maxHeartbeats 4000000 in
theorem prnewF {ops : List OpS} {opsA : Asn} (opsa : Option Addr) (opsc : Nat) (hopsA : Rdb opsA opsa opsc ops) {y : ProcS} (H : prnewS ops = some y) : FnY Tryz.prog 85 [.slice opsa (List.length ops) opsc] ⟨[], [opsA]⟩ (Z := Nat) (fun y (zb0 : Nat) => .pointer (some ⟨zb0, 0, none⟩)) (fun y (zb0 : Nat) => ⟨[], [(ProcA zb0 y), opsA]⟩) y := by
 unfold prnewS at H
 refine xfY Tryz.func85 fun W0 F => ?_
 refine bindG H fun y1_1 hy1_1 H => ?_
 refine xc [] [] [0] (cloneOF opsa opsc hopsA hy1_1) fun ⟨t1_1_a0, t1_1_c0⟩ => ?_
 refine xn [] fun b1_3 => ?_
 refine xg [] [] [] (gh_nil (α := Int) none) fun _ => ?_
 refine xg [] [0] [1,0] (gh_shut (ProcO b1_3 ({ ops := y1_1, values := ([] : List Int), begun := false } : ProcS)) (t1_1_a0, t1_1_c0, none, 0)) fun _ => ?_
 exact xrY (someE H) [] [] [] [0,0] (b1_3)
def prleftS (tc : ProcS) : Option (Int) :=
 letP (wr ((((List.length tc.ops) : Nat) : Int) - (((List.length tc.values) : Nat) : Int))) fun u1_10 => some u1_10
set_option maxRecDepth 100000 in
set_option maxHeartbeats 4000000 in
theorem prleftF {tc : ProcS} (t : Nat) (t_a_ops : Option Addr) (t_c_ops : Nat) (t_a_values : Option Addr) (t_c_values : Nat) {y : Int} (H : prleftS tc = some y) : FnY Tryz.prog 59 [.pointer (some ⟨t, 0, none⟩)] ⟨[⟨t, #[.slice t_a_ops (List.length tc.ops) t_c_ops, .slice t_a_values (List.length tc.values) t_c_values, .bool tc.begun], 121⟩], [(ArrA t_a_ops t_c_ops tc.ops), (ArrA t_a_values t_c_values tc.values)]⟩ (Z := Unit) (fun y _ => .int .i64 y) (fun y _ => ⟨[⟨t, #[.slice t_a_ops (List.length tc.ops) t_c_ops, .slice t_a_values (List.length tc.values) t_c_values, .bool tc.begun], 121⟩], [(ArrA t_a_ops t_c_ops tc.ops), (ArrA t_a_values t_c_values tc.values)]⟩) y := by
 unfold prleftS at H
 refine xfY Tryz.func59 fun W0 F => ?_
 refine letG H fun u1_10 hu1_10 H => ?_
 refine xw [0,1,2,3,0,4,5,6,7,8,0,9,10,1] 13 (congrArg (Value.int .i64) hu1_10) ?_
 exact xrY (someE H) [11] [] [0] [0,0] ()
def prcurS (tc : ProcS) : Option (OpS × Int × Bool) :=
 (prleftS tc).bind fun y1_1 => (bif decide (y1_1 = (0 : Int)) then some ((⟨(0 : Int), (0 : Int), (0 : Int)⟩ : OpS), (0 : Int), false) else chk (0 ≤ (((List.length tc.values) : Nat) : Int) ∧ (((List.length tc.values) : Nat) : Int) < ((tc.ops.length : Nat) : Int)) (some ((nthT tc.ops (((List.length tc.values) : Nat) : Int)), (((List.length tc.values) : Nat) : Int), true)))
set_option maxRecDepth 100000 in
set_option maxHeartbeats 4000000 in
theorem prcurF {tc : ProcS} (t : Nat) (t_a_ops : Option Addr) (t_c_ops : Nat) (t_a_values : Option Addr) (t_c_values : Nat) {y : OpS × Int × Bool} (H : prcurS tc = some y) : FnY Tryz.prog 144 [.pointer (some ⟨t, 0, none⟩)] ⟨[⟨t, #[.slice t_a_ops (List.length tc.ops) t_c_ops, .slice t_a_values (List.length tc.values) t_c_values, .bool tc.begun], 121⟩], [(ArrA t_a_ops t_c_ops tc.ops), (ArrA t_a_values t_c_values tc.values)]⟩ (Z := Unit) (fun y _ => .tuple #[.agg #[.int .i64 y.1.kind, .int .i64 y.1.addr, .int .i64 y.1.value], .int .i64 y.2.1, .bool y.2.2]) (fun y _ => ⟨[⟨t, #[.slice t_a_ops (List.length tc.ops) t_c_ops, .slice t_a_values (List.length tc.values) t_c_values, .bool tc.begun], 121⟩], [(ArrA t_a_ops t_c_ops tc.ops), (ArrA t_a_values t_c_values tc.values)]⟩) y := by
 unfold prcurS at H
 refine xfY Tryz.func144 fun W0 F => ?_
 refine xn [] fun b0_0 => ?_
 refine bindG H fun y1_1 hy1_1 H => ?_
 refine xc [] [1] [0,0] (prleftF t t_a_ops t_c_ops t_a_values t_c_values hy1_1) fun _ => ?_
 refine xs [] H ?_ ?_
 · intro H
   exact xrY (someE H) [1,1] [1] [0] [0,0] ()
 · intro H
   refine chkG H fun q3_9_1 H => ?_
   refine xi [0,0,1,2,3,0,4,5,6,7,0,8,9] 0 (rA t_a_ops t_c_ops tc.ops) q3_9_1 fun b1 o1 e1 => ?_
   refine xpl [10] 0 (ol_ldN (rA t_a_ops t_c_ops tc.ops) e1 q3_9_1 0 3 (fun _ => rfl)) ?_
   exact xrY (someE H) [11,12,13,14,0,15,16,1,17,18] [1] [0] [0,0] ()
def prbegunS (tc : ProcS) : Option (Bool) :=
 some tc.begun
set_option maxRecDepth 100000 in
set_option maxHeartbeats 4000000 in
theorem prbegunF {tc : ProcS} (t : Nat) (t_a_ops : Option Addr) (t_c_ops : Nat) (t_a_values : Option Addr) (t_c_values : Nat) {y : Bool} (H : prbegunS tc = some y) : FnY Tryz.prog 63 [.pointer (some ⟨t, 0, none⟩)] ⟨[⟨t, #[.slice t_a_ops (List.length tc.ops) t_c_ops, .slice t_a_values (List.length tc.values) t_c_values, .bool tc.begun], 121⟩], [(ArrA t_a_ops t_c_ops tc.ops), (ArrA t_a_values t_c_values tc.values)]⟩ (Z := Unit) (fun y _ => .bool y) (fun y _ => ⟨[⟨t, #[.slice t_a_ops (List.length tc.ops) t_c_ops, .slice t_a_values (List.length tc.values) t_c_values, .bool tc.begun], 121⟩], [(ArrA t_a_ops t_c_ops tc.ops), (ArrA t_a_values t_c_values tc.values)]⟩) y := by
 unfold prbegunS at H
 refine xfY Tryz.func63 fun W0 F => ?_
 exact xrY (someE H) [0] [] [0] [0,0] ()
def prbeginS (tc : ProcS) : Option (Int × ProcS) :=
 (bif tc.begun then some ((6 : Int), tc) else (prleftS tc).bind fun y1_6 => (bif decide (y1_6 = (0 : Int)) then some ((6 : Int), tc) else some ((0 : Int), ({ tc with begun := true } : ProcS))))
set_option maxRecDepth 100000 in
set_option maxHeartbeats 4000000 in
theorem prbeginF {tc : ProcS} (t : Nat) {y : Int × ProcS} (H : prbeginS tc = some y) : FnY Tryz.prog 154 [.pointer (some ⟨t, 0, none⟩)] ⟨[], [(ProcA t tc)]⟩ (Z := Unit) (fun y _ => .int .i64 y.1) (fun y _ => ⟨[], [(ProcA t y.2)]⟩) y := by
 unfold prbeginS at H
 refine xfY Tryz.func154 fun W0 F => ?_
 refine xg [] [] [0] (gh_open (ProcO t tc)) fun ⟨a_ops1, c_ops2, a_values3, c_values4⟩ => ?_
 refine xs [0] H ?_ ?_
 · intro H
   refine xg [0,0,0,1,1] [0] [0,0] (gh_shut (ProcO t tc) (a_ops1, c_ops2, a_values3, c_values4)) fun _ => ?_
   exact xrY (someE H) [] [] [] [0] ()
 · intro H
   refine bindG H fun y1_6 hy1_6 H => ?_
   refine xc [1,1] [0] [0,0] (prleftF t a_ops1 c_ops2 a_values3 c_values4 hy1_6) fun _ => ?_
   refine xs [1,0] H ?_ ?_
   · intro H
     refine xg [1] [0] [0,0] (gh_shut (ProcO t tc) (a_ops1, c_ops2, a_values3, c_values4)) fun _ => ?_
     exact xrY (someE H) [] [] [] [0] ()
   · intro H
     refine xg [0,0] [0] [0,0] (gh_shut (ProcO t ({ tc with begun := true } : ProcS)) (a_ops1, c_ops2, a_values3, c_values4)) fun _ => ?_
     exact xrY (someE H) [] [] [] [0] ()
def prendS (tc : ProcS) (value : Int) : Option (Int × ProcS) :=
 (bif !tc.begun then some ((6 : Int), tc) else chk ((tc.values ++ ([value])).length ≤ 1099511627776) (letP (tc.values ++ ([value])) fun l3_8 => some ((0 : Int), ({ tc with values := l3_8, begun := false } : ProcS))))
set_option maxRecDepth 100000 in
set_option maxHeartbeats 4000000 in
theorem prendF {tc : ProcS} {value : Int} (t : Nat) {y : Int × ProcS} (H : prendS tc value = some y) : FnY Tryz.prog 190 [.pointer (some ⟨t, 0, none⟩), .int .i64 value] ⟨[], [(ProcA t tc)]⟩ (Z := Unit) (fun y _ => .int .i64 y.1) (fun y _ => ⟨[], [(ProcA t y.2)]⟩) y := by
 unfold prendS at H
 refine xfY Tryz.func190 fun W0 F => ?_
 refine xg [] [] [0] (gh_open (ProcO t tc)) fun ⟨a_ops1, c_ops2, a_values3, c_values4⟩ => ?_
 refine xs [0] H ?_ ?_
 · intro H
   refine xg [1] [0] [0,0] (gh_shut (ProcO t tc) (a_ops1, c_ops2, a_values3, c_values4)) fun _ => ?_
   exact xrY (someE H) [] [] [] [0] ()
 · intro H
   refine xn [0,0] fun b3_7 => ?_
   refine xg [] [0] [2] (gh_one b3_7 3 (value : Int) ()) fun _ => ?_
   refine chkG H fun q3_8_1 H => ?_
   refine letG H fun l3_8 hl3_8 H => ?_
   refine xa [] [2,0] (a := a_values3) (l := tc.values) (zs := l3_8) (cap := c_values4) (rA (some ⟨b3_7, 0, none⟩) 1 ([value])) hl3_8 (hl3_8 ▸ q3_8_1) fun ⟨a3_8, c3_8⟩ => ?_
   refine xg [0,0] [0] [2,0] (gh_shut (ProcO t ({ tc with values := l3_8, begun := false } : ProcS)) (a_ops1, c_ops2, a3_8, c3_8)) fun _ => ?_
   exact xrY (someE H) [] [] [] [0] ()
def prvalS (tc : ProcS) : Option (List Int) :=
 (cloneS tc.values).bind fun y1_4 => some y1_4
set_option maxRecDepth 100000 in
set_option maxHeartbeats 4000000 in
theorem prvalF {tc : ProcS} (t : Nat) (t_a_ops : Option Addr) (t_c_ops : Nat) (t_a_values : Option Addr) (t_c_values : Nat) {y : List Int} (H : prvalS tc = some y) : FnY Tryz.prog 17 [.pointer (some ⟨t, 0, none⟩)] ⟨[⟨t, #[.slice t_a_ops (List.length tc.ops) t_c_ops, .slice t_a_values (List.length tc.values) t_c_values, .bool tc.begun], 121⟩], [(ArrA t_a_ops t_c_ops tc.ops), (ArrA t_a_values t_c_values tc.values)]⟩ (Z := Option Addr × Nat) (fun y (za0, zc0) => .slice za0 (List.length y) zc0) (fun y (za0, zc0) => ⟨[⟨t, #[.slice t_a_ops (List.length tc.ops) t_c_ops, .slice t_a_values (List.length tc.values) t_c_values, .bool tc.begun], 121⟩], [(ArrA za0 zc0 y), (ArrA t_a_ops t_c_ops tc.ops), (ArrA t_a_values t_c_values tc.values)]⟩) y := by
 unfold prvalS at H
 refine xfY Tryz.func17 fun W0 F => ?_
 refine bindG H fun y1_4 hy1_4 H => ?_
 refine xc [0] [] [1] (cloneF t_a_values t_c_values (rA t_a_values t_c_values tc.values) hy1_4) fun ⟨t1_4_a0, t1_4_c0⟩ => ?_
 exact xrY (someE H) [] [] [0] [0,1,0] (t1_4_a0, t1_4_c0)
def trnewS : Option (TraceS) :=
 some ({ l := ([] : List EventS) } : TraceS)
set_option maxRecDepth 100000 in
set_option maxHeartbeats 4000000 in
theorem trnewF {y : TraceS} (H : trnewS = some y) : FnY Tryz.prog 41 [] ⟨[], []⟩ (Z := Nat) (fun y (zb0 : Nat) => .pointer (some ⟨zb0, 0, none⟩)) (fun y (zb0 : Nat) => ⟨[], [(TraceA zb0 y)]⟩) y := by
 unfold trnewS at H
 refine xfY Tryz.func41 fun W0 F => ?_
 refine xn [] fun b1_1 => ?_
 refine xg [] [] [] (gh_nil (α := EventS) none) fun _ => ?_
 refine xg [] [0] [0] (gh_shut (TraceO b1_1 ({ l := ([] : List EventS) } : TraceS)) (none, 0)) fun _ => ?_
 exact xrY (someE H) [] [] [] [0] (b1_1)
def trbeginS (tc : TraceS) (node : Int) (index : Int) : Option (TraceS) :=
 chk ((tc.l ++ ([(⟨node, index, false, (0 : Int)⟩ : EventS)])).length ≤ 1099511627776) (letP (tc.l ++ ([(⟨node, index, false, (0 : Int)⟩ : EventS)])) fun l0_9 => some ({ l := l0_9 } : TraceS))
set_option maxRecDepth 100000 in
set_option maxHeartbeats 4000000 in
theorem trbeginF {tc : TraceS} {node : Int} {index : Int} (t : Nat) {y : TraceS} (H : trbeginS tc node index = some y) : FnY Tryz.prog 155 [.pointer (some ⟨t, 0, none⟩), .int .i64 node, .int .i64 index] ⟨[], [(TraceA t tc)]⟩ (Z := Unit) (fun y _ => .tuple #[]) (fun y _ => ⟨[], [(TraceA t y)]⟩) y := by
 unfold trbeginS at H
 refine xfY Tryz.func155 fun W0 F => ?_
 refine xg [] [] [0] (gh_open (TraceO t tc)) fun ⟨a_l1, c_l2⟩ => ?_
 refine xn [0] fun b0_8 => ?_
 refine xg [] [0] [1] (gh_one b0_8 95 (⟨node, index, false, (0 : Int)⟩ : EventS) ()) fun _ => ?_
 refine chkG H fun q0_9_1 H => ?_
 refine letG H fun l0_9 hl0_9 H => ?_
 refine xa [] [1,0] (a := a_l1) (l := tc.l) (zs := l0_9) (cap := c_l2) (rA (some ⟨b0_8, 0, none⟩) 1 ([(⟨node, index, false, (0 : Int)⟩ : EventS)])) hl0_9 (hl0_9 ▸ q0_9_1) fun ⟨a0_9, c0_9⟩ => ?_
 refine xg [0] [0] [0] (gh_shut (TraceO t ({ l := l0_9 } : TraceS)) (a0_9, c0_9)) fun _ => ?_
 exact xrY (someE H) [] [] [] [0] ()
def trendS (tc : TraceS) (node : Int) (index : Int) (value : Int) : Option (TraceS) :=
 chk ((tc.l ++ ([(⟨node, index, true, value⟩ : EventS)])).length ≤ 1099511627776) (letP (tc.l ++ ([(⟨node, index, true, value⟩ : EventS)])) fun l0_10 => some ({ l := l0_10 } : TraceS))
set_option maxRecDepth 100000 in
set_option maxHeartbeats 4000000 in
theorem trendF {tc : TraceS} {node : Int} {index : Int} {value : Int} (t : Nat) {y : TraceS} (H : trendS tc node index value = some y) : FnY Tryz.prog 191 [.pointer (some ⟨t, 0, none⟩), .int .i64 node, .int .i64 index, .int .i64 value] ⟨[], [(TraceA t tc)]⟩ (Z := Unit) (fun y _ => .tuple #[]) (fun y _ => ⟨[], [(TraceA t y)]⟩) y := by
 unfold trendS at H
 refine xfY Tryz.func191 fun W0 F => ?_
 refine xg [] [] [0] (gh_open (TraceO t tc)) fun ⟨a_l1, c_l2⟩ => ?_
 refine xn [0] fun b0_9 => ?_
 refine xg [] [0] [1] (gh_one b0_9 95 (⟨node, index, true, value⟩ : EventS) ()) fun _ => ?_
 refine chkG H fun q0_10_1 H => ?_
 refine letG H fun l0_10 hl0_10 H => ?_
 refine xa [] [1,0] (a := a_l1) (l := tc.l) (zs := l0_10) (cap := c_l2) (rA (some ⟨b0_9, 0, none⟩) 1 ([(⟨node, index, true, value⟩ : EventS)])) hl0_10 (hl0_10 ▸ q0_10_1) fun ⟨a0_10, c0_10⟩ => ?_
 refine xg [0] [0] [0] (gh_shut (TraceO t ({ l := l0_10 } : TraceS)) (a0_10, c0_10)) fun _ => ?_
 exact xrY (someE H) [] [] [] [0] ()
def trevS (tc : TraceS) : Option (List EventS) :=
 (cloneES tc.l).bind fun y1_4 => some y1_4
set_option maxRecDepth 100000 in
set_option maxHeartbeats 4000000 in
theorem trevF {tc : TraceS} (t : Nat) (t_a_l : Option Addr) (t_c_l : Nat) {y : List EventS} (H : trevS tc = some y) : FnY Tryz.prog 30 [.pointer (some ⟨t, 0, none⟩)] ⟨[⟨t, #[.slice t_a_l (List.length tc.l) t_c_l], 148⟩], [(ArrA t_a_l t_c_l tc.l)]⟩ (Z := Option Addr × Nat) (fun y (za0, zc0) => .slice za0 (List.length y) zc0) (fun y (za0, zc0) => ⟨[⟨t, #[.slice t_a_l (List.length tc.l) t_c_l], 148⟩], [(ArrA za0 zc0 y), (ArrA t_a_l t_c_l tc.l)]⟩) y := by
 unfold trevS at H
 refine xfY Tryz.func30 fun W0 F => ?_
 refine bindG H fun y1_4 hy1_4 H => ?_
 refine xc [0] [] [0] (cloneEF t_a_l t_c_l (rA t_a_l t_c_l tc.l) hy1_4) fun ⟨t1_4_a0, t1_4_c0⟩ => ?_
 exact xrY (someE H) [] [] [0] [0,0] (t1_4_a0, t1_4_c0)
end Go.Proofs.YtcidmgkfaioceaaGreat
namespace Go.Proofs.YtcidmgkfaioceaaGreat
open Go Go.RowKit
set_option linter.unusedVariables false
set_option linter.unusedSectionVars false
set_option linter.unusedSimpArgs false
/-- A class of objects: what their pointers (x) lead to. -/
class So (α : Type) where
  X : Type
  asn : α → X → List Asn
  d : α
  x0 : X
structure PtrR where
  b : Nat
structure AskR where
  p : Nat
  q : Nat
structure PortR where
  rp : Nat
  rq : Nat
  ap : Nat
  aq : Nat
instance rwPtrR : Rw PtrR := ⟨Unit, 1, fun x _ => [blk x.b], fun _ _ => Asn.pure True, ⟨0⟩, fun _ _ => rfl, fun _ _ => rfl, fun _ _ _ _ _ h => h⟩
instance rwAskR : Rw AskR := ⟨Unit, 2, fun x _ => [blk x.p, blk x.q], fun _ _ => Asn.pure True, ⟨0, 0⟩, fun _ _ => rfl, fun _ _ => rfl, fun _ _ _ _ _ h => h⟩
instance rwPortR : Rw PortR := ⟨Unit, 4, fun x _ => [blk x.rp, blk x.rq, blk x.ap, blk x.aq], fun _ _ => Asn.pure True, ⟨0, 0, 0, 0⟩, fun _ _ => rfl, fun _ _ => rfl, fun _ _ _ _ _ h => h⟩
def asks : List PortR → List AskR
  | [] => []
  | p :: r => ⟨p.rp, p.rq⟩ :: ⟨p.ap, p.aq⟩ :: asks r
theorem asks_len : ∀ {r : List PortR}, (asks r).length = 2 * r.length
  | [] => rfl
  | p :: r => by simp only [asks, List.length_cons, asks_len (r := r)]; omega
theorem asks_half {r : List PortR} {n : Nat} (h : (asks r).length = n) : r.length = n / 2 := by rw [asks_len] at h; omega
theorem asks_snoc : ∀ (r : List PortR) (p : PortR), asks r ++ [⟨p.rp, p.rq⟩] ++ [⟨p.ap, p.aq⟩] = asks (r ++ [p])
  | [], p => rfl
  | q :: r, p => by simp only [asks, List.cons_append, ← asks_snoc r p]
theorem asks_get : ∀ (r : List PortR) (n : Nat), (asks r)[2 * n]? = r[n]?.map (fun p => ⟨p.rp, p.rq⟩) ∧ (asks r)[2 * n + 1]? = r[n]?.map (fun p => ⟨p.ap, p.aq⟩)
  | [], n => by simp [asks]
  | p :: r, 0 => by simp [asks]
  | p :: r, n + 1 => by
    have := asks_get r n
    simp only [asks, show 2 * (n + 1) = 2 * n + 1 + 1 by omega, List.getElem?_cons_succ]
    exact this
theorem asks_req {r : List PortR} {i : Int} (h : 0 ≤ i ∧ i < ((r.length : Nat) : Int)) : nthT (asks r) (2 * i) = ⟨(nthT r i).rp, (nthT r i).rq⟩ := by
  have h1 := (asks_get r i.toNat).1
  rw [nthT_get h] at h1
  unfold nthT
  rw [show (2 * i).toNat = 2 * i.toNat by omega, List.getD_eq_getElem?_getD, h1]; rfl
theorem asks_ans {r : List PortR} {i : Int} (h : 0 ≤ i ∧ i < ((r.length : Nat) : Int)) : nthT (asks r) (2 * i + 1) = ⟨(nthT r i).ap, (nthT r i).aq⟩ := by
  have h1 := (asks_get r i.toNat).2
  rw [nthT_get h] at h1
  unfold nthT
  rw [show (2 * i + 1).toNat = 2 * i.toNat + 1 by omega, List.getD_eq_getElem?_getD, h1]; rfl
section rng
variable {β : Type} {xs : List β} {n : Nat} {i : Int}
theorem rngE (h : xs.length = n) (q : 0 ≤ i ∧ i < ((n : Nat) : Int)) : 0 ≤ i ∧ i < ((xs.length : Nat) : Int) := by omega
theorem rngB (h : xs.length = n) (q : 0 ≤ i ∧ i < ((xs.length : Nat) : Int)) : 0 ≤ i ∧ i < ((n : Nat) : Int) := by omega
theorem rng_req {r : List PortR} (h : (asks r).length = n) (q : 0 ≤ i ∧ i < ((r.length : Nat) : Int)) : 0 ≤ 2 * i ∧ 2 * i < ((n : Nat) : Int) := by rw [asks_len] at h; omega
theorem rng_ans {r : List PortR} (h : (asks r).length = n) (q : 0 ≤ i ∧ i < ((r.length : Nat) : Int)) : 0 ≤ 2 * i + 1 ∧ 2 * i + 1 < ((n : Nat) : Int) := by rw [asks_len] at h; omega
theorem apG {e : β} (h : xs.length = n) (q : n + 1 ≤ 1099511627776) : (xs ++ [e]).length ≤ 1099511627776 := by simp; omega
end rng
variable {α : Type} [So α]
def sAll : List α → List (So.X α) → List Asn
  | v :: l, x :: xs => So.asn v x ++ sAll l xs
  | _, _ => []
def sBut : Nat → List α → List (So.X α) → List Asn
  | 0, _ :: l, _ :: xs => sAll l xs
  | n + 1, v :: l, x :: xs => So.asn v x ++ sBut n l xs
  | _, _, _ => []
def nthS (l : List α) (i : Int) : α := l.getD i.toNat So.d
def setS (l : List α) (i : Int) (v : α) : List α := l.set i.toNat v
theorem setS_len {l l' : List α} {i : Int} {v : α} (h : setS l i v = l') : l.length = l'.length := by subst h; simp [setS]
def StA (l : List α) (xs : List (So.X α)) : Asn := .star (.pure (xs.length = l.length) :: sAll l xs)
/-- But for number i. -/
def SHA (l : List α) (xs : List (So.X α)) (i : Int) : Asn := .star (.pure (xs.length = l.length) :: sBut i.toNat l xs)
section
variable {W0 w : World} {Γ : List Asn} {l : List α} {xs : List (So.X α)} {i : Int}
theorem s_but : ∀ {n : Nat} {l : List α} {xs : List (So.X α)} {v : α} {x : So.X α} {Γ : List Asn}, l[n]? = some v → xs[n]? = some x → (Sat W0 (sAll l xs ++ Γ) w ↔ Sat W0 (So.asn v x ++ (sBut n l xs ++ Γ)) w)
  | _, [], _, _, _, _, h, _ => by simp at h
  | _, _ :: _, [], _, _, _, _, h => by simp at h
  | 0, v0 :: l, x0 :: xs, v, x, Γ, h1, h2 => by
    simp only [List.getElem?_cons_zero, Option.some.injEq] at h1 h2
    subst h1; subst h2
    simp [sAll, sBut, List.append_assoc]
  | n + 1, v0 :: l, x0 :: xs, v, x, Γ, h1, h2 => by
    simp only [List.getElem?_cons_succ] at h1 h2
    have ih : ∀ Γ, _ := fun Γ => s_but (Γ := Γ) h1 h2
    constructor
    · intro h
      have h3 : Sat W0 (So.asn v0 x0 ++ (sAll l xs ++ Γ)) w := by simpa [sAll, List.append_assoc] using h
      have h4 := (ih _).1 (Sat.swap h3)
      have h5 : Sat W0 ((So.asn v x ++ sBut n l xs) ++ (So.asn v0 x0 ++ Γ)) w := by simpa [List.append_assoc] using h4
      have h6 := Sat.swap h5
      have h7 : Sat W0 (So.asn v0 x0 ++ (So.asn v x ++ (sBut n l xs ++ Γ))) w := by simpa [List.append_assoc] using h6
      simpa [sBut, List.append_assoc] using Sat.swap h7
    · intro h
      have h3 : Sat W0 (So.asn v x ++ (So.asn v0 x0 ++ (sBut n l xs ++ Γ))) w := by simpa [sBut, List.append_assoc] using h
      have h4 := Sat.swap h3
      have h5 : Sat W0 ((So.asn v0 x0) ++ ((So.asn v x ++ sBut n l xs) ++ Γ)) w := by simpa [List.append_assoc] using h4
      have h6 := Sat.swap h5
      have h7 : Sat W0 (So.asn v x ++ (sBut n l xs ++ (So.asn v0 x0 ++ Γ))) w := by simpa [List.append_assoc] using h6
      have h8 := (ih _).2 h7
      simpa [sAll, List.append_assoc] using Sat.swap h8
theorem sBut_set : ∀ {n : Nat} {l : List α} {xs : List (So.X α)} {v : α}, sBut n (l.set n v) xs = sBut n l xs
  | _, [], _, _ => by simp [sBut]
  | 0, _ :: _, [], _ => by simp [sBut]
  | n + 1, _ :: _, [], _ => by simp [sBut]
  | 0, _ :: _, _ :: _, _ => by simp [sBut]
  | n + 1, v0 :: l, x0 :: xs, v => by simp only [List.set_cons_succ, sBut]; rw [sBut_set]
theorem nthS_get (h : 0 ≤ i ∧ i < ((l.length : Nat) : Int)) : l[i.toNat]? = some (nthS l i) := by
  have : i.toNat < l.length := by omega
  simp [nthS, this]
theorem StA.of (h : Sat W0 (StA l xs :: Γ) w) : xs.length = l.length ∧ Sat W0 (sAll l xs ++ Γ) w := h.star_of.pure_of
theorem StA.mk (h1 : xs.length = l.length) (h : Sat W0 (sAll l xs ++ Γ) w) : Sat W0 (StA l xs :: Γ) w := Sat.star_mk (Sat.pure_mk h1 h)
theorem SHA.of (h : Sat W0 (SHA l xs i :: Γ) w) : xs.length = l.length ∧ Sat W0 (sBut i.toNat l xs ++ Γ) w := h.star_of.pure_of
theorem SHA.mk (h1 : xs.length = l.length) (h : Sat W0 (sBut i.toNat l xs ++ Γ) w) : Sat W0 (SHA l xs i :: Γ) w := Sat.star_mk (Sat.pure_mk h1 h)
theorem st_len (l : List α) (xs : List (So.X α)) : ∀ (W0 : World) (Γ : List Asn) (w : World), Sat W0 ([StA l xs] ++ Γ) w → xs.length = l.length := fun _ _ _ hw => (StA.of hw).1
theorem sh_len (l : List α) (xs : List (So.X α)) (i : Int) : ∀ (W0 : World) (Γ : List Asn) (w : World), Sat W0 ([SHA l xs i] ++ Γ) w → xs.length = l.length := fun _ _ _ hw => (SHA.of hw).1
/-- Number i is taken out; its pointers are spelt x. -/
theorem gh_sfoc [Rw (So.X α)] (l : List α) (xs : List (So.X α)) (i : Int) (x : So.X α) (hx : nthT xs i = x) (hb : 0 ≤ i ∧ i < ((l.length : Nat) : Int)) : Gh ⟨[], [StA l xs]⟩ fun _ : Unit => ⟨[], So.asn (nthS l i) x ++ [SHA l xs i]⟩ := by
  intro W0 Γ w hw
  obtain ⟨h1, h2⟩ := StA.of (show Sat W0 (StA l xs :: Γ) w from hw)
  have hb2 : 0 ≤ i ∧ i < ((xs.length : Nat) : Int) := by omega
  have hg := nthT_get hb2
  rw [hx] at hg
  refine ⟨(), ?_⟩
  have h3 := (s_but (nthS_get hb) hg).1 h2
  have h4 := SHA.mk (i := i) h1 (Sat.swap h3)
  have h5 : Sat W0 ([SHA l xs i] ++ (So.asn (nthS l i) x ++ Γ)) w := h4
  have h6 := Sat.swap h5
  unfold Rs.all
  simpa [owns, List.append_assoc] using h6
theorem gh_sunf [Rw (So.X α)] (l : List α) (xs : List (So.X α)) (i : Int) (x : So.X α) (v : α) (hx : nthT xs i = x) (hb : 0 ≤ i ∧ i < ((l.length : Nat) : Int)) {l' : List α} (hl : setS l i v = l') : Gh ⟨[], So.asn v x ++ [SHA l xs i]⟩ fun _ : Unit => ⟨[], [StA l' xs]⟩ := by
  subst hl
  intro W0 Γ w hw
  have h0 : Sat W0 (So.asn v x ++ ([SHA l xs i] ++ Γ)) w := by
    unfold Rs.all at hw
    simpa [owns, List.append_assoc] using hw
  obtain ⟨h1, h2⟩ := SHA.of (Sat.swap h0)
  have hb2 : 0 ≤ i ∧ i < ((xs.length : Nat) : Int) := by omega
  have hg := nthT_get hb2
  rw [hx] at hg
  have hlt : i.toNat < l.length := by omega
  have e1 : (setS l i v)[i.toNat]? = some v := by simp [setS, hlt]
  refine ⟨(), StA.mk (by simp [setS, h1]) ((s_but e1 hg).2 ?_)⟩
  rw [setS, sBut_set]
  exact Sat.swap h2
theorem set_nthS (hb : 0 ≤ i ∧ i < ((l.length : Nat) : Int)) : setS l i (nthS l i) = l := by
  unfold setS
  apply List.ext_getElem?
  intro n
  rw [List.getElem?_set]
  split
  · rename_i h; subst h
    rw [nthS_get hb]; simp; omega
  · rfl
theorem gh_sunfs [Rw (So.X α)] (l : List α) (xs : List (So.X α)) (i : Int) (x : So.X α) (hx : nthT xs i = x) (hb : 0 ≤ i ∧ i < ((l.length : Nat) : Int)) : Gh ⟨[], So.asn (nthS l i) x ++ [SHA l xs i]⟩ fun _ : Unit => ⟨[], [StA l xs]⟩ := gh_sunf l xs i x (nthS l i) hx hb (set_nthS hb)
theorem gh_snil : Gh ⟨[], []⟩ fun _ : Unit => ⟨[], [StA ([] : List α) []]⟩ := by
  intro W0 Γ w hw
  exact ⟨(), StA.mk rfl hw⟩
theorem sAll_snoc : ∀ {l : List α} {xs : List (So.X α)} {v : α} {x : So.X α}, xs.length = l.length → sAll (l ++ [v]) (xs ++ [x]) = sAll l xs ++ So.asn v x
  | [], [], v, x, _ => by simp [sAll]
  | [], _ :: _, _, _, h => by simp at h
  | _ :: _, [], _, _, h => by simp at h
  | u :: l, y :: xs, v, x, h => by simp only [List.cons_append, sAll, List.append_assoc]; rw [sAll_snoc (by simpa using h)]
theorem gh_ssnoc (l : List α) (xs : List (So.X α)) (v : α) (x : So.X α) : Gh ⟨[], So.asn v x ++ [StA l xs]⟩ fun _ : Unit => ⟨[], [StA (l ++ [v]) (xs ++ [x])]⟩ := by
  intro W0 Γ w hw
  have h0 : Sat W0 (So.asn v x ++ ([StA l xs] ++ Γ)) w := by
    unfold Rs.all at hw
    simpa [owns, List.append_assoc] using hw
  obtain ⟨h1, h2⟩ := StA.of (Sat.swap h0)
  refine ⟨(), StA.mk (by simp [h1]) ?_⟩
  rw [sAll_snoc h1]
  simpa [List.append_assoc] using h2
theorem gh_sre {l l' : List α} {xs xs' : List (So.X α)} (h1 : l = l') (h2 : xs = xs') : Gh ⟨[], [StA l xs]⟩ fun _ : Unit => ⟨[], [StA l' xs']⟩ := by
  subst h1; subst h2; exact fun _ _ _ hw => ⟨(), hw⟩
end
end Go.Proofs.YtcidmgkfaioceaaGreat
namespace Go.Proofs.YtcidmgkfaioceaaGreat
open Go Go.RowKit
set_option linter.unusedVariables false
structure ChanS where
 pool : BoxS
 queue : BoxS
structure FabS where
 cs : List ChanS
structure FabVS where
 rs : List PortR
instance : So ChanS := ⟨AskR, fun c x => [PoolA x.p c.pool, QueueA x.q c.queue], ⟨⟨[], 0⟩, ⟨[], 0⟩⟩, ⟨0, 0⟩⟩
instance : Rw (So.X ChanS) := rwAskR
def FabO (b : Nat) (c : FabS) : Option Addr × Nat × List PortR → Rs := fun (a_cs, c_cs, r_cs) => ⟨[⟨b, #[.slice a_cs (List.length r_cs) c_cs], 137⟩], [(ArrA a_cs c_cs r_cs), (StA c.cs (asks r_cs))]⟩
abbrev FabA (b : Nat) (c : FabS) : Asn := ObA (FabO b c)
def fisS (fc : FabS) (node : Int) : Option (Bool) :=
 (bif decide ((0 : Int) ≤ node) then some (decide (node < ((((List.length fc.cs) / 2) : Nat) : Int))) else some false)
set_option maxRecDepth 100000 in
set_option maxHeartbeats 4000000 in
theorem fisF {fc : FabS} {node : Int} (f : Nat) (f_a_cs : Option Addr) (f_c_cs : Nat) (f_r_cs : List PortR) {y : Bool} (H : fisS fc node = some y) : FnY Tryz.prog 66 [.pointer (some ⟨f, 0, none⟩), .int .i64 node] ⟨[⟨f, #[.slice f_a_cs (List.length f_r_cs) f_c_cs], 137⟩], [(ArrA f_a_cs f_c_cs f_r_cs), (StA fc.cs (asks f_r_cs))]⟩ (Z := Unit) (fun y _ => .bool y) (fun y _ => ⟨[⟨f, #[.slice f_a_cs (List.length f_r_cs) f_c_cs], 137⟩], [(ArrA f_a_cs f_c_cs f_r_cs), (StA fc.cs (asks f_r_cs))]⟩) y := by
 unfold fisS at H
 refine xfY Tryz.func66 fun W0 F => ?_
 refine xs [] H ?_ ?_
 · intro H
   refine xk [1,1,1,1,1,0,1] [1] (st_len fc.cs (asks f_r_cs)) fun hl1_8_1 => ?_
   refine xw [300] 13 (congrArg (fun n : Nat => Value.int .i64 ((n : Nat) : Int)) (asks_half hl1_8_1)) ?_
   exact xrY (someE H) [1,1] [] [0] [0,0] ()
 · intro H
   exact xrY (someE H) [0,0,0,0,0,0,0,0] [] [0] [0,0] ()
def poolsVS_j0 (e0_3x : List AskR) : Option (List AskR) :=
 some e0_3x
def poolsVS_l1 (fc : FabVS) (k0 : (List AskR) → Option (List AskR)) : Nat → (List AskR) → Int → Option (List AskR)
 | 0, _, _ => none
 | m + 1, v1_3x, v1_11 => (bif decide (v1_11 < (((List.length fc.rs) : Nat) : Int)) then chk (0 ≤ v1_11 ∧ v1_11 < ((fc.rs.length : Nat) : Int)) (letP (nthT fc.rs v1_11) fun x4_1 => chk ((v1_3x ++ ([(⟨x4_1.rp, x4_1.rq⟩ : AskR), (⟨x4_1.ap, x4_1.aq⟩ : AskR)])).length ≤ 1099511627776) (letP (v1_3x ++ ([(⟨x4_1.rp, x4_1.rq⟩ : AskR), (⟨x4_1.ap, x4_1.aq⟩ : AskR)])) fun l5_6 => chk (inR (v1_11 + (1 : Int))) ((poolsVS_l1 fc k0 m) l5_6 (v1_11 + (1 : Int))))) else k0 v1_3x)
def poolsVS (fc : FabVS) : Option (List AskR) :=
 poolsVS_l1 fc poolsVS_j0 (List.length fc.rs + 1) ([] : List AskR) (0 : Int)
set_option maxRecDepth 100000 in
set_option maxHeartbeats 4000000 in
theorem poolsVF {fc : FabVS} (f : Nat) (f_a_rs : Option Addr) (f_c_rs : Nat) {y : List AskR} (H : poolsVS fc = some y) : FnY Tryz.prog 64 [.pointer (some ⟨f, 0, none⟩)] ⟨[⟨f, #[.slice f_a_rs (List.length fc.rs) f_c_rs], 137⟩], [(ArrA f_a_rs f_c_rs fc.rs)]⟩ (Z := Option Addr × Nat) (fun y (za0, zc0) => .slice za0 (List.length y) zc0) (fun y (za0, zc0) => ⟨[⟨f, #[.slice f_a_rs (List.length fc.rs) f_c_rs], 137⟩], [(ArrA za0 zc0 y), (ArrA f_a_rs f_c_rs fc.rs)]⟩) y := by
 unfold poolsVS at H
 refine xfY Tryz.func64 fun W0 F => ?_
 refine xj [102] (ι := List AskR × Option Addr × Nat) (fun (e0_3x, e0_3a, e0_3c) => ⟨[(3, .slice e0_3a (List.length e0_3x) e0_3c)], [⟨f, #[.slice f_a_rs (List.length fc.rs) f_c_rs], 137⟩], [(ArrA e0_3a e0_3c e0_3x), (ArrA f_a_rs f_c_rs fc.rs)]⟩) (fun (e0_3x, e0_3a, e0_3c) => poolsVS_j0 e0_3x = some y) ?_ ?_
 · rintro ⟨e0_3x, e0_3a, e0_3c⟩ H
   replace H : poolsVS_j0 e0_3x = some y := H
   rw [poolsVS_j0] at H
   exact xrY (someE H) [] [] [0] [0,0] (e0_3a, e0_3c)
 · intro N0 hN0
   refine xg [0] [] [] (gh_nil (α := AskR) none) fun _ => ?_
   refine xl [] (ι := List AskR × Int × Option Addr × Nat) (fun (v1_3x, v1_11, v1_3a, v1_3c) => ⟨[(3, .slice v1_3a (List.length v1_3x) v1_3c), (9, .slice f_a_rs (List.length fc.rs) f_c_rs), (10, .int .i64 (((List.length fc.rs) : Nat) : Int)), (11, .int .i64 v1_11)], [⟨f, #[.slice f_a_rs (List.length fc.rs) f_c_rs], 137⟩], [(ArrA v1_3a v1_3c v1_3x), (ArrA f_a_rs f_c_rs fc.rs)]⟩) (fun m1 (v1_3x, v1_11, v1_3a, v1_3c) => poolsVS_l1 fc (poolsVS_j0) m1 v1_3x v1_11 = some y) [0] [0,0] ((List.length fc.rs + 1)) (([] : List AskR), (0 : Int), none, 0) H ?_
   rintro N1 (_ | m1) ⟨v1_3x, v1_11, v1_3a, v1_3c⟩ H hN1
   · exact (noneE H).elim
   replace H : poolsVS_l1 fc (poolsVS_j0) (m1 + 1) v1_3x v1_11 = some y := H
   rw [poolsVS_l1] at H
   refine xs [] H ?_ ?_
   · intro H
     refine chkG H fun q4_0_1 H => ?_
     refine xi [1] 1 (rA f_a_rs f_c_rs fc.rs) q4_0_1 fun b1 o1 e1 => ?_
     refine letG H fun x4_1 hx4_1 H => ?_
     refine xo [] [] [1] (oc_ldN (rA f_a_rs f_c_rs fc.rs) e1 q4_0_1 hx4_1 0 4) fun _ => ?_
     refine xn [] fun b4_2 => ?_
     refine xn [0,0,0] fun b5_5 => ?_
     refine xg [] [0] [] (gh_own b5_5 132 2 ([(⟨x4_1.rp, x4_1.rq⟩ : AskR), (⟨x4_1.ap, x4_1.aq⟩ : AskR)] : List AskR) [(), ()] (fun _ _ _ _ _ _ _ => trivial)) fun _ => ?_
     refine chkG H fun q5_6_1 H => ?_
     refine letG H fun l5_6 hl5_6 H => ?_
     refine xa [] [3,0] (a := v1_3a) (l := v1_3x) (zs := l5_6) (cap := v1_3c) (rA (some ⟨b5_5, 0, none⟩) 2 ([(⟨x4_1.rp, x4_1.rq⟩ : AskR), (⟨x4_1.ap, x4_1.aq⟩ : AskR)])) hl5_6 (hl5_6 ▸ q5_6_1) fun ⟨a5_6, c5_6⟩ => ?_
     refine chkG H fun q6_0_1 H => ?_
     refine xd [0] (ap q6_0_1 an) ?_
     exact xe [] _ [1] [0,2] (hN1 _ (l5_6, v1_11 + (1 : Int), a5_6, c5_6) (Nat.lt_succ_self _) H)
   · intro H
     exact xe [0] _ [0] [0,0] (hN0 (v1_3x, v1_3a, v1_3c) H)
theorem pools_loop (r : List PortR) (hr : (asks r).length ≤ 1099511627776) : ∀ (rest done : List PortR) (m : Nat), r = done ++ rest → rest.length < m → poolsVS_l1 ⟨r⟩ poolsVS_j0 m (asks done) ((done.length : Nat) : Int) = some (asks r)
  | _, _, 0, _, h => by omega
  | [], done, m + 1, h, _ => by
    rw [poolsVS_l1]
    have e : done = r := by rw [h]; simp
    subst e
    simp [poolsVS_j0]
  | p :: rest, done, m + 1, h, hm => by
    have hl : done.length < r.length := by rw [h]; simp
    have h2 := hr
    rw [asks_len] at h2
    have e1 : nthT r ((done.length : Nat) : Int) = p := by simp [nthT, h]
    have e2 : asks done ++ [⟨p.rp, p.rq⟩, ⟨p.ap, p.aq⟩] = asks (done ++ [p]) := by rw [← asks_snoc]; simp
    have e3 : (((done ++ [p]).length : Nat) : Int) = ((done.length : Nat) : Int) + 1 := by simp
    have ih := pools_loop r hr rest (done ++ [p]) m (by rw [h]; simp) (by simp at hm; omega)
    rw [e3] at ih
    rw [poolsVS_l1]
    dsimp only [letP]
    rw [decide_eq_true (by omega : ((done.length : Nat) : Int) < ((r.length : Nat) : Int)), cond_true, chk_true (by constructor <;> omega)]
    rw [e1, e2, chk_true (by rw [asks_len, List.length_append]; simp; omega), chk_true (by unfold inR; omega)]
    exact ih
theorem poolsG (f : Nat) (a : Option Addr) (c : Nat) (r : List PortR) {n : Nat} (hl : (asks r).length = n) (hr : n ≤ 1099511627776) : Fn Tryz.prog 64 [.pointer (some ⟨f, 0, none⟩)] ⟨[⟨f, #[.slice a (List.length r) c], 137⟩], [(ArrA a c r)]⟩ (Z := Option Addr × Nat) (fun z => .slice z.1 (List.length (asks r)) z.2) (fun z => ⟨[⟨f, #[.slice a (List.length r) c], 137⟩], [(ArrA z.1 z.2 (asks r)), (ArrA a c r)]⟩) :=
  poolsVF (fc := ⟨r⟩) f a c (y := asks r) (pools_loop r (by rw [hl]; exact hr) r [] (r.length + 1) rfl (Nat.lt_succ_self _))
/-- A pair of pointers, or none. -/
def askV (xs : List AskR) (o : Option Int) : Value := match o with | none => .agg #[.pointer none, .pointer none] | some i => .agg #[blk (nthT xs i).p, blk (nthT xs i).q]
def psortS (p : PortR) (request : Bool) : Option (AskR) :=
 (bif request then some (⟨p.rp, p.rq⟩ : AskR) else some (⟨p.ap, p.aq⟩ : AskR))
set_option maxRecDepth 100000 in
set_option maxHeartbeats 4000000 in
theorem psortF {p : PortR} {request : Bool} {y : AskR} (H : psortS p request = some y) : FnY Tryz.prog 105 [.agg #[.pointer (some ⟨p.rp, 0, none⟩), .pointer (some ⟨p.rq, 0, none⟩), .pointer (some ⟨p.ap, 0, none⟩), .pointer (some ⟨p.aq, 0, none⟩)], .bool request] ⟨[], []⟩ (Z := Unit) (fun y _ => .agg #[.pointer (some ⟨y.p, 0, none⟩), .pointer (some ⟨y.q, 0, none⟩)]) (fun y _ => ⟨[], []⟩) y := by
 unfold psortS at H
 refine xfY Tryz.func105 fun W0 F => ?_
 refine xn [] fun b0_0 => ?_
 refine xn [] fun b0_1 => ?_
 refine xs [] H ?_ ?_
 · intro H
   exact xrY (someE H) [1,1,0] [0] [] [] ()
 · intro H
   exact xrY (someE H) [0,1,0] [0] [] [] ()
theorem psort_t (p : PortR) : Fq Tryz.prog 105 [.agg #[blk p.rp, blk p.rq, blk p.ap, blk p.aq], .bool true] (.agg #[blk p.rp, blk p.rq]) := Fn.quiet (psortF (p := p) (request := true) (y := ⟨p.rp, p.rq⟩) rfl)
theorem psort_f (p : PortR) : Fq Tryz.prog 105 [.agg #[blk p.rp, blk p.rq, blk p.ap, blk p.aq], .bool false] (.agg #[blk p.ap, blk p.aq]) := Fn.quiet (psortF (p := p) (request := false) (y := ⟨p.ap, p.aq⟩) rfl)
def ffindS_j0 : Option (Option Int × Int × Bool) :=
 some (none, (0 : Int), false)
def ffindS_j2 (v1_12 : Int) (v1_1 : Int) (fc : FabS) (r1 : Int → Int → Option (Option Int × Int × Bool)) (e2_24 : Bool) : Option (Option Int × Int × Bool) :=
 (bif e2_24 then some ((some v1_12), v1_1, true) else (polenS ((nthS fc.cs v1_12).pool)).bind fun y6_3 => chk (inR (v1_12 + (1 : Int))) (r1 (wr (v1_1 - y6_3)) (v1_12 + (1 : Int))))
def ffindS_l1 (fc : FabS) (k0 : Option (Option Int × Int × Bool)) : Nat → Int → Int → Option (Option Int × Int × Bool)
 | 0, _, _ => none
 | m + 1, v1_1, v1_12 => (bif decide (v1_12 < (((List.length fc.cs) : Nat) : Int)) then chk (0 ≤ v1_12 ∧ v1_12 < (((List.length fc.cs) : Nat) : Int)) ((bif decide ((0 : Int) ≤ v1_1) then (polenS ((nthS fc.cs v1_12).pool)).bind fun y4_6 => (ffindS_j2 v1_12 v1_1 fc (ffindS_l1 fc k0 m)) (decide (v1_1 < y4_6)) else (ffindS_j2 v1_12 v1_1 fc (ffindS_l1 fc k0 m)) false)) else k0)
def ffindS (fc : FabS) (at_ : Int) : Option (Option Int × Int × Bool) :=
 chk ((List.length fc.cs) ≤ 1099511627776) (ffindS_l1 fc ffindS_j0 (List.length fc.cs + 1) at_ (0 : Int))
set_option maxRecDepth 100000 in
set_option maxHeartbeats 4000000 in
theorem ffindF {fc : FabS} {at_ : Int} (f : Nat) (f_a_cs : Option Addr) (f_c_cs : Nat) (f_r_cs : List PortR) {y : Option Int × Int × Bool} (H : ffindS fc at_ = some y) : FnY Tryz.prog 108 [.pointer (some ⟨f, 0, none⟩), .int .i64 at_] ⟨[⟨f, #[.slice f_a_cs (List.length f_r_cs) f_c_cs], 137⟩], [(ArrA f_a_cs f_c_cs f_r_cs), (StA fc.cs (asks f_r_cs))]⟩ (Z := Unit) (fun y _ => .tuple #[(askV (asks f_r_cs) y.1), .int .i64 y.2.1, .bool y.2.2]) (fun y _ => ⟨[⟨f, #[.slice f_a_cs (List.length f_r_cs) f_c_cs], 137⟩], [(ArrA f_a_cs f_c_cs f_r_cs), (StA fc.cs (asks f_r_cs))]⟩) y := by
 unfold ffindS at H
 refine xfY Tryz.func108 fun W0 F => ?_
 refine xn [] fun b0_0 => ?_
 refine xj [100] (ι := Unit) (fun _ => ⟨[(4, .pointer (some ⟨b0_0, 0, none⟩))], [⟨f, #[.slice f_a_cs (List.length f_r_cs) f_c_cs], 137⟩, ⟨b0_0, #[.pointer none, .pointer none], 132⟩], [(ArrA f_a_cs f_c_cs f_r_cs), (StA fc.cs (asks f_r_cs))]⟩) (fun _ => ffindS_j0 = some y) ?_ ?_
 · rintro _ H
   replace H : ffindS_j0 = some y := H
   rw [ffindS_j0] at H
   exact xrY (someE H) [1] [1] [0] [0,0] ()
 · intro N0 hN0
   refine xk [] [1] (st_len fc.cs (asks f_r_cs)) fun hl1_1_1 => ?_
   refine chkG H fun q1_1_1 H => ?_
   refine xc [] [1] [0] (poolsG f f_a_cs f_c_cs f_r_cs hl1_1_1 q1_1_1) fun ⟨t1_1_a, t1_1_c⟩ => ?_
   refine xk [] [2] (st_len fc.cs (asks f_r_cs)) fun hl1_2_1 => ?_
   refine xw [300] 11 (congrArg (fun n : Nat => Value.int .i64 ((n : Nat) : Int)) hl1_2_1) ?_
   refine xl [] (ι := Int × Int) (fun (v1_1, v1_12) => ⟨[(1, .int .i64 v1_1), (4, .pointer (some ⟨b0_0, 0, none⟩)), (10, .slice t1_1_a (List.length (asks f_r_cs)) t1_1_c), (11, .int .i64 (((List.length fc.cs) : Nat) : Int)), (12, .int .i64 v1_12)], [⟨f, #[.slice f_a_cs (List.length f_r_cs) f_c_cs], 137⟩, ⟨b0_0, #[.pointer none, .pointer none], 132⟩], [(ArrA t1_1_a t1_1_c (asks f_r_cs)), (ArrA f_a_cs f_c_cs f_r_cs), (StA fc.cs (asks f_r_cs))]⟩) (fun m1 (v1_1, v1_12) => ffindS_l1 fc (ffindS_j0) m1 v1_1 v1_12 = some y) [0,0] [0,0,0] ((List.length fc.cs + 1)) (at_, (0 : Int)) H ?_
   rintro N1 (_ | m1) ⟨v1_1, v1_12⟩ H hN1
   · exact (noneE H).elim
   replace H : ffindS_l1 fc (ffindS_j0) (m1 + 1) v1_1 v1_12 = some y := H
   rw [ffindS_l1] at H
   refine xs [] H ?_ ?_
   · intro H
     refine xk [1] [2] (st_len fc.cs (asks f_r_cs)) fun hl3_0_1 => ?_
     refine chkG H fun q3_0_1 H => ?_
     refine xi [] 0 (rA t1_1_a t1_1_c (asks f_r_cs)) (rngE hl3_0_1 q3_0_1) fun b1 o1 e1 => ?_
     refine xo [] [] [0] (oc_ldN (rA t1_1_a t1_1_c (asks f_r_cs)) e1 (rngE hl3_0_1 q3_0_1) rfl 0 2) fun _ => ?_
     refine xn [] fun b3_2 => ?_
     refine xj [0,101] (ι := Bool) (fun e2_24 => ⟨[(1, .int .i64 v1_1), (4, .pointer (some ⟨b0_0, 0, none⟩)), (8, .pointer (some ⟨b3_2, 0, none⟩)), (10, .slice t1_1_a (List.length (asks f_r_cs)) t1_1_c), (11, .int .i64 (((List.length fc.cs) : Nat) : Int)), (12, .int .i64 v1_12), (24, .bool e2_24)], [⟨b3_2, #[.pointer (some ⟨(nthT (asks f_r_cs) v1_12).p, 0, none⟩), .pointer (some ⟨(nthT (asks f_r_cs) v1_12).q, 0, none⟩)], 132⟩, ⟨f, #[.slice f_a_cs (List.length f_r_cs) f_c_cs], 137⟩, ⟨b0_0, #[.pointer none, .pointer none], 132⟩], [(StA fc.cs (asks f_r_cs)), (ArrA t1_1_a t1_1_c (asks f_r_cs)), (ArrA f_a_cs f_c_cs f_r_cs)]⟩) (fun e2_24 => ffindS_j2 v1_12 v1_1 fc (ffindS_l1 fc (ffindS_j0) m1) e2_24 = some y) ?_ ?_
     · rintro e2_24 H
       replace H : ffindS_j2 v1_12 v1_1 fc (ffindS_l1 fc (ffindS_j0) m1) e2_24 = some y := H
       rw [ffindS_j2] at H
       refine xs [] H ?_ ?_
       · intro H
         exact xrY (someE H) [1,0,2] [2] [1] [2,0] ()
       · intro H
         refine xk [0,0] [0] (st_len fc.cs (asks f_r_cs)) fun hl6_3_1 => ?_
         refine xg [] [] [0] (gh_sfoc fc.cs (asks f_r_cs) v1_12 (nthT (asks f_r_cs) v1_12) rfl (rngB hl6_3_1 (rngE hl3_0_1 q3_0_1))) fun _ => ?_
         refine xg [] [] [0] (gh_open (PoolO (nthT (asks f_r_cs) v1_12).p ((nthS fc.cs v1_12).pool))) fun ⟨a_l1, c_l2⟩ => ?_
         refine bindG H fun y6_3 hy6_3 H => ?_
         refine xc [] [0] [0] (polenF (nthT (asks f_r_cs) v1_12).p a_l1 c_l2 hy6_3) fun _ => ?_
         refine chkG H fun q7_0_1 H => ?_
         refine xd [1,0] (ap q7_0_1 an) ?_
         refine xg [] [0] [0] (gh_shut (PoolO (nthT (asks f_r_cs) v1_12).p ((nthS fc.cs v1_12).pool)) (a_l1, c_l2)) fun _ => ?_
         refine xg [] [] [0,0,0] (gh_sunfs fc.cs (asks f_r_cs) v1_12 (nthT (asks f_r_cs) v1_12) rfl (rngB hl6_3_1 (rngE hl3_0_1 q3_0_1))) fun _ => ?_
         exact xe [] _ [1,1] [1,1,0] (hN1 _ (wr (v1_1 - y6_3), v1_12 + (1 : Int)) (Nat.lt_succ_self _) H)
     · intro N2 hN2
       refine xs [] H ?_ ?_
       · intro H
         refine xk [1,1,1,0,1] [3] (st_len fc.cs (asks f_r_cs)) fun hl4_6_1 => ?_
         refine xg [] [] [3] (gh_sfoc fc.cs (asks f_r_cs) v1_12 (nthT (asks f_r_cs) v1_12) rfl (rngB hl4_6_1 (rngE hl3_0_1 q3_0_1))) fun _ => ?_
         refine xg [1] [] [0] (gh_open (PoolO (nthT (asks f_r_cs) v1_12).p ((nthS fc.cs v1_12).pool))) fun ⟨a_l3, c_l4⟩ => ?_
         refine bindG H fun y4_6 hy4_6 H => ?_
         refine xc [1] [0] [0] (polenF (nthT (asks f_r_cs) v1_12).p a_l3 c_l4 hy4_6) fun _ => ?_
         refine xg [1,1] [0] [0] (gh_shut (PoolO (nthT (asks f_r_cs) v1_12).p ((nthS fc.cs v1_12).pool)) (a_l3, c_l4)) fun _ => ?_
         refine xg [] [] [0,0,0] (gh_sunfs fc.cs (asks f_r_cs) v1_12 (nthT (asks f_r_cs) v1_12) rfl (rngB hl4_6_1 (rngE hl3_0_1 q3_0_1))) fun _ => ?_
         exact xe [] _ [0,0,0] [0,1,1] (hN2 (decide (v1_1 < y4_6)) H)
       · intro H
         exact xe [0,0,0,0,0,0] _ [0,0,0] [3,1,1] (hN2 (false) H)
   · intro H
     exact xe [0] _ [0,0] [1,1] (hN0 () H)
def fpktS (fc : FabS) (at_ : Int) : Option (PktS × Bool) :=
 (ffindS fc at_).bind fun y1_2 => (optM y1_2.1 (fun k1_2 => (bif !y1_2.2.2 then some ((⟨(0 : Int), (0 : Int), (0 : Int), (0 : Int), (0 : Int), (0 : Int), (0 : Int), false, ([] : List Int)⟩ : PktS), false) else (bif decide (at_ < (0 : Int)) then some ((⟨(0 : Int), (0 : Int), (0 : Int), (0 : Int), (0 : Int), (0 : Int), (0 : Int), false, ([] : List Int)⟩ : PktS), false) else chk (0 ≤ k1_2 ∧ k1_2 < ((List.length fc.cs : Nat) : Int)) ((pogetS ((nthS fc.cs k1_2).pool) y1_2.2.1).bind fun y4_3 => some (y4_3.1, y4_3.2))))) ((bif !y1_2.2.2 then some ((⟨(0 : Int), (0 : Int), (0 : Int), (0 : Int), (0 : Int), (0 : Int), (0 : Int), false, ([] : List Int)⟩ : PktS), false) else (bif decide (at_ < (0 : Int)) then some ((⟨(0 : Int), (0 : Int), (0 : Int), (0 : Int), (0 : Int), (0 : Int), (0 : Int), false, ([] : List Int)⟩ : PktS), false) else none))))
set_option maxRecDepth 100000 in
set_option maxHeartbeats 4000000 in
theorem fpktF {fc : FabS} {at_ : Int} (f : Nat) (f_a_cs : Option Addr) (f_c_cs : Nat) (f_r_cs : List PortR) {y : PktS × Bool} (H : fpktS fc at_ = some y) : FnY Tryz.prog 103 [.pointer (some ⟨f, 0, none⟩), .int .i64 at_] ⟨[⟨f, #[.slice f_a_cs (List.length f_r_cs) f_c_cs], 137⟩], [(ArrA f_a_cs f_c_cs f_r_cs), (StA fc.cs (asks f_r_cs))]⟩ (Z := Option Addr × Nat) (fun y (za0, zc0) => .tuple #[.agg #[.int .i64 y.1.kind, .int .i64 y.1.src, .int .i64 y.1.dst, .int .i64 y.1.id, .int .i64 y.1.line, .int .i64 y.1.ptr, .int .i64 y.1.state, .bool y.1.flag, .slice za0 (List.length y.1.data) zc0], .bool y.2]) (fun y (za0, zc0) => ⟨[⟨f, #[.slice f_a_cs (List.length f_r_cs) f_c_cs], 137⟩], [(ArrA za0 zc0 y.1.data), (ArrA f_a_cs f_c_cs f_r_cs), (StA fc.cs (asks f_r_cs))]⟩) y := by
 unfold fpktS at H
 refine xfY Tryz.func103 fun W0 F => ?_
 refine xn [] fun b0_0 => ?_
 refine bindG H fun y1_2 hy1_2 H => ?_
 refine xc [] [1] [0,0] (ffindF f f_a_cs f_c_cs f_r_cs hy1_2) fun _ => ?_
 refine optG H (fun hk1_2 H => ?_) fun k1_2 hk1_2 H => ?_
 · refine xw [300] 12 (v := .tuple #[(askV (asks f_r_cs) y1_2.1), .int .i64 y1_2.2.1, .bool y1_2.2.2]) (v' := .tuple #[.agg #[.pointer none, .pointer none], .int .i64 y1_2.2.1, .bool y1_2.2.2]) (by rw [hk1_2]; rfl) ?_
   refine xn [] fun b1_7 => ?_
   refine xs [0] H ?_ ?_
   · intro H
     refine xg [0,0,1,1,2] [] [] (gh_nil (α := Int) none) fun _ => ?_
     exact xrY (someE H) [] [2] [1] [0,0,0] (none, 0)
   · intro H
     refine xs [1,1,0] H ?_ ?_
     · intro H
       refine xg [1,2] [] [] (gh_nil (α := Int) none) fun _ => ?_
       exact xrY (someE H) [] [2] [1] [0,0,0] (none, 0)
     · intro H
       exact (noneE H).elim
 · refine xw [300] 12 (v := .tuple #[(askV (asks f_r_cs) y1_2.1), .int .i64 y1_2.2.1, .bool y1_2.2.2]) (v' := .tuple #[.agg #[.pointer (some ⟨(nthT (asks f_r_cs) k1_2).p, 0, none⟩), .pointer (some ⟨(nthT (asks f_r_cs) k1_2).q, 0, none⟩)], .int .i64 y1_2.2.1, .bool y1_2.2.2]) (by rw [hk1_2]; rfl) ?_
   refine xn [] fun b1_7 => ?_
   refine xs [0] H ?_ ?_
   · intro H
     refine xg [0,0,1,1,2] [] [] (gh_nil (α := Int) none) fun _ => ?_
     exact xrY (someE H) [] [2] [1] [0,0,0] (none, 0)
   · intro H
     refine xs [1,1,0] H ?_ ?_
     · intro H
       refine xg [1,2] [] [] (gh_nil (α := Int) none) fun _ => ?_
       exact xrY (someE H) [] [2] [1] [0,0,0] (none, 0)
     · intro H
       refine xk [0,0] [1] (st_len fc.cs (asks f_r_cs)) fun hl4_3_1 => ?_
       refine chkG H fun q4_3_1 H => ?_
       refine xg [] [] [1] (gh_sfoc fc.cs (asks f_r_cs) k1_2 (nthT (asks f_r_cs) k1_2) rfl (rngB hl4_3_1 (rngE hl4_3_1 q4_3_1))) fun _ => ?_
       refine xg [] [] [0] (gh_open (PoolO (nthT (asks f_r_cs) k1_2).p ((nthS fc.cs k1_2).pool))) fun ⟨a_l1, c_l2⟩ => ?_
       refine bindG H fun y4_3 hy4_3 H => ?_
       refine xc [] [0] [0] (pogetF (nthT (asks f_r_cs) k1_2).p a_l1 c_l2 hy4_3) fun ⟨t4_3_a0, t4_3_c0⟩ => ?_
       refine xg [3] [0] [1] (gh_shut (PoolO (nthT (asks f_r_cs) k1_2).p ((nthS fc.cs k1_2).pool)) (a_l1, c_l2)) fun _ => ?_
       refine xg [] [] [0,1,1] (gh_sunfs fc.cs (asks f_r_cs) k1_2 (nthT (asks f_r_cs) k1_2) rfl (rngB hl4_3_1 (rngE hl4_3_1 q4_3_1))) fun _ => ?_
       exact xrY (someE H) [] [2] [1] [1,1,0] (t4_3_a0, t4_3_c0)
def fwaitS (fc : FabS) (node : Int) : Option (Int × Int) :=
 (fisS fc node).bind fun y1_2 => (bif !y1_2 then some ((0 : Int), (0 : Int)) else chk (0 ≤ node ∧ node < ((((List.length fc.cs) / 2) : Nat) : Int)) (chk (0 ≤ node ∧ node < ((((List.length fc.cs) / 2) : Nat) : Int)) ((qulenS ((nthS fc.cs (2 * node)).queue)).bind fun y3_9 => (qulenS ((nthS fc.cs (2 * node + 1)).queue)).bind fun y3_19 => some (y3_9, y3_19))))
set_option maxRecDepth 100000 in
set_option maxHeartbeats 4000000 in
theorem fwaitF {fc : FabS} {node : Int} (f : Nat) (f_a_cs : Option Addr) (f_c_cs : Nat) (f_r_cs : List PortR) {y : Int × Int} (H : fwaitS fc node = some y) : FnY Tryz.prog 24 [.pointer (some ⟨f, 0, none⟩), .int .i64 node] ⟨[⟨f, #[.slice f_a_cs (List.length f_r_cs) f_c_cs], 137⟩], [(ArrA f_a_cs f_c_cs f_r_cs), (StA fc.cs (asks f_r_cs))]⟩ (Z := Unit) (fun y _ => .tuple #[.int .i64 y.1, .int .i64 y.2]) (fun y _ => ⟨[⟨f, #[.slice f_a_cs (List.length f_r_cs) f_c_cs], 137⟩], [(ArrA f_a_cs f_c_cs f_r_cs), (StA fc.cs (asks f_r_cs))]⟩) y := by
 unfold fwaitS at H
 refine xfY Tryz.func24 fun W0 F => ?_
 refine bindG H fun y1_2 hy1_2 H => ?_
 refine xc [] [0] [0,0] (fisF f f_a_cs f_c_cs f_r_cs hy1_2) fun _ => ?_
 refine xs [] H ?_ ?_
 · intro H
   exact xrY (someE H) [1] [] [0] [0,0] ()
 · intro H
   refine xk [0,0,1,2,3,0,4,5] [1] (st_len fc.cs (asks f_r_cs)) fun hl3_5_1 => ?_
   refine chkG H fun q3_5_1 H => ?_
   refine xi [] 0 (rA f_a_cs f_c_cs f_r_cs) (rngE (asks_half hl3_5_1) q3_5_1) fun b1 o1 e1 => ?_
   refine xpl [6,7,8] 0 (ol_ld (rA f_a_cs f_c_cs f_r_cs) e1 (rngE (asks_half hl3_5_1) q3_5_1) 1 (fun _ => rfl)) ?_
   refine xk [10,11,12,13,0,14,15] [1] (st_len fc.cs (asks f_r_cs)) fun hl3_15_1 => ?_
   refine chkG H fun q3_15_1 H => ?_
   refine xi [] 0 (rA f_a_cs f_c_cs f_r_cs) (rngE (asks_half hl3_15_1) q3_15_1) fun b2 o2 e2 => ?_
   refine xpl [16,17,18] 0 (ol_ld (rA f_a_cs f_c_cs f_r_cs) e2 (rngE (asks_half hl3_15_1) q3_15_1) 3 (fun _ => rfl)) ?_
   refine xk [9] [1] (st_len fc.cs (asks f_r_cs)) fun hl3_9_1 => ?_
   refine xg [] [] [1] (gh_sfoc fc.cs (asks f_r_cs) (2 * node) (⟨(nthT f_r_cs node).rp, (nthT f_r_cs node).rq⟩) (asks_req (rngE (asks_half hl3_15_1) q3_15_1)) (rng_req hl3_9_1 (rngE (asks_half hl3_15_1) q3_15_1))) fun _ => ?_
   refine xg [] [] [1] (gh_open (QueueO (nthT f_r_cs node).rq ((nthS fc.cs (2 * node)).queue))) fun ⟨a_l1, c_l2⟩ => ?_
   refine bindG H fun y3_9 hy3_9 H => ?_
   refine xc [] [0] [0] (qulenF (nthT f_r_cs node).rq a_l1 c_l2 hy3_9) fun _ => ?_
   refine xg [19] [0] [0] (gh_shut (QueueO (nthT f_r_cs node).rq ((nthS fc.cs (2 * node)).queue)) (a_l1, c_l2)) fun _ => ?_
   refine xg [] [] [1,0,0] (gh_sunfs fc.cs (asks f_r_cs) (2 * node) (⟨(nthT f_r_cs node).rp, (nthT f_r_cs node).rq⟩) (asks_req (rngE (asks_half hl3_15_1) q3_15_1)) (rng_req hl3_9_1 (rngE (asks_half hl3_15_1) q3_15_1))) fun _ => ?_
   refine xk [] [0] (st_len fc.cs (asks f_r_cs)) fun hl3_19_1 => ?_
   refine xg [] [] [0] (gh_sfoc fc.cs (asks f_r_cs) (2 * node + 1) (⟨(nthT f_r_cs node).ap, (nthT f_r_cs node).aq⟩) (asks_ans (rngE (asks_half hl3_15_1) q3_15_1)) (rng_ans hl3_19_1 (rngE (asks_half hl3_15_1) q3_15_1))) fun _ => ?_
   refine xg [] [] [1] (gh_open (QueueO (nthT f_r_cs node).aq ((nthS fc.cs (2 * node + 1)).queue))) fun ⟨a_l3, c_l4⟩ => ?_
   refine bindG H fun y3_19 hy3_19 H => ?_
   refine xc [] [0] [0] (qulenF (nthT f_r_cs node).aq a_l3 c_l4 hy3_19) fun _ => ?_
   refine xg [20,21] [0] [0] (gh_shut (QueueO (nthT f_r_cs node).aq ((nthS fc.cs (2 * node + 1)).queue)) (a_l3, c_l4)) fun _ => ?_
   refine xg [] [] [1,0,0] (gh_sunfs fc.cs (asks f_r_cs) (2 * node + 1) (⟨(nthT f_r_cs node).ap, (nthT f_r_cs node).aq⟩) (asks_ans (rngE (asks_half hl3_15_1) q3_15_1)) (rng_ans hl3_19_1 (rngE (asks_half hl3_15_1) q3_15_1))) fun _ => ?_
   exact xrY (someE H) [] [] [0] [1,0] ()
def froomS (fc : FabS) (node : Int) (request : Bool) : Option (Int) :=
 (fisS fc node).bind fun y1_2 => (bif !y1_2 then some (0 : Int) else chk (0 ≤ node ∧ node < ((((List.length fc.cs) / 2) : Nat) : Int)) ((bif request then (poroomS ((nthS fc.cs (2 * node)).pool)).bind fun y3_10 => some y3_10 else (poroomS ((nthS fc.cs (2 * node + 1)).pool)).bind fun y3_10 => some y3_10)))
set_option maxRecDepth 100000 in
set_option maxHeartbeats 4000000 in
theorem froomF {fc : FabS} {node : Int} {request : Bool} (f : Nat) (f_a_cs : Option Addr) (f_c_cs : Nat) (f_r_cs : List PortR) {y : Int} (H : froomS fc node request = some y) : FnY Tryz.prog 149 [.pointer (some ⟨f, 0, none⟩), .int .i64 node, .bool request] ⟨[⟨f, #[.slice f_a_cs (List.length f_r_cs) f_c_cs], 137⟩], [(ArrA f_a_cs f_c_cs f_r_cs), (StA fc.cs (asks f_r_cs))]⟩ (Z := Unit) (fun y _ => .int .i64 y) (fun y _ => ⟨[⟨f, #[.slice f_a_cs (List.length f_r_cs) f_c_cs], 137⟩], [(ArrA f_a_cs f_c_cs f_r_cs), (StA fc.cs (asks f_r_cs))]⟩) y := by
 unfold froomS at H
 refine xfY Tryz.func149 fun W0 F => ?_
 refine bindG H fun y1_2 hy1_2 H => ?_
 refine xc [] [0] [0,0] (fisF f f_a_cs f_c_cs f_r_cs hy1_2) fun _ => ?_
 refine xs [] H ?_ ?_
 · intro H
   exact xrY (someE H) [1] [] [0] [0,0] ()
 · intro H
   refine xk [0,0] [1] (st_len fc.cs (asks f_r_cs)) fun hl3_5_1 => ?_
   refine chkG H fun q3_5_1 H => ?_
   refine xi [] 0 (rA f_a_cs f_c_cs f_r_cs) (rngE (asks_half hl3_5_1) q3_5_1) fun b1 o1 e1 => ?_
   refine xo [] [] [0] (oc_ldN (rA f_a_cs f_c_cs f_r_cs) e1 (rngE (asks_half hl3_5_1) q3_5_1) rfl 0 4) fun _ => ?_
   refine xsd [] 18 H ?_ ?_
   · intro H
     refine xq [] (psort_t (nthT f_r_cs node)) ?_
     refine xk [] [2] (st_len fc.cs (asks f_r_cs)) fun hl3_10_1 => ?_
     refine xg [] [] [2] (gh_sfoc fc.cs (asks f_r_cs) (2 * node) (⟨(nthT f_r_cs node).rp, (nthT f_r_cs node).rq⟩) (asks_req (rngE (asks_half hl3_5_1) q3_5_1)) (rng_req hl3_10_1 (rngE (asks_half hl3_5_1) q3_5_1))) fun _ => ?_
     refine xg [] [] [0] (gh_open (PoolO (nthT f_r_cs node).rp ((nthS fc.cs (2 * node)).pool))) fun ⟨a_l1, c_l2⟩ => ?_
     refine bindG H fun y3_10 hy3_10 H => ?_
     refine xc [] [0] [0] (poroomF (nthT f_r_cs node).rp a_l1 c_l2 hy3_10) fun _ => ?_
     refine xg [] [0] [0] (gh_shut (PoolO (nthT f_r_cs node).rp ((nthS fc.cs (2 * node)).pool)) (a_l1, c_l2)) fun _ => ?_
     refine xg [] [] [0,0,0] (gh_sunfs fc.cs (asks f_r_cs) (2 * node) (⟨(nthT f_r_cs node).rp, (nthT f_r_cs node).rq⟩) (asks_req (rngE (asks_half hl3_5_1) q3_5_1)) (rng_req hl3_10_1 (rngE (asks_half hl3_5_1) q3_5_1))) fun _ => ?_
     exact xrY (someE H) [] [] [0] [2,0] ()
   · intro H
     refine xq [] (psort_f (nthT f_r_cs node)) ?_
     refine xk [] [2] (st_len fc.cs (asks f_r_cs)) fun hl3_10_2 => ?_
     refine xg [] [] [2] (gh_sfoc fc.cs (asks f_r_cs) (2 * node + 1) (⟨(nthT f_r_cs node).ap, (nthT f_r_cs node).aq⟩) (asks_ans (rngE (asks_half hl3_5_1) q3_5_1)) (rng_ans hl3_10_2 (rngE (asks_half hl3_5_1) q3_5_1))) fun _ => ?_
     refine xg [] [] [0] (gh_open (PoolO (nthT f_r_cs node).ap ((nthS fc.cs (2 * node + 1)).pool))) fun ⟨a_l3, c_l4⟩ => ?_
     refine bindG H fun y3_10 hy3_10 H => ?_
     refine xc [] [0] [0] (poroomF (nthT f_r_cs node).ap a_l3 c_l4 hy3_10) fun _ => ?_
     refine xg [] [0] [0] (gh_shut (PoolO (nthT f_r_cs node).ap ((nthS fc.cs (2 * node + 1)).pool)) (a_l3, c_l4)) fun _ => ?_
     refine xg [] [] [0,0,0] (gh_sunfs fc.cs (asks f_r_cs) (2 * node + 1) (⟨(nthT f_r_cs node).ap, (nthT f_r_cs node).aq⟩) (asks_ans (rngE (asks_half hl3_5_1) q3_5_1)) (rng_ans hl3_10_2 (rngE (asks_half hl3_5_1) q3_5_1))) fun _ => ?_
     exact xrY (someE H) [] [] [0] [2,0] ()
def fsendS_j1 (e1_f : FabS) (y3_14 : Int × BoxS) : Option (Int × FabS) :=
 some (y3_14.1, e1_f)
def fsendS_j0 (fc : FabS) (p : PktS) (e0_21 : Bool) : Option (Int × FabS) :=
 (bif e0_21 then some ((1 : Int), fc) else chk (0 ≤ p.src ∧ p.src < ((((List.length fc.cs) / 2) : Nat) : Int)) ((preqS p.kind).bind fun y3_10 => (bif y3_10 then (poputS ((nthS fc.cs (2 * p.src)).pool) p).bind fun y3_14 => fsendS_j1 ({ cs := (setS fc.cs (2 * p.src) (⟨y3_14.2, (nthS fc.cs (2 * p.src)).queue⟩ : ChanS)) } : FabS) y3_14 else (poputS ((nthS fc.cs (2 * p.src + 1)).pool) p).bind fun y3_14 => fsendS_j1 ({ cs := (setS fc.cs (2 * p.src + 1) (⟨y3_14.2, (nthS fc.cs (2 * p.src + 1)).queue⟩ : ChanS)) } : FabS) y3_14)))
def fsendS (fc : FabS) (p : PktS) : Option (Int × FabS) :=
 (pchkS p).bind fun y1_1 => (bif !(decide (y1_1 = (0 : Int))) then (fsendS_j0 fc p) true else (fisS fc p.src).bind fun y1_7 => (bif !y1_7 then (fsendS_j0 fc p) true else (fisS fc p.dst).bind fun y1_14 => (fsendS_j0 fc p) !y1_14))
set_option maxRecDepth 100000 in
set_option maxHeartbeats 4000000 in
theorem fsendF {fc : FabS} {p : PktS} {p0A : Asn} (f : Nat) (p0a : Option Addr) (p0c : Nat) (hp0A : Rdb p0A p0a p0c p.data) {y : Int × FabS} (H : fsendS fc p = some y) : FnY Tryz.prog 151 [.pointer (some ⟨f, 0, none⟩), .agg #[.int .i64 p.kind, .int .i64 p.src, .int .i64 p.dst, .int .i64 p.id, .int .i64 p.line, .int .i64 p.ptr, .int .i64 p.state, .bool p.flag, .slice p0a (List.length p.data) p0c]] ⟨[], [(FabA f fc), p0A]⟩ (Z := Unit) (fun y _ => .int .i64 y.1) (fun y _ => ⟨[], [(FabA f y.2), p0A]⟩) y := by
 unfold fsendS at H
 refine xfY Tryz.func151 fun W0 F => ?_
 refine xn [] fun b0_0 => ?_
 refine xj [101] (ι := Bool) (fun e0_21 => ⟨[(0, .pointer (some ⟨f, 0, none⟩)), (3, .pointer (some ⟨b0_0, 0, none⟩)), (21, .bool e0_21)], [⟨b0_0, #[.int .i64 p.kind, .int .i64 p.src, .int .i64 p.dst, .int .i64 p.id, .int .i64 p.line, .int .i64 p.ptr, .int .i64 p.state, .bool p.flag, .slice p0a (List.length p.data) p0c], 176⟩], [(FabA f fc), p0A]⟩) (fun e0_21 => fsendS_j0 fc p e0_21 = some y) ?_ ?_
 · rintro e0_21 H
   replace H : fsendS_j0 fc p e0_21 = some y := H
   rw [fsendS_j0] at H
   refine xs [] H ?_ ?_
   · intro H
     exact xrY (someE H) [1] [] [] [0,0] ()
   · intro H
     refine xj [0,100] (ι := FabS × (Int × BoxS)) (fun (e1_f, y3_14) => ⟨[(4, .int .i64 y3_14.1)], [], [(FabA f e1_f), p0A]⟩) (fun (e1_f, y3_14) => fsendS_j1 e1_f y3_14 = some y) ?_ ?_
     · rintro ⟨e1_f, y3_14⟩ H
       replace H : fsendS_j1 e1_f y3_14 = some y := H
       rw [fsendS_j1] at H
       exact xrY (someE H) [] [] [] [0,0] ()
     · intro N1 hN1
       refine xg [0,1,2,3] [] [0] (gh_open (FabO f fc)) fun ⟨a_cs1, c_cs2, r_cs3⟩ => ?_
       refine xk [0,4,5,1,6] [1] (st_len fc.cs (asks r_cs3)) fun hl3_6_1 => ?_
       refine chkG H fun q3_6_1 H => ?_
       refine xi [] 0 (rA a_cs1 c_cs2 r_cs3) (rngE (asks_half hl3_6_1) q3_6_1) fun b1 o1 e1 => ?_
       refine xpl [7] 0 (ol_ldN (rA a_cs1 c_cs2 r_cs3) e1 (rngE (asks_half hl3_6_1) q3_6_1) 0 4 (fun _ => rfl)) ?_
       refine bindG H fun y3_10 hy3_10 H => ?_
       refine xq [8,9,1,10] (preq_fq hy3_10) ?_
       refine xsd [11] 32 H ?_ ?_
       · intro H
         refine xq [] (psort_t (nthT r_cs3 p.src)) ?_
         refine xk [12,13,1,14] [1] (st_len fc.cs (asks r_cs3)) fun hl3_14_1 => ?_
         refine xg [] [] [1] (gh_sfoc fc.cs (asks r_cs3) (2 * p.src) (⟨(nthT r_cs3 p.src).rp, (nthT r_cs3 p.src).rq⟩) (asks_req (rngE (asks_half hl3_6_1) q3_6_1)) (rng_req hl3_14_1 (rngE (asks_half hl3_6_1) q3_6_1))) fun _ => ?_
         refine bindG H fun y3_14 hy3_14 H => ?_
         refine xc [] [] [0,3] (poputF (nthT r_cs3 p.src).rp p0a p0c hp0A hy3_14) fun _ => ?_
         refine xg [15] [] [0,1,1] (gh_sunf fc.cs (asks r_cs3) (2 * p.src) (⟨(nthT r_cs3 p.src).rp, (nthT r_cs3 p.src).rq⟩) (⟨y3_14.2, (nthS fc.cs (2 * p.src)).queue⟩ : ChanS) (asks_req (rngE (asks_half hl3_6_1) q3_6_1)) (rng_req hl3_14_1 (rngE (asks_half hl3_6_1) q3_6_1)) rfl) fun _ => ?_
         refine xg [] [0] [2,0] (gh_shut (FabO f ({ cs := (setS fc.cs (2 * p.src) (⟨y3_14.2, (nthS fc.cs (2 * p.src)).queue⟩ : ChanS)) } : FabS)) (a_cs1, c_cs2, r_cs3)) fun _ => ?_
         exact xe [] _ [] [0,0] (hN1 (({ cs := (setS fc.cs (2 * p.src) (⟨y3_14.2, (nthS fc.cs (2 * p.src)).queue⟩ : ChanS)) } : FabS), y3_14) H)
       · intro H
         refine xq [] (psort_f (nthT r_cs3 p.src)) ?_
         refine xk [12,13,1,14] [1] (st_len fc.cs (asks r_cs3)) fun hl3_14_2 => ?_
         refine xg [] [] [1] (gh_sfoc fc.cs (asks r_cs3) (2 * p.src + 1) (⟨(nthT r_cs3 p.src).ap, (nthT r_cs3 p.src).aq⟩) (asks_ans (rngE (asks_half hl3_6_1) q3_6_1)) (rng_ans hl3_14_2 (rngE (asks_half hl3_6_1) q3_6_1))) fun _ => ?_
         refine bindG H fun y3_14 hy3_14 H => ?_
         refine xc [] [] [0,3] (poputF (nthT r_cs3 p.src).ap p0a p0c hp0A hy3_14) fun _ => ?_
         refine xg [15] [] [0,1,1] (gh_sunf fc.cs (asks r_cs3) (2 * p.src + 1) (⟨(nthT r_cs3 p.src).ap, (nthT r_cs3 p.src).aq⟩) (⟨y3_14.2, (nthS fc.cs (2 * p.src + 1)).queue⟩ : ChanS) (asks_ans (rngE (asks_half hl3_6_1) q3_6_1)) (rng_ans hl3_14_2 (rngE (asks_half hl3_6_1) q3_6_1)) rfl) fun _ => ?_
         refine xg [] [0] [2,0] (gh_shut (FabO f ({ cs := (setS fc.cs (2 * p.src + 1) (⟨y3_14.2, (nthS fc.cs (2 * p.src + 1)).queue⟩ : ChanS)) } : FabS)) (a_cs1, c_cs2, r_cs3)) fun _ => ?_
         exact xe [] _ [] [0,0] (hN1 (({ cs := (setS fc.cs (2 * p.src + 1) (⟨y3_14.2, (nthS fc.cs (2 * p.src + 1)).queue⟩ : ChanS)) } : FabS), y3_14) H)
 · intro N0 hN0
   refine bindG H fun y1_1 hy1_1 H => ?_
   refine xc [0] [] [] (pchkF p0a p0c hy1_1) fun _ => ?_
   refine xs [] H ?_ ?_
   · intro H
     exact xe [0,0,0,0,0,1,0,0,0,0,0,1] _ [0] [0,0] (hN0 (true) H)
   · intro H
     refine xg [1,1,1,0,1] [] [0] (gh_open (FabO f fc)) fun ⟨a_cs4, c_cs5, r_cs6⟩ => ?_
     refine bindG H fun y1_7 hy1_7 H => ?_
     refine xc [1] [0] [0,0] (fisF f a_cs4 c_cs5 r_cs6 hy1_7) fun _ => ?_
     refine xs [1,0] H ?_ ?_
     · intro H
       refine xg [0,0,0,0,0,1] [0] [0,0] (gh_shut (FabO f fc) (a_cs4, c_cs5, r_cs6)) fun _ => ?_
       exact xe [] _ [0] [0,0] (hN0 (true) H)
     · intro H
       refine bindG H fun y1_14 hy1_14 H => ?_
       refine xc [1,1,1,1,1] [0] [0,0] (fisF f a_cs4 c_cs5 r_cs6 hy1_14) fun _ => ?_
       refine xg [1,0] [0] [0,0] (gh_shut (FabO f fc) (a_cs4, c_cs5, r_cs6)) fun _ => ?_
       exact xe [] _ [0] [0,0] (hN0 (!y1_14) H)
def ftakeS (fc : FabS) (node : Int) (request : Bool) : Option (PktS × Bool × FabS) :=
 (fisS fc node).bind fun y1_2 => (bif !y1_2 then some ((⟨(0 : Int), (0 : Int), (0 : Int), (0 : Int), (0 : Int), (0 : Int), (0 : Int), false, ([] : List Int)⟩ : PktS), false, fc) else chk (0 ≤ node ∧ node < ((((List.length fc.cs) / 2) : Nat) : Int)) ((bif request then (qutakeS ((nthS fc.cs (2 * node)).queue)).bind fun y3_10 => some (y3_10.1, y3_10.2.1, ({ cs := (setS fc.cs (2 * node) (⟨(nthS fc.cs (2 * node)).pool, y3_10.2.2⟩ : ChanS)) } : FabS)) else (qutakeS ((nthS fc.cs (2 * node + 1)).queue)).bind fun y3_10 => some (y3_10.1, y3_10.2.1, ({ cs := (setS fc.cs (2 * node + 1) (⟨(nthS fc.cs (2 * node + 1)).pool, y3_10.2.2⟩ : ChanS)) } : FabS)))))
set_option maxRecDepth 100000 in
set_option maxHeartbeats 4000000 in
theorem ftakeF {fc : FabS} {node : Int} {request : Bool} (f : Nat) {y : PktS × Bool × FabS} (H : ftakeS fc node request = some y) : FnY Tryz.prog 186 [.pointer (some ⟨f, 0, none⟩), .int .i64 node, .bool request] ⟨[], [(FabA f fc)]⟩ (Z := Option Addr × Nat) (fun y (za0, zc0) => .tuple #[.agg #[.int .i64 y.1.kind, .int .i64 y.1.src, .int .i64 y.1.dst, .int .i64 y.1.id, .int .i64 y.1.line, .int .i64 y.1.ptr, .int .i64 y.1.state, .bool y.1.flag, .slice za0 (List.length y.1.data) zc0], .bool y.2.1]) (fun y (za0, zc0) => ⟨[], [(ArrA za0 zc0 y.1.data), (FabA f y.2.2)]⟩) y := by
 unfold ftakeS at H
 refine xfY Tryz.func186 fun W0 F => ?_
 refine xn [] fun b0_0 => ?_
 refine xg [] [] [0] (gh_open (FabO f fc)) fun ⟨a_cs1, c_cs2, r_cs3⟩ => ?_
 refine bindG H fun y1_2 hy1_2 H => ?_
 refine xc [] [0] [0,0] (fisF f a_cs1 c_cs2 r_cs3 hy1_2) fun _ => ?_
 refine xs [] H ?_ ?_
 · intro H
   refine xg [1,1] [] [] (gh_nil (α := Int) none) fun _ => ?_
   refine xg [] [0] [1,1] (gh_shut (FabO f fc) (a_cs1, c_cs2, r_cs3)) fun _ => ?_
   exact xrY (someE H) [] [0] [] [1,0] (none, 0)
 · intro H
   refine xk [0,0] [1] (st_len fc.cs (asks r_cs3)) fun hl3_5_1 => ?_
   refine chkG H fun q3_5_1 H => ?_
   refine xi [] 0 (rA a_cs1 c_cs2 r_cs3) (rngE (asks_half hl3_5_1) q3_5_1) fun b1 o1 e1 => ?_
   refine xo [] [] [0] (oc_ldN (rA a_cs1 c_cs2 r_cs3) e1 (rngE (asks_half hl3_5_1) q3_5_1) rfl 0 4) fun _ => ?_
   refine xsd [] 20 H ?_ ?_
   · intro H
     refine xq [] (psort_t (nthT r_cs3 node)) ?_
     refine xk [] [2] (st_len fc.cs (asks r_cs3)) fun hl3_10_1 => ?_
     refine xg [] [] [2] (gh_sfoc fc.cs (asks r_cs3) (2 * node) (⟨(nthT r_cs3 node).rp, (nthT r_cs3 node).rq⟩) (asks_req (rngE (asks_half hl3_5_1) q3_5_1)) (rng_req hl3_10_1 (rngE (asks_half hl3_5_1) q3_5_1))) fun _ => ?_
     refine bindG H fun y3_10 hy3_10 H => ?_
     refine xc [] [] [1] (qutakeF (nthT r_cs3 node).rq hy3_10) fun ⟨t3_10_a0, t3_10_c0⟩ => ?_
     refine xg [1] [] [2,1,1] (gh_sunf fc.cs (asks r_cs3) (2 * node) (⟨(nthT r_cs3 node).rp, (nthT r_cs3 node).rq⟩) (⟨(nthS fc.cs (2 * node)).pool, y3_10.2.2⟩ : ChanS) (asks_req (rngE (asks_half hl3_5_1) q3_5_1)) (rng_req hl3_10_1 (rngE (asks_half hl3_5_1) q3_5_1)) rfl) fun _ => ?_
     refine xg [] [0] [3,0] (gh_shut (FabO f ({ cs := (setS fc.cs (2 * node) (⟨(nthS fc.cs (2 * node)).pool, y3_10.2.2⟩ : ChanS)) } : FabS)) (a_cs1, c_cs2, r_cs3)) fun _ => ?_
     exact xrY (someE H) [] [0] [] [1,0] (t3_10_a0, t3_10_c0)
   · intro H
     refine xq [] (psort_f (nthT r_cs3 node)) ?_
     refine xk [] [2] (st_len fc.cs (asks r_cs3)) fun hl3_10_2 => ?_
     refine xg [] [] [2] (gh_sfoc fc.cs (asks r_cs3) (2 * node + 1) (⟨(nthT r_cs3 node).ap, (nthT r_cs3 node).aq⟩) (asks_ans (rngE (asks_half hl3_5_1) q3_5_1)) (rng_ans hl3_10_2 (rngE (asks_half hl3_5_1) q3_5_1))) fun _ => ?_
     refine bindG H fun y3_10 hy3_10 H => ?_
     refine xc [] [] [1] (qutakeF (nthT r_cs3 node).aq hy3_10) fun ⟨t3_10_a0, t3_10_c0⟩ => ?_
     refine xg [1] [] [2,1,1] (gh_sunf fc.cs (asks r_cs3) (2 * node + 1) (⟨(nthT r_cs3 node).ap, (nthT r_cs3 node).aq⟩) (⟨(nthS fc.cs (2 * node + 1)).pool, y3_10.2.2⟩ : ChanS) (asks_ans (rngE (asks_half hl3_5_1) q3_5_1)) (rng_ans hl3_10_2 (rngE (asks_half hl3_5_1) q3_5_1)) rfl) fun _ => ?_
     refine xg [] [0] [3,0] (gh_shut (FabO f ({ cs := (setS fc.cs (2 * node + 1) (⟨(nthS fc.cs (2 * node + 1)).pool, y3_10.2.2⟩ : ChanS)) } : FabS)) (a_cs1, c_cs2, r_cs3)) fun _ => ?_
     exact xrY (someE H) [] [0] [] [1,0] (t3_10_a0, t3_10_c0)
def freqS (fc : FabS) (node : Int) : Option (PktS × Bool × FabS) :=
 (ftakeS fc node true).bind fun y1_2 => some (y1_2.1, y1_2.2.1, y1_2.2.2)
set_option maxRecDepth 100000 in
set_option maxHeartbeats 4000000 in
theorem freqF {fc : FabS} {node : Int} (f : Nat) {y : PktS × Bool × FabS} (H : freqS fc node = some y) : FnY Tryz.prog 152 [.pointer (some ⟨f, 0, none⟩), .int .i64 node] ⟨[], [(FabA f fc)]⟩ (Z := Option Addr × Nat) (fun y (za0, zc0) => .tuple #[.agg #[.int .i64 y.1.kind, .int .i64 y.1.src, .int .i64 y.1.dst, .int .i64 y.1.id, .int .i64 y.1.line, .int .i64 y.1.ptr, .int .i64 y.1.state, .bool y.1.flag, .slice za0 (List.length y.1.data) zc0], .bool y.2.1]) (fun y (za0, zc0) => ⟨[], [(ArrA za0 zc0 y.1.data), (FabA f y.2.2)]⟩) y := by
 unfold freqS at H
 refine xfY Tryz.func152 fun W0 F => ?_
 refine xn [] fun b0_0 => ?_
 refine bindG H fun y1_2 hy1_2 H => ?_
 refine xc [] [] [0] (ftakeF f hy1_2) fun ⟨t1_2_a0, t1_2_c0⟩ => ?_
 exact xrY (someE H) [0] [0] [] [0,0] (t1_2_a0, t1_2_c0)
def frepS (fc : FabS) (node : Int) : Option (PktS × Bool × FabS) :=
 (ftakeS fc node false).bind fun y1_2 => some (y1_2.1, y1_2.2.1, y1_2.2.2)
set_option maxRecDepth 100000 in
set_option maxHeartbeats 4000000 in
theorem frepF {fc : FabS} {node : Int} (f : Nat) {y : PktS × Bool × FabS} (H : frepS fc node = some y) : FnY Tryz.prog 142 [.pointer (some ⟨f, 0, none⟩), .int .i64 node] ⟨[], [(FabA f fc)]⟩ (Z := Option Addr × Nat) (fun y (za0, zc0) => .tuple #[.agg #[.int .i64 y.1.kind, .int .i64 y.1.src, .int .i64 y.1.dst, .int .i64 y.1.id, .int .i64 y.1.line, .int .i64 y.1.ptr, .int .i64 y.1.state, .bool y.1.flag, .slice za0 (List.length y.1.data) zc0], .bool y.2.1]) (fun y (za0, zc0) => ⟨[], [(ArrA za0 zc0 y.1.data), (FabA f y.2.2)]⟩) y := by
 unfold frepS at H
 refine xfY Tryz.func142 fun W0 F => ?_
 refine xn [] fun b0_0 => ?_
 refine bindG H fun y1_2 hy1_2 H => ?_
 refine xc [] [] [0] (ftakeF f hy1_2) fun ⟨t1_2_a0, t1_2_c0⟩ => ?_
 exact xrY (someE H) [0] [0] [] [0,0] (t1_2_a0, t1_2_c0)
def funderS_j0 (e0_3 : Int) : Option (Int) :=
 some e0_3
def funderS_l1 (fc : FabS) (k0 : Int → Option (Int)) : Nat → Int → Int → Option (Int)
 | 0, _, _ => none
 | m + 1, v1_3, v1_9 => (bif decide (v1_9 < (((List.length fc.cs) : Nat) : Int)) then chk (0 ≤ v1_9 ∧ v1_9 < (((List.length fc.cs) : Nat) : Int)) ((polenS ((nthS fc.cs v1_9).pool)).bind fun y5_3 => chk (inR (v1_9 + (1 : Int))) ((funderS_l1 fc k0 m) (wr (v1_3 + y5_3)) (v1_9 + (1 : Int)))) else k0 v1_3)
def funderS (fc : FabS) : Option (Int) :=
 chk ((List.length fc.cs) ≤ 1099511627776) (funderS_l1 fc funderS_j0 (List.length fc.cs + 1) (0 : Int) (0 : Int))
set_option maxRecDepth 100000 in
set_option maxHeartbeats 4000000 in
theorem funderF {fc : FabS} (f : Nat) (f_a_cs : Option Addr) (f_c_cs : Nat) (f_r_cs : List PortR) {y : Int} (H : funderS fc = some y) : FnY Tryz.prog 23 [.pointer (some ⟨f, 0, none⟩)] ⟨[⟨f, #[.slice f_a_cs (List.length f_r_cs) f_c_cs], 137⟩], [(ArrA f_a_cs f_c_cs f_r_cs), (StA fc.cs (asks f_r_cs))]⟩ (Z := Unit) (fun y _ => .int .i64 y) (fun y _ => ⟨[⟨f, #[.slice f_a_cs (List.length f_r_cs) f_c_cs], 137⟩], [(ArrA f_a_cs f_c_cs f_r_cs), (StA fc.cs (asks f_r_cs))]⟩) y := by
 unfold funderS at H
 refine xfY Tryz.func23 fun W0 F => ?_
 refine xj [102] (ι := Int) (fun e0_3 => ⟨[(3, .int .i64 e0_3)], [⟨f, #[.slice f_a_cs (List.length f_r_cs) f_c_cs], 137⟩], [(ArrA f_a_cs f_c_cs f_r_cs), (StA fc.cs (asks f_r_cs))]⟩) (fun e0_3 => funderS_j0 e0_3 = some y) ?_ ?_
 · rintro e0_3 H
   replace H : funderS_j0 e0_3 = some y := H
   rw [funderS_j0] at H
   exact xrY (someE H) [] [] [0] [0,0] ()
 · intro N0 hN0
   refine xk [] [1] (st_len fc.cs (asks f_r_cs)) fun hl2_1_1 => ?_
   refine chkG H fun q2_1_1 H => ?_
   refine xc [] [0] [0] (poolsG f f_a_cs f_c_cs f_r_cs hl2_1_1 q2_1_1) fun ⟨t2_1_a, t2_1_c⟩ => ?_
   refine xk [] [2] (st_len fc.cs (asks f_r_cs)) fun hl2_2_1 => ?_
   refine xw [300] 8 (congrArg (fun n : Nat => Value.int .i64 ((n : Nat) : Int)) hl2_2_1) ?_
   refine xl [] (ι := Int × Int) (fun (v1_3, v1_9) => ⟨[(3, .int .i64 v1_3), (7, .slice t2_1_a (List.length (asks f_r_cs)) t2_1_c), (8, .int .i64 (((List.length fc.cs) : Nat) : Int)), (9, .int .i64 v1_9)], [⟨f, #[.slice f_a_cs (List.length f_r_cs) f_c_cs], 137⟩], [(ArrA t2_1_a t2_1_c (asks f_r_cs)), (ArrA f_a_cs f_c_cs f_r_cs), (StA fc.cs (asks f_r_cs))]⟩) (fun m1 (v1_3, v1_9) => funderS_l1 fc (funderS_j0) m1 v1_3 v1_9 = some y) [0] [0,0,0] ((List.length fc.cs + 1)) ((0 : Int), (0 : Int)) H ?_
   rintro N1 (_ | m1) ⟨v1_3, v1_9⟩ H hN1
   · exact (noneE H).elim
   replace H : funderS_l1 fc (funderS_j0) (m1 + 1) v1_3 v1_9 = some y := H
   rw [funderS_l1] at H
   refine xs [] H ?_ ?_
   · intro H
     refine xk [1] [2] (st_len fc.cs (asks f_r_cs)) fun hl4_0_1 => ?_
     refine chkG H fun q4_0_1 H => ?_
     refine xi [] 0 (rA t2_1_a t2_1_c (asks f_r_cs)) (rngE hl4_0_1 q4_0_1) fun b1 o1 e1 => ?_
     refine xo [] [] [0] (oc_ldN (rA t2_1_a t2_1_c (asks f_r_cs)) e1 (rngE hl4_0_1 q4_0_1) rfl 0 2) fun _ => ?_
     refine xn [] fun b4_2 => ?_
     refine xk [0,0] [3] (st_len fc.cs (asks f_r_cs)) fun hl5_3_1 => ?_
     refine xg [] [] [3] (gh_sfoc fc.cs (asks f_r_cs) v1_9 (nthT (asks f_r_cs) v1_9) rfl (rngB hl5_3_1 (rngE hl4_0_1 q4_0_1))) fun _ => ?_
     refine xg [] [] [0] (gh_open (PoolO (nthT (asks f_r_cs) v1_9).p ((nthS fc.cs v1_9).pool))) fun ⟨a_l1, c_l2⟩ => ?_
     refine bindG H fun y5_3 hy5_3 H => ?_
     refine xc [] [0] [0] (polenF (nthT (asks f_r_cs) v1_9).p a_l1 c_l2 hy5_3) fun _ => ?_
     refine chkG H fun q6_0_1 H => ?_
     refine xd [1,0] (ap q6_0_1 an) ?_
     refine xg [] [0] [0] (gh_shut (PoolO (nthT (asks f_r_cs) v1_9).p ((nthS fc.cs v1_9).pool)) (a_l1, c_l2)) fun _ => ?_
     refine xg [] [] [0,0,0] (gh_sunfs fc.cs (asks f_r_cs) v1_9 (nthT (asks f_r_cs) v1_9) rfl (rngB hl5_3_1 (rngE hl4_0_1 q4_0_1))) fun _ => ?_
     exact xe [] _ [1] [2,2,0] (hN1 _ (wr (v1_3 + y5_3), v1_9 + (1 : Int)) (Nat.lt_succ_self _) H)
   · intro H
     exact xe [0] _ [0] [1,1] (hN0 (v1_3) H)
end Go.Proofs.YtcidmgkfaioceaaGreat
