/- Walks of the program's functions, and the plain laws of what they compute (part 8): Wak, Tig, TPass, PPass, InX.
   Conditions: none. -/
import Derived.OpenShut
import Derived.ChangeArms
import Derived.ChangeSlices
import Derived.Test.YtcidmgkfaioceaaGreatMPass7
set_option linter.unusedVariables false
set_option linter.unusedSimpArgs false
set_option linter.unusedSectionVars false
namespace Go.Proofs.YtcidmgkfaioceaaGreat
open Go Go.RowKit
set_option linter.unusedVariables false
def twakesS : Option (Bool) :=
 (mnewmS (⟨(2 : Int), (1 : Int), (1 : Int), (1 : Int), (1 : Int), (1 : Int), (1 : Int), ([] : List Int)⟩ : CfgS) ([[(⟨(2 : Int), (0 : Int), (5 : Int)⟩ : OpS)], [(⟨(1 : Int), (0 : Int), (0 : Int)⟩ : OpS), (⟨(1 : Int), (0 : Int), (0 : Int)⟩ : OpS)]])).bind fun y3_4 => (bif decide (y3_4.2 = (0 : Int)) then (optM y3_4.1 (fun n4_3_1 => (rboundS (⟨(2 : Int), (1 : Int), (1 : Int), (1 : Int), (1 : Int), (1 : Int), (1 : Int), ([] : List Int)⟩ : CfgS) ([[(⟨(2 : Int), (0 : Int), (5 : Int)⟩ : OpS)], [(⟨(1 : Int), (0 : Int), (0 : Int)⟩ : OpS), (⟨(1 : Int), (0 : Int), (0 : Int)⟩ : OpS)]])).bind fun y4_12 => (rfinS n4_3_1 y4_12 ([] : List Int)).bind fun y4_13 => (bif decide ((0 : Int) < y4_13.1) then (mleftS y4_13.2).bind fun y4_18 => (bif decide (y4_18 = (0 : Int)) then (mnodeS y4_13.2 (1 : Int)).bind fun y4_23 => (optM y4_23 (fun k4_23 => (mnodeS y4_13.2 (1 : Int)).bind fun y4_28 => (optM y4_28 (fun k4_28 => chk (0 ≤ k4_28 ∧ k4_28 < ((List.length y4_13.2.nodes : Nat) : Int)) ((prvalS ((nthS y4_13.2.nodes k4_28).proc)).bind fun y4_32 => (bif decide ((((List.length y4_32) : Nat) : Int) = (2 : Int)) then (wsndS y4_13.2 ([[(⟨(2 : Int), (0 : Int), (5 : Int)⟩ : OpS)], [(⟨(1 : Int), (0 : Int), (0 : Int)⟩ : OpS), (⟨(1 : Int), (0 : Int), (0 : Int)⟩ : OpS)]])).bind fun y4_41 => some y4_41 else some false))) (none))) (some false)) else some false) else some false)) (some false)) else some false)
set_option maxRecDepth 100000 in
set_option maxHeartbeats 4000000 in
theorem twakesF {y : Bool} (H : twakesS = some y) : FnY Tryz.prog 19 [] ⟨[], []⟩ (Z := Unit) (fun y _ => .bool y) (fun y _ => ⟨[], []⟩) y := by
 unfold twakesS at H
 refine xfY Tryz.func19 fun W0 F => ?_
 refine xn [] fun b1_1 => ?_
 refine xn [0] fun b2_1 => ?_
 refine xn [] fun b2_4 => ?_
 refine xn [2] fun b3_3 => ?_
 refine xg [] [] [] (gh_nil (α := Int) none) fun _ => ?_
 refine xg [] [] [] (gh_nilI (α := Int) none 0) fun _ => ?_
 refine xg [] [2] [2] (gh_one b2_1 29 (⟨(2 : Int), (0 : Int), (5 : Int)⟩ : OpS) ()) fun _ => ?_
 refine xg [] [] [0] (gh_frz (some ⟨b2_1, 0, none⟩) 1 ([(⟨(2 : Int), (0 : Int), (5 : Int)⟩ : OpS)])) fun _ => ?_
 refine xg [] [] [0] (gh_dup (some ⟨b2_1, 0, none⟩) 1 ([(⟨(2 : Int), (0 : Int), (5 : Int)⟩ : OpS)])) fun _ => ?_
 refine xg [] [1] [] (gh_own b2_4 29 2 ([(⟨(1 : Int), (0 : Int), (0 : Int)⟩ : OpS), (⟨(1 : Int), (0 : Int), (0 : Int)⟩ : OpS)] : List OpS) [(), ()] (fun _ _ _ _ _ _ _ => trivial)) fun _ => ?_
 refine xg [] [] [0] (gh_frz (some ⟨b2_4, 0, none⟩) 2 ([(⟨(1 : Int), (0 : Int), (0 : Int)⟩ : OpS), (⟨(1 : Int), (0 : Int), (0 : Int)⟩ : OpS)])) fun _ => ?_
 refine xg [] [] [0] (gh_dup (some ⟨b2_4, 0, none⟩) 2 ([(⟨(1 : Int), (0 : Int), (0 : Int)⟩ : OpS), (⟨(1 : Int), (0 : Int), (0 : Int)⟩ : OpS)])) fun _ => ?_
 refine xg [] [0] [2,0] (gh_rows b3_3 30 2 ([[(⟨(2 : Int), (0 : Int), (5 : Int)⟩ : OpS)], [(⟨(1 : Int), (0 : Int), (0 : Int)⟩ : OpS), (⟨(1 : Int), (0 : Int), (0 : Int)⟩ : OpS)]] : List (List OpS)) [(some ⟨b2_1, 0, none⟩, 1), (some ⟨b2_4, 0, none⟩, 2)]) fun _ => ?_
 refine bindG H fun y3_4 hy3_4 H => ?_
 refine xc [] [] [3,0] (mnewmF none 0 (some ⟨b3_3, 0, none⟩) 2 (rA (some ⟨b3_3, 0, none⟩) 2 ([[(⟨(2 : Int), (0 : Int), (5 : Int)⟩ : OpS)], [(⟨(1 : Int), (0 : Int), (0 : Int)⟩ : OpS), (⟨(1 : Int), (0 : Int), (0 : Int)⟩ : OpS)]])) hy3_4) fun t3_4_b0 => ?_
 refine xs [] H ?_ ?_
 · intro H
   refine optG H (fun hn4_3_1 H => ?_) fun n4_3_1 hn4_3_1 H => ?_
   · refine xw [1,300] 4 (optV_n t3_4_b0 hn4_3_1) ?_
     refine xw [300] 23 (optV_n t3_4_b0 hn4_3_1) ?_
     exact xrY (someE H) [1,1,0,0,0,0,0,0,0,0,0,0,0,0,0,0,0,0,0,0,0,0,0,0,0,0,0,0,0,0,0,0,0,0] [] [] [] ()
   · refine xw [1,300] 4 (optV_s t3_4_b0 hn4_3_1) ?_
     refine xw [300] 23 (optV_s t3_4_b0 hn4_3_1) ?_
     refine xg [300] [] [0] (gh_opt (A := MachA t3_4_b0) hn4_3_1) fun _ => ?_
     refine xn [1,1,1,1,0,1,1,1] fun b4_11 => ?_
     refine xg [1] [] [3] (gh_dup (some ⟨b2_1, 0, none⟩) 1 ([(⟨(2 : Int), (0 : Int), (5 : Int)⟩ : OpS)])) fun _ => ?_
     refine xg [] [] [4] (gh_dup (some ⟨b2_4, 0, none⟩) 2 ([(⟨(1 : Int), (0 : Int), (0 : Int)⟩ : OpS), (⟨(1 : Int), (0 : Int), (0 : Int)⟩ : OpS)])) fun _ => ?_
     refine xg [] [0] [2,0] (gh_rows b4_11 30 2 ([[(⟨(2 : Int), (0 : Int), (5 : Int)⟩ : OpS)], [(⟨(1 : Int), (0 : Int), (0 : Int)⟩ : OpS), (⟨(1 : Int), (0 : Int), (0 : Int)⟩ : OpS)]] : List (List OpS)) [(some ⟨b2_1, 0, none⟩, 1), (some ⟨b2_4, 0, none⟩, 2)]) fun _ => ?_
     refine bindG H fun y4_12 hy4_12 H => ?_
     refine xc [] [] [0] (rboundF none 0 (some ⟨b4_11, 0, none⟩) 2 (rA (some ⟨b4_11, 0, none⟩) 2 ([[(⟨(2 : Int), (0 : Int), (5 : Int)⟩ : OpS)], [(⟨(1 : Int), (0 : Int), (0 : Int)⟩ : OpS), (⟨(1 : Int), (0 : Int), (0 : Int)⟩ : OpS)]])) hy4_12) fun _ => ?_
     refine xg [1] [] [] (gh_nil (α := Int) none) fun _ => ?_
     refine bindG H fun y4_13 hy4_13 H => ?_
     refine xc [] [] [4,0] (rfinF t3_4_b0 none 0 (rA none 0 ([] : List Int)) hy4_13) fun _ => ?_
     refine xs [1,1] H ?_ ?_
     · intro H
       refine xg [1,1] [] [0] (gh_open (MachO t3_4_b0 y4_13.2)) fun ⟨b_fab2, b_trace3, a_c_init4, c_c_init5, a_nodes6, c_nodes7, r_nodes8⟩ => ?_
       refine bindG H fun y4_18 hy4_18 H => ?_
       refine xc [1] [0] [0,0,0,0,0] (mleftF t3_4_b0 b_fab2 b_trace3 a_c_init4 c_c_init5 a_nodes6 c_nodes7 r_nodes8 hy4_18) fun _ => ?_
       refine xs [1,1] H ?_ ?_
       · intro H
         refine bindG H fun y4_23 hy4_23 H => ?_
         refine xc [1,1] [0] [0,0,0,0,0] (mnodeF t3_4_b0 b_fab2 b_trace3 a_c_init4 c_c_init5 a_nodes6 c_nodes7 r_nodes8 hy4_23) fun _ => ?_
         refine optG H (fun hk4_23 H => ?_) fun k4_23 hk4_23 H => ?_
         · refine xw [300] 43 (v := (nodeV r_nodes8 y4_23)) (v' := .pointer none) (by rw [hk4_23]; rfl) ?_
           exact xrY (someE H) [1,1,0,0,0,0,0,0,0,0,0,0,0,0,0,0,0] [] [] [] ()
         · refine xw [300] 43 (v := (nodeV r_nodes8 y4_23)) (v' := .pointer (some ⟨(nthT r_nodes8 k4_23).b, 0, none⟩)) (by rw [hk4_23]; rfl) ?_
           refine bindG H fun y4_28 hy4_28 H => ?_
           refine xc [1,1,1,1] [0] [0,0,0,0,0] (mnodeF t3_4_b0 b_fab2 b_trace3 a_c_init4 c_c_init5 a_nodes6 c_nodes7 r_nodes8 hy4_28) fun _ => ?_
           refine optG H (fun hk4_28 H => ?_) fun k4_28 hk4_28 H => ?_
           · refine xw [300] 48 (v := (nodeV r_nodes8 y4_28)) (v' := .pointer none) (by rw [hk4_28]; rfl) ?_
             exact (noneE H).elim
           · refine xw [300] 48 (v := (nodeV r_nodes8 y4_28)) (v' := .pointer (some ⟨(nthT r_nodes8 k4_28).b, 0, none⟩)) (by rw [hk4_28]; rfl) ?_
             refine xk [1,1,1] [4] (st_len y4_13.2.nodes r_nodes8) fun hl4_31_1 => ?_
             refine chkG H fun q4_31_1 H => ?_
             refine xg [] [] [4] (gh_sfoc y4_13.2.nodes r_nodes8 k4_28 (nthT r_nodes8 k4_28) rfl (rngB hl4_31_1 (rngE hl4_31_1 q4_31_1))) fun _ => ?_
             refine xg [1] [] [0] (gh_open (NodeO (nthT r_nodes8 k4_28).b (nthS y4_13.2.nodes k4_28))) fun ⟨b_cache9, b_proc10, a_c_init11, c_c_init12, b_home13, a_deal_data14, c_deal_data15⟩ => ?_
             refine xg [1,0,1] [] [1] (gh_open (ProcO b_proc10 ((nthS y4_13.2.nodes k4_28).proc))) fun ⟨a_ops16, c_ops17, a_values18, c_values19⟩ => ?_
             refine bindG H fun y4_32 hy4_32 H => ?_
             refine xc [1] [0] [0,0] (prvalF b_proc10 a_ops16 c_ops17 a_values18 c_values19 hy4_32) fun ⟨t4_32_a0, t4_32_c0⟩ => ?_
             refine xs [1,1,1] H ?_ ?_
             · intro H
               refine xn [1,1,1,1] fun b4_40 => ?_
               refine xg [1] [1] [1,1] (gh_shut (ProcO b_proc10 ((nthS y4_13.2.nodes k4_28).proc)) (a_ops16, c_ops17, a_values18, c_values19)) fun _ => ?_
               refine xg [] [1] [2,0,1,1,1] (gh_shut (NodeO (nthT r_nodes8 k4_28).b (nthS y4_13.2.nodes k4_28)) (b_cache9, b_proc10, a_c_init11, c_c_init12, b_home13, a_deal_data14, c_deal_data15)) fun _ => ?_
               refine xg [] [] [0,1] (gh_sunfs y4_13.2.nodes r_nodes8 k4_28 (nthT r_nodes8 k4_28) rfl (rngB hl4_31_1 (rngE hl4_31_1 q4_31_1))) fun _ => ?_
               refine xg [] [] [9] (gh_dup (some ⟨b2_1, 0, none⟩) 1 ([(⟨(2 : Int), (0 : Int), (5 : Int)⟩ : OpS)])) fun _ => ?_
               refine xg [] [] [10] (gh_dup (some ⟨b2_4, 0, none⟩) 2 ([(⟨(1 : Int), (0 : Int), (0 : Int)⟩ : OpS), (⟨(1 : Int), (0 : Int), (0 : Int)⟩ : OpS)])) fun _ => ?_
               refine xg [] [0] [2,0] (gh_rows b4_40 30 2 ([[(⟨(2 : Int), (0 : Int), (5 : Int)⟩ : OpS)], [(⟨(1 : Int), (0 : Int), (0 : Int)⟩ : OpS), (⟨(1 : Int), (0 : Int), (0 : Int)⟩ : OpS)]] : List (List OpS)) [(some ⟨b2_1, 0, none⟩, 1), (some ⟨b2_4, 0, none⟩, 2)]) fun _ => ?_
               refine bindG H fun y4_41 hy4_41 H => ?_
               refine xc [] [0] [5,5,5,5,3,0] (wsndF t3_4_b0 b_fab2 b_trace3 a_c_init4 c_c_init5 a_nodes6 c_nodes7 r_nodes8 (some ⟨b4_40, 0, none⟩) 2 (rA (some ⟨b4_40, 0, none⟩) 2 ([[(⟨(2 : Int), (0 : Int), (5 : Int)⟩ : OpS)], [(⟨(1 : Int), (0 : Int), (0 : Int)⟩ : OpS), (⟨(1 : Int), (0 : Int), (0 : Int)⟩ : OpS)]])) hy4_41) fun _ => ?_
               exact xrY (someE H) [1] [] [] [] ()
             · intro H
               refine xg [0,0,0,0,0,0] [0] [1,1] (gh_shut (ProcO b_proc10 ((nthS y4_13.2.nodes k4_28).proc)) (a_ops16, c_ops17, a_values18, c_values19)) fun _ => ?_
               refine xg [] [0] [2,0,1,1,1] (gh_shut (NodeO (nthT r_nodes8 k4_28).b (nthS y4_13.2.nodes k4_28)) (b_cache9, b_proc10, a_c_init11, c_c_init12, b_home13, a_deal_data14, c_deal_data15)) fun _ => ?_
               refine xg [] [] [0,1] (gh_sunfs y4_13.2.nodes r_nodes8 k4_28 (nthT r_nodes8 k4_28) rfl (rngB hl4_31_1 (rngE hl4_31_1 q4_31_1))) fun _ => ?_
               exact xrY (someE H) [] [] [] [] ()
       · intro H
         exact xrY (someE H) [0,0,0,0,0,0,0,0,0,0,0,0,0,0,0,0,0,0,0] [] [] [] ()
     · intro H
       exact xrY (someE H) [0,0,0,0,0,0,0,0,0,0,0,0,0,0,0,0,0,0,0,0,0,0,0] [] [] [] ()
 · intro H
   exact xrY (someE H) [0,0,0,0,0,0,0,0,0,0,0,0,0,0,0,0,0,0,0,0,0,0,0,0,0,0,0,0,0,0,0,0,0,0,0] [] [] [] ()
end Go.Proofs.YtcidmgkfaioceaaGreat
namespace Go.Proofs.YtcidmgkfaioceaaGreat
open Go Go.RowKit
set_option linter.unusedVariables false
set_option linter.unusedSimpArgs false
def TL (α : Type) : Type := List α
instance rwTL {α : Type} [Rw α] : Rw (TL α) where
  X := Option Addr
  k := 1
  cells l x := [.slice x (List.length (show List α from l)) (List.length (show List α from l))]
  asn l x := ImmA x (List.length (show List α from l)) (show List α from l)
  d := ([] : List α)
  len _ _ := rfl
  one _ _ := rfl
  dup _ _ := imm_dup _ _ _
section
variable {α : Type} [Rw α]
def adl : List (List α) → List (Option Addr) → List (Option Addr × Nat)
  | l :: ls, x :: xs => (x, l.length) :: adl ls xs
  | _, _ => []
def rowsT : List (List α) → List (Option Addr) → List (List Value)
  | l :: ls, x :: xs => [.slice x l.length l.length] :: rowsT ls xs
  | _, _ => []
omit [Rw α] in
theorem adl_len : ∀ {l : List (List α)} {xs : List (Option Addr)}, xs.length = l.length → (adl l xs).length = l.length
  | [], [], _ => rfl
  | [], _ :: _, h => by simp at h
  | _ :: _, [], h => by simp at h
  | l :: ls, x :: xs, h => by simp only [adl, List.length_cons]; rw [adl_len (by simpa using h)]
theorem adl_rows : ∀ {l : List (List α)} {xs : List (Option Addr)}, rowsOf l (adl l xs) = rowsT l xs
  | [], xs => by cases xs <;> rfl
  | l :: ls, [] => rfl
  | l :: ls, x :: xs => by
    have ih := adl_rows (l := ls) (xs := xs)
    show [Value.slice x l.length l.length] :: rowsOf ls (adl ls xs) = [Value.slice x l.length l.length] :: rowsT ls xs
    rw [ih]
theorem tl_rows : ∀ {l : List (TL α)} {xs : List (Option Addr)}, rowsOf (α := TL α) l xs = rowsT (α := α) l xs
  | [], xs => by cases xs <;> rfl
  | l :: ls, [] => rfl
  | l :: ls, x :: xs => by
    have ih := tl_rows (l := ls) (xs := xs)
    show [Value.slice x (List.length (show List α from l)) (List.length (show List α from l))] :: rowsOf (α := TL α) ls xs = [Value.slice x (List.length (show List α from l)) (List.length (show List α from l))] :: rowsT (α := α) ls xs
    rw [ih]
theorem adl_knows {I : Nat → Prop} {h : Nat → Option Obj} : ∀ {l : List (List α)} {xs : List (Option Addr)}, (∀ (i : Nat) (a : List α) (x : Option Addr), l[i]? = some a → xs[i]? = some x → (ImmA x a.length a).holds (fun _ => False) I h) → Knows I h l (adl l xs)
  | [], xs, _ => fun i a x e => by simp at e
  | l :: ls, [], _ => fun i a x _ e => by simp [adl] at e
  | l :: ls, x :: xs, hk => fun i a y e1 e2 => by
    cases i with
    | zero =>
      simp only [adl, List.getElem?_cons_zero, Option.some.injEq] at e1 e2
      subst e1; subst e2
      exact hk 0 l x rfl rfl
    | succ i =>
      simp only [adl, List.getElem?_cons_succ] at e1 e2
      exact adl_knows (l := ls) (xs := xs) (fun j b z f1 f2 => hk (j + 1) b z (by simpa using f1) (by simpa using f2)) i a y e1 e2
theorem rdTL {A : Asn} {a : Option Addr} {cap : Nat} {l : List (TL α)} (hA : Rdb A a cap l) : Rdb (α := List α) A a cap l where
  rd := fun S I h ha => by
    obtain ⟨h0, xs, q1, p1, p2, p3⟩ := hA.rd S I h ha
    have e : rowsOf (α := List α) l (adl (α := α) l xs) = rowsOf (α := TL α) l xs := (adl_rows (α := α)).trans tl_rows.symm
    exact ⟨h0, adl (α := α) l xs, adl_len (α := α) q1, fun r hr => p1 r (e ▸ hr), e.symm ▸ p2, adl_knows (α := α) p3⟩
theorem gh_untl (a : Option Addr) (cap : Nat) (l : List (TL α)) : Gh ⟨[], [ArrA a cap l]⟩ fun _ : Unit => ⟨[], [ArrA (α := List α) a cap l]⟩ := by
  intro W0 Γ w hw
  refine ⟨(), ?_⟩
  obtain ⟨S, I, ⟨S1, S2, h1, h2, h3, ⟨xs, q1, q2, q3⟩, h5⟩, r⟩ := (show Sat W0 (ArrA a cap l :: Γ) w from hw)
  have e : rowsOf (α := List α) l (adl (α := α) l xs) = rowsOf (α := TL α) l xs := (adl_rows (α := α)).trans tl_rows.symm
  exact ⟨S, I, ⟨S1, S2, h1, h2, h3, ⟨adl (α := α) l xs, adl_len (α := α) q1, e.symm ▸ q2, adl_knows (α := α) q3⟩, h5⟩, r⟩
end
/-- append onto what has no room. -/
theorem st_append_new {P : Program} {W0 : World} {Γ : List Asn} {e : Env} {k : Nat} {a1 a2 : Option Addr} {cap : Nat} {rows news : List (List Value)} {op : Op} {ty : TypeId} (t ty' E cap2 : Nat) (info : TypeInfo) (zv : Value)
    (hx : ∀ w, (execOp (ev e) (bare op ty)).run P w = (Builtin.append_ #[t, t] ty' #[.slice a1 rows.length cap, .slice a2 news.length cap2] >>= fun v => pure (Next.value v)).run P w)
    (ht : P.underlying t = some (.slice E)) (hi : P.info? E = some info) (hz : info.zero = some zv) (hk : info.size = k) (hzs : zv.cells.size = k)
    (hr1 : Reads W0 Γ a1 rows) (hr : Reads W0 Γ a2 news) (hrk : ∀ r ∈ rows, r.length = k) (hnk : ∀ r ∈ news, r.length = k) (hg : cap < rows.length + news.length)
    (hbig : (rows.length + news.length) * info.bytes ≤ 140737488355328) (hb0 : 0 < info.bytes) :
    StepTo P W0 Γ e op ty (fun v Δ => ∃ a' cap', v = .slice a' (rows.length + news.length) cap' ∧ Δ = RowsA k a' cap' (rows ++ news) :: Γ) := by
  subst hk
  refine StepTo.val fun w hw => ?_
  have hrd : ∀ j v, news.flatten[j]? = some v → ∃ p, a2 = some p ∧ w.cell? (p.add j) = some v := hr w hw
  have hrr : ∀ j v, rows.flatten[j]? = some v → ∃ p, a1 = some p ∧ w.cell? (p.add j) = some v := hr1 w hw
  have hnl := flatten_length hnk
  have hrl := flatten_length hrk
  have happ : ∀ r ∈ rows ++ news, r.length = info.size := fun r hm => (List.mem_append.1 hm).elim (hrk r) (hnk r)
  have hmul : rows.length + news.length ≤ 140737488355328 := Nat.le_trans (Nat.le_mul_of_pos_right _ hb0) hbig
  have hroom : ¬ rows.length + news.length ≤ cap := by omega
  have hfd := run_firstCells (P := P) (w := w.drew) (a := a2) info.size news.length cap2 hnl (fun j v hj => by obtain ⟨p, hp', hc⟩ := hrd j v hj; exact ⟨p, hp', hc⟩)
  have hfo := run_firstCells (P := P) (w := w.drew) (a := a1) info.size rows.length cap hrl (fun j v hj => by obtain ⟨p, hp', hc⟩ := hrr j v hj; exact ⟨p, hp', hc⟩)
  have h63' : ¬ (9223372036854775807 < ((rows.length : Int) + (news.length : Int))) := by omega
  have h48' : ¬ (281474976710656 < Builtin.nextslicecap (rows.length + news.length) cap * info.bytes) := by have := growslice_fits hg hbig; omega
  have hge := grownCap_ge w (rows.length + news.length) cap E
  refine ⟨.slice (some ⟨w.heap.size, 0, none⟩) (rows.length + news.length) (grownCap w (rows.length + news.length) cap E),
    w.drew.alloc (.cells (rows.flatten.toArray ++ news.flatten.toArray ++ Builtin.zeroCells zv.cells (grownCap w (rows.length + news.length) cap E - (rows.length + news.length))) E), _, ?_, ⟨_, _, rfl, rfl⟩, ?_⟩
  · rw [hx]
    refine run_seq (x := .slice (some ⟨w.heap.size, 0, none⟩) (rows.length + news.length) (grownCap w (rows.length + news.length) cap E)) ?_ rfl
    simp [Builtin.append_, run_underlying ht, Go.sizeOf, typeInfo, zeroValue, hi, hz, Builtin.lenOf, hroom, h63', h48', Question.forced, hfd, hfo, newRow, grownCap]
    congr 2
    apply Array.ext'
    simp [List.append_assoc]
  · have h9 := (hw.drew).alloc (.cells (rows.flatten.toArray ++ news.flatten.toArray ++ Builtin.zeroCells zv.cells (grownCap w (rows.length + news.length) cap E - (rows.length + news.length))) E)
    refine Sat.head_imp (A := Asn.own w.heap.size (.cells (rows.flatten.toArray ++ news.flatten.toArray ++ Builtin.zeroCells zv.cells (grownCap w (rows.length + news.length) cap E - (rows.length + news.length))) E)) (B := RowsA info.size (some ⟨w.heap.size, 0, none⟩) (grownCap w (rows.length + news.length) cap E) (rows ++ news)) (fun S I h ⟨k1, k2⟩ => ⟨happ, .inr ⟨w.heap.size, 0, _, E, rfl, k1, k2, by simpa using hge, ?_, ?_⟩⟩) h9
    · simp only [Array.size_append, List.size_toArray, size_zeroCells, hzs, hrl, hnl, ← Nat.add_mul, Nat.zero_add]
      apply Nat.mul_le_mul_right
      omega
    · intro j v hj
      rw [List.flatten_append] at hj
      have hjl : j < (rows.flatten ++ news.flatten).length := by
        rcases Nat.lt_or_ge j (rows.flatten ++ news.flatten).length with h | h
        · exact h
        · rw [List.getElem?_eq_none h] at hj; cases hj
      rw [Nat.zero_add, Array.getElem?_append_left (by simpa using hjl)]
      simpa using hj
/-- The rows that may be read. -/
theorem reads_of {α : Type} [Rw α] {W0 : World} {Γ : List Asn} {A : Asn} {a : Option Addr} {l : List α} {xs : List (Rw.X α)} : Reads W0 (A.and (LieA a l xs) :: Γ) a (rowsOf l xs) := by
  intro w hw j v hj
  obtain ⟨S, I, ⟨S1, S2, p1, p2, p3, ⟨p4, p5, p6, p7⟩, p8⟩, r⟩ := hw
  rcases p6 with p6 | ⟨b, off, cc, T, fr, e1, e2, e3, e4⟩
  · rw [p6] at hj; simp at hj
  · exact ⟨_, e1, by rw [add_none, cell_of e3]; exact e4 j v hj⟩
theorem Reads.tail {W0 : World} {Γ : List Asn} {A : Asn} {a : Option Addr} {rows : List (List Value)} (h : Reads W0 Γ a rows) : Reads W0 (A :: Γ) a rows := fun w hw => h w hw.tail
theorem xat {α : Type} [Rw α] {X : Ctx} {s : XS} (h : List Nat) (ia : List Nat) {a a2 : Option Addr} {l ys zs : List α} {A B : Asn} {cap2 : Nat} (hA : Rdb A a l.length l) (hB : Rdb B a2 cap2 ys) (hz : l ++ ys = zs) (hn : zs.length ≤ 1099511627776) (hy : 0 < ys.length)
    (k : ∀ z : Option Addr × Nat, G X ((s.dr X h).put [] ia (.slice z.1 zs.length z.2) ⟨[], [ArrA z.1 z.2 zs, A, B]⟩))
    (hq : (s.dq X h).map (·.1) = (s.dq X h).map (·.2) := by kernel_rfl) (hp : s.dp X h = [] := by kernel_rfl) (hpa : pkA ia (s.dr X h).gam = [A, B] := by kernel_rfl)
    (hx : apOf X.P (s.dr X h) = some (a, l.length, l.length, a2, ys.length, Rw.k α) := by kernel_rfl) (h1 : oks ((s.dr X h).ok1 X.n) = okr ((s.dr X h).ok1 X.n) := by kernel_rfl)
    (h2 : ∀ z : Option Addr × Nat, oks ((s.dr X h).okP X [] ia (.slice z.1 zs.length z.2) ⟨[], [ArrA z.1 z.2 zs, A, B]⟩) = okr ((s.dr X h).okP X [] ia (.slice z.1 zs.length z.2) ⟨[], [ArrA z.1 z.2 zs, A, B]⟩) := by intro _; kernel_rfl) (h3 : ∀ z : Option Addr × Nat, (s.dr X h).ol1 = (s.dr X h).olP [] ia ⟨[], [ArrA z.1 z.2 zs, A, B]⟩ := by intro _; kernel_rfl) : G X s := by
  refine ⟨x0 h ?_ hq hp⟩
  generalize s.dr X h = s at *
  subst hz
  refine step_oc (io := []) (ia := ia) (pre := ⟨[], [A, B]⟩) (rv := fun z : Option Addr × Nat => Value.slice z.1 (l ++ ys).length z.2) (post := fun z => ⟨[], [ArrA z.1 z.2 (l ++ ys), A, B]⟩) (fun Γ => ?_) rfl hpa h1 h2 h3 fun z => (k z).get
  unfold apOf at hx
  split at hx
  · rename_i args ts hop
    split at hx
    · rename_i x y t t' hargs hts
      split at hx
      · rename_i a' m c a2' m2 c2 E e1 e2 e3
        split at hx
        · rename_i info hi
          replace hx : (bif (Nat.beq t t' && Nat.blt 0 info.bytes && Nat.ble info.bytes 128 && (match info.zero with | some zv => Nat.beq zv.cells.size info.size | none => false)) then some (a', m, c, a2', m2, info.size) else none) = some (a, l.length, l.length, a2, ys.length, Rw.k α) := hx
          cases hc : (Nat.beq t t' && Nat.blt 0 info.bytes && Nat.ble info.bytes 128 && (match info.zero with | some zv => Nat.beq zv.cells.size info.size | none => false)) with
          | false => simp [hc] at hx
          | true =>
            simp only [hc, cond_true, Option.some.injEq, Prod.mk.injEq] at hx
            obtain ⟨rfl, rfl, hcc, rfl, rfl, hk⟩ := hx
            simp only [Bool.and_eq_true] at hc
            obtain ⟨⟨⟨ht, hb0⟩, hb1⟩, hzz⟩ := hc
            obtain rfl := Nat.eq_of_beq_eq_true ht
            cases hzv : info.zero with
            | none => simp [hzv] at hzz
            | some zv =>
              simp only [hzv] at hzz
              have hzs := Nat.eq_of_beq_eq_true hzz
              have hargs' : args = #[x, y] := by rw [← hargs]
              have hts' : ts = #[t, t] := by rw [← hts]
              subst hargs'; subst hts'
              intro w hw
              obtain ⟨xs, q1, g1⟩ := (show Sat X.W0 (A :: B :: Γ) w from hw).read hA
              have g2 : Sat X.W0 (B :: A.and (LieA a' l xs) :: Γ) w := g1.less (.take (.there .here) (.take .here .refl))
              obtain ⟨ys', q2, g3⟩ := g2.read hB
              have hst := st_append_new (P := X.P) (W0 := X.W0) (Γ := B.and (LieA a2' ys ys') :: A.and (LieA a' l xs) :: Γ) (e := s.env) (op := s.op.op) (ty := s.op.type) (k := Rw.k α) (a1 := a') (a2 := a2') (cap := l.length) (rows := rowsOf l xs) (news := rowsOf ys ys') t s.op.type E c2 info zv (fun w => by
                  rw [hop]
                  have e9 : execOp (ev s.env) (bare (Op.call { callee := Callee.builtin Builtin.append, args := #[x, y], argTypes := #[t, t] }) s.op.type) = (Builtin.append_ #[t, t] s.op.type #[ev s.env x, ev s.env y] >>= fun v => pure (Next.value v)) := by kernel_rfl
                  rw [e9, e1, e2, rowsOf_len q1, rowsOf_len q2, hcc]) e3 hi hzv hk (by rw [hzs, hk]) (Reads.tail reads_of) reads_of rowsOf_k rowsOf_k (by rw [rowsOf_len q1, rowsOf_len q2]; omega) (by
                    rw [rowsOf_len q1, rowsOf_len q2]
                    rw [List.length_append] at hn
                    exact Nat.le_trans (Nat.mul_le_mul hn (Nat.le_of_ble_eq_true hb1)) (by decide)) (by simpa using hb0)
              intro ro o aa K Q kk
              refine hst w g3 ro o aa K Q ?_
              rintro v Δ w' ⟨a3, c3, rfl, rfl⟩ hw'
              refine kk _ _ w' ⟨(a3, c3), ?_, rfl⟩ ?_
              · rw [rowsOf_len q1, rowsOf_len q2, List.length_append]
              · obtain ⟨S, I, ⟨S1, S2, p1, p2, p3, p4, T1, T2, k1, k2, k3, ⟨k4, k4', k4'', k4k⟩, U1, U2, u1, u2, u3, ⟨u4, u4', u4'', u4k⟩, u5⟩, r⟩ := hw'
                refine ⟨S, I, ⟨S1, S2, p1, p2, p3, ⟨xs ++ ys', by simp [q1, q2], ?_, fun i a x e1 e2 => ?_⟩, U1, fun b => T1 b ∨ U2 b, fun b hb => k2 b (u1 b hb), fun b hb => hb.elim (k1 b) fun hu => k2 b (u2 b hu), fun b hb hc => hc.elim (fun ht => k3 b ht (u1 b hb)) fun hu => u3 b hb hu, u4, T1, U2, fun _ hb => .inl hb, fun _ hb => .inr hb, fun b ht hu => k3 b ht (u2 b hu), k4, u5⟩, r⟩
                · have : rowsOf (l ++ ys) (xs ++ ys') = rowsOf l xs ++ rowsOf ys ys' := List.zipWith_append q1.symm
                  rw [this]; exact p4
                · rcases Nat.lt_or_ge i l.length with hi' | hi'
                  · rw [List.getElem?_append_left hi'] at e1
                    rw [List.getElem?_append_left (by omega)] at e2
                    exact u4k i a x e1 e2
                  · rw [List.getElem?_append_right hi'] at e1
                    rw [List.getElem?_append_right (by omega), q1] at e2
                    exact k4k _ a x e1 e2
        · cases hx
      · cases hx
    · cases hx
  · cases hx
end Go.Proofs.YtcidmgkfaioceaaGreat
namespace Go.Proofs.YtcidmgkfaioceaaGreat
open Go Go.RowKit
set_option linter.unusedVariables false
def topPassS_j1 (e1_t8_3_b0 : MachS) : Option (Bool) :=
 (mleftS e1_t8_3_b0).bind fun y32_1 => (bif decide (y32_1 = (0 : Int)) then (twakesS).bind fun y32_4 => some y32_4 else some false)
def topPassS_j3 (v2_12 : Int) (r2 : Int → MachS → Option (Bool)) (e3_t8_3_b0 : MachS) : Option (Bool) :=
 chk (inR (v2_12 + (1 : Int))) (r2 (v2_12 + (1 : Int)) e3_t8_3_b0)
def topPassS_j4 (v2_12 : Int) (y14_1 : Int) (k3 : MachS → Option (Bool)) (e4_t8_3_b0 : MachS) : Option (Bool) :=
 chk (1 ≤ (3 : Int)) ((mnodeS e4_t8_3_b0 (v2_12.tmod (3 : Int))).bind fun y29_4 => (optM y29_4 (fun k29_4 => chk (0 ≤ k29_4 ∧ k29_4 < ((List.length e4_t8_3_b0.nodes : Nat) : Int)) ((prvalS ((nthS e4_t8_3_b0.nodes k29_4).proc)).bind fun y29_8 => (mleftS e4_t8_3_b0).bind fun y30_1 => (bif !(decide (y30_1 = (wr (y14_1 - (1 : Int))))) then some false else (bif decide ((((List.length y29_8) : Nat) : Int) = (0 : Int)) then some false else letP (wr ((((List.length y29_8) : Nat) : Int) - (1 : Int))) fun u30_14 => chk (0 ≤ u30_14 ∧ u30_14 < ((y29_8.length : Nat) : Int)) ((bif !(decide ((nth y29_8 u30_14) = v2_12)) then some false else k3 e4_t8_3_b0)))))) (none)))
def topPassS_j7 (v5_14 : Int) (r5 : Int → MachS → Option (Bool)) (e7_t8_3_b0 : MachS) : Option (Bool) :=
 chk (inR (v5_14 + (1 : Int))) (r5 (v5_14 + (1 : Int)) e7_t8_3_b0)
def topPassS_l9 (k7 : MachS → Option (Bool)) : Nat → Int → MachS → Option (Bool)
 | 0, _, _ => none
 | m + 1, v9_15, v9_t8_3_b0 => (bif decide (v9_15 < (3 : Int)) then (fwaitS v9_t8_3_b0.fab v9_15).bind fun y26_5 => (bif decide ((0 : Int) < (wr (y26_5.1 + y26_5.2))) then (mdoS v9_t8_3_b0 (⟨false, v9_15, (0 : Int), (0 : Int)⟩ : PickS)).bind fun y28_3 => chk (inR (v9_15 + (1 : Int))) ((topPassS_l9 k7 m) (v9_15 + (1 : Int)) y28_3.2) else chk (inR (v9_15 + (1 : Int))) ((topPassS_l9 k7 m) (v9_15 + (1 : Int)) v9_t8_3_b0)) else k7 v9_t8_3_b0)
def topPassS_j8 (k7 : MachS → Option (Bool)) (e8_t8_3_b0 : MachS) : Option (Bool) :=
 (mdoS e8_t8_3_b0 (⟨true, (0 : Int), (0 : Int), (0 : Int)⟩ : PickS)).bind fun y22_2 => topPassS_l9 k7 128 (0 : Int) y22_2.2
def topPassS_j6 (v5_14 : Int) (noise : List Int) (v5_t8_3_b0 : MachS) (mask : Int) (r5 : Int → MachS → Option (Bool)) : Option (Bool) :=
 (bif decide (v5_14 < (((List.length noise) : Nat) : Int)) then (funderS v5_t8_3_b0.fab).bind fun y20_9 => (bif decide ((0 : Int) < y20_9) then chk (0 ≤ v5_14 ∧ v5_14 < ((noise.length : Nat) : Int)) ((withinS (nth noise v5_14) (90 : Int)).bind fun y21_5 => (mdoS v5_t8_3_b0 (⟨true, (0 : Int), y21_5, bor .u16 mask (32768 : Int)⟩ : PickS)).bind fun y21_9 => (topPassS_j8 (topPassS_j7 v5_14 r5)) y21_9.2) else (topPassS_j8 (topPassS_j7 v5_14 r5)) v5_t8_3_b0) else (topPassS_j8 (topPassS_j7 v5_14 r5)) v5_t8_3_b0)
def topPassS_l5 (y14_1 : Int) (noise : List Int) (mask : Int) (k4 : MachS → Option (Bool)) : Nat → Int → MachS → Option (Bool)
 | 0, _, _ => none
 | m + 1, v5_14, v5_t8_3_b0 => (bif decide (v5_14 < (100 : Int)) then (mleftS v5_t8_3_b0).bind fun y18_4 => (bif decide (y18_4 = y14_1) then (topPassS_j6 v5_14 noise v5_t8_3_b0 mask (topPassS_l5 y14_1 noise mask k4 m)) else (mquietS v5_t8_3_b0).bind fun y18_9 => (bif !y18_9 then (topPassS_j6 v5_14 noise v5_t8_3_b0 mask (topPassS_l5 y14_1 noise mask k4 m)) else k4 v5_t8_3_b0)) else k4 v5_t8_3_b0)
def topPassS_l2 (y2_1 : Int) (noise : List Int) (mask : Int) (k1 : MachS → Option (Bool)) : Nat → Int → MachS → Option (Bool)
 | 0, _, _ => none
 | m + 1, v2_12, v2_t8_3_b0 => (bif decide (v2_12 < (wr ((wr ((1 : Int) + y2_1)) * (3 : Int)))) then (mleftS v2_t8_3_b0).bind fun y14_1 => chk (1 ≤ (3 : Int)) ((mdoS v2_t8_3_b0 (⟨false, v2_12.tmod (3 : Int), (0 : Int), (0 : Int)⟩ : PickS)).bind fun y15_5 => (bif !y15_5.1 then some false else topPassS_l5 y14_1 noise mask (topPassS_j4 v2_12 y14_1 (topPassS_j3 v2_12 (topPassS_l2 y2_1 noise mask k1 m))) 128 (0 : Int) y15_5.2)) else k1 v2_t8_3_b0)
def topPassS_j0 (y2_1 : Int) (noise : List Int) (mask : Int) (e0_8x : List (List OpS)) : Option (Bool) :=
 (tsmallS (3 : Int)).bind fun y8_1 => (mnewmS y8_1 e0_8x).bind fun y8_3 => (bif !(decide (y8_3.2 = (0 : Int))) then some false else (optM y8_3.1 (fun n9_3_1 => topPassS_l2 y2_1 noise mask topPassS_j1 128 (0 : Int) n9_3_1) (some false)))
def topPassS_l10 (y2_1 : Int) (k0 : (List (List OpS)) → Option (Bool)) : Nat → (List (List OpS)) → Int → Option (Bool)
 | 0, _, _ => none
 | m + 1, v10_8x, v10_9 => (bif decide (v10_9 < (wr ((wr ((1 : Int) + y2_1)) * (3 : Int)))) then chk (1 ≤ (3 : Int)) (chk (1 ≤ (3 : Int)) (chk (0 ≤ (v10_9.tmod (3 : Int)) ∧ (v10_9.tmod (3 : Int)) < ((v10_8x.length : Nat) : Int)) (chk (((nthR v10_8x (v10_9.tmod (3 : Int))) ++ ([(⟨(3 : Int), (0 : Int), (1 : Int)⟩ : OpS)])).length ≤ 1099511627776) (letP ((nthR v10_8x (v10_9.tmod (3 : Int))) ++ ([(⟨(3 : Int), (0 : Int), (1 : Int)⟩ : OpS)])) fun l7_12 => chk (0 ≤ (v10_9.tmod (3 : Int)) ∧ (v10_9.tmod (3 : Int)) < ((v10_8x.length : Nat) : Int)) (letP (setR v10_8x (v10_9.tmod (3 : Int)) l7_12) fun l7_14 => chk (inR (v10_9 + (1 : Int))) ((topPassS_l10 y2_1 k0 m) l7_14 (v10_9 + (1 : Int)))))))) else k0 v10_8x)
def topPassS (turns : Int) (noise : List Int) (mask : Int) : Option (Bool) :=
 (withinS turns (5 : Int)).bind fun y2_1 => chk (0 ≤ (3 : Int) ∧ (3 : Int) ≤ 1099511627776) (letP (List.replicate ((3 : Int)).toNat ([] : List OpS)) fun l3_1 => topPassS_l10 y2_1 (topPassS_j0 y2_1 noise mask) 128 l3_1 (0 : Int))
set_option maxRecDepth 100000 in
set_option maxHeartbeats 4000000 in
theorem topPassF {turns : Int} {noise : List Int} {noiseA : Asn} {mask : Int} (noisea : Option Addr) (noisec : Nat) (hnoiseA : Rdb noiseA noisea noisec noise) {y : Bool} (H : topPassS turns noise mask = some y) : FnY Tryz.prog 4 [.int .i64 turns, .slice noisea (List.length noise) noisec, .int .u16 mask] ⟨[], [noiseA]⟩ (Z := Unit) (fun y _ => .bool y) (fun y _ => ⟨[], [noiseA]⟩) y := by
 unfold topPassS at H
 refine xfY Tryz.func4 fun W0 F => ?_
 refine bindG H fun y2_1 hy2_1 H => ?_
 refine xq [] (within_fq hy2_1) ?_
 refine chkG H fun q3_1_1 H => ?_
 refine letG H fun l3_1 hl3_1 H => ?_
 refine xmkO (α := List OpS) [1] q3_1_1 hl3_1 roList_d fun b3_1 => ?_
 refine xj [100] (ι := List (List OpS) × Option Addr × Nat) (fun (e0_8x, e0_8a, e0_8c) => ⟨[(0, .int .i64 (wr ((1 : Int) + y2_1))), (1, .slice noisea (List.length noise) noisec), (2, .int .u16 mask), (7, .int .i64 (3)), (8, .slice e0_8a (List.length e0_8x) e0_8c)], [], [(ArrO e0_8a e0_8c e0_8x), noiseA]⟩) (fun (e0_8x, e0_8a, e0_8c) => topPassS_j0 y2_1 noise mask e0_8x = some y) ?_ ?_
 · rintro ⟨e0_8x, e0_8a, e0_8c⟩ H
   replace H : topPassS_j0 y2_1 noise mask e0_8x = some y := H
   rw [topPassS_j0] at H
   refine bindG H fun y8_1 hy8_1 H => ?_
   refine xc [] [] [] (tsmallF hy8_1) fun ⟨t8_1_a0, t8_1_c0⟩ => ?_
   refine xg [] [] [0] (gh_frz t8_1_a0 t8_1_c0 y8_1.init) fun _ => ?_
   refine xg [] [] [0] (gh_dup t8_1_a0 t8_1_c0 y8_1.init) fun _ => ?_
   refine xg [] [] [2] (gh_frzO e0_8a e0_8c e0_8x) fun _ => ?_
   refine bindG H fun y8_3 hy8_3 H => ?_
   refine xc [] [] [1,0] (mnewmF t8_1_a0 t8_1_c0 e0_8a e0_8c (rA e0_8a e0_8c e0_8x) hy8_3) fun t8_3_b0 => ?_
   refine xs [] H ?_ ?_
   · intro H
     exact xrY (someE H) [0,0,1,1] [] [] [3] ()
   · intro H
     refine optG H (fun hn9_3_1 H => ?_) fun n9_3_1 hn9_3_1 H => ?_
     · refine xw [1,300] 10 (optV_n t8_3_b0 hn9_3_1) ?_
       refine xw [300] 55 (optV_n t8_3_b0 hn9_3_1) ?_
       exact xrY (someE H) [1,0,1] [] [] [3] ()
     · refine xw [1,300] 10 (optV_s t8_3_b0 hn9_3_1) ?_
       refine xw [300] 55 (optV_s t8_3_b0 hn9_3_1) ?_
       refine xg [300] [] [0] (gh_opt (A := MachA t8_3_b0) hn9_3_1) fun _ => ?_
       refine xj [1,0,0,100] (ι := MachS) (fun e1_t8_3_b0 => ⟨[(10, .pointer (some ⟨t8_3_b0, 0, none⟩))], [], [(MachA t8_3_b0 e1_t8_3_b0), noiseA]⟩) (fun e1_t8_3_b0 => topPassS_j1 e1_t8_3_b0 = some y) ?_ ?_
       · rintro e1_t8_3_b0 H
         replace H : topPassS_j1 e1_t8_3_b0 = some y := H
         rw [topPassS_j1] at H
         refine xg [] [] [0] (gh_open (MachO t8_3_b0 e1_t8_3_b0)) fun ⟨b_fab2, b_trace3, a_c_init4, c_c_init5, a_nodes6, c_nodes7, r_nodes8⟩ => ?_
         refine bindG H fun y32_1 hy32_1 H => ?_
         refine xc [] [0] [0,0,0,0,0] (mleftF t8_3_b0 b_fab2 b_trace3 a_c_init4 c_c_init5 a_nodes6 c_nodes7 r_nodes8 hy32_1) fun _ => ?_
         refine xs [] H ?_ ?_
         · intro H
           refine bindG H fun y32_4 hy32_4 H => ?_
           refine xc [1] [] [] (twakesF hy32_4) fun _ => ?_
           exact xrY (someE H) [1] [] [] [5] ()
         · intro H
           exact xrY (someE H) [0,0] [] [] [5] ()
       · intro N1 hN1
         refine xl [] (ι := Int × MachS) (fun (v2_12, v2_t8_3_b0) => ⟨[(0, .int .i64 (wr ((1 : Int) + y2_1))), (1, .slice noisea (List.length noise) noisec), (2, .int .u16 mask), (7, .int .i64 (3)), (10, .pointer (some ⟨t8_3_b0, 0, none⟩)), (12, .int .i64 v2_12)], [], [(MachA t8_3_b0 v2_t8_3_b0), noiseA]⟩) (fun m2 (v2_12, v2_t8_3_b0) => topPassS_l2 y2_1 noise mask (topPassS_j1) m2 v2_12 v2_t8_3_b0 = some y) [] [0,2] (128) ((0 : Int), n9_3_1) H ?_
         rintro N2 (_ | m2) ⟨v2_12, v2_t8_3_b0⟩ H hN2
         · exact (noneE H).elim
         replace H : topPassS_l2 y2_1 noise mask (topPassS_j1) (m2 + 1) v2_12 v2_t8_3_b0 = some y := H
         rw [topPassS_l2] at H
         refine xs [1] H ?_ ?_
         · intro H
           refine xj [1,100] (ι := MachS) (fun e3_t8_3_b0 => ⟨[(0, .int .i64 (wr ((1 : Int) + y2_1))), (1, .slice noisea (List.length noise) noisec), (2, .int .u16 mask), (7, .int .i64 (3)), (10, .pointer (some ⟨t8_3_b0, 0, none⟩)), (12, .int .i64 v2_12)], [], [(MachA t8_3_b0 e3_t8_3_b0), noiseA]⟩) (fun e3_t8_3_b0 => topPassS_j3 v2_12 (topPassS_l2 y2_1 noise mask (topPassS_j1) m2) e3_t8_3_b0 = some y) ?_ ?_
           · rintro e3_t8_3_b0 H
             replace H : topPassS_j3 v2_12 (topPassS_l2 y2_1 noise mask (topPassS_j1) m2) e3_t8_3_b0 = some y := H
             rw [topPassS_j3] at H
             refine chkG H fun q13_1_1 H => ?_
             refine xd [0] (ap q13_1_1 an) ?_
             exact xe [] _ [] [0,0] (hN2 _ (v2_12 + (1 : Int), e3_t8_3_b0) (Nat.lt_succ_self _) H)
           · intro N3 hN3
             refine xg [] [] [0] (gh_open (MachO t8_3_b0 v2_t8_3_b0)) fun ⟨b_fab9, b_trace10, a_c_init11, c_c_init12, a_nodes13, c_nodes14, r_nodes15⟩ => ?_
             refine bindG H fun y14_1 hy14_1 H => ?_
             refine xc [] [0] [0,0,0,0,0] (mleftF t8_3_b0 b_fab9 b_trace10 a_c_init11 c_c_init12 a_nodes13 c_nodes14 r_nodes15 hy14_1) fun _ => ?_
             refine chkG H fun q15_3_1 H => ?_
             refine xp [] (ov_rem (a := v2_12) (b := (3 : Int)) q15_3_1) ?_
             refine xg [] [0] [0,0,0,0,0] (gh_shut (MachO t8_3_b0 v2_t8_3_b0) (b_fab9, b_trace10, a_c_init11, c_c_init12, a_nodes13, c_nodes14, r_nodes15)) fun _ => ?_
             refine bindG H fun y15_5 hy15_5 H => ?_
             refine xc [] [] [0] (mdoF t8_3_b0 hy15_5) fun _ => ?_
             refine xs [] H ?_ ?_
             · intro H
               exact xrY (someE H) [1] [] [] [1] ()
             · intro H
               refine xj [0,100] (ι := MachS) (fun e4_t8_3_b0 => ⟨[(0, .int .i64 (wr ((1 : Int) + y2_1))), (1, .slice noisea (List.length noise) noisec), (2, .int .u16 mask), (7, .int .i64 (3)), (10, .pointer (some ⟨t8_3_b0, 0, none⟩)), (12, .int .i64 v2_12), (13, .int .i64 y14_1)], [], [(MachA t8_3_b0 e4_t8_3_b0), noiseA]⟩) (fun e4_t8_3_b0 => topPassS_j4 v2_12 y14_1 (topPassS_j3 v2_12 (topPassS_l2 y2_1 noise mask (topPassS_j1) m2)) e4_t8_3_b0 = some y) ?_ ?_
               · rintro e4_t8_3_b0 H
                 replace H : topPassS_j4 v2_12 y14_1 (topPassS_j3 v2_12 (topPassS_l2 y2_1 noise mask (topPassS_j1) m2)) e4_t8_3_b0 = some y := H
                 rw [topPassS_j4] at H
                 refine chkG H fun q29_3_1 H => ?_
                 refine xp [] (ov_rem (a := v2_12) (b := (3 : Int)) q29_3_1) ?_
                 refine xg [] [] [0] (gh_open (MachO t8_3_b0 e4_t8_3_b0)) fun ⟨b_fab16, b_trace17, a_c_init18, c_c_init19, a_nodes20, c_nodes21, r_nodes22⟩ => ?_
                 refine bindG H fun y29_4 hy29_4 H => ?_
                 refine xc [] [0] [0,0,0,0,0] (mnodeF t8_3_b0 b_fab16 b_trace17 a_c_init18 c_c_init19 a_nodes20 c_nodes21 r_nodes22 hy29_4) fun _ => ?_
                 refine optG H (fun hk29_4 H => ?_) fun k29_4 hk29_4 H => ?_
                 · refine xw [300] 140 (v := (nodeV r_nodes22 y29_4)) (v' := .pointer none) (by rw [hk29_4]; rfl) ?_
                   exact (noneE H).elim
                 · refine xw [300] 140 (v := (nodeV r_nodes22 y29_4)) (v' := .pointer (some ⟨(nthT r_nodes22 k29_4).b, 0, none⟩)) (by rw [hk29_4]; rfl) ?_
                   refine xk [] [4] (st_len e4_t8_3_b0.nodes r_nodes22) fun hl29_7_1 => ?_
                   refine chkG H fun q29_7_1 H => ?_
                   refine xg [] [] [4] (gh_sfoc e4_t8_3_b0.nodes r_nodes22 k29_4 (nthT r_nodes22 k29_4) rfl (rngB hl29_7_1 (rngE hl29_7_1 q29_7_1))) fun _ => ?_
                   refine xg [] [] [0] (gh_open (NodeO (nthT r_nodes22 k29_4).b (nthS e4_t8_3_b0.nodes k29_4))) fun ⟨b_cache23, b_proc24, a_c_init25, c_c_init26, b_home27, a_deal_data28, c_deal_data29⟩ => ?_
                   refine xg [0] [] [1] (gh_open (ProcO b_proc24 ((nthS e4_t8_3_b0.nodes k29_4).proc))) fun ⟨a_ops30, c_ops31, a_values32, c_values33⟩ => ?_
                   refine bindG H fun y29_8 hy29_8 H => ?_
                   refine xc [] [0] [0,0] (prvalF b_proc24 a_ops30 c_ops31 a_values32 c_values33 hy29_8) fun ⟨t29_8_a0, t29_8_c0⟩ => ?_
                   refine xg [] [0] [1,1] (gh_shut (ProcO b_proc24 ((nthS e4_t8_3_b0.nodes k29_4).proc)) (a_ops30, c_ops31, a_values32, c_values33)) fun _ => ?_
                   refine xg [] [0] [2,0,1,1,1] (gh_shut (NodeO (nthT r_nodes22 k29_4).b (nthS e4_t8_3_b0.nodes k29_4)) (b_cache23, b_proc24, a_c_init25, c_c_init26, b_home27, a_deal_data28, c_deal_data29)) fun _ => ?_
                   refine xg [] [] [0,1] (gh_sunfs e4_t8_3_b0.nodes r_nodes22 k29_4 (nthT r_nodes22 k29_4) rfl (rngB hl29_7_1 (rngE hl29_7_1 q29_7_1))) fun _ => ?_
                   refine bindG H fun y30_1 hy30_1 H => ?_
                   refine xc [] [0] [2,2,2,2,0] (mleftF t8_3_b0 b_fab16 b_trace17 a_c_init18 c_c_init19 a_nodes20 c_nodes21 r_nodes22 hy30_1) fun _ => ?_
                   refine xs [1] H ?_ ?_
                   · intro H
                     exact xrY (someE H) [0,0,0,1,0,0,0,0,0,0,0,0,1,1] [] [] [6] ()
                   · intro H
                     refine xs [1,1,1,0] H ?_ ?_
                     · intro H
                       exact xrY (someE H) [0,0,0,0,0,0,0,0,1,1] [] [] [6] ()
                     · intro H
                       refine letG H fun u30_14 hu30_14 H => ?_
                       refine xw [1,1,1,1,1,300] 159 (congrArg (Value.int .i64) hu30_14) ?_
                       refine chkG H fun q30_15_1 H => ?_
                       refine xi [1] 5 (rA t29_8_a0 t29_8_c0 y29_8) q30_15_1 fun b1 o1 e1 => ?_
                       refine xpl [1] 5 (ol_ld (rA t29_8_a0 t29_8_c0 y29_8) e1 q30_15_1 0 (fun _ => rfl)) ?_
                       refine xs [1,1,0] H ?_ ?_
                       · intro H
                         exact xrY (someE H) [1] [] [] [6] ()
                       · intro H
                         refine xg [0] [0] [0,0,0,0,0] (gh_shut (MachO t8_3_b0 e4_t8_3_b0) (b_fab16, b_trace17, a_c_init18, c_c_init19, a_nodes20, c_nodes21, r_nodes22)) fun _ => ?_
                         exact xe [] _ [] [0,1] (hN3 (e4_t8_3_b0) H)
               · intro N4 hN4
                 refine xl [] (ι := Int × MachS) (fun (v5_14, v5_t8_3_b0) => ⟨[(0, .int .i64 (wr ((1 : Int) + y2_1))), (1, .slice noisea (List.length noise) noisec), (2, .int .u16 mask), (7, .int .i64 (3)), (10, .pointer (some ⟨t8_3_b0, 0, none⟩)), (12, .int .i64 v2_12), (13, .int .i64 y14_1), (14, .int .i64 v5_14)], [], [(MachA t8_3_b0 v5_t8_3_b0), noiseA]⟩) (fun m5 (v5_14, v5_t8_3_b0) => topPassS_l5 y14_1 noise mask (topPassS_j4 v2_12 y14_1 (topPassS_j3 v2_12 (topPassS_l2 y2_1 noise mask (topPassS_j1) m2))) m5 v5_14 v5_t8_3_b0 = some y) [] [0,0] (128) ((0 : Int), y15_5.2) H ?_
                 rintro N5 (_ | m5) ⟨v5_14, v5_t8_3_b0⟩ H hN5
                 · exact (noneE H).elim
                 replace H : topPassS_l5 y14_1 noise mask (topPassS_j4 v2_12 y14_1 (topPassS_j3 v2_12 (topPassS_l2 y2_1 noise mask (topPassS_j1) m2))) (m5 + 1) v5_14 v5_t8_3_b0 = some y := H
                 rw [topPassS_l5] at H
                 refine xj [100] (ι := Unit) (fun _ => ⟨[(0, .int .i64 (wr ((1 : Int) + y2_1))), (1, .slice noisea (List.length noise) noisec), (2, .int .u16 mask), (7, .int .i64 (3)), (10, .pointer (some ⟨t8_3_b0, 0, none⟩)), (12, .int .i64 v2_12), (13, .int .i64 y14_1), (14, .int .i64 v5_14)], [], [(MachA t8_3_b0 v5_t8_3_b0), noiseA]⟩) (fun _ => topPassS_j6 v5_14 noise v5_t8_3_b0 mask (topPassS_l5 y14_1 noise mask (topPassS_j4 v2_12 y14_1 (topPassS_j3 v2_12 (topPassS_l2 y2_1 noise mask (topPassS_j1) m2))) m5) = some y) ?_ ?_
                 · rintro _ H
                   replace H : topPassS_j6 v5_14 noise v5_t8_3_b0 mask (topPassS_l5 y14_1 noise mask (topPassS_j4 v2_12 y14_1 (topPassS_j3 v2_12 (topPassS_l2 y2_1 noise mask (topPassS_j1) m2))) m5) = some y := H
                   rw [topPassS_j6] at H
                   refine xj [100] (ι := MachS) (fun e7_t8_3_b0 => ⟨[(0, .int .i64 (wr ((1 : Int) + y2_1))), (1, .slice noisea (List.length noise) noisec), (2, .int .u16 mask), (7, .int .i64 (3)), (10, .pointer (some ⟨t8_3_b0, 0, none⟩)), (12, .int .i64 v2_12), (13, .int .i64 y14_1), (14, .int .i64 v5_14)], [], [(MachA t8_3_b0 e7_t8_3_b0), noiseA]⟩) (fun e7_t8_3_b0 => topPassS_j7 v5_14 (topPassS_l5 y14_1 noise mask (topPassS_j4 v2_12 y14_1 (topPassS_j3 v2_12 (topPassS_l2 y2_1 noise mask (topPassS_j1) m2))) m5) e7_t8_3_b0 = some y) ?_ ?_
                   · rintro e7_t8_3_b0 H
                     replace H : topPassS_j7 v5_14 (topPassS_l5 y14_1 noise mask (topPassS_j4 v2_12 y14_1 (topPassS_j3 v2_12 (topPassS_l2 y2_1 noise mask (topPassS_j1) m2))) m5) e7_t8_3_b0 = some y := H
                     rw [topPassS_j7] at H
                     refine chkG H fun q19_1_1 H => ?_
                     refine xd [0] (ap q19_1_1 an) ?_
                     exact xe [] _ [] [0,0] (hN5 _ (v5_14 + (1 : Int), e7_t8_3_b0) (Nat.lt_succ_self _) H)
                   · intro N7 hN7
                     refine xj [100] (ι := MachS) (fun e8_t8_3_b0 => ⟨[(0, .int .i64 (wr ((1 : Int) + y2_1))), (1, .slice noisea (List.length noise) noisec), (2, .int .u16 mask), (7, .int .i64 (3)), (10, .pointer (some ⟨t8_3_b0, 0, none⟩)), (12, .int .i64 v2_12), (13, .int .i64 y14_1), (14, .int .i64 v5_14)], [], [(MachA t8_3_b0 e8_t8_3_b0), noiseA]⟩) (fun e8_t8_3_b0 => topPassS_j8 (topPassS_j7 v5_14 (topPassS_l5 y14_1 noise mask (topPassS_j4 v2_12 y14_1 (topPassS_j3 v2_12 (topPassS_l2 y2_1 noise mask (topPassS_j1) m2))) m5)) e8_t8_3_b0 = some y) ?_ ?_
                     · rintro e8_t8_3_b0 H
                       replace H : topPassS_j8 (topPassS_j7 v5_14 (topPassS_l5 y14_1 noise mask (topPassS_j4 v2_12 y14_1 (topPassS_j3 v2_12 (topPassS_l2 y2_1 noise mask (topPassS_j1) m2))) m5)) e8_t8_3_b0 = some y := H
                       rw [topPassS_j8] at H
                       refine bindG H fun y22_2 hy22_2 H => ?_
                       refine xc [] [] [0] (mdoF t8_3_b0 hy22_2) fun _ => ?_
                       refine xl [] (ι := Int × MachS) (fun (v9_15, v9_t8_3_b0) => ⟨[(0, .int .i64 (wr ((1 : Int) + y2_1))), (1, .slice noisea (List.length noise) noisec), (2, .int .u16 mask), (7, .int .i64 (3)), (10, .pointer (some ⟨t8_3_b0, 0, none⟩)), (12, .int .i64 v2_12), (13, .int .i64 y14_1), (14, .int .i64 v5_14), (15, .int .i64 v9_15)], [], [(MachA t8_3_b0 v9_t8_3_b0), noiseA]⟩) (fun m9 (v9_15, v9_t8_3_b0) => topPassS_l9 (topPassS_j7 v5_14 (topPassS_l5 y14_1 noise mask (topPassS_j4 v2_12 y14_1 (topPassS_j3 v2_12 (topPassS_l2 y2_1 noise mask (topPassS_j1) m2))) m5)) m9 v9_15 v9_t8_3_b0 = some y) [] [0,0] (128) ((0 : Int), y22_2.2) H ?_
                       rintro N9 (_ | m9) ⟨v9_15, v9_t8_3_b0⟩ H hN9
                       · exact (noneE H).elim
                       replace H : topPassS_l9 (topPassS_j7 v5_14 (topPassS_l5 y14_1 noise mask (topPassS_j4 v2_12 y14_1 (topPassS_j3 v2_12 (topPassS_l2 y2_1 noise mask (topPassS_j1) m2))) m5)) (m9 + 1) v9_15 v9_t8_3_b0 = some y := H
                       rw [topPassS_l9] at H
                       refine xs [] H ?_ ?_
                       · intro H
                         refine xg [1] [] [0] (gh_open (MachO t8_3_b0 v9_t8_3_b0)) fun ⟨b_fab34, b_trace35, a_c_init36, c_c_init37, a_nodes38, c_nodes39, r_nodes40⟩ => ?_
                         refine xg [0] [] [0] (gh_open (FabO b_fab34 v9_t8_3_b0.fab)) fun ⟨a_cs41, c_cs42, r_cs43⟩ => ?_
                         refine bindG H fun y26_5 hy26_5 H => ?_
                         refine xc [] [0] [0,0] (fwaitF b_fab34 a_cs41 c_cs42 r_cs43 hy26_5) fun _ => ?_
                         refine xs [1] H ?_ ?_
                         · intro H
                           refine xg [1] [0] [0,0] (gh_shut (FabO b_fab34 v9_t8_3_b0.fab) (a_cs41, c_cs42, r_cs43)) fun _ => ?_
                           refine xg [] [0] [0,0,0,0,0] (gh_shut (MachO t8_3_b0 v9_t8_3_b0) (b_fab34, b_trace35, a_c_init36, c_c_init37, a_nodes38, c_nodes39, r_nodes40)) fun _ => ?_
                           refine bindG H fun y28_3 hy28_3 H => ?_
                           refine xc [] [] [0] (mdoF t8_3_b0 hy28_3) fun _ => ?_
                           refine chkG H fun q25_1_1 H => ?_
                           refine xd [0] (ap q25_1_1 an) ?_
                           exact xe [] _ [] [0,0] (hN9 _ (v9_15 + (1 : Int), y28_3.2) (Nat.lt_succ_self _) H)
                         · intro H
                           refine chkG H fun q25_1_2 H => ?_
                           refine xd [0,0] (ap q25_1_2 an) ?_
                           refine xg [] [0] [0,0] (gh_shut (FabO b_fab34 v9_t8_3_b0.fab) (a_cs41, c_cs42, r_cs43)) fun _ => ?_
                           refine xg [] [0] [0,0,0,0,0] (gh_shut (MachO t8_3_b0 v9_t8_3_b0) (b_fab34, b_trace35, a_c_init36, c_c_init37, a_nodes38, c_nodes39, r_nodes40)) fun _ => ?_
                           exact xe [] _ [] [0,0] (hN9 _ (v9_15 + (1 : Int), v9_t8_3_b0) (Nat.lt_succ_self _) H)
                       · intro H
                         exact xe [0] _ [] [0,0] (hN7 (v9_t8_3_b0) H)
                     · intro N8 hN8
                       refine xs [] H ?_ ?_
                       · intro H
                         refine xg [1,1,1,1] [] [0] (gh_open (MachO t8_3_b0 v5_t8_3_b0)) fun ⟨b_fab44, b_trace45, a_c_init46, c_c_init47, a_nodes48, c_nodes49, r_nodes50⟩ => ?_
                         refine xg [1,0,1] [] [0] (gh_open (FabO b_fab44 v5_t8_3_b0.fab)) fun ⟨a_cs51, c_cs52, r_cs53⟩ => ?_
                         refine bindG H fun y20_9 hy20_9 H => ?_
                         refine xc [1] [0] [0,0] (funderF b_fab44 a_cs51 c_cs52 r_cs53 hy20_9) fun _ => ?_
                         refine xs [1,1] H ?_ ?_
                         · intro H
                           refine chkG H fun q21_3_1 H => ?_
                           refine xi [1] 6 hnoiseA q21_3_1 fun b2 o2 e2 => ?_
                           refine xpl [] 6 (ol_ld hnoiseA e2 q21_3_1 0 (fun _ => rfl)) ?_
                           refine bindG H fun y21_5 hy21_5 H => ?_
                           refine xq [] (within_fq hy21_5) ?_
                           refine xg [] [0] [0,0] (gh_shut (FabO b_fab44 v5_t8_3_b0.fab) (a_cs51, c_cs52, r_cs53)) fun _ => ?_
                           refine xg [] [0] [0,0,0,0,0] (gh_shut (MachO t8_3_b0 v5_t8_3_b0) (b_fab44, b_trace45, a_c_init46, c_c_init47, a_nodes48, c_nodes49, r_nodes50)) fun _ => ?_
                           refine bindG H fun y21_9 hy21_9 H => ?_
                           refine xc [] [] [0] (mdoF t8_3_b0 hy21_9) fun _ => ?_
                           exact xe [] _ [] [0,0] (hN8 (y21_9.2) H)
                         · intro H
                           refine xg [0] [0] [0,0] (gh_shut (FabO b_fab44 v5_t8_3_b0.fab) (a_cs51, c_cs52, r_cs53)) fun _ => ?_
                           refine xg [] [0] [0,0,0,0,0] (gh_shut (MachO t8_3_b0 v5_t8_3_b0) (b_fab44, b_trace45, a_c_init46, c_c_init47, a_nodes48, c_nodes49, r_nodes50)) fun _ => ?_
                           exact xe [] _ [] [0,0] (hN8 (v5_t8_3_b0) H)
                       · intro H
                         exact xe [0,0,0,0,0,0,0,0] _ [] [0,0] (hN8 (v5_t8_3_b0) H)
                 · intro N6 hN6
                   refine xs [] H ?_ ?_
                   · intro H
                     refine xg [1,1] [] [0] (gh_open (MachO t8_3_b0 v5_t8_3_b0)) fun ⟨b_fab54, b_trace55, a_c_init56, c_c_init57, a_nodes58, c_nodes59, r_nodes60⟩ => ?_
                     refine bindG H fun y18_4 hy18_4 H => ?_
                     refine xc [1] [0] [0,0,0,0,0] (mleftF t8_3_b0 b_fab54 b_trace55 a_c_init56 c_c_init57 a_nodes58 c_nodes59 r_nodes60 hy18_4) fun _ => ?_
                     refine xs [1,1,1] H ?_ ?_
                     · intro H
                       refine xg [0,0,0,1,1,1,1] [0] [0,0,0,0,0] (gh_shut (MachO t8_3_b0 v5_t8_3_b0) (b_fab54, b_trace55, a_c_init56, c_c_init57, a_nodes58, c_nodes59, r_nodes60)) fun _ => ?_
                       exact xe [] _ [] [0,0] (hN6 () H)
                     · intro H
                       refine bindG H fun y18_9 hy18_9 H => ?_
                       refine xc [1,1] [0] [0,0,0,0,0] (mquietF t8_3_b0 b_fab54 b_trace55 a_c_init56 c_c_init57 a_nodes58 c_nodes59 r_nodes60 hy18_9) fun _ => ?_
                       refine xs [1,1,0,1] H ?_ ?_
                       · intro H
                         refine xg [1] [0] [0,0,0,0,0] (gh_shut (MachO t8_3_b0 v5_t8_3_b0) (b_fab54, b_trace55, a_c_init56, c_c_init57, a_nodes58, c_nodes59, r_nodes60)) fun _ => ?_
                         exact xe [] _ [] [0,0] (hN6 () H)
                       · intro H
                         refine xg [0] [0] [0,0,0,0,0] (gh_shut (MachO t8_3_b0 v5_t8_3_b0) (b_fab54, b_trace55, a_c_init56, c_c_init57, a_nodes58, c_nodes59, r_nodes60)) fun _ => ?_
                         exact xe [] _ [] [0,0] (hN4 (v5_t8_3_b0) H)
                   · intro H
                     exact xe [0,0,0,0,0,0,0,0,0,0,0] _ [] [0,0] (hN4 (v5_t8_3_b0) H)
         · intro H
           exact xe [0] _ [] [0,0] (hN1 (v2_t8_3_b0) H)
 · intro N0 hN0
   refine xl [] (ι := List (List OpS) × Int × Option Addr × Nat) (fun (v10_8x, v10_9, v10_8a, v10_8c) => ⟨[(0, .int .i64 (wr ((1 : Int) + y2_1))), (1, .slice noisea (List.length noise) noisec), (2, .int .u16 mask), (7, .int .i64 (3)), (8, .slice v10_8a (List.length v10_8x) v10_8c), (9, .int .i64 v10_9)], [], [(ArrO v10_8a v10_8c v10_8x), noiseA]⟩) (fun m10 (v10_8x, v10_9, v10_8a, v10_8c) => topPassS_l10 y2_1 (topPassS_j0 y2_1 noise mask) m10 v10_8x v10_9 = some y) [] [0,0] (128) (l3_1, (0 : Int), some ⟨b3_1, 0, none⟩, ((3 : Int)).toNat) H ?_
   rintro N10 (_ | m10) ⟨v10_8x, v10_9, v10_8a, v10_8c⟩ H hN10
   · exact (noneE H).elim
   replace H : topPassS_l10 y2_1 (topPassS_j0 y2_1 noise mask) (m10 + 1) v10_8x v10_9 = some y := H
   rw [topPassS_l10] at H
   refine xs [1] H ?_ ?_
   · intro H
     refine chkG H fun q7_3_1 H => ?_
     refine xp [1,0,1,2,3] (ov_rem (a := v10_9) (b := (3 : Int)) q7_3_1) ?_
     refine chkG H fun q7_7_1 H => ?_
     refine xp [4,5,6,7] (ov_rem (a := v10_9) (b := (3 : Int)) q7_7_1) ?_
     refine chkG H fun q7_8_1 H => ?_
     refine xg [8] [] [0] (gh_foc v10_8a v10_8c v10_8x (v10_9.tmod (3 : Int)) q7_8_1) fun ⟨wa1, wc1⟩ => ?_
     refine xiG (K := 1) [] 1 (ix_hol v10_8a v10_8c v10_8x (v10_9.tmod (3 : Int)) (wa1, wc1) q7_8_1) q7_8_1 fun b3 o3 e3 => ?_
     refine xpl [9] 1 (ol_hld v10_8a v10_8c v10_8x (v10_9.tmod (3 : Int)) (wa1, wc1) e3 q7_8_1 0 rfl) ?_
     refine xn [10,11] fun b7_11 => ?_
     refine xg [12] [0] [3] (gh_one b7_11 29 (⟨(3 : Int), (0 : Int), (1 : Int)⟩ : OpS) ()) fun _ => ?_
     refine chkG H fun q7_12_1 H => ?_
     refine letG H fun l7_12 hl7_12 H => ?_
     refine xa [] [1,0] (a := wa1) (l := (nthR v10_8x (v10_9.tmod (3 : Int)))) (zs := l7_12) (cap := wc1) (rA (some ⟨b7_11, 0, none⟩) 1 ([(⟨(3 : Int), (0 : Int), (1 : Int)⟩ : OpS)])) hl7_12 (hl7_12 ▸ q7_12_1) fun ⟨a7_12, c7_12⟩ => ?_
     refine chkG H fun q7_13_1 H => ?_
     refine xiG (K := 1) [13] 2 (ix_hol v10_8a v10_8c v10_8x (v10_9.tmod (3 : Int)) (wa1, wc1) q7_13_1) q7_13_1 fun b4 o4 e4 => ?_
     refine letG H fun l7_14 hl7_14 H => ?_
     refine xo [14] [] [0,1] (oc_hst v10_8a v10_8c v10_8x (v10_9.tmod (3 : Int)) (wa1, wc1) l7_12 (a7_12, c7_12) e4 q7_8_1 hl7_14) fun _ => ?_
     refine xw [] 8 (congrArg (fun n : Nat => (.slice v10_8a n v10_8c : Value)) (setR_len hl7_14)) ?_
     refine xw [] 31 (congrArg (fun n : Nat => (.slice v10_8a n v10_8c : Value)) (setR_len hl7_14)) ?_
     refine xw [] 35 (congrArg (fun n : Nat => (.slice v10_8a n v10_8c : Value)) (setR_len hl7_14)) ?_
     refine chkG H fun q6_1_1 H => ?_
     refine xd [0] (ap q6_1_1 an) ?_
     exact xe [] _ [] [0,1] (hN10 _ (l7_14, v10_9 + (1 : Int), v10_8a, v10_8c) (Nat.lt_succ_self _) H)
   · intro H
     exact xe [0] _ [] [0,0] (hN0 (v10_8x, v10_8a, v10_8c) H)
end Go.Proofs.YtcidmgkfaioceaaGreat
namespace Go.Proofs.YtcidmgkfaioceaaGreat
open Go
set_option linter.unusedVariables false
/-- What one tells, the other one does. -/
def Le {α : Type} (x y : Option α) : Prop := ∀ r, x = some r → y = some r
namespace Le
variable {α β : Type} {x y a b c d : Option α}
theorem rfl' : Le x x := fun _ h => h
theorem bind {x : Option β} {f g : β → Option α} (h : ∀ b, x = some b → Le (f b) (g b)) : Le (x.bind f) (x.bind g) := fun r hr => by
  cases x with
  | none => cases hr
  | some b => exact h b rfl r hr
theorem bif' (t : Bool) (h1 : Le a c) (h2 : Le b d) : Le (bif t then a else b) (bif t then c else d) := by cases t <;> assumption
theorem chk {p : Prop} [Decidable p] (h : Le a b) : Le (chk p a) (chk p b) := fun r hr => by
  unfold Go.Proofs.YtcidmgkfaioceaaGreat.chk at *
  split at hr
  · rename_i hp; rw [if_pos hp]; exact h r hr
  · cases hr
theorem opt {o : Option β} {f g : β → Option α} (h : ∀ b, Le (f b) (g b)) (h2 : Le a b) : Le (optM o f a) (optM o g b) := by
  cases o with
  | none => exact h2
  | some b => exact h b
end Le
def okM (m : MachS) : Bool := match fpktS m.fab 0 with
  | some (p, true) => decide (PLegal p)
  | _ => false
theorem bor15 {mask : Int} (h0 : 0 ≤ mask) (h1 : mask < 65536) : ∃ M : Nat, bor .u16 mask 32768 = ((M : Nat) : Int) ∧ M < 65536 ∧ M.testBit 15 = true := by
  refine ⟨(BitVec.ofInt 16 mask ||| BitVec.ofInt 16 32768).toNat, ?_, (BitVec.ofInt 16 mask ||| BitVec.ofInt 16 32768).isLt, ?_⟩
  · unfold bor
    have := (BitVec.ofInt 16 mask ||| BitVec.ofInt 16 32768).isLt
    show IntKind.u16.wrap _ = _
    rw [w16]
    show (((BitVec.ofInt 16 mask ||| BitVec.ofInt 16 32768).toNat : Nat) : Int) % 65536 = _
    omega
  · show (BitVec.ofInt 16 mask ||| BitVec.ofInt 16 32768).getLsbD 15 = true
    rw [BitVec.getLsbD_or, show (BitVec.ofInt 16 32768).getLsbD 15 = true by decide, Bool.or_true]
theorem hits_true {n : Nat} {bit : Int} {M : Nat} (h0 : 0 ≤ bit) (h1 : bit < 8 * ((n : Nat) : Int)) (hM : M.testBit 15 = true) : hits n bit ((M : Nat) : Int) = true := by
  unfold hits
  rw [List.any_eq_true]
  refine ⟨true, ?_, rfl⟩
  unfold ebR
  rw [List.mem_map]
  refine ⟨bit.toNat, List.mem_range.2 (by omega), ?_⟩
  unfold ebit
  have e : 8 * ((0 : Nat) : Int) + ((bit.toNat : Nat) : Int) - bit = 0 := by omega
  rw [e]
  simp [hM]
theorem noise_no {m : MachS} {bit mask : Int} (hm : okM m = true) (hb : 0 ≤ bit ∧ bit < 90) (h0 : 0 ≤ mask) (h1 : mask < 65536) : mdoS m ⟨true, 0, bit, bor .u16 mask 32768⟩ = some (false, m) := by
  unfold okM at hm
  split at hm
  · rename_i p hp
    have hL := of_decide_eq_true hm
    obtain ⟨M, e1, e2, e3⟩ := bor15 h0 h1
    have hM : M ≠ 0 := by intro h; subst h; simp at e3
    have hw : wireP p bit (bor .u16 mask 32768) = some (pkt0, 2) := by
      rw [e1]
      unfold wireP
      rw [if_pos ⟨hL, ⟨hb.1, by omega⟩, by omega, by omega⟩, if_neg (by omega), if_pos (hits_true hb.1 (by omega) e3)]
    unfold mdoS
    simp only [cond_true]
    have hf : fdelS m.fab 0 bit (bor .u16 mask 32768) = some (2, m.fab) := by
      unfold fdelS
      rw [hp, Option.bind_some]
      simp only [Bool.not_true, cond_false]
      rw [hw, Option.bind_some]
      rfl
    rw [hf]
    rfl
  · cases hm
/-! The same without noise; no packet is under way that might not be. -/
def passC_j6 (v5_14 : Int) (m : MachS) (r5 : Int → MachS → Option Bool) : Option Bool :=
 (funderS m.fab).bind fun u => (bif decide ((0 : Int) < u) then (bif okM m then topPassS_j8 (topPassS_j7 v5_14 r5) m else none) else topPassS_j8 (topPassS_j7 v5_14 r5) m)
def passC_l5 (y14_1 : Int) (k4 : MachS → Option Bool) : Nat → Int → MachS → Option Bool
 | 0, _, _ => none
 | m + 1, v5_14, v5 => (bif decide (v5_14 < (100 : Int)) then (mleftS v5).bind fun y18_4 => (bif decide (y18_4 = y14_1) then (passC_j6 v5_14 v5 (passC_l5 y14_1 k4 m)) else (mquietS v5).bind fun y18_9 => (bif !y18_9 then (passC_j6 v5_14 v5 (passC_l5 y14_1 k4 m)) else k4 v5)) else k4 v5)
def passC_l2 (y2_1 : Int) (k1 : MachS → Option Bool) : Nat → Int → MachS → Option Bool
 | 0, _, _ => none
 | m + 1, v2_12, v2 => (bif decide (v2_12 < (wr ((wr ((1 : Int) + y2_1)) * (3 : Int)))) then (mleftS v2).bind fun y14_1 => chk (1 ≤ (3 : Int)) ((mdoS v2 (⟨false, v2_12.tmod (3 : Int), (0 : Int), (0 : Int)⟩ : PickS)).bind fun y15_5 => (bif !y15_5.1 then some false else passC_l5 y14_1 (topPassS_j4 v2_12 y14_1 (topPassS_j3 v2_12 (passC_l2 y2_1 k1 m))) 128 (0 : Int) y15_5.2)) else k1 v2)
def passC_j0 (y2_1 : Int) (e0_8x : List (List OpS)) : Option Bool :=
 (tsmallS (3 : Int)).bind fun y8_1 => (mnewmS y8_1 e0_8x).bind fun y8_3 => (bif !(decide (y8_3.2 = (0 : Int))) then some false else (optM y8_3.1 (fun n9_3_1 => passC_l2 y2_1 topPassS_j1 128 (0 : Int) n9_3_1) (some false)))
def passC (y2_1 : Int) : Option Bool := topPassS_l10 y2_1 (passC_j0 y2_1) 128 (List.replicate 3 []) 0
theorem passC_0 : passC 0 = some true := by kernel_rfl
theorem passC_1 : passC 1 = some true := by kernel_rfl
theorem passC_2 : passC 2 = some true := by kernel_rfl
theorem passC_3 : passC 3 = some true := by kernel_rfl
theorem passC_4 : passC 4 = some true := by kernel_rfl
/-! Noise changes nothing. -/
theorem l9_le {k k' : MachS → Option Bool} (h : ∀ m, Le (k m) (k' m)) : ∀ (n : Nat) (i : Int) (m : MachS), Le (topPassS_l9 k n i m) (topPassS_l9 k' n i m)
  | 0, _, _ => Le.rfl'
  | n + 1, i, m => by
    rw [topPassS_l9, topPassS_l9]
    exact Le.bif' _ (Le.bind fun a _ => Le.bif' _ (Le.bind fun b _ => Le.chk (l9_le h n _ _)) (Le.chk (l9_le h n _ _))) (h m)
theorem j8_le {k k' : MachS → Option Bool} (h : ∀ m, Le (k m) (k' m)) (m : MachS) : Le (topPassS_j8 k m) (topPassS_j8 k' m) := Le.bind fun a _ => l9_le h _ _ _
theorem within90 (v : Int) (hv : -9223372036854775808 ≤ v ∧ v ≤ 9223372036854775807) : ∃ b, withinS v 90 = some b ∧ 0 ≤ b ∧ b < 90 := by
  unfold withinS
  rw [decide_eq_false (by decide), cond_false, chk_true (by decide)]
  by_cases h : v.tmod 90 < 0
  · have h1 := Int.lt_tmod_of_pos v (show (0 : Int) < 90 by decide)
    refine ⟨v.tmod 90 + 90, ?_, by omega, by omega⟩
    rw [decide_eq_true h, cond_true, chk_true (by unfold inR; omega)]
  · have h1 := Int.tmod_lt_of_pos v (show (0 : Int) < 90 by decide)
    refine ⟨v.tmod 90, ?_, by omega, by omega⟩
    rw [decide_eq_false h, cond_false]
theorem l10_le (y : Int) {k k' : List (List OpS) → Option Bool} (h : ∀ l, Le (k l) (k' l)) : ∀ (n : Nat) (l : List (List OpS)) (i : Int), Le (topPassS_l10 y k n l i) (topPassS_l10 y k' n l i)
  | 0, _, _ => Le.rfl'
  | n + 1, l, i => by
    rw [topPassS_l10, topPassS_l10]
    exact Le.bif' _ (Le.chk (Le.chk (Le.chk (Le.chk (Le.chk (Le.chk (l10_le y h n _ _))))))) (h l)
section
variable {noise : List Int} {mask : Int} (hn : ∀ v ∈ noise, -9223372036854775808 ≤ v ∧ v ≤ 9223372036854775807) (h0 : 0 ≤ mask) (h1 : mask < 65536)
include hn h0 h1
theorem j6_le {v : Int} {m : MachS} {r r' : Int → MachS → Option Bool} (hv : 0 ≤ v) (h : ∀ i m, Le (r i m) (r' i m)) : Le (passC_j6 v m r) (topPassS_j6 v noise m mask r') := by
  have h7 : ∀ m, Le (topPassS_j7 v r m) (topPassS_j7 v r' m) := fun m => Le.chk (h _ m)
  unfold passC_j6 topPassS_j6
  intro x hx
  obtain ⟨u, hu, hx⟩ := Option.bind_eq_some_iff.1 hx
  cases hd : decide (v < ((noise.length : Nat) : Int)) with
  | false =>
    rw [cond_false]
    cases hz : decide ((0 : Int) < u) with
    | true =>
      rw [hz, cond_true] at hx
      cases hk : okM m with
      | true => rw [hk, cond_true] at hx; exact j8_le h7 m x hx
      | false => rw [hk, cond_false] at hx; cases hx
    | false => rw [hz, cond_false] at hx; exact j8_le h7 m x hx
  | true =>
    rw [cond_true, hu, Option.bind_some]
    have hd2 := of_decide_eq_true hd
    cases hz : decide ((0 : Int) < u) with
    | true =>
      rw [hz, cond_true] at hx
      rw [cond_true, chk_true ⟨hv, hd2⟩]
      cases hk : okM m with
      | true =>
        rw [hk, cond_true] at hx
        have hmem : nth noise v ∈ noise := by
          unfold nth
          rw [List.getD_eq_getElem?_getD, List.getElem?_eq_getElem (by omega)]
          exact List.getElem_mem _
        obtain ⟨b, e1, e2⟩ := within90 _ (hn _ hmem)
        rw [e1, Option.bind_some, noise_no hk e2 h0 h1, Option.bind_some]
        exact j8_le h7 m x hx
      | false => rw [hk, cond_false] at hx; cases hx
    | false => rw [hz, cond_false] at hx; rw [cond_false]; exact j8_le h7 m x hx
theorem l5_le (y : Int) {k k' : MachS → Option Bool} (h : ∀ m, Le (k m) (k' m)) : ∀ (n : Nat) (i : Int) (m : MachS), 0 ≤ i → Le (passC_l5 y k n i m) (topPassS_l5 y noise mask k' n i m)
  | 0, _, _, _ => Le.rfl'
  | n + 1, i, m, hi => by
    have hr : ∀ (j : Int) (m : MachS), 0 ≤ j → Le (passC_l5 y k n j m) (topPassS_l5 y noise mask k' n j m) := fun j m hj => l5_le y h n j m hj
    have hj6 : Le (passC_j6 i m (passC_l5 y k n)) (topPassS_j6 i noise m mask (topPassS_l5 y noise mask k' n)) := by
      refine fun x hx => ?_
      have e : passC_j6 i m (passC_l5 y k n) = passC_j6 i m (fun j m => bif decide (0 ≤ j) then passC_l5 y k n j m else none) := by
        unfold passC_j6 topPassS_j7
        dsimp only
        rw [decide_eq_true (show (0 : Int) ≤ i + 1 by omega)]
        rfl
      rw [e] at hx
      refine j6_le hn h0 h1 hi (fun j m => ?_) x hx
      cases hd : decide (0 ≤ j) with
      | true => exact hr j m (of_decide_eq_true hd)
      | false => intro _ h; cases h
    rw [passC_l5, topPassS_l5]
    exact Le.bif' _ (Le.bind fun a _ => Le.bif' _ hj6 (Le.bind fun b _ => Le.bif' _ hj6 (h m))) (h m)
theorem l2_le (y : Int) {k k' : MachS → Option Bool} (h : ∀ m, Le (k m) (k' m)) : ∀ (n : Nat) (i : Int) (m : MachS), Le (passC_l2 y k n i m) (topPassS_l2 y noise mask k' n i m)
  | 0, _, _ => Le.rfl'
  | n + 1, i, m => by
    rw [passC_l2, topPassS_l2]
    refine Le.bif' _ (Le.bind fun a _ => Le.chk (Le.bind fun b _ => Le.bif' _ Le.rfl' (l5_le hn h0 h1 a (fun m => ?_) _ _ _ (by decide)))) (h m)
    exact Le.chk (Le.bind fun c _ => Le.opt (fun d => Le.chk (Le.bind fun e _ => Le.bind fun f _ => Le.bif' _ Le.rfl' (Le.bif' _ Le.rfl' (Le.chk (Le.bif' _ Le.rfl' (Le.chk (l2_le y h n _ _))))))) Le.rfl')
theorem j0_le (y : Int) (l : List (List OpS)) : Le (passC_j0 y l) (topPassS_j0 y noise mask l) :=
  Le.bind fun a _ => Le.bind fun b _ => Le.bif' _ Le.rfl' (Le.opt (fun m => l2_le hn h0 h1 y (fun _ => Le.rfl') _ _ _) Le.rfl')
theorem topPass_pure (turns : Int) (ht : -9223372036854775808 ≤ turns ∧ turns ≤ 9223372036854775807) : topPassS turns noise mask = some true := by
  obtain ⟨y, e1, e2⟩ : ∃ b, withinS turns 5 = some b ∧ 0 ≤ b ∧ b < 5 := by
    unfold withinS
    rw [decide_eq_false (by decide), cond_false, chk_true (by decide)]
    by_cases h : turns.tmod 5 < 0
    · have h1 := Int.lt_tmod_of_pos turns (show (0 : Int) < 5 by decide)
      refine ⟨turns.tmod 5 + 5, ?_, by omega, by omega⟩
      rw [decide_eq_true h, cond_true, chk_true (by unfold inR; omega)]
    · have h1 := Int.tmod_lt_of_pos turns (show (0 : Int) < 5 by decide)
      refine ⟨turns.tmod 5, ?_, by omega, by omega⟩
      rw [decide_eq_false h, cond_false]
  have h : passC y = some true := by
    have : y = 0 ∨ y = 1 ∨ y = 2 ∨ y = 3 ∨ y = 4 := by omega
    rcases this with rfl | rfl | rfl | rfl | rfl
    · exact passC_0
    · exact passC_1
    · exact passC_2
    · exact passC_3
    · exact passC_4
  unfold topPassS
  rw [e1, Option.bind_some, chk_true (by decide)]
  exact l10_le y (fun l => j0_le hn h0 h1 y l) _ _ _ true h
end
end Go.Proofs.YtcidmgkfaioceaaGreat
namespace Go.Proofs.YtcidmgkfaioceaaGreat
open Go Go.RowKit Go.ChangeShapes
set_option linter.unusedVariables false
theorem Sat.came {W : World} : ∀ {As : List Asn}, (∀ A ∈ As, A.holds (fun _ => False) (fun b => b < W.heap.size) (fun b => W.heap[b]?)) → Sat W As W := by
  intro As h
  refine ⟨fun _ => False, fun b => b < W.heap.size, ?_, fun _ h => h.elim, fun _ h => h.elim, fun _ h => h, fun _ h => h, Below.refl _ _⟩
  induction As with
  | nil => trivial
  | cons A As ih => exact ⟨fun _ => False, fun _ => False, fun _ h => h.elim, fun _ h => h.elim, fun _ h => h.elim, h A (by simp), ih fun B hB => h B (by simp [hB])⟩
theorem walk_of {P : Program} {f : FuncId} {args : List Value} {As : List Asn} {post : Bool → Unit → Rs} {w : World} (hs : Sat w As w) (h : FnY P f args ⟨[], As⟩ (Z := Unit) (fun y _ => .bool y) post true) : Calls P f args.toArray w fun e w' => e = .returned (.bool true) ∧ RowKit.Below w.heap.size w w' := by
  have hp : Sat w ((⟨[], As⟩ : Rs).all []) w := by
    have : (⟨[], As⟩ : Rs).all [] = As := by simp [Rs.all, owns]
    rw [this]; exact hs
  exact (h w [] w hp).mono fun _ _ ⟨_, _, h1, ⟨_, h2, _⟩, h3⟩ => ⟨by rw [h1, h2], h3.below⟩
theorem wf_u16 {n : Int} (h : (Lit.int .u16 n).wf = true) : 0 ≤ n ∧ n < 65536 := by
  have h1 : (decide (IntKind.u16.min ≤ n) && decide (n ≤ IntKind.u16.max)) = true := h
  rw [Bool.and_eq_true] at h1
  have a := of_decide_eq_true h1.1
  have b := of_decide_eq_true h1.2
  have e1 : IntKind.u16.min = 0 := rfl
  have e2 : IntKind.u16.max = 65535 := rfl
  rw [e1] at a
  rw [e2] at b
  exact ⟨a, by omega⟩
/-- The slice came in: the numbers zs are its elements. -/
def IntsIn (W : World) (a : Option Addr) (len cap : Nat) (zs : List Int) : Prop := len = zs.length ∧ len ≤ cap ∧ cap ≤ 9223372036854775807 ∧ (∀ i, i < zs.length → ∃ x, a = some x ∧ W.cell? (x.add i) = some (.int .i64 (zs.getD i 0))) ∧ ∀ n ∈ zs, -9223372036854775808 ≤ n ∧ n ≤ 9223372036854775807
theorem IntsIn.none {W : World} : IntsIn W none 0 0 [] := ⟨rfl, Nat.le_refl _, by omega, fun i h => by simp at h, by simp⟩
theorem IntsIn.some {W : World} {x : Addr} {l c : Nat} {zs : List Int} (hl : l ≤ c) (hm : c ≤ 9223372036854775807) (hz : zs.length = c) (hcell : ∀ i, i < zs.length → W.cell? (x.add i) = .some (.int .i64 (zs.getD i 0))) (hwz : ∀ n ∈ zs, (Lit.int .i64 n).wf = true) :
    IntsIn W (.some x) l c (zs.take l) := by
  refine ⟨by simp; omega, hl, hm, fun i hi => ⟨x, rfl, ?_⟩, fun n hn => bounds_i64 (hwz n (List.mem_of_mem_take hn))⟩
  rw [List.length_take] at hi
  rw [hcell i (by omega)]
  rw [List.getD_eq_getElem?_getD, List.getD_eq_getElem?_getD, List.getElem?_take_of_lt (by omega)]
theorem cell_block {W : World} {x : Addr} {v : Value} (h : W.cell? (x.add 0) = some v) : ∃ c T fr, x = ⟨x.block, x.off, none⟩ ∧ W.heap[x.block]? = some (.cells c T fr) ∧ x.block < W.heap.size := by
  have h0 : x.add 0 = x := by simp [Addr.add]
  rw [h0] at h
  unfold World.cell? at h
  cases ho : W.heap[x.block]? with
  | none => rw [ho] at h; cases h
  | some o =>
    rw [ho] at h
    cases o with
    | cells c T fr =>
      simp only at h
      cases hs : x.spot with
      | some s => rw [hs] at h; cases h
      | none =>
        refine ⟨c, T, fr, ?_, rfl, (Array.getElem?_eq_some_iff.1 ho).1⟩
        cases x with
        | mk b o s => cases hs; rfl
    | _ => cases h
theorem IntsIn.imm {W : World} {a : Option Addr} {len cap : Nat} {zs : List Int} (h : IntsIn W a len cap zs) : (ImmA a cap zs).holds (fun _ => False) (fun b => b < W.heap.size) (fun b => W.heap[b]?) := by
  obtain ⟨rfl, h1, _, h2, _⟩ := h
  refine ⟨h1, List.replicate zs.length (), by simp, ⟨rowsOf_k, ?_⟩, fun i a x e1 e2 => trivial⟩
  cases zs with
  | nil => exact .inl rfl
  | cons z zs =>
    obtain ⟨x, rfl, hx⟩ := h2 0 (by simp)
    obtain ⟨c, T, fr, e1, e2, e4⟩ := cell_block hx
    refine .inr ⟨x.block, x.off, c, T, fr, by rw [← e1], e4, e2, fun j v hj => ?_⟩
    have hrows : (rowsOf (z :: zs) (List.replicate (z :: zs).length ())).flatten = (z :: zs).map (Value.int .i64) := by
      have : ∀ l : List Int, (rowsOf l (List.replicate l.length ())).flatten = l.map (Value.int .i64) := by
        intro l
        induction l with
        | nil => rfl
        | cons y l ih =>
          show ([Value.int .i64 y] :: rowsOf l (List.replicate l.length ())).flatten = _
          rw [List.flatten_cons, ih]
          rfl
      exact this _
    rw [hrows, List.getElem?_map] at hj
    cases hy : (z :: zs)[j]? with
    | none => rw [hy] at hj; cases hj
    | some y =>
      rw [hy] at hj
      obtain rfl := Option.some.inj hj
      have hjl : j < (z :: zs).length := (List.getElem?_eq_some_iff.1 hy).1
      obtain ⟨x', hx', hc⟩ := h2 j hjl
      obtain rfl := Option.some.inj hx'
      rw [e1, add_none, cell_of e2, List.getD_eq_getElem?_getD, hy] at hc
      exact hc
end Go.Proofs.YtcidmgkfaioceaaGreat
