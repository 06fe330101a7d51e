/- Walks of the program's functions, and the plain laws of what they compute (part 1): SlCore, SlWp, SlDraw, SlRules, SlMem, SlRows, Eng, EngB, EngC, EngD.
   Conditions: none. -/
import Derived.Calls
import Derived.Orders
import Derived.Below
import Derived.Deep.LoopGhost
import Derived.KernelRfl
import Derived.OrdersIn
import Derived.LoopN
import Derived.Laws.AppendOwn
set_option linter.unusedVariables false
set_option linter.unusedSimpArgs false
set_option linter.unusedSectionVars false
set_option maxRecDepth 100000
set_option maxHeartbeats 4000000
namespace Go.Proofs.YtcidmgkfaioceaaGreat
section
open Go Go.RowKit
structure Asn where
 holds:(Nat→Prop)→(Nat→Prop)→(Nat→Option Obj)→Prop
 loc:∀ {S I:Nat→Prop} {h h':Nat→Option Obj},holds S I h→(∀ b,S b∨I b→h' b=h b)→holds S I h'
 mono:∀ {S I I':Nat→Prop} {h:Nat→Option Obj},holds S I h→(∀ b,I b→I' b)→holds S I' h
def Star:List Asn→(Nat→Prop)→(Nat→Prop)→(Nat→Option Obj)→Prop
 |[],_,_,_=>True
 |A::Γ,S,I,h=>∃ S1 S2:Nat→Prop,(∀ b,S1 b→S b)∧(∀ b,S2 b→S b)∧(∀ b,S1 b→S2 b→False)∧A.holds S1 I h∧Star Γ S2 I h
theorem Star.loc {Γ:List Asn} {S I:Nat→Prop} {h h':Nat→Option Obj} (hs:Star Γ S I h) (he:∀ b,S b∨I b→h' b=h b):Star Γ S I h':=by
 induction Γ generalizing S with
 |nil=>trivial
 |cons A Γ ih =>
  obtain ⟨S1,S2,h1,h2,h3,h4,h5⟩:=hs
  exact ⟨S1,S2,h1,h2,h3,A.loc h4 fun b hb=>he b (hb.imp (h1 b) id),ih h5 fun b hb=>he b (hb.imp (h2 b) id)⟩
theorem Star.mono {Γ:List Asn} {S I I':Nat→Prop} {h:Nat→Option Obj} (hs:Star Γ S I h) (hi:∀ b,I b→I' b):Star Γ S I' h:=by
 induction Γ generalizing S with
 |nil=>trivial
 |cons A Γ ih =>
  obtain ⟨S1,S2,h1,h2,h3,h4,h5⟩:=hs
  exact ⟨S1,S2,h1,h2,h3,A.mono h4 hi,ih h5⟩
theorem Star.wide {Γ:List Asn} {S S' I:Nat→Prop} {h:Nat→Option Obj} (hs:Star Γ S I h) (hi:∀ b,S b→S' b):Star Γ S' I h:=by
 cases Γ with
 |nil=>trivial
 |cons A Γ =>
  obtain ⟨S1,S2,h1,h2,h3,h4,h5⟩:=hs
  exact ⟨S1,S2,fun b hb=>hi b (h1 b hb),fun b hb=>hi b (h2 b hb),h3,h4,h5⟩
inductive Pull:List Asn→Asn→List Asn→Prop
 |here {A:Asn} {Γ:List Asn}:Pull (A::Γ) A Γ
 |there {A B:Asn} {Γ Γ':List Asn}:Pull Γ A Γ'→Pull (B::Γ) A (B::Γ')
theorem Star.pull {Γ Γ':List Asn} {A:Asn} (hp:Pull Γ A Γ') {S I:Nat→Prop} {h:Nat→Option Obj} (hs:Star Γ S I h):Star (A::Γ') S I h:=by
 induction hp generalizing S with
 |here=>exact hs
 |there _ ih =>
  obtain ⟨S1,S2,h1,h2,h3,h4,h5⟩:=hs
  obtain ⟨T1,T2,k1,k2,k3,k4,k5⟩:=ih h5
  refine ⟨T1,fun b=>S1 b∨T2 b,fun b hb=>h2 b (k1 b hb),fun b hb=>hb.elim (h1 b) fun t=>h2 b (k2 b t),fun b ht hb=>hb.elim (fun s=>h3 b s (k1 b ht)) (k3 b ht),k4,?_⟩
  exact ⟨S1,T2,fun _ hb=>.inl hb,fun _ hb=>.inr hb,fun b hs1 ht=>h3 b hs1 (k2 b ht),h4,k5⟩
theorem Star.push {Γ Γ':List Asn} {A:Asn} (hp:Pull Γ A Γ') {S I:Nat→Prop} {h:Nat→Option Obj} (hs:Star (A::Γ') S I h):Star Γ S I h:=by
 induction hp generalizing S with
 |here=>exact hs
 |there _ ih =>
  obtain ⟨T1,R,k1,k2,k3,k4,S1,T2,h1,h2,h3,h4,h5⟩:=hs
  refine ⟨S1,fun b=>T1 b∨T2 b,fun b hb=>k2 b (h1 b hb),fun b hb=>hb.elim (k1 b) fun t=>k2 b (h2 b t),fun b hs1 hb=>hb.elim (fun t=>k3 b t (h1 b hs1)) (h3 b hs1),h4,?_⟩
  exact ih ⟨T1,T2,fun _ hb=>.inl hb,fun _ hb=>.inr hb,fun b ht ht2=>k3 b ht (h2 b ht2),k4,h5⟩
theorem Star.append_of {Γ Δ:List Asn} {S I:Nat→Prop} {h:Nat→Option Obj} (hs:Star (Γ++Δ) S I h) :
 ∃ S1 S2:Nat→Prop,(∀ b,S1 b→S b)∧(∀ b,S2 b→S b)∧(∀ b,S1 b→S2 b→False)∧Star Γ S1 I h∧Star Δ S2 I h:=by
 induction Γ generalizing S with
 |nil=>exact ⟨fun _=>False,S,fun _ hb=>hb.elim,fun _ hb=>hb,fun _ hb _=>hb,trivial,hs⟩
 |cons A Γ ih =>
  obtain ⟨S1,S2,h1,h2,h3,h4,h5⟩:=hs
  obtain ⟨T1,T2,k1,k2,k3,k4,k5⟩:=ih h5
  refine ⟨fun b=>S1 b∨T1 b,T2,fun b hb=>hb.elim (h1 b) fun t=>h2 b (k1 b t),fun b hb=>h2 b (k2 b hb),fun b hb ht=>hb.elim (fun s=>h3 b s (k2 b ht)) fun t=>k3 b t ht,?_,k5⟩
  exact ⟨S1,T1,fun _ hb=>.inl hb,fun _ hb=>.inr hb,fun b s t=>h3 b s (k1 b t),h4,k4⟩
theorem Star.append {Γ Δ:List Asn} {S I S1 S2:Nat→Prop} {h:Nat→Option Obj} (h1:∀ b,S1 b→S b) (h2:∀ b,S2 b→S b) (h3:∀ b,S1 b→S2 b→False)
 (hg:Star Γ S1 I h) (hd:Star Δ S2 I h):Star (Γ++Δ) S I h:=by
 induction Γ generalizing S S1 with
 |nil=>exact hd.wide h2
 |cons A Γ ih =>
  obtain ⟨T1,T2,k1,k2,k3,k4,k5⟩:=hg
  refine ⟨T1,fun b=>T2 b∨S2 b,fun b hb=>h1 b (k1 b hb),fun b hb=>hb.elim (fun t=>h1 b (k2 b t)) (h2 b),fun b ht hb=>hb.elim (k3 b ht) fun s=>h3 b (k1 b ht) s,k4,?_⟩
  exact ih (fun _ hb=>.inl hb) (fun _ hb=>.inr hb) (fun b t s=>h3 b (k2 b t) s) k5
namespace Asn
def own (b:Nat) (o:Obj):Asn where
 holds S _ h:=S b∧h b=some o
 loc:=fun ⟨hs,hb⟩ he=>⟨hs,(he _ (.inl hs)).trans hb⟩
 mono:=fun h _=>h
def pure (p:Prop):Asn where
 holds _ _ _:=p
 loc:=fun h _=>h
 mono:=fun h _=>h
def ex {α:Type} (f:α→Asn):Asn where
 holds S I h:=∃ x,(f x).holds S I h
 loc:=fun ⟨x,hx⟩ he=>⟨x,(f x).loc hx he⟩
 mono:=fun ⟨x,hx⟩ hi=>⟨x,(f x).mono hx hi⟩
def star (l:List Asn):Asn where
 holds S I h:=Star l S I h
 loc:=fun h he=>h.loc he
 mono:=fun h hi=>h.mono hi
end Asn
def Sat (W0:World) (Γ:List Asn) (w:World):Prop :=
 ∃ S I:Nat→Prop,Star Γ S I (fun b=>w.heap[b]?)∧(∀ b,S b→I b→False)∧(∀ b,S b→b<w.heap.size)∧(∀ b,I b→b<w.heap.size) ∧
  (∀ b,b<W0.heap.size→I b)∧Below W0.heap.size W0 w
namespace Sat
variable {W0 w:World} {Γ Γ' Δ:List Asn} {A B:Asn}
theorem below (h:Sat W0 Γ w):Below W0.heap.size W0 w:=let ⟨_,_,_,_,_,_,_,h⟩:=h; h
theorem imp (h:Sat W0 Γ w) (k:∀ S I,Star Γ S I (fun b=>w.heap[b]?)→Star Γ' S I (fun b=>w.heap[b]?)):Sat W0 Γ' w :=
 let ⟨S,I,h1,h2⟩:=h; ⟨S,I,k _ _ h1,h2⟩
theorem pull (hp:Pull Γ A Γ') (h:Sat W0 Γ w):Sat W0 (A::Γ') w:=h.imp fun _ _=>Star.pull hp
theorem push (hp:Pull Γ A Γ') (h:Sat W0 (A::Γ') w):Sat W0 Γ w:=h.imp fun _ _=>Star.push hp
theorem tail (h:Sat W0 (A::Γ) w):Sat W0 Γ w:=h.imp fun _ _ ⟨_,_,_,h2,_,_,h5⟩=>h5.wide h2
theorem drop (hp:Pull Γ A Γ') (h:Sat W0 Γ w):Sat W0 Γ' w:=(h.pull hp).tail
theorem head_imp (k:∀ S I h,A.holds S I h→B.holds S I h) (h:Sat W0 (A::Γ) w):Sat W0 (B::Γ) w :=
 h.imp fun _ _ ⟨S1,S2,h1,h2,h3,h4,h5⟩=>⟨S1,S2,h1,h2,h3,k _ _ _ h4,h5⟩
theorem ex_of {α:Type} {f:α→Asn} (h:Sat W0 (Asn.ex f::Γ) w):∃ x,Sat W0 (f x::Γ) w:=by
 obtain ⟨S,I,⟨S1,S2,h1,h2,h3,⟨x,h4⟩,h5⟩,r⟩:=h
 exact ⟨x,S,I,⟨S1,S2,h1,h2,h3,h4,h5⟩,r⟩
theorem ex_mk {α:Type} {f:α→Asn} (x:α) (h:Sat W0 (f x::Γ) w):Sat W0 (Asn.ex f::Γ) w:=h.head_imp fun _ _ _ k=>⟨x,k⟩
theorem pure_of {p:Prop} (h:Sat W0 (Asn.pure p::Γ) w):p∧Sat W0 Γ w:=by
 have ht:=h.tail
 obtain ⟨S,I,⟨S1,S2,h1,h2,h3,h4,h5⟩,r⟩:=h
 exact ⟨h4,ht⟩
theorem pure_mk {p:Prop} (hp:p) (h:Sat W0 Γ w):Sat W0 (Asn.pure p::Γ) w :=
 h.imp fun S _ h=>⟨fun _=>False,S,fun _ h=>h.elim,fun _ h=>h,fun _ h _=>h,hp,h⟩
theorem star_of {l:List Asn} (h:Sat W0 (Asn.star l::Γ) w):Sat W0 (l++Γ) w :=
 h.imp fun _ _ ⟨_,_,h1,h2,h3,h4,h5⟩=>Star.append h1 h2 h3 h4 h5
theorem star_mk {l:List Asn} (h:Sat W0 (l++Γ) w):Sat W0 (Asn.star l::Γ) w :=
 h.imp fun _ _ h=>let ⟨S1,S2,h1,h2,h3,h4,h5⟩:=h.append_of; ⟨S1,S2,h1,h2,h3,h4,h5⟩
theorem own_at {b:Nat} {o:Obj} (h:Sat W0 (Asn.own b o::Γ) w):w.heap[b]?=some o:=by
 obtain ⟨S,I,⟨S1,S2,h1,h2,h3,⟨_,h4⟩,h5⟩,r⟩:=h
 exact h4
theorem alloc (h:Sat W0 Γ w) (o:Obj):Sat W0 (Asn.own w.heap.size o::Γ) { w with heap:=w.heap.push o }:=by
 obtain ⟨S,I,h1,d1,d2,d3,d4,d5⟩:=h
 have hk:∀ b,b<w.heap.size→(w.heap.push o)[b]?=w.heap[b]?:=fun b hb=>by rw [Array.getElem?_push,if_neg (by omega)]
 refine ⟨fun b=>S b∨b=w.heap.size,I,⟨fun b=>b=w.heap.size,S,fun _ h=>.inr h,fun _ h=>.inl h,?_,⟨rfl,by simp⟩,h1.loc fun b hb=>hk b (hb.elim (d2 b) (d3 b))⟩,?_,?_,?_,d4,?_⟩
 · rintro b rfl hs
   exact Nat.lt_irrefl _ (d2 _ hs)
 · rintro b (hs | rfl) hi
   · exact d1 b hs hi
   · exact Nat.lt_irrefl _ (d3 _ hi)
 · rintro b (hs | rfl)
   · have:=d2 b hs; simp; omega
   · simp
 · intro b hi
   have:=d3 b hi; simp; omega
 · exact ⟨d5.os,d5.tape,d5.output,by have:=d5.size; simp; omega,fun b hb=>(hk b (d3 b (d4 b hb))).trans (d5.block b hb)⟩
theorem put {b:Nat} {o o':Obj} (h:Sat W0 (Asn.own b o::Γ) w) {w':World} (hos:w'.os=w.os) (htp:w'.tape=w.tape) (hou:w'.output=w.output)
 (hsz:w'.heap.size=w.heap.size) (hb:w'.heap[b]?=some o') (hk:∀ c,c≠b→w'.heap[c]?=w.heap[c]?):Sat W0 (Asn.own b o'::Γ) w':=by
 obtain ⟨S,I,⟨S1,S2,h1,h2,h3,⟨h4,h4'⟩,h5⟩,d1,d2,d3,d4,d5⟩:=h
 have hne:∀ c,c≠b→w'.heap[c]?=w.heap[c]?:=hk
 refine ⟨S,I,⟨S1,S2,h1,h2,h3,⟨h4,hb⟩,h5.loc fun c hc=>hne c ?_⟩,d1,fun c hc=>hsz▸d2 c hc,fun c hc=>hsz▸d3 c hc,d4,?_⟩
 · rintro rfl
   exact hc.elim (h3 c h4) (d1 c (h1 c h4))
 · refine ⟨hos.trans d5.os,htp.trans d5.tape,hou.trans d5.output,by rw [hsz]; exact d5.size,fun c hc=>(hne c ?_).trans (d5.block c hc)⟩
   rintro rfl
   exact d1 c (h1 c h4) (d4 c hc)
theorem drew (h:Sat W0 Γ w):Sat W0 Γ { w with drawn:=w.drawn+1 }:=by
 obtain ⟨S,I,h1,d1,d2,d3,d4,d5⟩:=h
 exact ⟨S,I,h1,d1,d2,d3,d4,⟨d5.os,d5.tape,d5.output,d5.size,d5.block⟩⟩
end Sat
end
section
open Go Go.RowKit
abbrev Env:=List (Nat×Value)
def lk:Env→Nat→Option Value
 |[],_=>none
 |(k,v)::r,t=>bif Nat.beq k t then some v else lk r t
def ev (e:Env):Operand→Value
 |.tmp t=>(lk e t).getD undef
 |.const v=>v
 |.global g=>.pointer (some ⟨g,0,none⟩)
 |.func f=>.func (.func f) #[] #[]
def knows (e:Env):Operand→Bool
 |.tmp t=>(lk e t).isSome
 |_=>true
structure Fm where
 n:Nat
 ds:List Deferred
 ro:Option Nat
def fenR (ro:Option Nat):Fence:={ Fence.wide with round:=ro }
def wpF (n:Fm) (P:Program) (c:Code) (Q:Exit→Act→World→Prop) (a:Act) (w:World):Prop:=c.wpIn (fenR n.ro) 0 P Q a w
theorem callsIn_fen {ro:Option Nat} {m:Nat} {P:Program} {f:FuncId} {args:Array Value} {w:World} {R:Ending→World→Prop} (h:Calls P f args w R):CallsIn (fenR ro) m P f args w R :=
 let h2:CallsIn Fence.wide m P f args w R:=callsIn_wide.2 h
 ⟨trivial,h2.2⟩
structure EnvOk (n:Fm) (e:Env) (a:Act):Prop where
 size:a.tmps.size=n.n
 defers:a.defers=n.ds
 get:∀ t v,lk e t=some v→a.tmps[t]?=some v
theorem lk_cons (k:Nat) (v:Value) (e:Env) (t:Nat):lk ((k,v)::e) t=if k=t then some v else lk e t:=by
 by_cases h:k=t
 · subst h; simp [lk]
 · have:Nat.beq k t=false:=by
    cases hb:Nat.beq k t with
    |false=>rfl
    |true=>exact absurd (Nat.eq_of_beq_eq_true hb) h
   simp [lk,this,h]
theorem EnvOk.eval {n:Fm} {e:Env} {a:Act} (h:EnvOk n e a) {x:Operand} (hk:knows e x=true):a.eval x=ev e x:=by
 cases x with
 |tmp t =>
  cases hl:lk e t with
  |none=>simp [knows,hl] at hk
  |some v =>
   have:=h.get t v hl
   simp [Act.eval,ev,hl,this]
 |_=>rfl
theorem EnvOk.put {n:Fm} {e:Env} {a:Act} (h:EnvOk n e a) {d:Nat} (hd:d<n.n) (v:Value):EnvOk n ((d,v)::e) (a.put (some d) v):=by
 refine ⟨by simp [Act.put,h.size],by simp [Act.put,h.defers],?_⟩
 intro t u ht
 rw [lk_cons] at ht
 by_cases e1:d=t
 · subst e1
   simp at ht
   subst ht
   have:d<a.tmps.size:=by rw [h.size]; exact hd
   simp [Act.put,this]
 · simp [e1] at ht
   have:=h.get t u ht
   simp [Act.put,Array.getElem?_setIfInBounds_ne e1,this]
def Env.Sub (e:Env):Env→Prop
 |[]=>True
 |(t,v)::r=>lk e t=some v∧Env.Sub e r
theorem Env.Sub.get {e e':Env} (h:Env.Sub e e') {t:Nat} {v:Value} (hv:lk e' t=some v):lk e t=some v:=by
 induction e' with
 |nil=>simp [lk] at hv
 |cons x r ih =>
  obtain ⟨k,u⟩:=x
  rw [lk_cons] at hv
  by_cases e1:k=t
  · subst e1; simp at hv; subst hv; exact h.1
  · simp [e1] at hv; exact ih h.2 hv
theorem EnvOk.sub {n:Fm} {e e':Env} {a:Act} (h:EnvOk n e a) (hs:Env.Sub e e'):EnvOk n e' a:=⟨h.size,h.defers,fun t v ht=>h.get t v (hs.get ht)⟩
def At (n:Fm) (W0:World) (e:Env) (Γ:List Asn) (K:Act→World→Prop):Prop:=∀ a w,EnvOk n e a→Sat W0 Γ w→K a w
open Classical in
theorem wpF_loop_ghost {n:Fm} {P:Program} {c:Code} {Q:Exit→Act→World→Prop} {a:Act} {w:World} (J:Nat→Act→World→Prop) (m:Nat) (h0:J m a w)
 (round:∀ m a w,J m a w→wpF n P c (Exit.then (fun a' w'=>∃ m',m'<m∧J m' a' w') Q) a w):wpF n P (.loop c) Q a w:=by
 have hmin:∀ a w,(∃ m,J m a w)→∃ m,J m a w∧∀ m',J m' a w→m≤m':=by
  rintro a w ⟨m,hm⟩
  induction m using Nat.strongRecOn with
  |_ m ih =>
   by_cases h:∃ m',m'<m∧J m' a w
   · obtain ⟨m',h1,h2⟩:=h; exact ih m' h1 h2
   · exact ⟨m,hm,fun m' hm'=>Nat.le_of_not_lt fun hlt=>h ⟨m',hlt,hm'⟩⟩
 refine wpIn_loop (fun a w=>∃ m,J m a w) (fun a w=>if h:∃ m,J m a w then (hmin a w h).choose else 0) ⟨m,h0⟩ ?_
 intro a w hI
 obtain ⟨h1,h2⟩:=(hmin a w hI).choose_spec
 refine wpIn_mono (round _ a w h1) ?_
 intro e a' w' hq
 cases e with
 |normal =>
  obtain ⟨m',hlt,hJ⟩:=hq
  refine ⟨⟨m',hJ⟩,?_⟩
  show (if h:∃ m,J m a' w' then (hmin a' w' h).choose else 0)<(if h:∃ m,J m a w then (hmin a w h).choose else 0)
  rw [dif_pos ⟨m',hJ⟩,dif_pos hI]
  exact Nat.lt_of_le_of_lt ((hmin a' w' ⟨m',hJ⟩).choose_spec.2 m' hJ) hlt
 |_=>exact hq
section rules
variable {P:Program} {n:Fm} {W0:World} {e e':Env} {Γ Γ':List Asn} {Q:Exit→Act→World→Prop} {K:Act→World→Prop}
theorem At.known {p:Prop} (hp:∀ w,Sat W0 Γ w→p) (h:p→At n W0 e Γ K):At n W0 e Γ K:=fun a w ha hw=>h (hp w hw) a w ha hw
def subCode:Code→Nat→Code
 |.seq a _,0=>a
 |.seq _ b,_=>b
 |.cond _ a _,0=>a
 |.cond _ _ b,_=>b
 |.block _ b,_=>b
 |.loop b,_=>b
 |.scope b,_=>b
 |_,_=>.skip
def opsOf:Code→Array Oper
 |.region _ ops _=>ops
 |_=>#[]
theorem at_seq {c x y:Code} (h:c=.seq x y) (k:At n W0 e Γ (wpF n P x (Exit.then (wpF n P y Q) Q))):At n W0 e Γ (wpF n P c Q):=by
 subst h; exact fun a w ha hw=>wpIn_seq (k a w ha hw)
theorem at_skip {c:Code} (h:c=.skip) (k:At n W0 e Γ (Q .normal)):At n W0 e Γ (wpF n P c Q):=by
 subst h; exact fun a w ha hw=>wpIn_skip (k a w ha hw)
theorem at_label {c:Code} {l:Nat} (h:c=.label l) (k:At n W0 e Γ (Q .normal)):At n W0 e Γ (wpF n P c Q):=by
 subst h; exact fun a w ha hw=>wpIn_label (k a w ha hw)
theorem at_ret {c:Code} (h:c=.ret) (k:At n W0 e Γ (Q .ret)):At n W0 e Γ (wpF n P c Q):=by
 subst h; exact fun a w ha hw=>wpIn_ret (k a w ha hw)
theorem at_exit {c:Code} {i:Nat} (h:c=.exit i) (k:At n W0 e Γ (Q (.exit i))):At n W0 e Γ (wpF n P c Q):=by
 subst h; exact fun a w ha hw=>wpIn_exit (k a w ha hw)
theorem at_block {c x:Code} {i:Nat} (h:c=.block i x) (k:At n W0 e Γ (wpF n P x (Exit.inBlock i Q))):At n W0 e Γ (wpF n P c Q):=by
 subst h; exact fun a w ha hw=>wpIn_block (k a w ha hw)
theorem at_cond {c x y:Code} {o:Operand} {t:Bool} (h:c=.cond o x y) (hk:knows e o=true) (hv:ev e o=.bool t) (kt:t=true→At n W0 e Γ (wpF n P x Q)) (kf:t=false→At n W0 e Γ (wpF n P y Q)) :
 At n W0 e Γ (wpF n P c Q):=by
 subst h
 intro a w ha hw
 exact wpIn_cond_split ((ha.eval hk).trans hv) (fun ht=>kt ht a w ha hw) fun hf=>kf hf a w ha hw
theorem at_true {c x y:Code} {o:Operand} {t:Bool} (h:c=.cond o x y) (hk:knows e o=true) (hv:ev e o=.bool t) (ht:t=true) (kt:At n W0 e Γ (wpF n P x Q)):At n W0 e Γ (wpF n P c Q) :=
 at_cond h hk hv (fun _=>kt) fun hf=>by rw [ht] at hf; cases hf
theorem at_false {c x y:Code} {o:Operand} {t:Bool} (h:c=.cond o x y) (hk:knows e o=true) (hv:ev e o=.bool t) (ht:t=false) (kt:At n W0 e Γ (wpF n P y Q)):At n W0 e Γ (wpF n P c Q) :=
 at_cond h hk hv (fun hf=>by rw [ht] at hf; cases hf) fun _=>kt
theorem at_in_here {i:Nat} (k:At n W0 e Γ (Q .normal)):At n W0 e Γ (Exit.inBlock i Q (.exit i)):=fun a w ha hw=>by simpa [Exit.inBlock] using k a w ha hw
theorem at_in_other {i j:Nat} (h:Nat.beq j i=false) (k:At n W0 e Γ (Q (.exit j))):At n W0 e Γ (Exit.inBlock i Q (.exit j)):=fun a w ha hw=>by
 have:j≠i:=by rintro rfl; simp at h
 simpa [Exit.inBlock,this] using k a w ha hw
end rules
def Tr (P:Program) (f:FuncId) (args:Array Value) (W0:World) (Γ:List Asn) (R:Value→List Asn→Prop):Prop :=
 ∀ w,Sat W0 Γ w→Calls P f args w fun e w'=>∃ r Γ',e=.returned r∧R r Γ'∧Sat W0 Γ' w'
theorem Tr.mono {P:Program} {f:FuncId} {args:Array Value} {W0:World} {Γ:List Asn} {R R':Value→List Asn→Prop} (h:Tr P f args W0 Γ R) (k:∀ r Γ',R r Γ'→R' r Γ'):Tr P f args W0 Γ R' :=
 fun w hw=>(h w hw).mono fun _ _ ⟨r,Γ',h1,h2,h3⟩=>⟨r,Γ',h1,k _ _ h2,h3⟩
def argEnv:Nat→List Value→Env
 |_,[]=>[]
 |i,v::r=>(i,v)::argEnv (i+1) r
theorem argEnv_get (l:List Value):∀ (i t:Nat) (v:Value),lk (argEnv i l) t=some v→i≤t∧l[t - i]?=some v:=by
 induction l with
 |nil=>intro i t v h; simp [argEnv,lk] at h
 |cons x r ih =>
  intro i t v h
  rw [argEnv,lk_cons] at h
  by_cases e1:i=t
  · subst e1; simp at h; subst h; simp
  · simp [e1] at h
    obtain ⟨h1,h2⟩:=ih _ _ _ h
    refine ⟨by omega,?_⟩
    have:t - i=(t - (i+1))+1:=by omega
    rw [this]; simpa using h2
inductive ResV (P:Program) (W0:World) (e:Env) (Γ:List Asn):ResultVar→Value→Prop
 |tmp {t:Nat} {v:Value} (h:lk e t=some v):ResV P W0 e Γ (.tmp t) v
 |cell {a:Nat} {t:TypeId} {p:Addr} {v:Value} (h:lk e a=some (.pointer (some p))) (hr:∀ w,Sat W0 Γ w→(loadVar t p).run P w=.ok v w):ResV P W0 e Γ (.cell a t) v
inductive ResVs (P:Program) (W0:World) (e:Env) (Γ:List Asn):List ResultVar→List Value→Prop
 |nil:ResVs P W0 e Γ [] []
 |cons {r:ResultVar} {v:Value} {rs:List ResultVar} {vs:List Value} (h:ResV P W0 e Γ r v) (hs:ResVs P W0 e Γ rs vs):ResVs P W0 e Γ (r::rs) (v::vs)
def packed:List Value→Value
 |[v]=>v
 |vs=>.tuple vs.toArray
theorem run_seq {α β:Type} {P:Program} {s:Sem α} {f:α→Sem β} {w w':World} {x:α} {r:Result β} (h:s.run P w=.ok x w') (k:(f x).run P w'=r):(s >>= f).run P w=r:=by
 rw [Sem.run_bind,h]; exact k
theorem run_mapM_results {P:Program} {W0 w:World} {n:Fm} {e:Env} {Γ:List Asn} {a:Act} (ha:EnvOk n e a) (hw:Sat W0 Γ w) (fn:Func) (vs:List Value)
 (h:ResVs P W0 e Γ fn.results.toList vs):(results fn a.tmps).run P w=.ok (packed vs) w:=by
 have key:∀ (rs:List ResultVar) (vs:List Value),ResVs P W0 e Γ rs vs →
  (rs.mapM (m:=Sem) fun | .tmp t=>pure (a.tmps.getD t undef) | .cell x t=>do loadVar t (← asAddr (a.tmps.getD x undef))).run P w=.ok vs w:=by
  intro rs vs h
  induction h with
  |nil=>rfl
  |@cons r v rs vs h1 hs ih =>
   rw [List.mapM_cons]
   refine run_seq (x:=v) (w':=w) ?_ (run_seq ih rfl)
   cases h1 with
   |tmp ht =>
    have:=ha.get _ _ ht
    simp [this]
   |cell ht hr =>
    have:=ha.get _ _ ht
    simp only [Array.getD_eq_getD_getElem?,this,Option.getD_some,asAddr]
    exact run_seq (x:=_) rfl (hr w hw)
 unfold results
 refine run_seq (x:=vs.toArray) (w':=w) ?_ ?_
 · have:=key _ _ h
   have e1:fn.results=fn.results.toList.toArray:=by simp
   rw [e1,List.mapM_toArray]
   exact run_seq this rfl
 · show Result.ok _ w=_
   congr 1
   match vs with
   |[]=>rfl
   |[v]=>rfl
   |v::u::r=>simp [packed]
def Back (W0:World) (R:Value→List Asn→Prop) (e:Ending) (w:World):Prop:=∃ r Γ',e=.returned r∧R r Γ'∧Sat W0 Γ' w
theorem Tr.enter {P:Program} {f:FuncId} {fn:Func} {c:Code} {args:List Value} {W0:World} {Γ:List Asn} {R:Value→List Asn→Prop} (n:Nat)
 (hf:P.funcs[f]?=some fn) (hb:fn.body=some c) (hn:Nat.max args.length fn.ntmps=n) (h:At ⟨n,[],none⟩ W0 (argEnv 0 args) Γ (wpF ⟨n,[],none⟩ P c (bodyPost P fn (Back W0 R)))):Tr P f args.toArray W0 Γ R:=by
 intro w hw
 refine calls_of_wp hf hb (wpIn_wide.1 (h _ w ⟨?_,rfl,?_⟩ hw))
 · subst hn
   simp
   show args.length+(fn.ntmps - args.length)=max args.length fn.ntmps
   omega
 · intro t v hv
   obtain ⟨_,h2⟩:=argEnv_get _ _ _ _ hv
   have hlt:t<args.length:=by
    rcases Nat.lt_or_ge t args.length with h | h
    · exact h
    · simp [h] at h2
   simp only [Nat.sub_zero] at h2
   simp only [List.size_toArray,Array.getElem?_append,hlt,if_true]
   simpa using h2
theorem at_back {P:Program} {n:Fm} (hds:n.ds=[]) {W0:World} {e:Env} {Γ:List Asn} {fn:Func} {R:Value→List Asn→Prop} (vs:List Value) (Γ':List Asn) (hr:ResVs P W0 e Γ fn.results.toList vs)
 (hg:∀ w,Sat W0 Γ w→Sat W0 Γ' w) (h:R (packed vs) Γ'):At n W0 e Γ (bodyPost P fn (Back W0 R) .ret) :=
 fun _ w ha hw=>⟨ha.defers.trans hds,packed vs,run_mapM_results ha hw fn vs hr,_,Γ',rfl,h,hg w hw⟩
theorem at_back_end {P:Program} {n:Fm} (hds:n.ds=[]) {W0:World} {e:Env} {Γ:List Asn} {fn:Func} {R:Value→List Asn→Prop} (vs:List Value) (Γ':List Asn) (hr:ResVs P W0 e Γ fn.results.toList vs)
 (hg:∀ w,Sat W0 Γ w→Sat W0 Γ' w) (h:R (packed vs) Γ'):At n W0 e Γ (bodyPost P fn (Back W0 R) .normal) :=
 fun _ w ha hw=>⟨ha.defers.trans hds,packed vs,run_mapM_results ha hw fn vs hr,_,Γ',rfl,h,hg w hw⟩
def Ops (n:Fm) (P:Program) (ops:Array Oper) (Q:Exit→Act→World→Prop) (k i:Nat) (a:Act) (w:World):Prop:=wpOpsIn (fenR n.ro) 0 P ops Q (List.range' i k) a w
def key (ops:Array Oper) (i:Nat):Option (Option Tmp×Op×TypeId×Option (Nat×Bool)):=(ops[i]?).map fun o=>(o.dst,o.op,o.type,o.guard)
def bare (op:Op) (ty:TypeId):Oper:={ dst:=none,op,type:=ty,pos:="",after:=#[],guard:=none }
def notSel:Op→Bool
 |.select ..=>false
 |.defer ..=>false
 |_=>true
theorem execOp_bare (ρ:Operand→Value) (o:Oper):execOp ρ o=execOp ρ (bare o.op o.type):=rfl
theorem execOp_env {n:Fm} {e:Env} {a:Act} (ha:EnvOk n e a) (o:Oper) (hs:notSel o.op=true) (hk:o.op.operands.toList.all (knows e)=true):execOp a.eval o=execOp (ev e) (bare o.op o.type):=by
 rw [← execOp_bare]
 refine execOp_congr o (fun cs b h=>by rw [h] at hs; cases hs) fun x hx=>ha.eval ?_
 rw [List.all_eq_true] at hk
 exact hk x (by simpa using hx)
def putE (e:Env):Option Tmp→Value→Env
 |some d,v=>(d,v)::e
 |none,_=>e
def below (n:Fm):Option Tmp→Bool
 |some d=>Nat.blt d n.n
 |none=>true
theorem EnvOk.putE {n:Fm} {e:Env} {a:Act} (h:EnvOk n e a) {d:Option Tmp} (hd:below n d=true) (v:Value):EnvOk n (putE e d v) (a.put d v):=by
 cases d with
 |none=>exact h
 |some d=>exact h.put (by simpa [below] using hd) v
section ops
variable {P:Program} {n:Fm} {W0:World} {e:Env} {Γ Γ':List Asn} {Q:Exit→Act→World→Prop} {ops:Array Oper} {k i:Nat} {dst:Option Tmp} {op:Op} {ty:TypeId}
theorem at_region {c:Code} {id:Nat} (k:Nat) (h:c=.region id (opsOf c) false) (hn:(opsOf c).size=k) (hk:At n W0 e Γ (Ops n P (opsOf c) Q k 0)):At n W0 e Γ (wpF n P c Q):=by
 intro a w ha hw
 generalize opsOf c=ops at *
 subst h hn
 refine wpIn_region ?_
 have:=hk a w ha hw
 unfold Ops at this
 rwa [← List.range_eq_range'] at this
theorem ops_end (h:At n W0 e Γ (Q .normal)):At n W0 e Γ (Ops n P ops Q 0 i):=fun a w ha hw=>by
 show wpOpsIn (fenR n.ro) 0 P ops Q (List.range' i 0) a w
 exact h a w ha hw
theorem key_some {x:Option Tmp×Op×TypeId×Option (Nat×Bool)} (h:key ops i=some x):∃ o,ops[i]?=some o∧o.dst=x.1∧o.op=x.2.1∧o.type=x.2.2.1∧o.guard=x.2.2.2:=by
 unfold key at h
 cases ho:ops[i]? with
 |none=>simp [ho] at h
 |some o=>simp [ho] at h; subst h; exact ⟨o,rfl,rfl,rfl,rfl,rfl⟩
theorem wpOps_run (o:Oper) (ho:ops[i]?=some o) {a:Act} {w:World} (hw:Region.wanted o (yielded ops a.tmps)=true) (h:o.wpIn (fenR n.ro) 0 P a w (Ops n P ops Q k (i+1)) Q):Ops n P ops Q (k+1) i a w:=by
 show wpOpsIn (fenR n.ro) 0 P ops Q (List.range' i (k+1)) a w
 rw [List.range'_succ]
 simp only [wpOpsIn,ho,hw,if_true]
 exact h
theorem wpOps_pass (o:Oper) (ho:ops[i]?=some o) {a:Act} {w:World} (hw:Region.wanted o (yielded ops a.tmps)=false) (h:Ops n P ops Q k (i+1) (a.put o.dst undef) w):Ops n P ops Q (k+1) i a w:=by
 show wpOpsIn (fenR n.ro) 0 P ops Q (List.range' i (k+1)) a w
 rw [List.range'_succ]
 simp only [wpOpsIn,ho,hw]
 exact ⟨fun _ _=>trivial,h⟩
def gbit (want:Bool):Value→Bool
 |.bool b=>b == want
 |_=>false
def GuardIs (ops:Array Oper) (e:Env) (g:Option (Nat×Bool)) (t:Bool):Prop :=
 match g with
 |none=>t=true
 |some (j,want)=>∃ d v,(ops[j]?).bind (·.dst)=some d∧lk e d=some v∧gbit want v=t
theorem GuardIs.wanted {a:Act} (ha:EnvOk n e a) {o:Oper} {t:Bool} (h:GuardIs ops e o.guard t):Region.wanted o (yielded ops a.tmps)=t:=by
 unfold Region.wanted
 unfold GuardIs at h
 split
 · simp_all
 · rename_i j want hg
   rw [hg] at h
   obtain ⟨d,b,hd,hl,ht⟩:=h
   have:=ha.get _ _ hl
   simp only [yielded,hd,Option.bind_some,this]
   subst ht
   cases b <;> first | rfl | (rename_i b; cases b <;> cases want <;> rfl)
theorem ops_val {g:Option (Nat×Bool)} {v:Value} (hk:key ops i=some (dst,op,ty,g)) (hg:GuardIs ops e g true) (hs:notSel op=true) (hn:op.operands.toList.all (knows e)=true) (hd:below n dst=true)
 (hrun:∀ w,Sat W0 Γ w→∃ w',(execOp (ev e) (bare op ty)).run P w=.ok (.value v) w'∧Sat W0 Γ' w')
 (h:At n W0 (putE e dst v) Γ' (Ops n P ops Q k (i+1))):At n W0 e Γ (Ops n P ops Q (k+1) i):=by
 intro a w ha hw
 obtain ⟨o,ho,rfl,rfl,rfl,rfl⟩:=key_some hk
 refine wpOps_run o ho (hg.wanted ha) ?_
 obtain ⟨w',h1,h2⟩:=hrun w hw
 refine ⟨fun _ _=>trivial,?_⟩
 rw [Oper.semAt_eq _ _ _ (fun c h=>by rw [h] at hs; cases hs),execOp_env ha o hs hn,h1]
 exact h _ w' (ha.putE hd v) h2
theorem ops_off {g:Option (Nat×Bool)} (hk:key ops i=some (dst,op,ty,g)) (hg:GuardIs ops e g false) (hd:below n dst=true)
 (h:At n W0 (putE e dst undef) Γ (Ops n P ops Q k (i+1))):At n W0 e Γ (Ops n P ops Q (k+1) i):=by
 intro a w ha hw
 obtain ⟨o,ho,rfl,rfl,rfl,rfl⟩:=key_some hk
 exact wpOps_pass o ho (hg.wanted ha) (h _ w (ha.putE hd undef) hw)
end ops
end
section
open Go Go.RowKit
def StepTo (P:Program) (W0:World) (Γ:List Asn) (e:Env) (op:Op) (ty:TypeId) (Post:Value→List Asn→Prop):Prop :=
 ∀ w,Sat W0 Γ w→∀ (ro:Option Nat) (o:Oper) (a:Act) (K:Act→World→Prop) (Q:Exit→Act→World→Prop),
  (∀ v Γ' w',Post v Γ'→Sat W0 Γ' w'→K (a.put o.dst v) w')→o.uponIn (fenR ro) 0 P a K Q ((execOp (ev e) (bare op ty)).run P w)
section steps
variable {P:Program} {W0:World} {Γ Γ':List Asn} {e:Env} {op:Op} {ty:TypeId}
theorem StepTo.val {Post:Value→List Asn→Prop} (h:∀ w,Sat W0 Γ w→∃ v w' Γ',(execOp (ev e) (bare op ty)).run P w=.ok (.value v) w'∧Post v Γ'∧Sat W0 Γ' w'):StepTo P W0 Γ e op ty Post:=by
 intro w hw ro o a K Q k
 obtain ⟨v,w',Γ',h1,h2,h3⟩:=h w hw
 rw [h1]; exact k v Γ' w' h2 h3
theorem StepTo.call {f:FuncId} {args:Array Value} {Post:Value→List Asn→Prop} (hrun:∀ w,(execOp (ev e) (bare op ty)).run P w=.ok (.enter f args) w) (hc:Tr P f args W0 Γ Post):StepTo P W0 Γ e op ty Post:=by
 intro w hw ro o a K Q k
 rw [hrun]
 refine ⟨fun h=>(by cases h),callsIn_fen ((hc w hw).mono ?_)⟩
 rintro ed w' ⟨r,Γ1,rfl,h2,h3⟩
 exact k r Γ1 w' h2 h3
theorem StepTo.mono {Post Post':Value→List Asn→Prop} (h:StepTo P W0 Γ e op ty Post) (hp:∀ v Γ',Post v Γ'→Post' v Γ'):StepTo P W0 Γ e op ty Post' :=
 fun w hw ro o a K Q k=>h w hw ro o a K Q fun v Γ' w' h1 h2=>k v Γ' w' (hp _ _ h1) h2
def Is (v:Value) (Γ:List Asn):Value→List Asn→Prop:=fun v' Γ'=>v'=v∧Γ'=Γ
theorem StepTo.pure {v:Value} (h:∀ w,(execOp (ev e) (bare op ty)).run P w=.ok (.value v) w):StepTo P W0 Γ e op ty (Is v Γ) :=
 .val fun w hw=>⟨v,w,Γ,h w,⟨rfl,rfl⟩,hw⟩
end steps
section ops
variable {P:Program} {n:Fm} {W0:World} {e:Env} {Γ Γ':List Asn} {Q:Exit→Act→World→Prop} {ops:Array Oper} {k i:Nat} {dst:Option Tmp} {op:Op} {ty:TypeId}
theorem ops_step {g:Option (Nat×Bool)} {Post:Value→List Asn→Prop} (hk:key ops i=some (dst,op,ty,g)) (hg:GuardIs ops e g true) (hs:notSel op=true) (hn:op.operands.toList.all (knows e)=true) (hd:below n dst=true)
 (st:StepTo P W0 Γ e op ty Post) (h:∀ v Γ',Post v Γ'→At n W0 (putE e dst v) Γ' (Ops n P ops Q k (i+1))):At n W0 e Γ (Ops n P ops Q (k+1) i):=by
 intro a w ha hw
 obtain ⟨o,ho,rfl,rfl,rfl,rfl⟩:=key_some hk
 refine wpOps_run o ho (hg.wanted ha) ?_
 refine ⟨fun _ _=>trivial,?_⟩
 rw [Oper.semAt_eq _ _ _ (fun c h=>by rw [h] at hs; cases hs),execOp_env ha o hs hn]
 exact st w hw n.ro o a _ _ fun v Γ' w' h1 h2=>h v Γ' h1 _ w' (ha.putE hd v) h2
theorem ops_is {g:Option (Nat×Bool)} {v:Value} (hk:key ops i=some (dst,op,ty,g)) (hg:GuardIs ops e g true) (hs:notSel op=true) (hn:op.operands.toList.all (knows e)=true) (hd:below n dst=true)
 (st:StepTo P W0 Γ e op ty (Is v Γ')) (h:At n W0 (putE e dst v) Γ' (Ops n P ops Q k (i+1))):At n W0 e Γ (Ops n P ops Q (k+1) i) :=
 ops_step hk hg hs hn hd st fun _ _ ⟨h1,h2⟩=>by subst h1; subst h2; exact h
end ops
def depsOf (ops:Array Oper) (i:Nat):List Nat :=
 match ops[i]? with
 |some o=>(o.after.toList.filter (Region.binds .any ·)).map (·.on)
 |none=>[]
def dstOf (ops:Array Oper) (i:Nat):Option Tmp:=(ops[i]?).bind (·.dst)
def looksOf (ops:Array Oper) (i:Nat):List Tmp :=
 match ops[i]? with
 |some o=>o.looksAt ops
 |none=>[]
def isDst (ops:Array Oper) (i t:Nat):Bool :=
 match dstOf ops i with
 |some d=>Nat.beq d t
 |none=>false
theorem isDst_iff {ops:Array Oper} {i t:Nat}:isDst ops i t=true↔dstOf ops i=some t:=by
 unfold isDst
 cases dstOf ops i <;> simp
def has (l:List Nat) (i:Nat):Bool:=l.any (Nat.beq i)
theorem has_iff {l:List Nat} {i:Nat}:has l i=true↔i∈l:=by
 simp [has]
section draw
variable {ops:Array Oper}
theorem mem_ready {listed:Array Bool} {i:Nat}:i∈Region.ready .any ops listed↔i<ops.size∧listed.getD i true=false∧∀ d∈depsOf ops i,listed.getD d false=true:=by
 unfold Region.ready
 rw [List.mem_filter,List.mem_range]
 constructor
 · rintro ⟨h1,h2⟩
   have ho:ops[i]?=some ops[i]:=Array.getElem?_eq_getElem h1
   simp only [ho,Option.map_some,Option.getD_some,Bool.and_eq_true,Bool.not_eq_true'] at h2
   refine ⟨h1,h2.1,?_⟩
   intro d hd
   simp only [depsOf,ho,List.mem_map,List.mem_filter] at hd
   obtain ⟨x,⟨hx1,hx2⟩,rfl⟩:=hd
   have:=h2.2
   rw [Array.all_eq_true_iff_forall_mem] at this
   have:=this x (by simpa using hx1)
   simpa [hx2] using this
 · rintro ⟨h1,h2,h3⟩
   have ho:ops[i]?=some ops[i]:=Array.getElem?_eq_getElem h1
   refine ⟨h1,?_⟩
   simp only [ho,Option.map_some,Option.getD_some,Bool.and_eq_true,Bool.not_eq_true']
   refine ⟨h2,?_⟩
   rw [Array.all_eq_true_iff_forall_mem]
   intro x hx
   cases hb:Region.binds .any x with
   |false=>simp
   |true =>
    have:=h3 x.on (by simp only [depsOf,ho,List.mem_map,List.mem_filter]; exact ⟨x,⟨by simpa using hx,hb⟩,rfl⟩)
    simp [this]
structure DInv (ops:Array Oper) (n:Fm) (D Pn:List Nat) (e:Env) (listed:Array Bool) (a:Act):Prop where
 size:listed.size=ops.size
 l1:∀ j,listed.getD j false=true→j∈D
 l2:∀ j∈D,j∉Pn→listed.getD j false=true
 dlt:∀ j∈D,j<ops.size
 tmps:a.tmps.size=n.n
 defers:a.defers=n.ds
 get:∀ t v,lk e t=some v→(∀ j∈Pn,listed.getD j false=false→dstOf ops j≠some t)→a.tmps[t]?=some v
 down:∀ j,listed.getD j false=true→∀ d∈depsOf ops j,listed.getD d false=true
def Left (ops:Array Oper) (listed:Array Bool) (fuel:Nat):Prop:=∃ U:List Nat,U.Nodup∧(∀ j,j∈U↔j<ops.size∧listed.getD j false=false)∧U.length≤fuel
theorem getD_set {listed:Array Bool} {i j:Nat} (hi:i<listed.size):(listed.setIfInBounds i true).getD j false=if i=j then true else listed.getD j false:=by
 by_cases h:i=j
 · subst h; simp [Array.getD_eq_getD_getElem?,hi]
 · simp [Array.getD_eq_getD_getElem?,Array.getElem?_setIfInBounds_ne h,h]
theorem getD_lt {listed:Array Bool} {j:Nat} (h:j<listed.size):listed.getD j true=listed.getD j false:=by
 simp [Array.getD_eq_getD_getElem?,h]
theorem Left.step {listed:Array Bool} {fuel i:Nat} (h:Left ops listed (fuel+1)) (hs:listed.size=ops.size) (hi:i<ops.size) (hl:listed.getD i false=false):Left ops (listed.setIfInBounds i true) fuel:=by
 obtain ⟨U,h1,h2,h3⟩:=h
 have hm:i∈U:=(h2 i).2 ⟨hi,hl⟩
 refine ⟨U.erase i,h1.erase _,?_,?_⟩
 · intro j
   rw [h1.mem_erase_iff,h2,getD_set (by omega)]
   by_cases e1:i=j
   · subst e1; simp
   · simp [e1,Ne.symm e1]
 · rw [List.length_erase_of_mem hm]; omega
theorem Left.zero {listed:Array Bool} (h:Left ops listed 0) {j:Nat} (hj:j<ops.size):listed.getD j false=true:=by
 obtain ⟨U,h1,h2,h3⟩:=h
 have:U=[]:=List.eq_nil_of_length_eq_zero (by omega)
 subst this
 have:=(h2 j).2
 cases hb:listed.getD j false
 · exact absurd (this ⟨hj,hb⟩) (by simp)
 · rfl
def Topo (ops:Array Oper):List Nat→Prop
 |[]=>True
 |i::D=>(∀ d∈depsOf ops i,d∈D)∧Topo ops D
theorem Topo.ready {D:List Nat} (h:Topo ops D) {listed:Array Bool} (hs:listed.size=ops.size) (hlt:∀ j∈D,j<ops.size) (hj:∃ j∈D,listed.getD j false=false):∃ i∈D,i∈Region.ready .any ops listed:=by
 induction D with
 |nil=>obtain ⟨j,hj,_⟩:=hj; cases hj
 |cons i D ih =>
  by_cases hd:∃ j∈D,listed.getD j false=false
  · obtain ⟨x,hx,hr⟩:=ih h.2 (fun j hj=>hlt j (List.mem_cons_of_mem _ hj)) hd
    exact ⟨x,List.mem_cons_of_mem _ hx,hr⟩
  · have hall:∀ j∈D,listed.getD j false=true:=fun j hj=>by
     cases hb:listed.getD j false
     · exact absurd ⟨j,hj,hb⟩ hd
     · rfl
    have hi:listed.getD i false=false:=by
     obtain ⟨j,hj,hb⟩:=hj
     rcases List.mem_cons.1 hj with rfl | hj
     · exact hb
     · rw [hall j hj] at hb; cases hb
    have hil:=hlt i (List.mem_cons_self ..)
    refine ⟨i,List.mem_cons_self ..,mem_ready.2 ⟨hil,?_,fun d hd=>hall d (h.1 d hd)⟩⟩
    rw [getD_lt (by omega)]; exact hi
def Stable (P:Program) (n:Fm) (W0:World) (ops:Array Oper) (e:Env) (Γ:List Asn) (j:Nat):Prop :=
 ∃ o v t,ops[j]?=some o∧notSel o.op=true∧o.op.operands.toList.all (knows e)=true∧GuardIs ops e o.guard t∧below n o.dst=true∧(∀ d,o.dst=some d→lk e d=some v) ∧
  (t=true→∀ w,Sat W0 Γ w→(execOp (ev e) (bare o.op o.type)).run P w=.ok (.value v) w)∧(t=false→v=undef)
def StableP (P:Program) (n:Fm) (W0:World) (ops:Array Oper) (e:Env) (j:Nat):Prop :=
 ∃ o v t,ops[j]?=some o∧notSel o.op=true∧o.op.operands.toList.all (knows e)=true∧GuardIs ops e o.guard t∧below n o.dst=true∧(∀ d,o.dst=some d→lk e d=some v) ∧
  (t=true→∀ Γ,StepTo P W0 Γ e o.op o.type (Is v Γ))∧(t=false→v=undef)
def Stable0 (P:Program) (n:Fm) (W0:World) (ops:Array Oper) (e:Env) (Γ:List Asn) (j:Nat):Prop :=
 ∃ o v t,ops[j]?=some o∧notSel o.op=true∧o.op.operands.toList.all (knows e)=true∧GuardIs ops e o.guard t∧below n o.dst=true∧(∀ d,o.dst=some d→lk e d=some v) ∧
  (t=true→StepTo P W0 Γ e o.op o.type (Is v Γ))∧(t=false→v=undef)
theorem StableP.stable {P:Program} {n:Fm} {W0:World} {e:Env} {Γ:List Asn} {j:Nat} (h:StableP P n W0 ops e j):Stable0 P n W0 ops e Γ j :=
 let ⟨o,v,t,h1,h2,h3,h4,h5,h6,h7,h8⟩:=h; ⟨o,v,t,h1,h2,h3,h4,h5,h6,fun ht=>h7 ht Γ,h8⟩
theorem Stable.stable {P:Program} {n:Fm} {W0:World} {e:Env} {Γ:List Asn} {j:Nat} (h:Stable P n W0 ops e Γ j):Stable0 P n W0 ops e Γ j :=
 let ⟨o,v,t,h1,h2,h3,h4,h5,h6,h7,h8⟩:=h; ⟨o,v,t,h1,h2,h3,h4,h5,h6,fun ht=>StepTo.val fun w hw=>⟨v,w,Γ,h7 ht w hw,⟨rfl,rfl⟩,hw⟩,h8⟩
theorem lk_put {e:Env} {dst:Option Tmp} {v:Value} {t:Nat} (h:dst≠some t):lk (putE e dst v) t=lk e t:=by
 cases dst with
 |none=>rfl
 |some d=>rw [putE,lk_cons,if_neg (fun e1=>h (by rw [e1]))]
theorem looks_operand {o:Oper} {t:Nat} (h:Operand.tmp t∈o.op.operands):t∈o.looksAt ops :=
 List.mem_append_left _ (List.mem_filterMap.2 ⟨.tmp t,by simpa using h,rfl⟩)
theorem looks_guard {o:Oper} {g:Nat} {b:Bool} {d:Nat} (hg:o.guard=some (g,b)) (hd:(ops[g]?).bind (·.dst)=some d):d∈o.looksAt ops:=by
 refine List.mem_append_right _ ?_
 simp [hg,hd]
theorem knows_put {e:Env} {dst:Option Tmp} {v:Value} {x:Operand} (h:∀ t,x=.tmp t→dst≠some t):knows (putE e dst v) x=knows e x:=by
 cases x with
 |tmp t=>simp only [knows,lk_put (h t rfl)]
 |_=>rfl
theorem ev_put {e:Env} {dst:Option Tmp} {v:Value} {x:Operand} (h:∀ t,x=.tmp t→dst≠some t):ev (putE e dst v) x=ev e x:=by
 cases x with
 |tmp t=>simp only [ev,lk_put (h t rfl)]
 |_=>rfl
theorem GuardIs.put {e:Env} {dst:Option Tmp} {v:Value} {o:Oper} {t:Bool} (h:GuardIs ops e o.guard t) (hd:∀ d,dst=some d→d∉o.looksAt ops):GuardIs ops (putE e dst v) o.guard t:=by
 unfold GuardIs at *
 split
 · simp_all
 · rename_i j want hg
   rw [hg] at h
   obtain ⟨d,b,h1,h2,h3⟩:=h
   refine ⟨d,b,h1,?_,h3⟩
   rw [lk_put (fun e1=>hd d e1 (looks_guard hg h1))]
   exact h2
theorem exec_put {e:Env} {dst:Option Tmp} {v:Value} {o:Oper} (hs:notSel o.op=true) (hd:∀ d,dst=some d→d∉o.looksAt ops):execOp (ev (putE e dst v)) (bare o.op o.type)=execOp (ev e) (bare o.op o.type) :=
 execOp_congr _ (fun cs b h=>by simp only [bare] at h; rw [h] at hs; cases hs) fun x hx=>ev_put fun t ht e1=>hd t e1 (looks_operand (by subst ht; exact hx))
theorem all_put {e:Env} {dst:Option Tmp} {v:Value} {o:Oper} (h:o.op.operands.toList.all (knows e)=true) (hd:∀ d,dst=some d→d∉o.looksAt ops):o.op.operands.toList.all (knows (putE e dst v))=true:=by
 rw [List.all_eq_true] at *
 intro x hx
 rw [knows_put fun t ht e1=>hd t e1 (looks_operand (by subst ht; simpa using hx))]
 exact h x hx
theorem Stable.put {P:Program} {n:Fm} {W0:World} {e:Env} {Γ:List Asn} {j:Nat} (h:Stable P n W0 ops e Γ j) {dst:Option Tmp} {v:Value}
 (hd:∀ d,dst=some d→d∉looksOf ops j∧dstOf ops j≠some d):Stable P n W0 ops (putE e dst v) Γ j:=by
 obtain ⟨o,u,t,h1,h2,h3,h4,h5,h6,h7,h8⟩:=h
 have hl:∀ d,dst=some d→d∉o.looksAt ops:=fun d e1=>by have:=(hd d e1).1; simpa [looksOf,h1] using this
 refine ⟨o,u,t,h1,h2,all_put h3 hl,h4.put hl,h5,?_,?_,h8⟩
 · intro d e1
   rw [lk_put (fun e2=>(hd d e2).2 (by simp [dstOf,h1,e1]))]
   exact h6 d e1
 · rw [exec_put h2 hl]; exact h7
theorem StableP.put {P:Program} {n:Fm} {W0:World} {e:Env} {j:Nat} (h:StableP P n W0 ops e j) {dst:Option Tmp} {v:Value}
 (hd:∀ d,dst=some d→d∉looksOf ops j∧dstOf ops j≠some d):StableP P n W0 ops (putE e dst v) j:=by
 obtain ⟨o,u,t,h1,h2,h3,h4,h5,h6,h7,h8⟩:=h
 have hl:∀ d,dst=some d→d∉o.looksAt ops:=fun d e1=>by have:=(hd d e1).1; simpa [looksOf,h1] using this
 refine ⟨o,u,t,h1,h2,all_put h3 hl,h4.put hl,h5,?_,?_,h8⟩
 · intro d e1
   rw [lk_put (fun e2=>(hd d e2).2 (by simp [dstOf,h1,e1]))]
   exact h6 d e1
 · intro ht Γ w hw o' a K Q k
   rw [exec_put h2 hl]; exact h7 ht Γ w hw o' a K Q k
def Names (ops:Array Oper) (Pn:List Nat):Prop:=∀ j∈Pn,∀ j'∈Pn,∀ t∈looksOf ops j,dstOf ops j'=some t→j'∈depsOf ops j
theorem DInv.evals {n:Fm} {D Pn:List Nat} {e:Env} {listed:Array Bool} {a:Act} (h:DInv ops n D Pn e listed a) {x:Operand} (hk:knows e x=true)
 (hx:∀ t,x=.tmp t→∀ j∈Pn,listed.getD j false=false→dstOf ops j≠some t):a.eval x=ev e x:=by
 cases x with
 |tmp t =>
  cases hl:lk e t with
  |none=>simp [knows,hl] at hk
  |some v =>
   have:=h.get t v hl (hx t rfl)
   simp [Act.eval,ev,hl,this]
 |_=>rfl
theorem DInv.exec {n:Fm} {D Pn:List Nat} {e:Env} {listed:Array Bool} {a:Act} (h:DInv ops n D Pn e listed a) {o:Oper} (hs:notSel o.op=true) (hk:o.op.operands.toList.all (knows e)=true)
 (hx:∀ t∈o.looksAt ops,∀ j∈Pn,listed.getD j false=false→dstOf ops j≠some t):execOp a.eval o=execOp (ev e) (bare o.op o.type):=by
 rw [← execOp_bare]
 rw [List.all_eq_true] at hk
 refine execOp_congr o (fun cs b h=>by rw [h] at hs; cases hs) fun x hm=>h.evals (hk x (by simpa using hm)) fun t ht=>hx t (looks_operand (by subst ht; exact hm))
theorem DInv.wanted {n:Fm} {D Pn:List Nat} {e:Env} {listed:Array Bool} {a:Act} (h:DInv ops n D Pn e listed a) {o:Oper} {t:Bool} (hg:GuardIs ops e o.guard t)
 (hx:∀ t∈o.looksAt ops,∀ j∈Pn,listed.getD j false=false→dstOf ops j≠some t):Region.wanted o (yielded ops a.tmps)=t:=by
 unfold Region.wanted
 unfold GuardIs at hg
 split
 · simp_all
 · rename_i j want hgd
   rw [hgd] at hg
   obtain ⟨d,b,hd,hl,ht⟩:=hg
   have:=h.get _ _ hl (hx d (looks_guard hgd hd))
   simp only [yielded,hd,Option.bind_some,this]
   subst ht
   cases b <;> first | rfl | (rename_i b; cases b <;> cases want <;> rfl)
variable {P:Program} {n:Fm} {W0:World} {Q:Exit→Act→World→Prop}
theorem DInv.pending {D Pn:List Nat} {e:Env} {Γ:List Asn} {listed:Array Bool} {a:Act} {w:World} {i:Nat} {K:Act→World→Prop} (h:DInv ops n D Pn e listed a) (hn:Names ops Pn) (hst:Stable0 P n W0 ops e Γ i)
 (hw:Sat W0 Γ w) (hr:i∈Region.ready .any ops listed) (hD:i∈D) (k:∀ a' w',DInv ops n D Pn e (listed.setIfInBounds i true) a'→Sat W0 Γ w'→K a' w'):wpOpIn (fenR n.ro) 0 P ops Q i K a w:=by
 obtain ⟨r1,r2,r3⟩:=mem_ready.1 hr
 have hsz:=h.size
 have hli:listed.getD i false=false:=by rw [← getD_lt (by omega)]; exact r2
 have hiP:i∈Pn:=Decidable.byContradiction fun hc=>by rw [h.l2 i hD hc] at hli; cases hli
 obtain ⟨o,v,t,h1,h2,h3,h4,h5,h6,h7,h8⟩:=hst
 have hx:∀ t∈o.looksAt ops,∀ j∈Pn,listed.getD j false=false→dstOf ops j≠some t:=by
  intro t ht j hj hl hd
  have:=hn i hiP j hj t (by simpa [looksOf,h1] using ht) hd
  rw [r3 j this] at hl; cases hl
 have hput:∀ w',Sat W0 Γ w'→K (a.put o.dst v) w':=by
  intro w' hw'
  refine k _ w' ⟨by simp [hsz],?_,?_,h.dlt,?_,?_,?_,?_⟩ hw'
  · intro j hj
    rw [getD_set (by omega)] at hj
    by_cases e1:i=j
    · subst e1; exact hD
    · rw [if_neg e1] at hj; exact h.l1 j hj
  · intro j hj hp
    rw [getD_set (by omega)]
    by_cases e1:i=j
    · subst e1; simp
    · rw [if_neg e1]; exact h.l2 j hj hp
  · cases o.dst <;> simp [Act.put,h.tmps]
  · cases o.dst <;> simp [Act.put,h.defers]
  · intro s u hl hp
    cases hd:o.dst with
    |none =>
     refine h.get s u hl fun j hj hb=>?_
     by_cases e1:i=j
     · subst e1; simp [dstOf,h1,hd]
     · exact hp j hj (by rw [getD_set (by omega),if_neg e1]; exact hb)
    |some d =>
     by_cases e2:d=s
     · subst e2
       have:=h6 d hd
       rw [hl] at this
       obtain rfl:=Option.some.inj this
       have hb:d<n.n:=by rw [hd] at h5; simpa [below] using h5
       have:d<a.tmps.size:=by rw [h.tmps]; exact hb
       simp [Act.put,this]
     · have:=h.get s u hl fun j hj hb=>by
        by_cases e1:i=j
        · subst e1; simp [dstOf,h1,hd,e2]
        · exact hp j hj (by rw [getD_set (by omega),if_neg e1]; exact hb)
       simp [Act.put,Array.getElem?_setIfInBounds_ne e2,this]
  · intro j hj d hd
    rw [getD_set (by omega)] at hj ⊢
    by_cases e2:i=d
    · simp [e2]
    · rw [if_neg e2]
      by_cases e1:i=j
      · subst e1; exact r3 d hd
      · rw [if_neg e1] at hj; exact h.down j hj d hd
 unfold wpOpIn
 simp only [h1]
 have hwt:=h.wanted h4 hx
 cases t with
 |true =>
  rw [hwt,if_pos rfl]
  refine ⟨fun _ _=>trivial,?_⟩
  rw [Oper.semAt_eq _ _ _ (fun c h=>by rw [h] at h2; cases h2),h.exec h2 h3 hx]
  exact h7 rfl w hw n.ro o a K Q fun v' Γ' w' ⟨e1,e2⟩ hs'=>by subst e1; subst e2; exact hput w' hs'
 |false =>
  rw [hwt,if_neg (by simp)]
  refine ⟨fun _ _=>trivial,?_⟩
  rw [← h8 rfl]; exact hput w hw
def Draw (P:Program) (n:Fm) (W0:World) (ops:Array Oper) (Q:Exit→Act→World→Prop) (D Pp Pl:List Nat) (e:Env) (Γ:List Asn):Prop :=
 Topo ops D→Names ops (Pp++Pl)→(∀ j∈Pp,StableP P n W0 ops e j)→(∀ j∈Pl,Stable P n W0 ops e Γ j) →
  ∀ fuel listed a w,DInv ops n D (Pp++Pl) e listed a→Left ops listed fuel→Sat W0 Γ w→wpAnyIn (fenR n.ro) 0 P .any ops Q fuel listed a w
theorem at_region_draw {c:Code} {id:Nat} {e:Env} {Γ:List Asn} (hm:P.follows .mixedOrders=true) (h:c=.region id (opsOf c) true) (k:Draw P n W0 (opsOf c) Q [] [] [] e Γ):At n W0 e Γ (wpF n P c Q):=by
 intro a w ha hw
 generalize opsOf c=ops at *
 subst h
 have hf:∀ j,(Array.replicate ops.size false).getD j false=false:=fun j=>by
  simp only [Array.getD_eq_getD_getElem?,Array.getElem?_replicate]; split <;> rfl
 refine wpIn_region_any hm (k trivial (fun j hj=>(by cases hj)) (fun j hj=>(by cases hj)) (fun j hj=>(by cases hj)) _ _ a _ ⟨by simp,?_,fun j hj=>(by cases hj),fun j hj=>(by cases hj),ha.size,ha.defers,fun t v hl _=>ha.get t v hl,?_⟩ ⟨List.range ops.size,List.nodup_range,fun j=>?_,by simp⟩ hw.drew)
 · intro j hj; rw [hf] at hj; cases hj
 · intro j hj; rw [hf] at hj; cases hj
 · rw [List.mem_range,hf]; simp
theorem draw_end {D Pp Pl:List Nat} {e:Env} {Γ:List Asn} (hall:(List.range ops.size).all (has D)=true) (k:At n W0 e Γ (Q .normal)):Draw P n W0 ops Q D Pp Pl e Γ:=by
 intro htp hnm hpp hpl
 have hD:∀ j,j<ops.size→j∈D:=fun j hj=>by
  rw [List.all_eq_true] at hall
  exact has_iff.1 (hall j (List.mem_range.2 hj))
 have hst:∀ j∈Pp++Pl,Stable0 P n W0 ops e Γ j:=fun j hj=>(List.mem_append.1 hj).elim (fun h=>(hpp j h).stable) fun h=>(hpl j h).stable
 have hend:∀ listed a w,DInv ops n D (Pp++Pl) e listed a→Sat W0 Γ w→(∀ j,j<ops.size→listed.getD j false=true)→Q .normal a w:=fun listed a w hi hw hl =>
  k a w ⟨hi.tmps,hi.defers,fun t v ht=>hi.get t v ht fun j hj hb=>by
   have hst:=hst j hj
   obtain ⟨o,v,t,h1,_⟩:=hst
   have:j<ops.size:=by
    rcases Nat.lt_or_ge j ops.size with h | h
    · exact h
    · simp [Array.getElem?_eq_none h] at h1
   rw [hl j this] at hb; cases hb⟩ hw
 intro fuel
 induction fuel with
 |zero =>
  intro listed a w hi hl hw
  have hall:=fun j hj=>hl.zero (j:=j) hj
  refine ⟨?_,hend listed a w hi hw hall⟩
  refine List.eq_nil_iff_forall_not_mem.2 fun i hr=>?_
  obtain ⟨r1,r2,r3⟩:=mem_ready.1 hr
  rw [getD_lt (by rw [hi.size]; exact r1),hall i r1] at r2; cases r2
 |succ fuel ih =>
  intro listed a w hi hl hw
  refine ⟨fun hnil=>hend listed a w hi hw fun j hj=>?_,fun i hr=>?_⟩
  · cases hb:listed.getD j false with
    |true=>rfl
    |false =>
     obtain ⟨x,_,hx⟩:=htp.ready hi.size hi.dlt ⟨j,hD j hj,hb⟩
     rw [hnil] at hx; cases hx
  · obtain ⟨r1,r2,r3⟩:=mem_ready.1 hr
    have hli:listed.getD i false=false:=by rw [← getD_lt (by rw [hi.size]; exact r1)]; exact r2
    have hiP:i∈Pp++Pl:=Decidable.byContradiction fun hc=>by rw [hi.l2 i (hD i r1) hc] at hli; cases hli
    exact hi.pending hnm (hst i hiP) hw hr (hD i r1) fun a' w' hi' hw'=>ih _ a' w' hi' (hl.step hi.size r1 hli) hw'
def freshFor (ops:Array Oper) (dst:Option Tmp) (l:List Nat):Bool :=
 match dst with
 |none=>true
 |some d=>l.all fun j=>!has (looksOf ops j) d && !isDst ops j d
theorem freshFor_spec {dst:Option Tmp} {l:List Nat} (h:freshFor ops dst l=true):∀ j∈l,∀ d,dst=some d→d∉looksOf ops j∧dstOf ops j≠some d:=by
 rintro j hj d rfl
 simp only [freshFor,List.all_eq_true,Bool.and_eq_true,Bool.not_eq_true'] at h
 obtain ⟨h1,h2⟩:=h j hj
 exact ⟨fun hm=>(by rw [has_iff.2 hm] at h1; cases h1),fun hm=>(by rw [isDst_iff.2 hm] at h2; cases h2)⟩
def looksOk (ops:Array Oper) (i:Nat) (l C:List Nat):Bool:=(looksOf ops i).all fun t=>l.all fun j=>!isDst ops j t || has C j
theorem looksOk_spec {i:Nat} {l C:List Nat} (h:looksOk ops i l C=true):∀ j∈l,∀ t∈looksOf ops i,dstOf ops j=some t→j∈C:=by
 intro j hj t ht hd
 simp only [looksOk,List.all_eq_true] at h
 have:=h t ht j hj
 rw [isDst_iff.2 hd] at this
 exact has_iff.1 (by simpa using this)
def subL (a b:List Nat):Bool:=a.all (has b)
theorem subL_spec {a b:List Nat} (h:subL a b=true):∀ x∈a,x∈b:=fun x hx=>by
 simp only [subL,List.all_eq_true] at h
 exact has_iff.1 (h x hx)
def readOk (ops:Array Oper) (i:Nat) (dst:Option Tmp) (D Pp Pl:List Nat):Bool :=
 !has D i && subL (depsOf ops i) D && looksOk ops i (Pp++Pl) (depsOf ops i) && freshFor ops dst (Pp++Pl) && (match dst with | some d=>!has (looksOf ops i) d | none=>true)
theorem draw_promise_inv {D Pn Pn':List Nat} {e:Env} {listed:Array Bool} {a:Act} {i:Nat} {v:Value} (hi:DInv ops n D Pn e listed a) (hlt:i<ops.size) (hD:i∉D) (hP:∀ j,j∈Pn'↔j=i∨j∈Pn) :
 DInv ops n (i::D) Pn' (putE e (dstOf ops i) v) listed a:=by
 have hli:listed.getD i false=false:=by
  cases hb:listed.getD i false
  · rfl
  · exact absurd (hi.l1 i hb) hD
 refine ⟨hi.size,fun j hj=>List.mem_cons_of_mem _ (hi.l1 j hj),?_,?_,hi.tmps,hi.defers,?_,hi.down⟩
 · intro j hj hp
   rcases List.mem_cons.1 hj with rfl | hj
   · exact absurd ((hP j).2 (.inl rfl)) hp
   · exact hi.l2 j hj fun hm=>hp ((hP j).2 (.inr hm))
 · intro j hj
   rcases List.mem_cons.1 hj with rfl | hj
   · exact hlt
   · exact hi.dlt j hj
 · intro t u ht hp
   have hne:dstOf ops i≠some t:=hp i ((hP i).2 (.inl rfl)) hli
   rw [lk_put hne] at ht
   exact hi.get t u ht fun j hj=>hp j ((hP j).2 (.inr hj))
theorem draw_read_gen {D Pp Pl Pp' Pl':List Nat} {e:Env} {Γ:List Asn} {i:Nat} {dst:Option Tmp} {v:Value} {op:Op} {ty:TypeId} {g:Option (Nat×Bool)} (hk:key ops i=some (dst,op,ty,g))
 (hok:readOk ops i dst D Pp Pl=true) (hP:∀ j,j∈Pp'++Pl'↔j=i∨j∈Pp++Pl)
 (hpp:(∀ j∈Pp,StableP P n W0 ops (putE e dst v) j)→(∀ j∈Pp',StableP P n W0 ops (putE e dst v) j)) (hpl:(∀ j∈Pl,Stable P n W0 ops (putE e dst v) Γ j)→(∀ j∈Pl',Stable P n W0 ops (putE e dst v) Γ j))
 (k:Draw P n W0 ops Q (i::D) Pp' Pl' (putE e dst v) Γ):Draw P n W0 ops Q D Pp Pl e Γ:=by
 obtain ⟨o,ho,rfl,rfl,rfl,rfl⟩:=key_some hk
 have hdo:dstOf ops i=o.dst:=by simp [dstOf,ho]
 simp only [readOk,Bool.and_eq_true] at hok
 obtain ⟨⟨⟨⟨q1,q2⟩,q3⟩,q4⟩,q5⟩:=hok
 have hD:i∉D:=fun hm=>by rw [has_iff.2 hm] at q1; cases q1
 have hlt:i<ops.size:=by
  rcases Nat.lt_or_ge i ops.size with h | h
  · exact h
  · simp [Array.getElem?_eq_none h] at ho
 intro htp hnm h1 h2 fuel listed a w hi hl hw
 have hfr:=freshFor_spec q4
 refine k ⟨subL_spec q2,htp⟩ ?_ (hpp fun j hj=>(h1 j hj).put (hfr j (List.mem_append_left _ hj))) (hpl fun j hj=>(h2 j hj).put (hfr j (List.mem_append_right _ hj))) fuel listed a w ?_ hl hw
 · intro j hj j' hj' t ht hd
   rcases (hP j).1 hj with rfl | hj
   · rcases (hP j').1 hj' with rfl | hj'
     · rw [hdo] at hd
       simp only [hd] at q5
       rw [has_iff.2 ht] at q5; cases q5
     · exact looksOk_spec q3 j' hj' t ht hd
   · rcases (hP j').1 hj' with rfl | hj'
     · rw [hdo] at hd
       exact absurd ht (hfr j hj t hd).1
     · exact hnm j hj j' hj' t ht hd
 · have:=draw_promise_inv (v:=v) hi hlt hD hP
   rwa [hdo] at this
theorem draw_quiet {D Pp Pl:List Nat} {e:Env} {Γ:List Asn} {i:Nat} {dst:Option Tmp} {op:Op} {ty:TypeId} {g:Option (Nat×Bool)} (v:Value) (hk:key ops i=some (dst,op,ty,g)) (hg:GuardIs ops e g true) (hs:notSel op=true)
 (hn:op.operands.toList.all (knows e)=true) (hd:below n dst=true) (hok:readOk ops i dst D Pp Pl=true) (hrun:∀ Γ,StepTo P W0 Γ e op ty (Is v Γ))
 (k:Draw P n W0 ops Q (i::D) (i::Pp) Pl (putE e dst v) Γ):Draw P n W0 ops Q D Pp Pl e Γ:=by
 have hok':=hok
 simp only [readOk,Bool.and_eq_true] at hok'
 obtain ⟨⟨⟨⟨q1,q2⟩,q3⟩,q4⟩,q5⟩:=hok'
 refine draw_read_gen hk hok (by simp) (fun h j hj=>?_) (fun h=>h) k
 rcases List.mem_cons.1 hj with rfl | hj
 · obtain ⟨o,ho,rfl,rfl,rfl,rfl⟩:=key_some hk
   have hself:∀ d,o.dst=some d→d∉o.looksAt ops:=fun d e1 hm=>by
    simp only [e1,looksOf,ho] at q5
    rw [has_iff.2 hm] at q5; cases q5
   refine ⟨o,v,true,ho,hs,all_put hn hself,hg.put hself,hd,fun d e1=>by simp only [putE,e1,lk_cons,if_true],fun _ Γ w hw o' a K Q k=>?_,fun h=>by cases h⟩
   rw [exec_put hs hself]; exact hrun Γ w hw o' a K Q k
 · exact h j hj
theorem draw_off {D Pp Pl:List Nat} {e:Env} {Γ:List Asn} {i:Nat} {dst:Option Tmp} {op:Op} {ty:TypeId} {g:Option (Nat×Bool)} (hk:key ops i=some (dst,op,ty,g)) (hg:GuardIs ops e g false) (hs:notSel op=true)
 (hn:op.operands.toList.all (knows e)=true) (hd:below n dst=true) (hok:readOk ops i dst D Pp Pl=true)
 (k:Draw P n W0 ops Q (i::D) (i::Pp) Pl (putE e dst undef) Γ):Draw P n W0 ops Q D Pp Pl e Γ:=by
 have hok':=hok
 simp only [readOk,Bool.and_eq_true] at hok'
 obtain ⟨⟨⟨⟨q1,q2⟩,q3⟩,q4⟩,q5⟩:=hok'
 refine draw_read_gen hk hok (by simp) (fun h j hj=>?_) (fun h=>h) k
 rcases List.mem_cons.1 hj with rfl | hj
 · obtain ⟨o,ho,rfl,rfl,rfl,rfl⟩:=key_some hk
   have hself:∀ d,o.dst=some d→d∉o.looksAt ops:=fun d e1 hm=>by
    simp only [e1,looksOf,ho] at q5
    rw [has_iff.2 hm] at q5; cases q5
   exact ⟨o,undef,false,ho,hs,all_put hn hself,hg.put hself,hd,fun d e1=>by simp only [putE,e1,lk_cons,if_true],fun h=>(by cases h),fun _=>rfl⟩
 · exact h j hj
theorem draw_load {D Pp Pl:List Nat} {e:Env} {Γ:List Asn} {i:Nat} {dst:Option Tmp} {op:Op} {ty:TypeId} {g:Option (Nat×Bool)} (v:Value) (hk:key ops i=some (dst,op,ty,g)) (hg:GuardIs ops e g true) (hs:notSel op=true)
 (hn:op.operands.toList.all (knows e)=true) (hd:below n dst=true) (hok:readOk ops i dst D Pp Pl=true) (hrun:∀ w,Sat W0 Γ w→(execOp (ev e) (bare op ty)).run P w=.ok (.value v) w)
 (k:Draw P n W0 ops Q (i::D) Pp (i::Pl) (putE e dst v) Γ):Draw P n W0 ops Q D Pp Pl e Γ:=by
 have hok':=hok
 simp only [readOk,Bool.and_eq_true] at hok'
 obtain ⟨⟨⟨⟨q1,q2⟩,q3⟩,q4⟩,q5⟩:=hok'
 refine draw_read_gen hk hok (fun j=>by simp; constructor <;> rintro (h | h | h) <;> simp [h]) (fun h=>h) (fun h j hj=>?_) k
 rcases List.mem_cons.1 hj with rfl | hj
 · obtain ⟨o,ho,rfl,rfl,rfl,rfl⟩:=key_some hk
   have hself:∀ d,o.dst=some d→d∉o.looksAt ops:=fun d e1 hm=>by
    simp only [e1,looksOf,ho] at q5
    rw [has_iff.2 hm] at q5; cases q5
   refine ⟨o,v,true,ho,hs,all_put hn hself,hg.put hself,hd,fun d e1=>by simp only [putE,e1,lk_cons,if_true],fun _ w hw=>?_,fun h=>by cases h⟩
   rw [exec_put hs hself]; exact hrun w hw
 · exact h j hj
def chainB (ops:Array Oper):List Nat→List Nat→Bool
 |_,[]=>true
 |seen,c::r=>seen.any (fun s=>has (depsOf ops s) c) && chainB ops (c::seen) r
theorem chainB_spec {C:List Nat} {listed:Array Bool} (hdown:∀ j,listed.getD j false=true→∀ d∈depsOf ops j,listed.getD d false=true) :
 ∀ seen,(∀ s∈seen,∀ d∈depsOf ops s,listed.getD d false=true)→chainB ops seen C=true→∀ c∈C,listed.getD c false=true:=by
 induction C with
 |nil=>intro _ _ _ c hc; cases hc
 |cons x r ih =>
  intro seen hs hb c hc
  simp only [chainB,Bool.and_eq_true,List.any_eq_true] at hb
  obtain ⟨⟨s,hs1,hs2⟩,hb2⟩:=hb
  have hx:listed.getD x false=true:=hs s hs1 x (has_iff.1 hs2)
  rcases List.mem_cons.1 hc with rfl | hc
  · exact hx
  · refine ih (x::seen) ?_ hb2 c hc
    intro s' hs' d hd
    rcases List.mem_cons.1 hs' with rfl | hs'
    · exact hdown _ hx d hd
    · exact hs s' hs' d hd
def aloneL (ops:Array Oper) (l D:List Nat):Bool:=(List.range ops.size).all fun j=>has l j || has D j || (depsOf ops j).any fun d=>!has D d
def turnOk (ops:Array Oper) (i:Nat) (dst:Option Tmp) (D C Pp Pl Pp' Pl':List Nat):Bool :=
 !has D i && subL (depsOf ops i) D && chainB ops [i] C && looksOk ops i (Pp++Pl) C && subL Pp' Pp && subL Pl' Pl && (Pp.all fun j=>has C j || has Pp' j) && (Pl.all fun j=>has C j || has Pl' j) && freshFor ops dst (Pp'++Pl')
def writeOk (ops:Array Oper) (i:Nat) (dst:Option Tmp) (D C Pp Pl Pp' Pl':List Nat):Bool:=aloneL ops [i] D && turnOk ops i dst D C Pp Pl Pp' Pl'
def Turn (P:Program) (n:Fm) (W0:World) (ops:Array Oper) (Q:Exit→Act→World→Prop) (D Pp Pl:List Nat) (e:Env) (Γ:List Asn) (i:Nat):Prop :=
 i∉D∧(∀ d∈depsOf ops i,d∈D)∧i<ops.size ∧
 (Topo ops D→Names ops (Pp++Pl)→(∀ j∈Pp,StableP P n W0 ops e j)→(∀ j∈Pl,Stable P n W0 ops e Γ j) →
  ∀ fuel listed a w,DInv ops n D (Pp++Pl) e listed a→Left ops listed (fuel+1)→Sat W0 Γ w→i∈Region.ready .any ops listed→wpOpIn (fenR n.ro) 0 P ops Q i (wpAnyIn (fenR n.ro) 0 P .any ops Q fuel (listed.setIfInBounds i true)) a w)
theorem draw_turns {D Pp Pl:List Nat} {e:Env} {Γ:List Asn} (i:Nat) (l:List Nat) (hal:aloneL ops (i::l) D=true) (h:∀ j∈i::l,Turn P n W0 ops Q D Pp Pl e Γ j):Draw P n W0 ops Q D Pp Pl e Γ:=by
 have huniq:∀ j,j<ops.size→(∀ d∈depsOf ops j,d∈D)→j∉D→j∈i::l:=by
  intro j hj hdj hnd
  simp only [aloneL,List.all_eq_true,List.mem_range,Bool.or_eq_true,List.any_eq_true] at hal
  rcases hal j hj with (h | h) | ⟨d,hd1,hd2⟩
  · exact has_iff.1 h
  · exact absurd (has_iff.1 h) hnd
  · rw [has_iff.2 (hdj d hd1)] at hd2; cases hd2
 intro htp hnm h1 h2 fuel
 have hst:∀ j∈Pp++Pl,Stable0 P n W0 ops e Γ j:=fun j hj=>(List.mem_append.1 hj).elim (fun h=>(h1 j h).stable) fun h=>(h2 j h).stable
 obtain ⟨hD,hdep,hlt,_⟩:=h i (List.mem_cons_self ..)
 induction fuel with
 |zero =>
  intro listed a w hi hl hw
  exact absurd (hi.l1 i (hl.zero hlt)) hD
 |succ fuel ih =>
  intro listed a w hi hl hw
  have hli:listed.getD i false=false:=by
   cases hb:listed.getD i false
   · rfl
   · exact absurd (hi.l1 i hb) hD
  refine ⟨fun hnil=>?_,fun r hr=>?_⟩
  · exfalso
    by_cases hu:∃ j∈D,listed.getD j false=false
    · obtain ⟨x,_,hx⟩:=htp.ready hi.size hi.dlt hu
      rw [hnil] at hx; cases hx
    · have:i∈Region.ready .any ops listed:=mem_ready.2 ⟨hlt,by rw [getD_lt (by rw [hi.size]; exact hlt)]; exact hli,fun d hd=>by
       cases hb:listed.getD d false
       · exact absurd ⟨d,hdep d hd,hb⟩ hu
       · rfl⟩
      rw [hnil] at this; cases this
  · obtain ⟨r1,r2,r3⟩:=mem_ready.1 hr
    have hlr:listed.getD r false=false:=by rw [← getD_lt (by rw [hi.size]; exact r1)]; exact r2
    by_cases hrD:r∈D
    · have hiP:r∈Pp++Pl:=Decidable.byContradiction fun hc=>by rw [hi.l2 r hrD hc] at hlr; cases hlr
      exact hi.pending hnm (hst r hiP) hw hr hrD fun a' w' hi' hw'=>ih _ a' w' hi' (hl.step hi.size r1 hlr) hw'
    · obtain ⟨_,_,_,k⟩:=h r (huniq r r1 (fun d hd=>hi.l1 d (r3 d hd)) hrD)
      exact k htp hnm h1 h2 fuel listed a w hi hl hw hr
theorem turn_write {D C Pp Pl Pp' Pl':List Nat} {e:Env} {Γ:List Asn} {r:Nat} {dst:Option Tmp} {op:Op} {ty:TypeId} {g:Option (Nat×Bool)} {Post:Value→List Asn→Prop} (hk:key ops r=some (dst,op,ty,g)) (hg:GuardIs ops e g true)
 (hs:notSel op=true) (hn:op.operands.toList.all (knows e)=true) (hd:below n dst=true) (hok:turnOk ops r dst D C Pp Pl Pp' Pl'=true) (st:StepTo P W0 Γ e op ty Post)
 (k:∀ v Γ',Post v Γ'→(∀ j∈Pl',Stable P n W0 ops (putE e dst v) Γ' j)∧Draw P n W0 ops Q (r::D) Pp' Pl' (putE e dst v) Γ'):Turn P n W0 ops Q D Pp Pl e Γ r:=by
 obtain ⟨o,ho,rfl,rfl,rfl,rfl⟩:=key_some hk
 have hdo:dstOf ops r=o.dst:=by simp [dstOf,ho]
 have hlo:looksOf ops r=o.looksAt ops:=by simp [looksOf,ho]
 simp only [turnOk,Bool.and_eq_true] at hok
 obtain ⟨⟨⟨⟨⟨⟨⟨⟨q1,q2⟩,q4⟩,q5⟩,q6⟩,q7⟩,q8⟩,q9⟩,q10⟩:=hok
 have hD:r∉D:=fun hm=>by rw [has_iff.2 hm] at q1; cases q1
 have hlt:r<ops.size:=by
  rcases Nat.lt_or_ge r ops.size with h | h
  · exact h
  · simp [Array.getElem?_eq_none h] at ho
 have hdep:=subL_spec q2
 have hdropP:∀ j∈Pp++Pl,j∈C∨j∈Pp'++Pl':=by
  intro j hj
  simp only [List.all_eq_true,Bool.or_eq_true] at q8 q9
  rcases List.mem_append.1 hj with hj | hj
  · exact (q8 j hj).imp has_iff.1 fun h=>List.mem_append_left _ (has_iff.1 h)
  · exact (q9 j hj).imp has_iff.1 fun h=>List.mem_append_right _ (has_iff.1 h)
 have hsub:∀ j∈Pp'++Pl',j∈Pp++Pl:=by
  intro j hj
  rcases List.mem_append.1 hj with hj | hj
  · exact List.mem_append_left _ (subL_spec q6 j hj)
  · exact List.mem_append_right _ (subL_spec q7 j hj)
 have hfr:=freshFor_spec q10
 refine ⟨hD,hdep,hlt,?_⟩
 intro htp hnm h1 h2 fuel listed a w hi hl hw hr
 obtain ⟨r1,r2,r3⟩:=mem_ready.1 hr
 have hli:listed.getD r false=false:=by rw [← getD_lt (by rw [hi.size]; exact r1)]; exact r2
 have hC:∀ c∈C,listed.getD c false=true:=chainB_spec hi.down [r] (fun s hs d hd=>by
  rcases List.mem_cons.1 hs with rfl | hs
  · exact r3 d hd
  · cases hs) q4
 have hx:∀ t∈o.looksAt ops,∀ j∈Pp++Pl,listed.getD j false=false→dstOf ops j≠some t:=by
  intro t ht j hj hl hd
  have:=looksOk_spec q5 j hj t (by rw [hlo]; exact ht) hd
  rw [hC j this] at hl; cases hl
 unfold wpOpIn
 simp only [ho]
 rw [hi.wanted hg hx,if_pos rfl]
 refine ⟨fun _ _=>trivial,?_⟩
 rw [Oper.semAt_eq _ _ _ (fun c h=>by rw [h] at hs; cases hs),hi.exec hs hn hx]
 refine st w hw n.ro o a _ _ fun v Γ' w' hp hs'=>?_
 obtain ⟨k1,k2⟩:=k v Γ' hp
 have hsz:=hi.size
 refine k2 ⟨hdep,htp⟩ (fun j hj j' hj'=>hnm j (hsub j hj) j' (hsub j' hj')) (fun j hj=>(h1 j (subL_spec q6 j hj)).put (hfr j (List.mem_append_left _ hj))) k1 fuel _ _ w' ?_ (hl.step hi.size hlt hli) hs'
 refine ⟨by simp [hsz],?_,?_,?_,?_,?_,?_,?_⟩
 · intro j hj
   rw [getD_set (by omega)] at hj
   by_cases e1:r=j
   · subst e1; exact List.mem_cons_self ..
   · rw [if_neg e1] at hj; exact List.mem_cons_of_mem _ (hi.l1 j hj)
 · intro j hj hp
   rw [getD_set (by omega)]
   by_cases e1:r=j
   · subst e1; simp
   · rw [if_neg e1]
     rcases List.mem_cons.1 hj with rfl | hj
     · exact absurd rfl e1
     · by_cases hm:j∈Pp++Pl
       · exact (hdropP j hm).elim (hC j) fun h=>absurd h hp
       · exact hi.l2 j hj hm
 · intro j hj
   rcases List.mem_cons.1 hj with rfl | hj
   · exact hlt
   · exact hi.dlt j hj
 · cases o.dst <;> simp [Act.put,hi.tmps]
 · cases o.dst <;> simp [Act.put,hi.defers]
 · intro t u ht hp
   cases hdd:o.dst with
   |none =>
    rw [hdd] at ht
    refine hi.get t u ht fun j hj hb=>?_
    rcases hdropP j hj with hc | hc
    · rw [hC j hc] at hb; cases hb
    · by_cases e1:r=j
      · subst e1; rw [hdo,hdd]; simp
      · refine hp j hc ?_
        rw [getD_set (by omega),if_neg e1]; exact hb
   |some d =>
    rw [hdd] at ht
    by_cases e2:d=t
    · subst e2
      simp only [putE,lk_cons,if_true] at ht
      obtain rfl:=Option.some.inj ht
      have hb:d<n.n:=by rw [hdd] at hd; simpa [below] using hd
      have:d<a.tmps.size:=by rw [hi.tmps]; exact hb
      simp [Act.put,this]
    · simp only [putE,lk_cons,if_neg e2] at ht
      have:=hi.get t u ht fun j hj hb=>by
       rcases hdropP j hj with hc | hc
       · rw [hC j hc] at hb; cases hb
       · by_cases e1:r=j
         · subst e1; rw [hdo,hdd]; intro e3; exact e2 (Option.some.inj e3)
         · refine hp j hc ?_
           rw [getD_set (by omega),if_neg e1]; exact hb
      simp [Act.put,Array.getElem?_setIfInBounds_ne e2,this]
 · intro j hj d hd'
   rw [getD_set (by omega)] at hj ⊢
   by_cases e2:r=d
   · simp [e2]
   · rw [if_neg e2]
     by_cases e1:r=j
     · subst e1; exact r3 d hd'
     · rw [if_neg e1] at hj; exact hi.down j hj d hd'
theorem draw_write {D C Pp Pl Pp' Pl':List Nat} {e:Env} {Γ:List Asn} {i:Nat} {dst:Option Tmp} {op:Op} {ty:TypeId} {g:Option (Nat×Bool)} {Post:Value→List Asn→Prop} (hk:key ops i=some (dst,op,ty,g)) (hg:GuardIs ops e g true)
 (hs:notSel op=true) (hn:op.operands.toList.all (knows e)=true) (hd:below n dst=true) (hok:writeOk ops i dst D C Pp Pl Pp' Pl'=true) (st:StepTo P W0 Γ e op ty Post)
 (k:∀ v Γ',Post v Γ'→(∀ j∈Pl',Stable P n W0 ops (putE e dst v) Γ' j)∧Draw P n W0 ops Q (i::D) Pp' Pl' (putE e dst v) Γ'):Draw P n W0 ops Q D Pp Pl e Γ:=by
 simp only [writeOk,Bool.and_eq_true] at hok
 refine draw_turns i [] hok.1 fun j hj=>?_
 rcases List.mem_cons.1 hj with rfl | hj
 · exact turn_write hk hg hs hn hd hok.2 st k
 · cases hj
end draw
end
section
open Go Go.RowKit
def operAt (ops:Array Oper) (i:Nat):Oper:=(ops[i]?).getD default
def eqDst:Option Tmp→Option Tmp→Bool
 |some a,some b=>Nat.beq a b
 |none,none=>true
 |_,_=>false
theorem eqDst_eq {a b:Option Tmp} (h:eqDst a b=true):a=b:=by
 cases a <;> cases b <;> simp_all [eqDst]
def fine (n:Fm) (ops:Array Oper) (e:Env) (i:Nat) (dst:Option Tmp):Bool :=
 match ops[i]? with
 |some o=>notSel o.op && o.op.operands.toList.all (knows e) && below n dst && eqDst o.dst dst
 |none=>false
def gval (ops:Array Oper) (e:Env) (i:Nat):Option Bool :=
 match (operAt ops i).guard with
 |none=>some true
 |some (j,want) =>
  match (ops[j]?).bind (·.dst) with
  |some d=>match lk e d with
   |some v=>some (gbit want v)
   |none=>none
  |none=>none
def bodyOf (f:Func):Code:=match f.body with | some c=>c | none=>.skip
section
variable {n:Fm} {ops:Array Oper} {e:Env} {i:Nat} {dst:Option Tmp}
theorem fine_key (h:fine n ops e i dst=true):key ops i=some (dst,(operAt ops i).op,(operAt ops i).type,(operAt ops i).guard)∧notSel (operAt ops i).op=true∧(operAt ops i).op.operands.toList.all (knows e)=true∧below n dst=true:=by
 unfold fine at h
 cases ho:ops[i]? with
 |none=>simp [ho] at h
 |some o =>
  simp only [ho,Bool.and_eq_true] at h
  obtain ⟨⟨⟨h1,h2⟩,h3⟩,h4⟩:=h
  have h5:=eqDst_eq h4
  have h6:operAt ops i=o:=by simp [operAt,ho]
  refine ⟨?_,by rw [h6]; exact h1,by rw [h6]; exact h2,h3⟩
  simp [key,ho,h6,h5]
theorem gval_is {t:Bool} (h:gval ops e i=some t):GuardIs ops e (operAt ops i).guard t:=by
 unfold gval at h
 unfold GuardIs
 cases hg:(operAt ops i).guard with
 |none=>simp [hg] at h; simp [h]
 |some x =>
  obtain ⟨j,want⟩:=x
  simp only [hg] at h
  simp only
  cases hd:(ops[j]?).bind (·.dst) with
  |none=>simp [hd] at h
  |some d =>
   simp only [hd] at h
   cases hl:lk e d with
   |none=>simp [hl] at h
   |some v =>
    simp only [hl,Option.some.injEq] at h
    exact ⟨d,v,rfl,hl,h⟩
end
section rules
variable {P:Program} {n:Fm} {W0:World} {e:Env} {Γ Γ':List Asn} {Q:Exit→Act→World→Prop} {ops:Array Oper} {k i:Nat}
def fineOff (n:Fm) (ops:Array Oper) (i:Nat) (dst:Option Tmp):Bool :=
 match ops[i]? with
 |some o=>below n dst && eqDst o.dst dst
 |none=>false
theorem fineOff_key {dst:Option Tmp} (h:fineOff n ops i dst=true):key ops i=some (dst,(operAt ops i).op,(operAt ops i).type,(operAt ops i).guard)∧below n dst=true:=by
 unfold fineOff at h
 cases ho:ops[i]? with
 |none=>simp [ho] at h
 |some o =>
  simp only [ho,Bool.and_eq_true] at h
  have h5:=eqDst_eq h.2
  have h6:operAt ops i=o:=by simp [operAt,ho]
  exact ⟨by simp [key,ho,h6,h5],h.1⟩
variable {D Pp Pl:List Nat}
theorem stable_nil {Γ:List Asn}:∀ j∈([]:List Nat),Stable P n W0 ops e Γ j:=fun _ h=>(by cases h)
theorem stable_cons {Γ:List Asn} {l:List Nat} (i d:Nat) (v:Value) (hf:fine n ops e i (some d)=true) (hg:gval ops e i=some true) (hl:lk e d=some v) (hrun:∀ w,Sat W0 Γ w→(execOp (ev e) (operAt ops i)).run P w=.ok (.value v) w)
 (h:∀ j∈l,Stable P n W0 ops e Γ j):∀ j∈i::l,Stable P n W0 ops e Γ j:=by
 intro j hj
 rcases List.mem_cons.1 hj with rfl | hj
 · obtain ⟨h1,h2,h3,h4⟩:=fine_key hf
   obtain ⟨o,ho,q1,q2,q3,q4⟩:=key_some h1
   have e1:operAt ops j=o:=by simp [operAt,ho]
   rw [e1] at h2 h3 hrun
   refine ⟨o,v,true,ho,h2,h3,?_,by rw [q1]; exact h4,fun d' hd=>?_,fun _=>hrun,fun h=>by cases h⟩
   · have:=gval_is hg
     rwa [e1] at this
   · rw [q1] at hd
     obtain rfl:=Option.some.inj hd
     exact hl
 · exact h j hj
theorem cell_of {w:World} {b off:Nat} {c:Array Value} {T:TypeId} {fr:Nat×Nat} (h:w.heap[b]?=some (.cells c T fr)):w.cell? ⟨b,off,none⟩=c[off]?:=by
 unfold World.cell?
 simp only [h]
 rfl
theorem run_load_cell {w:World} {a:Addr} {v:Value} (h:w.cell? a=some v):(load a).run P w=.ok v w:=by
 simp only [load,Sem.run,h]
theorem run_loadCellsFrom {w:World} {a:Addr} (k:Nat):∀ (i:Nat) (acc:Array Value) (vs:List Value),vs.length=k→(∀ j v,vs[j]?=some v→w.cell? (a.add (i+j))=some v) →
 (loadCellsFrom a i k acc).run P w=.ok (acc++vs.toArray) w:=by
 induction k with
 |zero =>
  intro i acc vs hl _
  obtain rfl:=List.eq_nil_of_length_eq_zero hl
  simp [loadCellsFrom]
 |succ k ih =>
  intro i acc vs hl h
  match vs,hl with
  |v::vs,hl =>
   unfold loadCellsFrom
   refine run_seq (run_load_cell (h 0 v rfl)) ?_
   rw [ih (i+1) (acc.push v) vs (by simpa using hl) fun j u hj=>by
    have:=h (j+1) u (by simpa using hj)
    rwa [show i+(j+1)=i+1+j from by omega] at this]
   simp
theorem run_loadCells {w:World} {a:Addr} {vs:List Value} (k:Nat) (hl:vs.length=k) (h:∀ j v,vs[j]?=some v→w.cell? (a.add j)=some v):(loadCells a k).run P w=.ok vs.toArray w:=by
 unfold loadCells
 rw [run_loadCellsFrom k 0 #[] vs hl (by simpa using h)]
 simp
theorem add_none (b off j:Nat):(⟨b,off,none⟩:Addr).add j=⟨b,off+j,none⟩:=by
 unfold Addr.add
 split
 · simp_all
 · rfl
def putCells (c:Array Value) (off:Nat):List Value→Array Value
 |[]=>c
 |v::vs=>putCells (c.setIfInBounds off v) (off+1) vs
def oneCell:Value→Bool
 |.agg _ | .tuple _=>false
 |_=>true
theorem run_store_cell {w:World} {b off:Nat} {c:Array Value} {T:TypeId} {v:Value} (h:w.heap[b]?=some (.cells c T (0,0))) (ho:off<c.size) (hv:oneCell v=true) :
 (store ⟨b,off,none⟩ v).run P w=.ok () (w.setCell ⟨b,off,none⟩ v):=by
 have hc:w.cell? ⟨b,off,none⟩=some c[off]:=by rw [cell_of h]; simp [ho]
 have hf:w.frozen? ⟨b,off,none⟩=false:=by simp [World.frozen?,h]
 cases v <;> simp_all [store,Sem.run,oneCell]
theorem setCell_heap {w:World} {b off:Nat} {c:Array Value} {T:TypeId} {v:Value} (h:w.heap[b]?=some (.cells c T (0,0))):(w.setCell ⟨b,off,none⟩ v).heap[b]?=some (.cells (c.setIfInBounds off v) T (0,0)):=by
 simp [World.setCell,Array.getElem?_modify,h]
theorem run_storeCells {b:Nat} {T:TypeId} {off:Nat} (vs:List Value):∀ (i:Nat) (w:World) (c:Array Value),w.heap[b]?=some (.cells c T (0,0))→off+i+vs.length≤c.size→vs.all oneCell=true →
 ∃ w',(storeCells ⟨b,off,none⟩ vs i).run P w=.ok () w'∧w'.heap[b]?=some (.cells (putCells c (off+i) vs) T (0,0))∧w'.heap.size=w.heap.size∧(∀ d,d≠b→w'.heap[d]?=w.heap[d]?)∧w'.os=w.os∧w'.tape=w.tape∧w'.output=w.output:=by
 induction vs with
 |nil=>intro i w c h _ _; exact ⟨w,rfl,h,rfl,fun _ _=>rfl,rfl,rfl,rfl⟩
 |cons v vs ih =>
  intro i w c h hl hv
  simp only [List.all_cons,Bool.and_eq_true] at hv
  simp only [List.length_cons] at hl
  have h1:=run_store_cell (P:=P) (off:=off+i) (v:=v) h (by omega) hv.1
  obtain ⟨w',r1,r2,r3,r4,r5,r6,r7⟩:=ih (i+1) _ _ (setCell_heap (off:=off+i) (v:=v) h) (by simp; omega) hv.2
  refine ⟨w',?_,by unfold putCells; rw [show off+i+1=off+(i+1) from by omega]; exact r2,by rw [r3]; simp [World.setCell],fun d hd=>(r4 d hd).trans ?_,r5,r6,r7⟩
  · unfold storeCells
    rw [add_none]
    exact run_seq h1 r1
  · simp only [World.setCell,Array.getElem?_modify]
    rw [if_neg (fun e1=>hd e1.symm)]
theorem wrap_in {x:Int} (h1:-9223372036854775808≤x) (h2:x≤9223372036854775807):IntKind.i64.wrap x=x:=by
 simp only [IntKind.wrap]
 have:IntKind.i64.bits=64:=rfl
 simp [this,IntKind.signed]
 omega
end rules
section ends
variable {P:Program} {n:Fm} {W0:World} {e:Env} {Γ Γ':List Asn} {fn:Func} {R:Value→List Asn→Prop} {rs:List ResultVar}
end ends
inductive Less:List Asn→List Asn→Prop
 |refl {Γ:List Asn}:Less Γ Γ
 |take {Γ Γ1 Δ:List Asn} {A:Asn} (hp:Pull Γ A Γ1) (h:Less Γ1 Δ):Less Γ (A::Δ)
 |drop {Γ Γ1 Δ:List Asn} {A:Asn} (hp:Pull Γ A Γ1) (h:Less Γ1 Δ):Less Γ Δ
theorem Star.less {Γ Δ:List Asn} (hl:Less Γ Δ):∀ {S I:Nat→Prop} {h:Nat→Option Obj},Star Γ S I h→Star Δ S I h:=by
 induction hl with
 |refl=>exact fun h=>h
 |take hp _ ih =>
  intro S I h hs
  obtain ⟨S1,S2,h1,h2,h3,h4,h5⟩:=hs.pull hp
  exact ⟨S1,S2,h1,h2,h3,h4,ih h5⟩
 |drop hp _ ih =>
  intro S I h hs
  obtain ⟨S1,S2,h1,h2,h3,h4,h5⟩:=hs.pull hp
  exact ih (h5.wide h2)
theorem Sat.less {W0 w:World} {Γ Δ:List Asn} (hl:Less Γ Δ) (h:Sat W0 Γ w):Sat W0 Δ w:=h.imp fun _ _=>Star.less hl
end
section
open Go Go.RowKit
def LiesAt (c:Array Value) (off:Nat) (vs:List Value):Prop:=∀ j v,vs[j]?=some v→c[off+j]?=some v
def RowsA (k:Nat) (a:Option Addr) (cap:Nat) (rows:List (List Value)):Asn where
 holds S _ h:=(∀ r∈rows,r.length=k)∧((rows=[]∧cap=0)∨∃ b off c T,a=some ⟨b,off,none⟩∧S b∧h b=some (.cells c T (0,0))∧rows.length≤cap∧off+cap*k≤c.size∧LiesAt c off rows.flatten)
 loc:=by
  rintro S I h h' ⟨h0,h1⟩ he
  refine ⟨h0,h1.imp id ?_⟩
  rintro ⟨b,off,c,T,q1,q2,q3,q4⟩
  exact ⟨b,off,c,T,q1,q2,(he b (.inl q2)).trans q3,q4⟩
 mono:=fun h _=>h
def ImmR (k:Nat) (a:Option Addr) (rows:List (List Value)):Asn where
 holds _ I h:=(∀ r∈rows,r.length=k)∧(rows=[]∨∃ (b off:Nat) (c:Array Value) (T:TypeId) (fr:Nat×Nat),a=some ⟨b,off,none⟩∧I b∧h b=some (.cells c T fr)∧LiesAt c off rows.flatten)
 loc:=by
  rintro S I h h' ⟨h0,h1⟩ he
  refine ⟨h0,h1.imp id ?_⟩
  rintro ⟨b,off,c,T,fr,q1,q2,q3,q4⟩
  exact ⟨b,off,c,T,fr,q1,q2,(he b (.inr q2)).trans q3,q4⟩
 mono:=by
  rintro S I I' h ⟨h0,h1⟩ hi
  refine ⟨h0,h1.imp id ?_⟩
  rintro ⟨b,off,c,T,fr,q1,q2,q3⟩
  exact ⟨b,off,c,T,fr,q1,hi b q2,q3⟩
def Reads (W0:World) (Γ:List Asn) (a:Option Addr) (rows:List (List Value)):Prop:=∀ w,Sat W0 Γ w→∀ j v,rows.flatten[j]?=some v→∃ p,a=some p∧w.cell? (p.add j)=some v
def ints (xs:List Int):List (List Value):=xs.map fun x=>[.int .i64 x]
abbrev IntsA (a:Option Addr) (cap:Nat) (xs:List Int):Asn:=RowsA 1 a cap (ints xs)
theorem ints_flatten (xs:List Int):(ints xs).flatten=xs.map fun x=>.int .i64 x:=by
 induction xs with
 |nil=>rfl
 |cons x xs ih =>
  show (ints xs).flatten.cons _=_
  rw [ih]; rfl
theorem ints_rows (xs:List Int):∀ r∈ints xs,r.length=1:=by
 intro r hr
 simp only [ints,List.mem_map] at hr
 obtain ⟨x,_,rfl⟩:=hr
 rfl
@[simp] theorem ints_length (xs:List Int):(ints xs).length=xs.length:=by simp [ints]
section
variable {P:Program} {n:Nat} {W0 w:World} {e:Env} {Γ Γ':List Asn} {k:Nat} {a a1 a2:Option Addr} {cap:Nat} {rows news:List (List Value)}
theorem flatten_length (h:∀ r∈rows,r.length=k):rows.flatten.length=rows.length*k:=by
 induction rows with
 |nil=>simp
 |cons r rs ih =>
  rw [List.flatten_cons,List.length_append,ih fun x hx=>h x (List.mem_cons_of_mem _ hx),h r (List.mem_cons_self ..),List.length_cons,Nat.succ_mul]
  omega
theorem RowsA.reads (hp:Pull Γ (RowsA k a cap rows) Γ'):Reads W0 Γ a rows:=by
 intro w hw j v hj
 obtain ⟨S,I,⟨S1,S2,h1,h2,h3,⟨h4,h5⟩,h6⟩,r⟩:=hw.pull hp
 rcases h5 with ⟨rfl,_⟩ | ⟨b,off,c,T,rfl,q2,q3,q4,q5,q6⟩
 · simp at hj
 · refine ⟨_,rfl,?_⟩
   rw [add_none,cell_of q3]
   exact q6 j v hj
theorem RowsA.len (h:Sat W0 (RowsA k a cap rows::Γ) w):(∀ r∈rows,r.length=k)∧rows.length≤cap:=by
 obtain ⟨S,I,⟨S1,S2,h1,h2,h3,⟨h4,h5⟩,h6⟩,r⟩:=h
 rcases h5 with ⟨rfl,rfl⟩ | ⟨b,off,c,T,rfl,q2,q3,q4,q5,q6⟩
 · exact ⟨h4,by simp⟩
 · exact ⟨h4,q4⟩
theorem RowsA.freeze (h:Sat W0 (RowsA k a cap rows::Γ) w):Sat W0 (ImmR k a rows::Γ) w:=by
 obtain ⟨S,I,⟨S1,S2,h1,h2,h3,⟨h4,h5⟩,h6⟩,d1,d2,d3,d4,d5⟩:=h
 refine ⟨S2,fun c=>I c∨S1 c,⟨fun _=>False,S2,fun _ h=>h.elim,fun _ h=>h,fun _ h _=>h,⟨h4,?_⟩,h6.mono fun _ h=>.inl h⟩,?_,fun c hc=>d2 c (h2 c hc),?_,fun c hc=>.inl (d4 c hc),d5⟩
 · rcases h5 with ⟨rfl,_⟩ | ⟨b,off,c,T,q1,q2,q3,q4,q5,q6⟩
   · exact .inl rfl
   · exact .inr ⟨b,off,c,T,_,q1,.inr q2,q3,q6⟩
 · rintro c hc (hi | hs)
   · exact d1 c (h2 c hc) hi
   · exact h3 c hs hc
 · rintro c (hi | hs)
   · exact d3 c hi
   · exact d2 c (h1 c hs)
theorem RowsA.none_mk (h:Sat W0 Γ w):Sat W0 (RowsA k a 0 []::Γ) w :=
 h.imp fun S _ h=>⟨fun _=>False,S,fun _ h=>h.elim,fun _ h=>h,fun _ h _=>h,⟨fun r h=>(by cases h),.inl ⟨rfl,rfl⟩⟩,h⟩
theorem RowsA.of_own {b:Nat} {c:Array Value} {T:TypeId} (h:Sat W0 (Asn.own b (.cells c T (0,0))::Γ) w) (hk:∀ r∈rows,r.length=k) (hc:c=rows.flatten.toArray):Sat W0 (RowsA k (some ⟨b,0,none⟩) rows.length rows::Γ) w:=by
 refine Sat.head_imp (A:=Asn.own b (.cells c T (0,0))) (B:=RowsA k (some ⟨b,0,none⟩) rows.length rows) (fun S I h ⟨h1,h2⟩=>⟨hk,.inr ⟨b,0,c,T,rfl,h1,h2,Nat.le_refl _,?_,?_⟩⟩) h
 · subst hc; simp [flatten_length hk]
 · subst hc; intro j v hj; simpa using hj
theorem run_firstCells (size m cap:Nat) (hl:rows.flatten.length=m*size) (h:∀ j v,rows.flatten[j]?=some v→∃ p,a=some p∧w.cell? (p.add j)=some v) :
 (Builtin.firstCells size m (.slice a m cap)).run P w=.ok rows.flatten.toArray w:=by
 cases a with
 |none =>
  have:rows.flatten=[]:=by
   cases hf:rows.flatten with
   |nil=>rfl
   |cons x r=>obtain ⟨p,hp,_⟩:=h 0 x (by simp [hf]); cases hp
  rw [this]; rfl
 |some p =>
  refine run_loadCells _ hl fun j v hj=>?_
  obtain ⟨q,hq,hc⟩:=h j v hj
  obtain rfl:=Option.some.inj hq
  exact hc
theorem putCells_size (vs:List Value):∀ (c:Array Value) (off:Nat),(putCells c off vs).size=c.size:=by
 induction vs with
 |nil=>intro c off; rfl
 |cons v vs ih=>intro c off; rw [putCells,ih]; simp
theorem putCells_get (vs:List Value):∀ (c:Array Value) (off i:Nat),off+vs.length≤c.size→(putCells c off vs)[i]?=if off≤i∧i<off+vs.length then vs[i - off]? else c[i]?:=by
 induction vs with
 |nil=>intro c off i _; rw [putCells,if_neg (by simp)]
 |cons v vs ih =>
  intro c off i hl
  simp only [List.length_cons] at hl
  rw [putCells,ih _ _ _ (by simp; omega)]
  by_cases h1:off=i
  · subst h1
    rw [if_neg (by omega),if_pos (by simp)]
    simp [show off<c.size from by omega]
  · by_cases h2:off+1≤i∧i<off+1+vs.length
    · rw [if_pos h2,if_pos (by simp; omega),show i - off=(i - (off+1))+1 from by omega]
      simp
    · rw [if_neg h2,if_neg (by simp; omega),Array.getElem?_setIfInBounds_ne h1]
theorem st_append {op:Op} {ty:TypeId} (t ty' E cap2:Nat) (info:TypeInfo) (zv:Value)
 (hx:∀ w,(execOp (ev e) (bare op ty)).run P w=(Builtin.append_ #[t,t] ty' #[.slice a1 rows.length cap,.slice a2 news.length cap2] >>= fun v=>pure (Next.value v)).run P w)
 (ht:P.underlying t=some (.slice E)) (hi:P.info? E=some info) (hz:info.zero=some zv) (hk:info.size=k) (hzs:zv.cells.size=k)
 (hp:Pull Γ (RowsA k a1 cap rows) Γ') (hr:Reads W0 Γ a2 news) (hnk:∀ r∈news,r.length=k) (hone:news.flatten.all oneCell=true)
 (hbig:(rows.length+news.length)*info.bytes≤140737488355328) (hb0:0<info.bytes) :
 StepTo P W0 Γ e op ty (fun v Δ=>∃ a' cap',v=.slice a' (rows.length+news.length) cap'∧Δ=RowsA k a' cap' (rows++news)::Γ'):=by
 subst hk
 refine StepTo.val fun w hw=>?_
 have h0:=hw.pull hp
 obtain ⟨hrk,hlc⟩:=RowsA.len h0
 have hrd:∀ j v,news.flatten[j]?=some v→∃ p,a2=some p∧w.cell? (p.add j)=some v:=hr w hw
 have hrr:∀ j v,rows.flatten[j]?=some v→∃ p,a1=some p∧w.cell? (p.add j)=some v:=RowsA.reads hp w hw
 have hnl:=flatten_length hnk
 have hrl:=flatten_length hrk
 have happ:∀ r∈rows++news,r.length=info.size:=fun r hm=>(List.mem_append.1 hm).elim (hrk r) (hnk r)
 have hmul:rows.length+news.length≤140737488355328:=Nat.le_trans (Nat.le_mul_of_pos_right _ hb0) hbig
 have hf:=run_firstCells (P:=P) (w:=w) info.size news.length cap2 hnl hrd
 by_cases hroom:rows.length+news.length≤cap
 · -- there is room
   have hrest:=h0
   obtain ⟨S,I,⟨S1,S2,h1,h2,h3,⟨_,h5⟩,h6⟩,d1,d2,d3,d4,d5⟩:=h0
   rcases h5 with ⟨rfl,rfl⟩ | ⟨b,off,c,T,rfl,q2,q3,q4,q5,q6⟩
   · have hn0:news=[]:=List.eq_nil_of_length_eq_zero (by simpa using hroom)
     subst hn0
     refine ⟨.slice a1 0 0,w,_,?_,⟨a1,0,rfl,rfl⟩,hrest⟩
     rw [hx]
     refine run_seq (w':=w) (x:=.slice a1 0 0) ?_ rfl
     simp only [List.length_nil] at hf ⊢
     cases a1 <;> simp [Builtin.append_,run_underlying ht,Go.sizeOf,typeInfo,hi,Builtin.lenOf,hf,storeCells]
   · have hsz:off+(rows.length*info.size)+0+news.flatten.length≤c.size:=by
      rw [hnl,Nat.add_zero,Nat.add_assoc,← Nat.add_mul]
      exact Nat.le_trans (Nat.add_le_add_left (Nat.mul_le_mul_right _ hroom) _) q5
     obtain ⟨w',r1,r2,r3,r4,r5,r6,r7⟩:=run_storeCells (P:=P) (off:=off+rows.length*info.size) news.flatten 0 w c q3 (by omega) hone
     refine ⟨.slice (some ⟨b,off,none⟩) (rows.length+news.length) cap,w',_,?_,⟨_,cap,rfl,rfl⟩,?_⟩
     · rw [hx]
       refine run_seq (w':=w') (x:=.slice (some ⟨b,off,none⟩) (rows.length+news.length) cap) ?_ rfl
       simp [Builtin.append_,run_underlying ht,Go.sizeOf,typeInfo,hi,Builtin.lenOf,hroom,hf,add_none,r1]
     · have hne:∀ d,d≠b→w'.heap[d]?=w.heap[d]?:=r4
       have hnot:∀ d,S2 d∨I d→d≠b:=by
        rintro d hd rfl
        exact hd.elim (h3 d q2) (d1 d (h1 d q2))
       refine ⟨S,I,⟨S1,S2,h1,h2,h3,⟨happ,.inr ⟨b,off,_,T,rfl,q2,r2,by simpa using hroom,?_,?_⟩⟩,h6.loc fun d hd=>hne d (hnot d hd)⟩,d1,fun d hd=>r3▸d2 d hd,fun d hd=>r3▸d3 d hd,d4,?_⟩
       · rw [putCells_size]; exact q5
       · intro j v hj
         rw [List.flatten_append,List.getElem?_append] at hj
         rw [putCells_get _ _ _ _ (by omega)]
         split at hj
         · rename_i hlt
           rw [if_neg (by omega)]
           exact q6 j v hj
         · rename_i hge
           have hjl:j - rows.flatten.length<news.flatten.length:=by
            rcases Nat.lt_or_ge (j - rows.flatten.length) news.flatten.length with h | h
            · exact h
            · rw [List.getElem?_eq_none h] at hj; cases hj
           rw [if_pos (by omega),show off+j - (off+rows.length*info.size+0)=j - rows.flatten.length from by omega]
           exact hj
       · exact ⟨r5.trans d5.os,r6.trans d5.tape,r7.trans d5.output,by rw [r3]; exact d5.size,fun d hd=>(hne d (hnot d (.inr (d4 d hd)))).trans (d5.block d hd)⟩
 · -- it grows
   have hg:cap<rows.length+news.length:=by omega
   have hfd:=run_firstCells (P:=P) (w:=w.drew) (a:=a2) info.size news.length cap2 hnl (fun j v hj=>by obtain ⟨p,hp',hc⟩:=hrd j v hj; exact ⟨p,hp',hc⟩)
   have hfo:=run_firstCells (P:=P) (w:=w.drew) (a:=a1) info.size rows.length cap hrl (fun j v hj=>by obtain ⟨p,hp',hc⟩:=hrr j v hj; exact ⟨p,hp',hc⟩)
   have h63':¬ (9223372036854775807<((rows.length:Int)+(news.length:Int))):=by omega
   have h48':¬ (281474976710656<Builtin.nextslicecap (rows.length+news.length) cap*info.bytes):=by have:=growslice_fits hg hbig; omega
   have hge:=grownCap_ge w (rows.length+news.length) cap E
   refine ⟨.slice (some ⟨w.heap.size,0,none⟩) (rows.length+news.length) (grownCap w (rows.length+news.length) cap E),
    w.drew.alloc (.cells (rows.flatten.toArray++news.flatten.toArray++Builtin.zeroCells zv.cells (grownCap w (rows.length+news.length) cap E - (rows.length+news.length))) E),_,?_,⟨_,_,rfl,rfl⟩,?_⟩
   · rw [hx]
     refine run_seq (x:=.slice (some ⟨w.heap.size,0,none⟩) (rows.length+news.length) (grownCap w (rows.length+news.length) cap E)) ?_ rfl
     simp [Builtin.append_,run_underlying ht,Go.sizeOf,typeInfo,zeroValue,hi,hz,Builtin.lenOf,hroom,h63',h48',Question.forced,hfd,hfo,newRow,grownCap]
     congr 2
     apply Array.ext'
     simp [List.append_assoc]
   · have h8:Sat W0 Γ' w:=hw.drop hp
     have h9:=(h8.drew).alloc (.cells (rows.flatten.toArray++news.flatten.toArray++Builtin.zeroCells zv.cells (grownCap w (rows.length+news.length) cap E - (rows.length+news.length))) E)
     refine Sat.head_imp (A:=Asn.own w.heap.size (.cells (rows.flatten.toArray++news.flatten.toArray++Builtin.zeroCells zv.cells (grownCap w (rows.length+news.length) cap E - (rows.length+news.length))) E)) (B:=RowsA info.size (some ⟨w.heap.size,0,none⟩) (grownCap w (rows.length+news.length) cap E) (rows++news)) (fun S I h ⟨k1,k2⟩=>⟨happ,.inr ⟨w.heap.size,0,_,E,rfl,k1,k2,by simpa using hge,?_,?_⟩⟩) h9
     · simp only [Array.size_append,List.size_toArray,size_zeroCells,hzs,hrl,hnl,← Nat.add_mul,Nat.zero_add]
       apply Nat.mul_le_mul_right
       omega
     · intro j v hj
       rw [List.flatten_append] at hj
       have hjl:j<(rows.flatten++news.flatten).length:=by
        rcases Nat.lt_or_ge j (rows.flatten++news.flatten).length with h | h
        · exact h
        · rw [List.getElem?_eq_none h] at hj; cases hj
       rw [Nat.zero_add,Array.getElem?_append_left (by simpa using hjl)]
       simpa using hj
theorem ints_one (xs:List Int):(ints xs).flatten.all oneCell=true:=by
 rw [ints_flatten]
 simp [oneCell]
end
end
section
open Go Go.RowKit
section
variable {P:Program} {n:Fm} {W0 w:World} {e:Env} {Γ Γ':List Asn} {K:Act→World→Prop} {k:Nat} {a a1 a2:Option Addr} {cap:Nat} {rows news:List (List Value)}
theorem flatten_get (hk:∀ r∈rows,r.length=k):∀ {i j:Nat} {row:List Value} {v:Value},rows[i]?=some row→row[j]?=some v→rows.flatten[i*k+j]?=some v:=by
 induction rows with
 |nil=>intro i j row v h; simp at h
 |cons r rs ih =>
  intro i j row v hi hj
  have hr:=hk r (List.mem_cons_self ..)
  rw [List.flatten_cons,List.getElem?_append]
  cases i with
  |zero =>
   simp at hi
   subst hi
   have:j<r.length:=by
    rcases Nat.lt_or_ge j r.length with h | h
    · exact h
    · rw [List.getElem?_eq_none h] at hj; cases hj
   rw [Nat.zero_mul,Nat.zero_add,if_pos this]; exact hj
  |succ i =>
   rw [if_neg (by rw [hr,Nat.succ_mul]; omega),hr,show (i+1)*k+j - k=i*k+j from by rw [Nat.succ_mul]; omega]
   exact ih (fun x hx=>hk x (List.mem_cons_of_mem _ hx)) (by simpa using hi) hj
theorem spot_none {w:World} {p:Addr} {v:Value} (h:w.cell? (p.add 0)=some v):p.spot=none:=by
 unfold World.cell? at h
 split at h
 · cases hs:p.spot with
   |none=>rfl
   |some q=>simp [Addr.add,hs] at h
 · cases h
theorem index_at {t:TypeId} {E m c sz b off i:Nat} {x:Int} {ix:Nat} {o:Oper} (info:TypeInfo) (hx:∀ w,(execOp (ev e) o).run P w=(Instr.indexAt t (.slice a m c) (.int .i64 x) >>= fun v=>pure (Next.value v)).run P w) (ht:P.underlying t=some (.slice E))
 (hi:P.info? E=some info) (hs:info.size=sz) (ha:a=some ⟨b,off,none⟩) (hxi:x=(i:Nat)) (hlt:i<m) (hix:ix=off+i*sz):∀ w,(execOp (ev e) o).run P w=.ok (.value (.pointer (some ⟨b,ix,none⟩))) w:=by
 intro w
 subst ha; subst hxi; subst hs; subst hix
 rw [hx]
 refine run_seq (w':=w) (x:=.pointer (some ⟨b,off+i*info.size,none⟩)) ?_ rfl
 simp [Instr.indexAt,asIntOf,run_underlying ht,Go.sizeOf,typeInfo,hi,hlt,add_none]
def putRow (row:List Value) (j:Nat) (vs:List Value):List Value:=row.take j++vs++row.drop (j+vs.length)
theorem putRow_length {row vs:List Value} {j:Nat} (h:j+vs.length≤row.length):(putRow row j vs).length=row.length:=by
 simp [putRow]; omega
theorem putRow_get {row vs:List Value} {j:Nat} (h:j+vs.length≤row.length) (q:Nat):(putRow row j vs)[q]?=if j≤q∧q<j+vs.length then vs[q - j]? else row[q]?:=by
 unfold putRow
 rw [List.getElem?_append,List.getElem?_append]
 simp only [List.length_append,List.length_take,List.getElem?_take,List.getElem?_drop]
 have:min j row.length=j:=by omega
 rw [this]
 by_cases h1:q<j
 · rw [if_pos (by omega),if_pos h1,if_pos h1,if_neg (by omega)]
 · by_cases h2:q<j+vs.length
   · rw [if_pos h2,if_neg h1,if_pos ⟨by omega,h2⟩]
   · rw [if_neg h2,if_neg (by omega)]
     congr 1; omega
theorem flatten_at (hk:∀ r∈rows,r.length=k):∀ {q:Nat} {v:Value},rows.flatten[q]?=some v→∃ i j row,rows[i]?=some row∧row[j]?=some v∧q=i*k+j∧j<k:=by
 induction rows with
 |nil=>intro q v h; simp at h
 |cons r rs ih =>
  intro q v h
  have hr:=hk r (List.mem_cons_self ..)
  rw [List.flatten_cons,List.getElem?_append] at h
  split at h
  · rename_i hlt
    exact ⟨0,q,r,rfl,h,by simp,by omega⟩
  · rename_i hge
    obtain ⟨i,j,row,h1,h2,h3,h4⟩:=ih (fun x hx=>hk x (List.mem_cons_of_mem _ hx)) h
    exact ⟨i+1,j,row,by simpa using h1,h2,by rw [Nat.succ_mul]; omega,h4⟩
theorem slice_at {t:TypeId} {E m c sz lo hi mx:Nat} {o:Oper} (l h mxo:Option Value) (info:TypeInfo) (hx:∀ w,(execOp (ev e) o).run P w=(Instr.sliceAt t (.slice a m c) l h mxo >>= fun v=>pure (Next.value v)).run P w)
 (ht:P.underlying t=some (.slice E)) (hi':P.info? E=some info) (hs:info.size=sz)
 (hl:l=none∧lo=0∨∃ x:Int,l=some (.int .i64 x)∧x=(lo:Nat)) (hh:h=none∧hi=m∧mxo=none∨∃ x:Int,h=some (.int .i64 x)∧x=(hi:Nat)) (hm:mxo=none∧mx=c∨∃ x:Int,mxo=some (.int .i64 x)∧x=(mx:Nat))
 (h1:lo≤hi) (h2:hi≤mx) (h3:mx≤c) :
 ∀ w,(execOp (ev e) o).run P w=.ok (.value (.slice (if mx=lo then a else a.map (·.add (lo*sz))) (hi - lo) (mx - lo))) w:=by
 intro w
 subst hs
 rw [hx]
 refine run_seq (w':=w) (x:=.slice (if mx=lo then a else a.map (·.add (lo*info.size))) (hi - lo) (mx - lo)) ?_ rfl
 have e1:∀ (y:Nat) (q:Nat) (code:BoundsCode),q≤y→(Instr.sliceBound (.int .i64 (q:Nat)) y code).run P w=.ok q w:=by
  intro y q code hq
  have:(0:Int)≤(q:Int)∧(q:Int)≤(y:Int):=⟨by omega,by omega⟩
  simp [Instr.sliceBound,asIntOf,this]
 have hb:(Instr.sliceBounds true m c l h mxo).run P w=.ok (lo,hi,mx) w:=by
  rcases hm with ⟨rfl,rfl⟩ | ⟨z,rfl,rfl⟩
  · rcases hh with ⟨rfl,rfl,-⟩ | ⟨y,rfl,rfl⟩ <;> rcases hl with ⟨rfl,rfl⟩ | ⟨x,rfl,rfl⟩ <;> simp [Instr.sliceBounds,e1 _ _ _ h1,e1 _ _ _ h2]
  · rcases hh with ⟨rfl,rfl,h9⟩ | ⟨y,rfl,rfl⟩
    · cases h9
    · rcases hl with ⟨rfl,rfl⟩ | ⟨x,rfl,rfl⟩ <;> simp [Instr.sliceBounds,e1 _ _ _ h1,e1 _ _ _ h2,e1 _ _ _ h3]
 simp [Instr.sliceAt,Instr.slice,run_underlying ht,Go.sizeOf,typeInfo,hi',hb]
end
end
section
open Go Go.RowKit
structure OB where
 b:Nat
 c:Array Value
 T:TypeId
def OB.asn (o:OB):Asn:=Asn.own o.b (.cells o.c o.T (0,0))
def nthO:List OB→Nat→Option OB
 |[],_=>none
 |o::_,0=>some o
 |_::r,j+1=>nthO r j
def setO:List OB→Nat→OB→List OB
 |[],_,_=>[]
 |_::r,0,x=>x::r
 |o::r,j+1,x=>o::setO r j x
def delO:List OB→Nat→List OB
 |[],_=>[]
 |_::r,0=>r
 |o::r,j+1=>o::delO r j
structure SR where
 v:Value
 own:List OB
 q:List (Value×Value)
def blk (b:Nat):Value:=.pointer (some ⟨b,0,none⟩)
def SR.eq (s:SR) (x y:Nat):SR:=⟨s.v,s.own,(blk x,blk y)::s.q⟩
def Alike (q:List (Value×Value)):Prop:=∀ p∈q,p.1=p.2
theorem Alike.of {q:List (Value×Value)} (h:q.map (·.1)=q.map (·.2)):Alike q:=by
 induction q with
 |nil=>intro p hp; cases hp
 |cons x r ih =>
  simp only [List.map_cons,List.cons.injEq] at h
  intro p hp
  rcases List.mem_cons.1 hp with rfl | hp
  · exact h.1
  · exact ih h.2 p hp
theorem Alike.cons {x y:Value} {q:List (Value×Value)} (h:Alike ((x,y)::q)):x=y∧Alike q:=⟨h _ (List.mem_cons_self ..),fun p hp=>h p (List.mem_cons_of_mem _ hp)⟩
theorem Alike.app {q q':List (Value×Value)} (h:Alike (q++q')):Alike q∧Alike q':=⟨fun p hp=>h p (List.mem_append_left _ hp),fun p hp=>h p (List.mem_append_right _ hp)⟩
theorem blk_eq {x y:Nat} (h:blk x=blk y):x=y:=by simp [blk] at h; exact h
def semRun (P:Program):Sem Next→List OB→Nat→Option SR
 |.pure (.value v),own,_=>some ⟨v,own,[]⟩
 |.pure .skip,own,_=>some ⟨undef,own,[]⟩
 |.program k,own,j=>semRun P (k P) own j
 |.mark _ k,own,j=>semRun P k own j
 |.load _ a k,own,j =>
  match nthO own j with
  |none=>none
  |some o =>
   match a.spot with
   |some _=>none
   |none =>
    match o.c[a.off]? with
    |none=>none
    |some v=>(semRun P (k v) own j).map fun s=>s.eq a.block o.b
 |.store _ a v k,own,j =>
  match nthO own j with
  |none=>none
  |some o =>
   match a.spot with
   |some _=>none
   |none =>
    match oneCell v && Nat.blt a.off o.c.size with
    |false=>none
    |true=>(semRun P k (setO own j ⟨o.b,o.c.setIfInBounds a.off v,o.T⟩) j).map fun s=>s.eq a.block o.b
 |_,_,_=>none
abbrev owns (l:List OB):List Asn:=l.map OB.asn
theorem nthO_pull:∀ {l:List OB} {j:Nat} {o:OB} {Γ:List Asn},nthO l j=some o→∃ Δ,Pull (owns l++Γ) o.asn Δ∧∀ o',Pull (owns (setO l j o')++Γ) o'.asn Δ
 |[],_,_,_,h=>by cases h
 |x::r,0,o,Γ,h=>by
  obtain rfl:=Option.some.inj h
  exact ⟨_,.here,fun _=>.here⟩
 |x::r,j+1,o,Γ,h=>by
  obtain ⟨Δ,h1,h2⟩:=nthO_pull (Γ:=Γ) (show nthO r j=some o from h)
  exact ⟨_,.there h1,fun o'=>.there (h2 o')⟩
theorem semRun_ok {P:Program} {W0:World} {Γ:List Asn} {j:Nat}:∀ {s:Sem Next} {own:List OB} {r:SR} {w:World},semRun P s own j=some r→Alike r.q→Sat W0 (owns own++Γ) w →
 ∃ w' x,s.run P w=.ok x w'∧(x=.value r.v∨(x=.skip∧r.v=undef))∧Sat W0 (owns r.own++Γ) w':=by
 intro s
 induction s with
 |pure a =>
  intro own r w h _ hw
  cases a with
  |value v=>obtain rfl:=Option.some.inj h; exact ⟨w,_,rfl,.inl rfl,hw⟩
  |skip=>obtain rfl:=Option.some.inj h; exact ⟨w,_,rfl,.inr ⟨rfl,rfl⟩,hw⟩
  |_=>cases h
 |program k ih=>intro own r w h hl hw; exact ih P h hl hw
 |mark m k ih=>intro own r w h hl hw; exact ih h hl hw
 |load m a k ih =>
  intro own r w h hl hw
  simp only [semRun] at h
  cases ho:nthO own j with
  |none=>simp [ho] at h
  |some o =>
   simp only [ho] at h
   cases hs:a.spot with
   |some q=>simp [hs] at h
   |none =>
    simp only [hs] at h
    cases hc:o.c[a.off]? with
    |none=>simp [hc] at h
    |some v =>
     simp only [hc] at h
     cases hk:semRun P (k v) own j with
     |none=>simp [hk] at h
     |some s =>
      simp only [hk,Option.map_some,Option.some.injEq] at h
      subst h
      obtain ⟨e1,e2⟩:=Alike.cons hl
      replace e1:=blk_eq e1
      obtain ⟨Δ,hp,_⟩:=nthO_pull (Γ:=Γ) ho
      have hb:=(hw.pull hp).own_at
      have hcell:w.cell? a=some v:=by
       have:a=⟨o.b,a.off,none⟩:=by cases a; simp_all
       rw [this,cell_of hb]; exact hc
      obtain ⟨w',x,h1,h2,h3⟩:=ih v hk e2 hw
      exact ⟨w',x,by simp only [Sem.run,hcell]; exact h1,h2,h3⟩
 |store m a v k ih =>
  intro own r w h hl hw
  simp only [semRun] at h
  cases ho:nthO own j with
  |none=>simp [ho] at h
  |some o =>
   simp only [ho] at h
   cases hs:a.spot with
   |some q=>simp [hs] at h
   |none =>
    simp only [hs] at h
    cases hc:(oneCell v && Nat.blt a.off o.c.size) with
    |false=>simp [hc] at h
    |true =>
     simp only [hc] at h
     cases hk:semRun P k (setO own j ⟨o.b,o.c.setIfInBounds a.off v,o.T⟩) j with
     |none=>simp [hk] at h
     |some s =>
      simp only [hk,Option.map_some,Option.some.injEq] at h
      subst h
      obtain ⟨e1,e2⟩:=Alike.cons hl
      replace e1:=blk_eq e1
      simp only [Bool.and_eq_true] at hc
      have hlt:a.off<o.c.size:=by have:=hc.2; simpa using this
      obtain ⟨Δ,hp,hp2⟩:=nthO_pull (Γ:=Γ) ho
      have h0:=hw.pull hp
      have hb:=h0.own_at
      have ha:a=⟨o.b,a.off,none⟩:=by cases a; simp_all
      have hrun:=run_store_cell (P:=P) (v:=v) hb hlt hc.1
      have hset:=setCell_heap (off:=a.off) (v:=v) hb
      have hw2:Sat W0 (owns (setO own j ⟨o.b,o.c.setIfInBounds a.off v,o.T⟩)++Γ) (w.setCell ⟨o.b,a.off,none⟩ v):=by
       refine Sat.push (hp2 _) (h0.put rfl rfl rfl (by simp [World.setCell]) hset ?_)
       intro c hne
       simp only [World.setCell,Array.getElem?_modify]
       rw [if_neg (fun e=>hne e.symm)]
      obtain ⟨w',x,h1,h2,h3⟩:=ih hk e2 hw2
      have hcell:w.cell? ⟨o.b,a.off,none⟩=some o.c[a.off]:=by rw [cell_of hb]; simp [hlt]
      have hf:w.frozen? ⟨o.b,a.off,none⟩=false:=by simp [World.frozen?,hb]
      refine ⟨w',x,?_,h2,h3⟩
      rw [ha]
      have hv:=hc.1
      have key:∀ k':Sem Next,(Sem.store m ⟨o.b,a.off,none⟩ v k').run P w=k'.run P (w.setCell ⟨o.b,a.off,none⟩ v):=by
       intro k'
       cases v <;> first | (simp only [Sem.run,hcell,hf]; rfl) | (simp [oneCell] at hv; done)
      rw [key]; exact h1
 |_=>intro own r w h _ _; cases h
def semVal (P:Program):Sem Next→Option Value
 |.pure (.value v)=>some v
 |.pure .skip=>some undef
 |.program k=>semVal P (k P)
 |.mark _ k=>semVal P k
 |_=>none
theorem semVal_ok {P:Program} {v:Value} {w:World}:∀ {s:Sem Next},semVal P s=some v→∃ x,s.run P w=.ok x w∧(x=.value v∨(x=.skip∧v=undef)):=by
 intro s
 induction s with
 |pure a =>
  intro h
  cases a with
  |value v=>obtain rfl:=Option.some.inj h; exact ⟨_,rfl,.inl rfl⟩
  |skip=>obtain rfl:=Option.some.inj h; exact ⟨_,rfl,.inr ⟨rfl,rfl⟩⟩
  |_=>cases h
 |program k ih=>intro h; exact ih P h
 |mark m k ih=>intro h; exact ih h
 |_=>intro h; cases h
theorem step_of {P:Program} {W0:World} {Γ Γ':List Asn} {e:Env} {op:Op} {ty:TypeId} {v:Value}
 (h:∀ w,Sat W0 Γ w→∃ w' x,(execOp (ev e) (bare op ty)).run P w=.ok x w'∧(x=.value v∨(x=.skip∧v=undef))∧Sat W0 Γ' w'):StepTo P W0 Γ e op ty (Is v Γ'):=by
 intro w hw ro o a K Q k
 obtain ⟨w',x,h1,h2,h3⟩:=h w hw
 rw [h1]
 rcases h2 with rfl | ⟨rfl,rfl⟩
 · exact k v Γ' w' ⟨rfl,rfl⟩ h3
 · exact k undef Γ' w' ⟨rfl,rfl⟩ h3
theorem step_run {P:Program} {W0:World} {Γ:List Asn} {e:Env} {op:Op} {ty:TypeId} {own:List OB} {j:Nat} {r:SR} (h:semRun P (execOp (ev e) (bare op ty)) own j=some r) (hl:Alike r.q) :
 StepTo P W0 (owns own++Γ) e op ty (Is r.v (owns r.own++Γ)):=step_of fun _ hw=>semRun_ok h hl hw
theorem step_val {P:Program} {W0:World} {Γ:List Asn} {e:Env} {op:Op} {ty:TypeId} {v:Value} (h:semVal P (execOp (ev e) (bare op ty))=some v):StepTo P W0 Γ e op ty (Is v Γ) :=
 step_of fun w hw=>let ⟨x,h1,h2⟩:=semVal_ok (w:=w) h; ⟨w,x,h1,h2,hw⟩
end
section
open Go Go.RowKit
structure LR (α:Type) where
 v:α
 q:List (Value×Value)
def LR.eq {α:Type} (s:LR α) (x y:Nat):LR α:=⟨s.v,(blk x,blk y)::s.q⟩
def semLd {α:Type} (P:Program) (own:List OB) (j:Nat):Sem α→Option (LR α)
 |.pure v=>some ⟨v,[]⟩
 |.program k=>semLd P own j (k P)
 |.mark _ k=>semLd P own j k
 |.load _ a k =>
  match nthO own j with
  |none=>none
  |some o =>
   match a.spot with
   |some _=>none
   |none =>
    match o.c[a.off]? with
    |none=>none
    |some v=>(semLd P own j (k v)).map fun s=>s.eq a.block o.b
 |_=>none
theorem semLd_ok {α:Type} {P:Program} {W0:World} {Γ:List Asn} {own:List OB} {j:Nat} {w:World} (hw:Sat W0 (owns own++Γ) w):∀ {s:Sem α} {r:LR α},semLd P own j s=some r→Alike r.q→s.run P w=.ok r.v w:=by
 intro s
 induction s with
 |pure a=>intro r h _; obtain rfl:=Option.some.inj h; rfl
 |program k ih=>intro r h hl; exact ih P h hl
 |mark m k ih=>intro r h hl; exact ih h hl
 |load m a k ih =>
  intro r h hl
  simp only [semLd] at h
  cases ho:nthO own j with
  |none=>simp [ho] at h
  |some o =>
   simp only [ho] at h
   cases hs:a.spot with
   |some q=>simp [hs] at h
   |none =>
    simp only [hs] at h
    cases hc:o.c[a.off]? with
    |none=>simp [hc] at h
    |some v =>
     simp only [hc] at h
     cases hk:semLd P own j (k v) with
     |none=>simp [hk] at h
     |some s =>
      simp only [hk,Option.map_some,Option.some.injEq] at h
      subst h
      obtain ⟨e1,e2⟩:=Alike.cons hl
      replace e1:=blk_eq e1
      obtain ⟨Δ,hp,_⟩:=nthO_pull (Γ:=Γ) ho
      have hb:=(hw.pull hp).own_at
      have hcell:w.cell? a=some v:=by
       have:a=⟨o.b,a.off,none⟩:=by cases a; simp_all
       rw [this,cell_of hb]; exact hc
      simp only [Sem.run,hcell]
      exact ih v (r:=s) hk e2
 |_=>intro r h _; cases h
inductive Fr
 |thn (c:Code)
 |blk (i:Nat)
 |rnd (N:Act→World→Prop)
def wpK (n:Fm) (P:Program) (Q0:Exit→Act→World→Prop):List Fr→Exit→Act→World→Prop
 |[]=>Q0
 |.thn c::s=>Exit.then (wpF n P c (wpK n P Q0 s)) (wpK n P Q0 s)
 |.blk i::s=>Exit.inBlock i (wpK n P Q0 s)
 |.rnd N::s=>Exit.then N (wpK n P Q0 s)
inductive Pos
 |code (c:Code)
 |ops (os:Array Oper) (k i:Nat)
 |draw (os:Array Oper) (i:Nat) (D Pp:List Nat) (Pl:List (Nat×Nat))
 |turn (os:Array Oper) (i:Nat) (D Pp:List Nat) (Pl:List (Nat×Nat))
 |ex (x:Exit)
structure XS where
 pos:Pos
 stk:List Fr
 env:Env
 own:List OB
 gam:List Asn
structure Ctx where
 P:Program
 n:Fm
 W0:World
 F:List Asn
 Q0:Exit→Act→World→Prop
def XS.all (s:XS) (F:List Asn):List Asn:=owns s.own++(s.gam++F)
def nthA:List Asn→Nat→Asn
 |[],_=>Asn.pure True
 |A::_,0=>A
 |_::r,j+1=>nthA r j
def delA:List Asn→Nat→List Asn
 |[],_=>[]
 |_::r,0=>r
 |A::r,j+1=>A::delA r j
section
variable {W0 w:World} {Γ Δ A B C:List Asn}
theorem Star.swap {S I:Nat→Prop} {h:Nat→Option Obj} (hs:Star (A++(B++C)) S I h):Star (B++(A++C)) S I h:=by
 obtain ⟨S1,S2,h1,h2,h3,h4,h5⟩:=hs.append_of
 obtain ⟨T1,T2,k1,k2,k3,k4,k5⟩:=h5.append_of
 refine Star.append (S1:=T1) (S2:=fun b=>S1 b∨T2 b) (fun b hb=>h2 b (k1 b hb)) (fun b hb=>hb.elim (h1 b) fun t=>h2 b (k2 b t)) (fun b hb hc=>hc.elim (fun s=>h3 b s (k1 b hb)) (k3 b hb)) k4 ?_
 exact Star.append (fun _ hb=>.inl hb) (fun _ hb=>.inr hb) (fun b s t=>h3 b s (k2 b t)) h4 k5
theorem Sat.swap (h:Sat W0 (A++(B++C)) w):Sat W0 (B++(A++C)) w:=h.imp fun _ _=>Star.swap
theorem sat_nthA:∀ {g:List Asn} {i:Nat} {Γ:List Asn},Sat W0 (g++Γ) w→Sat W0 (nthA g i::(delA g i++Γ)) w
 |[],_,_,h=>Sat.pure_mk trivial h
 |_::_,0,_,h=>h
 |A::r,i+1,Γ,h=>by
  have h2:Sat W0 (r++([A]++Γ)) w:=Sat.swap (A:=[A]) h
  have h3:=sat_nthA (i:=i) h2
  have h4:Sat W0 ([nthA r i]++(delA r i++([A]++Γ))) w:=h3
  have h5:Sat W0 (delA r i++([nthA r i]++([A]++Γ))) w:=h4.swap
  have h6:Sat W0 (([nthA r i]++[A])++(delA r i++Γ)) w:=by
   have:Sat W0 (delA r i++(([nthA r i]++[A])++Γ)) w:=by simpa using h5
   exact this.swap
  simpa [nthA,delA] using h6
end
def OlAll (P:Program) (n:Fm) (W0:World) (os:Array Oper) (e:Env) (gam:List Asn) (Pl:List (Nat×Nat)):Prop:=∀ x∈Pl,Nat.ble 64 x.2=true→∀ Γ,Stable P n W0 os e (nthA gam (x.2 - 64)::Γ) x.1
def TurnK (P:Program) (n:Fm) (W0:World) (ops:Array Oper) (Q:Exit→Act→World→Prop) (D Pp Pl:List Nat) (e:Env) (Γ:List Asn) (i:Nat):Prop :=
 Topo ops D→Names ops (Pp++Pl)→(∀ j∈Pp,StableP P n W0 ops e j)→(∀ j∈Pl,Stable P n W0 ops e Γ j) →
  ∀ fuel listed a w,DInv ops n D (Pp++Pl) e listed a→Left ops listed (fuel+1)→Sat W0 Γ w→i∈Region.ready .any ops listed→wpOpIn (fenR n.ro) 0 P ops Q i (wpAnyIn (fenR n.ro) 0 P .any ops Q fuel (listed.setIfInBounds i true)) a w
def GP (X:Ctx) (s:XS):Prop :=
 match s.pos with
 |.code c=>At X.n X.W0 s.env (s.all X.F) (wpF X.n X.P c (wpK X.n X.P X.Q0 s.stk))
 |.ops os k i=>At X.n X.W0 s.env (s.all X.F) (Ops X.n X.P os (wpK X.n X.P X.Q0 s.stk) k i)
 |.draw os _ D Pp Pl=>OlAll X.P X.n X.W0 os s.env s.gam Pl→Draw X.P X.n X.W0 os (wpK X.n X.P X.Q0 s.stk) D Pp (Pl.map (·.1)) s.env (s.all X.F)
 |.turn os i D Pp Pl=>OlAll X.P X.n X.W0 os s.env s.gam Pl→TurnK X.P X.n X.W0 os (wpK X.n X.P X.Q0 s.stk) D Pp (Pl.map (·.1)) s.env (s.all X.F) i
 |.ex x=>At X.n X.W0 s.env (s.all X.F) (wpK X.n X.P X.Q0 s.stk x)
structure SP where
 s:XS
 h:List Nat
 q:List (Value×Value)
 p:List Prop
def cls:Op→Nat
 |.move _ | .assign _ | .build .. | .unOp .. | .convert .. | .makeFunc .. | .fieldAddr .. | .field .. | .nilCheck _ | .extract ..=>0
 |.binOp .quo _ _ y _ | .binOp .rem _ _ y _ | .binOp .shl _ _ y _ | .binOp .shr _ _ y _=>bif Region.isConst y then 0 else 9
 |.binOp .add _ _ _ _ | .binOp .sub _ _ _ _ | .binOp .mul _ _ _ _=>1
 |.binOp ..=>0
 |.load .. | .store ..=>2
 |.pick ..=>3
 |.call { callee:=.builtin b,.. }=>match b with | .len | .cap | .min | .max=>0 | _=>9
 |_=>9
def isStore:Op→Bool
 |.store ..=>true
 |_=>false
def pickOf (e:Env):Op→Option (Value×Value×Value)
 |.pick c a b=>some (ev e c,ev e a,ev e b)
 |_=>none
def sumOf:Op→Option (BinOp×Operand×Operand)
 |.binOp op _ x y _=>some (op,x,y)
 |_=>none
structure VR where
 v:Value
 own:List OB
 h:List Nat
 q:List (Value×Value)
 p:List Prop
def rawOf (op:BinOp) (a b:Int):Option Int :=
 match op with
 |.add=>some (a+b)
 |.sub=>some (a - b)
 |.mul=>some (a*b)
 |_=>none
def wr (x:Int):Int:=IntKind.i64.wrap x
theorem wr_in {x:Int} (h1:-9223372036854775808≤x) (h2:x≤9223372036854775807):wr x=x:=wrap_in h1 h2
def inR (x:Int):Prop:=x.natAbs≤9223372036854775807
instance (x:Int):Decidable (inR x):=Nat.decLe _ _
theorem inR.wrap {x:Int} (h:inR x):IntKind.i64.wrap x=x:=wrap_in (by unfold inR at h; omega) (by unfold inR at h; omega)
def AllP:List Prop→Prop
 |[]=>True
 |p::r=>p∧AllP r
theorem AllP.app:∀ {l m:List Prop},AllP (l++m)→AllP l∧AllP m
 |[],_,h=>⟨trivial,h⟩
 |_::_,_,h=>let ⟨h1,h2⟩:=AllP.app h.2; ⟨⟨h.1,h1⟩,h2⟩
def aggCmp (e:Env):Op→Bool
 |.binOp _ _ x _ _=>match ev e x with | .agg _=>true | _=>false
 |_=>false
def valOf (P:Program) (e:Env) (own:List OB) (o:Oper) (h:List Nat):Option VR :=
 match cls o.op with
 |0=>match aggCmp e o.op with
  |true=>none
  |false=>(semVal P (execOp (ev e) o)).map fun v=>⟨v,own,h,[],[]⟩
 |1 =>
  match h with
  |[]=>none
  |0::h =>
   match sumOf o.op with
   |some (op,x,y) =>
    match ev e x,ev e y with
    |.int .i64 a,.int .i64 b =>
     match rawOf op a b with
     |some z=>some ⟨.int .i64 z,own,h,[(.int .i64 (IntKind.i64.wrap z),(semVal P (execOp (ev e) o)).getD undef)],[inR z]⟩
     |none=>none
    |_,_=>none
   |none=>none
  |_::h=>(semVal P (execOp (ev e) o)).map fun v=>⟨v,own,h,[],[]⟩
 |2 =>
  match h with
  |[]=>none
  |j::h=>(semRun P (execOp (ev e) o) own j).map fun s=>⟨s.v,s.own,h,s.q,[]⟩
 |3 =>
  match h with
  |[]=>none
  |t::h =>
   match pickOf e o.op with
   |some (.bool c,a,b)=>some ⟨(bif Nat.beq t 1 then a else b),own,h,[(.bool c,.bool (Nat.beq t 1))],[]⟩
   |_=>none
 |_=>none
theorem valOf_ok {P:Program} {W0:World} {Γ:List Asn} {e:Env} {own:List OB} {o:Oper} {h:List Nat} {r:VR} (hr:valOf P e own o h=some r) (hl:Alike r.q) (hp:AllP r.p) :
 StepTo P W0 (owns own++Γ) e o.op o.type (Is r.v (owns r.own++Γ)):=by
 unfold valOf at hr
 split at hr
 · split at hr
   · cases hr
   · cases hs:semVal P (execOp (ev e) o) with
     |none=>simp [hs] at hr
     |some v =>
      simp only [hs,Option.map_some,Option.some.injEq] at hr
      subst hr
      exact step_val hs
 · split at hr
   · cases hr
   · split at hr
     · rename_i op x y hsum
       split at hr
       · rename_i a b ha hb
         split at hr
         · rename_i z hz
           simp only [Option.some.injEq] at hr
           subst hr
           cases hs:semVal P (execOp (ev e) o) with
           |none =>
            have:=(Alike.cons hl).1
            simp [hs,undef] at this
           |some v =>
            have hl:=(Alike.cons hl).1
            simp only [hs,Option.getD_some] at hl
            have:v=.int .i64 z:=by
             rw [← hl]
             have:inR z:=hp.1
             rw [this.wrap]
            subst this
            exact step_val hs
         · cases hr
       · cases hr
     · cases hr
   · cases hs:semVal P (execOp (ev e) o) with
     |none=>simp [hs] at hr
     |some v =>
      simp only [hs,Option.map_some,Option.some.injEq] at hr
      subst hr
      exact step_val hs
 · split at hr
   · cases hr
   · rename_i hcls j h'
     cases hs:semRun P (execOp (ev e) o) own j with
     |none=>simp [hs] at hr
     |some s =>
      simp only [hs,Option.map_some,Option.some.injEq] at hr
      subst hr
      exact step_run hs hl
 · split at hr
   · cases hr
   · rename_i t h'
     split at hr
     · rename_i c a b hpk
       simp only [Option.some.injEq] at hr
       subst hr
       have hl:=(Alike.cons hl).1
       simp only [Value.bool.injEq] at hl
       subst hl
       refine step_of fun w hw=>⟨w,_,?_,.inl rfl,hw⟩
       cases hop:o.op <;> simp [pickOf,hop] at hpk
       obtain ⟨h1,h2,h3⟩:=hpk
       simp [execOp,bare,h1,asBool,bind,Sem.bind,pure,← h2,← h3]
     · cases hr
 · cases hr
end
section
open Go Go.RowKit
def gdOf (os:Array Oper) (e:Env) (i:Nat) (h:List Nat):Option (Bool×List Nat×List (Value×Value)) :=
 match (operAt os i).guard with
 |none=>some (true,h,[])
 |some _ =>
  match h with
  |[]=>none
  |x::h=>(gval os e i).map fun t=>(Nat.beq x 1,h,[(.bool t,.bool (Nat.beq x 1))])
theorem gdOf_ok {os:Array Oper} {e:Env} {i:Nat} {h h':List Nat} {t:Bool} {q:List (Value×Value)} (hg:gdOf os e i h=some (t,h',q)) (hq:Alike q):gval os e i=some t:=by
 unfold gdOf at hg
 cases hgd:(operAt os i).guard with
 |none =>
  simp only [hgd,Option.some.injEq,Prod.mk.injEq] at hg
  obtain ⟨rfl,-,-⟩:=hg
  simp [gval,hgd]
 |some x =>
  simp only [hgd] at hg
  cases h with
  |nil=>cases hg
  |cons y h =>
   simp only at hg
   cases hv:gval os e i with
   |none=>simp [hv] at hg
   |some t' =>
    simp only [hv,Option.map_some,Option.some.injEq,Prod.mk.injEq] at hg
    obtain ⟨rfl,-,rfl⟩:=hg
    have:=(Alike.cons hq).1
    simp only [Value.bool.injEq] at this
    rw [this]
def anc (os:Array Oper):Nat→List Nat→List Nat→List Nat
 |0,_,acc=>acc
 |f+1,todo,acc =>
  match todo with
  |[]=>acc
  |i::todo =>
   let new:=(depsOf os i).filter fun d=>!has acc d
   anc os f (new++todo) (acc++new)
def fsts (l:List (Nat×Nat)):List Nat:=l.map (·.1)
def without (C:List Nat) (l:List Nat):List Nat:=l.filter fun j=>!has C j
def withoutP (C:List Nat) (l:List (Nat×Nat)):List (Nat×Nat):=l.filter fun j=>!has C j.1
theorem fsts_without {C:List Nat} {l:List (Nat×Nat)}:fsts (withoutP C l)=without C (fsts l):=by
 unfold fsts withoutP without
 rw [List.filter_map]; rfl
def stabOf (P:Program) (n:Fm) (os:Array Oper) (e:Env) (own:List OB):List (Nat×Nat)→Option (List (Value×Value))
 |[]=>some []
 |(j,q)::r =>
  match Nat.ble 64 q with
  |true=>stabOf P n os e own r
  |false =>
   match fine n os e j (dstOf os j),gval os e j,(dstOf os j).bind (lk e),semLd P own q (execOp (ev e) (operAt os j)),stabOf P n os e own r with
   |true,some g,some u,some ⟨.value v,l⟩,some a=>some ((.bool g,.bool true)::(u,v)::(l++a))
   |_,_,_,_,_=>none
theorem stab_ok {P:Program} {n:Fm} {os:Array Oper} {e:Env} {own:List OB} {W0:World} {Γ:List Asn}:∀ {l:List (Nat×Nat)} {q:List (Value×Value)},stabOf P n os e own l=some q→Alike q→∀ x∈l,Nat.ble 64 x.2=false→Stable P n W0 os e (owns own++Γ) x.1
 |[],_,_,_,_,hj,_=>by cases hj
 |(j,q)::r,qs,h,hq,i,hi,hb=>by
  unfold stabOf at h
  split at h
  · rename_i hb2
    rcases List.mem_cons.1 hi with e3 | hi
    · subst e3; rw [hb2] at hb; cases hb
    · exact stab_ok h hq i hi hb
  · split at h
    · rename_i g u v l a h1 h2 h3 h4 h5
      obtain rfl:=Option.some.inj h
      obtain ⟨e1,hq⟩:=Alike.cons hq
      obtain ⟨e2,hq⟩:=Alike.cons hq
      obtain ⟨hq1,hq2⟩:=Alike.app hq
      simp only [Value.bool.injEq] at e1
      subst e1; subst e2
      rcases List.mem_cons.1 hi with e3 | hi
      · subst e3
        cases hd:dstOf os j with
        |none=>simp [hd] at h3
        |some d =>
         simp only [hd,Option.bind_some] at h3
         rw [hd] at h1
         exact stable_cons j d u h1 h2 h3 (fun w hw=>semLd_ok hw h4 hq1) stable_nil j (List.mem_cons_self ..)
      · exact stab_ok h5 hq2 i hi hb
    · cases h
theorem Stable.conv {P:Program} {n:Fm} {os:Array Oper} {e:Env} {W0:World} {Γ Γ':List Asn} {j:Nat} (hg:∀ w,Sat W0 Γ w→Sat W0 Γ' w) (h:Stable P n W0 os e Γ' j):Stable P n W0 os e Γ j :=
 let ⟨o,v,t,h1,h2,h3,h4,h5,h6,h7,h8⟩:=h; ⟨o,v,t,h1,h2,h3,h4,h5,h6,fun ht w hw=>h7 ht w (hg w hw),h8⟩
theorem OlAll.sub {P:Program} {n:Fm} {os:Array Oper} {e:Env} {W0:World} {gam:List Asn} {Pl Pl':List (Nat×Nat)} (hs:∀ x∈Pl',x∈Pl) (h:OlAll P n W0 os e gam Pl):OlAll P n W0 os e gam Pl':=fun x hx=>h x (hs x hx)
theorem OlAll.put {P:Program} {n:Fm} {os:Array Oper} {e:Env} {W0:World} {gam:List Asn} {Pl:List (Nat×Nat)} {dst:Option Tmp} {v:Value} (hf:∀ j∈fsts Pl,∀ d,dst=some d→d∉looksOf os j∧dstOf os j≠some d) (h:OlAll P n W0 os e gam Pl):OlAll P n W0 os (putE e dst v) gam Pl :=
 fun x hx hb Γ=>(h x hx hb Γ).put (hf x.1 (List.mem_map.2 ⟨x,hx,rfl⟩))
def olsA (gam:List Asn):List (Nat×Nat)→List (Bool×Asn)
 |[]=>[]
 |x::r=>(Nat.ble 64 x.2,bif Nat.ble 64 x.2 then nthA gam (x.2 - 64) else Asn.pure True)::olsA gam r
def olsB (gam:List Asn) (up:Nat→Nat):List (Nat×Nat)→List (Bool×Asn)
 |[]=>[]
 |x::r=>(Nat.ble 64 (up x.2),bif Nat.ble 64 (up x.2) then nthA gam (up x.2 - 64) else Asn.pure True)::olsB gam up r
theorem stab_all {P:Program} {n:Fm} {os:Array Oper} {e:Env} {own:List OB} {W0:World} {gam F:List Asn} {l:List (Nat×Nat)} {q:List (Value×Value)} (h:stabOf P n os e own l=some q) (hq:Alike q) (ho:OlAll P n W0 os e gam l):∀ j∈fsts l,Stable P n W0 os e (owns own++(gam++F)) j:=by
 intro j hj
 obtain ⟨x,hx,rfl⟩:=List.mem_map.1 hj
 cases hb:Nat.ble 64 x.2 with
 |false=>exact stab_ok h hq x hx hb
 |true =>
  refine Stable.conv (fun w hw=>?_) (ho x hx hb (delA gam (x.2 - 64)++(owns own++F)))
  have h1:=Sat.swap hw
  exact sat_nthA h1
def reix:List Nat→Nat→Nat→Nat→Nat
 |[],_,up,j=>j+up
 |i::is,p,up,j=>match Nat.beq j i with
  |true=>p
  |false=>reix is (p+1) up (bif Nat.blt i j then j - 1 else j)
def upP (up:Nat→Nat) (l:List (Nat×Nat)):List (Nat×Nat):=l.map fun x=>(x.1,up x.2)
theorem OlAll.move {P:Program} {n:Fm} {os:Array Oper} {e:Env} {W0:World} {gam gam':List Asn} {up:Nat→Nat} {Pl:List (Nat×Nat)} (h:OlAll P n W0 os e gam Pl) (hm:olsA gam Pl=olsB gam' up Pl):OlAll P n W0 os e gam' (upP up Pl):=by
 intro x hx hb Γ
 induction Pl with
 |nil=>cases hx
 |cons y r ih =>
  have hm':(Nat.ble 64 y.2,bif Nat.ble 64 y.2 then nthA gam (y.2 - 64) else Asn.pure True)::olsA gam r=(Nat.ble 64 (up y.2),bif Nat.ble 64 (up y.2) then nthA gam' (up y.2 - 64) else Asn.pure True)::olsB gam' up r:=hm
  injection hm' with h1 h2
  rcases List.mem_cons.1 (show x∈(y.1,up y.2)::upP up r from hx) with e1 | hx
  · subst e1
    simp only [Prod.mk.injEq] at h1
    simp only at hb
    have hb2:Nat.ble 64 y.2=true:=by rw [h1.1]; exact hb
    have h3:=h1.2
    rw [hb,hb2] at h3
    simp only [cond_true] at h3
    have:=h y (List.mem_cons_self ..) hb2 Γ
    rw [h3] at this
    exact this
  · exact ih (fun z hz=>h z (List.mem_cons_of_mem _ hz)) h2 hx
theorem fsts_up {up:Nat→Nat} {l:List (Nat×Nat)}:fsts (upP up l)=fsts l:=by
 unfold fsts upP; rw [List.map_map]; rfl
def XS.putW (s:XS) (v:Value) (own:List OB) (gam:List Asn) (up:Nat→Nat):XS :=
 match s.pos with
 |.ops os k i=>⟨.ops os (k - 1) (i+1),s.stk,putE s.env (dstOf os i) v,own,gam⟩
 |.draw os i D Pp Pl =>
  let C:=anc os os.size [i] []
  ⟨.draw os os.size (i::D) (without C Pp) (upP up (withoutP C Pl)),s.stk,putE s.env (dstOf os i) v,own,gam⟩
 |.turn os i D Pp Pl =>
  let C:=anc os os.size [i] []
  ⟨.draw os os.size (i::D) (without C Pp) (upP up (withoutP C Pl)),s.stk,putE s.env (dstOf os i) v,own,gam⟩
 |_=>s
def XS.ok1 (n:Fm) (s:XS):Option (List (Value×Value)) :=
 match s.pos with
 |.ops os k i =>
  match Nat.blt 0 k && fine n os s.env i (dstOf os i),gval os s.env i with
  |true,some g=>some [(.bool g,.bool true)]
  |_,_=>none
 |.draw os i D Pp Pl =>
  let C:=anc os os.size [i] []
  match fine n os s.env i (dstOf os i) && writeOk os i (dstOf os i) D C Pp (fsts Pl) (without C Pp) (without C (fsts Pl)),gval os s.env i with
  |true,some g=>some [(.bool g,.bool true)]
  |_,_=>none
 |.turn os i D Pp Pl =>
  let C:=anc os os.size [i] []
  match fine n os s.env i (dstOf os i) && turnOk os i (dstOf os i) D C Pp (fsts Pl) (without C Pp) (without C (fsts Pl)),gval os s.env i with
  |true,some g=>some [(.bool g,.bool true)]
  |_,_=>none
 |_=>none
def XS.ok2 (P:Program) (n:Fm) (s:XS) (v:Value) (own:List OB) (up:Nat→Nat):Option (List (Value×Value)) :=
 match s.pos with
 |.draw os i _ _ Pl=>stabOf P n os (putE s.env (dstOf os i) v) own (upP up (withoutP (anc os os.size [i] []) Pl))
 |.turn os i _ _ Pl=>stabOf P n os (putE s.env (dstOf os i) v) own (upP up (withoutP (anc os os.size [i] []) Pl))
 |_=>some []
def XS.ol1 (s:XS):List (Bool×Asn) :=
 match s.pos with
 |.draw os i _ _ Pl=>olsA s.gam (withoutP (anc os os.size [i] []) Pl)
 |.turn os i _ _ Pl=>olsA s.gam (withoutP (anc os os.size [i] []) Pl)
 |_=>[]
def XS.ol2 (s:XS) (gam:List Asn) (up:Nat→Nat):List (Bool×Asn) :=
 match s.pos with
 |.draw os i _ _ Pl=>olsB gam up (withoutP (anc os os.size [i] []) Pl)
 |.turn os i _ _ Pl=>olsB gam up (withoutP (anc os os.size [i] []) Pl)
 |_=>[]
theorem read_fresh {os:Array Oper} {i:Nat} {dst:Option Tmp} {D Pp Pl:List Nat} (h:readOk os i dst D Pp Pl=true):∀ j∈Pl,∀ d,dst=some d→d∉looksOf os j∧dstOf os j≠some d:=by
 simp only [readOk,Bool.and_eq_true] at h
 exact fun j hj=>freshFor_spec h.1.2 j (List.mem_append_right _ hj)
theorem write_fresh {os:Array Oper} {i:Nat} {dst:Option Tmp} {D C Pp Pl Pp' Pl':List Nat} (h:writeOk os i dst D C Pp Pl Pp' Pl'=true):∀ j∈Pl',∀ d,dst=some d→d∉looksOf os j∧dstOf os j≠some d:=by
 simp only [writeOk,turnOk,Bool.and_eq_true] at h
 exact fun j hj=>freshFor_spec h.2.2 j (List.mem_append_right _ hj)
theorem turn_fresh {os:Array Oper} {i:Nat} {dst:Option Tmp} {D C Pp Pl Pp' Pl':List Nat} (h:turnOk os i dst D C Pp Pl Pp' Pl'=true):∀ j∈Pl',∀ d,dst=some d→d∉looksOf os j∧dstOf os j≠some d:=by
 simp only [turnOk,Bool.and_eq_true] at h
 exact fun j hj=>freshFor_spec h.2 j (List.mem_append_right _ hj)
theorem ol_first {P:Program} {n:Fm} {W0:World} {os:Array Oper} {e:Env} {gam:List Asn} {i j:Nat} {Pl:List (Nat×Nat)} (hj:Nat.blt j 64=true) (h:OlAll P n W0 os e gam Pl):OlAll P n W0 os e gam ((i,j)::Pl):=by
 intro x hx hb
 rcases List.mem_cons.1 hx with rfl | hx
 · have h1:j<64:=by simpa using hj
   have h2:64≤j:=Nat.le_of_ble_eq_true hb
   omega
 · exact h x hx hb
def XS.op (s:XS):Oper :=
 match s.pos with
 |.ops os _ i=>operAt os i
 |.draw os i _ _ _=>operAt os i
 |.turn os i _ _ _=>operAt os i
 |_=>default
def XS.sem (s:XS):Sem Next:=execOp (ev s.env) s.op
theorem putZ_ok {X:Ctx} {s:XS} {Z:Type} (rv:Z→Value) (ow:Z→List OB) (ga:Z→List Asn) (up:Z→Nat→Nat) {q:List (Value×Value)} (h:s.ok1 X.n=some q) (hq:Alike q)
 (h2:∀ z,∃ q,s.ok2 X.P X.n (rv z) (ow z) (up z)=some q∧Alike q) (h3:∀ z,s.ol1=s.ol2 (ga z) (up z))
 (st:StepTo X.P X.W0 (s.all X.F) s.env s.op.op s.op.type fun v Δ=>∃ z,v=rv z∧Δ=owns (ow z)++(ga z++X.F)) (k:∀ z,GP X (s.putW (rv z) (ow z) (ga z) (up z))):GP X s:=by
 obtain ⟨pos,stk,env,own0,gam0⟩:=s
 unfold XS.ok1 at h
 cases pos with
 |ops os k' i =>
  simp only at h
  split at h
  · rename_i g hc hg
    obtain rfl:=Option.some.inj h
    have e1:=(Alike.cons hq).1
    simp only [Value.bool.injEq] at e1
    subst e1
    simp only [Bool.and_eq_true] at hc
    obtain ⟨hk,hf⟩:=hc
    have hk':0<k':=by simpa using hk
    obtain ⟨k2,rfl⟩:∃ k2,k'=k2+1:=⟨k' - 1,by omega⟩
    obtain ⟨h1,h2',h3,h4⟩:=fine_key hf
    exact ops_step h1 (gval_is hg) h2' h3 h4 st fun v' Γ' ⟨z,e1,e2⟩=>by subst e1; subst e2; exact k z
  · cases h
 |draw os i D Pp Pl =>
  simp only at h
  split at h
  · rename_i g hc hg
    obtain rfl:=Option.some.inj h
    have e1:=(Alike.cons hq).1
    simp only [Value.bool.injEq] at e1
    subst e1
    simp only [Bool.and_eq_true] at hc
    obtain ⟨hf,hw⟩:=hc
    obtain ⟨h1,h2',h3',h4⟩:=fine_key hf
    intro hol
    refine draw_write h1 (gval_is hg) h2' h3' h4 hw st fun v' Γ' ⟨z,e1,e2⟩=>?_
    subst e1; subst e2
    obtain ⟨q2,hq2,hq3⟩:=h2 z
    have ho1:OlAll X.P X.n X.W0 os env gam0 (withoutP (anc os os.size [i] []) Pl):=hol.sub fun x hx=>(List.mem_filter.1 hx).1
    have ho2:OlAll X.P X.n X.W0 os (putE env (dstOf os i) (rv z)) gam0 (withoutP (anc os os.size [i] []) Pl):=ho1.put (by rw [fsts_without]; exact write_fresh hw)
    have ho3:=ho2.move (h3 z)
    have hs:=stab_all (W0:=X.W0) (gam:=ga z) (F:=X.F) hq2 hq3 ho3
    rw [fsts_up,fsts_without] at hs
    refine ⟨hs,?_⟩
    have:=k z
    unfold XS.putW GP at this
    simp only at this
    have e:(List.map (fun x=>x.1) (upP (up z) (withoutP (anc os os.size [i] []) Pl)))=without (anc os os.size [i] []) (fsts Pl):=by
     rw [← fsts_without,← fsts_up (up:=up z)]; rfl
    rw [e] at this
    exact this ho3
  · cases h
 |turn os i D Pp Pl =>
  simp only at h
  split at h
  · rename_i g hc hg
    obtain rfl:=Option.some.inj h
    have e1:=(Alike.cons hq).1
    simp only [Value.bool.injEq] at e1
    subst e1
    simp only [Bool.and_eq_true] at hc
    obtain ⟨hf,hw⟩:=hc
    obtain ⟨h1,h2',h3',h4⟩:=fine_key hf
    intro hol
    refine (turn_write h1 (gval_is hg) h2' h3' h4 hw st fun v' Γ' ⟨z,e1,e2⟩=>?_).2.2.2
    subst e1; subst e2
    obtain ⟨q2,hq2,hq3⟩:=h2 z
    have ho1:OlAll X.P X.n X.W0 os env gam0 (withoutP (anc os os.size [i] []) Pl):=hol.sub fun x hx=>(List.mem_filter.1 hx).1
    have ho2:OlAll X.P X.n X.W0 os (putE env (dstOf os i) (rv z)) gam0 (withoutP (anc os os.size [i] []) Pl):=ho1.put (by rw [fsts_without]; exact turn_fresh hw)
    have ho3:=ho2.move (h3 z)
    have hs:=stab_all (W0:=X.W0) (gam:=ga z) (F:=X.F) hq2 hq3 ho3
    rw [fsts_up,fsts_without] at hs
    refine ⟨hs,?_⟩
    have:=k z
    unfold XS.putW GP at this
    simp only at this
    have e:(List.map (fun x=>x.1) (upP (up z) (withoutP (anc os os.size [i] []) Pl)))=without (anc os os.size [i] []) (fsts Pl):=by
     rw [← fsts_without,← fsts_up (up:=up z)]; rfl
    rw [e] at this
    exact this ho3
  · cases h
 |_=>cases h
theorem ol_same {s:XS}:s.ol1=s.ol2 s.gam fun j=>j:=by
 unfold XS.ol1 XS.ol2
 have:∀ l:List (Nat×Nat),olsA s.gam l=olsB s.gam (fun j=>j) l:=fun l=>by
  induction l with
  |nil=>rfl
  |cons x r ih=>unfold olsA olsB; rw [ih]
 split
 · exact this _
 · exact this _
 · rfl
theorem putW_ok {X:Ctx} {s:XS} {v:Value} {own:List OB} {gam:List Asn} {q a:List (Value×Value)} (h:s.ok1 X.n=some q) (h2:s.ok2 X.P X.n v own (fun j=>j)=some a) (hq:Alike (q++a)) (h3:s.ol1=s.ol2 gam fun j=>j)
 (st:StepTo X.P X.W0 (s.all X.F) s.env s.op.op s.op.type (Is v (owns own++(gam++X.F)))) (k:GP X (s.putW v own gam fun j=>j)):GP X s :=
 putZ_ok (Z:=Unit) (fun _=>v) (fun _=>own) (fun _=>gam) (fun _ j=>j) h hq.app.1 (fun _=>⟨a,h2,hq.app.2⟩) (fun _=>h3) (st.mono fun _ _ ⟨e1,e2⟩=>⟨(),e1,e2⟩) fun _=>k
def SP' (s:XS) (h:List Nat):Option SP:=some ⟨s,h,[],[]⟩
def seqH (f:List Nat→Option SP) (h:List Nat):Option SP :=
 match h with
 |[]=>f []
 |x::r=>match Nat.blt x 100 || Nat.ble 300 x with
  |true=>f (x::r)
  |false=>match Nat.beq x 100 with
   |true=>none
   |false=>f ((x - 1)::r)
def opsH (f:List Nat→Option SP) (h:List Nat):Option SP :=
 match h with
 |[]=>f []
 |x::r=>match Nat.blt x 300 with
  |true=>f (x::r)
  |false=>match Nat.beq x 300 with
   |true=>none
   |false=>f ((x - 1)::r)
theorem opsH_some {f:List Nat→Option SP} {h:List Nat} {r:SP} (hr:opsH f h=some r):∃ h,f h=some r:=by
 unfold opsH at hr
 split at hr
 · exact ⟨_,hr⟩
 · split at hr
   · exact ⟨_,hr⟩
   · split at hr
     · cases hr
     · exact ⟨_,hr⟩
def stepOps (P:Program) (n:Fm) (s:XS) (os:Array Oper) (k i:Nat) (h:List Nat):Option SP :=
 match gdOf os s.env i h with
 |none=>none
 |some (true,h,q) =>
  match fine n os s.env i (dstOf os i),valOf P s.env s.own (operAt os i) h with
  |true,some r=>some ⟨⟨.ops os k (i+1),s.stk,putE s.env (dstOf os i) r.v,r.own,s.gam⟩,r.h,q++r.q,r.p⟩
  |_,_=>none
 |some (false,h,q) =>
  match fineOff n os i (dstOf os i) with
  |true=>some ⟨⟨.ops os k (i+1),s.stk,putE s.env (dstOf os i) undef,s.own,s.gam⟩,h,q,[]⟩
  |false=>none
def stepDraw (P:Program) (n:Fm) (s:XS) (os:Array Oper) (i:Nat) (D Pp:List Nat) (Pl:List (Nat×Nat)) (h:List Nat):Option SP :=
 match gdOf os s.env i h with
 |none=>none
 |some (false,h,q) =>
  match fine n os s.env i (dstOf os i) && readOk os i (dstOf os i) D Pp (fsts Pl) with
  |true=>some ⟨⟨.draw os os.size (i::D) (i::Pp) Pl,s.stk,putE s.env (dstOf os i) undef,s.own,s.gam⟩,h,q,[]⟩
  |false=>none
 |some (true,h,q) =>
  match fine n os s.env i (dstOf os i) with
  |false=>none
  |true =>
   match cls (operAt os i).op,isStore (operAt os i).op,readOk os i (dstOf os i) D Pp (fsts Pl) with
   |2,false,true =>
    match h with
    |[]=>none
    |j::h =>
     match semLd P s.own j (execOp (ev s.env) (operAt os i)),Nat.blt j 64 with
     |some ⟨.value v,l⟩,true=>some ⟨⟨.draw os os.size (i::D) Pp ((i,j)::Pl),s.stk,putE s.env (dstOf os i) v,s.own,s.gam⟩,h,q++l,[]⟩
     |_,_=>none
   |_,false,true =>
    match valOf P s.env [] (operAt os i) h with
    |some r=>some ⟨⟨.draw os os.size (i::D) (i::Pp) Pl,s.stk,putE s.env (dstOf os i) r.v,s.own,s.gam⟩,r.h,q++(r.q++(if r.own.isEmpty then [] else [(undef,.bool true)])),r.p⟩
    |none=>none
   |_,_,_ =>
    match valOf P s.env s.own (operAt os i) h with
    |some r =>
     match s.ok1 n,s.ok2 P n r.v r.own (fun j=>j) with
     |some a,some b=>some ⟨s.putW r.v r.own s.gam (fun j=>j),r.h,q++(r.q++(a++b)),r.p⟩
     |_,_=>none
    |none=>none
def stepTurn (P:Program) (n:Fm) (s:XS) (os:Array Oper) (i:Nat) (h:List Nat):Option SP :=
 match gdOf os s.env i h with
 |some (true,h,q) =>
  match valOf P s.env s.own (operAt os i) h with
  |some r =>
   match s.ok1 n,s.ok2 P n r.v r.own (fun j=>j) with
   |some a,some b=>some ⟨s.putW r.v r.own s.gam (fun j=>j),r.h,q++(r.q++(a++b)),r.p⟩
   |_,_=>none
  |none=>none
 |_=>none
def step (P:Program) (n:Fm) (s:XS) (h:List Nat):Option SP :=
 match s.pos with
 |.turn os i _ _ _=>stepTurn P n s os i h
 |.code (.seq a b)=>seqH (SP' ⟨.code a,.thn b::s.stk,s.env,s.own,s.gam⟩) h
 |.code .skip=>SP' ⟨.ex .normal,s.stk,s.env,s.own,s.gam⟩ h
 |.code (.label _)=>SP' ⟨.ex .normal,s.stk,s.env,s.own,s.gam⟩ h
 |.code .ret=>SP' ⟨.ex .ret,s.stk,s.env,s.own,s.gam⟩ h
 |.code (.exit i)=>SP' ⟨.ex (.exit i),s.stk,s.env,s.own,s.gam⟩ h
 |.code (.block i c)=>SP' ⟨.code c,.blk i::s.stk,s.env,s.own,s.gam⟩ h
 |.code (.region _ os false)=>SP' ⟨.ops os os.size 0,s.stk,s.env,s.own,s.gam⟩ h
 |.code (.region _ os true)=>match P.follows .mixedOrders with | true=>SP' ⟨.draw os os.size [] [] [],s.stk,s.env,s.own,s.gam⟩ h | false=>none
 |.code (.cond o x y) =>
  match h with
  |[]=>none
  |t::h =>
   match knows s.env o,ev s.env o with
   |true,.bool b=>some ⟨⟨.code (bif Nat.beq t 1 then x else y),s.stk,s.env,s.own,s.gam⟩,h,[(.bool b,.bool (Nat.beq t 1))],[]⟩
   |_,_=>none
 |.code _=>none
 |.ex x =>
  match s.stk with
  |[]=>none
  |.thn c::r =>
   match x with
   |.normal=>SP' ⟨.code c,r,s.env,s.own,s.gam⟩ h
   |.ret=>SP' ⟨.ex .ret,r,s.env,s.own,s.gam⟩ h
   |.exit i=>SP' ⟨.ex (.exit i),r,s.env,s.own,s.gam⟩ h
   |_=>none
  |.blk j::r =>
   match x with
   |.normal=>SP' ⟨.ex .normal,r,s.env,s.own,s.gam⟩ h
   |.ret=>SP' ⟨.ex .ret,r,s.env,s.own,s.gam⟩ h
   |.exit i=>SP' ⟨.ex (bif Nat.beq i j then .normal else .exit i),r,s.env,s.own,s.gam⟩ h
   |_=>none
  |.rnd _::r =>
   match x with
   |.ret=>SP' ⟨.ex .ret,r,s.env,s.own,s.gam⟩ h
   |.exit i=>SP' ⟨.ex (.exit i),r,s.env,s.own,s.gam⟩ h
   |_=>none
 |.ops _ 0 _=>opsH (SP' ⟨.ex .normal,s.stk,s.env,s.own,s.gam⟩) h
 |.ops os (k+1) i=>opsH (stepOps P n s os k i) h
 |.draw os i D Pp Pl =>
  match Nat.beq i os.size with
  |false=>stepDraw P n s os i D Pp Pl h
  |true =>
   match Nat.beq D.length os.size && (List.range os.size).all (has D) with
   |true=>SP' ⟨.ex .normal,s.stk,s.env,s.own,s.gam⟩ h
   |false =>
    match h with
    |[]=>none
    |x::h=>SP' ⟨.draw os x D Pp Pl,s.stk,s.env,s.own,s.gam⟩ h
theorem sp_some {s:XS} {h:List Nat} {r:SP} (hr:SP' s h=some r):r.s=s:=by
 obtain rfl:=Option.some.inj hr; rfl
theorem stepOps_ok {X:Ctx} {s:XS} {os:Array Oper} {k i:Nat} {h:List Nat} {r:SP} (hs:s.pos=.ops os (k+1) i) (hr:stepOps X.P X.n s os k i h=some r) (hq:Alike r.q) (hp:AllP r.p) (hk:GP X r.s):GP X s:=by
 obtain ⟨pos,stk,env,own,gam⟩:=s
 simp only at hs
 subst hs
 unfold stepOps at hr
 split at hr
 · cases hr
 · rename_i h' q hg
   split at hr
   · rename_i v hf hv
     obtain rfl:=Option.some.inj hr
     obtain ⟨hq1,hq2⟩:=Alike.app hq
     obtain ⟨h1,h2,h3,h4⟩:=fine_key hf
     exact ops_step h1 (gval_is (gdOf_ok hg hq1)) h2 h3 h4 (valOf_ok (Γ:=gam++X.F) hv hq2 hp) fun v' Γ' ⟨e1,e2⟩=>by subst e1; subst e2; exact hk
   · cases hr
 · rename_i h' q hg
   split at hr
   · rename_i hf
     obtain rfl:=Option.some.inj hr
     obtain ⟨h1,h4⟩:=fineOff_key hf
     exact ops_off h1 (gval_is (gdOf_ok hg hq)) h4 hk
   · cases hr
theorem stepDraw_ok {X:Ctx} {s:XS} {os:Array Oper} {i:Nat} {D Pp:List Nat} {Pl:List (Nat×Nat)} {h:List Nat} {r:SP} (hs:s.pos=.draw os i D Pp Pl) (hr:stepDraw X.P X.n s os i D Pp Pl h=some r) (hq:Alike r.q) (hp:AllP r.p) (hk:GP X r.s):GP X s:=by
 obtain ⟨pos,stk,env,own,gam⟩:=s
 simp only at hs
 subst hs
 unfold stepDraw at hr
 split at hr
 · cases hr
 · rename_i h' q hg
   split at hr
   · rename_i hc
     obtain rfl:=Option.some.inj hr
     simp only [Bool.and_eq_true] at hc
     obtain ⟨h1,h2,h3,h4⟩:=fine_key hc.1
     intro hol
     exact draw_off h1 (gval_is (gdOf_ok hg hq)) h2 h3 h4 hc.2 (hk (hol.put (read_fresh hc.2)))
   · cases hr
 · rename_i h' q hg
   split at hr
   · cases hr
   · rename_i hf
     obtain ⟨h1,h2,h3,h4⟩:=fine_key hf
     split at hr
     · rename_i hcls hst hok
       split at hr
       · cases hr
       · rename_i j h2'
         split at hr
         · rename_i v l hld hj
           obtain rfl:=Option.some.inj hr
           obtain ⟨hq1,hq2⟩:=Alike.app hq
           intro hol
           exact draw_load v h1 (gval_is (gdOf_ok hg hq1)) h2 h3 h4 hok (fun w hw=>semLd_ok (Γ:=gam++X.F) hw hld hq2) (hk (ol_first hj (hol.put (read_fresh hok))))
         · cases hr
     · rename_i hcls hst hok hne
       split at hr
       · rename_i v hv
         obtain rfl:=Option.some.inj hr
         obtain ⟨hq1,hq2⟩:=Alike.app hq
         obtain ⟨hq2,hq3⟩:=Alike.app hq2
         have ho:v.own=[]:=by
          cases hov:v.own with
          |nil=>rfl
          |cons x r =>
           rw [hov] at hq3
           have:=(Alike.cons (show Alike ((undef,Value.bool true)::[]) from hq3)).1
           simp [undef] at this
         intro hol
         refine draw_quiet v.v h1 (gval_is (gdOf_ok hg hq1)) h2 h3 h4 hok (fun Γ=>?_) (hk (hol.put (read_fresh hok)))
         have:=valOf_ok (P:=X.P) (W0:=X.W0) (Γ:=Γ) hv hq2 hp
         rw [ho] at this
         exact this
       · cases hr
     · split at hr
       · rename_i v hv
         split at hr
         · rename_i a b ha hb
           obtain rfl:=Option.some.inj hr
           obtain ⟨hq1,hq2⟩:=Alike.app hq
           obtain ⟨hq2,hq3⟩:=Alike.app hq2
           exact putW_ok (gam:=gam) ha hb hq3 ol_same (valOf_ok (Γ:=gam++X.F) hv hq2 hp) hk
         · cases hr
       · cases hr
theorem stepTurn_ok {X:Ctx} {s:XS} {os:Array Oper} {i:Nat} {D Pp:List Nat} {Pl:List (Nat×Nat)} {h:List Nat} {r:SP} (hs:s.pos=.turn os i D Pp Pl) (hr:stepTurn X.P X.n s os i h=some r) (hq:Alike r.q) (hp:AllP r.p) (hk:GP X r.s):GP X s:=by
 obtain ⟨pos,stk,env,own,gam⟩:=s
 simp only at hs
 subst hs
 unfold stepTurn at hr
 split at hr
 · rename_i h' q hg
   split at hr
   · rename_i v hv
     split at hr
     · rename_i a b ha hb
       obtain rfl:=Option.some.inj hr
       obtain ⟨hq1,hq2⟩:=Alike.app hq
       obtain ⟨hq2,hq3⟩:=Alike.app hq2
       exact putW_ok (gam:=gam) ha hb hq3 ol_same (valOf_ok (Γ:=gam++X.F) hv hq2 hp) hk
     · cases hr
   · cases hr
 · cases hr
theorem step_ok {X:Ctx} {s:XS} {h:List Nat} {r:SP} (hr:step X.P X.n s h=some r) (hq:Alike r.q) (hp:AllP r.p) (hk:GP X r.s):GP X s:=by
 have hr0:=hr
 obtain ⟨pos,stk,env,own,gam⟩:=s
 unfold step at hr
 split at hr <;> (try cases hr; done)
 · rename_i os i D Pp Pl hpos; cases hpos; exact stepTurn_ok rfl hr hq hp hk
 · rename_i a b hpos; cases hpos
   have hs:r.s=⟨.code a,.thn b::stk,env,own,gam⟩:=by
    unfold seqH at hr
    split at hr
    · exact sp_some hr
    · split at hr
      · exact sp_some hr
      · split at hr
        · cases hr
        · exact sp_some hr
   rw [hs] at hk; exact at_seq rfl hk
 · rename_i hpos; cases hpos; rw [sp_some hr] at hk; exact at_skip rfl hk
 · rename_i l hpos; cases hpos; rw [sp_some hr] at hk; exact at_label rfl hk
 · rename_i hpos; cases hpos; rw [sp_some hr] at hk; exact at_ret rfl hk
 · rename_i l hpos; cases hpos; rw [sp_some hr] at hk; exact at_exit rfl hk
 · rename_i i c hpos; cases hpos; rw [sp_some hr] at hk; exact at_block rfl hk
 · rename_i i os hpos; cases hpos; rw [sp_some hr] at hk; exact at_region os.size rfl rfl hk
 · rename_i i os hpos; cases hpos
   split at hr
   · rename_i hm; rw [sp_some hr] at hk; exact at_region_draw hm rfl (hk fun x hx=>by cases hx)
   · cases hr
 · rename_i o x y hpos; cases hpos
   split at hr
   · cases hr
   · rename_i t h'
     split at hr
     · rename_i b hkn hev
       obtain rfl:=Option.some.inj hr
       have e1:=(Alike.cons hq).1
       simp only [Value.bool.injEq] at e1
       cases hb:Nat.beq t 1 with
       |true=>rw [hb] at hk e1; exact at_true rfl hkn hev e1 hk
       |false=>rw [hb] at hk e1; exact at_false rfl hkn hev e1 hk
     · cases hr
 · rename_i x hpos; cases hpos
   split at hr
   · cases hr
   · rename_i c r hst; simp only at hst; subst hst
     split at hr
     · rw [sp_some hr] at hk; exact hk
     · rw [sp_some hr] at hk; exact hk
     · rw [sp_some hr] at hk; exact hk
     · cases hr
   · rename_i j r hst; simp only at hst; subst hst
     split at hr
     · rw [sp_some hr] at hk; exact hk
     · rw [sp_some hr] at hk; exact hk
     · rename_i i
       rw [sp_some hr] at hk
       cases hb:Nat.beq i j with
       |true =>
        rw [hb] at hk
        obtain rfl:=Nat.eq_of_beq_eq_true hb
        exact at_in_here hk
       |false=>rw [hb] at hk; exact at_in_other hb hk
     · cases hr
   · rename_i N r hst; simp only at hst; subst hst
     split at hr
     · rw [sp_some hr] at hk; exact hk
     · rw [sp_some hr] at hk; exact hk
     · cases hr
 · rename_i os i hpos; cases hpos; obtain ⟨_,hr⟩:=opsH_some hr; rw [sp_some hr] at hk; exact ops_end hk
 · rename_i os k i hpos; cases hpos; obtain ⟨_,hr⟩:=opsH_some hr; exact stepOps_ok rfl hr hq hp hk
 · rename_i os i D Pp Pl hpos; cases hpos
   split at hr
   · exact stepDraw_ok rfl hr hq hp hk
   · split at hr
     · rename_i hc; rw [sp_some hr] at hk
       simp only [Bool.and_eq_true] at hc
       exact fun _=>draw_end hc.2 hk
     · split at hr
       · cases hr
       · rw [sp_some hr] at hk; exact hk
structure DR where
 s:XS
 q:List (Value×Value)
 p:List Prop
def drive (P:Program) (n:Fm):Nat→XS→List Nat→DR
 |0,s,_=>⟨s,[],[]⟩
 |f+1,s,h =>
  match step P n s h with
  |none=>⟨s,[],[]⟩
  |some r=>⟨(drive P n f r.s r.h).s,r.q++(drive P n f r.s r.h).q,r.p++(drive P n f r.s r.h).p⟩
theorem drive_ok {X:Ctx}:∀ {f:Nat} {s:XS} {h:List Nat},Alike (drive X.P X.n f s h).q→AllP (drive X.P X.n f s h).p→GP X (drive X.P X.n f s h).s→GP X s
 |0,_,_,_,_,hk=>hk
 |f+1,s,h,hq,hp,hk=>by
  unfold drive at hq hp hk
  split at hq
  · rename_i hr; simp only [hr] at hk; exact hk
  · rename_i r hr
    simp only [hr] at hp hk
    obtain ⟨hq1,hq2⟩:=Alike.app hq
    exact step_ok hr hq1 hp.app.1 (drive_ok hq2 hp.app.2 hk)
end
section
open Go Go.RowKit
structure Rs where
 own:List OB
 gam:List Asn
def Rs.all (r:Rs) (Γ:List Asn):List Asn:=owns r.own++(r.gam++Γ)
def Fn (P:Program) (f:FuncId) (args:List Value) (pre:Rs) {Z:Type} (rv:Z→Value) (post:Z→Rs):Prop :=
 ∀ (W0:World) (Γ:List Asn),Tr P f args.toArray W0 (pre.all Γ) fun r Δ=>∃ z,r=rv z∧Δ=(post z).all Γ
def Oc (P:Program) (sem:Sem Next) (pre:Rs) {Z:Type} (rv:Z→Value) (post:Z→Rs):Prop :=
 ∀ (W0:World) (Γ:List Asn) (w:World),Sat W0 (pre.all Γ) w→∃ z w' x,sem.run P w=.ok x w'∧(x=.value (rv z)∨(x=.skip∧rv z=undef))∧Sat W0 ((post z).all Γ) w'
def Gh (pre:Rs) {Z:Type} (post:Z→Rs):Prop:=∀ (W0:World) (Γ:List Asn) (w:World),Sat W0 (pre.all Γ) w→∃ z,Sat W0 ((post z).all Γ) w
def Fq (P:Program) (f:FuncId) (args:List Value) (v:Value):Prop:=∀ (W0:World) (Γ:List Asn),Tr P f args.toArray W0 Γ fun r Δ=>r=v∧Δ=Γ
def pkA:List Nat→List Asn→List Asn
 |[],_=>[]
 |i::is,l=>nthA l i::pkA is (delA l i)
def rsA:List Nat→List Asn→List Asn
 |[],l=>l
 |i::is,l=>rsA is (delA l i)
def pkO:List Nat→List OB→List OB
 |[],_=>[]
 |i::is,l=>match nthO l i with | some o=>o::pkO is (delO l i) | none=>[]
def rsO:List Nat→List OB→List OB
 |[],l=>l
 |i::is,l=>match nthO l i with | some _=>rsO is (delO l i) | none=>l
section
variable {W0 w:World} {Γ Δ A B C:List Asn}
theorem sat_pkA:∀ {is:List Nat} {g:List Asn} {Γ:List Asn},Sat W0 (g++Γ) w→Sat W0 (pkA is g++(rsA is g++Γ)) w
 |[],_,_,h=>h
 |i::is,g,Γ,h=>by
  have h1:=sat_nthA (i:=i) h
  have h2:Sat W0 (delA g i++([nthA g i]++Γ)) w:=Sat.swap (A:=[nthA g i]) h1
  have h3:=sat_pkA (is:=is) h2
  have h4:Sat W0 ((pkA is (delA g i)++rsA is (delA g i))++([nthA g i]++Γ)) w:=by simpa using h3
  have h5:=h4.swap
  simpa [pkA,rsA] using h5
theorem owns_append (l m:List OB):owns (l++m)=owns l++owns m:=by simp [owns]
theorem sat_nthO:∀ {l:List OB} {i:Nat} {o:OB} {Γ:List Asn},nthO l i=some o→Sat W0 (owns l++Γ) w→Sat W0 (o.asn::(owns (delO l i)++Γ)) w
 |[],_,_,_,h,_=>by cases h
 |_::_,0,_,_,h,hw=>by obtain rfl:=Option.some.inj h; exact hw
 |x::r,i+1,o,Γ,h,hw=>by
  have h2:Sat W0 (owns r++(x.asn::Γ)) w:=Sat.swap (A:=[x.asn]) hw
  have h3:=sat_nthO (show nthO r i=some o from h) h2
  have h4:Sat W0 ((o.asn::owns (delO r i))++([x.asn]++Γ)) w:=by simpa using h3
  have h5:=h4.swap
  have h6:Sat W0 ([x.asn]++([o.asn]++(owns (delO r i)++Γ))) w:=by simpa using h5
  have h7:=h6.swap
  simpa [delO,owns] using h7
theorem sat_pkO:∀ {is:List Nat} {l:List OB} {Γ:List Asn},Sat W0 (owns l++Γ) w→Sat W0 (owns (pkO is l)++(owns (rsO is l)++Γ)) w
 |[],_,_,h=>h
 |i::is,l,Γ,h=>by
  unfold pkO rsO
  split
  · rename_i o ho
    have h1:=sat_nthO ho h
    have h2:Sat W0 (owns (delO l i)++([o.asn]++Γ)) w:=Sat.swap (A:=[o.asn]) h1
    have h3:=sat_pkO (is:=is) h2
    have h4:Sat W0 ((owns (pkO is (delO l i))++owns (rsO is (delO l i)))++([o.asn]++Γ)) w:=by simpa using h3
    have h5:=h4.swap
    simpa [owns] using h5
  · exact h
theorem sat_take (io ia:List Nat) {own:List OB} {gam F:List Asn} (h:Sat W0 (owns own++(gam++F)) w):Sat W0 ((⟨pkO io own,pkA ia gam⟩:Rs).all (owns (rsO io own)++(rsA ia gam++F))) w:=by
 have h1:=sat_pkO (is:=io) h
 have h2:Sat W0 (gam++((owns (pkO io own)++owns (rsO io own))++F)) w:=by
  have:Sat W0 ((owns (pkO io own)++owns (rsO io own))++(gam++F)) w:=by simpa using h1
  exact this.swap
 have h3:=sat_pkA (is:=ia) h2
 have h4:Sat W0 ((pkA ia gam++rsA ia gam)++(owns (pkO io own)++(owns (rsO io own)++F))) w:=by simpa using h3
 have h5:=h4.swap
 have h6:Sat W0 (owns (pkO io own)++(pkA ia gam++(rsA ia gam++(owns (rsO io own)++F)))) w:=by simpa using h5
 unfold Rs.all
 -- the rest in its order
 have e:∀ {X:List Asn},Sat W0 (X++(rsA ia gam++(owns (rsO io own)++F))) w→Sat W0 (X++(owns (rsO io own)++(rsA ia gam++F))) w:=by
  intro X hX
  have a1:=hX.swap
  have a2:Sat W0 ((rsA ia gam++X)++(owns (rsO io own)++F)) w:=by simpa using a1
  have a3:=a2.swap
  have a4:Sat W0 ((owns (rsO io own)++rsA ia gam)++(X++F)) w:=by simpa using a3
  have a5:=a4.swap
  simpa using a5
 have:=e (X:=owns (pkO io own)++pkA ia gam) (by simpa using h6)
 simpa using this
theorem sat_give {r:Rs} {own:List OB} {gam F:List Asn} (h:Sat W0 (r.all (owns own++(gam++F))) w):Sat W0 (owns (r.own++own)++((r.gam++gam)++F)) w:=by
 unfold Rs.all at h
 have h1:Sat W0 (owns r.own++(r.gam++(owns own++(gam++F)))) w:=h
 have h2:=h1.swap
 have h3:Sat W0 ((r.gam++owns r.own)++(owns own++(gam++F))) w:=by simpa using h2
 have h4:=h3.swap
 have h5:Sat W0 ((owns own++r.gam)++(owns r.own++(gam++F))) w:=by simpa using h4
 have h6:=h5.swap
 have h7:Sat W0 ((owns r.own++owns own)++(r.gam++(gam++F))) w:=by simpa using h6
 simpa using h7
end
structure G (X:Ctx) (s:XS):Prop where
 get:GP X s
def XS.dr (X:Ctx) (s:XS) (h:List Nat):XS:=(drive X.P X.n 400 s h).s
def XS.dq (X:Ctx) (s:XS) (h:List Nat):List (Value×Value):=(drive X.P X.n 400 s h).q
def XS.dp (X:Ctx) (s:XS) (h:List Nat):List Prop:=(drive X.P X.n 400 s h).p
def upI (io ia:List Nat) (no na x:Nat):Nat:=bif Nat.ble 64 x then 64+reix ia 0 na (x - 64) else reix io 0 no x
def XS.put (s:XS) (io ia:List Nat) (v:Value) (r:Rs):XS:=s.putW v (r.own++rsO io s.own) (r.gam++rsA ia s.gam) (upI io ia r.own.length r.gam.length)
def XS.okP (X:Ctx) (s:XS) (io ia:List Nat) (v:Value) (r:Rs):Option (List (Value×Value)):=s.ok2 X.P X.n v (r.own++rsO io s.own) (upI io ia r.own.length r.gam.length)
def XS.olP (s:XS) (io ia:List Nat) (r:Rs):List (Bool×Asn):=s.ol2 (r.gam++rsA ia s.gam) (upI io ia r.own.length r.gam.length)
def oks:Option (List (Value×Value))→List Value
 |none=>[undef]
 |some q=>q.map (·.1)
def okr:Option (List (Value×Value))→List Value
 |none=>[]
 |some q=>q.map (·.2)
theorem oks_ok {o:Option (List (Value×Value))} (h:oks o=okr o):∃ q,o=some q∧Alike q:=by
 cases o with
 |none=>simp [oks,okr] at h
 |some q=>exact ⟨q,rfl,Alike.of h⟩
section
variable {X:Ctx} {s:XS}
theorem an:AllP []:=trivial
theorem ap {p:Prop} {l:List Prop} (h:p) (t:AllP l):AllP (p::l):=⟨h,t⟩
theorem xd (h:List Nat) {l:List Prop} (hl:AllP l) (k:G X (s.dr X h)) (hq:(s.dq X h).map (·.1)=(s.dq X h).map (·.2):=by kernel_rfl) (hp:s.dp X h=l:=by kernel_rfl):G X s:=⟨drive_ok (Alike.of hq) (by unfold XS.dp at hp; rw [hp]; exact hl) k.get⟩
theorem x0 (h:List Nat) (k:GP X (s.dr X h)) (hq:(s.dq X h).map (·.1)=(s.dq X h).map (·.2):=by kernel_rfl) (hp:s.dp X h=[]:=by kernel_rfl):GP X s:=drive_ok (Alike.of hq) (by unfold XS.dp at hp; rw [hp]; trivial) k
theorem step_oc {s:XS} {Z:Type} {pre:Rs} {rv:Z→Value} {post:Z→Rs} {io ia:List Nat}
 (st:∀ Γ,StepTo X.P X.W0 (pre.all Γ) s.env s.op.op s.op.type fun r Δ=>∃ z,r=rv z∧Δ=(post z).all Γ)
 (hpo:pkO io s.own=pre.own) (hpa:pkA ia s.gam=pre.gam) (h1:oks (s.ok1 X.n)=okr (s.ok1 X.n)) (h2:∀ z,oks (s.okP X io ia (rv z) (post z))=okr (s.okP X io ia (rv z) (post z))) (h3:∀ z,s.ol1=s.olP io ia (post z))
 (k:∀ z,GP X (s.put io ia (rv z) (post z))):GP X s:=by
 have hpre:(⟨pkO io s.own,pkA ia s.gam⟩:Rs)=pre:=by rw [hpo,hpa]
 have hs:∀ w,Sat X.W0 (s.all X.F) w→Sat X.W0 (pre.all (owns (rsO io s.own)++(rsA ia s.gam++X.F))) w:=fun w hw=>by rw [← hpre]; exact sat_take io ia hw
 obtain ⟨q,hq,hq2⟩:=oks_ok h1
 refine putZ_ok rv (fun z=>(post z).own++rsO io s.own) (fun z=>(post z).gam++rsA ia s.gam) (fun z=>upI io ia (post z).own.length (post z).gam.length) hq hq2 (fun z=>oks_ok (h2 z)) h3 ?_ k
 intro w hw ro o a K Q kk
 refine st _ w (hs w hw) ro o a K Q ?_
 rintro v Γ' w' ⟨z,rfl,rfl⟩ h2
 exact kk _ _ w' ⟨z,rfl,rfl⟩ (sat_give h2)
def semEnter (P:Program):Sem Next→Option (FuncId×Array Value)
 |.pure (.enter f args)=>some (f,args)
 |.program k=>semEnter P (k P)
 |.mark _ k=>semEnter P k
 |_=>none
theorem semEnter_ok {P:Program} {f:FuncId} {args:Array Value} {w:World}:∀ {s:Sem Next},semEnter P s=some (f,args)→s.run P w=.ok (.enter f args) w:=by
 intro s
 induction s with
 |pure a =>
  intro h
  cases a with
  |enter g as=>simp only [semEnter,Option.some.injEq,Prod.mk.injEq] at h; obtain ⟨rfl,rfl⟩:=h; rfl
  |_=>cases h
 |program k ih=>intro h; exact ih P h
 |mark m k ih=>intro h; exact ih h
 |_=>intro h; cases h
theorem xc (h io ia:List Nat) {f:FuncId} {args:List Value} {pre:Rs} {Z:Type} {rv:Z→Value} {post:Z→Rs} (hc:Fn X.P f args pre rv post) (k:∀ z,G X ((s.dr X h).put io ia (rv z) (post z)))
 (hq:(s.dq X h).map (·.1)=(s.dq X h).map (·.2):=by kernel_rfl) (hp:s.dp X h=[]:=by kernel_rfl) (he:semEnter X.P (s.dr X h).sem=some (f,args.toArray):=by kernel_rfl)
 (hpo:pkO io (s.dr X h).own=pre.own:=by kernel_rfl) (hpa:pkA ia (s.dr X h).gam=pre.gam:=by kernel_rfl) (h1:oks ((s.dr X h).ok1 X.n)=okr ((s.dr X h).ok1 X.n):=by kernel_rfl)
 (h2:∀ z,oks ((s.dr X h).okP X io ia (rv z) (post z))=okr ((s.dr X h).okP X io ia (rv z) (post z)):=by intro _; kernel_rfl) (h3:∀ z,(s.dr X h).ol1=(s.dr X h).olP io ia (post z):=by intro _; kernel_rfl):G X s:=by
 refine ⟨x0 h ?_ hq hp⟩
 refine step_oc (fun Γ=>?_) hpo hpa h1 h2 h3 fun z=>(k z).get
 exact StepTo.call (fun w=>semEnter_ok he) (hc X.W0 Γ)
theorem xo (h io ia:List Nat) {sem:Sem Next} {pre:Rs} {Z:Type} {rv:Z→Value} {post:Z→Rs} (hc:Oc X.P sem pre rv post) (k:∀ z,G X ((s.dr X h).put io ia (rv z) (post z)))
 (hq:(s.dq X h).map (·.1)=(s.dq X h).map (·.2):=by kernel_rfl) (hp:s.dp X h=[]:=by kernel_rfl) (he:∀ w,(s.dr X h).sem.run X.P w=sem.run X.P w:=by intro _; kernel_rfl)
 (hpo:pkO io (s.dr X h).own=pre.own:=by kernel_rfl) (hpa:pkA ia (s.dr X h).gam=pre.gam:=by kernel_rfl) (h1:oks ((s.dr X h).ok1 X.n)=okr ((s.dr X h).ok1 X.n):=by kernel_rfl)
 (h2:∀ z,oks ((s.dr X h).okP X io ia (rv z) (post z))=okr ((s.dr X h).okP X io ia (rv z) (post z)):=by intro _; kernel_rfl) (h3:∀ z,(s.dr X h).ol1=(s.dr X h).olP io ia (post z):=by intro _; kernel_rfl):G X s:=by
 refine ⟨x0 h ?_ hq hp⟩
 refine step_oc (fun Γ=>?_) hpo hpa h1 h2 h3 fun z=>(k z).get
 intro w hw ro o a K Q kk
 obtain ⟨z,w',x,r1,r2,r3⟩:=hc X.W0 Γ w hw
 have e:(execOp (ev (s.dr X h).env) (bare (s.dr X h).op.op (s.dr X h).op.type)).run X.P w=sem.run X.P w:=he w
 rw [e,r1]
 rcases r2 with rfl | ⟨rfl,r2⟩
 · exact kk _ _ w' ⟨z,rfl,rfl⟩ r3
 · exact kk undef _ w' ⟨z,r2.symm,rfl⟩ r3
def semNew (P:Program):Sem Next→Nat→Option (Value×Array Value×TypeId)
 |.program k,b=>semNew P (k P) b
 |.mark _ k,b=>semNew P k b
 |.new (.cells c T (0,0)) k,b=>(semVal P (k b)).map fun v=>(v,c,T)
 |_,_=>none
theorem semNew_ok {P:Program} {W0 w:World} {Γ:List Asn} {Z:Nat→Value×Array Value×TypeId} (hw:Sat W0 Γ w):∀ {s:Sem Next},(∀ b,semNew P s b=some (Z b)) →
 ∃ b w' x,s.run P w=.ok x w'∧(x=.value (Z b).1∨(x=.skip∧(Z b).1=undef))∧Sat W0 (OB.asn ⟨b,(Z b).2.1,(Z b).2.2⟩::Γ) w':=by
 intro s
 induction s with
 |program k ih=>intro h; exact ih P h
 |mark m k ih=>intro h; exact ih h
 |new o k ih =>
  intro h
  have h0:=h w.heap.size
  cases o with
  |cells c T fr =>
   obtain ⟨lo,hi⟩:=fr
   by_cases hf:lo=0∧hi=0
   · obtain ⟨rfl,rfl⟩:=hf
     have h0':(semVal P (k w.heap.size)).map (fun v=>(v,c,T))=some (Z w.heap.size):=h0
     simp only [Option.map_eq_some_iff] at h0'
     obtain ⟨v,hv,e⟩:=h0'
     obtain ⟨x,h1,h2⟩:=semVal_ok (w:={ w with heap:=w.heap.push (.cells c T (0,0)) }) hv
     refine ⟨w.heap.size,_,x,h1,?_,?_⟩
     · rw [← e]; exact h2
     · rw [← e]; exact hw.alloc _
   · exfalso
     unfold semNew at h0
     split at h0 <;> simp_all
  |_=>cases h0
 |_=>intro h; cases h 0
def newZ (o:Option (Value×Array Value×TypeId)):Value×Array Value×TypeId:=o.getD (undef,#[],0)
def XS.nw (X:Ctx) (s:XS) (b:Nat):Value×Array Value×TypeId:=newZ (semNew X.P s.sem b)
def XS.putN (X:Ctx) (s:XS) (b:Nat):XS:=s.put [] [] (s.nw X b).1 ⟨[⟨b,(s.nw X b).2.1,(s.nw X b).2.2⟩],[]⟩
theorem some_newZ {o:Option (Value×Array Value×TypeId)} (h:o.isSome=true):o=some (newZ o):=by
 cases o with
 |none=>cases h
 |some x=>rfl
theorem xn (h:List Nat) (k:∀ b,G X ((s.dr X h).putN X b)) (hq:(s.dq X h).map (·.1)=(s.dq X h).map (·.2):=by kernel_rfl) (hp:s.dp X h=[]:=by kernel_rfl)
 (he:∀ b,(semNew X.P (s.dr X h).sem b).isSome=true:=by intro _; kernel_rfl) (h1:oks ((s.dr X h).ok1 X.n)=okr ((s.dr X h).ok1 X.n):=by kernel_rfl)
 (h2:∀ b,oks ((s.dr X h).okP X [] [] ((s.dr X h).nw X b).1 ⟨[⟨b,((s.dr X h).nw X b).2.1,((s.dr X h).nw X b).2.2⟩],[]⟩)=okr ((s.dr X h).okP X [] [] ((s.dr X h).nw X b).1 ⟨[⟨b,((s.dr X h).nw X b).2.1,((s.dr X h).nw X b).2.2⟩],[]⟩):=by intro _; kernel_rfl)
 (h3:∀ b,(s.dr X h).ol1=(s.dr X h).olP [] [] ⟨[⟨b,((s.dr X h).nw X b).2.1,((s.dr X h).nw X b).2.2⟩],[]⟩:=by intro _; kernel_rfl):G X s:=by
 refine ⟨x0 h ?_ hq hp⟩
 refine step_oc (io:=[]) (ia:=[]) (pre:=⟨[],[]⟩) (rv:=fun b:Nat=>((s.dr X h).nw X b).1) (post:=fun b:Nat=>⟨[⟨b,((s.dr X h).nw X b).2.1,((s.dr X h).nw X b).2.2⟩],[]⟩) (fun Γ=>?_) rfl rfl h1 h2 h3 fun b=>(k b).get
 intro w hw ro o a K Q kk
 obtain ⟨b,w',x,r1,r2,r3⟩:=semNew_ok (Z:=fun b=>(s.dr X h).nw X b) hw fun b=>some_newZ (he b)
 have e:execOp (ev (s.dr X h).env) (bare (s.dr X h).op.op (s.dr X h).op.type)=(s.dr X h).sem:=rfl
 rw [e,r1]
 rcases r2 with rfl | ⟨rfl,r2⟩
 · exact kk _ _ w' ⟨b,rfl,rfl⟩ r3
 · exact kk undef _ w' ⟨b,r2.symm,rfl⟩ r3
def XS.with (s:XS) (own:List OB) (gam:List Asn) (up:Nat→Nat):XS :=
 ⟨match s.pos with | .draw os i D Pp Pl=>.draw os i D Pp (upP up Pl) | .turn os i D Pp Pl=>.turn os i D Pp (upP up Pl) | p=>p,s.stk,s.env,own,gam⟩
def XS.ok3 (P:Program) (n:Fm) (s:XS) (own:List OB) (up:Nat→Nat):Option (List (Value×Value)) :=
 match s.pos with
 |.draw os _ _ _ Pl=>stabOf P n os s.env own (upP up Pl)
 |.turn os _ _ _ Pl=>stabOf P n os s.env own (upP up Pl)
 |_=>some []
def XS.ow1 (s:XS):List (Bool×Asn) :=
 match s.pos with
 |.draw _ _ _ _ Pl=>olsA s.gam Pl
 |.turn _ _ _ _ Pl=>olsA s.gam Pl
 |_=>[]
def XS.ow2 (s:XS) (gam:List Asn) (up:Nat→Nat):List (Bool×Asn) :=
 match s.pos with
 |.draw _ _ _ _ Pl=>olsB gam up Pl
 |.turn _ _ _ _ Pl=>olsB gam up Pl
 |_=>[]
theorem known_ok {p:Prop} (hg:∀ w,Sat X.W0 (s.all X.F) w→p) (k:p→GP X s):GP X s:=by
 obtain ⟨pos,stk,env,own0,gam0⟩:=s
 cases pos with
 |draw os i D Pp Pl=>exact fun ho t1 t2 t3 t4 fuel listed a w hi hl hw=>k (hg w hw) ho t1 t2 t3 t4 fuel listed a w hi hl hw
 |turn os i D Pp Pl=>exact fun ho t1 t2 t3 t4 fuel listed a w hi hl hw hr=>k (hg w hw) ho t1 t2 t3 t4 fuel listed a w hi hl hw hr
 |code c=>exact At.known hg k
 |ops os k' i=>exact At.known hg k
 |ex x=>exact At.known hg k
theorem exists_ok {Z:Type} {p:Z→Prop} (hg:∀ w,Sat X.W0 (s.all X.F) w→∃ z,p z) (k:∀ z,p z→GP X s):GP X s:=by
 obtain ⟨pos,stk,env,own0,gam0⟩:=s
 cases pos with
 |draw os i D Pp Pl=>exact fun ho t1 t2 t3 t4 fuel listed a w hi hl hw=>let ⟨z,hz⟩:=hg w hw; k z hz ho t1 t2 t3 t4 fuel listed a w hi hl hw
 |turn os i D Pp Pl=>exact fun ho t1 t2 t3 t4 fuel listed a w hi hl hw hr=>let ⟨z,hz⟩:=hg w hw; k z hz ho t1 t2 t3 t4 fuel listed a w hi hl hw hr
 |code c=>exact fun a w ha hw=>let ⟨z,hz⟩:=hg w hw; k z hz a w ha hw
 |ops os k' i=>exact fun a w ha hw=>let ⟨z,hz⟩:=hg w hw; k z hz a w ha hw
 |ex x=>exact fun a w ha hw=>let ⟨z,hz⟩:=hg w hw; k z hz a w ha hw
theorem xk (h ia:List Nat) {A:List Asn} {p:Prop} (hc:∀ (W0:World) (Γ:List Asn) (w:World),Sat W0 (A++Γ) w→p) (k:p→G X (s.dr X h)) (hq:(s.dq X h).map (·.1)=(s.dq X h).map (·.2):=by kernel_rfl) (hp:s.dp X h=[]:=by kernel_rfl)
 (hpa:pkA ia (s.dr X h).gam=A:=by kernel_rfl):G X s:=by
 refine ⟨x0 h (known_ok (p:=p) (fun w hw=>?_) fun hp=>(k hp).get) hq hp⟩
 have h1:=sat_take [] ia hw
 rw [hpa] at h1
 exact hc _ _ w h1
theorem xg (h io ia:List Nat) {pre:Rs} {Z:Type} {post:Z→Rs} (hc:Gh pre post) (k:∀ z,G X ((s.dr X h).with ((post z).own++rsO io (s.dr X h).own) ((post z).gam++rsA ia (s.dr X h).gam) (upI io ia (post z).own.length (post z).gam.length)))
 (hq:(s.dq X h).map (·.1)=(s.dq X h).map (·.2):=by kernel_rfl) (hp:s.dp X h=[]:=by kernel_rfl) (hpo:pkO io (s.dr X h).own=pre.own:=by kernel_rfl) (hpa:pkA ia (s.dr X h).gam=pre.gam:=by kernel_rfl)
 (h2:∀ z,oks ((s.dr X h).ok3 X.P X.n ((post z).own++rsO io (s.dr X h).own) (upI io ia (post z).own.length (post z).gam.length))=okr ((s.dr X h).ok3 X.P X.n ((post z).own++rsO io (s.dr X h).own) (upI io ia (post z).own.length (post z).gam.length)):=by intro _; kernel_rfl)
 (h3:∀ z,(s.dr X h).ow1=(s.dr X h).ow2 ((post z).gam++rsA ia (s.dr X h).gam) (upI io ia (post z).own.length (post z).gam.length):=by intro _; kernel_rfl):G X s:=by
 refine ⟨x0 h ?_ hq hp⟩
 generalize s.dr X h=s at *
 have hpre:(⟨pkO io s.own,pkA ia s.gam⟩:Rs)=pre:=by rw [hpo,hpa]
 have hs:∀ w,Sat X.W0 (s.all X.F) w→∃ z,Sat X.W0 (owns ((post z).own++rsO io s.own)++(((post z).gam++rsA ia s.gam)++X.F)) w:=fun w hw=>by
  have h1:=sat_take io ia hw
  rw [hpre] at h1
  obtain ⟨z,h2⟩:=hc _ _ w h1
  exact ⟨z,sat_give h2⟩
 obtain ⟨pos,stk,env,own0,gam0⟩:=s
 cases pos with
 |draw os i D Pp Pl =>
  intro ho t1 t2 t3 t4 fuel listed a w hi hl hw
  obtain ⟨z,hz⟩:=hs w hw
  obtain ⟨q,hq,hq2⟩:=oks_ok (h2 z)
  have ho2:=ho.move (h3 z)
  have hs:=stab_all (W0:=X.W0) (gam:=(post z).gam++rsA ia gam0) (F:=X.F) hq hq2 ho2
  have e:List.map (fun x=>x.1) (upP (upI io ia (post z).own.length (post z).gam.length) Pl)=List.map (fun x=>x.1) Pl:=fsts_up
  have k':Draw X.P X.n X.W0 os (wpK X.n X.P X.Q0 stk) D Pp (List.map (fun x=>x.1) (upP (upI io ia (post z).own.length (post z).gam.length) Pl)) env (owns ((post z).own++rsO io own0)++(((post z).gam++rsA ia gam0)++X.F)):=(k z).get ho2
  rw [e] at k'
  rw [fsts_up] at hs
  exact k' t1 t2 t3 hs fuel listed a w hi hl hz
 |turn os i D Pp Pl =>
  intro ho t1 t2 t3 t4 fuel listed a w hi hl hw hr
  obtain ⟨z,hz⟩:=hs w hw
  obtain ⟨q,hq,hq2⟩:=oks_ok (h2 z)
  have ho2:=ho.move (h3 z)
  have hs:=stab_all (W0:=X.W0) (gam:=(post z).gam++rsA ia gam0) (F:=X.F) hq hq2 ho2
  have e:List.map (fun x=>x.1) (upP (upI io ia (post z).own.length (post z).gam.length) Pl)=List.map (fun x=>x.1) Pl:=fsts_up
  have k':TurnK X.P X.n X.W0 os (wpK X.n X.P X.Q0 stk) D Pp (List.map (fun x=>x.1) (upP (upI io ia (post z).own.length (post z).gam.length) Pl)) env (owns ((post z).own++rsO io own0)++(((post z).gam++rsA ia gam0)++X.F)) i:=(k z).get ho2
  rw [e] at k'
  rw [fsts_up] at hs
  exact k' t1 t2 t3 hs fuel listed a w hi hl hz hr
 |code c=>exact fun a w ha hw=>let ⟨z,hz⟩:=hs w hw; (k z).get a w ha hz
 |ops os k' i=>exact fun a w ha hw=>let ⟨z,hz⟩:=hs w hw; (k z).get a w ha hz
 |ex x=>exact fun a w ha hw=>let ⟨z,hz⟩:=hs w hw; (k z).get a w ha hz
end
end
end Go.Proofs.YtcidmgkfaioceaaGreat
