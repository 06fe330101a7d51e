/- Walks of the program's functions, and the plain laws of what they compute (part 2): EngE, Dat, Typ, MapB, MapK, Del, MapN, MapW, Own, Ty, Eqs, Kp.
   Conditions: none. -/
import Derived.Laws.MakeOwn
import Derived.MapKept
import Derived.Test.YtcidmgkfaioceaaGreatProg
import Derived.Laws.StructEq
import Derived.Test.YtcidmgkfaioceaaGreatMBegins1
set_option linter.unusedVariables false
set_option linter.unusedSimpArgs false
set_option linter.unusedSectionVars false
set_option maxRecDepth 100000
set_option maxHeartbeats 4000000
namespace Go.Proofs.YtcidmgkfaioceaaGreat
section
open Go Go.RowKit
theorem lk_same {e:Env} {d:Nat} {v:Value} (h:lk e d=some v):lk ((d,v)::e)=lk e:=by
 funext t
 rw [lk_cons]
 by_cases ht:d=t
 · subst ht; simp [h]
 · simp [ht]
theorem ev_lk {e e':Env} (h:lk e'=lk e):ev e'=ev e:=by
 funext x
 cases x <;> simp [ev,h]
theorem knows_lk {e e':Env} (h:lk e'=lk e):knows e'=knows e:=by
 funext x
 cases x <;> simp [knows,h]
theorem guard_lk {os:Array Oper} {e e':Env} (h:lk e'=lk e) {g:Option (Nat×Bool)} {t:Bool}:GuardIs os e' g t=GuardIs os e g t:=by
 unfold GuardIs
 split <;> simp [h]
theorem stable_lk {P:Program} {n:Fm} {W0:World} {os:Array Oper} {e e':Env} {Γ:List Asn} {j:Nat} (h:lk e'=lk e) (hs:Stable P n W0 os e Γ j):Stable P n W0 os e' Γ j:=by
 obtain ⟨o,v,t,h1,h2,h3,h4,h5,h6,h7,h8⟩:=hs
 exact ⟨o,v,t,h1,h2,by rw [knows_lk h]; exact h3,by rw [guard_lk h]; exact h4,h5,fun d hd=>by rw [h]; exact h6 d hd,fun ht w hw=>by rw [ev_lk h]; exact h7 ht w hw,h8⟩
theorem OlAll.lk {P:Program} {n:Fm} {W0:World} {os:Array Oper} {e e':Env} {gam:List Asn} {Pl:List (Nat×Nat)} (h:lk e'=lk e) (ho:OlAll P n W0 os e gam Pl):OlAll P n W0 os e' gam Pl:=fun x hx hb Γ=>stable_lk h (ho x hx hb Γ)
def XS.setE (s:XS) (e:Env):XS:=⟨s.pos,s.stk,e,s.own,s.gam⟩
section
variable {X:Ctx} {s:XS}
theorem env_ok {e':Env} (h:lk e'=lk s.env) (k:GP X (s.setE e')):GP X s:=by
 obtain ⟨pos,stk,env,own,gam⟩:=s
 simp only at h
 have hat:∀ {Γ:List Asn} {K:Act→World→Prop},At X.n X.W0 e' Γ K→At X.n X.W0 env Γ K:=fun k a w ha hw=>k a w ⟨ha.size,ha.defers,fun t v ht=>ha.get t v (by rw [← h]; exact ht)⟩ hw
 cases pos with
 |draw os i D Pp Pl =>
  intro ho t1 t2 t3 t4 fuel listed a w hi hl hw
  have k':Draw X.P X.n X.W0 os (wpK X.n X.P X.Q0 stk) D Pp (Pl.map (·.1)) e' (owns own++(gam++X.F)):=k (ho.lk h)
  refine k' t1 t2 (fun j hj=>?_) (fun j hj=>?_) fuel listed a w ⟨hi.size,hi.l1,hi.l2,hi.dlt,hi.tmps,hi.defers,fun t v ht=>hi.get t v (by rw [← h]; exact ht),hi.down⟩ hl hw
  · obtain ⟨o,v,t,h1,h2,h3,h4,h5,h6,h7,h8⟩:=t3 j hj
    exact ⟨o,v,t,h1,h2,by rw [knows_lk h]; exact h3,by rw [guard_lk h]; exact h4,h5,fun d hd=>by rw [h]; exact h6 d hd,fun ht Γ=>by
     have:=h7 ht Γ
     intro w hw ro o' a' K Q kk
     rw [ev_lk h]
     exact this w hw ro o' a' K Q kk,h8⟩
  · obtain ⟨o,v,t,h1,h2,h3,h4,h5,h6,h7,h8⟩:=t4 j hj
    exact ⟨o,v,t,h1,h2,by rw [knows_lk h]; exact h3,by rw [guard_lk h]; exact h4,h5,fun d hd=>by rw [h]; exact h6 d hd,fun ht w hw=>by rw [ev_lk h]; exact h7 ht w hw,h8⟩
 |turn os i D Pp Pl =>
  intro ho t1 t2 t3 t4 fuel listed a w hi hl hw hr
  have k':TurnK X.P X.n X.W0 os (wpK X.n X.P X.Q0 stk) D Pp (Pl.map (·.1)) e' (owns own++(gam++X.F)) i:=k (ho.lk h)
  refine k' t1 t2 (fun j hj=>?_) (fun j hj=>?_) fuel listed a w ⟨hi.size,hi.l1,hi.l2,hi.dlt,hi.tmps,hi.defers,fun t v ht=>hi.get t v (by rw [← h]; exact ht),hi.down⟩ hl hw hr
  · obtain ⟨o,v,t,h1,h2,h3,h4,h5,h6,h7,h8⟩:=t3 j hj
    exact ⟨o,v,t,h1,h2,by rw [knows_lk h]; exact h3,by rw [guard_lk h]; exact h4,h5,fun d hd=>by rw [h]; exact h6 d hd,fun ht Γ=>by
     have:=h7 ht Γ
     intro w hw ro o' a' K Q kk
     rw [ev_lk h]
     exact this w hw ro o' a' K Q kk,h8⟩
  · obtain ⟨o,v,t,h1,h2,h3,h4,h5,h6,h7,h8⟩:=t4 j hj
    exact ⟨o,v,t,h1,h2,by rw [knows_lk h]; exact h3,by rw [guard_lk h]; exact h4,h5,fun d hd=>by rw [h]; exact h6 d hd,fun ht w hw=>by rw [ev_lk h]; exact h7 ht w hw,h8⟩
 |code c=>exact hat k
 |ops os k' i=>exact hat k
 |ex x=>exact hat k
def slotOf:Operand→Nat
 |.tmp t=>t
 |_=>0
def XS.want (s:XS):Nat :=
 let op (os:Array Oper) (i:Nat):Nat :=
  match (operAt os i).op with
  |.pick c _ _=>slotOf c
  |_=>match (operAt os i).guard with
   |some (j,_)=>(dstOf os j).getD 0
   |none=>0
 match s.pos with
 |.code (.cond c _ _)=>slotOf c
 |.ops os _ i=>op os i
 |.draw os i _ _ _=>op os i
 |.turn os i _ _ _=>op os i
 |_=>0
def XS.tell (s:XS) (d:Nat) (b:Bool):XS:=s.setE ((d,.bool b)::s.env)
theorem xs (h:List Nat) {α:Type} {t:Bool} {a b:Option α} {y:α} (H:(bif t then a else b)=some y) (kT:a=some y→G X ((s.dr X h).tell (s.dr X h).want true)) (kF:b=some y→G X ((s.dr X h).tell (s.dr X h).want false))
 (hq:(s.dq X h).map (·.1)=(s.dq X h).map (·.2):=by kernel_rfl) (hp:s.dp X h=[]:=by kernel_rfl) (hl:lk (s.dr X h).env (s.dr X h).want=some (.bool t):=by kernel_rfl):G X s:=by
 refine ⟨x0 h ?_ hq hp⟩
 cases t with
 |true=>exact env_ok (lk_same hl) (kT H).get
 |false=>exact env_ok (lk_same hl) (kF H).get
theorem xsd (h:List Nat) (d:Nat) {α:Type} {t:Bool} {a b:Option α} {y:α} (H:(bif t then a else b)=some y) (kT:a=some y→G X ((s.dr X h).tell d true)) (kF:b=some y→G X ((s.dr X h).tell d false))
 (hq:(s.dq X h).map (·.1)=(s.dq X h).map (·.2):=by kernel_rfl) (hp:s.dp X h=[]:=by kernel_rfl) (hl:lk (s.dr X h).env d=some (.bool t):=by kernel_rfl):G X s:=by
 refine ⟨x0 h ?_ hq hp⟩
 cases t with
 |true=>exact env_ok (lk_same hl) (kT H).get
 |false=>exact env_ok (lk_same hl) (kF H).get
theorem xw (h:List Nat) (d:Nat) {v v':Value} (e:v=v') (k:G X ((s.dr X h).setE ((d,v')::(s.dr X h).env)))
 (hq:(s.dq X h).map (·.1)=(s.dq X h).map (·.2):=by kernel_rfl) (hp:s.dp X h=[]:=by kernel_rfl) (hl:lk (s.dr X h).env d=some v:=by kernel_rfl):G X s:=by
 refine ⟨x0 h ?_ hq hp⟩
 subst e
 exact env_ok (lk_same hl) k.get
def XS.trn (s:XS) (i:Nat):XS :=
 match s.pos with
 |.draw os _ D Pp Pl=>⟨.turn os i D Pp Pl,s.stk,s.env,s.own,s.gam⟩
 |_=>s
def XS.trnOk (s:XS) (l:List Nat):Bool :=
 match s.pos with
 |.draw os _ D _ _=>(aloneL os l D && l.all fun i=>!has D i && subL (depsOf os i) D && Nat.blt i os.size) && !l.isEmpty
 |_=>false
def AllG (X:Ctx) (s:XS):List Nat→Prop
 |[]=>True
 |i::r=>G X (s.trn i)∧AllG X s r
theorem AllG.get {X:Ctx} {s:XS}:∀ {l:List Nat} {i:Nat},AllG X s l→i∈l→GP X (s.trn i)
 |[],_,_,h=>by cases h
 |_::_,_,h,hi=>(List.mem_cons.1 hi).elim (fun e=>by subst e; exact h.1.get) fun h2=>AllG.get h.2 h2
theorem xtn (h l:List Nat) (k:AllG X (s.dr X h) l) (hq:(s.dq X h).map (·.1)=(s.dq X h).map (·.2):=by kernel_rfl) (hp:s.dp X h=[]:=by kernel_rfl) (h1:(s.dr X h).trnOk l=true:=by kernel_rfl):G X s:=by
 refine ⟨x0 h ?_ hq hp⟩
 generalize s.dr X h=s at *
 obtain ⟨pos,stk,env,own,gam⟩:=s
 unfold XS.trnOk at h1
 cases pos with
 |draw os i D Pp Pl =>
  simp only [Bool.and_eq_true,List.all_eq_true,Bool.not_eq_true'] at h1
  obtain ⟨⟨h2,h3⟩,h4⟩:=h1
  intro ho
  cases l with
  |nil=>simp at h4
  |cons i0 l =>
   refine draw_turns i0 l h2 fun j hj=>?_
   obtain ⟨⟨h5,h6⟩,h7⟩:=h3 j hj
   refine ⟨fun hm=>?_,subL_spec h6,by simpa using h7,?_⟩
   · rw [has_iff.2 hm] at h5; cases h5
   · exact (k.get hj) ho
 |_=>cases h1
def XS.putQ (s:XS) (v:Value):XS :=
 match s.pos with
 |.ops os k i=>⟨.ops os (k - 1) (i+1),s.stk,putE s.env (dstOf os i) v,s.own,s.gam⟩
 |.draw os i D Pp Pl=>⟨.draw os os.size (i::D) (i::Pp) Pl,s.stk,putE s.env (dstOf os i) v,s.own,s.gam⟩
 |_=>s
def XS.ok4 (n:Fm) (s:XS):Option (List (Value×Value)) :=
 match s.pos with
 |.ops os k i =>
  match Nat.blt 0 k && fine n os s.env i (dstOf os i),gval os s.env i with
  |true,some g=>some [(.bool g,.bool true)]
  |_,_=>none
 |.draw os i D Pp Pl =>
  match fine n os s.env i (dstOf os i) && readOk os i (dstOf os i) D Pp (fsts Pl),gval os s.env i with
  |true,some g=>some [(.bool g,.bool true)]
  |_,_=>none
 |_=>none
theorem quiet_ok {v:Value} (h1:oks (s.ok4 X.n)=okr (s.ok4 X.n)) (st:∀ Γ,StepTo X.P X.W0 Γ s.env s.op.op s.op.type (Is v Γ)) (k:GP X (s.putQ v)):GP X s:=by
 obtain ⟨q,hq,hq2⟩:=oks_ok h1
 obtain ⟨pos,stk,env,own0,gam0⟩:=s
 unfold XS.ok4 at hq
 cases pos with
 |ops os k' i =>
  simp only at hq
  split at hq
  · rename_i g hc hg
    obtain rfl:=Option.some.inj hq
    have e1:=(Alike.cons hq2).1
    simp only [Value.bool.injEq] at e1
    subst e1
    simp only [Bool.and_eq_true] at hc
    obtain ⟨hk,hf⟩:=hc
    have hk':0<k':=by simpa using hk
    obtain ⟨k2,rfl⟩:∃ k2,k'=k2+1:=⟨k' - 1,by omega⟩
    obtain ⟨h1,h2',h3,h4⟩:=fine_key hf
    exact ops_is h1 (gval_is hg) h2' h3 h4 (st _) k
  · cases hq
 |draw os i D Pp Pl =>
  simp only at hq
  split at hq
  · rename_i g hc hg
    obtain rfl:=Option.some.inj hq
    have e1:=(Alike.cons hq2).1
    simp only [Value.bool.injEq] at e1
    subst e1
    simp only [Bool.and_eq_true] at hc
    obtain ⟨hf,hok⟩:=hc
    obtain ⟨h1,h2',h3,h4⟩:=fine_key hf
    exact fun ho=>draw_quiet v h1 (gval_is hg) h2' h3 h4 hok st (k (ho.put (read_fresh hok)))
  · cases hq
 |_=>cases hq
theorem xq (h:List Nat) {f:FuncId} {args:List Value} {v:Value} (hc:Fq X.P f args v) (k:G X ((s.dr X h).putQ v))
 (hq:(s.dq X h).map (·.1)=(s.dq X h).map (·.2):=by kernel_rfl) (hp:s.dp X h=[]:=by kernel_rfl) (he:semEnter X.P (s.dr X h).sem=some (f,args.toArray):=by kernel_rfl)
 (h1:oks ((s.dr X h).ok4 X.n)=okr ((s.dr X h).ok4 X.n):=by kernel_rfl):G X s:=by
 refine ⟨x0 h ?_ hq hp⟩
 exact quiet_ok h1 (fun Γ=>StepTo.call (fun w=>semEnter_ok he) (hc X.W0 Γ)) k.get
theorem xv (h:List Nat) {v:Value} (hv:∀ w,(s.dr X h).sem.run X.P w=.ok (.value v) w) (k:G X ((s.dr X h).putQ v))
 (hq:(s.dq X h).map (·.1)=(s.dq X h).map (·.2):=by kernel_rfl) (hp:s.dp X h=[]:=by kernel_rfl) (h1:oks ((s.dr X h).ok4 X.n)=okr ((s.dr X h).ok4 X.n):=by kernel_rfl):G X s:=by
 refine ⟨x0 h ?_ hq hp⟩
 exact quiet_ok h1 (fun Γ=>StepTo.pure hv) k.get
def Ov (P:Program) (sem:Sem Next) (v:Value):Prop:=∀ w,sem.run P w=.ok (.value v) w
theorem xp (h:List Nat) {sem:Sem Next} {v:Value} (hc:Ov X.P sem v) (k:G X ((s.dr X h).putQ v)) (hq:(s.dq X h).map (·.1)=(s.dq X h).map (·.2):=by kernel_rfl) (hp:s.dp X h=[]:=by kernel_rfl)
 (he:(s.dr X h).sem=sem:=by kernel_rfl) (h1:oks ((s.dr X h).ok4 X.n)=okr ((s.dr X h).ok4 X.n):=by kernel_rfl):G X s:=by
 subst he
 exact xv h hc k hq hp h1
def Ol (P:Program) (sem:Sem Next) (A:Asn) (v:Value):Prop:=∀ (W0:World) (Γ:List Asn) (w:World),Sat W0 (A::Γ) w→sem.run P w=.ok (.value v) w
theorem ol_new {P:Program} {n:Fm} {W0:World} {ops:Array Oper} {D Pp Pl:List Nat} {e:Env} {A:Asn} {i:Nat} {dst:Option Tmp} {op:Op} {ty:TypeId} {g:Option (Nat×Bool)} {v:Value} (hk:key ops i=some (dst,op,ty,g)) (hg:GuardIs ops e g true) (hs:notSel op=true)
 (hn:op.operands.toList.all (knows e)=true) (hd:below n dst=true) (hok:readOk ops i dst D Pp Pl=true) (hrun:∀ Γ w,Sat W0 (A::Γ) w→(execOp (ev e) (bare op ty)).run P w=.ok (.value v) w) (Γ:List Asn):Stable P n W0 ops (putE e dst v) (A::Γ) i:=by
 simp only [readOk,Bool.and_eq_true] at hok
 obtain ⟨⟨⟨⟨q1,q2⟩,q3⟩,q4⟩,q5⟩:=hok
 obtain ⟨o,ho,rfl,rfl,rfl,rfl⟩:=key_some hk
 have hself:∀ d,o.dst=some d→d∉o.looksAt ops:=fun d e1 hm=>by
  simp only [e1,looksOf,ho] at q5
  rw [has_iff.2 hm] at q5; cases q5
 exact ⟨o,v,true,ho,hs,all_put hn hself,hg.put hself,hd,fun d e1=>by simp only [putE,e1,lk_cons,if_true],fun _ w hw=>by rw [exec_put hs hself]; exact hrun Γ w hw,fun h=>by cases h⟩
theorem ol_cons {P:Program} {n:Fm} {W0:World} {os:Array Oper} {e:Env} {gam:List Asn} {i j:Nat} {Pl:List (Nat×Nat)} (hj:∀ Γ,Stable P n W0 os e (nthA gam j::Γ) i) (h:OlAll P n W0 os e gam Pl):OlAll P n W0 os e gam ((i,64+j)::Pl):=by
 intro x hx hb Γ
 rcases List.mem_cons.1 hx with rfl | hx
 · rw [show 64+j - 64=j by omega]; exact hj Γ
 · exact h x hx hb Γ
def XS.putL (s:XS) (v:Value) (ia:Nat):XS :=
 match s.pos with
 |.ops os k i=>⟨.ops os (k - 1) (i+1),s.stk,putE s.env (dstOf os i) v,s.own,s.gam⟩
 |.draw os i D Pp Pl=>⟨.draw os os.size (i::D) Pp ((i,64+ia)::Pl),s.stk,putE s.env (dstOf os i) v,s.own,s.gam⟩
 |_=>s
theorem xpl (h:List Nat) (ia:Nat) {sem:Sem Next} {A:Asn} {v:Value} (hc:Ol X.P sem A v) (k:G X ((s.dr X h).putL v ia)) (hq:(s.dq X h).map (·.1)=(s.dq X h).map (·.2):=by kernel_rfl) (hp:s.dp X h=[]:=by kernel_rfl)
 (he:∀ w,(s.dr X h).sem.run X.P w=sem.run X.P w:=by intro _; kernel_rfl) (hn:pkA [ia] (s.dr X h).gam=[A]:=by kernel_rfl) (h1:oks ((s.dr X h).ok4 X.n)=okr ((s.dr X h).ok4 X.n):=by kernel_rfl):G X s:=by
 refine ⟨x0 h ?_ hq hp⟩
 generalize s.dr X h=s at *
 have hA:nthA s.gam ia=A:=by
  have h5:[nthA s.gam ia]=[A]:=hn
  injection h5
 have hrun2:∀ (Γ:List Asn) (w:World),Sat X.W0 (A::Γ) w→s.sem.run X.P w=.ok (.value v) w:=fun Γ w hw=>by rw [he]; exact hc X.W0 Γ w hw
 have hrun:∀ w,Sat X.W0 (s.all X.F) w→s.sem.run X.P w=.ok (.value v) w:=fun w hw=>by
  have h2:=sat_take [] [ia] hw
  rw [hn] at h2
  rw [he]
  exact hc X.W0 _ w h2
 obtain ⟨q,hq,hq2⟩:=oks_ok h1
 have k:=k.get
 obtain ⟨pos,stk,env,own0,gam0⟩:=s
 unfold XS.ok4 at hq
 cases pos with
 |ops os k' i =>
  simp only at hq
  split at hq
  · rename_i g hc hg
    obtain rfl:=Option.some.inj hq
    have e1:=(Alike.cons hq2).1
    simp only [Value.bool.injEq] at e1
    subst e1
    simp only [Bool.and_eq_true] at hc
    obtain ⟨hk,hf⟩:=hc
    have hk':0<k':=by simpa using hk
    obtain ⟨k2,rfl⟩:∃ k2,k'=k2+1:=⟨k' - 1,by omega⟩
    obtain ⟨h1,h2',h3,h4⟩:=fine_key hf
    exact ops_val h1 (gval_is hg) h2' h3 h4 (fun w hw=>⟨w,hrun w hw,hw⟩) k
  · cases hq
 |draw os i D Pp Pl =>
  simp only at hq
  split at hq
  · rename_i g hc hg
    obtain rfl:=Option.some.inj hq
    have e1:=(Alike.cons hq2).1
    simp only [Value.bool.injEq] at e1
    subst e1
    simp only [Bool.and_eq_true] at hc
    obtain ⟨hf,hok⟩:=hc
    obtain ⟨h1,h2',h3,h4⟩:=fine_key hf
    intro ho
    refine draw_load v h1 (gval_is hg) h2' h3 h4 hok hrun (k (ol_cons (fun Γ=>?_) (ho.put (read_fresh hok))))
    have hA':nthA gam0 ia=A:=hA
    show Stable X.P X.n X.W0 os (putE env (dstOf os i) v) (nthA gam0 ia::Γ) i
    rw [hA']
    exact ol_new h1 (gval_is hg) h2' h3 h4 hok (fun Γ w hw=>hrun2 Γ w hw) Γ
  · cases hq
 |_=>cases hq
structure IV where
 env:Env
 own:List OB
 gam:List Asn
def slots (e:Env):List Nat:=e.map (·.1)
def looks (e:Env) (l:List Nat):List Value:=l.map fun t=>(lk e t).getD undef
def vals (e:Env):List Value:=e.map (·.2)
theorem sub_of {e:Env}:∀ {e':Env},looks e (slots e')=vals e'→(slots e').all (fun t=>(lk e t).isSome)=true→Env.Sub e e'
 |[],_,_=>trivial
 |(t,v)::r,h,hk=>by
  simp only [looks,slots,vals,List.map_cons,List.cons.injEq] at h
  simp only [slots,List.map_cons,List.all_cons,Bool.and_eq_true] at hk
  refine ⟨?_,sub_of h.2 hk.2⟩
  cases hl:lk e t with
  |none=>simp [hl] at hk
  |some u=>simp [hl] at h; rw [h.1]
def Meets (X:Ctx) (v:IV) (a:Act) (w:World):Prop:=EnvOk X.n v.env a∧Sat X.W0 (owns v.own++(v.gam++X.F)) w
theorem meets_of {v:IV} {io ia:List Nat} {a:Act} {w:World} (he:looks s.env (slots v.env)=vals v.env) (hk:(slots v.env).all (fun t=>(lk s.env t).isSome)=true) (hpo:pkO io s.own=v.own) (hpa:pkA ia s.gam=v.gam)
 (ha:EnvOk X.n s.env a) (hw:Sat X.W0 (s.all X.F) w):Meets X v a w:=by
 refine ⟨ha.sub (sub_of he hk),?_⟩
 have h1:=sat_take io ia hw
 rw [hpo,hpa] at h1
 -- what is left over is let go
 refine h1.imp fun S I hs=>?_
 have h2:Star (owns v.own++(v.gam++(owns (rsO io s.own)++(rsA ia s.gam++X.F)))) S I (fun b=>w.heap[b]?):=hs
 have h3:Star ((owns v.own++v.gam)++(owns (rsO io s.own)++(rsA ia s.gam++X.F))) S I (fun b=>w.heap[b]?):=by simpa using h2
 obtain ⟨S1,S2,q1,q2,q3,q4,q5⟩:=h3.append_of
 have h4:Star ((owns (rsO io s.own)++rsA ia s.gam)++X.F) S2 I (fun b=>w.heap[b]?):=by simpa using q5
 obtain ⟨T1,T2,k1,k2,k3,k4,k5⟩:=h4.append_of
 have:=Star.append (S1:=S1) (S2:=T2) q1 (fun b hb=>q2 b (k2 b hb)) (fun b hs ht=>q3 b hs (k2 b ht)) q4 k5
 simpa using this
theorem xl (h:List Nat) {ι:Type} (v:ι→IV) (R:Nat→ι→Prop) (io ia:List Nat) (m:Nat) (i:ι) (hR:R m i)
 (k:∀ (N:Act→World→Prop) (m:Nat) (i:ι),R m i→(∀ m' i',m'<m→R m' i'→∀ a w,Meets X (v i') a w→N a w) →
  G X ⟨.code (subCode (match (s.dr X h).pos with | .code c=>c | _=>.skip) 0),.rnd N::(s.dr X h).stk,(v i).env,(v i).own,(v i).gam⟩)
 (hq:(s.dq X h).map (·.1)=(s.dq X h).map (·.2):=by kernel_rfl) (hp:s.dp X h=[]:=by kernel_rfl)
 (hc:(s.dr X h).pos=.code (.loop (subCode (match (s.dr X h).pos with | .code c=>c | _=>.skip) 0)):=by kernel_rfl)
 (he:looks (s.dr X h).env (slots (v i).env)=vals (v i).env:=by kernel_rfl) (hk:(slots (v i).env).all (fun t=>(lk (s.dr X h).env t).isSome)=true:=by kernel_rfl)
 (hpo:pkO io (s.dr X h).own=(v i).own:=by kernel_rfl) (hpa:pkA ia (s.dr X h).gam=(v i).gam:=by kernel_rfl):G X s:=by
 refine ⟨x0 h ?_ hq hp⟩
 generalize s.dr X h=s at *
 generalize hx:subCode (match s.pos with | .code c=>c | _=>.skip) 0=x at *
 unfold GP
 rw [hc]
 simp only
 intro a w ha hw
 have hm:=meets_of he hk hpo hpa ha hw
 refine wpF_loop_ghost (fun m a w=>∃ i,R m i∧Meets X (v i) a w) m ⟨i,hR,hm⟩ ?_
 rintro m a w ⟨i,hRi,hmi⟩
 exact (k (fun a w=>∃ m',m'<m∧∃ i,R m' i∧Meets X (v i) a w) m i hRi (fun m' i' hlt hR' a w hM=>⟨m',hlt,i',hR',hM⟩)).get a w hmi.1 hmi.2
theorem xe (h:List Nat) {N:Act→World→Prop} (v:IV) (io ia:List Nat) (hN:∀ a w,Meets X v a w→N a w)
 (hq:(s.dq X h).map (·.1)=(s.dq X h).map (·.2):=by kernel_rfl) (hp:s.dp X h=[]:=by kernel_rfl) (hc:(s.dr X h).pos=.ex .normal:=by kernel_rfl) (hs:(s.dr X h).stk=.rnd N::(s.dr X h).stk.tail:=by kernel_rfl)
 (he:looks (s.dr X h).env (slots v.env)=vals v.env:=by kernel_rfl) (hk:(slots v.env).all (fun t=>(lk (s.dr X h).env t).isSome)=true:=by kernel_rfl)
 (hpo:pkO io (s.dr X h).own=v.own:=by kernel_rfl) (hpa:pkA ia (s.dr X h).gam=v.gam:=by kernel_rfl):G X s:=by
 refine ⟨x0 h ?_ hq hp⟩
 generalize s.dr X h=s at *
 unfold GP
 rw [hc,hs]
 exact fun a w ha hw=>hN a w (meets_of he hk hpo hpa ha hw)
theorem xj (h:List Nat) {ι:Type} (v:ι→IV) (R:ι→Prop)
 (k2:∀ i,R i→G X ⟨.code (subCode (match (s.dr X h).pos with | .code c=>c | _=>.skip) 1),(s.dr X h).stk,(v i).env,(v i).own,(v i).gam⟩)
 (k:∀ (N:Act→World→Prop),(∀ i,R i→∀ a w,Meets X (v i) a w→N a w) →
  G X ⟨.code (subCode (match (s.dr X h).pos with | .code c=>c | _=>.skip) 0),.rnd N::(s.dr X h).stk,(s.dr X h).env,(s.dr X h).own,(s.dr X h).gam⟩)
 (hq:(s.dq X h).map (·.1)=(s.dq X h).map (·.2):=by kernel_rfl) (hp:s.dp X h=[]:=by kernel_rfl)
 (hc:(s.dr X h).pos=.code (.seq (subCode (match (s.dr X h).pos with | .code c=>c | _=>.skip) 0) (subCode (match (s.dr X h).pos with | .code c=>c | _=>.skip) 1)):=by kernel_rfl):G X s:=by
 refine ⟨x0 h ?_ hq hp⟩
 generalize s.dr X h=s at *
 generalize hx:subCode (match s.pos with | .code c=>c | _=>.skip) 0=x at *
 generalize hy:subCode (match s.pos with | .code c=>c | _=>.skip) 1=y at *
 unfold GP
 rw [hc]
 simp only
 intro a w ha hw
 refine wpIn_seq (wpIn_mono ((k (fun a w=>∃ i,R i∧Meets X (v i) a w) (fun i hi a w hM=>⟨i,hi,hM⟩)).get a w ha hw) ?_)
 intro ex a' w' hq
 cases ex with
 |normal=>obtain ⟨i,hi,hM⟩:=hq; exact (k2 i hi).get a' w' hM.1 hM.2
 |_=>exact hq
end
def ctx (P:Program) (fn:Func) (n:Fm) (W0:World) (F:List Asn) {Z:Type} (rv:Z→Value) (post:Z→Rs):Ctx :=
 ⟨P,n,W0,F,bodyPost P fn (Back W0 fun r Δ=>∃ z,r=rv z∧Δ=(post z).all F)⟩
theorem xf {P:Program} {f:FuncId} {args:List Value} {pre:Rs} {Z:Type} {rv:Z→Value} {post:Z→Rs} {fn:Func} (hf:P.funcs[f]?=some fn) (k:∀ W0 F,G (ctx P fn ⟨Nat.max args.length fn.ntmps,[],none⟩ W0 F rv post) ⟨.code (bodyOf fn),[],argEnv 0 args,pre.own,pre.gam⟩)
 (hb:fn.body=some (bodyOf fn):=by kernel_rfl):Fn P f args pre rv post:=by
 intro W0 Γ
 exact Tr.enter (Nat.max args.length fn.ntmps) hf hb rfl (k W0 Γ).get
def resOf (P:Program) (s:XS):List ResultVar→List Nat→Option (List Value×List (Value×Value))
 |[],_=>some ([],[])
 |.tmp t::rs,h =>
  match lk s.env t,resOf P s rs h with
  |some v,some (vs,q)=>some (v::vs,q)
  |_,_=>none
 |.cell a t::rs,h =>
  match h with
  |[]=>none
  |j::h =>
   match lk s.env a with
   |some (.pointer (some p)) =>
    match semLd P s.own j (loadVar t p),resOf P s rs h with
    |some ⟨v,q1⟩,some (vs,q)=>some (v::vs,q1++q)
    |_,_=>none
   |_=>none
theorem resOf_ok {P:Program} {W0:World} {s:XS} {F:List Asn}:∀ {rs:List ResultVar} {h:List Nat} {vs:List Value} {q:List (Value×Value)},resOf P s rs h=some (vs,q)→Alike q→ResVs P W0 s.env (s.all F) rs vs
 |[],_,_,_,h,_=>by
  simp only [resOf,Option.some.injEq,Prod.mk.injEq] at h
  obtain ⟨rfl,-⟩:=h
  exact .nil
 |.tmp t::rs,_,_,_,h,hq=>by
  unfold resOf at h
  split at h
  · rename_i v vs q h1 h2
    simp only [Option.some.injEq,Prod.mk.injEq] at h
    obtain ⟨rfl,rfl⟩:=h
    exact .cons (.tmp h1) (resOf_ok h2 hq)
  · cases h
 |.cell a t::rs,h',_,_,h,hq=>by
  unfold resOf at h
  split at h
  · cases h
  · split at h
    · rename_i p hp
      split at h
      · rename_i v q1 vs q h1 h2
        simp only [Option.some.injEq,Prod.mk.injEq] at h
        obtain ⟨rfl,rfl⟩:=h
        obtain ⟨hq1,hq2⟩:=Alike.app hq
        exact .cons (.cell hp fun w hw=>semLd_ok hw h1 hq1) (resOf_ok h2 hq2)
      · cases h
    · cases h
def isEnd (s:XS):Bool :=
 match s.pos,s.stk with
 |.ex .ret,[]=>true
 |.ex .normal,[]=>true
 |_,_=>false
def resV (o:Option (List Value×List (Value×Value))):Value :=
 match o with
 |some (vs,_)=>packed vs
 |none=>.tuple #[undef,undef,undef,undef,undef,undef,undef,undef,undef]
def resQ (o:Option (List Value×List (Value×Value))):Option (List (Value×Value)):=o.map (·.2)
theorem xr {P:Program} {fn:Func} {n:Fm} {W0:World} {F:List Asn} {Z:Type} {rv:Z→Value} {post:Z→Rs} {s:XS} (h hr io ia:List Nat) (z:Z)
 (hq:(s.dq (ctx P fn n W0 F rv post) h).map (·.1)=(s.dq (ctx P fn n W0 F rv post) h).map (·.2):=by kernel_rfl) (hp:s.dp (ctx P fn n W0 F rv post) h=[]:=by kernel_rfl)
 (he:isEnd (s.dr (ctx P fn n W0 F rv post) h)=true:=by kernel_rfl) (hrq:oks (resQ (resOf P (s.dr (ctx P fn n W0 F rv post) h) fn.results.toList hr))=okr (resQ (resOf P (s.dr (ctx P fn n W0 F rv post) h) fn.results.toList hr)):=by kernel_rfl)
 (hrv:resV (resOf P (s.dr (ctx P fn n W0 F rv post) h) fn.results.toList hr)=rv z:=by kernel_rfl) (hpo:pkO io (s.dr (ctx P fn n W0 F rv post) h).own=(post z).own:=by kernel_rfl) (hpa:pkA ia (s.dr (ctx P fn n W0 F rv post) h).gam=(post z).gam:=by kernel_rfl) (hds:n.ds=[]:=by kernel_rfl) :
 G (ctx P fn n W0 F rv post) s:=by
 refine ⟨x0 h ?_ hq hp⟩
 generalize s.dr (ctx P fn n W0 F rv post) h=s at *
 obtain ⟨q,hq2,hq3⟩:=oks_ok hrq
 cases ho:resOf P s fn.results.toList hr with
 |none=>rw [ho] at hq2; cases hq2
 |some x =>
  obtain ⟨vs,q'⟩:=x
  rw [ho] at hq2 hrv
  obtain rfl:=Option.some.inj hq2
  have hres:=resOf_ok (W0:=W0) (F:=F) ho hq3
  have hgo:∀ w,Sat W0 (s.all F) w→Sat W0 ((post z).all F) w:=fun w hw=>by
   have h1:=sat_take io ia hw
   rw [hpo,hpa] at h1
   refine h1.imp fun S I hs=>?_
   have h2:Star (owns (post z).own++((post z).gam++(owns (rsO io s.own)++(rsA ia s.gam++F)))) S I (fun b=>w.heap[b]?):=hs
   have h3:Star ((owns (post z).own++(post z).gam)++(owns (rsO io s.own)++(rsA ia s.gam++F))) S I (fun b=>w.heap[b]?):=by simpa using h2
   obtain ⟨S1,S2,q1,q2,q3,q4,q5⟩:=h3.append_of
   have h4:Star ((owns (rsO io s.own)++rsA ia s.gam)++F) S2 I (fun b=>w.heap[b]?):=by simpa using q5
   obtain ⟨T1,T2,k1,k2,k3,k4,k5⟩:=h4.append_of
   have:=Star.append (S1:=S1) (S2:=T2) q1 (fun b hb=>q2 b (k2 b hb)) (fun b hs ht=>q3 b hs (k2 b ht)) q4 k5
   simpa [Rs.all] using this
  have hR:∃ z',packed vs=rv z'∧(post z).all F=(post z').all F:=⟨z,hrv,rfl⟩
  unfold GP
  unfold isEnd at he
  split at he
  · rename_i h1 h2
    rw [h1,h2]
    exact at_back hds vs _ hres hgo hR
  · rename_i h1 h2
    rw [h1,h2]
    exact at_back_end hds vs _ hres hgo hR
  · cases he
def FnY (P:Program) (f:FuncId) (args:List Value) (pre:Rs) {Y Z:Type} (rv:Y→Z→Value) (post:Y→Z→Rs) (y:Y):Prop:=Fn P f args pre (rv y) (post y)
def ctxY (P:Program) (fn:Func) (n:Fm) (W0:World) (F:List Asn) {Y Z:Type} (rv:Y→Z→Value) (post:Y→Z→Rs) (y:Y):Ctx:=ctx P fn n W0 F (rv y) (post y)
theorem xfY {P:Program} {f:FuncId} {args:List Value} {pre:Rs} {Y Z:Type} {rv:Y→Z→Value} {post:Y→Z→Rs} {y:Y} {fn:Func} (hf:P.funcs[f]?=some fn) (k:∀ W0 F,G (ctxY P fn ⟨Nat.max args.length fn.ntmps,[],none⟩ W0 F rv post y) ⟨.code (bodyOf fn),[],argEnv 0 args,pre.own,pre.gam⟩)
 (hb:fn.body=some (bodyOf fn):=by kernel_rfl):FnY P f args pre rv post y:=xf hf k hb
theorem xrY {P:Program} {fn:Func} {n:Fm} {W0:World} {F:List Asn} {Y Z:Type} {y y':Y} (e:y'=y) {rv:Y→Z→Value} {post:Y→Z→Rs} {s:XS} (h hr io ia:List Nat) (z:Z)
 (hq:(s.dq (ctxY P fn n W0 F rv post y) h).map (·.1)=(s.dq (ctxY P fn n W0 F rv post y) h).map (·.2):=by kernel_rfl) (hp:s.dp (ctxY P fn n W0 F rv post y) h=[]:=by kernel_rfl)
 (he:isEnd (s.dr (ctxY P fn n W0 F rv post y) h)=true:=by kernel_rfl) (hrq:oks (resQ (resOf P (s.dr (ctxY P fn n W0 F rv post y) h) fn.results.toList hr))=okr (resQ (resOf P (s.dr (ctxY P fn n W0 F rv post y) h) fn.results.toList hr)):=by kernel_rfl)
 (hrv:resV (resOf P (s.dr (ctxY P fn n W0 F rv post y) h) fn.results.toList hr)=rv y' z:=by kernel_rfl) (hpo:pkO io (s.dr (ctxY P fn n W0 F rv post y) h).own=(post y' z).own:=by kernel_rfl) (hpa:pkA ia (s.dr (ctxY P fn n W0 F rv post y) h).gam=(post y' z).gam:=by kernel_rfl) (hds:n.ds=[]:=by kernel_rfl) :
 G (ctxY P fn n W0 F rv post y) s:=by
 subst e
 exact xr h hr io ia z hq hp he hrq hrv hpo hpa hds
theorem Fn.quiet {P:Program} {f:FuncId} {args:List Value} {v:Value} (h:Fn P f args ⟨[],[]⟩ (fun _:Unit=>v) (fun _=>⟨[],[]⟩)):Fq P f args v:=fun W0 Γ=>(h W0 Γ).mono fun _ _ ⟨_,h1,h2⟩=>⟨h1,h2⟩
end
section
open Go Go.RowKit
class Rw (α:Type) where
 X:Type
 k:Nat
 cells:α→X→List Value
 asn:α→X→Asn
 d:α
 len:∀ a x,(cells a x).length=k
 one:∀ a x,(cells a x).all oneCell=true
 dup:∀ a x S I h,(asn a x).holds S I h→(asn a x).holds (fun _=>False) I h
variable {α:Type} [Rw α]
def rowsOf (l:List α) (xs:List (Rw.X α)):List (List Value):=List.zipWith Rw.cells l xs
def Knows (I:Nat→Prop) (h:Nat→Option Obj) (l:List α) (xs:List (Rw.X α)):Prop:=∀ (i:Nat) (a:α) (x:Rw.X α),l[i]?=some a→xs[i]?=some x→(Rw.asn a x).holds (fun _=>False) I h
theorem Knows.loc {S I:Nat→Prop} {h h':Nat→Option Obj} {l:List α} {xs:List (Rw.X α)} (q:Knows I h l xs) (he:∀ b,S b∨I b→h' b=h b):Knows I h' l xs:=fun i a x h1 h2=>(Rw.asn a x).loc (q i a x h1 h2) fun b hb=>he b (hb.elim (fun f=>f.elim) .inr)
theorem Knows.mono {I I':Nat→Prop} {h:Nat→Option Obj} {l:List α} {xs:List (Rw.X α)} (q:Knows I h l xs) (hi:∀ b,I b→I' b):Knows I' h l xs:=fun i a x h1 h2=>(Rw.asn a x).mono (q i a x h1 h2) hi
def ArrA (a:Option Addr) (cap:Nat) (l:List α):Asn where
 holds S I h:=∃ xs:List (Rw.X α),xs.length=l.length∧(RowsA (Rw.k α) a cap (rowsOf l xs)).holds S I h∧Knows I h l xs
 loc:=fun ⟨xs,h1,h2,h3⟩ he=>⟨xs,h1,(RowsA _ _ _ _).loc h2 he,h3.loc he⟩
 mono:=fun ⟨xs,h1,h2,h3⟩ hi=>⟨xs,h1,(RowsA _ _ _ _).mono h2 hi,h3.mono hi⟩
def ImmA (a:Option Addr) (cap:Nat) (l:List α):Asn where
 holds S I h:=l.length≤cap∧∃ xs:List (Rw.X α),xs.length=l.length∧(ImmR (Rw.k α) a (rowsOf l xs)).holds S I h∧Knows I h l xs
 loc:=fun ⟨h0,xs,h1,h2,h3⟩ he=>⟨h0,xs,h1,(ImmR _ _ _).loc h2 he,h3.loc he⟩
 mono:=fun ⟨h0,xs,h1,h2,h3⟩ hi=>⟨h0,xs,h1,(ImmR _ _ _).mono h2 hi,h3.mono hi⟩
theorem rowsOf_len {l:List α} {xs:List (Rw.X α)} (h:xs.length=l.length):(rowsOf l xs).length=l.length:=by simp [rowsOf,h]
def LieA (a:Option Addr) (l:List α) (xs:List (Rw.X α)):Asn where
 holds S I h:=(∀ r∈rowsOf l xs,r.length=Rw.k α)∧(rowsOf l xs=[]∨∃ (b off:Nat) (c:Array Value) (T:TypeId) (fr:Nat×Nat),a=some ⟨b,off,none⟩∧(S b∨I b)∧h b=some (.cells c T fr)∧LiesAt c off (rowsOf l xs).flatten)∧Knows I h l xs
 loc:=fun ⟨h1,h2,h3⟩ he=>⟨h1,h2.imp id fun ⟨b,off,c,T,fr,e1,e2,e3,e4⟩=>⟨b,off,c,T,fr,e1,e2,(he b e2).trans e3,e4⟩,h3.loc he⟩
 mono:=fun ⟨h1,h2,h3⟩ hi=>⟨h1,h2.imp id fun ⟨b,off,c,T,fr,e1,e2,e3,e4⟩=>⟨b,off,c,T,fr,e1,e2.imp id (hi b),e3,e4⟩,h3.mono hi⟩
def Asn.and (A B:Asn):Asn where
 holds S I h:=A.holds S I h∧B.holds S I h
 loc:=fun ⟨h1,h2⟩ he=>⟨A.loc h1 he,B.loc h2 he⟩
 mono:=fun ⟨h1,h2⟩ hi=>⟨A.mono h1 hi,B.mono h2 hi⟩
structure Rdb (A:Asn) (a:Option Addr) (cap:Nat) (l:List α):Prop where
 rd:∀ S I h,A.holds S I h→l.length≤cap∧∃ xs:List (Rw.X α),xs.length=l.length∧(LieA a l xs).holds S I h
theorem rA (a:Option Addr) (cap:Nat) (l:List α):Rdb (ArrA a cap l) a cap l where
 rd:=fun _ _ _ ⟨xs,h1,⟨q1,q2⟩,h3⟩=>⟨by rw [← rowsOf_len h1]; rcases q2 with ⟨e,_⟩ | ⟨_,_,_,_,_,_,_,e,_⟩; (· rw [e]; simp); exact e,xs,h1,q1,q2.elim (fun ⟨e,_⟩=>.inl e) fun ⟨b,off,c,T,e1,e2,e3,_,_,e6⟩=>.inr ⟨b,off,c,T,_,e1,.inl e2,e3,e6⟩,h3⟩
theorem rI (a:Option Addr) (cap:Nat) (l:List α):Rdb (ImmA a cap l) a cap l where
 rd:=fun _ _ _ ⟨h0,xs,h1,⟨q1,q2⟩,h3⟩=>⟨h0,xs,h1,q1,q2.elim .inl fun ⟨b,off,c,T,fr,e1,e2,e3,e6⟩=>.inr ⟨b,off,c,T,fr,e1,.inr e2,e3,e6⟩,h3⟩
theorem Sat.read {W0 w:World} {Γ:List Asn} {A:Asn} {a:Option Addr} {cap:Nat} {l:List α} (hA:Rdb A a cap l) (hw:Sat W0 (A::Γ) w):∃ xs:List (Rw.X α),xs.length=l.length∧Sat W0 (A.and (LieA a l xs)::Γ) w:=by
 obtain ⟨S,I,⟨S1,S2,h1,h2,h3,h4,h5⟩,r⟩:=hw
 obtain ⟨_,xs,q1,q2⟩:=hA.rd S1 I _ h4
 exact ⟨xs,q1,S,I,⟨S1,S2,h1,h2,h3,⟨h4,q2⟩,h5⟩,r⟩
theorem Sat.unread {W0 w:World} {Γ:List Asn} {A B:Asn} (hw:Sat W0 (A.and B::Γ) w):Sat W0 (A::Γ) w:=Sat.head_imp (A:=A.and B) (B:=A) (fun _ _ _ h=>h.1) hw
theorem rowsOf_get {l:List α} {xs:List (Rw.X α)} {i:Nat} {a:α} {x:Rw.X α} (h1:l[i]?=some a) (h2:xs[i]?=some x):(rowsOf l xs)[i]?=some (Rw.cells a x):=by
 simp [rowsOf,List.getElem?_zipWith,h1,h2]
theorem getX {l:List α} {xs:List (Rw.X α)} (h:xs.length=l.length) {i:Nat} {a:α} (h1:l[i]?=some a):∃ x,xs[i]?=some x:=by
 have:i<l.length:=by
  rcases Nat.lt_or_ge i l.length with q | q
  · exact q
  · rw [List.getElem?_eq_none q] at h1; cases h1
 exact ⟨xs[i]'(by omega),List.getElem?_eq_getElem _⟩
theorem rowsOf_k {l:List α} {xs:List (Rw.X α)}:∀ r∈rowsOf l xs,r.length=Rw.k α:=by
 intro r hr
 obtain ⟨i,hi⟩:=List.mem_iff_getElem?.1 hr
 simp only [rowsOf,List.getElem?_zipWith] at hi
 split at hi
 · obtain rfl:=Option.some.inj hi; exact Rw.len _ _
 · cases hi
theorem rowsOf_one {l:List α} {xs:List (Rw.X α)}:(rowsOf l xs).flatten.all oneCell=true:=by
 rw [List.all_eq_true]
 intro v hv
 obtain ⟨r,hr,hv⟩:=List.mem_flatten.1 hv
 obtain ⟨i,hi⟩:=List.mem_iff_getElem?.1 hr
 simp only [rowsOf,List.getElem?_zipWith] at hi
 split at hi
 · rename_i a x _ _
   obtain rfl:=Option.some.inj hi
   have:=Rw.one a x
   rw [List.all_eq_true] at this
   exact this v hv
 · cases hi
def nthT (l:List α) (i:Int):α:=l.getD i.toNat (Rw.d)
theorem nthT_get {l:List α} {i:Int} (h:0≤i∧i<(l.length:Int)):l[i.toNat]?=some (nthT l i):=by
 have:i.toNat<l.length:=by omega
 simp [nthT,this]
section get
variable {P:Program} {A:Asn} {a:Option Addr} {cap:Nat} {l:List α} {i:Int} {b off:Nat} {e:α}
theorem Rdb.row {W0 w:World} {Γ:List Asn} (hA:Rdb A a cap l) (hb:0≤i∧i<(l.length:Int)) (he:nthT l i=e) (hw:Sat W0 (A::Γ) w) :
 ∃ (x:Rw.X α) (b off:Nat),a=some ⟨b,off,none⟩∧(∀ j v,(Rw.cells e x)[j]?=some v→w.cell? ⟨b,off+(i.toNat*Rw.k α+j),none⟩=some v)∧Sat W0 (Rw.asn e x::A::Γ) w:=by
 have hw0:=hw
 obtain ⟨S,I,⟨S1,S2,h1,h2,h3,h4,h5⟩,r⟩:=hw0
 obtain ⟨_,xs,q1,q2,q3,q4⟩:=hA.rd S1 I _ h4
 have hg:=nthT_get hb
 rw [he] at hg
 obtain ⟨x,hx⟩:=getX q1 hg
 have hrow:=rowsOf_get hg hx
 rcases q3 with q3 | ⟨b,off,c,T,fr,e1,_,e2,e3⟩
 · rw [q3] at hrow; simp at hrow
 · refine ⟨x,b,off,e1,fun j v hv=>?_,S,I,⟨fun _=>False,S,fun _ h=>h.elim,fun _ h=>h,fun _ h _=>h,q4 _ _ _ hg hx,S1,S2,h1,h2,h3,h4,h5⟩,r⟩
   rw [cell_of e2]
   exact e3 _ v (flatten_get q2 hrow hv)
theorem oc_ld (hA:Rdb A a cap l) (ha:a=some ⟨b,off,none⟩) (hb:0≤i∧i<(l.length:Int)) (he:nthT l i=e) (j:Nat) (hj:Nat.blt j (Rw.k α)=true:=by kernel_rfl) :
 Oc P (load ((⟨b,off+i.toNat*Rw.k α,none⟩:Addr).add j) >>= fun v=>pure (Next.value v)) ⟨[],[A]⟩ (fun x:Rw.X α=>(Rw.cells e x).getD j undef) (fun x=>⟨[],[Rw.asn e x,A]⟩):=by
 intro W0 Γ w hw
 obtain ⟨x,b',off',e1,e2,e3⟩:=hA.row hb he hw
 rw [ha] at e1
 simp only [Option.some.injEq,Addr.mk.injEq,and_true] at e1
 obtain ⟨rfl,rfl⟩:=e1
 have hjk:j<(Rw.cells e x).length:=by rw [Rw.len]; simpa using hj
 have hg:(Rw.cells e x)[j]?=some ((Rw.cells e x).getD j undef):=by simp [List.getD_eq_getElem?_getD,List.getElem?_eq_getElem hjk]
 refine ⟨x,w,_,run_seq (run_load_cell (v:=(Rw.cells e x).getD j undef) ?_) rfl,.inl rfl,e3⟩
 rw [add_none,Nat.add_assoc]
 exact e2 j _ hg
theorem ol_ld (hA:Rdb A a cap l) (ha:a=some ⟨b,off,none⟩) (hb:0≤i∧i<(l.length:Int)) (j:Nat) {v:Value} (hv:∀ x:Rw.X α,(Rw.cells (nthT l i) x)[j]?=some v) :
 Ol P (load ((⟨b,off+i.toNat*Rw.k α,none⟩:Addr).add j) >>= fun v=>pure (Next.value v)) A v:=by
 intro W0 Γ w hw
 obtain ⟨x,b',off',e1,e2,e3⟩:=hA.row hb rfl hw
 rw [ha] at e1
 simp only [Option.some.injEq,Addr.mk.injEq,and_true] at e1
 obtain ⟨rfl,rfl⟩:=e1
 refine run_seq (run_load_cell (v:=v) ?_) rfl
 rw [add_none,Nat.add_assoc]
 exact e2 j _ (hv x)
theorem ol_ldN (hA:Rdb A a cap l) (ha:a=some ⟨b,off,none⟩) (hb:0≤i∧i<(l.length:Int)) (j m:Nat) {vs:List Value} (hv:∀ x:Rw.X α,((Rw.cells (nthT l i) x).drop j).take m=vs) (hj:Nat.ble (j+m) (Rw.k α)=true:=by kernel_rfl) :
 Ol P (loadCells ((⟨b,off+i.toNat*Rw.k α,none⟩:Addr).add j) m >>= fun cs=>pure (Next.value (.agg cs))) A (.agg vs.toArray):=by
 intro W0 Γ w hw
 obtain ⟨x,b',off',e1,e2,e3⟩:=hA.row hb rfl hw
 rw [ha] at e1
 simp only [Option.some.injEq,Addr.mk.injEq,and_true] at e1
 obtain ⟨rfl,rfl⟩:=e1
 have hjk:j+m≤(Rw.cells (nthT l i) x).length:=by rw [Rw.len]; simpa using hj
 rw [← hv x]
 refine run_seq (run_loadCells (vs:=((Rw.cells (nthT l i) x).drop j).take m) m (by simp; omega) fun q v hq=>?_) rfl
 rw [List.getElem?_take] at hq
 split at hq
 · rw [List.getElem?_drop] at hq
   rw [add_none,add_none,Nat.add_assoc,Nat.add_assoc]
   exact e2 _ v hq
 · cases hq
theorem oc_ldN (hA:Rdb A a cap l) (ha:a=some ⟨b,off,none⟩) (hb:0≤i∧i<(l.length:Int)) (he:nthT l i=e) (j m:Nat) (hj:Nat.ble (j+m) (Rw.k α)=true:=by kernel_rfl) :
 Oc P (loadCells ((⟨b,off+i.toNat*Rw.k α,none⟩:Addr).add j) m >>= fun cs=>pure (Next.value (.agg cs))) ⟨[],[A]⟩ (fun x:Rw.X α=>.agg (((Rw.cells e x).drop j).take m).toArray) (fun x=>⟨[],[Rw.asn e x,A]⟩):=by
 intro W0 Γ w hw
 obtain ⟨x,b',off',e1,e2,e3⟩:=hA.row hb he hw
 rw [ha] at e1
 simp only [Option.some.injEq,Addr.mk.injEq,and_true] at e1
 obtain ⟨rfl,rfl⟩:=e1
 have hjk:j+m≤(Rw.cells e x).length:=by rw [Rw.len]; simpa using hj
 refine ⟨x,w,_,run_seq (run_loadCells (vs:=((Rw.cells e x).drop j).take m) m (by simp; omega) fun q v hq=>?_) rfl,.inl rfl,e3⟩
 rw [List.getElem?_take] at hq
 split at hq
 · rw [List.getElem?_drop] at hq
   rw [add_none,add_none,Nat.add_assoc,Nat.add_assoc]
   exact e2 _ v hq
 · cases hq
end get
def inI:Value→Int
 |.int _ n=>n
 |_=>-1
def ixOf (P:Program) (s:XS):Option (Option Addr×Nat×Int×Nat) :=
 match s.op.op with
 |.indexAddr t x ix =>
  match ev s.env x,ev s.env ix,P.underlying t with
  |.slice a m _,.int .i64 n,some (.slice E)=>(P.info? E).map fun i=>(a,m,n,i.size)
  |_,_,_=>none
 |_=>none
theorem xiG {X:Ctx} {s:XS} (h:List Nat) (ia:Nat) {A:Asn} {a:Option Addr} {m:Nat} {i:Int} {K:Nat} (hA:∀ (W0:World) (Γ:List Asn) (w:World),Sat W0 (A::Γ) w→∃ b off,a=some ⟨b,off,none⟩) (hb:0≤i∧i<(m:Int)) (k:∀ b off,a=some ⟨b,off,none⟩→G X ((s.dr X h).putQ (.pointer (some ⟨b,off+i.toNat*K,none⟩))))
 (hq:(s.dq X h).map (·.1)=(s.dq X h).map (·.2):=by kernel_rfl) (hp:s.dp X h=[]:=by kernel_rfl) (hn:pkA [ia] (s.dr X h).gam=[A]:=by kernel_rfl)
 (hx:ixOf X.P (s.dr X h)=some (a,m,i,K):=by kernel_rfl) (h1:oks ((s.dr X h).ok4 X.n)=okr ((s.dr X h).ok4 X.n):=by kernel_rfl):G X s:=by
 refine ⟨x0 h ?_ hq hp⟩
 generalize s.dr X h=s at *
 refine exists_ok (Z:=Nat×Nat) (p:=fun z=>a=some ⟨z.1,z.2,none⟩) (fun w hw=>?_) fun z hz=>?_
 · have h2:=sat_take [] [ia] hw
   rw [hn] at h2
   obtain ⟨b,off,e1⟩:=hA _ _ _ (show Sat X.W0 (A::_) w from h2)
   exact ⟨(b,off),e1⟩
 · obtain ⟨b,off⟩:=z
   refine quiet_ok h1 (fun Γ=>StepTo.pure fun w=>?_) (k b off hz).get
   unfold ixOf at hx
   split at hx
   · rename_i t x ix hop
     split at hx
     · rename_i a' m c n' E e1 e2 e3
       simp only [Option.map_eq_some_iff,Prod.mk.injEq] at hx
       obtain ⟨info,hi,rfl,rfl,rfl,hk⟩:=hx
       rw [hop]
       refine index_at (a:=a') (m:=m) (c:=c) (x:=n') (i:=n'.toNat) info (fun w=>?_) e3 hi hk hz (by omega) (by omega) rfl w
       show ((Instr.indexAt t (ev s.env x) (ev s.env ix)) >>= fun v=>pure (Next.value v)).run X.P w=_
       rw [e1,e2]
     · cases hx
   · cases hx
theorem xi {X:Ctx} {s:XS} (h:List Nat) (ia:Nat) {A:Asn} {a:Option Addr} {cap:Nat} {l:List α} {i:Int} (hA:Rdb A a cap l) (hb:0≤i∧i<(l.length:Int)) (k:∀ b off,a=some ⟨b,off,none⟩→G X ((s.dr X h).putQ (.pointer (some ⟨b,off+i.toNat*Rw.k α,none⟩))))
 (hq:(s.dq X h).map (·.1)=(s.dq X h).map (·.2):=by kernel_rfl) (hp:s.dp X h=[]:=by kernel_rfl) (hn:pkA [ia] (s.dr X h).gam=[A]:=by kernel_rfl)
 (hx:ixOf X.P (s.dr X h)=some (a,l.length,i,Rw.k α):=by kernel_rfl) (h1:oks ((s.dr X h).ok4 X.n)=okr ((s.dr X h).ok4 X.n):=by kernel_rfl):G X s:=by
 refine ⟨x0 h ?_ hq hp⟩
 generalize s.dr X h=s at *
 refine exists_ok (Z:=Nat×Nat) (p:=fun z=>a=some ⟨z.1,z.2,none⟩) (fun w hw=>?_) fun z hz=>?_
 · have h2:=sat_take [] [ia] hw
   rw [hn] at h2
   obtain ⟨x,b,off,e1,_⟩:=hA.row hb rfl (show Sat X.W0 (A::_) w from h2)
   exact ⟨(b,off),e1⟩
 · obtain ⟨b,off⟩:=z
   refine quiet_ok h1 (fun Γ=>StepTo.pure fun w=>?_) (k b off hz).get
   unfold ixOf at hx
   split at hx
   · rename_i t x ix hop
     split at hx
     · rename_i a' m c n' E e1 e2 e3
       simp only [Option.map_eq_some_iff,Prod.mk.injEq] at hx
       obtain ⟨info,hi,rfl,rfl,rfl,hk⟩:=hx
       rw [hop]
       refine index_at (a:=a') (m:=l.length) (c:=c) (x:=n') (i:=n'.toNat) info (fun w=>?_) e3 hi hk hz (by omega) (by omega) rfl w
       show ((Instr.indexAt t (ev s.env x) (ev s.env ix)) >>= fun v=>pure (Next.value v)).run X.P w=_
       rw [e1,e2]
     · cases hx
   · cases hx
section set
variable {P:Program} {a:Option Addr} {cap:Nat} {l:List α} {i:Int} {b off:Nat} {e:α}
def setT (l:List α) (i:Int) (e:α):List α:=l.set i.toNat e
theorem rowsOf_set {l:List α} {xs:List (Rw.X α)} {i:Nat} {e:α} {x:Rw.X α}:(rowsOf l xs).set i (Rw.cells e x)=rowsOf (l.set i e) (xs.set i x):=by
 unfold rowsOf
 apply List.ext_getElem?
 intro j
 simp only [List.getElem?_zipWith,List.getElem?_set,List.length_zipWith]
 by_cases h:i=j
 · subst h
   simp only [if_true]
   by_cases h1:i<l.length <;> by_cases h2:i<xs.length <;> simp [h1,h2,Nat.lt_min]
 · simp [h]
end set
section run
variable {P:Program} {W0 w:World} {Γ:List Asn} {k:Nat} {a:Option Addr} {cap:Nat} {rows:List (List Value)}
theorem run_row {b off i j:Nat} {row vs:List Value} (ha:a=some ⟨b,off,none⟩) (hi:rows[i]?=some row) (hjk:j+vs.length≤k) (hv:vs.all oneCell=true) (hw:Sat W0 (RowsA k a cap rows::Γ) w) :
 ∃ w',(storeCells ⟨b,off+(i*k+j),none⟩ vs).run P w=.ok () w'∧Sat W0 (RowsA k a cap (rows.set i (putRow row j vs))::Γ) w':=by
 subst ha
 obtain ⟨S,I,⟨S1,S2,h1,h2,h3,⟨h4,h5⟩,h6⟩,d1,d2,d3,d4,d5⟩:=hw
 have hil:i<rows.length:=by
  rcases Nat.lt_or_ge i rows.length with h | h
  · exact h
  · rw [List.getElem?_eq_none h] at hi; cases hi
 have hrk:row.length=k:=h4 row (List.mem_of_getElem? hi)
 rcases h5 with ⟨rfl,_⟩ | ⟨b',off',c,T,q1,q2,q3,q4,q5,q6⟩
 · simp at hil
 · simp only [Option.some.injEq,Addr.mk.injEq,and_true] at q1
   obtain ⟨rfl,rfl⟩:=q1
   have hmul:i*k+k≤cap*k:=by
    have:(i+1)*k≤cap*k:=Nat.mul_le_mul_right _ (by omega)
    rwa [Nat.succ_mul] at this
   obtain ⟨w',r1,r2,r3,r4,r5,r6,r7⟩:=run_storeCells (P:=P) (off:=off+(i*k+j)) vs 0 w c q3 (by omega) hv
   have hne:∀ d,d≠b→w'.heap[d]?=w.heap[d]?:=r4
   have hnot:∀ d,S2 d∨I d→d≠b:=by
    rintro d hd rfl
    exact hd.elim (h3 d q2) (d1 d (h1 d q2))
   have hk':∀ r∈rows.set i (putRow row j vs),r.length=k:=by
    intro r hr
    rcases List.mem_or_eq_of_mem_set hr with h | rfl
    · exact h4 r h
    · rw [putRow_length (by omega),hrk]
   refine ⟨w',r1,S,I,⟨S1,S2,h1,h2,h3,⟨hk',.inr ⟨b,off,_,T,rfl,q2,r2,by simpa using q4,?_,?_⟩⟩,h6.loc fun d hd=>hne d (hnot d hd)⟩,d1,fun d hd=>r3▸d2 d hd,fun d hd=>r3▸d3 d hd,d4,?_⟩
   · rw [putCells_size]; exact q5
   · intro q v hq
     obtain ⟨i',j',row',e1,e2,rfl,e4⟩:=flatten_at hk' hq
     rw [putCells_get _ _ _ _ (by omega)]
     by_cases hii:i'=i
     · subst hii
       rw [List.getElem?_set_self hil] at e1
       obtain rfl:=Option.some.inj e1
       rw [putRow_get (by omega)] at e2
       by_cases h7:j≤j'∧j'<j+vs.length
       · rw [if_pos h7] at e2
         rw [if_pos (by omega),show off+(i'*k+j') - (off+(i'*k+j)+0)=j' - j from by omega]
         exact e2
       · rw [if_neg h7] at e2
         rw [if_neg (by omega)]
         exact q6 _ _ (flatten_get h4 hi e2)
     · rw [List.getElem?_set_ne (fun e3=>hii e3.symm)] at e1
       rw [if_neg ?_]
       · exact q6 _ _ (flatten_get h4 e1 e2)
       · rintro ⟨g1,g2⟩
         rcases Nat.lt_or_gt_of_ne hii with h8 | h8
         · have:(i'+1)*k≤i*k:=Nat.mul_le_mul_right _ h8
           rw [Nat.succ_mul] at this; omega
         · have:(i+1)*k≤i'*k:=Nat.mul_le_mul_right _ h8
           rw [Nat.succ_mul] at this; omega
   · exact ⟨r5.trans d5.os,r6.trans d5.tape,r7.trans d5.output,by rw [r3]; exact d5.size,fun d hd=>(hne d (hnot d (.inr (d4 d hd)))).trans (d5.block d hd)⟩
end run
section set2
variable {P:Program} {W0 w:World} {Γ:List Asn} {a:Option Addr} {cap:Nat} {l:List α} {i:Int} {b off:Nat}
def KnA (l:List α) (xs:List (Rw.X α)):Asn where
 holds _ I h:=Knows I h l xs
 loc:=fun q he=>q.loc he
 mono:=fun q hi=>q.mono hi
theorem ArrA.split (h:Sat W0 (ArrA a cap l::Γ) w):∃ xs:List (Rw.X α),xs.length=l.length∧Sat W0 (RowsA (Rw.k α) a cap (rowsOf l xs)::KnA l xs::Γ) w:=by
 obtain ⟨S,I,⟨S1,S2,h1,h2,h3,⟨xs,q1,q2,q3⟩,h5⟩,r⟩:=h
 exact ⟨xs,q1,S,I,⟨S1,S2,h1,h2,h3,q2,fun _=>False,S2,fun _ h=>h.elim,fun _ h=>h,fun _ h _=>h,q3,h5⟩,r⟩
theorem ArrA.join {xs:List (Rw.X α)} (hl:xs.length=l.length) (h:Sat W0 (RowsA (Rw.k α) a cap (rowsOf l xs)::KnA l xs::Γ) w):Sat W0 (ArrA a cap l::Γ) w:=by
 obtain ⟨S,I,⟨S1,S2,h1,h2,h3,h4,T1,T2,k1,k2,k3,k4,k5⟩,r⟩:=h
 exact ⟨S,I,⟨S1,T2,h1,fun b hb=>h2 b (k2 b hb),fun b hb ht=>h3 b hb (k2 b ht),⟨xs,hl,h4,k4⟩,k5⟩,r⟩
theorem KnA.set {xs:List (Rw.X α)} {i:Nat} {e:α} {x:Rw.X α} (h:Sat W0 (KnA l xs::Rw.asn e x::Γ) w):Sat W0 (KnA (l.set i e) (xs.set i x)::Γ) w:=by
 obtain ⟨S,I,⟨S1,S2,h1,h2,h3,h4,T1,T2,k1,k2,k3,k4,k5⟩,r⟩:=h
 refine ⟨S,I,⟨S1,T2,h1,fun b hb=>h2 b (k2 b hb),fun b hb ht=>h3 b hb (k2 b ht),fun j a y e1 e2=>?_,k5⟩,r⟩
 rw [List.getElem?_set] at e1 e2
 split at e1
 · split at e1
   · split at e2
     · split at e2
       · obtain rfl:=Option.some.inj e1
         obtain rfl:=Option.some.inj e2
         exact Rw.dup _ _ _ _ _ k4
       · cases e2
     · rename_i hn _ hm; exact absurd hn hm
   · cases e1
 · rename_i hn
   rw [if_neg hn] at e2
   exact h4 j a y e1 e2
theorem oc_st {e:α} (x:Rw.X α) (ha:a=some ⟨b,off,none⟩) (hb:0≤i∧i<(l.length:Int)) {l':List α} (hl:setT l i e=l'):Oc P (storeCells ⟨b,off+i.toNat*Rw.k α,none⟩ (Rw.cells e x) >>= fun _=>pure Next.skip) ⟨[],[ArrA a cap l,Rw.asn e x]⟩ (fun _:Unit=>undef) (fun _=>⟨[],[ArrA a cap l']⟩):=by
 subst hl
 intro W0 Γ w hw
 obtain ⟨xs,q1,h1⟩:=ArrA.split (show Sat W0 (ArrA a cap l::Rw.asn e x::Γ) w from hw)
 have hg:=nthT_get hb
 obtain ⟨x0,hx0⟩:=getX q1 hg
 obtain ⟨w',r1,r2⟩:=run_row (P:=P) (j:=0) (vs:=Rw.cells e x) ha (rowsOf_get hg hx0) (by rw [Rw.len]; omega) (Rw.one e x) h1
 rw [Nat.add_zero] at r1
 refine ⟨(),w',_,run_seq r1 rfl,.inr ⟨rfl,rfl⟩,?_⟩
 have e1:putRow (Rw.cells (nthT l i) x0) 0 (Rw.cells e x)=Rw.cells e x:=by
  unfold putRow
  rw [List.take_zero,List.nil_append,Nat.zero_add,List.drop_of_length_le (by rw [Rw.len,Rw.len]; exact Nat.le_refl _),List.append_nil]
 rw [e1,rowsOf_set] at r2
 have h3:Sat W0 (KnA (l.set i.toNat e) (xs.set i.toNat x)::RowsA (Rw.k α) a cap (rowsOf (l.set i.toNat e) (xs.set i.toNat x))::Γ) w':=KnA.set (r2.less (.take (.there .here) (.take (.there .here) (.take .here .refl))))
 exact ArrA.join (by simp [q1,setT]) (h3.less (.take (.there .here) (.take .here .refl)))
theorem oc_stf {e:α} (j:Nat) (vs:List Value) (ha:a=some ⟨b,off,none⟩) (hb:0≤i∧i<(l.length:Int)) (hrow:∀ x:Rw.X α,putRow (Rw.cells (nthT l i) x) j vs=Rw.cells e x) (hasn:∀ x:Rw.X α,Rw.asn e x=Rw.asn (nthT l i) x) {l':List α} (hl:setT l i e=l')
 (hj:Nat.ble (j+vs.length) (Rw.k α)=true:=by kernel_rfl) (hv:vs.all oneCell=true:=by kernel_rfl) :
 Oc P (storeCells ((⟨b,off+i.toNat*Rw.k α,none⟩:Addr).add j) vs >>= fun _=>pure Next.skip) ⟨[],[ArrA a cap l]⟩ (fun _:Unit=>undef) (fun _=>⟨[],[ArrA a cap l']⟩):=by
 subst hl
 intro W0 Γ w hw
 obtain ⟨xs,q1,h1⟩:=ArrA.split (show Sat W0 (ArrA a cap l::Γ) w from hw)
 have hg:=nthT_get hb
 obtain ⟨x0,hx0⟩:=getX q1 hg
 obtain ⟨w',r1,r2⟩:=run_row (P:=P) (j:=j) (vs:=vs) ha (rowsOf_get hg hx0) (by simpa using hj) hv h1
 rw [← Nat.add_assoc] at r1
 refine ⟨(),w',_,run_seq (by rw [add_none]; exact r1) rfl,.inr ⟨rfl,rfl⟩,?_⟩
 rw [hrow x0,rowsOf_set] at r2
 have h2:Sat W0 (KnA l xs::Rw.asn e x0::RowsA (Rw.k α) a cap (rowsOf (l.set i.toNat e) (xs.set i.toNat x0))::Γ) w':=by
  have h3:Sat W0 (KnA l xs::RowsA (Rw.k α) a cap (rowsOf (l.set i.toNat e) (xs.set i.toNat x0))::Γ) w':=r2.less (.take (.there .here) (.take .here .refl))
  obtain ⟨S,I,⟨S1,S2,p1,p2,p3,p4,p5⟩,r⟩:=h3
  exact ⟨S,I,⟨S1,S2,p1,p2,p3,p4,fun _=>False,S2,fun _ h=>h.elim,fun _ h=>h,fun _ h _=>h,by rw [hasn x0]; exact p4 _ _ _ hg hx0,p5⟩,r⟩
 exact ArrA.join (by simp [q1,setT]) ((KnA.set h2).less (.take (.there .here) (.take .here .refl)))
end set2
section gh
variable {a:Option Addr} {cap:Nat} {l:List α}
theorem gh_cells (b T:Nat) {c c':Array Value} (e:c=c'):Gh ⟨[⟨b,c,T⟩],[]⟩ fun _:Unit=>⟨[⟨b,c',T⟩],[]⟩:=by
 subst e
 exact fun _ _ _ hw=>⟨(),hw⟩
theorem gh_frz (a:Option Addr) (cap:Nat) (l:List α):Gh ⟨[],[ArrA a cap l]⟩ fun _:Unit=>⟨[],[ImmA a cap l]⟩:=by
 intro W0 Γ w hw
 refine ⟨(),?_⟩
 obtain ⟨xs,q1,h1⟩:=ArrA.split (show Sat W0 (ArrA a cap l::Γ) w from hw)
 have h0:=(RowsA.len h1).2
 rw [rowsOf_len q1] at h0
 have h2:=RowsA.freeze h1
 obtain ⟨S,I,⟨S1,S2,p1,p2,p3,p4,T1,T2,k1,k2,k3,k4,k5⟩,r⟩:=h2
 exact ⟨S,I,⟨S1,T2,p1,fun b hb=>p2 b (k2 b hb),fun b hb ht=>p3 b hb (k2 b ht),⟨h0,xs,q1,p4,k4⟩,k5⟩,r⟩
theorem gh_dup (a:Option Addr) (cap:Nat) (l:List α):Gh ⟨[],[ImmA a cap l]⟩ fun _:Unit=>⟨[],[ImmA a cap l,ImmA a cap l]⟩:=by
 intro W0 Γ w hw
 refine ⟨(),?_⟩
 have h:Sat W0 (ImmA a cap l::Γ) w:=hw
 exact h.imp fun S I h=>by
  obtain ⟨S1,S2,h1,h2,h3,q,h5⟩:=h
  exact ⟨fun _=>False,S,fun _ h=>h.elim,fun _ h=>h,fun _ h _=>h,q,S1,S2,h1,h2,h3,q,h5⟩
theorem gh_nil (a:Option Addr):Gh ⟨[],[]⟩ fun _:Unit=>⟨[],[ArrA a 0 ([]:List α)]⟩:=by
 intro W0 Γ w hw
 refine ⟨(),?_⟩
 have h:Sat W0 Γ w:=hw
 exact h.imp fun S I h=>⟨fun _=>False,S,fun _ h=>h.elim,fun _ h=>h,fun _ h _=>h,⟨[],rfl,⟨fun r hr=>by simp [rowsOf] at hr,.inl ⟨rfl,rfl⟩⟩,fun i a x h=>by simp at h⟩,h⟩
theorem gh_nilI (a:Option Addr) (cap:Nat):Gh ⟨[],[]⟩ fun _:Unit=>⟨[],[ImmA a cap ([]:List α)]⟩:=by
 intro W0 Γ w hw
 refine ⟨(),?_⟩
 have h:Sat W0 Γ w:=hw
 exact h.imp fun S I h=>⟨fun _=>False,S,fun _ h=>h.elim,fun _ h=>h,fun _ h _=>h,⟨Nat.zero_le _,[],rfl,⟨fun r hr=>by simp [rowsOf] at hr,.inl rfl⟩,fun i a x h=>by simp at h⟩,h⟩
theorem gh_one (b T:Nat) (e:α) (x:Rw.X α):Gh ⟨[⟨b,(Rw.cells e x).toArray,T⟩],[Rw.asn e x]⟩ fun _:Unit=>⟨[],[ArrA (some ⟨b,0,none⟩) 1 [e]]⟩:=by
 intro W0 Γ w hw
 refine ⟨(),?_⟩
 have h:Sat W0 (Asn.own b (.cells (Rw.cells e x).toArray T (0,0))::Rw.asn e x::Γ) w:=hw
 have h1:=RowsA.of_own (k:=Rw.k α) (rows:=rowsOf [e] [x]) h rowsOf_k (by simp [rowsOf])
 have h2:Sat W0 (KnA (l:=[e]) (xs:=[x])::RowsA (Rw.k α) (some ⟨b,0,none⟩) 1 (rowsOf [e] [x])::Γ) w:=by
  have h3:Sat W0 (Rw.asn e x::RowsA (Rw.k α) (some ⟨b,0,none⟩) 1 (rowsOf [e] [x])::Γ) w:=h1.less (.take (.there .here) (.take .here .refl))
  obtain ⟨S,I,⟨S1,S2,p1,p2,p3,p4,p5⟩,r⟩:=h3
  refine ⟨S,I,⟨S1,S2,p1,p2,p3,fun i a y e1 e2=>?_,p5⟩,r⟩
  cases i with
  |zero =>
   simp only [List.getElem?_cons_zero,Option.some.injEq] at e1 e2
   subst e1; subst e2
   exact Rw.dup _ _ _ _ _ p4
  |succ i=>simp at e1
 exact ArrA.join rfl (h2.less (.take (.there .here) (.take .here .refl)))
theorem gh_own (b T n:Nat) (l:List α) (xs:List (Rw.X α)) (hk:∀ (i:Nat) (a:α) (x:Rw.X α),l[i]?=some a→xs[i]?=some x→∀ I h,(Rw.asn a x).holds (fun _=>False) I h) (hl:xs.length=l.length:=by kernel_rfl) (hn:l.length=n:=by kernel_rfl) :
 Gh ⟨[⟨b,(rowsOf l xs).flatten.toArray,T⟩],[]⟩ fun _:Unit=>⟨[],[ArrA (some ⟨b,0,none⟩) n l]⟩:=by
 intro W0 Γ w hw
 refine ⟨(),?_⟩
 have h:Sat W0 (Asn.own b (.cells (rowsOf l xs).flatten.toArray T (0,0))::Γ) w:=hw
 have h1:=RowsA.of_own (k:=Rw.k α) (rows:=rowsOf l xs) h rowsOf_k rfl
 rw [rowsOf_len hl,hn] at h1
 refine ArrA.join hl ?_
 exact h1.imp fun S I hs=>by
  obtain ⟨S1,S2,p1,p2,p3,p4,p5⟩:=hs
  exact ⟨S1,S2,p1,p2,p3,p4,fun _=>False,S2,fun _ h=>h.elim,fun _ h=>h,fun _ h _=>h,fun i a x e1 e2=>hk i a x e1 e2 _ _,p5⟩
end gh
theorem nil_of {A:Asn} {cap:Nat} {l:List α} (hA:Rdb A none cap l):∀ (W0:World) (Γ:List Asn) (w:World),Sat W0 ([A]++Γ) w→l=[]:=by
 intro W0 Γ w hw
 obtain ⟨xs,q1,h⟩:=Sat.read hA (show Sat W0 (A::Γ) w from hw)
 obtain ⟨S,I,⟨S1,S2,p1,p2,p3,⟨p4,p5,p6,p7⟩,p8⟩,r⟩:=h
 rcases p6 with p6 | ⟨b,off,cc,T,fr,e1,_⟩
 · have:=rowsOf_len q1
   rw [p6] at this
   exact List.eq_nil_of_length_eq_zero this.symm
 · cases e1
theorem cap_of {A:Asn} {a:Option Addr} {cap:Nat} {l:List α} (hA:Rdb A a cap l):∀ (W0:World) (Γ:List Asn) (w:World),Sat W0 ([A]++Γ) w→l.length≤cap:=by
 intro W0 Γ w hw
 obtain ⟨S,I,⟨S1,S2,h1,h2,h3,h4,h5⟩,r⟩:=(show Sat W0 (A::Γ) w from hw)
 exact (hA.rd S1 I _ h4).1
def ObA {Z:Type} (o:Z→Rs):Asn:=Asn.ex fun z=>Asn.star ((o z).all [])
theorem gh_open {Z:Type} (o:Z→Rs):Gh ⟨[],[ObA o]⟩ o:=by
 intro W0 Γ w hw
 obtain ⟨z,h⟩:=Sat.ex_of (f:=fun z=>Asn.star ((o z).all [])) (show Sat W0 (ObA o::Γ) w from hw)
 have:=h.star_of
 exact ⟨z,by simpa [Rs.all] using this⟩
theorem gh_shut {Z:Type} (o:Z→Rs) (z:Z):Gh (o z) fun _:Unit=>⟨[],[ObA o]⟩:=by
 intro W0 Γ w hw
 exact ⟨(),Sat.ex_mk (f:=fun z=>Asn.star ((o z).all [])) z (Sat.star_mk (by simpa [Rs.all] using hw))⟩
theorem rowsOf_part {l:List α} {xs:List (Rw.X α)} (lo n:Nat):rowsOf ((l.drop lo).take n) ((xs.drop lo).take n)=((rowsOf l xs).drop lo).take n:=by
 unfold rowsOf
 rw [← List.take_zipWith,← List.drop_zipWith]
theorem rdb_part {A:Asn} {a:Option Addr} {cap:Nat} {l l':List α} (hA:Rdb A a cap l) {lo hi mx:Nat} (hk:0<Rw.k α) (h1:lo≤hi) (h2:hi≤l.length) (h3:hi≤mx) (hl:(l.drop lo).take (hi - lo)=l') :
 Rdb A (if mx=lo then a else a.map (·.add (lo*Rw.k α))) (mx - lo) l' where
 rd:=fun S I h ha=>by
  subst hl
  obtain ⟨h0,xs,q1,p1,p2,p3⟩:=hA.rd S I h ha
  refine ⟨by simp; omega,(xs.drop lo).take (hi - lo),by simp [q1],rowsOf_k,?_,fun i a x e1 e2=>?_⟩
  · by_cases hm:mx=lo
    · left
      rw [rowsOf_part,show hi - lo=0 by omega]; rfl
    · rw [if_neg hm]
      rcases p2 with p2 | ⟨b,off,c,T,fr,e1,e2,e3,e4⟩
      · left; rw [rowsOf_part,p2]; simp
      · right
        refine ⟨b,off+lo*Rw.k α,c,T,fr,by rw [e1]; simp [add_none],e2,e3,fun j v hj=>?_⟩
        rw [rowsOf_part] at hj
        have e5:(rowsOf l xs).flatten=((rowsOf l xs).take lo).flatten++((rowsOf l xs).drop lo).flatten:=by rw [← List.flatten_append,List.take_append_drop]
        have e6:((rowsOf l xs).take lo).flatten.length=lo*Rw.k α:=by
         rw [flatten_length (k:=Rw.k α) (fun r hr=>p1 r (List.mem_of_mem_take hr)),List.length_take,rowsOf_len q1,Nat.min_eq_left (by omega)]
        have e7:∀ {m:List (List Value)} {n:Nat} {q:Nat} {u:Value},(m.take n).flatten[q]?=some u→m.flatten[q]?=some u:=by
         intro m n q u hq
         have:m.flatten=(m.take n).flatten++(m.drop n).flatten:=by rw [← List.flatten_append,List.take_append_drop]
         rw [this,List.getElem?_append_left (List.getElem?_eq_some_iff.1 hq).1]; exact hq
        have e8:=e4 (lo*Rw.k α+j) v (by rw [e5,List.getElem?_append_right (by omega),e6,show lo*Rw.k α+j - lo*Rw.k α=j by omega]; exact e7 hj)
        rwa [← Nat.add_assoc] at e8
  · rw [List.getElem?_take] at e1 e2
    split at e1
    · rename_i hi'
      rw [if_pos hi',List.getElem?_drop] at e2
      rw [List.getElem?_drop] at e1
      exact p3 _ a x e1 e2
    · cases e1
def bnd (d:Int) (e:Env):Option Operand→Option Int
 |none=>some d
 |some o=>match ev e o with | .int .i64 n=>some n | _=>none
def slOf (P:Program) (s:XS):Option (Option Addr×Nat×Nat×Int×Int×Int×Nat) :=
 match s.op.op with
 |.slice t x lo hi mx =>
  match ev s.env x,P.underlying t with
  |.slice a m c,some (.slice E) =>
   match P.info? E,bnd 0 s.env lo,bnd (m:Int) s.env hi,bnd (c:Int) s.env mx,hi.isSome || mx.isNone with
   |some i,some lo',some hi',some mx',true=>some (a,m,c,lo',hi',mx',i.size)
   |_,_,_,_,_=>none
  |_,_=>none
 |_=>none
theorem bnd_ok {d:Int} {e:Env} {o:Option Operand} {n:Int} (h:bnd d e o=some n):(o.map (ev e)=none∧n=d)∨(o.map (ev e)=some (.int .i64 n)):=by
 cases o with
 |none=>left; simp [bnd] at h; exact ⟨rfl,h.symm⟩
 |some o =>
  right
  simp only [bnd] at h
  split at h
  · rename_i n' hn; simp only [Option.some.injEq] at h; subst h; simp [hn]
  · cases h
theorem xsl {X:Ctx} {s:XS} (h:List Nat) (ia:Nat) {A:Asn} {a:Option Addr} {cap:Nat} {l l':List α} (hA:Rdb A a cap l) {lo hi mx:Int} (hb:0≤lo∧lo≤hi∧hi≤(l.length:Int)) (hm:mx=(cap:Int)∨hi≤mx∧mx≤(l.length:Int)) (hl:(l.drop lo.toNat).take (hi.toNat - lo.toNat)=l')
 (k:∀ a',Rdb A a' (mx.toNat - lo.toNat) l'→G X ((s.dr X h).putQ (.slice a' l'.length (mx.toNat - lo.toNat)))) (hk:Nat.blt 0 (Rw.k α)=true:=by kernel_rfl)
 (hq:(s.dq X h).map (·.1)=(s.dq X h).map (·.2):=by kernel_rfl) (hp:s.dp X h=[]:=by kernel_rfl) (hn:pkA [ia] (s.dr X h).gam=[A]:=by kernel_rfl)
 (hx:slOf X.P (s.dr X h)=some (a,l.length,cap,lo,hi,mx,Rw.k α):=by kernel_rfl) (h1:oks ((s.dr X h).ok4 X.n)=okr ((s.dr X h).ok4 X.n):=by kernel_rfl):G X s:=by
 refine ⟨x0 h ?_ hq hp⟩
 generalize s.dr X h=s at *
 refine known_ok (p:=l.length≤cap) (fun w hw=>?_) fun hcap=>?_
 · have h2:=sat_take [] [ia] hw
   rw [hn] at h2
   exact cap_of hA _ _ w h2
 have hlen:hi.toNat - lo.toNat=l'.length:=by rw [← hl]; simp; omega
 have hpart:=rdb_part (lo:=lo.toNat) (hi:=hi.toNat) (mx:=mx.toNat) hA (by simpa using hk) (by omega) (by omega) (by omega) hl
 refine quiet_ok h1 (fun Γ=>StepTo.pure fun w=>?_) (k _ hpart).get
 unfold slOf at hx
 split at hx
 · rename_i t x lo' hi' mx' hop
   split at hx
   · rename_i a' m c E e1 e2
     split at hx
     · rename_i info lo2 hi2 mx2 i1 i2 i3 i4 i5
       simp only [Option.some.injEq,Prod.mk.injEq] at hx
       obtain ⟨rfl,rfl,rfl,rfl,rfl,rfl,hkk⟩:=hx
       rw [hop,← hlen]
       refine slice_at (a:=a') (m:=l.length) (c:=c) (lo'.map (ev s.env)) (hi'.map (ev s.env)) (mx'.map (ev s.env)) info (fun w=>?_) e2 i1 hkk ?_ ?_ ?_ (by omega) (by omega) (by omega) w
       · show ((Instr.sliceAt t (ev s.env x) (lo'.map (ev s.env)) (hi'.map (ev s.env)) (mx'.map (ev s.env))) >>= fun v=>pure (Next.value v)).run X.P w=_
         rw [e1]
       · rcases bnd_ok i2 with ⟨q1,q2⟩ | q1
         · exact .inl ⟨q1,by rw [q2]; rfl⟩
         · exact .inr ⟨_,q1,by omega⟩
       · rcases bnd_ok i3 with ⟨q1,q2⟩ | q1
         · rcases bnd_ok i4 with ⟨q3,q4⟩ | q3
           · exact .inl ⟨q1,by rw [q2]; rfl,q3⟩
           · cases hi' <;> cases mx' <;> simp_all
         · exact .inr ⟨_,q1,by omega⟩
       · rcases bnd_ok i4 with ⟨q1,q2⟩ | q1
         · exact .inl ⟨q1,by rw [q2]; rfl⟩
         · exact .inr ⟨_,q1,by omega⟩
     · cases hx
   · cases hx
 · cases hx
def mkOf (P:Program) (s:XS):Option (Int×Int×Value) :=
 match s.op.op with
 |.makeSlice t l c =>
  match ev s.env l,ev s.env c,P.underlying t with
  |.int .i64 l,.int .i64 c,some (.slice E) =>
   match P.info? E with
   |some i=>bif Nat.beq i.size 1 && Nat.ble i.bytes 128 then i.zero.map fun z=>(l,c,z) else none
   |none=>none
  |_,_,_=>none
 |_=>none
theorem made_rows (v:Value) (hv:v.cells=#[v]) (n:Nat):Go.madeCells v.cells (n*1)=(List.replicate n [v]).flatten.toArray:=by
 have e:(List.replicate n [v]).flatten=List.replicate n v:=by
  induction n with
  |zero=>rfl
  |succ n ih=>rw [List.replicate_succ,List.flatten_cons,ih]; rfl
 rw [hv,e,Nat.mul_one]
 apply Array.ext
 · simp [Go.madeCells]
 · intro i h1 h2
   simp [Go.madeCells,Nat.mod_one]
theorem mk_step {P:Program} {W0:World} {s:XS} (x0:Rw.X α) {n:Int} (hb:0≤n∧n≤1099511627776) (hd:∀ I h,(Rw.asn (Rw.d:α) x0).holds (fun _=>False) I h) (hx:mkOf P s=some (n,n,(Rw.cells (Rw.d:α) x0).headD undef))
 (hk:Rw.k α=1) (hv:((Rw.cells (Rw.d:α) x0).headD undef).cells=#[(Rw.cells (Rw.d:α) x0).headD undef]) (Γ:List Asn):StepTo P W0 Γ s.env s.op.op s.op.type fun v Δ=>∃ b:Nat,v=Value.slice (some ⟨b,0,none⟩) (List.replicate n.toNat (Rw.d:α)).length n.toNat∧Δ=ArrA (some ⟨b,0,none⟩) n.toNat (List.replicate n.toNat (Rw.d:α))::Γ:=by
 unfold mkOf at hx
 split at hx
 · rename_i t l c hop
   split at hx
   · rename_i l' c' E e1 e2 e3
     split at hx
     · rename_i info hi
       cases hc:(Nat.beq info.size 1 && Nat.ble info.bytes 128) with
       |false=>simp [hc] at hx
       |true =>
        simp only [hc,cond_true,Option.map_eq_some_iff,Prod.mk.injEq] at hx
        obtain ⟨z,hz,rfl,hcn,rfl⟩:=hx
        simp only [Bool.and_eq_true] at hc
        have hs:=Nat.eq_of_beq_eq_true hc.1
        have hby:=Nat.le_of_ble_eq_true hc.2
        refine StepTo.val fun w hw=>?_
        have hb2:(info.bytes:Int)*c'≤281474976710656:=by
         have h3:(info.bytes:Int)≤128:=by omega
         have h4:(info.bytes:Int)*c'≤128*c':=Int.mul_le_mul_of_nonneg_right h3 (by omega)
         omega
        have hr:=run_make (P:=P) w t E info ((Rw.cells (Rw.d:α) x0).headD undef) e3 hi hz .i64 .i64 l' c' hb.1 (by omega) hb2 (by omega)
        rw [hs] at hr
        refine ⟨_,w.alloc (.cells (Go.madeCells ((Rw.cells (Rw.d:α) x0).headD undef).cells (c'.toNat*1)) E),_,?_,⟨w.heap.size,rfl,rfl⟩,?_⟩
        · rw [hop]
          show ((Instr.makeSlice t (ev s.env l) (ev s.env c)) >>= fun v=>pure (Next.value v)).run P w=_
          rw [e1,e2,List.length_replicate]
          have hcn':c'=l':=hcn
          subst hcn'
          exact run_seq hr rfl
        · have hcells:[(Rw.cells (Rw.d:α) x0).headD undef]=Rw.cells (Rw.d:α) x0:=by
           have:=Rw.len (Rw.d:α) x0
           rw [hk] at this
           match hh:Rw.cells (Rw.d:α) x0,this with
           |[v],_=>rfl
          have hrows:rowsOf (List.replicate l'.toNat (Rw.d:α)) (List.replicate l'.toNat x0)=List.replicate l'.toNat [(Rw.cells (Rw.d:α) x0).headD undef]:=by
           rw [hcells]; simp [rowsOf,List.zipWith_replicate]
          rw [made_rows _ hv]
          have hcn':c'=l':=hcn
          subst hcn'
          have h5:=hw.alloc (.cells (List.replicate c'.toNat [(Rw.cells (Rw.d:α) x0).headD undef]).flatten.toArray E (0,0))
          have h6:=RowsA.of_own (k:=Rw.k α) (rows:=rowsOf (List.replicate c'.toNat (Rw.d:α)) (List.replicate c'.toNat x0)) h5 rowsOf_k (by rw [hrows])
          rw [rowsOf_len (by simp),List.length_replicate] at h6
          refine ArrA.join (xs:=List.replicate c'.toNat x0) (by simp) (h6.imp fun S I hs=>?_)
          obtain ⟨S1,S2,p1,p2,p3,p4,p5⟩:=hs
          refine ⟨S1,S2,p1,p2,p3,p4,fun _=>False,S2,fun _ h=>h.elim,fun _ h=>h,fun _ h _=>h,fun i a x e1 e2=>?_,p5⟩
          obtain rfl:=List.eq_of_mem_replicate (List.mem_of_getElem? e1)
          obtain rfl:=List.eq_of_mem_replicate (List.mem_of_getElem? e2)
          exact hd _ _
     · cases hx
   · cases hx
 · cases hx
theorem xmk {X:Ctx} {s:XS} (h:List Nat) (x0:Rw.X α) {n:Int} {zs:List α} (hb:0≤n∧n≤1099511627776) (hz:List.replicate n.toNat (Rw.d:α)=zs) (hd:∀ I h,(Rw.asn (Rw.d:α) x0).holds (fun _=>False) I h)
 (k:∀ b:Nat,G X ((s.dr X h).put [] [] (.slice (some ⟨b,0,none⟩) zs.length n.toNat) ⟨[],[ArrA (some ⟨b,0,none⟩) n.toNat zs]⟩))
 (hq:(s.dq X h).map (·.1)=(s.dq X h).map (·.2):=by kernel_rfl) (hp:s.dp X h=[]:=by kernel_rfl) (hx:mkOf X.P (s.dr X h)=some (n,n,(Rw.cells (Rw.d:α) x0).headD undef):=by kernel_rfl)
 (hk:Rw.k α=1:=by kernel_rfl) (hv:((Rw.cells (Rw.d:α) x0).headD undef).cells=#[(Rw.cells (Rw.d:α) x0).headD undef]:=by kernel_rfl) (h1:oks ((s.dr X h).ok1 X.n)=okr ((s.dr X h).ok1 X.n):=by kernel_rfl)
 (h2:∀ b:Nat,oks ((s.dr X h).okP X [] [] (.slice (some ⟨b,0,none⟩) zs.length n.toNat) ⟨[],[ArrA (some ⟨b,0,none⟩) n.toNat zs]⟩)=okr ((s.dr X h).okP X [] [] (.slice (some ⟨b,0,none⟩) zs.length n.toNat) ⟨[],[ArrA (some ⟨b,0,none⟩) n.toNat zs]⟩):=by intro _; kernel_rfl) (h3:∀ b:Nat,(s.dr X h).ol1=(s.dr X h).olP [] [] ⟨[],[ArrA (some ⟨b,0,none⟩) n.toNat zs]⟩:=by intro _; kernel_rfl):G X s:=by
 refine ⟨_root_.Go.Proofs.YtcidmgkfaioceaaGreat.x0 h ?_ hq hp⟩
 generalize s.dr X h=s at *
 subst hz
 refine step_oc (io:=[]) (ia:=[]) (pre:=⟨[],[]⟩) (rv:=fun b:Nat=>Value.slice (some ⟨b,0,none⟩) (List.replicate n.toNat (Rw.d:α)).length n.toNat) (post:=fun b=>⟨[],[ArrA (some ⟨b,0,none⟩) n.toNat (List.replicate n.toNat (Rw.d:α))]⟩) (fun Γ=>?_) rfl rfl h1 h2 h3 fun z=>(k z).get
 exact mk_step x0 hb hd hx hk hv Γ
def apOf (P:Program) (s:XS):Option (Option Addr×Nat×Nat×Option Addr×Nat×Nat) :=
 match s.op.op with
 |.call { callee:=.builtin .append,args:=args,argTypes:=ts } =>
  match args.toList,ts.toList with
  |[x,y],[t,t'] =>
   match ev s.env x,ev s.env y,P.underlying t with
   |.slice a m c,.slice a2 m2 _,some (.slice E) =>
    match P.info? E with
    |some info=>bif Nat.beq t t' && Nat.blt 0 info.bytes && Nat.ble info.bytes 128 && (match info.zero with | some zv=>Nat.beq zv.cells.size info.size | none=>false) then some (a,m,c,a2,m2,info.size) else none
    |none=>none
   |_,_,_=>none
  |_,_=>none
 |_=>none
theorem ap_step {P:Program} {W0:World} {s:XS} {a a2:Option Addr} {cap:Nat} {l ys:List α} {B:Asn} {cap2:Nat} (hB:Rdb B a2 cap2 ys) (hn:(l++ys).length≤1099511627776)
 (hx:apOf P s=some (a,l.length,cap,a2,ys.length,Rw.k α)) (Γ:List Asn):StepTo P W0 (ArrA a cap l::B::Γ) s.env s.op.op s.op.type fun v Δ=>∃ z:Option Addr×Nat,v=Value.slice z.1 (l++ys).length z.2∧Δ=ArrA z.1 z.2 (l++ys)::B::Γ:=by
 unfold apOf at hx
 split at hx
 · rename_i args ts hop
   split at hx
   · rename_i x y t t' hargs hts
     split at hx
     · rename_i a' m c a2' m2 c2 E e1 e2 e3
       split at hx
       · rename_i info hi
         cases hc:(Nat.beq t t' && Nat.blt 0 info.bytes && Nat.ble info.bytes 128 && (match info.zero with | some zv=>Nat.beq zv.cells.size info.size | none=>false)) with
         |false=>simp [hc] at hx
         |true =>
          simp only [hc,cond_true,Option.some.injEq,Prod.mk.injEq] at hx
          obtain ⟨rfl,rfl,rfl,rfl,rfl,hk⟩:=hx
          simp only [Bool.and_eq_true] at hc
          obtain ⟨⟨⟨ht,hb0⟩,hb1⟩,hzz⟩:=hc
          obtain rfl:=Nat.eq_of_beq_eq_true ht
          cases hzv:info.zero with
          |none=>simp [hzv] at hzz
          |some zv =>
           simp only [hzv] at hzz
           have hzs:=Nat.eq_of_beq_eq_true hzz
           have hargs':args=#[x,y]:=by rw [← hargs]
           have hts':ts=#[t,t]:=by rw [← hts]
           subst hargs'; subst hts'
           intro w hw
           obtain ⟨xs,q1,g1⟩:=ArrA.split (show Sat W0 (ArrA a' c l::B::Γ) w from hw)
           have g2:Sat W0 (B::RowsA (Rw.k α) a' c (rowsOf l xs)::KnA l xs::Γ) w:=g1.less (.take (.there (.there .here)) (.take .here (.take .here .refl)))
           obtain ⟨ys',q2,g3⟩:=g2.read hB
           have g4:Sat W0 (RowsA (Rw.k α) a' c (rowsOf l xs)::B.and (LieA a2' ys ys')::KnA l xs::Γ) w:=g3.less (.take (.there .here) (.take .here .refl))
           have hrd:Reads W0 (RowsA (Rw.k α) a' c (rowsOf l xs)::B.and (LieA a2' ys ys')::KnA l xs::Γ) a2' (rowsOf ys ys'):=by
            intro w hw j v hj
            have hw1:=hw.pull (.there .here)
            obtain ⟨S,I,⟨S1,S2,p1,p2,p3,⟨p4,p5,p6,p7⟩,p8⟩,r⟩:=hw1
            rcases p6 with p6 | ⟨b,off,cc,T,fr,e1,e2,e3,e4⟩
            · rw [p6] at hj; simp at hj
            · exact ⟨_,e1,by rw [add_none,cell_of e3]; exact e4 j v hj⟩
           have hst:=st_append (P:=P) (W0:=W0) (e:=s.env) (op:=s.op.op) (ty:=s.op.type) (k:=Rw.k α) (a1:=a') (a2:=a2') (cap:=c) (rows:=rowsOf l xs) (news:=rowsOf ys ys') t s.op.type E c2 info zv (fun w=>by
            rw [hop]
            have e9:execOp (ev s.env) (bare (Op.call { callee:=Callee.builtin Builtin.append,args:=#[x,y],argTypes:=#[t,t] }) s.op.type)=(Builtin.append_ #[t,t] s.op.type #[ev s.env x,ev s.env y] >>= fun v=>pure (Next.value v)):=by kernel_rfl
            rw [e9,e1,e2,rowsOf_len q1,rowsOf_len q2]) e3 hi hzv hk (by rw [hzs,hk]) .here hrd rowsOf_k rowsOf_one (by
             rw [rowsOf_len q1,rowsOf_len q2]
             rw [List.length_append] at hn
             exact Nat.le_trans (Nat.mul_le_mul hn (Nat.le_of_ble_eq_true hb1)) (by decide)) (by simpa using hb0)
           intro ro o aa K Q kk
           refine hst w g4 ro o aa K Q ?_
           rintro v Δ w' ⟨a3,c3,rfl,rfl⟩ hw'
           refine kk _ _ w' ⟨(a3,c3),?_,rfl⟩ ?_
           · rw [rowsOf_len q1,rowsOf_len q2,List.length_append]
           · have g5:Sat W0 (B.and (LieA a2' ys ys')::RowsA (Rw.k α) a3 c3 (rowsOf l xs++rowsOf ys ys')::KnA l xs::Γ) w':=hw'.less (.take (.there .here) (.take .here .refl))
             have g6:Sat W0 (ArrA a3 c3 (l++ys)::B::Γ) w':=by
              obtain ⟨S,I,⟨S1,S2,p1,p2,p3,⟨p4,p5,p6,p7⟩,T1,T2,k1,k2,k3,k4,U1,U2,u1,u2,u3,u4,u5⟩,r⟩:=g5
              refine ⟨S,I,⟨T1,fun b=>S1 b∨U2 b,fun b hb=>p2 b (k1 b hb),fun b hb=>hb.elim (p1 b) fun hu=>p2 b (k2 b (u2 b hu)),fun b hb hc=>hc.elim (fun hs=>p3 b hs (k1 b hb)) fun hu=>k3 b hb (u2 b hu),⟨xs++ys',by simp [q1,q2],?_,fun i a x e1 e2=>?_⟩,S1,U2,fun _ hb=>.inl hb,fun _ hb=>.inr hb,fun b hs hu=>p3 b hs (k2 b (u2 b hu)),p4,u5⟩,r⟩
              · have:rowsOf (l++ys) (xs++ys')=rowsOf l xs++rowsOf ys ys':=List.zipWith_append q1.symm
                rw [this]; exact k4
              · rcases Nat.lt_or_ge i l.length with hi' | hi'
                · rw [List.getElem?_append_left hi'] at e1
                  rw [List.getElem?_append_left (by omega)] at e2
                  exact u4 i a x e1 e2
                · rw [List.getElem?_append_right hi'] at e1
                  rw [List.getElem?_append_right (by omega),q1] at e2
                  exact p7 _ a x e1 e2
             exact g6
       · cases hx
     · cases hx
   · cases hx
 · cases hx
theorem xa {X:Ctx} {s:XS} (h:List Nat) (ia:List Nat) {a a2:Option Addr} {cap:Nat} {l ys zs:List α} {B:Asn} {cap2:Nat} (hB:Rdb B a2 cap2 ys) (hz:l++ys=zs) (hn:zs.length≤1099511627776)
 (k:∀ z:Option Addr×Nat,G X ((s.dr X h).put [] ia (.slice z.1 zs.length z.2) ⟨[],[ArrA z.1 z.2 zs,B]⟩))
 (hq:(s.dq X h).map (·.1)=(s.dq X h).map (·.2):=by kernel_rfl) (hp:s.dp X h=[]:=by kernel_rfl) (hpa:pkA ia (s.dr X h).gam=[ArrA a cap l,B]:=by kernel_rfl)
 (hx:apOf X.P (s.dr X h)=some (a,l.length,cap,a2,ys.length,Rw.k α):=by kernel_rfl) (h1:oks ((s.dr X h).ok1 X.n)=okr ((s.dr X h).ok1 X.n):=by kernel_rfl)
 (h2:∀ z:Option Addr×Nat,oks ((s.dr X h).okP X [] ia (.slice z.1 zs.length z.2) ⟨[],[ArrA z.1 z.2 zs,B]⟩)=okr ((s.dr X h).okP X [] ia (.slice z.1 zs.length z.2) ⟨[],[ArrA z.1 z.2 zs,B]⟩):=by intro _; kernel_rfl) (h3:∀ z:Option Addr×Nat,(s.dr X h).ol1=(s.dr X h).olP [] ia ⟨[],[ArrA z.1 z.2 zs,B]⟩:=by intro _; kernel_rfl):G X s:=by
 refine ⟨x0 h ?_ hq hp⟩
 generalize s.dr X h=s at *
 subst hz
 refine step_oc (io:=[]) (ia:=ia) (pre:=⟨[],[ArrA a cap l,B]⟩) (rv:=fun z:Option Addr×Nat=>Value.slice z.1 (l++ys).length z.2) (post:=fun z=>⟨[],[ArrA z.1 z.2 (l++ys),B]⟩) (fun Γ=>?_) rfl hpa h1 h2 h3 fun z=>(k z).get
 exact ap_step hB hn hx Γ
end
section
open Go Go.RowKit
def chk {α:Type} (p:Prop) [Decidable p] (x:Option α):Option α:=if p then x else none
def letP {α β:Type} (e:β) (k:β→Option α):Option α:=k e
section
variable {α β:Type} {x z:Option α} {y:α}
theorem chkE {p:Prop} [Decidable p] (h:chk p x=some y):p∧x=some y:=by
 unfold chk at h
 split at h
 · exact ⟨by assumption,h⟩
 · cases h
theorem bindE {u:Option β} {k:β→Option α} (h:u.bind k=some y):∃ v,u=some v∧k v=some y:=by
 cases u with
 |none=>cases h
 |some v=>exact ⟨v,rfl,h⟩
section
variable {X:Ctx} {s:XS}
theorem chkG {p:Prop} [Decidable p] {x:Option α} (h:chk p x=some y) (k:p→x=some y→G X s):G X s:=let ⟨h1,h2⟩:=chkE h; k h1 h2
theorem letG {e:β} {f:β→Option α} (h:letP e f=some y) (k:∀ u,e=u→f u=some y→G X s):G X s:=k e rfl h
theorem bindG {u:Option β} {f:β→Option α} (h:u.bind f=some y) (k:∀ v,u=some v→f v=some y→G X s):G X s:=let ⟨v,h1,h2⟩:=bindE h; k v h1 h2
end
theorem someE {a:α} (h:some a=some y):a=y:=Option.some.inj h
theorem noneE (h:(none:Option α)=some y):False:=by cases h
def optV {α:Type} (o:Option α) (b:Nat):Value:=match o with | none=>.pointer none | some _=>.pointer (some ⟨b,0,none⟩)
def optA {α:Type} (A:α→Asn) (o:Option α):Asn:=match o with | none=>Asn.pure True | some x=>A x
def optM {α β:Type} (o:Option α) (f:α→Option β) (n:Option β):Option β:=match o with | none=>n | some x=>f x
theorem optE {α β:Type} {o:Option α} {f:α→Option β} {n:Option β} {y:β} (h:optM o f n=some y):(o=none∧n=some y)∨∃ x,o=some x∧f x=some y:=by
 cases o with
 |none=>exact .inl ⟨rfl,h⟩
 |some x=>exact .inr ⟨x,rfl,h⟩
theorem optG {α β:Type} {o:Option α} {f:α→Option β} {n:Option β} {y:β} {X:Ctx} {s:XS} (h:optM o f n=some y) (k1:o=none→n=some y→G X s) (k2:∀ x,o=some x→f x=some y→G X s):G X s :=
 (optE h).elim (fun ⟨h1,h2⟩=>k1 h1 h2) fun ⟨x,h1,h2⟩=>k2 x h1 h2
theorem optV_n {α:Type} {o:Option α} (b:Nat) (h:o=none):optV o b=.pointer none:=by rw [h]; rfl
theorem optV_s {α:Type} {o:Option α} {x:α} (b:Nat) (h:o=some x):optV o b=.pointer (some ⟨b,0,none⟩):=by rw [h]; rfl
theorem gh_opt {α:Type} {A:α→Asn} {o:Option α} {x:α} (h:o=some x):Gh ⟨[],[optA A o]⟩ fun _:Unit=>⟨[],[A x]⟩:=by
 subst h; exact fun _ _ _ hw=>⟨(),hw⟩
theorem chk_true {p:Prop} [Decidable p] (hp:p):chk p x=x:=by simp [chk,hp]
end
theorem ov_rem {P:Program} {a b:Int} (hb:1≤b):Ov P (Op.intDiv .rem .i64 a b >>= fun v=>pure (Next.value v)) (.int .i64 (a.tmod b)):=by
 intro w
 refine run_seq (x:=.int .i64 (a.tmod b)) (w':=w) ?_ rfl
 simp [Op.intDiv,show b≠0 from by omega]
theorem ov_quo {P:Program} {a b:Int} (hb:1≤b):Ov P (Op.intDiv .quo .i64 a b >>= fun v=>pure (Next.value v)) (.int .i64 (wr (a.tdiv b))):=by
 intro w
 refine run_seq (x:=.int .i64 (wr (a.tdiv b))) (w':=w) ?_ rfl
 simp [Op.intDiv,wr,show b≠0 from by omega]
def U8:Type:=Int
def bxor (k:IntKind) (x y:Int):Int:=k.wrap ((BitVec.ofInt k.bits x ^^^ BitVec.ofInt k.bits y).toNat:Nat)
def bor (k:IntKind) (x y:Int):Int:=k.wrap ((BitVec.ofInt k.bits x ||| BitVec.ofInt k.bits y).toNat:Nat)
def shlI (k:IntKind) (x n:Int):Int:=k.wrap (x*2 ^ (min n.toNat k.bits))
def shrI (k:IntKind) (x n:Int):Int:=x.fdiv (2 ^ (min n.toNat k.bits))
theorem ov_shl {P:Program} {k yk:IntKind} {a n:Int} (hn:0≤n):Ov P (Op.shift .shl k a yk n >>= fun v=>pure (Next.value v)) (.int k (shlI k a n)):=by
 intro w
 refine run_seq (x:=.int k (shlI k a n)) (w':=w) ?_ rfl
 simp [Op.shift,shlI,show ¬ n<0 from by omega]
theorem ov_shr {P:Program} {k yk:IntKind} {a n:Int} (hn:0≤n):Ov P (Op.shift .shr k a yk n >>= fun v=>pure (Next.value v)) (.int k (shrI k a n)):=by
 intro w
 refine run_seq (x:=.int k (shrI k a n)) (w':=w) ?_ rfl
 simp [Op.shift,shrI,show ¬ n<0 from by omega]
instance rwInt:Rw Int where
 X:=Unit
 k:=1
 cells n _:=[.int .i64 n]
 asn _ _:=Asn.pure True
 d:=0
 len _ _:=rfl
 one _ _:=rfl
 dup _ _ _ _ _ h:=h
instance rwU8:Rw U8 where
 X:=Unit
 k:=1
 cells n _:=[.int .u8 n]
 asn _ _:=Asn.pure True
 d:=(0:Int)
 len _ _:=rfl
 one _ _:=rfl
 dup _ _ _ _ _ h:=h
theorem imm_dup {α:Type} [Rw α] (a:Option Addr) (cap:Nat) (l:List α) (S I:Nat→Prop) (h:Nat→Option Obj) (q:(ImmA a cap l).holds S I h):(ImmA a cap l).holds (fun _=>False) I h:=q
theorem imm_nil {α:Type} [Rw α] {a:Option Addr} {cap:Nat} {S I:Nat→Prop} {h:Nat→Option Obj}:(ImmA a cap ([]:List α)).holds S I h:=⟨Nat.zero_le _,[],rfl,⟨fun r hr=>by simp [rowsOf] at hr,.inl rfl⟩,fun i a x h=>by simp at h⟩
instance rwList {α:Type} [Rw α]:Rw (List α) where
 X:=Option Addr×Nat
 k:=1
 cells l x:=[.slice x.1 l.length x.2]
 asn l x:=ImmA x.1 x.2 l
 d:=[]
 len _ _:=rfl
 one _ _:=rfl
 dup _ _:=imm_dup _ _ _
def nthB (xs:List U8) (i:Int):Int:=nthT xs i
def nth (xs:List Int) (i:Int):Int:=xs.getD i.toNat 0
theorem set_len {α:Type} [Rw α] {l m:List α} {i:Int} {e:α} (h:setT l i e=m):l.length=m.length:=by
 rw [← h]; simp [setT]
end
section
open Go Go.RowKit
structure KV where
 key:Int
 val:Value
 born:Nat
def kvE (x:KV):MapEntry:={ key:=.int .i64 x.key,val:=x.val,born:=x.born }
def mapO (l:List KV) (clock:Nat):Obj:=.map (l.map kvE).toArray clock
def kvFind (k:Int):List KV→Nat→Option (Nat×Value)
 |[],_=>none
 |x::l,i=>if k=x.key then some (i,x.val) else kvFind k l (i+1)
theorem findNow_int (k:Int) (ik:IntKind):∀ (l:List KV) (i:Nat),Instr.findNow (.int ik) (.int .i64 k) (l.map kvE) i=some (kvFind k l i)
 |[],i=>rfl
 |x::l,i=>by
  have ih:=findNow_int k ik l (i+1)
  simp only [List.map_cons,Instr.findNow,kvE,Instr.sameNow,if_true,kvFind]
  by_cases h:k=x.key
  · simp [h]
  · have:(k == x.key)=false:=by simpa using h
    rw [this,if_neg h]; exact ih
section
variable {P:Program} {n:Nat} {W0 w:World} {e:Env} {Γ Γ':List Asn} {op:Op} {ty:TypeId} {t K V b clock:Nat} {l:List KV} {k:Int} {v:Value}
theorem run_findKey {ik:IntKind} (hK:P.underlying K=some (.int ik)):(Instr.findKey K (.int .i64 k) (l.map kvE)).run P w=.ok (kvFind k l 0) w:=by
 unfold Instr.findKey
 refine run_seq (run_underlying hK _) ?_
 rw [findNow_int]; rfl
theorem run_checkKey {ik:IntKind} (empty:Bool) (hK:P.underlying K=some (.int ik)):(Instr.checkKey empty 10000 K (.int .i64 k)).run P w=.ok () w:=by
 unfold Instr.checkKey
 refine run_seq (run_underlying hK _) ?_
 rfl
theorem run_insert_new {ik:IntKind} (ht:P.underlying t=some (.map K V)) (hK:P.underlying K=some (.int ik)) (h0:Sat W0 (Asn.own b (mapO l clock)::Γ') w) (hn:kvFind k l 0=none) :
 ∃ w',(Instr.mapUpdate t (.map (some b)) (.int .i64 k) v).run P w=.ok () w'∧Sat W0 (Asn.own b (mapO (l++[⟨k,v,clock⟩]) (clock+1))::Γ') w':=by
 have hb:=h0.own_at
 refine ⟨{ w with heap:=w.heap.setIfInBounds b (mapO (l++[⟨k,v,clock⟩]) (clock+1)) },?_,?_⟩
 · unfold Instr.mapUpdate
   refine run_seq (run_underlying ht _) ?_
   refine run_seq (Go.MapKept.run_getObj_map hb) ?_
   refine run_seq (run_checkKey false hK) ?_
   have hf:=run_findKey (P:=P) (w:=w) (l:=l) (k:=k) hK
   rw [hn] at hf
   refine run_seq (by simpa using hf) ?_
   rw [show ((l.map kvE).toArray.push { key:=.int .i64 k,val:=v,born:=clock })=((l++[(⟨k,v,clock⟩:KV)]).map kvE).toArray by simp [kvE]]
   exact Go.MapKept.run_setObj_map _ hb
 · refine h0.put rfl rfl rfl (by simp) ?_ fun c hc=>by simp [Ne.symm hc]
   have hlt:b<w.heap.size:=(Array.getElem?_eq_some_iff.1 hb).1
   simp [hlt]
theorem run_insert_old {ik:IntKind} {i:Nat} {u:Value} (ht:P.underlying t=some (.map K V)) (hK:P.underlying K=some (.int ik)) (h0:Sat W0 (Asn.own b (mapO l clock)::Γ') w) {x:KV} (hn:kvFind k l 0=some (i,u)) (hi:l[i]?=some x) (hxk:x.key=k) :
 ∃ w',(Instr.mapUpdate t (.map (some b)) (.int .i64 k) v).run P w=.ok () w'∧Sat W0 (Asn.own b (mapO (l.set i ⟨k,v,x.born⟩) clock)::Γ') w':=by
 have hb:=h0.own_at
 have hil:i<l.length:=(List.getElem?_eq_some_iff.1 hi).1
 have hlx:l[i]=x:=(List.getElem?_eq_some_iff.1 hi).2
 refine ⟨{ w with heap:=w.heap.setIfInBounds b (mapO (l.set i ⟨k,v,x.born⟩) clock) },?_,?_⟩
 · unfold Instr.mapUpdate
   refine run_seq (run_underlying ht _) ?_
   refine run_seq (Go.MapKept.run_getObj_map hb) ?_
   refine run_seq (run_checkKey false hK) ?_
   have hf:=run_findKey (P:=P) (w:=w) (l:=l) (k:=k) hK
   rw [hn] at hf
   refine run_seq (by simpa using hf) ?_
   refine run_seq (w':=w) (x:=.int .i64 k) ?_ ?_
   · have:(((l.map kvE).toArray[i]?).map (·.key)).getD (.int .i64 k)=.int .i64 k:=by
      simp [hi,kvE,hxk]
     rw [this]
     unfold Instr.keyThatStays
     simp [Instr.sameBits]
   · have:((l.map kvE).toArray.modify i fun e=>{ e with key:=.int .i64 k,val:=v })=((l.set i (⟨k,v,x.born⟩:KV)).map kvE).toArray:=by
      apply Array.ext'
      simp only [Array.toList_modify]
      apply List.ext_getElem?
      intro j
      rw [List.getElem?_modify]
      by_cases h:i=j
      · subst h; simp [kvE,hil,hlx]
      · simp [h]
     rw [this]
     exact Go.MapKept.run_setObj_map _ hb
 · have hlt:b<w.heap.size:=(Array.getElem?_eq_some_iff.1 hb).1
   refine h0.put rfl rfl rfl (by simp) ?_ fun c hc=>by simp [Ne.symm hc]
   simp [hlt]
def kvGet (z:Value) (k:Int) (l:List KV):Value×Bool:=match kvFind k l 0 with | some (_,v)=>(v,true) | none=>(z,false)
theorem run_lookup {ik:IntKind} {o:Oper} {z:Value} {info:TypeInfo} (ok:Bool) (hx:∀ w,(execOp (ev e) o).run P w=(Instr.lookup t (.map (some b)) (.int .i64 k) ok >>= fun v=>pure (Next.value v)).run P w)
 (ht:P.underlying t=some (.map K V)) (hK:P.underlying K=some (.int ik)) (hi:P.info? V=some info) (hz:info.zero=some z) (hp:Pull Γ (Asn.own b (mapO l clock)) Γ') :
 ∀ w,Sat W0 Γ w→(execOp (ev e) o).run P w=.ok (.value (if ok then .tuple #[(kvGet z k l).1,.bool (kvGet z k l).2] else (kvGet z k l).1)) w:=by
 intro w hw
 have hb:=(hw.pull hp).own_at
 rw [hx]
 refine run_seq (w':=w) (x:=if ok then .tuple #[(kvGet z k l).1,.bool (kvGet z k l).2] else (kvGet z k l).1) ?_ rfl
 unfold Instr.lookup
 refine run_seq (run_underlying ht _) ?_
 dsimp only
 refine run_seq (Go.MapKept.run_getObj_map hb) ?_
 dsimp only
 refine run_seq (x:=(l.map kvE).toArray) (w':=w) rfl ?_
 refine run_seq (run_checkKey _ hK) ?_
 have hf:=run_findKey (P:=P) (w:=w) (l:=l) (k:=k) hK
 unfold kvGet
 cases hk:kvFind k l 0 with
 |none =>
  rw [hk] at hf
  refine run_seq (x:=none) (w':=w) (by simpa using hf) ?_
  dsimp only
  refine run_seq (x:=z) (w':=w) (by simp [zeroValue,typeInfo,hi,hz]) ?_
  refine run_seq (x:=(z,false)) (w':=w) rfl ?_
  cases ok <;> rfl
 |some p =>
  rw [hk] at hf
  refine run_seq (x:=some p) (w':=w) (by simpa using hf) ?_
  refine run_seq (x:=(p.2,true)) (w':=w) rfl ?_
  cases ok <;> rfl
end
end
section
open Go Go.RowKit
section pure
variable {α β:Type}
def mget:List (Int×α)→Int→Option α
 |[],_=>none
 |p::r,k=>if k=p.1 then some p.2 else mget r k
def mset:List (Int×α)→Int→α→List (Int×α)
 |[],k,v=>[(k,v)]
 |p::r,k,v=>if k=p.1 then (p.1,v)::r else p::mset r k v
def mdel:List (Int×α)→Int→List (Int×α)
 |[],_=>[]
 |p::r,k=>if k=p.1 then r else p::mdel r k
end pure
theorem erase_map {α β:Type} (f:α→β):∀ (l:List α) (j:Nat),(l.map f).eraseIdx j=(l.eraseIdx j).map f
 |[],_=>rfl
 |_::_,0=>rfl
 |x::l,j+1=>by simp [erase_map f l j]
def pairKV (x:KV):Int×Value:=(x.key,x.val)
def stamps (l:List KV) (clock:Nat):Prop:=(∀ x∈l,x.born<clock)∧(l.map KV.born).Nodup
def KMapA (b:Nat) (l:List (Int×Value)):Asn :=
 .ex fun x:List KV×Nat=>.star [.own b (mapO x.1 x.2),.pure (x.1.map pairKV=l∧stamps x.1 x.2)]
theorem kvFind_none {k:Int}:∀ {l:List KV} {i:Nat},kvFind k l i=none→mget (l.map pairKV) k=none
 |[],_,_=>rfl
 |x::l,i,h=>by
  unfold kvFind at h
  by_cases hk:k=x.key
  · simp [hk] at h
  · simp only [hk,if_false] at h
    simpa [mget,pairKV,hk] using kvFind_none h
theorem kvFind_some {k:Int}:∀ {l:List KV} {i j:Nat} {u:Value},kvFind k l i=some (j,u)→i≤j∧mget (l.map pairKV) k=some u∧∃ x,l[j - i]?=some x∧x.key=k∧x.val=u ∧
 (∀ v:Value,mset (l.map pairKV) k v=(l.set (j - i) ⟨k,v,x.born⟩).map pairKV)∧mdel (l.map pairKV) k=(l.eraseIdx (j - i)).map pairKV
 |[],_,_,_,h=>by simp [kvFind] at h
 |x::l,i,j,u,h=>by
  unfold kvFind at h
  by_cases hk:k=x.key
  · simp only [hk,if_true,Option.some.injEq,Prod.mk.injEq] at h
    obtain ⟨rfl,rfl⟩:=h
    refine ⟨Nat.le_refl _,by simp [mget,pairKV,hk],x,by simp,hk.symm,rfl,fun v=>?_,?_⟩
    · simp [mset,pairKV,hk]
    · simp [mdel,pairKV,hk]
  · simp only [hk,if_false] at h
    obtain ⟨h1,h2,y,h3,h4,h5,h6,h7⟩:=kvFind_some h
    have e:j - i=(j - (i+1))+1:=by omega
    refine ⟨by omega,by simpa [mget,pairKV,hk] using h2,y,by rw [e]; simpa using h3,h4,h5,fun v=>?_,?_⟩
    · rw [e]
      have:=h6 v
      simp only [List.map_cons,List.set_cons_succ]
      rw [← this]
      simp [mset,pairKV,hk]
    · rw [e]
      simp only [List.map_cons,List.eraseIdx_cons_succ]
      rw [← h7]
      simp [mdel,pairKV,hk]
theorem kvFind_miss {k:Int} {l:List KV} (h:mget (l.map pairKV) k=none) (v:Value):mset (l.map pairKV) k v=l.map pairKV++[(k,v)]∧mdel (l.map pairKV) k=l.map pairKV:=by
 induction l with
 |nil=>exact ⟨rfl,rfl⟩
 |cons x l ih =>
  simp only [List.map_cons,mget] at h
  by_cases hk:k=(pairKV x).1
  · simp [hk] at h
  · rw [if_neg hk] at h
    obtain ⟨h1,h2⟩:=ih h
    simp [mset,mdel,hk,h1,h2]
section
variable {P:Program} {n:Nat} {W0 w:World} {e:Env} {Γ Γ':List Asn} {op:Op} {ty:TypeId} {t K V b clock:Nat} {k:Int} {v:Value} {l:List (Int×Value)}
theorem KMapA.mk {kvs:List KV} (hl:kvs.map pairKV=l) (hs:stamps kvs clock) (h:Sat W0 (Asn.own b (mapO kvs clock)::Γ) w):Sat W0 (KMapA b l::Γ) w :=
 Sat.ex_mk (kvs,clock) (Sat.star_mk ((Sat.pure_mk ⟨hl,hs⟩ h).less (.take (.there .here) (.take .here .refl))))
theorem KMapA.of (h:Sat W0 (KMapA b l::Γ) w):∃ kvs clock,kvs.map pairKV=l∧stamps kvs clock∧Sat W0 (Asn.own b (mapO kvs clock)::Γ) w:=by
 obtain ⟨x,hx⟩:=h.ex_of
 have h1:=hx.star_of.less (.take (.there .here) (.take .here .refl))
 obtain ⟨h2,h3⟩:=h1.pure_of
 exact ⟨x.1,x.2,h2.1,h2.2,h3⟩
theorem kmap_lookup {ik:IntKind} {o:Oper} {z:Value} {info:TypeInfo} (ok:Bool) (hx:∀ w,(execOp (ev e) o).run P w=(Instr.lookup t (.map (some b)) (.int .i64 k) ok >>= fun v=>pure (Next.value v)).run P w)
 (ht:P.underlying t=some (.map K V)) (hK:P.underlying K=some (.int ik)) (hi:P.info? V=some info) (hz:info.zero=some z) (hp:Pull Γ (KMapA b l) Γ') :
 ∀ w,Sat W0 Γ w→(execOp (ev e) o).run P w=.ok (.value (if ok then .tuple #[(mget l k).getD z,.bool (mget l k).isSome] else (mget l k).getD z)) w:=by
 intro w hw
 obtain ⟨kvs,clock,hl,hs,h1⟩:=KMapA.of (hw.pull hp)
 have h2:=run_lookup (Γ:=Asn.own b (mapO kvs clock)::Γ') (z:=z) ok hx ht hK hi hz .here w h1
 rw [h2]
 have:kvGet z k kvs=((mget l k).getD z,(mget l k).isSome):=by
  unfold kvGet
  subst hl
  cases hf:kvFind k kvs 0 with
  |none=>simp [kvFind_none hf]
  |some p =>
   obtain ⟨j,u⟩:=p
   obtain ⟨_,h3,_⟩:=kvFind_some hf
   simp [h3]
 rw [this]
theorem run_kmap_set {ik:IntKind} (ht:P.underlying t=some (.map K V)) (hK:P.underlying K=some (.int ik)) (hw:Sat W0 (KMapA b l::Γ') w):∃ w',(Instr.mapUpdate t (.map (some b)) (.int .i64 k) v).run P w=.ok () w'∧Sat W0 (KMapA b (mset l k v)::Γ') w':=by
 obtain ⟨kvs,clock,hl,hs,h1⟩:=KMapA.of hw
 subst hl
 cases hf:kvFind k kvs 0 with
 |none =>
  obtain ⟨w',r1,hw'⟩:=run_insert_new (v:=v) ht hK h1 hf
  refine ⟨w',r1,KMapA.mk ?_ ?_ hw'⟩
  · rw [(kvFind_miss (kvFind_none hf) v).1]; simp [pairKV]
  · refine ⟨fun x hx=>?_,?_⟩
    · rcases List.mem_append.1 hx with hx | hx
      · exact Nat.lt_succ_of_lt (hs.1 x hx)
      · simp only [List.mem_singleton] at hx; subst hx; exact Nat.lt_succ_self _
    · rw [List.map_append,List.nodup_append]
      refine ⟨hs.2,by simp,?_⟩
      intro a ha c hc
      simp only [List.map_cons,List.map_nil,List.mem_singleton] at hc
      subst hc
      obtain ⟨x,hx,rfl⟩:=List.mem_map.1 ha
      exact Nat.ne_of_lt (hs.1 x hx)
 |some p =>
  obtain ⟨j,u⟩:=p
  obtain ⟨_,_,x,h3,h4,_,h6,_⟩:=kvFind_some hf
  simp only [Nat.sub_zero] at h3 h6
  obtain ⟨w',r1,hw'⟩:=run_insert_old (v:=v) ht hK h1 hf h3 h4
  refine ⟨w',r1,KMapA.mk (h6 v).symm ?_ hw'⟩
  have hborn:(kvs.set j ⟨k,v,x.born⟩).map KV.born=kvs.map KV.born:=by
   rw [List.map_set]
   apply List.ext_getElem?
   intro q
   by_cases hq:j=q
   · subst hq
     have hl:j<kvs.length:=(List.getElem?_eq_some_iff.1 h3).1
     simp [hl,h3]
     have:=(List.getElem?_eq_some_iff.1 h3).2
     rw [this]
   · rw [List.getElem?_set_ne hq]
  refine ⟨fun y hy=>?_,by rw [hborn]; exact hs.2⟩
  have:y.born∈kvs.map KV.born:=by rw [← hborn]; exact List.mem_map.2 ⟨y,hy,rfl⟩
  obtain ⟨z,hz,he⟩:=List.mem_map.1 this
  rw [← he]; exact hs.1 z hz
theorem run_kmap_del {ik:IntKind} {t2 tr:TypeId} (ht:P.underlying t=some (.map K V)) (hK:P.underlying K=some (.int ik)) (hw:Sat W0 (KMapA b l::Γ') w):∃ w',(Builtin.delete_ #[t,t2] tr #[.map (some b),.int .i64 k]).run P w=.ok (.tuple #[]) w'∧Sat W0 (KMapA b (mdel l k)::Γ') w':=by
 obtain ⟨kvs,clock,hl,hs,h1⟩:=KMapA.of hw
 subst hl
 have hb:=h1.own_at
 have hf:=run_findKey (P:=P) (w:=w) (l:=kvs) (k:=k) hK
 have hlt:b<w.heap.size:=(Array.getElem?_eq_some_iff.1 hb).1
 have main:∀ kvs':List KV,kvs'.map pairKV=mdel (kvs.map pairKV) k→stamps kvs' clock →
  (match kvFind k kvs 0 with | some (i,_)=>((kvs.map kvE).toArray.eraseIdxIfInBounds i) | none=>(kvs.map kvE).toArray)=(kvs'.map kvE).toArray →
  ∃ w',(Builtin.delete_ #[t,t2] tr #[.map (some b),.int .i64 k]).run P w=.ok (.tuple #[]) w'∧Sat W0 (KMapA b (mdel (kvs.map pairKV) k)::Γ') w':=by
  intro kvs' h5 h6 h7
  refine ⟨{ w with heap:=w.heap.setIfInBounds b (mapO kvs' clock) },?_,KMapA.mk h5 h6 (h1.put rfl rfl rfl (by simp) (by simp [hlt]) fun c hc=>by simp [Ne.symm hc])⟩
  unfold Builtin.delete_
  dsimp only
  refine run_seq (run_underlying ht _) ?_
  refine run_seq (Go.MapKept.run_getObj_map hb) ?_
  dsimp only
  refine run_seq (run_checkKey _ hK) ?_
  refine run_seq (x:=kvFind k kvs 0) (w':=w) (by simpa using hf) ?_
  cases hq:kvFind k kvs 0 with
  |none =>
   rw [hq] at h7
   dsimp only at h7 ⊢
   rw [h7]
   exact run_seq (Go.MapKept.run_setObj_map _ hb) rfl
  |some p =>
   obtain ⟨i,u⟩:=p
   rw [hq] at h7
   dsimp only at h7 ⊢
   rw [h7]
   exact run_seq (Go.MapKept.run_setObj_map _ hb) rfl
 cases hq:kvFind k kvs 0 with
 |none=>exact main kvs (kvFind_miss (kvFind_none hq) undef).2.symm hs (by rw [hq])
 |some p =>
  obtain ⟨j,u⟩:=p
  obtain ⟨_,_,x,h3,_,_,_,h7⟩:=kvFind_some hq
  simp only [Nat.sub_zero] at h3 h7
  refine main (kvs.eraseIdx j) h7.symm ⟨fun y hy=>hs.1 y (List.mem_of_mem_eraseIdx hy),?_⟩ ?_
  · rw [← erase_map]; exact List.Nodup.sublist (List.eraseIdx_sublist _ _) hs.2
  · rw [hq]
    dsimp only
    apply Array.ext'
    have hl:j<kvs.length:=(List.getElem?_eq_some_iff.1 h3).1
    simp [Array.eraseIdxIfInBounds,hl,erase_map]
end
end
section
open Go Go.RowKit
section
variable {P:Program} {n:Nat} {W0 w:World} {e:Env} {Γ Γ':List Asn} {K:Act→World→Prop} {k:Nat} {a a1 a2:Option Addr} {cap:Nat} {rows news:List (List Value)} {xs ys zs:List Int}
theorem RowsA.take (m:Nat) (h:Sat W0 (RowsA k a cap rows::Γ) w):Sat W0 (RowsA k a cap (rows.take m)::Γ) w:=by
 refine Sat.head_imp (A:=RowsA k a cap rows) (B:=RowsA k a cap (rows.take m)) (fun S I h ⟨h1,h2⟩=>⟨fun r hr=>h1 r (List.mem_of_mem_take hr),?_⟩) h
 rcases h2 with ⟨rfl,rfl⟩ | ⟨b,off,c,T,q1,q2,q3,q4,q5,q6⟩
 · exact .inl ⟨by simp,rfl⟩
 · refine .inr ⟨b,off,c,T,q1,q2,q3,by simp; omega,q5,fun j v hj=>q6 j v ?_⟩
   have:rows.flatten=(rows.take m).flatten++(rows.drop m).flatten:=by rw [← List.flatten_append,List.take_append_drop]
   rw [this,List.getElem?_append_left]
   · exact hj
   · rcases Nat.lt_or_ge j (rows.take m).flatten.length with h | h
     · exact h
     · rw [List.getElem?_eq_none h] at hj; cases hj
theorem take_flat (h:∀ r∈rows,r.length=k) (m:Nat) (hm:m≤rows.length):(rows.take m).flatten.length=m*k:=by
 rw [flatten_length (fun r hr=>h r (List.mem_of_mem_take hr)),List.length_take,Nat.min_eq_left hm]
theorem run_within (t ty' E cap2 i j m:Nat) (info:TypeInfo) (ht:P.underlying t=some (.slice E)) (hi:P.info? E=some info) (hk:info.size=k) (h0:Sat W0 (RowsA k a cap rows::Γ) w)
 (hr:∀ q v,(rows.drop j).flatten[q]?=some v→∃ p,a2=some p∧w.cell? (p.add q)=some v) (hone:rows.flatten.all oneCell=true) (hij:i≤j) (hjm:j+m=rows.length) :
 ∃ w',(Builtin.append_ #[t,t] ty' #[.slice a i cap,.slice a2 m cap2]).run P w=.ok (.slice a (i+m) cap) w'∧Sat W0 (RowsA k a cap (rows.take i++rows.drop j++rows.drop (i+m))::Γ) w':=by
 subst hk
 obtain ⟨hrk,hlc⟩:=RowsA.len h0
 have hnk:∀ r∈rows.drop j,r.length=info.size:=fun r hr=>hrk r (List.mem_of_mem_drop hr)
 have hml:(rows.drop j).length=m:=by simp; omega
 have hnl:(rows.drop j).flatten.length=m*info.size:=by rw [flatten_length hnk,hml]
 have hf:=run_firstCells (P:=P) (w:=w) info.size m cap2 hnl hr
 have hone2:(rows.drop j).flatten.all oneCell=true:=by
  have:rows.flatten=(rows.take j).flatten++(rows.drop j).flatten:=by rw [← List.flatten_append,List.take_append_drop]
  rw [this,List.all_append,Bool.and_eq_true] at hone
  exact hone.2
 have hroom:i+m≤cap:=by omega
 have hrows':∀ r∈rows.take i++rows.drop j++rows.drop (i+m),r.length=info.size:=by
  intro r hr
  rcases List.mem_append.1 hr with hr | hr
  · rcases List.mem_append.1 hr with hr | hr
    · exact hrk r (List.mem_of_mem_take hr)
    · exact hnk r hr
  · exact hrk r (List.mem_of_mem_drop hr)
 have hlen':(rows.take i++rows.drop j++rows.drop (i+m)).length=rows.length:=by simp; omega
 have hrest:=h0
 obtain ⟨S,I,⟨S1,S2,h1,h2,h3,⟨_,h5⟩,h6⟩,d1,d2,d3,d4,d5⟩:=h0
 rcases h5 with ⟨rfl,rfl⟩ | ⟨b,off,c,T,rfl,q2,q3,q4,q5,q6⟩
 · have:i=0∧j=0∧m=0:=by simp at hjm; omega
   obtain ⟨rfl,rfl,rfl⟩:=this
   refine ⟨w,?_,by simpa using hrest⟩
   simp only [List.drop_nil,List.flatten_nil] at hf
   cases a <;> simp [Builtin.append_,run_underlying ht,Go.sizeOf,typeInfo,hi,Builtin.lenOf,hf,storeCells]
 · have hsz:off+(i*info.size)+0+(rows.drop j).flatten.length≤c.size:=by
    rw [hnl,Nat.add_zero,Nat.add_assoc,← Nat.add_mul]
    exact Nat.le_trans (Nat.add_le_add_left (Nat.mul_le_mul_right _ hroom) _) q5
   obtain ⟨w',r1,r2,r3,r4,r5,r6,r7⟩:=run_storeCells (P:=P) (off:=off+i*info.size) (rows.drop j).flatten 0 w c q3 (by omega) hone2
   have hne:∀ d,d≠b→w'.heap[d]?=w.heap[d]?:=r4
   have hnot:∀ d,S2 d∨I d→d≠b:=by
    rintro d hd rfl
    exact hd.elim (h3 d q2) (d1 d (h1 d q2))
   refine ⟨w',?_,S,I,⟨S1,S2,h1,h2,h3,⟨hrows',.inr ⟨b,off,_,T,rfl,q2,r2,by omega,?_,?_⟩⟩,h6.loc fun d hd=>hne d (hnot d hd)⟩,d1,fun d hd=>r3▸d2 d hd,fun d hd=>r3▸d3 d hd,d4,?_⟩
   · simp [Builtin.append_,run_underlying ht,Go.sizeOf,typeInfo,hi,Builtin.lenOf,hroom,hf,add_none,r1]
   · rw [putCells_size]; exact q5
   · intro q v hq
     rw [List.flatten_append,List.flatten_append,List.append_assoc,List.getElem?_append,take_flat hrk i (by omega),List.getElem?_append,hnl] at hq
     rw [putCells_get _ _ _ _ (by omega),hnl]
     split at hq
     · rename_i hlt
       rw [if_neg (by omega)]
       have e1:rows.flatten=(rows.take i).flatten++(rows.drop i).flatten:=by rw [← List.flatten_append,List.take_append_drop]
       exact q6 q v (by rw [e1,List.getElem?_append_left (by rw [take_flat hrk i (by omega)]; exact hlt)]; exact hq)
     · rename_i hge
       split at hq
       · rename_i hlt2
         rw [if_pos (by omega),show off+q - (off+i*info.size+0)=q - i*info.size from by omega]
         exact hq
       · rename_i hge2
         rw [if_neg (by omega)]
         have e1:rows.flatten=(rows.take (i+m)).flatten++(rows.drop (i+m)).flatten:=by rw [← List.flatten_append,List.take_append_drop]
         have e2:=take_flat hrk (i+m) (by omega)
         rw [Nat.add_mul] at e2
         refine q6 q v ?_
         rw [e1,List.getElem?_append_right (by omega),e2,show q - (i*info.size+m*info.size)=q - i*info.size - m*info.size from by omega]
         exact hq
   · exact ⟨r5.trans d5.os,r6.trans d5.tape,r7.trans d5.output,by rw [r3]; exact d5.size,fun d hd=>(hne d (hnot d (.inr (d4 d hd)))).trans (d5.block d hd)⟩
theorem run_clear (t ty' E cap2 p m:Nat) (info:TypeInfo) (zv:Value) (ht:P.underlying t=some (.slice E)) (hi:P.info? E=some info) (hz:info.zero=some zv) (hzs:zv.cells.size=k) (hzo:zv.cells.toList.all oneCell=true) (hk0:Nat.blt 0 k=true)
 (h0:Sat W0 (RowsA k a cap rows::Γ) w) (ha2:∀ b off,a=some ⟨b,off,none⟩→0<m→a2=some ⟨b,off+p*k,none⟩) (hpm:p+m=rows.length) :
 ∃ w',(Builtin.clear_ #[t] ty' #[.slice a2 m cap2]).run P w=.ok (.tuple #[]) w'∧Sat W0 (RowsA k a cap (rows.take p)::Γ) w':=by
 subst hzs
 obtain ⟨hrk,hlc⟩:=RowsA.len h0
 cases m with
 |zero =>
  refine ⟨w,?_,RowsA.take p h0⟩
  cases a2 <;> simp [Builtin.clear_,run_underlying ht]
 |succ m =>
  have hrest:=h0
  obtain ⟨S,I,⟨S1,S2,h1,h2,h3,⟨_,h5⟩,h6⟩,d1,d2,d3,d4,d5⟩:=h0
  rcases h5 with ⟨rfl,rfl⟩ | ⟨b,off,c,T,rfl,q2,q3,q4,q5,q6⟩
  · simp at hpm
  · obtain rfl:=ha2 b off rfl (by omega)
    have hzl:(Builtin.zeroCells zv.cells (m+1)).toList.length=(m+1)*zv.cells.size:=by simp [size_zeroCells]
    have hzall:(Builtin.zeroCells zv.cells (m+1)).toList.all oneCell=true:=by
     simp only [Builtin.zeroCells,Array.toList_map,List.all_map,List.all_eq_true]
     intro x hx
     have hk:0<zv.cells.size:=by simpa using hk0
     have hlt:x % zv.cells.size<zv.cells.size:=Nat.mod_lt _ hk
     rw [List.all_eq_true] at hzo
     simp only [Function.comp]
     rw [getElem!_pos zv.cells _ hlt]
     exact hzo _ (by simp)
    have hsz:off+p*zv.cells.size+0+(Builtin.zeroCells zv.cells (m+1)).toList.length≤c.size:=by
     rw [hzl,Nat.add_zero,Nat.add_assoc,← Nat.add_mul]
     exact Nat.le_trans (Nat.add_le_add_left (Nat.mul_le_mul_right _ (by omega)) _) q5
    obtain ⟨w',r1,r2,r3,r4,r5,r6,r7⟩:=run_storeCells (P:=P) (off:=off+p*zv.cells.size) (Builtin.zeroCells zv.cells (m+1)).toList 0 w c q3 (by omega) hzall
    have hne:∀ d,d≠b→w'.heap[d]?=w.heap[d]?:=r4
    have hnot:∀ d,S2 d∨I d→d≠b:=by
     rintro d hd rfl
     exact hd.elim (h3 d q2) (d1 d (h1 d q2))
    have hrk':∀ r∈rows.take p,r.length=zv.cells.size:=fun r hr=>hrk r (List.mem_of_mem_take hr)
    refine ⟨w',?_,S,I,⟨S1,S2,h1,h2,h3,⟨hrk',.inr ⟨b,off,_,T,rfl,q2,r2,by simp; omega,?_,?_⟩⟩,h6.loc fun d hd=>hne d (hnot d hd)⟩,d1,fun d hd=>r3▸d2 d hd,fun d hd=>r3▸d3 d hd,d4,?_⟩
    · simp [Builtin.clear_,run_underlying ht,zeroValue,typeInfo,hi,hz,r1]
    · rw [putCells_size]; exact q5
    · intro q v hq
      have hql:q<p*zv.cells.size:=by
       rw [← take_flat hrk p (by omega)]
       rcases Nat.lt_or_ge q (rows.take p).flatten.length with h | h
       · exact h
       · rw [List.getElem?_eq_none h] at hq; cases hq
      rw [putCells_get _ _ _ _ (by omega),if_neg (by omega)]
      have e1:rows.flatten=(rows.take p).flatten++(rows.drop p).flatten:=by rw [← List.flatten_append,List.take_append_drop]
      exact q6 q v (by rw [e1,List.getElem?_append_left (by rw [take_flat hrk p (by omega)]; exact hql)]; exact hq)
    · exact ⟨r5.trans d5.os,r6.trans d5.tape,r7.trans d5.output,by rw [r3]; exact d5.size,fun d hd=>(hne d (hnot d (.inr (d4 d hd)))).trans (d5.block d hd)⟩
theorem slice_front (c m:Nat) (h:(if m=0 then a else Option.map (fun x=>Addr.add x (0*c)) a)=a1):a1=a:=by
 subst h
 split
 · rfl
 · cases a <;> simp [Addr.add]
theorem reads_drop {j:Nat} (hr:Reads W0 Γ a rows) (hk:∀ r∈rows,r.length=k) (hk0:0<k) (hc:rows.length≤cap) (ha:a1=(if cap=j then a else Option.map (fun x=>Addr.add x (j*k)) a)):Reads W0 Γ a1 (rows.drop j):=by
 intro w hw q v hq
 have hne:j<rows.length:=by
  rcases Nat.lt_or_ge j rows.length with h | h
  · exact h
  · rw [List.drop_eq_nil_of_le h] at hq; simp at hq
 have e1:rows.flatten=(rows.take j).flatten++(rows.drop j).flatten:=by rw [← List.flatten_append,List.take_append_drop]
 have e2:=take_flat hk j (by omega)
 obtain ⟨p,hp,hc'⟩:=hr w hw (j*k+q) v (by rw [e1,List.getElem?_append_right (by omega),e2,show j*k+q - j*k=q from by omega]; exact hq)
 obtain ⟨p0,hp0,hc0⟩:=hr w hw 0 _ (List.getElem?_eq_getElem (by rw [e1,List.length_append,e2]; rcases Nat.eq_zero_or_pos j with h | h; (· subst h; have:=(List.getElem?_eq_some_iff.1 hq).1; omega); have:=Nat.mul_pos h hk0; omega))
 have hs:=spot_none hc0
 rw [if_neg (by omega),hp] at ha
 rw [hp] at hp0
 obtain rfl:=Option.some.inj hp0
 refine ⟨_,ha,?_⟩
 obtain ⟨b,o,sp⟩:=p
 subst hs
 rw [add_none] at hc'
 show w.cell? (((⟨b,o,none⟩:Addr).add (j*k)).add q)=some v
 rw [add_none,add_none,Nat.add_assoc]; exact hc'
theorem clear_place {p q:Nat} (ha:a1=(if cap=p then a else Option.map (fun x=>Addr.add x (p*k)) a)) (hq:p+q≤cap):∀ b off,a=some ⟨b,off,none⟩→0<q→a1=some ⟨b,off+p*k,none⟩:=by
 intro b off h1 h2
 rw [ha,if_neg (by omega),h1,Option.map_some,add_none]
end
section
variable {α:Type} [Rw α]
theorem xs2 {X:Ctx} {s:XS} (h:List Nat) {a:Option Addr} {m cap K:Nat} {lo hi mx:Int} (hb:0≤lo∧lo≤hi∧hi≤mx∧mx≤(cap:Int))
 (k:G X ((s.dr X h).putQ (.slice (if mx.toNat=lo.toNat then a else a.map (·.add (lo.toNat*K))) (hi.toNat - lo.toNat) (mx.toNat - lo.toNat))))
 (hq:(s.dq X h).map (·.1)=(s.dq X h).map (·.2):=by kernel_rfl) (hp:s.dp X h=[]:=by kernel_rfl)
 (hx:slOf X.P (s.dr X h)=some (a,m,cap,lo,hi,mx,K):=by kernel_rfl) (h1:oks ((s.dr X h).ok4 X.n)=okr ((s.dr X h).ok4 X.n):=by kernel_rfl):G X s:=by
 refine ⟨x0 h ?_ hq hp⟩
 generalize s.dr X h=s at *
 refine quiet_ok h1 (fun Γ=>StepTo.pure fun w=>?_) k.get
 unfold slOf at hx
 split at hx
 · rename_i t x lo' hi' mx' hop
   split at hx
   · rename_i a' m c E e1 e2
     split at hx
     · rename_i info lo2 hi2 mx2 i1 i2 i3 i4 i5
       simp only [Option.some.injEq,Prod.mk.injEq] at hx
       obtain ⟨rfl,rfl,rfl,rfl,rfl,rfl,hkk⟩:=hx
       rw [hop]
       refine slice_at (a:=a') (m:=m) (c:=c) (lo'.map (ev s.env)) (hi'.map (ev s.env)) (mx'.map (ev s.env)) info (fun w=>?_) e2 i1 hkk ?_ ?_ ?_ (by omega) (by omega) (by omega) w
       · show ((Instr.sliceAt t (ev s.env x) (lo'.map (ev s.env)) (hi'.map (ev s.env)) (mx'.map (ev s.env))) >>= fun v=>pure (Next.value v)).run X.P w=_
         rw [e1]
       · rcases bnd_ok i2 with ⟨q1,q2⟩ | q1
         · exact .inl ⟨q1,by rw [q2]; rfl⟩
         · exact .inr ⟨_,q1,by omega⟩
       · rcases bnd_ok i3 with ⟨q1,q2⟩ | q1
         · rcases bnd_ok i4 with ⟨q3,q4⟩ | q3
           · exact .inl ⟨q1,by rw [q2]; rfl,q3⟩
           · cases hi' <;> cases mx' <;> simp_all
         · exact .inr ⟨_,q1,by omega⟩
       · rcases bnd_ok i4 with ⟨q1,q2⟩ | q1
         · exact .inl ⟨q1,by rw [q2]; rfl⟩
         · exact .inr ⟨_,q1,by omega⟩
     · cases hx
   · cases hx
 · cases hx
theorem KnA.sub {W0 w:World} {Γ:List Asn} {l l':List α} {xs xs':List (Rw.X α)} (h:Sat W0 (KnA l xs::Γ) w) (hs:∀ (i:Nat) (a:α) (x:Rw.X α),l'[i]?=some a→xs'[i]?=some x→∃ j:Nat,l[j]?=some a∧xs[j]?=some x):Sat W0 (KnA l' xs'::Γ) w :=
 Sat.head_imp (A:=KnA l xs) (B:=KnA l' xs') (fun S I hp q i a x e1 e2=>by obtain ⟨j,h1,h2⟩:=hs i a x e1 e2; exact q j a x h1 h2) h
theorem rowsOf_take {l:List α} {xs:List (Rw.X α)} (n:Nat):rowsOf (l.take n) (xs.take n)=(rowsOf l xs).take n:=by unfold rowsOf; rw [← List.take_zipWith]
theorem rowsOf_drop {l:List α} {xs:List (Rw.X α)} (n:Nat):rowsOf (l.drop n) (xs.drop n)=(rowsOf l xs).drop n:=by unfold rowsOf; rw [← List.drop_zipWith]
theorem rowsOf_app {l m:List α} {xs ys:List (Rw.X α)} (h:xs.length=l.length):rowsOf (l++m) (xs++ys)=rowsOf l xs++rowsOf m ys:=by unfold rowsOf; rw [List.zipWith_append h.symm]
theorem some_getD {β:Type} {o:Option β} {d:β} (h:o.isSome=true):o=some (o.getD d):=by
 cases o with
 |none=>cases h
 |some x=>rfl
def infoT (P:Program) (E:TypeId):TypeInfo:=(P.info? E).getD default
def zeroT (P:Program) (E:TypeId):Value:=(infoT P E).zero.getD undef
theorem gh_same (a:Option Addr) (cap:Nat) {l l':List α} (e:l=l'):Gh ⟨[],[ArrA a cap l]⟩ fun _:Unit=>⟨[],[ArrA a cap l']⟩:=by
 subst e
 exact fun _ _ _ hw=>⟨(),hw⟩
theorem oc_within (t ty' E cap2 i j m:Nat) (P:Program) (a a2:Option Addr) (cap:Nat) (l:List α) (hk0:0<Rw.k α) (hij:i≤j) (hjm:j+m=l.length)
 (ha2:a2=if cap=j then a else a.map (·.add (j*Rw.k α))) (ht:P.underlying t=some (.slice E):=by kernel_rfl) (hi:(P.info? E).isSome=true:=by kernel_rfl) (hk:(infoT P E).size=Rw.k α:=by kernel_rfl) :
 Oc P (Builtin.append_ #[t,t] ty' #[.slice a i cap,.slice a2 m cap2] >>= fun v=>pure (Next.value v)) ⟨[],[ArrA a cap l]⟩ (fun _:Unit=>.slice a (i+m) cap) (fun _=>⟨[],[ArrA a cap (l.take i++l.drop j++l.drop (i+m))]⟩):=by
 intro W0 Γ w hw
 obtain ⟨xs,q1,h1⟩:=ArrA.split (show Sat W0 (ArrA a cap l::Γ) w from hw)
 have hrl:=rowsOf_len q1
 obtain ⟨_,hlc⟩:=RowsA.len h1
 have hrd:Reads W0 (RowsA (Rw.k α) a cap (rowsOf l xs)::KnA l xs::Γ) a (rowsOf l xs):=RowsA.reads .here
 have hrd2:=reads_drop (j:=j) (cap:=cap) hrd rowsOf_k hk0 hlc ha2
 obtain ⟨w',r1,r2⟩:=run_within t ty' E cap2 i j m (infoT P E) ht (some_getD hi) hk h1 (hrd2 w h1) rowsOf_one hij (by rw [hrl]; exact hjm)
 refine ⟨(),w',_,run_seq r1 rfl,.inl rfl,?_⟩
 rw [← rowsOf_take,← rowsOf_drop,← rowsOf_drop,← rowsOf_app (by simp [q1]),← rowsOf_app (by simp [q1])] at r2
 have r3:Sat W0 (KnA l xs::RowsA (Rw.k α) a cap (rowsOf (l.take i++l.drop j++l.drop (i+m)) (xs.take i++xs.drop j++xs.drop (i+m)))::Γ) w':=r2.less (.take (.there .here) (.take .here .refl))
 have r4:=KnA.sub (l':=l.take i++l.drop j++l.drop (i+m)) (xs':=xs.take i++xs.drop j++xs.drop (i+m)) r3 (by
  intro q a x e1 e2
  have hl1:(xs.take i).length=(l.take i).length:=by simp [q1]
  have hl2:(xs.drop j).length=(l.drop j).length:=by simp [q1]
  rw [List.append_assoc,List.getElem?_append] at e1 e2
  rw [hl1] at e2
  split at e1
  · rename_i hc
    rw [if_pos hc] at e2
    rw [List.getElem?_take] at e1 e2
    split at e1
    · rename_i hd; rw [if_pos hd] at e2; exact ⟨_,e1,e2⟩
    · cases e1
  · rename_i hc
    rw [if_neg hc,List.getElem?_append] at e2
    rw [List.getElem?_append] at e1
    rw [hl2] at e2
    split at e1
    · rename_i hd; rw [if_pos hd] at e2; rw [List.getElem?_drop] at e1 e2; exact ⟨_,e1,e2⟩
    · rename_i hd; rw [if_neg hd] at e2; rw [List.getElem?_drop] at e1 e2; exact ⟨_,e1,e2⟩)
 exact ArrA.join (by simp [q1]) (r4.less (.take (.there .here) (.take .here .refl)))
theorem oc_clear (t ty' E cap2 p m:Nat) (P:Program) (a a2:Option Addr) (cap:Nat) (l:List α) (hpm:p+m=l.length) (ha2:a2=if cap=p then a else a.map (·.add (p*Rw.k α)))
 (ht:P.underlying t=some (.slice E):=by kernel_rfl) (hi:(P.info? E).isSome=true:=by kernel_rfl) (hz:(infoT P E).zero.isSome=true:=by kernel_rfl) (hzs:(zeroT P E).cells.size=Rw.k α:=by kernel_rfl) (hzo:(zeroT P E).cells.toList.all oneCell=true:=by kernel_rfl) (hk0:Nat.blt 0 (Rw.k α)=true:=by kernel_rfl) :
 Oc P (Builtin.clear_ #[t] ty' #[.slice a2 m cap2] >>= fun v=>pure (Next.value v)) ⟨[],[ArrA a cap l]⟩ (fun _:Unit=>.tuple #[]) (fun _=>⟨[],[ArrA a cap (l.take p)]⟩):=by
 intro W0 Γ w hw
 obtain ⟨xs,q1,h1⟩:=ArrA.split (show Sat W0 (ArrA a cap l::Γ) w from hw)
 have hrl:=rowsOf_len q1
 obtain ⟨_,hlc⟩:=RowsA.len h1
 obtain ⟨w',r1,r2⟩:=run_clear t ty' E cap2 p m (infoT P E) (zeroT P E) ht (some_getD hi) (some_getD hz) hzs hzo hk0 h1 (a2:=a2) (fun b off e1 e2=>clear_place (q:=m) ha2 (by omega) b off e1 e2) (by rw [hrl]; exact hpm)
 refine ⟨(),w',_,run_seq r1 rfl,.inl rfl,?_⟩
 rw [← rowsOf_take] at r2
 have r3:Sat W0 (KnA l xs::RowsA (Rw.k α) a cap (rowsOf (l.take p) (xs.take p))::Γ) w':=r2.less (.take (.there .here) (.take .here .refl))
 have r4:=KnA.sub (l':=l.take p) (xs':=xs.take p) r3 (by
  intro q a x e1 e2
  rw [List.getElem?_take] at e1 e2
  split at e1
  · rename_i hd; rw [if_pos hd] at e2; exact ⟨_,e1,e2⟩
  · cases e1)
 exact ArrA.join (by simp [q1]) (r4.less (.take (.there .here) (.take .here .refl)))
end
end
section
open Go Go.RowKit
theorem mget_mset {α:Type} (l:List (Int×α)) (k k':Int) (v:α):mget (mset l k v) k'=if k'=k then some v else mget l k':=by
 induction l with
 |nil=>rfl
 |cons p r ih =>
  unfold mset
  by_cases h:k=p.1
  · rw [if_pos h]
    show (if k'=p.1 then some v else mget r k')=if k'=k then some v else (if k'=p.1 then some p.2 else mget r k')
    rw [← h]
    by_cases h2:k'=k
    · simp [h2]
    · simp [h2]
  · rw [if_neg h]
    show (if k'=p.1 then some p.2 else mget (mset r k v) k')=if k'=k then some v else (if k'=p.1 then some p.2 else mget r k')
    rw [ih]
    by_cases h2:k'=k
    · subst h2; simp [h]
    · simp [h2]
class Mv (α:Type) [Rw α] where
 val:α→Rw.X α→Value
 x0:Rw.X α
 z0:∀ (I:Nat→Prop) (h:Nat→Option Obj),(Rw.asn (Rw.d:α) x0).holds (fun _=>False) I h
section
variable {α:Type} [Rw α] [Mv α]
def mvals:List (Int×α)→List (Rw.X α)→List (Int×Value)
 |p::o,z::zs=>(p.1,Mv.val p.2 z)::mvals o zs
 |_,_=>[]
def KnM (I:Nat→Prop) (h:Nat→Option Obj):List (Int×α)→List (Rw.X α)→Prop
 |p::o,z::zs=>(Rw.asn p.2 z).holds (fun _=>False) I h∧KnM I h o zs
 |[],[]=>True
 |_,_=>False
theorem KnM.got {I:Nat→Prop} {h:Nat→Option Obj} (k:Int):∀ {o:List (Int×α)} {zs:List (Rw.X α)},KnM I h o zs→∃ z:Rw.X α,(mget (mvals o zs) k).getD (Mv.val (Rw.d:α) Mv.x0)=Mv.val ((mget o k).getD Rw.d) z∧(Rw.asn ((mget o k).getD Rw.d) z).holds (fun _=>False) I h∧(mget (mvals o zs) k).isSome=(mget o k).isSome
 |[],[],_=>⟨Mv.x0,rfl,Mv.z0 _ _,rfl⟩
 |[],_::_,q=>q.elim
 |_::_,[],q=>q.elim
 |p::o,z::zs,q=>by
  unfold mvals mget
  by_cases hk:k=p.1
  · rw [if_pos hk,if_pos hk]; exact ⟨z,rfl,q.1,rfl⟩
  · rw [if_neg hk,if_neg hk]; exact KnM.got k q.2
theorem KnM.set {I:Nat→Prop} {h:Nat→Option Obj} {k:Int} {x:α} {z:Rw.X α} (hx:(Rw.asn x z).holds (fun _=>False) I h):∀ {o:List (Int×α)} {zs:List (Rw.X α)},KnM I h o zs→∃ zs',mvals (mset o k x) zs'=mset (mvals o zs) k (Mv.val x z)∧KnM I h (mset o k x) zs'
 |[],[],_=>⟨[z],rfl,hx,trivial⟩
 |[],_::_,q=>q.elim
 |_::_,[],q=>q.elim
 |p::o,y::zs,q=>by
  by_cases hk:k=p.1
  · exact ⟨z::zs,by simp [mvals,mset,hk],by simp only [mset,if_pos hk]; exact ⟨hx,q.2⟩⟩
  · obtain ⟨zs',h1,h2⟩:=KnM.set (k:=k) hx q.2
    exact ⟨y::zs',by simp [mvals,mset,hk,h1],by simp only [mset,if_neg hk]; exact ⟨q.1,h2⟩⟩
theorem KnM.del {I:Nat→Prop} {h:Nat→Option Obj} {k:Int}:∀ {o:List (Int×α)} {zs:List (Rw.X α)},KnM I h o zs→∃ zs',mvals (mdel o k) zs'=mdel (mvals o zs) k∧KnM I h (mdel o k) zs'
 |[],[],_=>⟨[],rfl,trivial⟩
 |[],_::_,q=>q.elim
 |_::_,[],q=>q.elim
 |p::o,y::zs,q=>by
  by_cases hk:k=p.1
  · exact ⟨zs,by simp [mvals,mdel,hk],by simp only [mdel,if_pos hk]; exact q.2⟩
  · obtain ⟨zs',h1,h2⟩:=KnM.del (k:=k) q.2
    exact ⟨y::zs',by simp [mvals,mdel,hk,h1],by simp only [mdel,if_neg hk]; exact ⟨q.1,h2⟩⟩
theorem KnM.loc {S I:Nat→Prop} {h h':Nat→Option Obj} (he:∀ b,S b∨I b→h' b=h b):∀ {o:List (Int×α)} {zs:List (Rw.X α)},KnM I h o zs→KnM I h' o zs
 |[],[],q=>q
 |[],_::_,q=>q
 |_::_,[],q=>q
 |p::o,z::zs,q=>⟨(Rw.asn p.2 z).loc q.1 fun b hb=>he b (hb.elim (fun f=>f.elim) .inr),KnM.loc he q.2⟩
theorem KnM.mono {I I':Nat→Prop} {h:Nat→Option Obj} (hi:∀ b,I b→I' b):∀ {o:List (Int×α)} {zs:List (Rw.X α)},KnM I h o zs→KnM I' h o zs
 |[],[],q=>q
 |[],_::_,q=>q
 |_::_,[],q=>q
 |p::o,z::zs,q=>⟨(Rw.asn p.2 z).mono q.1 hi,KnM.mono hi q.2⟩
def MvM (vs:List (Int×Value)) (o:List (Int×α)):Asn where
 holds _ I h:=∃ zs,vs=mvals o zs∧KnM I h o zs
 loc:=fun ⟨zs,h1,h2⟩ he=>⟨zs,h1,h2.loc he⟩
 mono:=fun ⟨zs,h1,h2⟩ hi=>⟨zs,h1,h2.mono hi⟩
def FMapA (b:Nat) (o:List (Int×α)):Asn:=.ex fun vs:List (Int×Value)=>.star [KMapA b vs,MvM vs o]
variable {P:Program} {W0 w:World} {Γ:List Asn} {t K V b:Nat} {k:Int} {o:List (Int×α)} {vs:List (Int×Value)}
theorem FMapA.of (h:Sat W0 (FMapA b o::Γ) w):∃ vs,Sat W0 (KMapA b vs::MvM vs o::Γ) w:=by
 obtain ⟨vs,hv⟩:=h.ex_of
 exact ⟨vs,hv.star_of⟩
theorem FMapA.mk (vs:List (Int×Value)) (h:Sat W0 (KMapA b vs::MvM vs o::Γ) w):Sat W0 (FMapA b o::Γ) w:=Sat.ex_mk vs (Sat.star_mk (l:=[_,_]) h)
theorem MvM.same (h:Sat W0 (KMapA b vs::MvM vs o::Γ) w):(∀ k,(mget vs k).isSome=(mget o k).isSome):=by
 obtain ⟨S,I,⟨S1,S2,p1,p2,p3,p4,T1,T2,k1,k2,k3,⟨zs,rfl,k4⟩,k5⟩,r⟩:=h
 intro k
 obtain ⟨z,_,_,q⟩:=k4.got k
 exact q
theorem MvM.got (k:Int) (h:Sat W0 (KMapA b vs::MvM vs o::Γ) w):∃ z:Rw.X α,(mget vs k).getD (Mv.val (Rw.d:α) Mv.x0)=Mv.val ((mget o k).getD Rw.d) z∧Sat W0 (Rw.asn ((mget o k).getD Rw.d) z::KMapA b vs::MvM vs o::Γ) w:=by
 obtain ⟨S,I,⟨S1,S2,p1,p2,p3,p4,T1,T2,k1,k2,k3,k4,k5⟩,r⟩:=h
 obtain ⟨zs,rfl,k6⟩:=k4
 obtain ⟨z,q1,q2,q3⟩:=k6.got k
 exact ⟨z,q1,S,I,⟨fun _=>False,S,fun _ h=>h.elim,fun _ h=>h,fun _ h _=>h,q2,S1,S2,p1,p2,p3,p4,T1,T2,k1,k2,k3,⟨zs,rfl,k6⟩,k5⟩,r⟩
theorem run_lookupF {ik:IntKind} (ok:Bool) (ht:P.underlying t=some (.map K V)) (hK:P.underlying K=some (.int ik)) (hi:(P.info? V).isSome=true) (hz:(infoT P V).zero=some (Mv.val (Rw.d:α) Mv.x0)) (h:Sat W0 (KMapA b vs::MvM vs o::Γ) w) :
 (Instr.lookup t (.map (some b)) (.int .i64 k) ok >>= fun v=>pure (Next.value v)).run P w=.ok (.value (if ok then .tuple #[(mget vs k).getD (Mv.val (Rw.d:α) Mv.x0),.bool (mget vs k).isSome] else (mget vs k).getD (Mv.val (Rw.d:α) Mv.x0))) w :=
 kmap_lookup (e:=[(0,.map (some b)),(1,.int .i64 k)]) (o:={ dst:=none,op:=.lookup t (.tmp 0) (.tmp 1) ok,type:=0,pos:="",after:=#[],guard:=none }) ok (fun w=>rfl) ht hK (some_getD hi) hz .here w h
def mgo (o:List (Int×α)) (k:Int):α:=(mget o k).getD Rw.d
theorem oc_mget2 (t K V:Nat) (P:Program) (b:Nat) (k:Int) (o:List (Int×α)) {e:α} (he:mgo o k=e) (hK:∃ ik,P.underlying K=some (.int ik)) (ht:P.underlying t=some (.map K V):=by kernel_rfl) (hi:(P.info? V).isSome=true:=by kernel_rfl) (hz:(infoT P V).zero=some (Mv.val (Rw.d:α) Mv.x0):=by kernel_rfl) :
 Oc P (Instr.lookup t (.map (some b)) (.int .i64 k) true >>= fun v=>pure (Next.value v)) ⟨[],[FMapA b o]⟩ (fun z:Rw.X α=>.tuple #[Mv.val e z,.bool (mget o k).isSome]) (fun z=>⟨[],[Rw.asn e z,FMapA b o]⟩):=by
 subst he
 intro W0 Γ w hw
 obtain ⟨ik,hK⟩:=hK
 obtain ⟨vs,h1⟩:=FMapA.of (show Sat W0 (FMapA b o::Γ) w from hw)
 obtain ⟨z,q1,q2⟩:=MvM.got k h1
 refine ⟨z,w,_,run_lookupF true ht hK hi hz h1,.inl ?_,?_⟩
 · rw [q1,MvM.same h1]; rfl
 · have h2:Sat W0 (FMapA b o::Rw.asn ((mget o k).getD Rw.d) z::Γ) w:=FMapA.mk vs (q2.less (.take (.there .here) (.take (.there .here) (.take .here .refl))))
   exact h2.less (.take (.there .here) (.take .here .refl))
theorem ol_mget1 (t K V:Nat) (P:Program) (b:Nat) (k:Int) (o:List (Int×α)) {v:Value} (hv:∀ z:Rw.X α,Mv.val ((mget o k).getD Rw.d) z=v) (hK:∃ ik,P.underlying K=some (.int ik)) (ht:P.underlying t=some (.map K V):=by kernel_rfl) (hi:(P.info? V).isSome=true:=by kernel_rfl) (hz:(infoT P V).zero=some (Mv.val (Rw.d:α) Mv.x0):=by kernel_rfl) :
 Ol P (Instr.lookup t (.map (some b)) (.int .i64 k) false >>= fun v=>pure (Next.value v)) (FMapA b o) v:=by
 intro W0 Γ w hw
 obtain ⟨ik,hK⟩:=hK
 obtain ⟨vs,g1⟩:=FMapA.of (show Sat W0 (FMapA b o::Γ) w from hw)
 obtain ⟨z',q1,q2⟩:=MvM.got k g1
 rw [run_lookupF false ht hK hi hz g1]
 rw [← hv z',← q1]; rfl
theorem ol_mget2 (t K V:Nat) (P:Program) (b:Nat) (k:Int) (o:List (Int×α)) {v:Value} (hv:∀ z:Rw.X α,Mv.val ((mget o k).getD Rw.d) z=v) (hK:∃ ik,P.underlying K=some (.int ik)) (ht:P.underlying t=some (.map K V):=by kernel_rfl) (hi:(P.info? V).isSome=true:=by kernel_rfl) (hz:(infoT P V).zero=some (Mv.val (Rw.d:α) Mv.x0):=by kernel_rfl) :
 Ol P (Instr.lookup t (.map (some b)) (.int .i64 k) true >>= fun v=>pure (Next.value v)) (FMapA b o) (.tuple #[v,.bool (mget o k).isSome]):=by
 intro W0 Γ w hw
 obtain ⟨ik,hK⟩:=hK
 obtain ⟨vs,g1⟩:=FMapA.of (show Sat W0 (FMapA b o::Γ) w from hw)
 obtain ⟨z',q1,q2⟩:=MvM.got k g1
 rw [run_lookupF true ht hK hi hz g1]
 rw [← hv z',← q1,MvM.same g1]; rfl
theorem oc_mmake (α:Type) [Rw α] [Mv α] (t:Nat) (P:Program):Oc P (Instr.makeMap t none >>= fun v=>pure (Next.value v)) ⟨[],[]⟩ (fun b:Nat=>.map (some b)) (fun b=>⟨[],[FMapA (α:=α) b []]⟩):=by
 intro W0 Γ w hw
 refine ⟨w.heap.size,_,_,rfl,.inl rfl,?_⟩
 have h1:Sat W0 (Asn.own w.heap.size (mapO [] 0)::Γ) (w.alloc (mapO [] 0)):=(show Sat W0 Γ w from hw).alloc _
 have h2:Sat W0 (KMapA w.heap.size []::Γ) (w.alloc (mapO [] 0)):=KMapA.mk (kvs:=[]) (clock:=0) rfl ⟨fun x hx=>(by cases hx),List.nodup_nil⟩ h1
 have h3:Sat W0 (MvM (α:=α) [] []::KMapA w.heap.size []::Γ) (w.alloc (mapO [] 0)):=h2.imp fun S _ h=>⟨fun _=>False,S,fun _ h=>h.elim,fun _ h=>h,fun _ h _=>h,⟨[],rfl,trivial⟩,h⟩
 exact FMapA.mk [] (h3.less (.take (.there .here) (.take .here .refl)))
theorem oc_mset (t K V:Nat) (P:Program) (b:Nat) (k:Int) (o:List (Int×α)) (x:α) (z:Rw.X α) {o':List (Int×α)} (ho:mset o k x=o') (hK:∃ ik,P.underlying K=some (.int ik)) (ht:P.underlying t=some (.map K V):=by kernel_rfl) :
 Oc P (Instr.mapUpdate t (.map (some b)) (.int .i64 k) (Mv.val x z) >>= fun _=>pure Next.skip) ⟨[],[FMapA b o,Rw.asn x z]⟩ (fun _:Unit=>undef) (fun _=>⟨[],[FMapA b o']⟩):=by
 subst ho
 intro W0 Γ w hw
 obtain ⟨ik,hK⟩:=hK
 obtain ⟨vs,h1⟩:=FMapA.of (show Sat W0 (FMapA b o::Rw.asn x z::Γ) w from hw)
 obtain ⟨w',r1,r2⟩:=run_kmap_set (v:=Mv.val x z) ht hK h1
 refine ⟨(),w',_,run_seq r1 rfl,.inr ⟨rfl,rfl⟩,FMapA.mk (mset vs k (Mv.val x z)) ?_⟩
 have r3:Sat W0 (MvM vs o::Rw.asn x z::KMapA b (mset vs k (Mv.val x z))::Γ) w':=r2.less (.take (.there .here) (.take (.there .here) (.take .here .refl)))
 have r4:Sat W0 (MvM (mset vs k (Mv.val x z)) (mset o k x)::KMapA b (mset vs k (Mv.val x z))::Γ) w':=by
  obtain ⟨S,I,⟨S1,S2,p1,p2,p3,⟨zs,rfl,p4⟩,T1,T2,k1,k2,k3,k4,k5⟩,r⟩:=r3
  obtain ⟨zs',q1,q2⟩:=p4.set (k:=k) (Rw.dup _ _ _ _ _ k4)
  exact ⟨S,I,⟨S1,T2,p1,fun b hb=>p2 b (k2 b hb),fun b hb ht=>p3 b hb (k2 b ht),⟨zs',q1.symm,q2⟩,k5⟩,r⟩
 exact r4.less (.take (.there .here) (.take .here .refl))
theorem oc_mdel (t K V t2 tr:Nat) (P:Program) (b:Nat) (k:Int) (o:List (Int×α)) {o':List (Int×α)} (ho:mdel o k=o') (hK:∃ ik,P.underlying K=some (.int ik)) (ht:P.underlying t=some (.map K V):=by kernel_rfl) :
 Oc P (Builtin.delete_ #[t,t2] tr #[.map (some b),.int .i64 k] >>= fun v=>pure (Next.value v)) ⟨[],[FMapA b o]⟩ (fun _:Unit=>.tuple #[]) (fun _=>⟨[],[FMapA b o']⟩):=by
 subst ho
 intro W0 Γ w hw
 obtain ⟨ik,hK⟩:=hK
 obtain ⟨vs,h1⟩:=FMapA.of (show Sat W0 (FMapA b o::Γ) w from hw)
 obtain ⟨w',r1,r2⟩:=run_kmap_del (t2:=t2) (tr:=tr) ht hK h1
 refine ⟨(),w',_,run_seq r1 rfl,.inl rfl,FMapA.mk (mdel vs k) ?_⟩
 have r3:Sat W0 (MvM vs o::KMapA b (mdel vs k)::Γ) w':=r2.less (.take (.there .here) (.take .here .refl))
 have r4:Sat W0 (MvM (mdel vs k) (mdel o k)::KMapA b (mdel vs k)::Γ) w':=by
  obtain ⟨S,I,⟨S1,S2,p1,p2,p3,⟨zs,rfl,p4⟩,p5⟩,r⟩:=r3
  obtain ⟨zs',q1,q2⟩:=p4.del (k:=k)
  exact ⟨S,I,⟨S1,S2,p1,p2,p3,⟨zs',q1.symm,q2⟩,p5⟩,r⟩
 exact r4.less (.take (.there .here) (.take .here .refl))
instance:Mv Int where
 val n _:=.int .i64 n
 x0:=()
 z0 _ _:=trivial
end
end
section
open Go Go.RowKit
section
variable {α:Type} [Rw α]
theorem ArrA.none_mk {W0 w:World} {Γ:List Asn} {a:Option Addr} (h:Sat W0 Γ w):Sat W0 (ArrA a 0 ([]:List α)::Γ) w:=by
 obtain ⟨z,h2⟩:=gh_nil (α:=α) a W0 Γ w h
 exact h2
def wvals:List (Int×List α)→List (Option Addr×Nat)→List (Int×Value)
 |p::w,a::ac=>(p.1,.slice a.1 p.2.length a.2)::wvals w ac
 |_,_=>[]
def wrows:List (Int×List α)→List (Option Addr×Nat)→List Asn
 |p::w,a::ac=>ArrA a.1 a.2 p.2::wrows w ac
 |_,_=>[]
def wrowsX (k:Int):List (Int×List α)→List (Option Addr×Nat)→List Asn
 |p::w,a::ac=>if k=p.1 then wrows w ac else ArrA a.1 a.2 p.2::wrowsX k w ac
 |_,_=>[]
def wadr (k:Int):List (Int×List α)→List (Option Addr×Nat)→Option Addr×Nat
 |p::w,a::ac=>if k=p.1 then a else wadr k w ac
 |_,_=>(none,0)
def wget (w:List (Int×List α)) (k:Int):List α:=(mget w k).getD []
def acset (k:Int) (a':Option Addr×Nat):List (Int×List α)→List (Option Addr×Nat)→List (Option Addr×Nat)
 |p::w,a::ac=>if k=p.1 then a'::ac else a::acset k a' w ac
 |_,_=>[a']
def WMapA (b:Nat) (w:List (Int×List α)):Asn :=
 .ex fun ac:List (Option Addr×Nat)=>.star (.pure (ac.length=w.length)::KMapA b (wvals w ac)::wrows w ac)
def WHoleA (b:Nat) (w:List (Int×List α)) (k:Int) (a:Option Addr) (c:Nat):Asn :=
 .ex fun ac:List (Option Addr×Nat)=>.star (.pure (ac.length=w.length∧wadr k w ac=(a,c))::KMapA b (wvals w ac)::wrowsX k w ac)
theorem w_pull {k:Int}:∀ {w:List (Int×List α)} {ac:List (Option Addr×Nat)} {Γ:List Asn},ac.length=w.length→(mget w k).isSome=true→Pull (wrows w ac++Γ) (ArrA (wadr k w ac).1 (wadr k w ac).2 (wget w k)) (wrowsX k w ac++Γ)
 |[],_,_,_,h=>by simp [mget] at h
 |p::w,[],_,hl,_=>by simp at hl
 |p::w,a::ac,Γ,hl,h=>by
  unfold wrows wrowsX wadr wget mget
  unfold mget at h
  by_cases hk:k=p.1
  · simp only [hk,if_true,Option.getD_some]
    exact .here
  · simp only [hk,if_false] at h ⊢
    exact .there (w_pull (by simpa using hl) h)
theorem w_none {k:Int}:∀ {w:List (Int×List α)} {ac:List (Option Addr×Nat)},ac.length=w.length→mget w k=none→wrowsX k w ac=wrows w ac∧wadr k w ac=(none,0)∧mget (wvals w ac) k=none
 |[],ac,hl,_=>by cases ac <;> exact ⟨rfl,rfl,rfl⟩
 |p::w,[],hl,_=>by simp at hl
 |p::w,a::ac,hl,h=>by
  unfold mget at h
  by_cases hk:k=p.1
  · simp [hk] at h
  · simp only [hk,if_false] at h
    obtain ⟨h1,h2,h3⟩:=w_none (ac:=ac) (by simpa using hl) h
    refine ⟨?_,?_,?_⟩
    · simp [wrowsX,wrows,hk,h1]
    · simp [wadr,hk,h2]
    · simp [wvals,mget,hk,h3]
theorem w_some {k:Int}:∀ {w:List (Int×List α)} {ac:List (Option Addr×Nat)},ac.length=w.length→(mget w k).isSome=true→mget (wvals w ac) k=some (.slice (wadr k w ac).1 (wget w k).length (wadr k w ac).2)
 |[],_,_,h=>by simp [mget] at h
 |p::w,[],hl,_=>by simp at hl
 |p::w,a::ac,hl,h=>by
  unfold wvals wadr wget mget
  unfold mget at h
  by_cases hk:k=p.1
  · simp [hk]
  · simp only [hk,if_false] at h ⊢
    exact w_some (by simpa using hl) h
theorem w_set {k:Int} (a':Option Addr×Nat) (ws:List α):∀ {w:List (Int×List α)} {ac:List (Option Addr×Nat)},ac.length=w.length →
 (acset k a' w ac).length=(mset w k ws).length∧wvals (mset w k ws) (acset k a' w ac)=mset (wvals w ac) k (.slice a'.1 ws.length a'.2)∧∀ Γ,Pull (wrows (mset w k ws) (acset k a' w ac)++Γ) (ArrA a'.1 a'.2 ws) (wrowsX k w ac++Γ)
 |[],ac,hl=>by cases ac <;> first | exact ⟨rfl,rfl,fun Γ=>.here⟩ | simp at hl
 |p::w,[],hl=>by simp at hl
 |p::w,a::ac,hl=>by
  obtain ⟨h1,h2,h3⟩:=w_set (k:=k) a' ws (w:=w) (ac:=ac) (by simpa using hl)
  by_cases hk:k=p.1
  · simp only [mset,acset,hk,if_true,wvals,wrowsX]
    exact ⟨by simpa using hl,trivial,fun Γ=>.here⟩
  · simp only [mset,acset,hk,if_false,wvals,wrowsX]
    refine ⟨by simpa using h1,by rw [h2],fun Γ=>.there (h3 Γ)⟩
variable {P:Program} {W0 w:World} {Γ Γ':List Asn} {t K V b:Nat} {k:Int} {m:List (Int×List α)}
theorem pull_mid {A:Asn}:∀ l:List Asn,Pull (l++A::Γ) A (l++Γ)
 |[]=>.here
 |_::l=>.there (pull_mid l)
theorem WHoleA.of {a:Option Addr} {c:Nat} (h:Sat W0 (WHoleA b m k a c::Γ) w):∃ ac,ac.length=m.length∧wadr k m ac=(a,c)∧Sat W0 (KMapA b (wvals m ac)::(wrowsX k m ac++Γ)) w:=by
 obtain ⟨ac,hac⟩:=h.ex_of
 obtain ⟨h2,h3⟩:=hac.star_of.pure_of
 exact ⟨ac,h2.1,h2.2,h3⟩
theorem WHoleA.mk {a:Option Addr} {c:Nat} (ac:List (Option Addr×Nat)) (h1:ac.length=m.length) (h2:wadr k m ac=(a,c)) (h:Sat W0 (KMapA b (wvals m ac)::(wrowsX k m ac++Γ)) w):Sat W0 (WHoleA b m k a c::Γ) w :=
 Sat.ex_mk ac (Sat.star_mk (Sat.pure_mk ⟨h1,h2⟩ h))
theorem WMapA.of (h:Sat W0 (WMapA b m::Γ) w):∃ ac,ac.length=m.length∧Sat W0 (KMapA b (wvals m ac)::(wrows m ac++Γ)) w:=by
 obtain ⟨ac,hac⟩:=h.ex_of
 obtain ⟨h2,h3⟩:=hac.star_of.pure_of
 exact ⟨ac,h2,h3⟩
theorem WMapA.mk (ac:List (Option Addr×Nat)) (h1:ac.length=m.length) (h:Sat W0 (KMapA b (wvals m ac)::(wrows m ac++Γ)) w):Sat W0 (WMapA b m::Γ) w :=
 Sat.ex_mk ac (Sat.star_mk (Sat.pure_mk h1 h))
theorem WMapA.focus (k:Int) (h:Sat W0 (WMapA b m::Γ) w):∃ a c,Sat W0 (ArrA a c (wget m k)::WHoleA b m k a c::Γ) w:=by
 obtain ⟨ac,h1,h2⟩:=WMapA.of h
 cases hk:mget m k with
 |none =>
  obtain ⟨e1,e2,e3⟩:=w_none h1 hk
  refine ⟨none,0,?_⟩
  have:wget m k=[]:=by simp [wget,hk]
  rw [this]
  exact ArrA.none_mk (WHoleA.mk ac h1 e2 (by rw [e1]; exact h2))
 |some ws =>
  have hs:(mget m k).isSome=true:=by simp [hk]
  have hp:=w_pull (Γ:=Γ) h1 hs
  refine ⟨(wadr k m ac).1,(wadr k m ac).2,?_⟩
  have h3:Sat W0 (ArrA (wadr k m ac).1 (wadr k m ac).2 (wget m k)::KMapA b (wvals m ac)::(wrowsX k m ac++Γ)) w:=Sat.pull (.there hp) h2
  exact (WHoleA.mk ac h1 rfl (Sat.push (.there (pull_mid _)) h3)).less (.take (.there .here) (.take .here .refl))
theorem WMapA.unfocus {a:Option Addr} {c:Nat} (h:Sat W0 (ArrA a c (wget m k)::WHoleA b m k a c::Γ) w):Sat W0 (WMapA b m::Γ) w:=by
 obtain ⟨ac,h1,h2,h3⟩:=WHoleA.of (h.less (.take (.there .here) (.take .here .refl)))
 have h4:Sat W0 (ArrA a c (wget m k)::KMapA b (wvals m ac)::(wrowsX k m ac++Γ)) w:=Sat.pull (.there (pull_mid _)) h3
 cases hk:mget m k with
 |none =>
  obtain ⟨e1,e2,e3⟩:=w_none h1 hk
  rw [e1] at h4
  exact WMapA.mk ac h1 h4.tail
 |some ws =>
  have hs:(mget m k).isSome=true:=by simp [hk]
  have hp:=w_pull (Γ:=Γ) h1 hs
  rw [h2] at hp
  exact WMapA.mk ac h1 (Sat.push (.there hp) h4)
theorem oc_wmake (α:Type) [Rw α] (t:Nat) (P:Program):Oc P (Instr.makeMap t none >>= fun v=>pure (Next.value v)) ⟨[],[]⟩ (fun b:Nat=>.map (some b)) (fun b=>⟨[],[WMapA (α:=α) b []]⟩):=by
 intro W0 Γ w hw
 refine ⟨w.heap.size,_,_,rfl,.inl rfl,?_⟩
 have h1:Sat W0 (Asn.own w.heap.size (mapO [] 0)::Γ) (w.alloc (mapO [] 0)):=(show Sat W0 Γ w from hw).alloc _
 have h2:Sat W0 (KMapA w.heap.size []::Γ) (w.alloc (mapO [] 0)):=KMapA.mk (kvs:=[]) (clock:=0) rfl ⟨fun x hx=>(by cases hx),List.nodup_nil⟩ h1
 exact WMapA.mk [] rfl h2
theorem gh_focus (b:Nat) (m:List (Int×List α)) (k:Int):Gh ⟨[],[WMapA b m]⟩ (fun z:Option Addr×Nat=>⟨[],[ArrA z.1 z.2 (wget m k),WHoleA b m k z.1 z.2]⟩):=by
 intro W0 Γ w hw
 obtain ⟨a,c,h⟩:=WMapA.focus k (show Sat W0 (WMapA b m::Γ) w from hw)
 exact ⟨(a,c),h⟩
theorem gh_unfocus (b:Nat) (m:List (Int×List α)) (k:Int) (a:Option Addr) (c:Nat):Gh ⟨[],[ArrA a c (wget m k),WHoleA b m k a c]⟩ (fun _:Unit=>⟨[],[WMapA b m]⟩):=by
 intro W0 Γ w hw
 exact ⟨(),WMapA.unfocus (show Sat W0 (ArrA a c (wget m k)::WHoleA b m k a c::Γ) w from hw)⟩
theorem ol_wget (t K V:Nat) (P:Program) (b:Nat) (m:List (Int×List α)) (k:Int) (a:Option Addr) (c:Nat) (hK:∃ ik,P.underlying K=some (.int ik)) (ht:P.underlying t=some (.map K V):=by kernel_rfl) (hi:(P.info? V).isSome=true:=by kernel_rfl) (hz:(infoT P V).zero=some (.slice none 0 0):=by kernel_rfl) :
 Ol P (Instr.lookup t (.map (some b)) (.int .i64 k) false >>= fun v=>pure (Next.value v)) (WHoleA b m k a c) (.slice a (List.length (wget m k)) c):=by
 intro W0 Γ w hw
 obtain ⟨ik,hK⟩:=hK
 obtain ⟨ac,h1,h2,h3⟩:=WHoleA.of hw
 have h4:=kmap_lookup (e:=[(0,.map (some b)),(1,.int .i64 k)]) (o:={ dst:=none,op:=.lookup t (.tmp 0) (.tmp 1) false,type:=0,pos:="",after:=#[],guard:=none }) (P:=P) (z:=.slice none 0 0) false (fun w=>rfl) ht hK (some_getD hi) hz .here w h3
 refine Eq.trans h4 ?_
 cases hk:mget m k with
 |none =>
  obtain ⟨e1,e2,e3⟩:=w_none h1 hk
  rw [h2] at e2
  simp only [Prod.mk.injEq] at e2
  simp [e3,wget,hk,e2.1,e2.2]
 |some ws =>
  have hs:(mget m k).isSome=true:=by simp [hk]
  rw [w_some h1 hs,h2]
  rfl
theorem oc_wset (t K V:Nat) (P:Program) (b:Nat) (m:List (Int×List α)) (k:Int) (a a':Option Addr) (c c':Nat) (ws:List α) {m':List (Int×List α)} (hm:mset m k ws=m') (hK:∃ ik,P.underlying K=some (.int ik)) (ht:P.underlying t=some (.map K V):=by kernel_rfl) :
 Oc P (Instr.mapUpdate t (.map (some b)) (.int .i64 k) (.slice a' ws.length c') >>= fun _=>pure Next.skip) ⟨[],[WHoleA b m k a c,ArrA a' c' ws]⟩ (fun _:Unit=>undef) (fun _=>⟨[],[WMapA b m']⟩):=by
 subst hm
 intro W0 Γ w hw
 obtain ⟨ik,hK⟩:=hK
 have h0:Sat W0 (WHoleA b m k a c::ArrA a' c' ws::Γ) w:=hw
 obtain ⟨ac,h1,h2,h3⟩:=WHoleA.of h0
 obtain ⟨q1,q2,q3⟩:=w_set (k:=k) (a',c') ws h1
 obtain ⟨w',r1,hw'⟩:=run_kmap_set (v:=.slice a' ws.length c') ht hK h3
 refine ⟨(),w',_,run_seq r1 rfl,.inr ⟨rfl,rfl⟩,WMapA.mk (acset k (a',c') m ac) q1 ?_⟩
 rw [q2]
 have h5:Sat W0 (ArrA a' c' ws::KMapA b (mset (wvals m ac) k (.slice a' ws.length c'))::(wrowsX k m ac++Γ)) w':=Sat.pull (.there (pull_mid _)) hw'
 exact Sat.push (.there (q3 Γ)) h5
theorem RowsA.rest {W0 w:World} {Γ:List Asn} {k cap:Nat} {a a1:Option Addr} {rows:List (List Value)} (h:Sat W0 (RowsA k a cap rows::Γ) w) (hr:1≤rows.length) (ha:a1=if cap=1 then a else a.map (·.add (1*k))):Sat W0 (RowsA k a1 (cap - 1) (rows.drop 1)::Γ) w:=by
 refine Sat.head_imp (A:=RowsA k a cap rows) (B:=RowsA k a1 (cap - 1) (rows.drop 1)) (fun S I h ⟨h1,h2⟩=>⟨fun r hr=>h1 r (List.mem_of_mem_drop hr),?_⟩) h
 rcases h2 with ⟨rfl,rfl⟩ | ⟨b,off,c,T,q1,q2,q3,q4,q5,q6⟩
 · simp at hr
 · by_cases hc:cap=1
   · refine .inl ⟨?_,by omega⟩
     have:rows.length≤1:=by omega
     exact List.drop_eq_nil_of_le this
   · rw [if_neg hc,q1,Option.map_some,add_none] at ha
     refine .inr ⟨b,off+1*k,c,T,ha,q2,q3,by simp; omega,?_,fun j v hj=>?_⟩
     · have:cap*k=(cap - 1)*k+k:=by
        have:cap=(cap - 1)+1:=by omega
        rw [this,Nat.add_mul]; simp
       omega
     · cases rows with
       |nil=>simp at hr
       |cons r rs =>
        have hrk:=h1 r (List.mem_cons_self ..)
        have:=q6 (k+j) v (by
         rw [List.flatten_cons,List.getElem?_append_right (by omega),hrk]
         simpa using hj)
        rw [Nat.one_mul,Nat.add_assoc]; exact this
theorem xtl {X:Ctx} {s:XS} (h:List Nat) (ia:List Nat) {a:Option Addr} {cap:Nat} {l l':List α} (hb:1≤l.length) (hl:l.drop 1=l') (k:∀ a':Option Addr,G X ((s.dr X h).put [] ia (.slice a' l'.length (cap - 1)) ⟨[],[ArrA a' (cap - 1) l']⟩))
 (hq:(s.dq X h).map (·.1)=(s.dq X h).map (·.2):=by kernel_rfl) (hp:s.dp X h=[]:=by kernel_rfl) (hpa:pkA ia (s.dr X h).gam=[ArrA a cap l]:=by kernel_rfl)
 (hx:slOf X.P (s.dr X h)=some (a,l.length,cap,1,(l.length:Int),(cap:Int),Rw.k α):=by kernel_rfl) (h1:oks ((s.dr X h).ok1 X.n)=okr ((s.dr X h).ok1 X.n):=by kernel_rfl)
 (h2:∀ a':Option Addr,oks ((s.dr X h).okP X [] ia (.slice a' l'.length (cap - 1)) ⟨[],[ArrA a' (cap - 1) l']⟩)=okr ((s.dr X h).okP X [] ia (.slice a' l'.length (cap - 1)) ⟨[],[ArrA a' (cap - 1) l']⟩):=by intro _; kernel_rfl) (h3:∀ a':Option Addr,(s.dr X h).ol1=(s.dr X h).olP [] ia ⟨[],[ArrA a' (cap - 1) l']⟩:=by intro _; kernel_rfl):G X s:=by
 refine ⟨x0 h ?_ hq hp⟩
 generalize s.dr X h=s at *
 subst hl
 refine step_oc (io:=[]) (ia:=ia) (pre:=⟨[],[ArrA a cap l]⟩) (rv:=fun a':Option Addr=>Value.slice a' (l.drop 1).length (cap - 1)) (post:=fun a'=>⟨[],[ArrA a' (cap - 1) (l.drop 1)]⟩) (fun Γ=>?_) rfl hpa h1 h2 h3 fun z=>(k z).get
 intro w hw
 obtain ⟨xs,q1,g1⟩:=ArrA.split (show Sat X.W0 (ArrA a cap l::Γ) w from hw)
 have hlc:=(RowsA.len g1).2
 rw [rowsOf_len q1] at hlc
 have g2:=RowsA.rest g1 (by rw [rowsOf_len q1]; exact hb) rfl
 rw [← rowsOf_drop] at g2
 have g3:Sat X.W0 (KnA l xs::RowsA (Rw.k α) (if cap=1 then a else a.map (·.add (1*Rw.k α))) (cap - 1) (rowsOf (l.drop 1) (xs.drop 1))::Γ) w:=g2.less (.take (.there .here) (.take .here .refl))
 have g4:=KnA.sub (l':=l.drop 1) (xs':=xs.drop 1) g3 (by
  intro q a x e1 e2
  rw [List.getElem?_drop] at e1 e2
  exact ⟨_,e1,e2⟩)
 have g5:Sat X.W0 (ArrA (if cap=1 then a else a.map (·.add (1*Rw.k α))) (cap - 1) (l.drop 1)::Γ) w:=ArrA.join (by simp [q1]) (g4.less (.take (.there .here) (.take .here .refl)))
 have hrun:(execOp (ev s.env) (bare s.op.op s.op.type)).run X.P w=.ok (.value (.slice (if cap=1 then a else a.map (·.add (1*Rw.k α))) (l.length - 1) (cap - 1))) w:=by
  unfold slOf at hx
  split at hx
  · rename_i t x lo' hi' mx' hop
    split at hx
    · rename_i a' m c E e1 e2
      split at hx
      · rename_i info lo2 hi2 mx2 i1 i2 i3 i4 i5
        simp only [Option.some.injEq,Prod.mk.injEq] at hx
        obtain ⟨rfl,rfl,rfl,rfl,rfl,rfl,hkk⟩:=hx
        rw [hop]
        have:=slice_at (P:=X.P) (e:=s.env) (a:=a') (m:=l.length) (c:=c) (sz:=Rw.k α) (lo:=1) (hi:=l.length) (mx:=c) (o:=bare (Op.slice t x lo' hi' mx') s.op.type) (lo'.map (ev s.env)) (hi'.map (ev s.env)) (mx'.map (ev s.env)) info (fun w=>by
         show ((Instr.sliceAt t (ev s.env x) (lo'.map (ev s.env)) (hi'.map (ev s.env)) (mx'.map (ev s.env))) >>= fun v=>pure (Next.value v)).run X.P w=_
         rw [e1]) e2 i1 hkk (by
         rcases bnd_ok i2 with ⟨q1,q2⟩ | q1
         · exact .inl ⟨q1,by omega⟩
         · exact .inr ⟨_,q1,by omega⟩) (by
         rcases bnd_ok i3 with ⟨q1,q2⟩ | q1
         · rcases bnd_ok i4 with ⟨q3,q4⟩ | q3
           · exact .inl ⟨q1,by omega,q3⟩
           · cases hi' <;> cases mx' <;> simp_all
         · exact .inr ⟨_,q1,by omega⟩) (by
         rcases bnd_ok i4 with ⟨q1,q2⟩ | q1
         · exact .inl ⟨q1,by omega⟩
         · exact .inr ⟨_,q1,by omega⟩) (by omega) (by omega) (by omega) w
        exact this
      · cases hx
    · cases hx
  · cases hx
 intro ro o aa K Q kk
 rw [hrun]
 exact kk _ _ w ⟨_,by simp,rfl⟩ g5
end
end
section
open Go Go.RowKit
class Ro (α:Type) where
 X:Type
 k:Nat
 cells:α→X→List Value
 asn:α→X→List Asn
 d:α
 x0:X
 len:∀ a x,(cells a x).length=k
 one:∀ a x,(cells a x).all oneCell=true
variable {α:Type} [Ro α]
structure Gr (α:Type) [Ro α] where
 v:α
 x:Ro.X α
instance rwGr:Rw (Gr α) where
 X:=Unit
 k:=Ro.k α
 cells g _:=Ro.cells g.v g.x
 asn _ _:=Asn.pure True
 d:=⟨Ro.d,Ro.x0⟩
 len g _:=Ro.len g.v g.x
 one g _:=Ro.one g.v g.x
 dup _ _ _ _ _ h:=h
def zg (l:List α) (xs:List (Ro.X α)):List (Gr α):=List.zipWith Gr.mk l xs
def oAll:List α→List (Ro.X α)→List Asn
 |v::l,x::xs=>Ro.asn v x++oAll l xs
 |_,_=>[]
def oBut:Nat→List α→List (Ro.X α)→List Asn
 |0,_::l,_::xs=>oAll l xs
 |n+1,v::l,x::xs=>Ro.asn v x++oBut n l xs
 |_,_,_=>[]
def nthR (l:List α) (i:Int):α:=l.getD i.toNat Ro.d
def setR (l:List α) (i:Int) (v:α):List α:=l.set i.toNat v
def ArrO (a:Option Addr) (cap:Nat) (l:List α):Asn:=.ex fun xs:List (Ro.X α)=>.star (.pure (xs.length=l.length)::ArrA a cap (zg l xs)::oAll l xs)
def HolO (a:Option Addr) (cap:Nat) (l:List α) (i:Int) (x:Ro.X α):Asn:=.ex fun xs:List (Ro.X α)=>.star (.pure (xs.length=l.length∧xs[i.toNat]?=some x)::ArrA a cap (zg l xs)::oBut i.toNat l xs)
section
variable {W0 w:World} {Γ:List Asn} {a:Option Addr} {cap:Nat} {l:List α} {i:Int} {x:Ro.X α}
theorem zg_len {xs:List (Ro.X α)} (h:xs.length=l.length):(zg l xs).length=l.length:=by simp [zg,h]
theorem zg_get {n:Nat} {xs:List (Ro.X α)} {v:α} (h1:l[n]?=some v) (h2:xs[n]?=some x):(zg l xs)[n]?=some ⟨v,x⟩:=by simp [zg,List.getElem?_zipWith,h1,h2]
theorem nthR_get (h:0≤i∧i<(l.length:Int)):l[i.toNat]?=some (nthR l i):=by
 have:i.toNat<l.length:=by omega
 simp [nthR,this]
theorem o_but:∀ {n:Nat} {l:List α} {xs:List (Ro.X α)} {v:α} {x:Ro.X α} {Γ:List Asn},l[n]?=some v→xs[n]?=some x→(Sat W0 (oAll l xs++Γ) w↔Sat W0 (Ro.asn v x++(oBut n l xs++Γ)) w)
 |_,[],_,_,_,_,h,_=>by simp at h
 |_,_::_,[],_,_,_,_,h=>by simp at h
 |0,v0::l,x0::xs,v,x,Γ,h1,h2=>by
  simp only [List.getElem?_cons_zero,Option.some.injEq] at h1 h2
  subst h1; subst h2
  simp [oAll,oBut,List.append_assoc]
 |n+1,v0::l,x0::xs,v,x,Γ,h1,h2=>by
  simp only [List.getElem?_cons_succ] at h1 h2
  have ih:∀ Γ,_:=fun Γ=>o_but (Γ:=Γ) h1 h2
  constructor
  · intro h
    have h3:Sat W0 (Ro.asn v0 x0++(oAll l xs++Γ)) w:=by simpa [oAll,List.append_assoc] using h
    have h4:=(ih _).1 (Sat.swap h3)
    have h5:Sat W0 ((Ro.asn v x++oBut n l xs)++(Ro.asn v0 x0++Γ)) w:=by simpa [List.append_assoc] using h4
    have h6:=Sat.swap h5
    have h7:Sat W0 (Ro.asn v0 x0++(Ro.asn v x++(oBut n l xs++Γ))) w:=by simpa [List.append_assoc] using h6
    simpa [oBut,List.append_assoc] using Sat.swap h7
  · intro h
    have h3:Sat W0 (Ro.asn v x++(Ro.asn v0 x0++(oBut n l xs++Γ))) w:=by simpa [oBut,List.append_assoc] using h
    have h4:=Sat.swap h3
    have h5:Sat W0 ((Ro.asn v0 x0)++((Ro.asn v x++oBut n l xs)++Γ)) w:=by simpa [List.append_assoc] using h4
    have h6:=Sat.swap h5
    have h7:Sat W0 (Ro.asn v x++(oBut n l xs++(Ro.asn v0 x0++Γ))) w:=by simpa [List.append_assoc] using h6
    have h8:=(ih _).2 h7
    simpa [oAll,List.append_assoc] using Sat.swap h8
theorem ArrO.of (h:Sat W0 (ArrO a cap l::Γ) w):∃ xs,xs.length=l.length∧Sat W0 (ArrA a cap (zg l xs)::(oAll l xs++Γ)) w:=by
 obtain ⟨xs,hx⟩:=h.ex_of
 obtain ⟨h2,h3⟩:=hx.star_of.pure_of
 exact ⟨xs,h2,h3⟩
theorem ArrO.mk (xs:List (Ro.X α)) (h1:xs.length=l.length) (h:Sat W0 (ArrA a cap (zg l xs)::(oAll l xs++Γ)) w):Sat W0 (ArrO a cap l::Γ) w :=
 Sat.ex_mk xs (Sat.star_mk (Sat.pure_mk h1 h))
theorem HolO.of (h:Sat W0 (HolO a cap l i x::Γ) w):∃ xs,xs.length=l.length∧xs[i.toNat]?=some x∧Sat W0 (ArrA a cap (zg l xs)::(oBut i.toNat l xs++Γ)) w:=by
 obtain ⟨xs,hx⟩:=h.ex_of
 obtain ⟨h2,h3⟩:=hx.star_of.pure_of
 exact ⟨xs,h2.1,h2.2,h3⟩
theorem HolO.mk (xs:List (Ro.X α)) (h1:xs.length=l.length) (h2:xs[i.toNat]?=some x) (h:Sat W0 (ArrA a cap (zg l xs)::(oBut i.toNat l xs++Γ)) w):Sat W0 (HolO a cap l i x::Γ) w :=
 Sat.ex_mk xs (Sat.star_mk (Sat.pure_mk ⟨h1,h2⟩ h))
theorem gh_foc (a:Option Addr) (cap:Nat) (l:List α) (i:Int) (hb:0≤i∧i<(l.length:Int)):Gh ⟨[],[ArrO a cap l]⟩ fun x:Ro.X α=>⟨[],Ro.asn (nthR l i) x++[HolO a cap l i x]⟩:=by
 intro W0 Γ w hw
 obtain ⟨xs,h1,h2⟩:=ArrO.of (show Sat W0 (ArrO a cap l::Γ) w from hw)
 have hlt:i.toNat<xs.length:=by omega
 have hx:xs[i.toNat]?=some xs[i.toNat]:=List.getElem?_eq_getElem hlt
 refine ⟨xs[i.toNat],?_⟩
 have h3:Sat W0 (oAll l xs++(ArrA a cap (zg l xs)::Γ)) w:=Sat.swap (A:=[ArrA a cap (zg l xs)]) h2
 have h4:=(o_but (nthR_get hb) hx).1 h3
 have h5:Sat W0 ((Ro.asn (nthR l i) xs[i.toNat]++oBut i.toNat l xs)++([ArrA a cap (zg l xs)]++Γ)) w:=by simpa [List.append_assoc] using h4
 have h6:Sat W0 (ArrA a cap (zg l xs)::(oBut i.toNat l xs++(Ro.asn (nthR l i) xs[i.toNat]++Γ))) w:=by
  have h7:=Sat.swap h5
  have h8:Sat W0 (([ArrA a cap (zg l xs)]++Ro.asn (nthR l i) xs[i.toNat])++(oBut i.toNat l xs++Γ)) w:=by simpa [List.append_assoc] using h7
  have h9:=Sat.swap h8
  have h10:Sat W0 ((oBut i.toNat l xs++[ArrA a cap (zg l xs)])++(Ro.asn (nthR l i) xs[i.toNat]++Γ)) w:=by simpa [List.append_assoc] using h9
  have h11:Sat W0 (oBut i.toNat l xs++([ArrA a cap (zg l xs)]++(Ro.asn (nthR l i) xs[i.toNat]++Γ))) w:=by simpa [List.append_assoc] using h10
  exact Sat.swap h11
 have h7:=HolO.mk xs h1 hx h6
 have h8:Sat W0 ([HolO a cap l i xs[i.toNat]]++(Ro.asn (nthR l i) xs[i.toNat]++Γ)) w:=h7
 have h9:=Sat.swap h8
 unfold Rs.all
 simpa [owns,List.append_assoc] using h9
theorem arrA_cells {a:Option Addr} {cap:Nat} {l m:List (Gr α)} (hl:l.length=m.length) (h:∀ (n:Nat) (g g':Gr α),l[n]?=some g→m[n]?=some g'→Ro.cells g.v g.x=Ro.cells g'.v g'.x):∀ {Γ},Sat W0 (ArrA a cap l::Γ) w→Sat W0 (ArrA a cap m::Γ) w:=by
 intro Γ hw
 obtain ⟨xs,q1,h1⟩:=ArrA.split hw
 have e:rowsOf l xs=rowsOf m xs:=by
  unfold rowsOf
  apply List.ext_getElem?
  intro n
  simp only [List.getElem?_zipWith]
  cases e1:l[n]? with
  |none =>
   have:m[n]?=none:=by
    rw [List.getElem?_eq_none_iff] at e1 ⊢; omega
   simp [this]
  |some g =>
   have hlt:n<m.length:=by have:=(List.getElem?_eq_some_iff.1 e1).1; omega
   rw [List.getElem?_eq_getElem hlt]
   cases e2:xs[n]? with
   |none=>rfl
   |some u=>simp only [Option.some.injEq]; exact h n g _ e1 (List.getElem?_eq_getElem hlt)
 rw [e] at h1
 refine ArrA.join (by rw [q1,hl]) ?_
 have h2:Sat W0 (KnA l xs::RowsA (Rw.k (Gr α)) a cap (rowsOf m xs)::Γ) w:=h1.less (.take (.there .here) (.take .here .refl))
 have h3:Sat W0 (KnA m xs::RowsA (Rw.k (Gr α)) a cap (rowsOf m xs)::Γ) w:=Sat.head_imp (A:=KnA l xs) (B:=KnA m xs) (fun _ _ _ _=>fun _ _ _ _ _=>trivial) h2
 exact h3.less (.take (.there .here) (.take .here .refl))
theorem zg_set {xs:List (Ro.X α)} {n:Nat} {v:α} {x:Ro.X α}:(zg l xs).set n ⟨v,x⟩=zg (l.set n v) (xs.set n x):=by
 unfold zg
 apply List.ext_getElem?
 intro j
 simp only [List.getElem?_zipWith,List.getElem?_set,List.length_zipWith]
 by_cases h:n=j
 · subst h
   simp only [if_true]
   by_cases h1:n<l.length <;> by_cases h2:n<xs.length <;> simp [h1,h2,Nat.lt_min]
 · simp [h]
theorem oBut_set:∀ {n:Nat} {l:List α} {xs:List (Ro.X α)} {v:α} {x:Ro.X α},oBut n (l.set n v) (xs.set n x)=oBut n l xs
 |_,[],_,_,_=>by simp [oBut]
 |0,_::_,[],_,_=>by simp [oBut]
 |n+1,_::_,[],_,_=>by simp [oBut]
 |0,_::_,_::_,_,_=>by simp [oBut]
 |n+1,v0::l,x0::xs,v,x=>by simp only [List.set_cons_succ,oBut]; rw [oBut_set]
theorem HolO.close {xs:List (Ro.X α)} {v:α} {x':Ro.X α} (hb:0≤i∧i<(l.length:Int)) (h1:xs.length=l.length) (h:Sat W0 (ArrA a cap ((zg l xs).set i.toNat ⟨v,x'⟩)::(oBut i.toNat l xs++(Ro.asn v x'++Γ))) w):Sat W0 (ArrO a cap (setR l i v)::Γ) w:=by
 refine ArrO.mk (xs.set i.toNat x') (by simp [setR,h1]) ?_
 rw [zg_set] at h
 have hlt:i.toNat<l.length:=by omega
 have e1:(setR l i v)[i.toNat]?=some v:=by simp [setR,hlt]
 have e2:(xs.set i.toNat x')[i.toNat]?=some x':=by simp [h1,hlt]
 have h2:Sat W0 ([ArrA a cap (zg (l.set i.toNat v) (xs.set i.toNat x'))]++((oBut i.toNat l xs++Ro.asn v x')++Γ)) w:=by simpa [List.append_assoc] using h
 have h3:=Sat.swap h2
 have h4:Sat W0 (oBut i.toNat l xs++(Ro.asn v x'++([ArrA a cap (zg (l.set i.toNat v) (xs.set i.toNat x'))]++Γ))) w:=by simpa [List.append_assoc] using h3
 have h5:=Sat.swap h4
 have h6:Sat W0 (Ro.asn v x'++(oBut i.toNat (setR l i v) (xs.set i.toNat x')++([ArrA a cap (zg (l.set i.toNat v) (xs.set i.toNat x'))]++Γ))) w:=by rw [setR,oBut_set]; exact h5
 have h7:=(o_but e1 e2).2 h6
 exact Sat.swap h7
theorem gh_unf (a:Option Addr) (cap:Nat) (l:List α) (i:Int) (x:Ro.X α) (v:α) (hb:0≤i∧i<(l.length:Int)) {l':List α} (hl:setR l i v=l') (hc:Ro.cells v x=Ro.cells (nthR l i) x:=by kernel_rfl):Gh ⟨[],Ro.asn v x++[HolO a cap l i x]⟩ fun _:Unit=>⟨[],[ArrO a cap l']⟩:=by
 subst hl
 intro W0 Γ w hw
 have h0:Sat W0 (Ro.asn v x++([HolO a cap l i x]++Γ)) w:=by
  unfold Rs.all at hw
  simpa [owns,List.append_assoc] using hw
 obtain ⟨xs,h1,h2,h3⟩:=HolO.of (Sat.swap h0)
 refine ⟨(),HolO.close hb h1 (x':=x) ?_⟩
 have hg:=zg_get (nthR_get hb) h2
 have hlt:i.toNat<(zg l xs).length:=by rw [zg_len h1]; omega
 refine arrA_cells (by simp) (fun n g g' e1 e2=>?_) h3
 rw [List.getElem?_set] at e2
 split at e2
 · rename_i hn
   subst hn
   obtain rfl:=Option.some.inj e2
   rw [hg] at e1
   obtain rfl:=Option.some.inj e1
   exact hc.symm
 · rw [e1] at e2
   obtain rfl:=Option.some.inj e2
   rfl
theorem set_nthR (hb:0≤i∧i<(l.length:Int)):setR l i (nthR l i)=l:=by
 unfold setR
 apply List.ext_getElem?
 intro n
 rw [List.getElem?_set]
 split
 · rename_i h; subst h
   rw [nthR_get hb]; simp; omega
 · rfl
theorem gh_unfs (a:Option Addr) (cap:Nat) (l:List α) (i:Int) (x:Ro.X α) (hb:0≤i∧i<(l.length:Int)):Gh ⟨[],Ro.asn (nthR l i) x++[HolO a cap l i x]⟩ fun _:Unit=>⟨[],[ArrO a cap l]⟩:=gh_unf a cap l i x (nthR l i) hb (set_nthR hb) rfl
theorem HolO.at (hb:0≤i∧i<(l.length:Int)) (h:Sat W0 (HolO a cap l i x::Γ) w):∃ b off,a=some ⟨b,off,none⟩∧∀ j v,(Ro.cells (nthR l i) x)[j]?=some v→w.cell? ⟨b,off+(i.toNat*Ro.k α+j),none⟩=some v:=by
 obtain ⟨xs,h1,h2,h3⟩:=HolO.of h
 have hg:=zg_get (nthR_get hb) h2
 have hb2:0≤i∧i<(((zg l xs).length:Nat):Int):=by rw [zg_len h1]; exact hb
 have he:nthT (zg l xs) i=⟨nthR l i,x⟩:=by
  have:=nthT_get hb2
  rw [hg] at this
  exact (Option.some.inj this).symm
 obtain ⟨u,b,off,e1,e2,_⟩:=(rA a cap (zg l xs)).row hb2 he h3
 exact ⟨b,off,e1,e2⟩
theorem ix_hol (a:Option Addr) (cap:Nat) (l:List α) (i:Int) (x:Ro.X α) (hb:0≤i∧i<(l.length:Int)):∀ (W0:World) (Γ:List Asn) (w:World),Sat W0 (HolO a cap l i x::Γ) w→∃ b off,a=some ⟨b,off,none⟩:=fun _ _ _ hw=>let ⟨b,off,e,_⟩:=HolO.at hb hw; ⟨b,off,e⟩
variable {P:Program} {b off:Nat}
theorem ol_hld (a:Option Addr) (cap:Nat) (l:List α) (i:Int) (x:Ro.X α) (ha:a=some ⟨b,off,none⟩) (hb:0≤i∧i<(l.length:Int)) (j:Nat) {v:Value} (hv:(Ro.cells (nthR l i) x)[j]?=some v) :
 Ol P (load ((⟨b,off+i.toNat*Ro.k α,none⟩:Addr).add j) >>= fun v=>pure (Next.value v)) (HolO a cap l i x) v:=by
 intro W0 Γ w hw
 obtain ⟨b',off',e1,e2⟩:=HolO.at hb hw
 rw [ha] at e1
 simp only [Option.some.injEq,Addr.mk.injEq,and_true] at e1
 obtain ⟨rfl,rfl⟩:=e1
 refine run_seq (run_load_cell (v:=v) ?_) rfl
 rw [add_none,Nat.add_assoc]
 exact e2 j _ hv
theorem oc_hst (a:Option Addr) (cap:Nat) (l:List α) (i:Int) (x:Ro.X α) (v:α) (x':Ro.X α) (ha:a=some ⟨b,off,none⟩) (hb:0≤i∧i<(l.length:Int)) {l':List α} (hl:setR l i v=l'):Oc P (storeCells ⟨b,off+i.toNat*Ro.k α,none⟩ (Ro.cells v x') >>= fun _=>pure Next.skip) ⟨[],Ro.asn v x'++[HolO a cap l i x]⟩ (fun _:Unit=>undef) (fun _=>⟨[],[ArrO a cap l']⟩):=by
 subst hl
 intro W0 Γ w hw
 have h0:Sat W0 (Ro.asn v x'++([HolO a cap l i x]++Γ)) w:=by
  unfold Rs.all at hw
  simpa [owns,List.append_assoc] using hw
 obtain ⟨xs,h1,h2,h3⟩:=HolO.of (Sat.swap h0)
 have hb2:0≤i∧i<(((zg l xs).length:Nat):Int):=by rw [zg_len h1]; exact hb
 have h4:Sat W0 ([Asn.pure True]++([ArrA a cap (zg l xs)]++(oBut i.toNat l xs++(Ro.asn v x'++Γ)))) w:=Sat.pure_mk trivial h3
 obtain ⟨z,w',y,r1,r2,r3⟩:=oc_st (P:=P) (cap:=cap) (l:=zg l xs) (i:=i) (e:=(⟨v,x'⟩:Gr α)) () ha hb2 (l':=(zg l xs).set i.toNat ⟨v,x'⟩) rfl W0 (oBut i.toNat l xs++(Ro.asn v x'++Γ)) w (show Sat W0 (ArrA a cap (zg l xs)::Asn.pure True::(oBut i.toNat l xs++(Ro.asn v x'++Γ))) w from Sat.swap (A:=[Asn.pure True]) (B:=[ArrA a cap (zg l xs)]) h4)
 exact ⟨(),w',y,r1,r2,HolO.close hb h1 r3⟩
end
theorem oAll_rep {W0 w:World} (hd:∀ {Γ},Sat W0 Γ w→Sat W0 (Ro.asn (Ro.d:α) Ro.x0++Γ) w):∀ (n:Nat) {Γ:List Asn},Sat W0 Γ w→Sat W0 (oAll (List.replicate n (Ro.d:α)) (List.replicate n Ro.x0)++Γ) w
 |0,_,h=>h
 |n+1,_,h=>by
  simp only [List.replicate_succ,oAll,List.append_assoc]
  exact hd (oAll_rep hd n h)
theorem xmkO {X:Ctx} {s:XS} (h:List Nat) {n:Int} {zs:List α} (hb:0≤n∧n≤1099511627776) (hz:List.replicate n.toNat (Ro.d:α)=zs) (hd:∀ {W0:World} {w:World} {Γ:List Asn},Sat W0 Γ w→Sat W0 (Ro.asn (Ro.d:α) Ro.x0++Γ) w)
 (k:∀ b:Nat,G X ((s.dr X h).put [] [] (.slice (some ⟨b,0,none⟩) zs.length n.toNat) ⟨[],[ArrO (some ⟨b,0,none⟩) n.toNat zs]⟩))
 (hq:(s.dq X h).map (·.1)=(s.dq X h).map (·.2):=by kernel_rfl) (hp:s.dp X h=[]:=by kernel_rfl) (hx:mkOf X.P (s.dr X h)=some (n,n,(Ro.cells (Ro.d:α) Ro.x0).headD undef):=by kernel_rfl)
 (hk:Ro.k α=1:=by kernel_rfl) (hv:((Ro.cells (Ro.d:α) Ro.x0).headD undef).cells=#[(Ro.cells (Ro.d:α) Ro.x0).headD undef]:=by kernel_rfl) (h1:oks ((s.dr X h).ok1 X.n)=okr ((s.dr X h).ok1 X.n):=by kernel_rfl)
 (h2:∀ b:Nat,oks ((s.dr X h).okP X [] [] (.slice (some ⟨b,0,none⟩) zs.length n.toNat) ⟨[],[ArrO (some ⟨b,0,none⟩) n.toNat zs]⟩)=okr ((s.dr X h).okP X [] [] (.slice (some ⟨b,0,none⟩) zs.length n.toNat) ⟨[],[ArrO (some ⟨b,0,none⟩) n.toNat zs]⟩):=by intro _; kernel_rfl) (h3:∀ b:Nat,(s.dr X h).ol1=(s.dr X h).olP [] [] ⟨[],[ArrO (some ⟨b,0,none⟩) n.toNat zs]⟩:=by intro _; kernel_rfl):G X s:=by
 refine ⟨_root_.Go.Proofs.YtcidmgkfaioceaaGreat.x0 h ?_ hq hp⟩
 generalize s.dr X h=s at *
 subst hz
 refine step_oc (io:=[]) (ia:=[]) (pre:=⟨[],[]⟩) (rv:=fun b:Nat=>Value.slice (some ⟨b,0,none⟩) (List.replicate n.toNat (Ro.d:α)).length n.toNat) (post:=fun b=>⟨[],[ArrO (some ⟨b,0,none⟩) n.toNat (List.replicate n.toNat (Ro.d:α))]⟩) (fun Γ=>?_) rfl rfl h1 h2 h3 fun z=>(k z).get
 intro w hw ro o aa K Q kk
 refine mk_step (α:=Gr α) (P:=X.P) (W0:=X.W0) () hb (fun _ _=>trivial) hx hk hv Γ w hw ro o aa K Q ?_
 rintro v Δ w' ⟨b,rfl,rfl⟩ hw'
 have e:List.replicate n.toNat (Rw.d:Gr α)=zg (List.replicate n.toNat (Ro.d:α)) (List.replicate n.toNat Ro.x0):=by
  unfold zg; rw [List.zipWith_replicate,Nat.min_self]; rfl
 rw [List.length_replicate]
 refine kk _ _ w' ⟨b,by rw [List.length_replicate],rfl⟩ (ArrO.mk (List.replicate n.toNat Ro.x0) (by simp) ?_)
 rw [e] at hw'
 exact Sat.swap (A:=oAll (List.replicate n.toNat (Ro.d:α)) (List.replicate n.toNat Ro.x0)) (B:=[ArrA (some ⟨b,0,none⟩) n.toNat (zg (List.replicate n.toNat (Ro.d:α)) (List.replicate n.toNat Ro.x0))]) (C:=Γ) (oAll_rep (fun h=>hd h) n.toNat hw')
theorem setR_len {l l':List α} {i:Int} {v:α} (h:setR l i v=l'):l.length=l'.length:=by subst h; simp [setR]
instance roList {β:Type} [Rw β]:Ro (List β) where
 X:=Option Addr×Nat
 k:=1
 cells l x:=[.slice x.1 l.length x.2]
 asn l x:=[ArrA x.1 x.2 l]
 d:=[]
 x0:=(none,0)
 len _ _:=rfl
 one _ _:=rfl
theorem roList_d {β:Type} [Rw β] {W0:World} {w:World} {Γ:List Asn} (h:Sat W0 Γ w):Sat W0 (Ro.asn (Ro.d:List β) Ro.x0++Γ) w:=ArrA.none_mk h
theorem gh_frzO {β:Type} [Rw β] (a:Option Addr) (cap:Nat) (l:List (List β)):Gh ⟨[],[ArrO a cap l]⟩ fun _:Unit=>⟨[],[ArrA a cap l]⟩:=by
 intro W0 Γ w hw
 obtain ⟨xs,h1,h2⟩:=ArrO.of (show Sat W0 (ArrO a cap l::Γ) w from hw)
 refine ⟨(),?_⟩
 have key:∀ (l:List (List β)) (xs:List (Option Addr×Nat)) (Γ:List Asn),Sat W0 (oAll l xs++Γ) w→Sat W0 (KnA (α:=List β) l xs::Γ) w:=by
  intro l
  induction l with
  |nil =>
   intro xs Γ h
   have h3:Sat W0 Γ w:=by cases xs <;> exact h
   exact h3.imp fun S I h=>⟨fun _=>False,S,fun _ h=>h.elim,fun _ h=>h,fun _ h _=>h,fun i a x e=>by simp at e,h⟩
  |cons v l ih =>
   intro xs Γ h
   cases xs with
   |nil=>exact (show Sat W0 Γ w from h).imp fun S I h=>⟨fun _=>False,S,fun _ h=>h.elim,fun _ h=>h,fun _ h _=>h,fun i a x _ e=>by simp at e,h⟩
   |cons x xs =>
    have h3:Sat W0 (ArrA x.1 x.2 v::(oAll l xs++Γ)) w:=h
    obtain ⟨_,h4⟩:=gh_frz x.1 x.2 v W0 (oAll l xs++Γ) w h3
    have h5:Sat W0 (oAll l xs++(ImmA x.1 x.2 v::Γ)) w:=Sat.swap (A:=[ImmA x.1 x.2 v]) h4
    have h6:=ih xs _ h5
    refine h6.imp fun S I hs=>?_
    obtain ⟨S1,S2,p1,p2,p3,p4,T1,T2,k1,k2,k3,k4,k5⟩:=hs
    refine ⟨fun _=>False,T2,fun _ h=>h.elim,fun b hb=>p2 b (k2 b hb),fun _ h _=>h,fun i u y e1 e2=>?_,k5⟩
    cases i with
    |zero =>
     simp only [List.getElem?_cons_zero,Option.some.injEq] at e1 e2
     subst e1; subst e2
     exact k4
    |succ i =>
     simp only [List.getElem?_cons_succ] at e1 e2
     exact p4 i u y e1 e2
 have h3:Sat W0 (KnA l xs::(ArrA a cap (zg l xs)::Γ)) w:=key l xs _ (Sat.swap (A:=[ArrA a cap (zg l xs)]) h2)
 have h4:Sat W0 (ArrA a cap (zg l xs)::KnA l xs::Γ) w:=Sat.swap (A:=[KnA l xs]) (B:=[ArrA a cap (zg l xs)]) h3
 obtain ⟨us,q1,h5⟩:=ArrA.split h4
 have e:rowsOf (zg l xs) us=rowsOf l xs:=by
  unfold rowsOf zg
  apply List.ext_getElem?
  intro n
  simp only [List.getElem?_zipWith]
  cases e1:l[n]? with
  |none=>simp
  |some g =>
   have hlt:n<l.length:=(List.getElem?_eq_some_iff.1 e1).1
   have hu:n<us.length:=by rw [q1,zg_len h1]; exact hlt
   have hx:n<xs.length:=by omega
   simp [List.getElem?_eq_getElem hu,List.getElem?_eq_getElem hx]
   rfl
 rw [e] at h5
 have h6:Sat W0 (RowsA (Rw.k (List β)) a cap (rowsOf l xs)::KnA (zg l xs) us::KnA l xs::Γ) w:=h5
 exact ArrA.join h1 (h6.less (.take .here (.take (.there .here) (.drop .here .refl))))
theorem kn_rows {β:Type} [Rw β] {W0 w:World}:∀ {l:List β} {xs:List (Rw.X β)} {Γ:List Asn},Sat W0 (List.zipWith Rw.asn l xs++Γ) w→Sat W0 (KnA l xs::Γ) w
 |[],_,Γ,h=>(show Sat W0 Γ w by simpa using h).imp fun S I h=>⟨fun _=>False,S,fun _ h=>h.elim,fun _ h=>h,fun _ h _=>h,fun i a x e=>by simp at e,h⟩
 |_::_,[],Γ,h=>(show Sat W0 Γ w by simpa using h).imp fun S I h=>⟨fun _=>False,S,fun _ h=>h.elim,fun _ h=>h,fun _ h _=>h,fun i a x _ e=>by simp at e,h⟩
 |v::l,x::xs,Γ,h=>by
  have h3:Sat W0 (Rw.asn v x::(List.zipWith Rw.asn l xs++Γ)) w:=by simpa using h
  have h5:Sat W0 (List.zipWith Rw.asn l xs++(Rw.asn v x::Γ)) w:=Sat.swap (A:=[Rw.asn v x]) h3
  have h6:=kn_rows h5
  refine h6.imp fun S I hs=>?_
  obtain ⟨S1,S2,p1,p2,p3,p4,T1,T2,k1,k2,k3,k4,k5⟩:=hs
  refine ⟨fun _=>False,T2,fun _ h=>h.elim,fun b hb=>p2 b (k2 b hb),fun _ h _=>h,fun i u y e1 e2=>?_,k5⟩
  cases i with
  |zero =>
   simp only [List.getElem?_cons_zero,Option.some.injEq] at e1 e2
   subst e1; subst e2
   exact Rw.dup _ _ _ _ _ k4
  |succ i =>
   simp only [List.getElem?_cons_succ] at e1 e2
   exact p4 i u y e1 e2
theorem gh_rows {β:Type} [Rw β] (b T n:Nat) (l:List β) (xs:List (Rw.X β)) (hl:xs.length=l.length:=by kernel_rfl) (hn:l.length=n:=by kernel_rfl) :
 Gh ⟨[⟨b,(rowsOf l xs).flatten.toArray,T⟩],List.zipWith Rw.asn l xs⟩ fun _:Unit=>⟨[],[ArrA (some ⟨b,0,none⟩) n l]⟩:=by
 intro W0 Γ w hw
 refine ⟨(),?_⟩
 have h0:Sat W0 (OB.asn ⟨b,(rowsOf l xs).flatten.toArray,T⟩::(List.zipWith Rw.asn l xs++Γ)) w:=by
  unfold Rs.all at hw
  simpa [owns,List.append_assoc] using hw
 have h:Sat W0 (Asn.own b (.cells (rowsOf l xs).flatten.toArray T (0,0))::(List.zipWith Rw.asn l xs++Γ)) w:=h0
 have h1:=RowsA.of_own (k:=Rw.k β) (rows:=rowsOf l xs) h rowsOf_k rfl
 rw [rowsOf_len hl,hn] at h1
 have h2:=Sat.swap (A:=[RowsA (Rw.k β) (some ⟨b,0,none⟩) n (rowsOf l xs)]) h1
 have h3:=kn_rows h2
 have h4:Sat W0 (RowsA (Rw.k β) (some ⟨b,0,none⟩) n (rowsOf l xs)::KnA l xs::Γ) w:=Sat.swap (A:=[KnA l xs]) (B:=[RowsA (Rw.k β) (some ⟨b,0,none⟩) n (rowsOf l xs)]) h3
 exact ArrA.join hl h4
end
section
open Go Go.RowKit
structure PktS where
 kind:Int
 src:Int
 dst:Int
 id:Int
 line:Int
 ptr:Int
 state:Int
 flag:Bool
 data:List Int
structure DealS where
 kind:Int
 line:Int
 id:Int
 step:Int
 state:Int
 head:Int
 data:List Int
 next:Int
 told:Int
structure Ent where
 fwd:Int
 back:Int
 line:Int
 used:Int
 dirty:Bool
 data:List Int
structure LinkS where
 fwd:Int
 back:Int
structure CfgS where
 nodes:Int
 lines:Int
 words:Int
 sets:Int
 ways:Int
 out:Int
 inn:Int
 init:List Int
structure RowS where
 state:Int
 head:Int
 data:List Int
structure OpS where
 kind:Int
 addr:Int
 value:Int
structure EventS where
 node:Int
 index:Int
 done_:Bool
 value:Int
structure PickS where
 deliver:Bool
 at_:Int
 bit:Int
 mask:Int
structure ChoiceS where
 do_:Int
 at_:Int
 bit:Int
 mask:Int
structure AskS where
 who:Int
 id:Int
structure SetupS where
 nodes:Int
 lines:Int
 words:Int
 sets:Int
 ways:Int
 out:Int
 inn:Int
 init:List Int
 who:List Int
 kinds:List Int
 addrs:List Int
 values:List Int
instance rwPktS:Rw PktS where
 X:=Option Addr×Nat
 k:=9
 cells p x:=[.int .i64 p.kind,.int .i64 p.src,.int .i64 p.dst,.int .i64 p.id,.int .i64 p.line,.int .i64 p.ptr,.int .i64 p.state,.bool p.flag,.slice x.1 p.data.length x.2]
 asn p x:=ImmA x.1 x.2 p.data
 d:=⟨0,0,0,0,0,0,0,false,[]⟩
 len _ _:=rfl
 one _ _:=rfl
 dup _ _:=imm_dup _ _ _
instance rwEnt:Rw Ent where
 X:=Option Addr×Nat
 k:=6
 cells p x:=[.int .i64 p.fwd,.int .i64 p.back,.int .i64 p.line,.int .i64 p.used,.bool p.dirty,.slice x.1 p.data.length x.2]
 asn p x:=ImmA x.1 x.2 p.data
 d:=⟨0,0,0,0,false,[]⟩
 len _ _:=rfl
 one _ _:=rfl
 dup _ _:=imm_dup _ _ _
instance rwOpS:Rw OpS where
 X:=Unit
 k:=3
 cells p x:=[.int .i64 p.kind,.int .i64 p.addr,.int .i64 p.value]
 asn p x:=Asn.pure True
 d:=⟨0,0,0⟩
 len _ _:=rfl
 one _ _:=rfl
 dup _ _ _ _ _ h:=h
instance rwEventS:Rw EventS where
 X:=Unit
 k:=4
 cells p x:=[.int .i64 p.node,.int .i64 p.index,.bool p.done_,.int .i64 p.value]
 asn p x:=Asn.pure True
 d:=⟨0,0,false,0⟩
 len _ _:=rfl
 one _ _:=rfl
 dup _ _ _ _ _ h:=h
instance rwChoiceS:Rw ChoiceS where
 X:=Unit
 k:=4
 cells p x:=[.int .i64 p.do_,.int .i64 p.at_,.int .i64 p.bit,.int .u16 p.mask]
 asn p x:=Asn.pure True
 d:=⟨0,0,0,0⟩
 len _ _:=rfl
 one _ _:=rfl
 dup _ _ _ _ _ h:=h
instance rwAskS:Rw AskS where
 X:=Unit
 k:=2
 cells p x:=[.int .i64 p.who,.int .i64 p.id]
 asn p x:=Asn.pure True
 d:=⟨0,0⟩
 len _ _:=rfl
 one _ _:=rfl
 dup _ _ _ _ _ h:=h
instance rwRowS:Rw RowS where
 X:=Option Addr×Nat
 k:=3
 cells p x:=[.int .i64 p.state,.int .i64 p.head,.slice x.1 p.data.length x.2]
 asn p x:=ImmA x.1 x.2 p.data
 d:=⟨0,0,[]⟩
 len _ _:=rfl
 one _ _:=rfl
 dup _ _:=imm_dup _ _ _
def cloneS (l:List Int):Option (List Int):=chk (l.length≤1099511627776) (some l)
theorem cloneF {l:List Int} {lA:Asn} (la:Option Addr) (lc:Nat) (hlA:Rdb lA la lc l) {y:List Int} (H:cloneS l=some y):FnY Tryz.prog 39 [.slice la l.length lc] ⟨[],[lA]⟩ (Z:=Option Addr×Nat) (fun y (za0,zc0)=>.slice za0 y.length zc0) (fun y (za0,zc0)=>⟨[],[(ArrA za0 zc0 y),lA]⟩) y:=by
 unfold cloneS at H
 obtain ⟨q1,H⟩:=chkE H
 obtain rfl:=someE H
 refine xfY Tryz.func39 fun W0 F=>?_
 rcases la with _ | p
 · refine xk [] [0] (nil_of hlA) fun hl=>?_
   subst hl
   refine xg [] [] [] (gh_nil (α:=Int) none) fun _=>?_
   exact xrY rfl [1] [] [] [0,0] (none,0)
 · refine xn [0] fun b=>?_
   refine xg [] [] [] (gh_nil (α:=Int) (some ⟨b,0,none⟩)) fun _=>?_
   refine xa [] [0,0] (a:=some ⟨b,0,none⟩) (l:=([]:List Int)) (zs:=l) (cap:=0) hlA rfl q1 fun ⟨a,c⟩=>?_
   exact xrY rfl [] [] [] [0,0] (a,c)
def cloneES (l:List EventS):Option (List EventS):=chk (l.length≤1099511627776) (some l)
theorem cloneEF {l:List EventS} {lA:Asn} (la:Option Addr) (lc:Nat) (hlA:Rdb lA la lc l) {y:List EventS} (H:cloneES l=some y):FnY Tryz.prog 73 [.slice la l.length lc] ⟨[],[lA]⟩ (Z:=Option Addr×Nat) (fun y (za0,zc0)=>.slice za0 y.length zc0) (fun y (za0,zc0)=>⟨[],[(ArrA za0 zc0 y),lA]⟩) y:=by
 unfold cloneES at H
 obtain ⟨q1,H⟩:=chkE H
 obtain rfl:=someE H
 refine xfY Tryz.func73 fun W0 F=>?_
 rcases la with _ | p
 · refine xk [] [0] (nil_of hlA) fun hl=>?_
   subst hl
   refine xg [] [] [] (gh_nil (α:=EventS) none) fun _=>?_
   exact xrY rfl [1] [] [] [0,0] (none,0)
 · refine xn [0] fun b=>?_
   refine xg [] [] [] (gh_nil (α:=EventS) (some ⟨b,0,none⟩)) fun _=>?_
   refine xa [] [0,0] (a:=some ⟨b,0,none⟩) (l:=([]:List EventS)) (zs:=l) (cap:=0) hlA rfl q1 fun ⟨a,c⟩=>?_
   exact xrY rfl [] [] [] [0,0] (a,c)
def cloneOS (l:List OpS):Option (List OpS):=chk (l.length≤1099511627776) (some l)
theorem cloneOF {l:List OpS} {lA:Asn} (la:Option Addr) (lc:Nat) (hlA:Rdb lA la lc l) {y:List OpS} (H:cloneOS l=some y):FnY Tryz.prog 125 [.slice la l.length lc] ⟨[],[lA]⟩ (Z:=Option Addr×Nat) (fun y (za0,zc0)=>.slice za0 y.length zc0) (fun y (za0,zc0)=>⟨[],[(ArrA za0 zc0 y),lA]⟩) y:=by
 unfold cloneOS at H
 obtain ⟨q1,H⟩:=chkE H
 obtain rfl:=someE H
 refine xfY Tryz.func125 fun W0 F=>?_
 rcases la with _ | p
 · refine xk [] [0] (nil_of hlA) fun hl=>?_
   subst hl
   refine xg [] [] [] (gh_nil (α:=OpS) none) fun _=>?_
   exact xrY rfl [1] [] [] [0,0] (none,0)
 · refine xn [0] fun b=>?_
   refine xg [] [] [] (gh_nil (α:=OpS) (some ⟨b,0,none⟩)) fun _=>?_
   refine xa [] [0,0] (a:=some ⟨b,0,none⟩) (l:=([]:List OpS)) (zs:=l) (cap:=0) hlA rfl q1 fun ⟨a,c⟩=>?_
   exact xrY rfl [] [] [] [0,0] (a,c)
def cloneBS (l:List U8):Option (List U8):=chk (l.length≤1099511627776) (some l)
theorem cloneBF {l:List U8} {lA:Asn} (la:Option Addr) (lc:Nat) (hlA:Rdb lA la lc l) {y:List U8} (H:cloneBS l=some y):FnY Tryz.prog 185 [.slice la l.length lc] ⟨[],[lA]⟩ (Z:=Option Addr×Nat) (fun y (za0,zc0)=>.slice za0 y.length zc0) (fun y (za0,zc0)=>⟨[],[(ArrA za0 zc0 y),lA]⟩) y:=by
 unfold cloneBS at H
 obtain ⟨q1,H⟩:=chkE H
 obtain rfl:=someE H
 refine xfY Tryz.func185 fun W0 F=>?_
 rcases la with _ | p
 · refine xk [] [0] (nil_of hlA) fun hl=>?_
   subst hl
   refine xg [] [] [] (gh_nil (α:=U8) none) fun _=>?_
   exact xrY rfl [1] [] [] [0,0] (none,0)
 · refine xn [0] fun b=>?_
   refine xg [] [] [] (gh_nil (α:=U8) (some ⟨b,0,none⟩)) fun _=>?_
   refine xa [] [0,0] (a:=some ⟨b,0,none⟩) (l:=([]:List U8)) (zs:=l) (cap:=0) hlA rfl q1 fun ⟨a,c⟩=>?_
   exact xrY rfl [] [] [] [0,0] (a,c)
end
section
open Go Go.RowKit
def semV (P:Program):Sem Value→Option Value
 |.pure v=>some v
 |.program k=>semV P (k P)
 |.mark _ k=>semV P k
 |_=>none
theorem semV_ok {P:Program} {v:Value} {w:World}:∀ {s:Sem Value},semV P s=some v→s.run P w=.ok v w:=by
 intro s
 induction s with
 |pure a=>intro h; obtain rfl:=Option.some.inj h; rfl
 |program k ih=>intro h; exact ih P h
 |mark m k ih=>intro h; exact ih h
 |_=>intro h; cases h
def eqV (P:Program) (t:TypeId):Value→Value→Option Bool
 |.int k a,.int k' b=>match P.underlying t,decide (k=k') with
  |some (.int _),true=>some (decide (a=b))
  |_,_=>none
 |.bool a,.bool b=>match P.underlying t with
  |some .bool=>some (a == b)
  |_=>none
 |_,_=>none
theorem eqV_ok {P:Program} {t:TypeId} {x y:Value} {b:Bool} {w:World} {d:Nat} (h:eqV P t x y=some b):(Op.equalIn (d+1) t x y).run P w=.ok b w:=by
 unfold eqV at h
 split at h
 · split at h
   · rename_i hu hk
     obtain rfl:=of_decide_eq_true hk
     obtain rfl:=Option.some.inj h
     rw [run_equalIn_int w d t _ _ _ _ hu]
     congr 1
   · cases h
 · split at h
   · rename_i a b' _ hu
     obtain rfl:=Option.some.inj h
     exact run_equalIn_bool' w d t a b' hu
   · cases h
 · cases h
def eqF (P:Program) (xs ys:Array Value):List Field→Option Bool
 |[]=>some true
 |f::fs =>
  match decide (f.name≠"_"),semV P (part f.type xs f.offset),semV P (part f.type ys f.offset) with
  |true,some x,some y=>match eqV P f.type x y,eqF P xs ys fs with
   |some a,some b=>some (a && b)
   |_,_=>none
  |_,_,_=>none
theorem eqF_ok {P:Program} {xs ys:Array Value} {w:World} {d:Nat}:∀ {fs:List Field} {b:Bool},eqF P xs ys fs=some b→(Op.eqFields (d+1) xs ys fs).run P w=.ok b w
 |[],b,h=>by obtain rfl:=Option.some.inj h; rfl
 |f::fs,b,h=>by
  unfold eqF at h
  split at h
  · rename_i x y hn hx hy
    split at h
    · rename_i a b' ha hb
      obtain rfl:=Option.some.inj h
      have hn':=of_decide_eq_true hn
      unfold Op.eqFields
      rw [if_pos hn']
      refine run_seq (semV_ok hx) ?_
      refine run_seq (semV_ok hy) ?_
      refine run_seq (eqV_ok ha) ?_
      cases a with
      |true=>simpa using eqF_ok hb
      |false=>rfl
    · cases h
  · cases h
theorem ov_neq (P:Program) (t:TypeId) (x y:Operand) {xs ys:Array Value} {b:Bool} (hf:eqF P xs ys (P.fieldsOf t).toList=some b:=by kernel_rfl) (hm:P.eqGuardType P.depth t=false:=by kernel_rfl) (hp:P.stoodInHeld t=false:=by kernel_rfl) (ht:P.underlying t=some (.struct (P.fieldsOf t)):=by kernel_rfl) :
 Ov P ((do eqGuard .neq t x y (.agg xs) (.agg ys); binOp .neq t (.agg xs) (.agg ys)) >>= fun v=>pure (Next.value v)) (.bool (!b)):=by
 intro w
 refine run_seq (run_seq (run_eqGuard_agg w .neq t x y xs ys hm) ?_) rfl
 rw [run_neq_struct,run_equalIn_agg w 9999 t xs ys ht hp,eqF_ok hf]; rfl
end
section
open Go Go.RowKit
def withinS (v:Int) (n:Int):Option (Int) :=
 (bif decide (n<(1:Int)) then some (0:Int) else chk (1≤n) ((bif decide ((v.tmod n)<(0:Int)) then chk (inR ((v.tmod n)+n)) (some ((v.tmod n)+n)) else some (v.tmod n))))
theorem within_fq {v:Int} {n:Int} {y:Int} (H:withinS v n=some y):Fq Tryz.prog 8 [.int .i64 v,.int .i64 n] (.int .i64 y):=by
 unfold withinS at H
 refine Fn.quiet (xf Tryz.func8 fun W0 F=>?_)
 refine xs [] H ?_ ?_
 · intro H
   obtain rfl:=someE H
   exact xr [1] [] [] [] ()
 · intro H
   refine chkG H fun q3_2_1 H=>?_
   refine xp [0] (ov_rem (a:=v) (b:=n) q3_2_1) ?_
   refine xs [] H ?_ ?_
   · intro H
     refine chkG H fun q5_2_1 H=>?_
     obtain rfl:=someE H
     refine xd [1,0] (ap q5_2_1 an) ?_
     exact xr [] [] [] [] ()
   · intro H
     obtain rfl:=someE H
     exact xr [0] [] [] [] ()
def copyS (l:List Int):Option (List Int) :=
 chk ((l).length≤1099511627776) (letP (l) fun l1_1=>some l1_1)
theorem copyF {l:List Int} {lA:Asn} (la:Option Addr) (lc:Nat) (hlA:Rdb lA la lc l) {y:List Int} (H:copyS l=some y):FnY Tryz.prog 114 [.slice la l.length lc] ⟨[],[lA]⟩ (Z:=Option Addr×Nat) (fun y (za0,zc0)=>.slice za0 y.length zc0) (fun y (za0,zc0)=>⟨[],[(ArrA za0 zc0 y),lA]⟩) y:=by
 unfold copyS at H
 refine xfY Tryz.func114 fun W0 F=>?_
 refine xg [] [] [] (gh_nil (α:=Int) none) fun _=>?_
 refine chkG H fun q1_1_1 H=>?_
 refine letG H fun l1_1 hl1_1 H=>?_
 refine xa [] [0,0] (a:=none) (l:=([]:List Int)) (zs:=l1_1) (cap:=0) hlA hl1_1 (hl1_1▸q1_1_1) fun ⟨a1_1,c1_1⟩=>?_
 exact xrY (someE H) [] [] [] [0,0] (a1_1,c1_1)
def sameES_j0:Option (Bool) :=
 some true
def sameES_l1 (a:List EventS) (b:List EventS) (k0:Option (Bool)):Nat→Int→Option (Bool)
 |0,_=>none
 |m+1,v1_5=>(bif decide (v1_5<(a.length:Int)) then chk (0≤v1_5∧v1_5<(a.length:Int)) (chk (0≤v1_5∧v1_5<(b.length:Int)) ((bif !(decide (((nthT a v1_5).node)=((nthT b v1_5).node)) && (decide (((nthT a v1_5).index)=((nthT b v1_5).index)) && ((((nthT a v1_5).done_) == ((nthT b v1_5).done_)) && (decide (((nthT a v1_5).value)=((nthT b v1_5).value)) && true)))) then some false else chk (inR (v1_5+(1:Int))) ((sameES_l1 a b k0 m) (v1_5+(1:Int)))))) else k0)
def sameES (a:List EventS) (b:List EventS):Option (Bool) :=
 (bif !(decide ((a.length:Int)=(b.length:Int))) then some false else sameES_l1 a b sameES_j0 (a.length+1) (0:Int))
theorem sameEF {a:List EventS} {aA:Asn} {b:List EventS} {bA:Asn} (aa:Option Addr) (ac:Nat) (ba:Option Addr) (bc:Nat) (haA:Rdb aA aa ac a) (hbA:Rdb bA ba bc b) {y:Bool} (H:sameES a b=some y):FnY Tryz.prog 34 [.slice aa a.length ac,.slice ba b.length bc] ⟨[],[aA,bA]⟩ (Z:=Unit) (fun y _=>.bool y) (fun y _=>⟨[],[aA,bA]⟩) y:=by
 unfold sameES at H
 refine xfY Tryz.func34 fun W0 F=>?_
 refine xs [] H ?_ ?_
 · intro H
   exact xrY (someE H) [1] [] [] [0,0] ()
 · intro H
   refine xj [0,100] (ι:=Unit) (fun _=>⟨[],[],[aA,bA]⟩) (fun _=>sameES_j0=some y) ?_ ?_
   · rintro _ H
     replace H:sameES_j0=some y:=H
     rw [sameES_j0] at H
     exact xrY (someE H) [] [] [] [0,0] ()
   · intro N0 hN0
     refine xl [] (ι:=Int) (fun v1_5=>⟨[(0,.slice aa a.length ac),(1,.slice ba b.length bc),(5,.int .i64 v1_5)],[],[aA,bA]⟩) (fun m1 v1_5=>sameES_l1 a b (sameES_j0) m1 v1_5=some y) [] [0,0] ((a.length+1)) ((0:Int)) H ?_
     rintro N1 (_ | m1) v1_5 H hN1
     · exact (noneE H).elim
     replace H:sameES_l1 a b (sameES_j0) (m1+1) v1_5=some y:=H
     rw [sameES_l1] at H
     refine xs [] H ?_ ?_
     · intro H
       refine chkG H fun q6_2_1 H=>?_
       refine xi [1,0,1,2] 0 haA q6_2_1 fun b1 o1 e1=>?_
       refine xpl [3] 0 (ol_ldN haA e1 q6_2_1 0 4 (fun _=>rfl)) ?_
       refine chkG H fun q6_6_1 H=>?_
       refine xi [4,5,6] 1 hbA q6_6_1 fun b2 o2 e2=>?_
       refine xpl [7] 1 (ol_ldN hbA e2 q6_6_1 0 4 (fun _=>rfl)) ?_
       refine xp [8] (ov_neq Tryz.prog 95 (.tmp 20) (.tmp 24) (xs:=#[.int .i64 ((nthT a v1_5).node),.int .i64 ((nthT a v1_5).index),.bool ((nthT a v1_5).done_),.int .i64 ((nthT a v1_5).value)]) (ys:=#[.int .i64 ((nthT b v1_5).node),.int .i64 ((nthT b v1_5).index),.bool ((nthT b v1_5).done_),.int .i64 ((nthT b v1_5).value)]) (b:=(decide (((nthT a v1_5).node)=((nthT b v1_5).node)) && (decide (((nthT a v1_5).index)=((nthT b v1_5).index)) && ((((nthT a v1_5).done_) == ((nthT b v1_5).done_)) && (decide (((nthT a v1_5).value)=((nthT b v1_5).value)) && true)))))) ?_
       refine xs [] H ?_ ?_
       · intro H
         exact xrY (someE H) [1] [] [] [0,0] ()
       · intro H
         refine chkG H fun q5_1_1 H=>?_
         refine xd [0,0] (ap q5_1_1 an) ?_
         exact xe [] _ [] [0,0] (hN1 _ (v1_5+(1:Int)) (Nat.lt_succ_self _) H)
     · intro H
       exact xe [0] _ [] [0,0] (hN0 () H)
def cutS (l:List Int) (n:Int):Option (List Int) :=
 letP (if n<(l.length:Int) then n else (l.length:Int)) fun u1_4=>chk (0≤(0:Int)∧(0:Int)≤u1_4∧u1_4≤(l.length:Int)) (letP ((l.drop ((0:Int)).toNat).take ((u1_4).toNat - ((0:Int)).toNat)) fun l1_5=>(copyS l1_5).bind fun y1_6=>some y1_6)
theorem cutF {l:List Int} {lA:Asn} {n:Int} (la:Option Addr) (lc:Nat) (hlA:Rdb lA la lc l) {y:List Int} (H:cutS l n=some y):FnY Tryz.prog 68 [.slice la l.length lc,.int .i64 n] ⟨[],[lA]⟩ (Z:=Option Addr×Nat) (fun y (za0,zc0)=>.slice za0 y.length zc0) (fun y (za0,zc0)=>⟨[],[(ArrA za0 zc0 y),lA]⟩) y:=by
 unfold cutS at H
 refine xfY Tryz.func68 fun W0 F=>?_
 refine letG H fun u1_4 hu1_4 H=>?_
 refine xw [307] 9 (congrArg (Value.int .i64) hu1_4) ?_
 refine chkG H fun q1_5_1 H=>?_
 refine letG H fun l1_5 hl1_5 H=>?_
 refine xsl [] 0 hlA (mx:=(lc:Int)) q1_5_1 (.inl rfl) hl1_5 fun a1_5 rl1_5=>?_
 refine bindG H fun y1_6 hy1_6 H=>?_
 refine xc [] [] [0] (copyF a1_5 (((lc:Int)).toNat - ((0:Int)).toNat) rl1_5 hy1_6) fun ⟨t1_6_a0,t1_6_c0⟩=>?_
 exact xrY (someE H) [] [] [] [0,0] (t1_6_a0,t1_6_c0)
end
end Go.Proofs.YtcidmgkfaioceaaGreat
