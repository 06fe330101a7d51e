/- Walks of the program's functions, and the plain laws of what they compute (part 9): PT, PU, PV, PW, PX, PY, PZ, QA, RA, QB, QC, RC, Tig.
   Conditions: none. -/
import Derived.Test.YtcidmgkfaioceaaGreatMReaders8
set_option linter.unusedVariables false
set_option linter.unusedSimpArgs false
set_option linter.unusedSectionVars false
set_option maxRecDepth 100000
set_option maxHeartbeats 4000000
namespace Go.Proofs.YtcidmgkfaioceaaGreat
section
open Go
section
variable {g:CfgS} {s s':St} {ops:Nat→List OpS} {mem0 mem mem':List Int} {k X h:Nat} {L:Int} {x:NodeS} {t:Tk}
theorem ev_work (hg:GOk g) (hP:POk g ops) (I:Inv g ops mem0 mem s) (hX:X<nn g) (h1:s.tk X=.idle) {o:OpS} (hcur:cur (s.nd X)=some o):FinW g ops mem0 s X:=by
 have N:=I.nod X hX
 have hst:(s.dl X).step=0:=(I.net.idle X hX).1 h1
 have hnh:¬ Held (s.dl X) (s.tk X):=fun z=>z.1 hst
 obtain ⟨hO,hlt,hat,hl24,hv24⟩:=cur_ok hP N hcur
 obtain ⟨a1,a2,a3,a4,a5⟩:=addr_eq hg hO
 have htl:=I.trLen hg hP
 have hC:=N.co
 have htB:=trB_len (x:=s.nd X) (tr:=s.tr)
 have hW:=work_in (f:=⟨fab g s⟩) (tr:=s.tr) hcur hst hl24 hv24 (by omega)
 have hln:plineS (s.nd X).c o.addr=some (oline g o,oword g o):=by rw [N.c]; exact line_ok hg hO
 have hfe:=find_ok hg hC (oline g o)
 have hcvf:cv (s.nd X).cache (oline g o)=(cf (s.nd X).cache.l (oline g o)).map toCp:=rfl
 have hW2:nworkS (s.nd X) ⟨fab g s⟩ ⟨s.tr⟩=(bif decide (o.kind=4) then (nworkS_j2 (s.nd X) (prB (s.nd X)) ⟨trB (s.nd X) s.tr⟩ ⟨fab g s⟩ (o,(((s.nd X).proc.values.length:Nat):Int),true) (oline g o,oword g o) (match cf (s.nd X).cache.l (oline g o) with | some e=>(e,true) | none=>(ent0,false))) !(match cf (s.nd X).cache.l (oline g o) with | some e=>(e,true) | none=>(ent0,false)).2
  else (nworkS_j2 (s.nd X) (prB (s.nd X)) ⟨trB (s.nd X) s.tr⟩ ⟨fab g s⟩ (o,(((s.nd X).proc.values.length:Nat):Int),true) (oline g o,oword g o) (match cf (s.nd X).cache.l (oline g o) with | some e=>(e,true) | none=>(ent0,false))) false):=by
  rw [hW]
  unfold nworkS_j1
  simp only
  rw [hln,Option.bind_some]
  simp only
  rw [hfe,Option.bind_some]
  rfl
 have hEnd:∀ (c':CacheS) (v:Int),nendS { s.nd X with cache:=c',proc:=prB (s.nd X) } ⟨trB (s.nd X) s.tr⟩ v=some ({ s.nd X with cache:=c',proc:=pEnd (s.nd X) v },⟨trB (s.nd X) s.tr++[eEnd (s.nd X) v]⟩):=fun c' v=>end_eq (x:={ s.nd X with cache:=c',proc:=prB (s.nd X) }) (o:=o) hcur rfl hl24 hv24 (by omega)
 have k0:=hO.k0
 have k1:=hO.k1
 cases hcf:cf (s.nd X).cache.l (oline g o) with
 |none =>
  rw [hcf] at hW2 hcvf
  have hcn:cv (s.nd X).cache (oline g o)=none:=hcvf
  by_cases h4:o.kind=4
  · refine fin_end hg hP I hX h1 hcur (c':=(s.nd X).cache) (v:=0) ?_ hC (by unfold opVal; rw [if_neg (by omega)]) (.inl ⟨h4,rfl,hcn⟩)
    rw [hW2,decide_eq_true h4,cond_true]
    unfold nworkS_j2
    simp only [Bool.not_false,cond_true]
    have:=hEnd (s.nd X).cache 0
    have e:({ s.nd X with cache:=(s.nd X).cache,proc:=prB (s.nd X) }:NodeS)={ s.nd X with proc:=prB (s.nd X) }:=rfl
    rw [e] at this
    rw [this]
    rfl
  · have hW3:nworkS (s.nd X) ⟨fab g s⟩ ⟨s.tr⟩=nworkS_j3 (s.nd X) (oline g o,oword g o) (prB (s.nd X)) ⟨trB (s.nd X) s.tr⟩ ⟨fab g s⟩ (o,(((s.nd X).proc.values.length:Nat):Int),true) false:=by
     rw [hW2,decide_eq_false h4,cond_false]
     unfold nworkS_j2
     rw [cond_false]
     simp only
     rw [decide_eq_false h4]
     rfl
    unfold nworkS_j3 at hW3
    rw [cond_false] at hW3
    simp only at hW3
    rw [full_ok hg hC a1,Option.bind_some] at hW3
    by_cases hf:g.ways≤((cnt (s.nd X).cache (oline g o):Nat):Int)
    · rw [decide_eq_true ⟨hcn,hf⟩,cond_true] at hW3
      obtain ⟨v,v1,v2,v3,v4,v5⟩:=vic_ok hg hC a1 hf
      rw [v1,Option.bind_some] at hW3
      refine fin_begin hg hP I hX h1 hcur hW3 (.inr (.inr rfl)) ⟨v4,v5⟩ (fun z=>by omega) (fun z=>by omega) fun _=>⟨fun z=>absurd z h4,fun _=>⟨v3,hcn,v2,?_⟩⟩
      unfold fullB
      rw [hcur]
      show ((cv (s.nd X).cache (oline g o)).isNone && decide (g.ways≤((cnt (s.nd X).cache (oline g o):Nat):Int)))=true
      rw [hcn,decide_eq_true hf]
      rfl
    · rw [decide_eq_false (fun z=>hf z.2),cond_false] at hW3
      by_cases hk1:o.kind=1
      · rw [decide_eq_true hk1,cond_true] at hW3
        exact fin_begin hg hP I hX h1 hcur hW3 (.inl rfl) ⟨a1,a2⟩ (fun _=>⟨hk1,rfl,hcn,by omega⟩) (fun z=>by omega) (fun z=>by omega)
      · rw [decide_eq_false hk1,cond_false] at hW3
        exact fin_begin hg hP I hX h1 hcur hW3 (.inr (.inl rfl)) ⟨a1,a2⟩ (fun z=>by omega) (fun _=>⟨by omega,rfl,fun _=>(by omega),fun q hq=>(by rw [hcn] at hq; cases hq)⟩) (fun z=>by omega)
 |some e =>
  rw [hcf] at hW2 hcvf
  have hcs:cv (s.nd X).cache (oline g o)=some (toCp e):=hcvf
  by_cases h4:o.kind=4
  · have hW3:nworkS (s.nd X) ⟨fab g s⟩ ⟨s.tr⟩=(nbegS { s.nd X with proc:=prB (s.nd X) } ⟨fab g s⟩ 3 (oline g o)).bind fun y=>some (true,y.1,y.2,⟨trB (s.nd X) s.tr⟩):=by
     rw [hW2,decide_eq_true h4,cond_true]
     unfold nworkS_j2
     simp only [Bool.not_true,cond_false]
     rw [decide_eq_true h4,cond_true]
    exact fin_begin hg hP I hX h1 hcur hW3 (.inr (.inr rfl)) ⟨a1,a2⟩ (fun z=>by omega) (fun z=>by omega) fun _=>⟨fun _=>rfl,fun z=>absurd h4 z⟩
  · have hW3:nworkS (s.nd X) ⟨fab g s⟩ ⟨s.tr⟩=nworkS_j3 (s.nd X) (oline g o,oword g o) (prB (s.nd X)) ⟨trB (s.nd X) s.tr⟩ ⟨fab g s⟩ (o,(((s.nd X).proc.values.length:Nat):Int),true) (decide (o.kind=1∨e.dirty=true)):=by
     rw [hW2,decide_eq_false h4,cond_false]
     unfold nworkS_j2
     rw [cond_false]
     simp only
     rw [decide_eq_false h4,cond_false,cond_true]
     by_cases hk1:o.kind=1
     · rw [decide_eq_true hk1,cond_true,decide_eq_true (.inl hk1)]
     · rw [decide_eq_false hk1,cond_false]
       cases hd:e.dirty with
       |true=>rw [decide_eq_true (.inr rfl)]
       |false=>rw [decide_eq_false (by simp [hk1])]
    unfold nworkS_j3 at hW3
    by_cases hit:o.kind=1∨e.dirty=true
    · rw [decide_eq_true hit,cond_true] at hW3
      simp only at hW3
      obtain ⟨c1,t1,t2,t3,t4⟩:=touch_ok hg hC (L:=oline g o) (by rw [hcs]; simp)
      rw [t1,Option.bind_some] at hW3
      simp only at hW3
      obtain ⟨c2,e1,e2,e3,e4⟩:=eff_ok (x:={ s.nd X with cache:=c1,proc:=prB (s.nd X) }) (tr:=trB (s.nd X) s.tr) (o:=o) (q:=toCp e) hg N.c hO hcur h4 rfl hl24 hv24 (by omega) t2 (by rw [t3]; exact hcs) (fun z=>by
       rcases hit with hit | hit
       · exact absurd hit z
       · exact hit)
      rw [e1,Option.bind_some] at hW3
      have hqM:e.data=lw g mem (oline g o):=by
       have hq':cw g s (oline g o) X=some (toCp e):=by unfold cw; rw [if_pos hX]; exact hcs
       obtain ⟨r,q1,q2,q3⟩:=I.lin _ a1 a2
       cases how:own g s (oline g o) with
       |none=>rw [how] at q3; obtain ⟨xs,hN⟩:=q3; exact hN.dt X _ hq'
       |some y=>rw [how] at q3; exact ph_data q3 hq'
      refine fin_end hg hP I hX h1 hcur (c':=c2) (v:=opTold g e.data o) hW3 e2 (by rw [told_eq hg hO,hqM]) (.inr ⟨h4,toCp e,hcs,hit,fun L'=>?_⟩)
      rw [e3,t3]
    · rw [decide_eq_false hit,cond_false] at hW3
      simp only at hW3
      rw [full_ok hg hC a1,Option.bind_some,decide_eq_false (fun z=>by rw [hcs] at z; cases z.1),cond_false] at hW3
      have hk1:¬ o.kind=1:=fun z=>hit (.inl z)
      rw [decide_eq_false hk1,cond_false] at hW3
      refine fin_begin hg hP I hX h1 hcur hW3 (.inr (.inl rfl)) ⟨a1,a2⟩ (fun z=>by omega) (fun _=>⟨by omega,rfl,fun z=>(by rw [hcs] at z; cases z),fun q hq=>?_⟩) (fun z=>by omega)
      rw [hcs] at hq
      obtain rfl:=Option.some.inj hq
      cases hd:e.dirty with
      |false=>exact hd
      |true=>exact absurd (.inr hd) hit
theorem work_no (hP:POk g ops) (I:Inv g ops mem0 mem s) (hX:X<nn g) (hn:s.tk X≠.idle∨cur (s.nd X)=none) {f:FabS} {tr:List EventS}:nworkS (s.nd X) f ⟨tr⟩=some (false,s.nd X,f,⟨tr⟩):=by
 have N:=I.nod X hX
 have hl:(s.nd X).proc.ops.length≤24:=by rw [N.po]; exact hP.len X
 have hv:(s.nd X).proc.values.length≤(s.nd X).proc.ops.length:=by rw [N.po]; exact N.vl
 unfold nworkS
 cases hc:cur (s.nd X) with
 |none =>
  rw [cur_no hc hl hv,Option.bind_some]
  rfl
 |some o =>
  rw [cur_eq hc hl (by omega),Option.bind_some]
  have h1:s.tk X≠.idle:=by
   rcases hn with hn | hn
   · exact hn
   · rw [hc] at hn; cases hn
  have h2:(s.nd X).deal.step≠0:=fun z=>h1 ((I.net.idle X hX).2 z)
  simp only [Bool.not_true,cond_false]
  rw [decide_eq_false h2,Bool.not_false]
  rfl
end
end
section
open Go
section
variable {g:CfgS} {s s':St} {ops:Nat→List OpS} {mem0 mem mem':List Int} {k X h:Nat} {L:Int} {x:NodeS} {t:Tk}
theorem fab_taken {ks:List Nat} {p:PktS} (N:Net g (nn g) s.dl s.tk s.dv s.Q s.AP s.aw) (hh:h<nn g) (h1:s.Q h=X::ks) (hd:s'.dl=s.dl) (ht:s'.tk=upd s.tk X .ans) (hv:s'.dv=upd s.dv X false) (hq:s'.Q=upd s.Q h ks) (ha:s'.AP=upd s.AP h (s.AP h++[X])) (hw:s'.aw=upd s.aw X p) :
 fab g s'=csOf (nn g) (upd (RC g s) h ⟨(RC g s h).pool,⟨ks.map (rqP g s.dl),g.inn⟩⟩) (upd (AC g s) h ⟨⟨(AC g s h).pool.l++[p],g.out⟩,(AC g s h).queue⟩):=by
 obtain ⟨hX,h3,h4,h5⟩:=(N.qm h hh X).1 (by rw [h1]; simp)
 have hap:∀ j,j<nn g→X∉s.AP j:=fun j hj hx=>by have:=(N.pm j hj X).1 hx; rw [h3] at this; simp at this
 have hmap:∀ j,j<nn g→(s.AP j).map s'.aw=(s.AP j).map s.aw:=fun j hj=>List.map_congr_left fun i hi=>by
  rw [hw,upd_ne]
  rintro rfl
  exact hap j hj hi
 refine csOf_con fun j hj=>⟨?_,?_⟩
 · have e:(if s'.tk j=.req∧s'.dv j=false then [rqP g s'.dl j] else [])=(if s.tk j=.req∧s.dv j=false then [rqP g s.dl j] else []):=by
    rw [hd,ht,hv]
    by_cases e:j=X
    · subst e; rw [upd_eq,upd_eq,h3,h4]; simp
    · rw [upd_ne e,upd_ne e]
   unfold RC
   rw [e,hq,hd]
   by_cases ej:j=h
   · subst ej; rw [upd_eq,upd_eq]
   · rw [upd_ne ej,upd_ne ej]
 · have e:(if s'.tk j=.ans∧s'.dv j=true then [s'.aw j] else [])=(if s.tk j=.ans∧s.dv j=true then [s.aw j] else []):=by
    rw [ht,hv,hw]
    by_cases e:j=X
    · subst e; rw [upd_eq,upd_eq,h3]; simp
    · rw [upd_ne e,upd_ne e,upd_ne e]
   unfold AC
   rw [e,ha]
   by_cases ej:j=h
   · subst ej
     rw [upd_eq,upd_eq,List.map_append,hmap j hj]
     simp only [List.map_cons,List.map_nil]
     rw [hw,upd_eq]
   · rw [upd_ne ej,upd_ne ej,hmap j hj]
theorem fab_waits {ks:List Nat} (N:Net g (nn g) s.dl s.tk s.dv s.Q s.AP s.aw) (hh:h<nn g) (h1:s.Q h=X::ks) (hd:s'.dl=s.dl) (ht:s'.tk=upd s.tk X .wait) (hv:s'.dv=s.dv) (hq:s'.Q=upd s.Q h ks) (ha:s'.AP=s.AP) (hw:s'.aw=s.aw) :
 fab g s'=csOf (nn g) (upd (RC g s) h ⟨(RC g s h).pool,⟨ks.map (rqP g s.dl),g.inn⟩⟩) (AC g s):=by
 obtain ⟨hX,h3,h4,h5⟩:=(N.qm h hh X).1 (by rw [h1]; simp)
 refine csOf_con fun j hj=>⟨?_,?_⟩
 · have e:(if s'.tk j=.req∧s'.dv j=false then [rqP g s'.dl j] else [])=(if s.tk j=.req∧s.dv j=false then [rqP g s.dl j] else []):=by
    rw [hd,ht,hv]
    by_cases e:j=X
    · subst e; rw [upd_eq,h3,h4]; simp
    · rw [upd_ne e]
   unfold RC
   rw [e,hq,hd]
   by_cases ej:j=h
   · subst ej; rw [upd_eq,upd_eq]
   · rw [upd_ne ej,upd_ne ej]
 · have e:(if s'.tk j=.ans∧s'.dv j=true then [s'.aw j] else [])=(if s.tk j=.ans∧s.dv j=true then [s.aw j] else []):=by
    rw [ht,hv,hw]
    by_cases e:j=X
    · subst e; rw [upd_eq,h3]; simp
    · rw [upd_ne e]
   unfold AC
   rw [e,ha,hw]
theorem fab_grant {p:PktS} (N:Net g (nn g) s.dl s.tk s.dv s.Q s.AP s.aw) (hh:h<nn g) (h1:s.tk X=.wait) (hd:s'.dl=s.dl) (ht:s'.tk=upd s.tk X .ans) (hv:s'.dv=upd s.dv X false) (hq:s'.Q=s.Q) (ha:s'.AP=upd s.AP h (s.AP h++[X])) (hw:s'.aw=upd s.aw X p) :
 fab g s'=csOf (nn g) (RC g s) (upd (AC g s) h ⟨⟨(AC g s h).pool.l++[p],g.out⟩,(AC g s h).queue⟩):=by
 have hap:∀ j,j<nn g→X∉s.AP j:=fun j hj hx=>by have:=(N.pm j hj X).1 hx; rw [h1] at this; simp at this
 have hmap:∀ j,j<nn g→(s.AP j).map s'.aw=(s.AP j).map s.aw:=fun j hj=>List.map_congr_left fun i hi=>by
  rw [hw,upd_ne]
  rintro rfl
  exact hap j hj hi
 refine csOf_con fun j hj=>⟨?_,?_⟩
 · have e:(if s'.tk j=.req∧s'.dv j=false then [rqP g s'.dl j] else [])=(if s.tk j=.req∧s.dv j=false then [rqP g s.dl j] else []):=by
    rw [hd,ht,hv]
    by_cases e:j=X
    · subst e; rw [upd_eq,upd_eq,h1]; simp
    · rw [upd_ne e,upd_ne e]
   unfold RC
   rw [e,hq,hd]
 · have e:(if s'.tk j=.ans∧s'.dv j=true then [s'.aw j] else [])=(if s.tk j=.ans∧s.dv j=true then [s.aw j] else []):=by
    rw [ht,hv,hw]
    by_cases e:j=X
    · subst e; rw [upd_eq,upd_eq,h1]; simp
    · rw [upd_ne e,upd_ne e,upd_ne e]
   unfold AC
   rw [e,ha]
   by_cases ej:j=h
   · subst ej
     rw [upd_eq,upd_eq,List.map_append,hmap j hj]
     simp only [List.map_cons,List.map_nil]
     rw [hw,upd_eq]
   · rw [upd_ne ej,upd_ne ej,hmap j hj]
theorem room_eq (hg:GOk g) (I:Inv g ops mem0 mem s) (hh:h<nn g):froomS ⟨fab g s⟩ (s.nd h).id false=some (g.out - (((s.AP h).length:Nat):Int)):=by
 have ho:=hg.o1
 have h0:=hg.o0
 have hl:=I.net.pl h hh
 have e:(AC g s h).pool.l.length=(s.AP h).length:=by show ((s.AP h).map s.aw).length=_; rw [List.length_map]
 rw [(I.nod h hh).id]
 have:=room_ans (R:=RC g s) (A:=AC g s) hh (by rw [e]; omega) (by show 0≤g.out; omega) (by show g.out≤64; omega)
 rw [e] at this
 exact this
theorem send_ok (hg:GOk g) {p:PktS} {R:Nat→ChanS} (I:Inv g ops mem0 mem s) (hh:h<nn g) (hA:Awk (nn g) X (s.dl X) p) (hX:X<nn g) (hs:p.src=(h:Int)) (hk:6<p.kind) (hrm:(((s.AP h).length:Nat):Int)<g.out) :
 fsendS ⟨csOf (nn g) R (AC g s)⟩ p=some (0,⟨csOf (nn g) R (upd (AC g s) h ⟨⟨(AC g s h).pool.l++[p],g.out⟩,(AC g s h).queue⟩)⟩):=by
 have ho:=hg.o1
 have e:(AC g s h).pool.l.length=(s.AP h).length:=by show ((s.AP h).map s.aw).length=_; rw [List.length_map]
 exact send_ans hA.lg hk hs hh (by rw [hA.dst]; omega) (by rw [e]; exact hrm) (by show g.out≤64; omega)
structure FinR (g:CfgS) (ops:Nat→List OpS) (mem0 mem:List Int) (s:St) (h:Nat) (r:Option (Bool×NodeS×FabS)):Prop where
 ex:∃ s',r=some (true,s'.nd h,⟨fab g s'⟩)∧s'.tr=s.tr∧(∀ j,j≠h→s'.nd j=s.nd j)∧Inv g ops mem0 mem s'∧mu g s'<mu g s∧NChg g s h (s.nd h) (s'.nd h)
theorem ev_homegrant (hg:GOk g) (I:Inv g ops mem0 mem s) (hh:h<nn g) (hr:rdy (s.nd h).home.turns≠[]) (hrm:(((s.AP h).length:Nat):Int)<g.out):FinR g ops mem0 mem s h (ngrS (s.nd h) ⟨fab g s⟩):=by
 have N:=I.nod h hh
 have hrows:∀ L∈rdy (s.nd h).home.turns,∃ r,mget (s.nd h).home.dir.rows L=some r∧r.data.length≤1099511627776:=by
  intro L hL
  have h1:=mem_rdy.1 hL
  obtain ⟨l0,l1,l2⟩:=N.wz L h1.2
  obtain ⟨r,r1,r2,-⟩:=I.lin L l0 l1
  unfold row at r1
  rw [l2] at r1
  exact ⟨r,r1,by have:=r2.le hg; omega⟩
 obtain ⟨L,a,rs,r,g1,g2,g3,g4⟩:=grant_eq N.to hr hrows
 obtain ⟨l0,l1,l2⟩:=N.wz L (by rw [g2]; simp)
 have hwts:wts g s L=a::rs:=by unfold wts; rw [l2]; exact g2
 have hown:own g s L=none:=by unfold own; rw [l2]; exact g1
 have hrow:row g s L=some r:=by unfold row; rw [l2]; exact g3
 obtain ⟨ws,w1,w2,w3⟩:=I.trn.ww L l0 l1
 rw [hwts] at w1
 cases ws with
 |nil=>cases w1
 |cons X ws =>
  obtain ⟨u1,u2⟩:=List.cons.inj w1
  obtain ⟨hX,ht,hl⟩:=(w3 X).1 (by simp)
  have hst:=I.net.wait X hX ht
  have ha1:a.who=(X:Int):=by rw [u1]
  have ha2:a.id=(s.dl X).id:=by rw [u1]
  let H:HomeS:={ (s.nd h).home with turns:=⟨mset (s.nd h).home.turns.owners L a.who,mset (s.nd h).home.turns.wait L rs⟩ }
  let p:PktS:=⟨7,(h:Int),(X:Int),(s.dl X).id,L,r.head,r.state,false,r.data⟩
  let s':St:={ s with nd:=upd s.nd h { s.nd h with home:=H },tk:=upd s.tk X .ans,dv:=upd s.dv X false,AP:=upd s.AP h (s.AP h++[X]),aw:=upd s.aw X p }
  obtain ⟨I',hmu⟩:=ev_grant (s':=s') (Q':=s.Q) (w:=rs) (H:=H) hg I hh hX hst hl l2 hown hrow hrm (.inr ⟨⟨ht,rfl⟩,a,hwts,ha1⟩) ⟨rfl,rfl,rfl⟩ (by show mset _ L a.who=_; rw [ha1]) (.inr rfl) rfl
  have F:HomeOnly s s' h H:=⟨rfl,rfl⟩
  refine ⟨s',?_,rfl,fun j hj=>upd_ne hj,I',hmu,.same (F.cs h).2.1 (F.cs h).1 (F.cs h).2.2⟩
  have hA:Awk (nn g) X (s.dl X) p:=by
   have:=I'.net.aw X hX (upd_eq _ _ _)
   have e1:s'.aw X=p:=upd_eq _ _ _
   have e2:s'.dl X=s.dl X:=by rw [F.dl]
   rw [e1,e2] at this
   exact this
  have hf:=fab_grant (s':=s') (p:=p) I.net hh ht F.dl rfl rfl rfl rfl rfl
  unfold ngrS
  rw [pend_eq N.to,Option.bind_some,decide_eq_true hr,Bool.not_true,cond_false,room_eq hg I hh,Option.bind_some,decide_eq_false (by omega)]
  unfold ngrS_j0
  rw [cond_false,g4,Option.bind_some]
  have hp:grP (s.nd h).home r L a.who a.id=p:=by unfold grP; rw [N.hn,ha1,ha2]
  simp only
  rw [hp]
  have hs:=send_ok (R:=RC g s) hg I hh hA hX rfl (show (6:Int)<7 by omega) hrm
  show (fsendS ⟨csOf (nn g) (RC g s) (AC g s)⟩ p).bind _=_
  rw [hs,hf]
  show some _=some (true,upd s.nd h { s.nd h with home:=H } h,_)
  rw [upd_eq]
theorem grant_no (hg:GOk g) (I:Inv g ops mem0 mem s) (hh:h<nn g) (hn:rdy (s.nd h).home.turns=[]∨¬ (((s.AP h).length:Nat):Int)<g.out):ngrS (s.nd h) ⟨fab g s⟩=some (false,s.nd h,⟨fab g s⟩):=by
 have N:=I.nod h hh
 have hl:=I.net.pl h hh
 unfold ngrS
 rw [pend_eq N.to,Option.bind_some]
 by_cases hr:rdy (s.nd h).home.turns=[]
 · rw [decide_eq_false (by simpa using hr),Bool.not_false,cond_true]
   rfl
 · have h2:¬ (((s.AP h).length:Nat):Int)<g.out:=by
    rcases hn with hn | hn
    · exact absurd hn hr
    · exact hn
   rw [decide_eq_true hr,Bool.not_true,cond_false,room_eq hg I hh,Option.bind_some,decide_eq_true (by omega)]
   rfl
theorem request_no (hg:GOk g) (I:Inv g ops mem0 mem s) (hh:h<nn g) (hn:s.Q h=[]∨¬ (((s.AP h).length:Nat):Int)<g.out):nreqS (s.nd h) ⟨fab g s⟩=some (false,s.nd h,⟨fab g s⟩):=by
 have N:=I.nod h hh
 have hl:=I.net.pl h hh
 unfold nreqS
 rw [room_eq hg I hh,Option.bind_some]
 by_cases h2:(((s.AP h).length:Nat):Int)<g.out
 · rw [decide_eq_false (by omega),cond_false,N.id]
   have hq:s.Q h=[]:=by
    rcases hn with hn | hn
    · exact hn
    · exact absurd h2 hn
   have:=req_nil (R:=RC g s) (A:=AC g s) hh (by show (s.Q h).map _=[]; rw [hq]; rfl)
   show (freqS ⟨csOf (nn g) (RC g s) (AC g s)⟩ _).bind _=_
   rw [this]
   rfl
 · rw [decide_eq_true (by omega)]
   rfl
theorem purge_ptr {c:Nat→Option Cp} {r:RowS} {M:List Int} {d:DealS} {p:PktS} {n:Nat} (H:Ph c r M X d (some p)) (h1:d.step=3) (hn:∀ k,c k≠none→k<n):-1≤p.ptr∧p.ptr<(n:Int):=by
 cases H with
 |pura zs _ a1 a2 a3 a4 a5 a6 a7=>rw [a4]; exact hd_rng fun j hj=>hn j (a6.e2 j hj)
 |_=>omega
theorem req_first (hg:GOk g) (I:Inv g ops mem0 mem s) {ks:List Nat} (hh:h<nn g) (h1:s.Q h=X::ks):freqS ⟨fab g s⟩ (s.nd h).id=some (rqP g s.dl X,true,⟨csOf (nn g) (upd (RC g s) h ⟨(RC g s h).pool,⟨ks.map (rqP g s.dl),g.inn⟩⟩) (AC g s)⟩):=by
 obtain ⟨hX,h3,h4,h5⟩:=(I.net.qm h hh X).1 (by rw [h1]; simp)
 have hl:=I.net.ql h hh
 have hi:=hg.i1
 obtain ⟨-,hlg,-⟩:=I.rq hg hX (.inl h3)
 have h8:=hlg.2.2.2.2.2.2.2.1
 rw [(I.nod h hh).id]
 refine req_cons (R:=RC g s) (A:=AC g s) (p:=rqP g s.dl X) (r:=ks.map (rqP g s.dl)) hh ?_ ?_ (by omega)
 · show (s.Q h).map _=_; rw [h1]; rfl
 · rw [List.length_map]; rw [h1] at hl; simp at hl; omega
end
end
section
open Go
section
variable {g:CfgS} {s s':St} {ops:Nat→List OpS} {mem0 mem mem':List Int} {k X h:Nat} {L:Int} {x:NodeS} {t:Tk}
theorem nodup_lenN:∀ (N:Nat) (l:List Nat),l.Nodup→(∀ x∈l,x<N)→l.length≤N
 |0,l,_,h=>by
  cases l with
  |nil=>simp
  |cons x r=>have:=h x (by simp); omega
 |N+1,l,hn,h=>by
  have ih:=nodup_lenN N (l.erase N) (hn.erase _) fun x hx=>by
   have h1:=(List.Nodup.mem_erase_iff hn).1 hx
   have h2:=h x h1.2
   have h3:=h1.1
   omega
  have h2:=List.length_erase (a:=N) (l:=l)
  by_cases hm:N∈l
  · rw [if_pos hm] at h2; omega
  · rw [if_neg hm] at h2; omega
theorem req_in (hg:GOk g) (I:Inv g ops mem0 mem s) {ks:List Nat} (hh:h<nn g) (h1:s.Q h=X::ks) (hrm:(((s.AP h).length:Nat):Int)<g.out) :
 nreqS (s.nd h) ⟨fab g s⟩=(nserS (s.nd h) (rqP g s.dl X)).bind fun y=>(bif y.2.1 then (fsendS ⟨csOf (nn g) (upd (RC g s) h ⟨(RC g s h).pool,⟨ks.map (rqP g s.dl),g.inn⟩⟩) (AC g s)⟩ y.1).bind fun z=>some (true,y.2.2,z.2) else some (true,y.2.2,⟨csOf (nn g) (upd (RC g s) h ⟨(RC g s h).pool,⟨ks.map (rqP g s.dl),g.inn⟩⟩) (AC g s)⟩)):=by
 unfold nreqS
 rw [room_eq hg I hh,Option.bind_some,decide_eq_false (by omega),cond_false,req_first hg I hh h1,Option.bind_some]
 rfl
theorem ser_home {p o:PktS} {b:Bool} {H:HomeS} (hk:p.kind=1∨p.kind=2) (h:hhanS x.home p=some (o,b,0,H)):nserS x p=some (o,b,{ x with home:=H }):=by
 have e:nserS_j0 x p true=some (o,b,{ x with home:=H }):=by
  unfold nserS_j0
  rw [cond_true,h,Option.bind_some]
  unfold nserS_j1 nserS_j2
  cases b <;> rfl
 unfold nserS
 rcases hk with hk | hk
 · rw [decide_eq_true hk,cond_true]; exact e
 · rw [decide_eq_false (by omega),cond_false,decide_eq_true hk]; exact e
theorem ser_cache {p o:PktS} {c':CacheS} (hk:p.kind≠1∧p.kind≠2) (h:shanS x.cache p=some (o,0,c')):nserS x p=some (o,true,{ x with cache:=c' }):=by
 unfold nserS
 rw [decide_eq_false hk.1,cond_false,decide_eq_false hk.2]
 unfold nserS_j0
 rw [cond_false,h,Option.bind_some]
 rfl
theorem fin_serve (hg:GOk g) (I:Inv g ops mem0 mem s) {ks:List Nat} (hh:h<nn g) (h1:s.Q h=X::ks) (hrm:(((s.AP h).length:Nat):Int)<g.out) (h2:2≤(s.dl X).step∧(s.dl X).step≤5) (hxX:h≠X) {c':CacheS} {p:PktS} (hk:(rqP g s.dl X).kind≠1∧(rqP g s.dl X).kind≠2) (hS:shanS (s.nd h).cache (rqP g s.dl X)=some (p,0,c'))
 (V:Srv g (s.dl X).line (s.nd h).cache c') (hV:cv c' (s.dl X).line=none↔(s.dl X).step=3) (hA:Awk (nn g) X (s.dl X) p) (hs:p.src=(h:Int)) (hpk:6<p.kind)
 (P:∀ r,row g s (s.dl X).line=some r→Ph (cw g s (s.dl X).line) r (lw g mem (s.dl X).line) X (s.dl X) none→Ph (upd (cw g s (s.dl X).line) h (cv c' (s.dl X).line)) r (lw g mem (s.dl X).line) X (s.dl X) (some p)):FinR g ops mem0 mem s h (nreqS (s.nd h) ⟨fab g s⟩):=by
 obtain ⟨hX,h3,h4,h5⟩:=(I.net.qm h hh X).1 (by rw [h1]; simp)
 let s':St:={ s with nd:=upd s.nd h { s.nd h with cache:=c' },tk:=upd s.tk X .ans,dv:=upd s.dv X false,Q:=upd s.Q h ks,AP:=upd s.AP h (s.AP h++[X]),aw:=upd s.aw X p }
 obtain ⟨I',hmu⟩:=ev_serve (s':=s') hg I hh h1 h2 rfl hxX hrm V hV hA hs P rfl
 refine ⟨s',?_,rfl,fun j hj=>upd_ne hj,I',hmu,?_⟩
 rotate_left
 · have f3:s'.nd h={ s.nd h with cache:=c' }:=upd_eq _ _ _
   rw [f3]
   have h0:(s.dl X).step≠0:=by omega
   have D:=I.dok X hX h0
   refine ⟨.inl rfl,fun L hL=>.inl ?_,fun L a b=>?_,fun L q a b=>.inl ?_,fun z=>.inl ⟨z,rfl⟩⟩
   · by_cases e:L=(s.dl X).line
     · rw [e]; exact V.was
     · rw [← V.oth L e]; exact hL
   · have b':cv c' L=none:=b
     by_cases e:L=(s.dl X).line
     · rw [e] at b'
       have h3':=hV.1 b'
       refine ⟨X,hX,h0,?_⟩
       rcases D.kn with z | z | z
       · have:=(D.rd z).1; omega
       · exact .inl z
       · exact .inr z
     · rw [V.oth L e] at b'; exact absurd b' a
   · have a':cv c' L=some q:=a
     by_cases e:L=(s.dl X).line
     · subst e; exact V.dr q a' b
     · rw [V.oth L e] at a'; exact ⟨q,a',b⟩
 have hdl:s'.dl=s.dl:=funext fun k=>by
  show (upd s.nd h { s.nd h with cache:=c' } k).deal=_
  by_cases ek:k=h
  · subst ek; rw [upd_eq]; rfl
  · rw [upd_ne ek]; rfl
 have hf:=fab_taken (s':=s') (p:=p) I.net hh h1 hdl rfl rfl rfl rfl rfl
 have f3:s'.nd h={ s.nd h with cache:=c' }:=upd_eq _ _ _
 rw [req_in hg I hh h1 hrm,ser_cache hk hS,Option.bind_some]
 simp only [cond_true]
 rw [send_ok hg I hh hA hX hs hpk hrm,Option.bind_some,hf,f3]
theorem ev_request (hg:GOk g) (I:Inv g ops mem0 mem s) {ks:List Nat} (hh:h<nn g) (h1:s.Q h=X::ks) (hrm:(((s.AP h).length:Nat):Int)<g.out):FinR g ops mem0 mem s h (nreqS (s.nd h) ⟨fab g s⟩):=by
 have N:=I.nod h hh
 have hC:=N.co
 obtain ⟨hX,h3,h4,h5⟩:=(I.net.qm h hh X).1 (by rw [h1]; simp)
 have h0:(s.dl X).step≠0:=fun z=>by have:=(I.net.idle X hX).2 z; rw [h3] at this; cases this
 have D:=I.dok X hX h0
 have hln:=D.ln
 have hid:=D.id
 have hnI:=nnI hg
 have hn6:=hg.n1
 have hl8:=hg.l1
 obtain ⟨-,hlg,hkd,hk6,hsrc,hline,hpid⟩:=I.rq hg hX (.inl h3)
 have hrg:0≤(h:Int)∧(h:Int)<6:=by omega
 have hrX:0≤(X:Int)∧(X:Int)<6:=by omega
 obtain ⟨hm1,hm2⟩:=hm_lt (L:=(s.dl X).line) hg hln.1
 have hst:=D.st
 have hcl:∀ k,cw g s (s.dl X).line k≠none→k<nn g:=fun k hk=>cw_lt hk
 have hcv:cw g s (s.dl X).line h=cv (s.nd h).cache (s.dl X).line:=by unfold cw; rw [if_pos hh]
 -- to a home
 by_cases hhome:(s.dl X).step=1∨(s.dl X).step=6
 · have hdst:(rqP g s.dl X).dst=(s.dl X).line.tmod g.nodes:=by
    unfold rqP askP
    rcases hhome with e | e
    · rw [if_pos e]
    · rw [if_neg (by omega),if_neg (by omega),if_neg (by omega),if_neg (by omega),if_neg (by omega),if_pos e]
   have hmL:hm g (s.dl X).line=h:=by rw [h5,hm2] at hdst; omega
   have hT:ToHome (s.nd h).home (rqP g s.dl X):=⟨hlg,by rw [h5,N.hn],by rw [hsrc,N.hc]; omega,by rw [N.hc]; exact hg.n0,by rw [hline,N.hc,N.hn,hm2,hmL],by rw [hline,N.hc]; exact hln.2⟩
   have hownm:mget (s.nd h).home.turns.owners (s.dl X).line=own g s (s.dl X).line:=by unfold own; rw [hmL]
   have hwtsm:wget (s.nd h).home.turns.wait (s.dl X).line=wts g s (s.dl X).line:=by unfold wts; rw [hmL]
   have hrowm:mget (s.nd h).home.dir.rows (s.dl X).line=row g s (s.dl X).line:=by unfold row; rw [hmL]
   obtain ⟨r,r1,r2,r3⟩:=I.lin (s.dl X).line hln.1 hln.2
   rcases hhome with e1 | e6
   · have hk1:(rqP g s.dl X).kind=1:=by rw [hkd,e1]; rfl
     by_cases hfree:own g s (s.dl X).line=none∧wts g s (s.dl X).line=[]
     · let H:HomeS:={ (s.nd h).home with turns:={ (s.nd h).home.turns with owners:=mset (s.nd h).home.turns.owners (s.dl X).line (X:Int) } }
       let p:PktS:=⟨7,(h:Int),(X:Int),(s.dl X).id,(s.dl X).line,r.head,r.state,false,r.data⟩
       let s':St:={ s with nd:=upd s.nd h { s.nd h with home:=H },tk:=upd s.tk X .ans,dv:=upd s.dv X false,Q:=upd s.Q h ks,AP:=upd s.AP h (s.AP h++[X]),aw:=upd s.aw X p }
       obtain ⟨I',hmu⟩:=ev_grant (s':=s') (Q':=upd s.Q h ks) (w:=wts g s (s.dl X).line) (H:=H) hg I hh hX e1 rfl hmL hfree.1 r1 hrm (.inl ⟨⟨ks,h1,rfl⟩,rfl⟩) ⟨rfl,rfl,rfl⟩ rfl (.inl ⟨rfl,rfl⟩) rfl
       have F:HomeOnly s s' h H:=⟨rfl,rfl⟩
       refine ⟨s',?_,rfl,fun j hj=>upd_ne hj,I',hmu,.same (F.cs h).2.1 (F.cs h).1 (F.cs h).2.2⟩
       have hA:Awk (nn g) X (s.dl X) p:=by
        have:=I'.net.aw X hX (upd_eq _ _ _)
        have e1:s'.aw X=p:=upd_eq _ _ _
        have e2:s'.dl X=s.dl X:=by rw [F.dl]
        rw [e1,e2] at this
        exact this
       have hf:=fab_taken (s':=s') (p:=p) I.net hh h1 F.dl rfl rfl rfl rfl rfl
       have hhan:=lock_got hT hk1 (by rw [hline,hownm]; exact hfree.1) (by rw [hline,hwtsm]; exact hfree.2) (r:=r) (by rw [hline,hrowm]; exact r1) (by have:=r2.le hg; omega)
       rw [hline,hsrc,hpid] at hhan
       have hp:grP (s.nd h).home r (s.dl X).line (X:Int) (s.dl X).id=p:=by unfold grP; rw [N.hn]
       rw [hp] at hhan
       have f3:s'.nd h={ s.nd h with home:=H }:=upd_eq _ _ _
       rw [req_in hg I hh h1 hrm,ser_home (.inl hk1) hhan,Option.bind_some]
       simp only [cond_true]
       rw [send_ok hg I hh hA hX rfl (show (6:Int)<7 by omega) hrm,Option.bind_some,hf,f3]
     · have hor:own g s (s.dl X).line≠none∨wts g s (s.dl X).line≠[]:=by
        by_cases z:own g s (s.dl X).line=none
        · exact .inr fun w=>hfree ⟨z,w⟩
        · exact .inl z
       let H:HomeS:={ (s.nd h).home with turns:={ (s.nd h).home.turns with wait:=mset (s.nd h).home.turns.wait (s.dl X).line (wget (s.nd h).home.turns.wait (s.dl X).line++[⟨(X:Int),(s.dl X).id⟩]) } }
       let s':St:={ s with nd:=upd s.nd h { s.nd h with home:=H },tk:=upd s.tk X .wait,Q:=upd s.Q h ks }
       obtain ⟨I',hmu⟩:=ev_lockwait (s':=s') (H:=H) hg I hh h1 e1 rfl hmL rfl rfl
       have F:HomeOnly s s' h H:=⟨rfl,rfl⟩
       refine ⟨s',?_,rfl,fun j hj=>upd_ne hj,I',hmu,.same (F.cs h).2.1 (F.cs h).1 (F.cs h).2.2⟩
       have hf:=fab_waits (s':=s') I.net hh h1 F.dl rfl rfl rfl rfl rfl
       have hwl:(wget (s.nd h).home.turns.wait (s.dl X).line).length≤64:=by
        obtain ⟨ws,w1,w2,w3⟩:=I.trn.ww (s.dl X).line hln.1 hln.2
        rw [hwtsm,w1,List.length_map]
        have:=nodup_lenN (nn g) ws w2 fun z hz=>((w3 z).1 hz).1
        omega
       have hhan:=lock_wait hT hk1 (by rw [hline,hownm,hwtsm]; exact hor) (by rw [hline]; exact hwl)
       rw [hline,hsrc,hpid] at hhan
       have f3:s'.nd h={ s.nd h with home:=H }:=upd_eq _ _ _
       rw [req_in hg I hh h1 hrm,ser_home (.inl hk1) hhan,Option.bind_some]
       simp only [cond_false]
       rw [hf,f3]
   · have hk2:(rqP g s.dl X).kind=2:=by rw [hkd,e6]; rfl
     have hhd:Held (s.dl X) (s.tk X):=⟨h0,fun z=>by omega,fun _=>by rw [h3]; simp⟩
     obtain ⟨ho,r',q1,q2,P⟩:=I.held hX hln hhd
     rw [r1] at q1
     obtain rfl:=Option.some.inj q1
     have hao0:ao s X=none:=by unfold ao; rw [h3]; rfl
     rw [hao0] at P
     obtain ⟨xs,hN⟩:=ph_unlock P e6
     let H:HomeS:={ (s.nd h).home with dir:={ (s.nd h).home.dir with rows:=mset (s.nd h).home.dir.rows (s.dl X).line (rset r (s.dl X)) },turns:={ (s.nd h).home.turns with owners:=mdel (s.nd h).home.turns.owners (s.dl X).line } }
     let p:PktS:=⟨8,(h:Int),(X:Int),(s.dl X).id,(s.dl X).line,0,0,false,[]⟩
     let s':St:={ s with nd:=upd s.nd h { s.nd h with home:=H },tk:=upd s.tk X .ans,dv:=upd s.dv X false,Q:=upd s.Q h ks,AP:=upd s.AP h (s.AP h++[X]),aw:=upd s.aw X p }
     obtain ⟨I',hmu⟩:=ev_unlock (s':=s') (H:=H) hg I hh h1 e6 rfl hmL r1 hrm rfl rfl
     have F:HomeOnly s s' h H:=⟨rfl,rfl⟩
     refine ⟨s',?_,rfl,fun j hj=>upd_ne hj,I',hmu,.same (F.cs h).2.1 (F.cs h).1 (F.cs h).2.2⟩
     have hA:Awk (nn g) X (s.dl X) p:=by
      have:=I'.net.aw X hX (upd_eq _ _ _)
      have e1:s'.aw X=p:=upd_eq _ _ _
      have e2:s'.dl X=s.dl X:=by rw [F.dl]
      rw [e1,e2] at this
      exact this
     have hf:=fab_taken (s':=s') (p:=p) I.net hh h1 F.dl rfl rfl rfl rfl rfl
     have erq:rqP g s.dl X=⟨2,(X:Int),(s.dl X).line.tmod g.nodes,(s.dl X).id,(s.dl X).line,(s.dl X).head,(s.dl X).state,decide (0<(s.dl X).data.length),(s.dl X).data⟩:=by
      unfold rqP askP
      rw [if_neg (by omega),if_neg (by omega),if_neg (by omega),if_neg (by omega),if_neg (by omega),if_pos e6]
     have hhead:(s.dl X).head=hd xs (-1):=hN.rh
     have hrange:=hd_rng (xs:=xs) (N:=nn g) fun j hj=>cw_lt ((hN.ex j).2 hj)
     have hzero:(s.dl X).head=-1↔(s.dl X).state=0:=by
      rw [hhead,hd_neg]
      rcases hN.st with ⟨a,b,-⟩ | ⟨a,b,-⟩ | ⟨a,y,b,-⟩
      · have a':(s.dl X).state=0:=a
        simp [b,a']
      · have a':(s.dl X).state=1:=a
        simp [b,a']
      · have a':(s.dl X).state=2:=a
        simp [b,a']
     have hdd:(s.dl X).data=[]∨(((s.dl X).data.length:Nat):Int)=g.words:=by
      rcases D.dt with z | z
      · exact .inl z
      · exact .inr z.len
     have hhan:=unlock_eq (r:=r) hT hk2 (by rw [hline,hownm,hsrc]; exact ho) (by rw [hline,hrowm]; exact r1) (by rw [N.hdc,N.hc]) (by rw [N.hc,erq]; show (s.dl X).head<g.nodes; omega) (by rw [erq]; exact hzero) (by rw [N.hc,erq]; exact hdd)
     have hrt:rowTo r (rqP g s.dl X)=rset r (s.dl X):=by
      rw [erq]
      unfold rowTo rset
      simp only
      by_cases z:0<(s.dl X).data.length
      · rw [decide_eq_true z]; simp [z]
      · rw [decide_eq_false z]; simp [z]
     rw [hline,hsrc,hpid,hrt] at hhan
     have hp:(⟨8,(s.nd h).home.node,(X:Int),(s.dl X).id,(s.dl X).line,0,0,false,[]⟩:PktS)=p:=by rw [N.hn]
     rw [hp] at hhan
     have f3:s'.nd h={ s.nd h with home:=H }:=upd_eq _ _ _
     rw [req_in hg I hh h1 hrm,ser_home (.inr hk2) hhan,Option.bind_some]
     simp only [cond_true]
     rw [send_ok hg I hh hA hX rfl (show (6:Int)<8 by omega) hrm,Option.bind_some,hf,f3]
 -- to a cache
 · have h25:2≤(s.dl X).step∧(s.dl X).step≤5:=by omega
   have hhd:Held (s.dl X) (s.tk X):=⟨h0,fun z=>by omega,fun z=>by omega⟩
   obtain ⟨ho,r,q1,q2,P0⟩:=I.held hX hln hhd
   have hao0:ao s X=none:=by unfold ao; rw [h3]; rfl
   rw [hao0] at P0
   have hcase:(s.dl X).step=2∨(s.dl X).step=3∨(s.dl X).step=4∨(s.dl X).step=5:=by omega
   have hz:∀ c∈([]:List Int),in64 c:=fun c hc=>by cases hc
   rcases hcase with e | e | e | e
   · have erq:rqP g s.dl X=⟨3,(X:Int),(s.dl X).head,(s.dl X).id,(s.dl X).line,(X:Int),0,false,[]⟩:=by unfold rqP askP; rw [if_neg (by omega),if_pos e]
     obtain ⟨y,q,y1,y2,y3,y4⟩:=ph_sattach P0 e
     have hy:y=h:=by rw [erq] at h5; have h5':(s.dl X).head=(h:Int):=h5; omega
     subst hy
     rw [hcv] at y3
     obtain ⟨c',s1,s2,s3,s4⟩:=s_attach hg hC hlg (by rw [erq]) (q:=q) (by rw [hline]; exact y3)
     rw [h5,hsrc,hpid,hline] at s1
     rw [hline] at s3
     have hcc:cv c' (s.dl X).line=some ⟨q.fwd,(rqP g s.dl X).ptr,false,q.data⟩:=by rw [s3,if_pos rfl]
     have eptr:(rqP g s.dl X).ptr=(X:Int):=by rw [erq]
     rw [eptr] at hcc
     have hqw:=hC.word y3
     refine fin_serve hg I hh h1 hrm h25 y2 (by rw [erq]; exact ⟨by show (3:Int)≠1; omega,by show (3:Int)≠2; omega⟩) s1 ⟨by rw [y3]; simp,s2,fun L' hL'=>by rw [s3,if_neg hL'],fun L'=>by rw [s4]; exact Nat.le_refl _,fun z=>(by rw [hcc] at z; cases z),fun q' hq' hd=>by rw [hcc] at hq'; obtain rfl:=Option.some.inj hq'; cases hd⟩ ⟨fun z=>(by rw [hcc] at z; cases z),fun z=>by omega⟩ ?_ rfl (show (6:Int)<9 by omega) ?_
     · exact ⟨⟨hst,by rw [e]; rfl,rfl,rfl⟩,rfl,⟨hrg,hrX,hid,⟨by show (1:Int)≤9; omega,by show (9:Int)<10; omega⟩,⟨hln.1,by show (s.dl X).line<8; omega⟩,⟨by show (-1:Int)≤0; omega,by show (0:Int)<6; omega⟩,⟨by show (0:Int)≤0; omega,by show (0:Int)<3; omega⟩,hqw.le hg,hqw.rng⟩,⟨y,hh,rfl⟩⟩
     · intro r' z1 z2
       obtain ⟨y',q',w1,w2,w3,w4⟩:=ph_sattach z2 e
       have hy':y'=y:=by omega
       subst hy'
       rw [hcv,y3] at w3
       obtain rfl:=Option.some.inj w3
       rw [hcc]
       exact w4 _ rfl rfl rfl
   · have erq:rqP g s.dl X=⟨6,(X:Int),(s.dl X).next,(s.dl X).id,(s.dl X).line,0,0,false,[]⟩:=by unfold rqP askP; rw [if_neg (by omega),if_neg (by omega),if_pos e]
     obtain ⟨y,q,y1,y2,y3,y4⟩:=ph_spurge P0 e
     have hy:y=h:=by rw [erq] at h5; have h5':(s.dl X).next=(h:Int):=h5; omega
     subst hy
     rw [hcv] at y3
     obtain ⟨c',s1,s2,s3,s4,s5⟩:=s_purge hg hC hlg (by rw [erq]) (q:=q) (by rw [hline]; exact y3)
     rw [h5,hsrc,hpid,hline] at s1
     rw [hline] at s3 s5
     have hcc:cv c' (s.dl X).line=none:=by rw [s3,if_pos rfl]
     have hqw:=hC.word y3
     have hptr:-1≤q.fwd∧q.fwd<((nn g:Nat):Int):=by
      have:=y4 ⟨9,(y:Int),(X:Int),(s.dl X).id,(s.dl X).line,q.fwd,0,q.dirty,q.data⟩ rfl rfl rfl
      exact purge_ptr this e fun k hk=>by
       by_cases ek:k=y
       · subst ek; rw [upd_eq] at hk; exact absurd rfl hk
       · rw [upd_ne ek] at hk; exact cw_lt hk
     refine fin_serve hg I hh h1 hrm h25 y2 (by rw [erq]; exact ⟨by show (6:Int)≠1; omega,by show (6:Int)≠2; omega⟩) s1 ⟨by rw [y3]; simp,s2,fun L' hL'=>by rw [s3,if_neg hL'],s4,fun _ L' hL'=>s5 L' hL',fun q' hq' hd=>by rw [hcc] at hq'; cases hq'⟩ ⟨fun _=>e,fun _=>hcc⟩ ?_ rfl (show (6:Int)<9 by omega) ?_
     · exact ⟨⟨hst,by rw [e]; rfl,rfl,rfl⟩,rfl,⟨hrg,hrX,hid,⟨by show (1:Int)≤9; omega,by show (9:Int)<10; omega⟩,⟨hln.1,by show (s.dl X).line<8; omega⟩,⟨hptr.1,by show q.fwd<6; omega⟩,⟨by show (0:Int)≤0; omega,by show (0:Int)<3; omega⟩,hqw.le hg,hqw.rng⟩,⟨y,hh,rfl⟩⟩
     · intro r' z1 z2
       obtain ⟨y',q',w1,w2,w3,w4⟩:=ph_spurge z2 e
       have hy':y'=y:=by omega
       subst hy'
       rw [hcv,y3] at w3
       obtain rfl:=Option.some.inj w3
       rw [hcc]
       exact w4 _ rfl rfl rfl
   · have erq:rqP g s.dl X=⟨4,(X:Int),(s.dl X).head,(s.dl X).id,(s.dl X).line,(s.dl X).next,0,false,[]⟩:=by unfold rqP askP; rw [if_neg (by omega),if_neg (by omega),if_neg (by omega),if_pos e]
     obtain ⟨y,q,y1,y2,y3,y4⟩:=ph_sfront P0 e
     have hy:y=h:=by rw [erq] at h5; have h5':(s.dl X).head=(h:Int):=h5; omega
     subst hy
     rw [hcv] at y3
     obtain ⟨c',s1,s2,s3,s4⟩:=s_front hg hC hlg (by rw [erq]) (q:=q) (by rw [hline]; exact y3)
     rw [h5,hsrc,hpid,hline] at s1
     rw [hline] at s3
     have hcc:cv c' (s.dl X).line=some ⟨(rqP g s.dl X).ptr,q.back,q.dirty,q.data⟩:=by rw [s3,if_pos rfl]
     have eptr:(rqP g s.dl X).ptr=(s.dl X).next:=by rw [erq]
     rw [eptr] at hcc
     refine fin_serve hg I hh h1 hrm h25 y2 (by rw [erq]; exact ⟨by show (4:Int)≠1; omega,by show (4:Int)≠2; omega⟩) s1 ⟨by rw [y3]; simp,s2,fun L' hL'=>by rw [s3,if_neg hL'],fun L'=>by rw [s4]; exact Nat.le_refl _,fun z=>(by rw [hcc] at z; cases z),fun q' hq' hd=>by rw [hcc] at hq'; obtain rfl:=Option.some.inj hq'; exact ⟨q,y3,hd⟩⟩ ⟨fun z=>(by rw [hcc] at z; cases z),fun z=>by omega⟩ ?_ rfl (show (6:Int)<8 by omega) ?_
     · exact ⟨⟨hst,by rw [e]; rfl,rfl,rfl⟩,rfl,⟨hrg,hrX,hid,⟨by show (1:Int)≤8; omega,by show (8:Int)<10; omega⟩,⟨hln.1,by show (s.dl X).line<8; omega⟩,⟨by show (-1:Int)≤0; omega,by show (0:Int)<6; omega⟩,⟨by show (0:Int)≤0; omega,by show (0:Int)<3; omega⟩,by simp,hz⟩,⟨y,hh,rfl⟩⟩
     · intro r' z1 z2
       obtain ⟨y',q',w1,w2,w3,w4⟩:=ph_sfront z2 e
       have hy':y'=y:=by omega
       subst hy'
       rw [hcv,y3] at w3
       obtain rfl:=Option.some.inj w3
       rw [hcc]
       exact w4 _ rfl
   · have erq:rqP g s.dl X=⟨5,(X:Int),(s.dl X).next,(s.dl X).id,(s.dl X).line,(s.dl X).head,0,false,[]⟩:=by unfold rqP askP; rw [if_neg (by omega),if_neg (by omega),if_neg (by omega),if_neg (by omega),if_pos e]
     obtain ⟨y,q,y1,y2,y3,y4⟩:=ph_sbehind P0 e
     have hy:y=h:=by rw [erq] at h5; have h5':(s.dl X).next=(h:Int):=h5; omega
     subst hy
     rw [hcv] at y3
     obtain ⟨c',s1,s2,s3,s4⟩:=s_behind hg hC hlg (by rw [erq]) (q:=q) (by rw [hline]; exact y3)
     rw [h5,hsrc,hpid,hline] at s1
     rw [hline] at s3
     have hcc:cv c' (s.dl X).line=some ⟨q.fwd,(rqP g s.dl X).ptr,q.dirty,q.data⟩:=by rw [s3,if_pos rfl]
     have eptr:(rqP g s.dl X).ptr=(s.dl X).head:=by rw [erq]
     rw [eptr] at hcc
     refine fin_serve hg I hh h1 hrm h25 y2 (by rw [erq]; exact ⟨by show (5:Int)≠1; omega,by show (5:Int)≠2; omega⟩) s1 ⟨by rw [y3]; simp,s2,fun L' hL'=>by rw [s3,if_neg hL'],fun L'=>by rw [s4]; exact Nat.le_refl _,fun z=>(by rw [hcc] at z; cases z),fun q' hq' hd=>by rw [hcc] at hq'; obtain rfl:=Option.some.inj hq'; exact ⟨q,y3,hd⟩⟩ ⟨fun z=>(by rw [hcc] at z; cases z),fun z=>by omega⟩ ?_ rfl (show (6:Int)<8 by omega) ?_
     · exact ⟨⟨hst,by rw [e]; rfl,rfl,rfl⟩,rfl,⟨hrg,hrX,hid,⟨by show (1:Int)≤8; omega,by show (8:Int)<10; omega⟩,⟨hln.1,by show (s.dl X).line<8; omega⟩,⟨by show (-1:Int)≤0; omega,by show (0:Int)<6; omega⟩,⟨by show (0:Int)≤0; omega,by show (0:Int)<3; omega⟩,by simp,hz⟩,⟨y,hh,rfl⟩⟩
     · intro r' z1 z2
       obtain ⟨y',q',w1,w2,w3,w4⟩:=ph_sbehind z2 e
       have hy':y'=y:=by omega
       subst hy'
       rw [hcv,y3] at w3
       obtain rfl:=Option.some.inj w3
       rw [hcc]
       exact w4 _ rfl
structure Stuck (g:CfgS) (s:St) (X:Nat):Prop where
 a:¬ (s.tk X=.ans∧s.dv X=true)
 gr:rdy (s.nd X).home.turns=[]∨¬ (((s.AP X).length:Nat):Int)<g.out
 rq:s.Q X=[]∨¬ (((s.AP X).length:Nat):Int)<g.out
 wk:s.tk X≠.idle∨cur (s.nd X)=none
theorem nstep_ok (hg:GOk g) (hP:POk g ops) (I:Inv g ops mem0 mem s) (hX:X<nn g):∃ r s' mem',nstepS (s.nd X) ⟨fab g s⟩ ⟨s.tr⟩=some (r,s'.nd X,⟨fab g s'⟩,⟨s'.tr⟩)∧(∀ j,j≠X→s'.nd j=s.nd j)∧Inv g ops mem0 mem' s'∧((r=0∧s'=s∧mem'=mem∧Stuck g s X)∨(r≠0∧mu g s'<mu g s))∧(∃ e,s'.tr=s.tr++e)∧NChg g s X (s.nd X) (s'.nd X):=by
 unfold nstepS
 by_cases hA:s.tk X=.ans∧s.dv X=true
 · obtain ⟨s',mem',e1,e2,e3,e4,e5,e6⟩:=(ev_answer hg hP I hX hA.1 hA.2).ex
   refine ⟨1,s',mem',?_,e2,e3,.inr ⟨by omega,e4⟩,e5,e6⟩
   rw [e1]
   rfl
 have eA:nansS (s.nd X) ⟨fab g s⟩ ⟨s.tr⟩=some (false,s.nd X,⟨fab g s⟩,⟨s.tr⟩):=by
  unfold nansS
  rw [reply_no hX (I.nod X hX).id hA]
  rfl
 rw [eA,Option.bind_some]
 simp only [cond_false]
 by_cases hG:rdy (s.nd X).home.turns≠[]∧(((s.AP X).length:Nat):Int)<g.out
 · obtain ⟨s',e1,e2,e3,e4,e5,e6⟩:=(ev_homegrant hg I hX hG.1 hG.2).ex
   refine ⟨2,s',mem,?_,e3,e4,.inr ⟨by omega,e5⟩,⟨[],by rw [e2]; simp⟩,e6⟩
   rw [e1,e2]
   rfl
 have hG':rdy (s.nd X).home.turns=[]∨¬ (((s.AP X).length:Nat):Int)<g.out:=by
  by_cases z:rdy (s.nd X).home.turns=[]
  · exact .inl z
  · exact .inr fun w=>hG ⟨z,w⟩
 rw [grant_no hg I hX hG',Option.bind_some]
 simp only [cond_false]
 by_cases hR:s.Q X≠[]∧(((s.AP X).length:Nat):Int)<g.out
 · obtain ⟨hq,hrm⟩:=hR
   cases hQ:s.Q X with
   |nil=>exact absurd hQ hq
   |cons Y ks =>
    obtain ⟨s',e1,e2,e3,e4,e5,e6⟩:=(ev_request hg I hX hQ hrm).ex
    refine ⟨3,s',mem,?_,e3,e4,.inr ⟨by omega,e5⟩,⟨[],by rw [e2]; simp⟩,e6⟩
    rw [e1,e2]
    rfl
 have hR':s.Q X=[]∨¬ (((s.AP X).length:Nat):Int)<g.out:=by
  by_cases z:s.Q X=[]
  · exact .inl z
  · exact .inr fun w=>hR ⟨z,w⟩
 rw [request_no hg I hX hR',Option.bind_some]
 simp only [cond_false]
 by_cases hW:s.tk X=.idle∧cur (s.nd X)≠none
 · obtain ⟨h1,hc⟩:=hW
   cases hcur:cur (s.nd X) with
   |none=>exact absurd hcur hc
   |some o =>
    obtain ⟨s',mem',e1,e2,e3,e4,e5,e6⟩:=(ev_work hg hP I hX h1 hcur).ex
    refine ⟨4,s',mem',?_,e2,e3,.inr ⟨by omega,e4⟩,e5,e6⟩
    rw [e1]
    rfl
 have hW':s.tk X≠.idle∨cur (s.nd X)=none:=by
  by_cases z:s.tk X=.idle
  · right
    exact Classical.byContradiction fun w=>hW ⟨z,w⟩
  · exact .inl z
 refine ⟨0,s,mem,?_,fun _ _=>rfl,I,.inl ⟨rfl,rfl,rfl,hA,hG',hR',hW'⟩,⟨[],(List.append_nil _).symm⟩,.same rfl rfl rfl⟩
 rw [work_no hP I hX hW']
 rfl
end
end
section
open Go
theorem wireP_any {p:PktS} {bit mask:Int} (hp:PLegal p) (hb:in64 bit) (hm:0≤mask∧mask<65536):wireP p bit mask=some (p,0)∨wireP p bit mask=some (pkt0,2):=by
 have h:=wire_any hp hb hm
 rw [wire_eq] at h
 exact h
theorem wireP_clean {p:PktS} (hp:PLegal p):wireP p 0 0=some (p,0):=by
 unfold wireP
 rw [if_pos ⟨hp,by omega,by omega,by omega⟩,if_pos rfl]
section
variable {R A:Nat→ChanS} {n:Nat}
theorem csOf_at {j:Nat} {ch:ChanS} (h:(csOf n R A)[j]?=some ch):j / 2<n∧(j=2*(j / 2)∧ch=R (j / 2)∨j=2*(j / 2)+1∧ch=A (j / 2)):=by
 have hl:=(List.getElem?_eq_some_iff.1 h).1
 rw [csOf_len] at hl
 have hk:j / 2<n:=by omega
 obtain ⟨h1,h2⟩:=csOf_get (R:=R) (A:=A) hk
 refine ⟨hk,?_⟩
 by_cases he:j=2*(j / 2)
 · left
   rw [← he,h] at h1
   exact ⟨he,Option.some.inj h1⟩
 · right
   have he':j=2*(j / 2)+1:=by omega
   rw [← he',h] at h2
   exact ⟨he',Option.some.inj h2⟩
end
section
variable {g:CfgS} {s s':St} {ops:Nat→List OpS} {mem0 mem mem':List Int} {k X h:Nat} {L:Int}
theorem fab_len:(fab g s).length=2*nn g:=csOf_len _
theorem fab_small (hg:GOk g) (I:Inv g ops mem0 mem s):(fab g s).length≤64∧∀ ch∈fab g s,ch.pool.l.length≤64:=by
 have hn:=nnI hg
 have hn6:=hg.n1
 have ho:=hg.o1
 refine ⟨by rw [fab_len]; omega,fun ch hc=>?_⟩
 obtain ⟨j,hj⟩:=List.getElem?_of_mem hc
 obtain ⟨hk,⟨-,rfl⟩ | ⟨-,rfl⟩⟩:=csOf_at hj
 · unfold RC
   simp only
   split <;> simp
 · have:=I.net.pl _ hk
   unfold AC
   simp only [List.length_map]
   omega
theorem del_no (hg:GOk g) (I:Inv g ops mem0 mem s) {at_ bit mask:Int} (ha:in64 at_) (h:at_<0∨seek (fab g s) at_.toNat=none):fdelS ⟨fab g s⟩ at_ bit mask=some (3,⟨fab g s⟩):=by
 obtain ⟨h1,h2⟩:=fab_small hg I
 have hu:=ha.2
 unfold fdelS
 by_cases hn:at_<0
 · rw [fpkt_neg h1 hn]
   rfl
 · have hs:seek (fab g s) at_.toNat=none:=by
    rcases h with h | h
    · exact absurd h hn
    · exact h
   have e:at_=(at_.toNat:Int):=by omega
   rw [e,fpkt_none h1 h2 (by omega) hs]
   rfl
theorem seek_who (I:Inv g ops mem0 mem s) {a j i:Nat} (h:seek (fab g s) a=some (j,i)):∃ X,X<nn g∧s.dv X=false∧((s.tk X=.req∧j=2*X∧i=0∧(fab g s)[j]?=some (RC g s X)∧(RC g s X).pool.l=[rqP g s.dl X]) ∨
 (s.tk X=.ans∧∃ k,k<nn g∧j=2*k+1∧(fab g s)[j]?=some (AC g s k)∧(s.AP k)[i]?=some X)):=by
 obtain ⟨ch,p,h1,h2⟩:=seek_some h
 obtain ⟨hk,⟨e,rfl⟩ | ⟨e,rfl⟩⟩:=csOf_at h1
 · have hc:s.tk (j / 2)=.req∧s.dv (j / 2)=false:=by
    apply Classical.byContradiction
    intro hc
    have:(RC g s (j / 2)).pool.l=[]:=by unfold RC; rw [if_neg hc]
    rw [this] at h2
    cases h2
   have hp:(RC g s (j / 2)).pool.l=[rqP g s.dl (j / 2)]:=by unfold RC; rw [if_pos hc]
   rw [hp] at h2
   have hi:i=0:=by
    have:=(List.getElem?_eq_some_iff.1 h2).1
    simpa using this
   exact ⟨j / 2,hk,hc.2,.inl ⟨hc.1,e,hi,h1,hp⟩⟩
 · have h2':((s.AP (j / 2)).map s.aw)[i]?=some p:=h2
   rw [List.getElem?_map] at h2'
   cases hx:(s.AP (j / 2))[i]? with
   |none=>rw [hx] at h2'; cases h2'
   |some X =>
    obtain ⟨hX,q1,q2,-⟩:=(I.net.pm _ hk X).1 (List.mem_of_getElem? hx)
    exact ⟨X,hX,q2,.inr ⟨q1,j / 2,hk,e,h1,hx⟩⟩
theorem erase_at:∀ {l:List Nat} {i X:Nat},l.Nodup→l[i]?=some X→l.take i++l.drop (i+1)=l.erase X
 |[],_,_,_,h=>by simp at h
 |y::l,0,X,_,h=>by
  simp at h
  subst h
  simp
 |y::l,i+1,X,hn,h=>by
  have h':l[i]?=some X:=by simpa using h
  obtain ⟨n1,n2⟩:=List.nodup_cons.1 hn
  have hne:¬ y=X:=fun e=>n1 (e▸List.mem_of_getElem? h')
  rw [List.erase_cons_tail (by simpa using hne),← erase_at n2 h']
  simp
theorem del_ok (hg:GOk g) (I:Inv g ops mem0 mem s) {at_ bit mask:Int} (ha:in64 at_) (h0:0≤at_) (hb:in64 bit) (hm:0≤mask∧mask<65536) {j i:Nat} (h:seek (fab g s) at_.toNat=some (j,i)) :
 (∃ e,e≠0∧fdelS ⟨fab g s⟩ at_ bit mask=some (e,⟨fab g s⟩)∧(mask=0→bit=0→∃ X t,j=2*X∧t<nn g∧(((s.Q t).length:Nat):Int)=g.inn)) ∨
 ∃ s',fdelS ⟨fab g s⟩ at_ bit mask=some (0,⟨fab g s'⟩)∧s'.nd=s.nd∧s'.tr=s.tr∧Inv g ops mem0 mem s'∧mu g s'<mu g s:=by
 obtain ⟨h1,h2⟩:=fab_small hg I
 have hu:=ha.2
 have hn:=nnI hg
 have e0:at_=(at_.toNat:Int):=by omega
 obtain ⟨X,hX,hdv,⟨htk,hj,hi,hch,hpl⟩ | ⟨htk,k,hk,hj,hch,hx⟩⟩:=seek_who I h
 · obtain ⟨⟨t,ht1,ht2⟩,hlg,hk1,hk2,-,-,-⟩:=I.rq hg hX (.inl htk)
   have hkind:1≤(rqP g s.dl X).kind:=hlg.2.2.2.1.1
   have hd4:=hlg.2.2.2.2.2.2.2.1
   have hp0:(RC g s X).pool.l[i]?=some (rqP g s.dl X):=by rw [hpl,hi]; rfl
   rcases wireP_any hlg hb hm with hw | hw
   · have hcu:(fab g s)[2*t]?=some (RC g s t):=(csOf_get ht1).1
     have hql:=I.net.ql t ht1
     have hi1:=hg.i1
     have hi0:=hg.i0
     have hqlen:(RC g s t).queue.l.length=(s.Q t).length:=by show ((s.Q t).map _).length=_; rw [List.length_map]
     have hE:=fdel_eq (n:=nn g) fab_len h1 h2 (a:=at_.toNat) (by omega) h hch hp0 (by omega) hw hkind ht2 ht1 (u:=2*t) (by rw [if_pos hk2]) hcu (by rw [hqlen]; omega) (by show 0≤g.inn; omega) (by show g.inn≤64; omega)
     rw [← e0,hqlen] at hE
     by_cases hf:(((s.Q t).length:Nat):Int)=g.inn
     · left
       refine ⟨5,by omega,?_,fun _ _=>⟨X,t,hj,ht1,hf⟩⟩
       rw [hE,if_pos (show (((s.Q t).length:Nat):Int)=(RC g s t).queue.room from hf)]
     · right
       rw [if_neg (show ¬ (((s.Q t).length:Nat):Int)=(RC g s t).queue.room from hf)] at hE
       obtain ⟨I',hmu⟩:=ev_dreq (h:=t) I hX htk hdv ht1 ht2 (by omega)
       refine ⟨{ s with dv:=upd s.dv X true,Q:=upd s.Q t (s.Q t++[X]) },?_,rfl,rfl,I',hmu⟩
       rw [hE]
       congr 3
       rw [hj]
       unfold fab
       rw [(csOf_set _ ht1).1,(csOf_set _ hX).1]
       refine csOf_con fun q hq=>⟨?_,?_⟩
       rotate_left
       · unfold AC
         by_cases eqX:q=X
         · subst eqX
           rw [if_neg (show ¬ (s.tk q=.ans∧s.dv q=true) by rw [htk]; simp),if_neg (show ¬ (s.tk q=.ans∧upd s.dv q true q=true) by rw [htk]; simp)]
         · simp only [upd_ne eqX]
       have e1:∀ (u:Nat) (v:List PktS),(⟨⟨(if s.tk u=.req∧s.dv u=false then [rqP g s.dl u] else []),g.out⟩,⟨v,g.inn⟩⟩:ChanS)=⟨(RC g s u).pool,⟨v,g.inn⟩⟩:=fun _ _=>rfl
       have hpool:(RC g s X).pool.l.take i++(RC g s X).pool.l.drop (i+1)=[]:=by rw [hpl,hi]; rfl
       rw [hpool]
       show _=(⟨⟨if s.tk q=.req∧upd s.dv X true q=false then [rqP g s.dl q] else [],g.out⟩,⟨(upd s.Q t (s.Q t++[X]) q).map (rqP g s.dl),g.inn⟩⟩:ChanS)
       by_cases eqX:q=X
       · subst eqX
         rw [upd_eq,upd_eq,if_neg (show ¬ (s.tk q=.req∧true=false) by simp)]
         by_cases eqt:q=t
         · subst eqt
           rw [if_pos (by omega),upd_eq,List.map_append]
           rfl
         · rw [if_neg (by omega),upd_ne eqt]
           rfl
       · rw [upd_ne eqX,upd_ne eqX]
         by_cases eqt:q=t
         · subst eqt
           rw [upd_eq,upd_eq,List.map_append]
           rfl
         · rw [upd_ne eqt,upd_ne eqt]
           rfl
   · left
     refine ⟨2,by omega,?_,fun z1 z2=>?_⟩
     · unfold fdelS
       rw [e0,fpkt_some h1 h2 (by omega) h hch hp0 (by omega),Option.bind_some]
       simp only [Bool.not_true,cond_false]
       rw [hw]
       rfl
     · subst z1; subst z2
       rw [wireP_clean hlg] at hw
       have:=congrArg (fun o:Option (PktS×Int)=>o.map Prod.snd) hw
       simp at this
 · have hA:=I.net.aw X hX htk
   have hlg:=hA.lg
   have hd4:=hlg.2.2.2.2.2.2.2.1
   have hkind:1≤(s.aw X).kind:=hlg.2.2.2.1.1
   have hk7:¬ (s.aw X).kind≤6:=by
    rw [hA.fit.kn]
    have:=hA.fit.st
    have hc:(s.dl X).step=1∨(s.dl X).step=2∨(s.dl X).step=3∨(s.dl X).step=4∨(s.dl X).step=5∨(s.dl X).step=6:=by omega
    rcases hc with e | e | e | e | e | e <;> rw [e] <;> decide
   have hp0:(AC g s k).pool.l[i]?=some (s.aw X):=by
    show ((s.AP k).map s.aw)[i]?=_
    rw [List.getElem?_map,hx]
    rfl
   rcases wireP_any hlg hb hm with hw | hw
   · have hcu:(fab g s)[2*X+1]?=some (AC g s X):=(csOf_get hX).2
     have hq0:(AC g s X).queue.l=[]:=by unfold AC; rw [hdv]; simp
     have hE:=fdel_eq (n:=nn g) fab_len h1 h2 (a:=at_.toNat) (by omega) h hch hp0 (by omega) hw hkind hA.dst hX (u:=2*X+1) (by rw [if_neg hk7]) hcu (by rw [hq0]; simp) (by show (0:Int)≤1; omega) (by show (1:Int)≤64; omega)
     rw [← e0,hq0] at hE
     right
     rw [if_neg (show ¬ (((([]:List PktS).length:Nat)):Int)=(AC g s X).queue.room by show ¬ (0:Int)=1; omega)] at hE
     obtain ⟨I',hmu⟩:=ev_dans (X:=X) I hX hk (List.mem_of_getElem? hx)
     refine ⟨{ s with dv:=upd s.dv X true,AP:=upd s.AP k ((s.AP k).erase X) },?_,rfl,rfl,I',hmu⟩
     rw [hE]
     congr 3
     rw [hj]
     unfold fab
     rw [(csOf_set _ hX).2,(csOf_set _ hk).2]
     have hpool:(AC g s k).pool.l.take i++(AC g s k).pool.l.drop (i+1)=((s.AP k).erase X).map s.aw:=by
      show ((s.AP k).map s.aw).take i++((s.AP k).map s.aw).drop (i+1)=_
      rw [← erase_at (I.net.pn k hk) hx,List.map_append,List.map_take,List.map_drop]
     rw [hpool]
     refine csOf_con fun q hq=>⟨?_,?_⟩
     · unfold RC
       by_cases eqX:q=X
       · subst eqX
         rw [if_neg (show ¬ (s.tk q=.req∧s.dv q=false) by rw [htk]; simp),if_neg (show ¬ (s.tk q=.req∧upd s.dv q true q=false) by rw [htk]; simp)]
         rfl
       · simp only [upd_ne eqX]; rfl
     · by_cases eqk:q=k
       · subst eqk
         rw [upd_eq]
         unfold AC
         simp only [upd_eq]
         by_cases eqX:q=X
         · subst eqX
           rw [if_pos rfl,upd_eq]
           simp [htk]
         · rw [if_neg (by omega),upd_ne eqX]
       · rw [upd_ne eqk]
         unfold AC
         simp only [upd_ne eqk]
         by_cases eqX:q=X
         · subst eqX
           rw [upd_eq,upd_eq]
           simp [htk]
         · rw [upd_ne eqX,upd_ne eqX]
   · left
     refine ⟨2,by omega,?_,fun z1 z2=>?_⟩
     · unfold fdelS
       rw [e0,fpkt_some h1 h2 (by omega) h hch hp0 (by omega),Option.bind_some]
       simp only [Bool.not_true,cond_false]
       rw [hw]
       rfl
     · subst z1; subst z2
       rw [wireP_clean hlg] at hw
       have:=congrArg (fun o:Option (PktS×Int)=>o.map Prod.snd) hw
       simp at this
end
end
section
open Go
def Chg (g:CfgS) (s s':St):Prop:=∀ k,k<nn g→NChg g s k (s.nd k) (s'.nd k)
theorem Chg.rfl' {g:CfgS} {s s':St} (h:s'.nd=s.nd):Chg g s s':=fun k _=>by rw [h]; exact .same rfl rfl rfl
section
variable {g:CfgS} {s s':St} {ops:Nat→List OpS} {mem0 mem mem':List Int} {k X h:Nat} {L:Int}
theorem conc_nodes:(conc g s).nodes.length=nn g:=by unfold conc; simp
theorem do_step (hg:GOk g) (hP:POk g ops) (I:Inv g ops mem0 mem s) (hX:X<nn g) {b m:Int}:∃ r s' mem',mdoS (conc g s) ⟨false,(X:Int),b,m⟩=some (r,conc g s')∧Inv g ops mem0 mem' s'∧Chg g s s'∧(∃ e,s'.tr=s.tr++e)∧((r=false∧s'=s∧mem'=mem∧Stuck g s X)∨(r=true∧mu g s'<mu g s)):=by
 obtain ⟨r,s',mem',e1,e2,e3,e4,e5,e6⟩:=nstep_ok hg hP I hX
 have hch:Chg g s s':=fun k hk=>by
  by_cases ek:k=X
  · subst ek; exact e6
  · rw [e2 k ek]; exact .same rfl rfl rfl
 have hd:mdoS (conc g s) ⟨false,(X:Int),b,m⟩=some (!(decide (r=0)),conc g s'):=by
  unfold mdoS mnodeS
  simp only [cond_false]
  rw [conc_nodes,decide_eq_false (by omega),cond_false,decide_eq_false (by omega),cond_false,chk_true (by omega),Option.bind_some]
  simp only [optM]
  rw [chk_true (by omega),nth_nd hX]
  show (nstepS (s.nd X) ⟨fab g s⟩ ⟨s.tr⟩).bind _=_
  rw [e1,Option.bind_some]
  simp only
  have:setS (conc g s).nodes (X:Int) (s'.nd X)=(List.range (nn g)).map s'.nd:=by
   show setS ((List.range (nn g)).map s.nd) _ _=_
   rw [set_nd hX]
   refine List.map_congr_left fun j _=>?_
   by_cases ej:j=X
   · subst ej; rw [upd_eq]
   · rw [upd_ne ej,e2 j ej]
  rw [this]
  rfl
 refine ⟨_,s',mem',hd,e3,hch,e5,?_⟩
 rcases e4 with ⟨z1,z2,z3,z4⟩ | ⟨z1,z2⟩
 · exact .inl ⟨by rw [decide_eq_true z1]; rfl,z2,z3,z4⟩
 · exact .inr ⟨by rw [decide_eq_false z1]; rfl,z2⟩
theorem do_del (hg:GOk g) (I:Inv g ops mem0 mem s) {at_ bit mask:Int} (ha:in64 at_) (hb:in64 bit) (hm:0≤mask∧mask<65536):∃ r s',mdoS (conc g s) ⟨true,at_,bit,mask⟩=some (r,conc g s')∧Inv g ops mem0 mem s'∧s'.nd=s.nd∧s'.tr=s.tr ∧
 ((r=false∧s'=s∧(0≤at_→mask=0→bit=0→∀ j i,seek (fab g s) at_.toNat=some (j,i)→∃ X t,j=2*X∧t<nn g∧(((s.Q t).length:Nat):Int)=g.inn))∨(r=true∧mu g s'<mu g s)):=by
 have hd:mdoS (conc g s) ⟨true,at_,bit,mask⟩=(fdelS ⟨fab g s⟩ at_ bit mask).bind fun y=>some (decide (y.1=0),{ conc g s with fab:=y.2 }):=rfl
 by_cases hn:at_<0∨seek (fab g s) at_.toNat=none
 · rw [hd,del_no hg I ha hn]
   refine ⟨false,s,rfl,I,rfl,rfl,.inl ⟨rfl,rfl,fun h0 _ _ j i hs=>?_⟩⟩
   rcases hn with hn | hn
   · omega
   · rw [hn] at hs; cases hs
 · have h0:0≤at_:=by
    apply Classical.byContradiction
    intro z
    exact hn (.inl (by omega))
   cases hs:seek (fab g s) at_.toNat with
   |none=>exact absurd (.inr hs) hn
   |some y =>
    obtain ⟨j,i⟩:=y
    rcases del_ok hg I ha h0 hb hm hs with ⟨e,e1,e2,e3⟩ | ⟨s',e1,e2,e3,e4,e5⟩
    · rw [hd,e2]
      refine ⟨false,s,?_,I,rfl,rfl,.inl ⟨rfl,rfl,fun _ z1 z2 j' i' hs'=>?_⟩⟩
      · rw [Option.bind_some,decide_eq_false e1]
        rfl
      · obtain ⟨rfl,rfl⟩:=Prod.mk.inj (Option.some.inj hs')
        exact e3 z1 z2
    · rw [hd,e1]
      refine ⟨true,s',?_,e4,e2,e3,.inr ⟨rfl,e5⟩⟩
      rw [Option.bind_some]
      unfold conc
      rw [e2,e3]
      rfl
def leftN (g:CfgS) (s:St):Nat:=((List.range (nn g)).map fun k=>(s.nd k).proc.ops.length - (s.nd k).proc.values.length).sum
theorem left_l1 (hP:POk g ops) (I:Inv g ops mem0 mem s) (hn6:nn g≤6):∀ (m i:Nat) (v:Nat),i≤nn g→nn g<m+i→v≤24*i →
 mleftS_l1 (conc g s) mleftS_j0 m (v:Int) (i:Int)=some (((v+((List.range (nn g - i)).map fun j=>(s.nd (i+j)).proc.ops.length - (s.nd (i+j)).proc.values.length).sum:Nat)):Int)
 |0,i,v,h1,h2,_=>by omega
 |m+1,i,v,h1,h2,h3=>by
  rw [mleftS_l1,conc_nodes]
  by_cases hi:i<nn g
  · have N:=I.nod i hi
    have hl:=hP.len i
    have hv:=N.vl
    rw [decide_eq_true (by omega),cond_true,chk_true (by omega),nth_nd hi]
    unfold prleftS
    dsimp only [letP]
    rw [N.po,wr_in (by omega) (by omega),Option.bind_some,chk_true (by unfold inR; omega),wr_in (by omega) (by omega)]
    have ih:=left_l1 hP I hn6 m (i+1) (v+((ops i).length - (s.nd i).proc.values.length)) (by omega) (by omega) (by omega)
    rw [show (((v+((ops i).length - (s.nd i).proc.values.length):Nat)):Int)=(v:Int)+(((ops i).length:Int) - ((s.nd i).proc.values.length:Int)) by omega,show (((i+1:Nat)):Int)=(i:Int)+1 by omega] at ih
    rw [ih]
    congr 2
    have e:nn g - i=(nn g - (i+1))+1:=by omega
    rw [e,List.range_succ_eq_map,List.map_cons,List.sum_cons,List.map_map]
    have e2:(List.range (nn g - (i+1))).map ((fun j=>(s.nd (i+j)).proc.ops.length - (s.nd (i+j)).proc.values.length) ∘ Nat.succ)=(List.range (nn g - (i+1))).map fun j=>(s.nd (i+1+j)).proc.ops.length - (s.nd (i+1+j)).proc.values.length:=by
     refine List.map_congr_left fun j _=>?_
     show (s.nd (i+(j+1))).proc.ops.length - _=_
     rw [show i+(j+1)=i+1+j by omega]
    rw [e2]
    simp only [Nat.add_zero]
    rw [N.po]
    omega
  · rw [decide_eq_false (by omega),cond_false,show nn g - i=0 by omega]
    rfl
theorem nn6 (hg:GOk g):nn g≤6∧1≤nn g:=by have:=nnI hg; have:=hg.n1; have:=hg.n0; omega
theorem left_eq (hg:GOk g) (hP:POk g ops) (I:Inv g ops mem0 mem s):mleftS (conc g s)=some ((leftN g s:Nat):Int):=by
 unfold mleftS
 rw [conc_nodes]
 have:=left_l1 hP I (nn6 hg).1 (nn g+1) 0 0 (by omega) (by omega) (by omega)
 simpa [leftN] using this
def calm (g:CfgS) (s:St) (k:Nat):Bool:=decide ((s.dl k).step=0) && !(s.nd k).proc.begun && decide ((s.Q k).length+(AC g s k).queue.l.length=0)
def quietB (g:CfgS) (s:St):Bool:=((List.range (nn g)).all (calm g s)) && decide (tot (fab g s)=0)
theorem quiet_l1 (hg:GOk g) (I:Inv g ops mem0 mem s):∀ (m i:Nat),i≤nn g→nn g<m+i →
 mquietS_l1 (conc g s) (mquietS_j0 (conc g s)) m (i:Int)=some (((List.range (nn g - i)).all fun j=>calm g s (i+j)) && decide (tot (fab g s)=0))
 |0,i,h1,h2=>by omega
 |m+1,i,h1,h2=>by
  have hn6:=(nn6 hg).1
  rw [mquietS_l1,conc_nodes]
  by_cases hi:i<nn g
  · have hql:=I.net.ql i hi
    have hi1:=hg.i1
    have hdt:(s.dl i).step≠0→(s.dl i).data.length≤1099511627776:=fun z=>by
     rcases (I.dok i hi z).dt with w | w
     · rw [w]; simp
     · have:=w.le hg; omega
    have haq:(AC g s i).queue.l.length≤1:=by unfold AC; simp only; split <;> simp
    have hqe:(RC g s i).queue.l.length=(s.Q i).length:=by show ((s.Q i).map _).length=_; rw [List.length_map]
    rw [decide_eq_true (by omega),cond_true,chk_true (by omega),nth_nd hi]
    have hwait:fwaitS (conc g s).fab (i:Int)=some ((((s.Q i).length:Nat):Int),(((AC g s i).queue.l.length:Nat):Int)):=by
     show fwaitS ⟨csOf (nn g) (RC g s) (AC g s)⟩ _=_
     rw [wait_eq hi,hqe]
    have e:nn g - i=(nn g - (i+1))+1:=by omega
    rw [e,List.range_succ_eq_map,List.all_cons,List.all_map]
    have e2:(List.range (nn g - (i+1))).all ((fun j=>calm g s (i+j)) ∘ Nat.succ)=(List.range (nn g - (i+1))).all fun j=>calm g s (i+1+j):=by
     congr 1
     funext j
     show calm g s (i+(j+1))=_
     rw [show i+(j+1)=i+1+j by omega]
    rw [e2,Nat.add_zero]
    unfold ndealS
    by_cases hs:(s.dl i).step=0
    · have hs':(s.nd i).deal.step=0:=hs
      rw [decide_eq_true hs',cond_true,Option.bind_some,hwait,Option.bind_some]
      simp only [cond_false]
      unfold prbegunS
      rw [Option.bind_some]
      cases hb:(s.nd i).proc.begun with
      |true =>
       rw [cond_true]
       have:calm g s i=false:=by unfold calm; rw [hb]; simp
       rw [this]
       rfl
      |false =>
       rw [cond_false,wr_in (by omega) (by omega)]
       by_cases hz:(s.Q i).length+(AC g s i).queue.l.length=0
       · have hc:calm g s i=true:=by unfold calm; rw [hb,decide_eq_true hs,decide_eq_true hz]; rfl
         rw [decide_eq_false (by omega),cond_false,chk_true (by unfold inR; omega),hc,Bool.true_and]
         exact quiet_l1 hg I m (i+1) (by omega) (by omega)
       · have hc:calm g s i=false:=by unfold calm; rw [decide_eq_false hz]; simp
         rw [decide_eq_true (by omega),cond_true,hc]
         rfl
    · have hs':¬ (s.nd i).deal.step=0:=hs
      have hc:calm g s i=false:=by unfold calm; rw [decide_eq_false hs]; rfl
      rw [decide_eq_false hs',cond_false,chk_true (show (s.nd i).deal.data.length≤1099511627776 from hdt hs)]
      dsimp only [letP]
      rw [Option.bind_some,hwait,Option.bind_some,hc]
      rfl
  · rw [decide_eq_false (by omega),cond_false,show nn g - i=0 by omega]
    unfold mquietS_j0
    obtain ⟨h1',h2'⟩:=fab_small hg I
    show (funderS ⟨fab g s⟩).bind _=_
    rw [under_eq h1' h2',Option.bind_some]
    congr 1
    by_cases z:tot (fab g s)=0
    · rw [decide_eq_true z,decide_eq_true (by omega)]; rfl
    · rw [decide_eq_false z,decide_eq_false (by omega)]; rfl
theorem quiet_eq (hg:GOk g) (I:Inv g ops mem0 mem s):mquietS (conc g s)=some (quietB g s):=by
 unfold mquietS
 rw [conc_nodes]
 have:=quiet_l1 hg I (nn g+1) 0 (by omega) (by omega)
 simpa [quietB] using this
theorem over_eq (hg:GOk g) (hP:POk g ops) (I:Inv g ops mem0 mem s):roverS (conc g s)=some (quietB g s && decide (leftN g s=0)):=by
 unfold roverS
 rw [quiet_eq hg I,Option.bind_some]
 cases quietB g s with
 |false=>rfl
 |true =>
  rw [cond_true,left_eq hg hP I,Option.bind_some,Bool.true_and]
  congr 1
  by_cases z:leftN g s=0
  · rw [decide_eq_true z,decide_eq_true (by omega)]
  · rw [decide_eq_false z,decide_eq_false (by omega)]
theorem stuck_over (hg:GOk g) (hP:POk g ops) (I:Inv g ops mem0 mem s) (hS:∀ k,k<nn g→Stuck g s k) (hd:∀ a,a<tot (fab g s)→∀ j i,seek (fab g s) a=some (j,i)→∃ X t,j=2*X∧t<nn g∧(((s.Q t).length:Nat):Int)=g.inn) :
 (quietB g s && decide (leftN g s=0))=true:=by
 have ho0:=hg.o0
 have hi0:=hg.i0
 have hn:=nnI hg
 have hAP:∀ h,h<nn g→s.AP h=[]:=fun h hh=>by
  cases hA:s.AP h with
  |nil=>rfl
  |cons X r =>
   exfalso
   have hch:(fab g s)[2*h+1]?=some (AC g s h):=(csOf_get hh).2
   obtain ⟨a,a1,a2⟩:=seek_at (i:=0) hch (by show 0<((s.AP h).map s.aw).length; rw [hA]; simp)
   obtain ⟨X',t,e,-⟩:=hd a a1 _ _ a2
   omega
 have hroom:∀ h,h<nn g→(((s.AP h).length:Nat):Int)<g.out:=fun h hh=>by rw [hAP h hh]; simp; omega
 have hQ:∀ h,h<nn g→s.Q h=[]:=fun h hh=>by
  rcases (hS h hh).rq with z | z
  · exact z
  · exact absurd (hroom h hh) z
 have hreq:∀ k,k<nn g→s.tk k≠.req:=fun k hk hr=>by
  obtain ⟨⟨t,ht1,ht2⟩,-⟩:=I.rq hg hk (.inl hr)
  cases hv:s.dv k with
  |true =>
   have:=(I.net.qm t ht1 k).2 ⟨hk,hr,hv,ht2⟩
   rw [hQ t ht1] at this
   cases this
  |false =>
   have hch:(fab g s)[2*k]?=some (RC g s k):=(csOf_get hk).1
   obtain ⟨a,a1,a2⟩:=seek_at (i:=0) hch (by show 0<(if s.tk k=.req∧s.dv k=false then [rqP g s.dl k] else []).length; rw [if_pos ⟨hr,hv⟩]; simp)
   obtain ⟨X',t',-,e1,e2⟩:=hd a a1 _ _ a2
   rw [hQ t' e1] at e2
   simp at e2
   omega
 have hans:∀ k,k<nn g→s.tk k≠.ans:=fun k hk hr=>by
  cases hv:s.dv k with
  |true=>exact (hS k hk).a ⟨hr,hv⟩
  |false =>
   obtain ⟨j,j1,j2⟩:=(I.net.aw k hk hr).src
   have:=(I.net.pm j j1 k).2 ⟨hk,hr,hv,j2⟩
   rw [hAP j j1] at this
   cases this
 have hwait:∀ k,k<nn g→s.tk k≠.wait:=fun k hk hr=>by
  have h0:(s.dl k).step≠0:=fun z=>by have:=(I.net.idle k hk).2 z; rw [hr] at this; cases this
  have D:=I.dok k hk h0
  obtain ⟨ws,w1,w2,w3⟩:=I.trn.ww _ D.ln.1 D.ln.2
  have hm1:=hm_lt (L:=(s.dl k).line) hg D.ln.1
  have hk':=(w3 k).2 ⟨hk,hr,rfl⟩
  have hne:wts g s (s.dl k).line≠[]:=by
   rw [w1]
   intro z
   have:=List.map_eq_nil_iff.1 z
   rw [this] at hk'
   cases hk'
  have hrdy:rdy (s.nd (hm g (s.dl k).line)).home.turns=[]:=by
   rcases (hS _ hm1.1).gr with z | z
   · exact z
   · exact absurd (hroom _ hm1.1) z
  have hown:own g s (s.dl k).line≠none:=fun z=>by
   have:=mem_rdy.2 ⟨z,hne⟩
   rw [hrdy] at this
   cases this
  cases ho:own g s (s.dl k).line with
  |none=>exact hown ho
  |some o =>
   obtain ⟨j,j1,j2,j3,j4⟩:=I.trn.ow _ o D.ln.1 D.ln.2 ho
   cases ht:s.tk j with
   |idle=>exact j4.1 ((I.net.idle j j1).1 ht)
   |req=>exact hreq j j1 ht
   |ans=>exact hans j j1 ht
   |wait =>
    have:=j4.2.1 (I.net.wait j j1 ht)
    rw [ht] at this
    cases this
 have hidle:∀ k,k<nn g→s.tk k=.idle:=fun k hk=>by
  cases ht:s.tk k with
  |idle=>rfl
  |req=>exact absurd ht (hreq k hk)
  |wait=>exact absurd ht (hwait k hk)
  |ans=>exact absurd ht (hans k hk)
 have hcur:∀ k,k<nn g→cur (s.nd k)=none:=fun k hk=>by
  rcases (hS k hk).wk with z | z
  · exact absurd (hidle k hk) z
  · exact z
 have hlen:∀ k,k<nn g→(s.nd k).proc.ops.length≤(s.nd k).proc.values.length:=fun k hk=>List.getElem?_eq_none_iff.1 (hcur k hk)
 rw [Bool.and_eq_true]
 refine ⟨?_,?_⟩
 · unfold quietB
   rw [Bool.and_eq_true]
   refine ⟨?_,?_⟩
   · rw [List.all_eq_true]
     intro k hk
     have hk:=List.mem_range.1 hk
     unfold calm
     have hb:(s.nd k).proc.begun=false:=by
      cases hb:(s.nd k).proc.begun with
      |false=>rfl
      |true =>
       have a:=(I.nod k hk).bg hb
       have b:=hlen k hk
       rw [(I.nod k hk).po] at b
       omega
     rw [hb,decide_eq_true ((I.net.idle k hk).1 (hidle k hk))]
     have:(AC g s k).queue.l=[]:=by unfold AC; rw [hidle k hk]; simp
     rw [this,hQ k hk]
     rfl
   · have:tot (fab g s)=0:=by
      apply Classical.byContradiction
      intro hz
      have hmem:∀ ch∈fab g s,ch.pool.l.length=0:=fun ch hc=>by
       obtain ⟨j,hj⟩:=List.getElem?_of_mem hc
       obtain ⟨hk,⟨-,rfl⟩ | ⟨-,rfl⟩⟩:=csOf_at hj
       · unfold RC; rw [hidle _ hk]; simp
       · unfold AC; rw [hAP _ hk]; simp
      have h0:∀ cs:List ChanS,(∀ ch∈cs,ch.pool.l.length=0)→tot cs=0:=by
       intro cs
       induction cs with
       |nil=>intro _; rfl
       |cons c cs ih =>
        intro h
        have a:=h c (by simp)
        have b:=ih fun ch hc=>h ch (by simp [hc])
        simp [tot] at b ⊢
        exact ⟨by simpa using a,b⟩
      exact hz (h0 _ hmem)
     rw [decide_eq_true this]
 · have:leftN g s=0:=by
    unfold leftN
    have:=sum_le (f:=fun k=>(s.nd k).proc.ops.length - (s.nd k).proc.values.length) (b:=0) (n:=nn g) fun k hk=>by have:=hlen k hk; omega
    omega
   rw [decide_eq_true this]
end
end
section
open Go
theorem within_ok {v n:Int} (hv:in64 v) (hn:n≤100000):∃ b,withinS v n=some b∧(n<1→b=0)∧(1≤n→0≤b∧b<n∧(0≤v→v<n→b=v)):=by
 unfold withinS
 by_cases h:n<1
 · rw [decide_eq_true h]
   exact ⟨0,rfl,fun _=>rfl,fun z=>by omega⟩
 · rw [decide_eq_false h,cond_false,chk_true (by omega)]
   have h1:=Int.lt_tmod_of_pos v (show 0<n by omega)
   have h2:=Int.tmod_lt_of_pos v (show 0<n by omega)
   by_cases hz:v.tmod n<0
   · refine ⟨v.tmod n+n,?_,fun z=>absurd z h,fun _=>⟨by omega,by omega,fun a b=>?_⟩⟩
     · rw [decide_eq_true hz,cond_true,chk_true (by unfold inR; omega)]
     · rw [Int.tmod_eq_of_lt a b] at hz; omega
   · refine ⟨v.tmod n,?_,fun z=>absurd z h,fun _=>⟨by omega,by omega,fun a b=>Int.tmod_eq_of_lt a b⟩⟩
     rw [decide_eq_false hz,cond_false]
theorem in64_s {x:Int} (h:-1000000≤x∧x≤1000000):in64 x:=⟨by omega,by omega⟩
def Keep (g:CfgS) (ops:Nat→List OpS) (mem0:List Int) (J:St→Prop):Prop:=∀ s s' mem mem',Inv g ops mem0 mem s→Inv g ops mem0 mem' s'→Chg g s s'→J s→J s'
section
variable {g:CfgS} {s s':St} {ops:Nat→List OpS} {mem0 mem mem':List Int} {k X h:Nat} {L:Int} {J:St→Prop}
theorem conf_eq (hg:GOk g):mconfS (conc g s)=some g:=by
 have h:=hg.ini
 have h1:=hg.l1
 have h2:=hg.w1
 have h3:=hg.w0
 have hm:g.lines*g.words≤8*g.words:=Int.mul_le_mul_of_nonneg_right h1 (by omega)
 unfold mconfS cloneS
 show (chk (g.init.length≤1099511627776) (some g.init)).bind _=_
 rw [chk_true (by omega)]
 rfl
theorem tot_le (hg:GOk g) (I:Inv g ops mem0 mem s):tot (fab g s)≤1000:=by
 obtain ⟨h1,h2⟩:=fab_small hg I
 have h3:∀ cs:List ChanS,(∀ ch∈cs,ch.pool.l.length≤64)→tot cs≤64*cs.length:=by
  intro cs
  induction cs with
  |nil=>intro _; simp [tot]
  |cons c cs ih =>
   intro h
   have a:=h c (by simp)
   have b:=ih fun ch hc=>h ch (by simp [hc])
   simp [tot] at b ⊢
   omega
 have:=h3 _ h2
 have h4:=fab_len (g:=g) (s:=s)
 have:=(nn6 hg).1
 omega
structure Went (g:CfgS) (ops:Nat→List OpS) (mem0:List Int) (J:St→Prop) (s0 s:St) (why:Prop):Prop where
 inv:∃ mem,Inv g ops mem0 mem s
 j:J s
 ext:∃ e,s.tr=s0.tr++e
 le:mu g s≤mu g s0
 or:mu g s<mu g s0∨(s=s0∧why)
theorem rdo_eq {p:PickS} {m m':MachS} {r:Bool} {dv:Int} (h:mdoS m p=some (r,m')):rdoS p m dv=some (m',if r then wr (dv+1) else dv):=by
 unfold rdoS
 rw [h,Option.bind_some]
 cases r <;> rfl
theorem round_l3 (hg:GOk g) (hP:POk g ops) (K:Keep g ops mem0 J) {s0:St} (u:Int) (r0:Nat) (hr:u.tmod g.nodes=(r0:Int)) (hr0:r0<nn g) {k0:Int→MachS→Option (Int×MachS)}:∀ (m i:Nat) (d:Int) (s:St),Went g ops mem0 J s0 s (∀ j,j<i→Stuck g s0 ((r0+j) % nn g))→i≤nn g→nn g<m+i →
 ∃ d' s',rroundS_l3 g u k0 m (i:Int) d (conc g s)=k0 d' (conc g s')∧Went g ops mem0 J s0 s' (∀ j,j<nn g→Stuck g s0 ((r0+j) % nn g))
 |0,i,d,s,W,h1,h2=>by omega
 |m+1,i,d,s,W,h1,h2=>by
  have hn:=nnI hg
  have hn6:=hg.n1
  rw [rroundS_l3]
  by_cases hi:i<nn g
  · rw [decide_eq_true (by omega),cond_true,chk_true hg.n0]
    dsimp only [letP]
    rw [hr,wr_in (by omega) (by omega)]
    have hk:(r0+i) % nn g<nn g:=Nat.mod_lt _ (by omega)
    have ek:((r0:Int)+(i:Int)).tmod g.nodes=(((r0+i) % nn g:Nat):Int):=by
     rw [← hn,Int.tmod_eq_emod_of_nonneg (by omega),Int.natCast_emod,Int.natCast_add]
    rw [ek]
    obtain ⟨mem,I⟩:=W.inv
    obtain ⟨r,s1,mem1,e1,e2,e3,⟨e,e4⟩,e5⟩:=do_step (b:=0) (m:=0) hg hP I hk
    rw [rdo_eq e1,Option.bind_some,chk_true (by unfold inR; omega)]
    have W1:Went g ops mem0 J s0 s1 (∀ j,j<i+1→Stuck g s0 ((r0+j) % nn g)):=by
     obtain ⟨e0,w2⟩:=W.ext
     have wl:=W.le
     refine ⟨⟨mem1,e2⟩,K _ _ _ _ I e2 e3 W.j,⟨e0++e,by rw [e4,w2,List.append_assoc]⟩,?_,?_⟩
     · rcases e5 with ⟨-,z,-⟩ | ⟨-,z⟩
       · rw [z]; exact wl
       · omega
     · rcases e5 with ⟨-,z,-,z2⟩ | ⟨-,z⟩
       · rw [z]
         rcases W.or with w | ⟨w,w3⟩
         · exact .inl w
         · refine .inr ⟨w,fun j hj=>?_⟩
           by_cases hj2:j<i
           · exact w3 j hj2
           · have:j=i:=by omega
             subst this
             rw [← w]; exact z2
       · left; omega
    have ih:=round_l3 (k0:=k0) hg hP K u r0 hr hr0 m (i+1) (if r then wr (d+1) else d) s1 W1 (by omega) (by omega)
    rw [show (((i+1:Nat)):Int)=(i:Int)+1 by omega] at ih
    exact ih
  · have:i=nn g:=by omega
    subst this
    rw [decide_eq_false (by omega),cond_false]
    exact ⟨d,s,rfl,W⟩
theorem round_l2 (hg:GOk g) (K:Keep g ops mem0 J) {s0:St} (U:Nat) (hU:U≤1000) {k1:Int→MachS→Option (Int×MachS)}:∀ (m c:Nat) (d:Int) (s:St),Went g ops mem0 J s0 s (∀ a,c≤a→a<U→∀ j i,seek (fab g s0) a=some (j,i)→∃ X t,j=2*X∧t<nn g∧(((s0.Q t).length:Nat):Int)=g.inn)→c≤U→c<m →
 ∃ d' s',rroundS_l2 k1 m ((c:Int) - 1) d (conc g s)=k1 d' (conc g s')∧Went g ops mem0 J s0 s' (∀ a,a<U→∀ j i,seek (fab g s0) a=some (j,i)→∃ X t,j=2*X∧t<nn g∧(((s0.Q t).length:Nat):Int)=g.inn)
 |0,c,d,s,W,h1,h2=>by omega
 |m+1,0,d,s,W,h1,h2=>by
  rw [rroundS_l2,decide_eq_false (by omega),cond_false]
  exact ⟨d,s,rfl,⟨W.inv,W.j,W.ext,W.le,W.or.imp id fun ⟨z1,z2⟩=>⟨z1,fun a ha=>z2 a (by omega) ha⟩⟩⟩
 |m+1,c+1,d,s,W,h1,h2=>by
  rw [rroundS_l2,decide_eq_true (by omega),cond_true]
  obtain ⟨mem,I⟩:=W.inv
  obtain ⟨r,s1,e1,e2,e3,e4,e5⟩:=do_del (s:=s) (at_:=(((c+1:Nat)):Int) - 1) (bit:=0) (mask:=0) hg I (in64_s (by omega)) (in64_s (by omega)) (by omega)
  rw [rdo_eq e1,Option.bind_some,chk_true (by unfold inR; omega)]
  have W1:Went g ops mem0 J s0 s1 (∀ a,c≤a→a<U→∀ j i,seek (fab g s0) a=some (j,i)→∃ X t,j=2*X∧t<nn g∧(((s0.Q t).length:Nat):Int)=g.inn):=by
   obtain ⟨e0,w2⟩:=W.ext
   have wl:=W.le
   refine ⟨⟨mem,e2⟩,K _ _ _ _ I e2 (.rfl' e3) W.j,⟨e0,by rw [e4,w2]⟩,?_,?_⟩
   · rcases e5 with ⟨-,z,-⟩ | ⟨-,z⟩
     · rw [z]; exact wl
     · omega
   · rcases e5 with ⟨-,z,z2⟩ | ⟨-,z⟩
     · rw [z]
       rcases W.or with w | ⟨w,w3⟩
       · exact .inl w
       · refine .inr ⟨w,fun a ha hU' j i hs=>?_⟩
         by_cases hac:c+1≤a
         · exact w3 a hac hU' j i hs
         · have:a=c:=by omega
           subst this
           subst w
           refine z2 (by omega) rfl rfl j i ?_
           rw [show ((((a+1:Nat)):Int) - 1).toNat=a by omega]
           exact hs
     · left; omega
  have ih:=round_l2 (k1:=k1) hg K U hU m c (if r then wr (d+1) else d) s1 W1 (by omega) (by omega)
  rw [show (((c+1:Nat)):Int) - 1 - 1=(c:Int) - 1 by omega]
  exact ih
theorem round_ok (hg:GOk g) (hP:POk g ops) (K:Keep g ops mem0 J) (I:Inv g ops mem0 mem s) (hJ:J s) {first:Int} (hf:in64 first) :
 ∃ d s' mem',rroundS (conc g s) first=some (d,conc g s')∧Inv g ops mem0 mem' s'∧J s'∧(∃ e,s'.tr=s.tr++e)∧(mu g s'<mu g s∨(quietB g s && decide (leftN g s=0))=true):=by
 have hn:=nnI hg
 have hn6:=hg.n1
 have hn0:=hg.n0
 have h1:=Int.lt_tmod_of_pos first (show 0<g.nodes by omega)
 have h2:=Int.tmod_lt_of_pos first (show 0<g.nodes by omega)
 unfold rroundS
 rw [conf_eq hg,Option.bind_some,chk_true hn0]
 dsimp only [letP]
 rw [chk_true hn0,wr_in (by omega) (by omega)]
 have hu0:0≤(first.tmod g.nodes+g.nodes).tmod g.nodes:=Int.tmod_nonneg _ (by omega)
 have hu1:=Int.tmod_lt_of_pos (first.tmod g.nodes+g.nodes) (show 0<g.nodes by omega)
 obtain ⟨r0,hr⟩:∃ r0:Nat,(first.tmod g.nodes+g.nodes).tmod g.nodes=(r0:Int):=⟨((first.tmod g.nodes+g.nodes).tmod g.nodes).toNat,by omega⟩
 obtain ⟨d1,s1,e1,W1⟩:=round_l3 (k0:=rroundS_j0) hg hP K (first.tmod g.nodes+g.nodes) r0 hr (by omega) 4096 0 0 s ⟨⟨mem,I⟩,hJ,⟨[],(List.append_nil _).symm⟩,Nat.le_refl _,.inr ⟨rfl,fun j hj=>by omega⟩⟩ (by omega) (by omega)
 have e1':rroundS_l3 g (first.tmod g.nodes+g.nodes) rroundS_j0 4096 0 0 (conc g s)=rroundS_j0 d1 (conc g s1):=e1
 rw [e1']
 obtain ⟨mem1,I1⟩:=W1.inv
 have ht:=tot_le hg I1
 obtain ⟨f1,f2⟩:=fab_small hg I1
 have hu:funderS (conc g s1).fab=some ((tot (fab g s1):Nat):Int):=under_eq f1 f2
 unfold rroundS_j0
 rw [hu,Option.bind_some,wr_in (by omega) (by omega)]
 obtain ⟨d2,s2,e2,W2⟩:=round_l2 (k1:=rroundS_j1) (s0:=s1) hg K (tot (fab g s1)) ht 4096 (tot (fab g s1)) d1 s1 ⟨⟨mem1,I1⟩,W1.j,⟨[],(List.append_nil _).symm⟩,Nat.le_refl _,.inr ⟨rfl,fun a ha hb=>by omega⟩⟩ (Nat.le_refl _) (by omega)
 obtain ⟨mem2,I2⟩:=W2.inv
 obtain ⟨x1,y1⟩:=W1.ext
 obtain ⟨x2,y2⟩:=W2.ext
 refine ⟨d2,s2,mem2,e2,I2,W2.j,⟨x1++x2,by rw [y2,y1,List.append_assoc]⟩,?_⟩
 have l1:=W1.le
 have l2:=W2.le
 rcases W1.or with z | ⟨z,zs⟩
 · left; omega
 · rcases W2.or with w | ⟨w,ws⟩
   · left; omega
   · right
     subst z
     refine stuck_over hg hP I1 (fun k hk=>?_) ws
     have hk2:=zs ((k+nn g - r0) % nn g) (Nat.mod_lt _ (by omega))
     have e:(r0+(k+nn g - r0) % nn g) % nn g=k:=by
      rw [Nat.add_mod_mod,show r0+(k+nn g - r0)=k+nn g by omega,Nat.add_mod_right,Nat.mod_eq_of_lt hk]
     rw [e] at hk2
     exact hk2
theorem nthI {l:List Int} {i:Nat} (h:i<l.length):nth l (i:Int)∈l:=by
 rw [nth_at (List.getElem?_eq_getElem h)]
 exact List.getElem_mem h
theorem fin_l1 (hg:GOk g) (hP:POk g ops) (K:Keep g ops mem0 J) (firsts:List Int) (hf:∀ x∈firsts,in64 x) (most:Nat) (hmo:most≤1000000):∀ (m n:Nat) (s:St) (mem:List Int),Inv g ops mem0 mem s→J s→n+mu g s<most→most<m+n →
 ∃ r s' mem',rfinS_l1 (most:Int) firsts rfinS_j0 m (n:Int) (conc g s)=some (r,conc g s')∧r≤(most:Int)∧Inv g ops mem0 mem' s'∧J s'∧(∃ e,s'.tr=s.tr++e)∧quietB g s'=true∧leftN g s'=0
 |0,n,s,mem,I,hJ,h1,h2=>by omega
 |m+1,n,s,mem,I,hJ,h1,h2=>by
  rw [rfinS_l1,decide_eq_true (by omega),cond_true,over_eq hg hP I,Option.bind_some]
  cases hov:(quietB g s && decide (leftN g s=0)) with
  |true =>
   rw [Bool.not_true]
   unfold rfinS_j2
   rw [Bool.and_eq_true] at hov
   exact ⟨(n:Int),s,mem,rfl,by omega,I,hJ,⟨[],(List.append_nil _).symm⟩,hov.1,of_decide_eq_true hov.2⟩
  |false =>
   rw [Bool.not_false]
   unfold rfinS_j2
   rw [cond_true]
   have go:∀ first:Int,in64 first→∃ r s' mem',((rroundS (conc g s) first).bind fun y6_2=>chk (inR ((n:Int)+1)) ((rfinS_l1 (most:Int) firsts rfinS_j0 m) ((n:Int)+1) y6_2.2))=some (r,conc g s')∧r≤(most:Int)∧Inv g ops mem0 mem' s'∧J s'∧(∃ e,s'.tr=s.tr++e)∧quietB g s'=true∧leftN g s'=0:=by
    intro first hfirst
    obtain ⟨d,s1,mem1,e1,e2,e3,⟨x1,e4⟩,e5⟩:=round_ok hg hP K I hJ hfirst
    have e6:mu g s1<mu g s:=by
     rcases e5 with z | z
     · exact z
     · rw [hov] at z; cases z
    rw [e1,Option.bind_some,chk_true (by unfold inR; omega)]
    obtain ⟨r,s2,mem2,q1,q2,q3,q4,⟨x2,q5⟩,q6⟩:=fin_l1 hg hP K firsts hf most hmo m (n+1) s1 mem1 e2 e3 (by omega) (by omega)
    rw [show (((n+1:Nat)):Int)=(n:Int)+1 by omega] at q1
    exact ⟨r,s2,mem2,q1,q2,q3,q4,⟨x1++x2,by rw [q5,e4,List.append_assoc]⟩,q6⟩
   by_cases hn:n<firsts.length
   · rw [decide_eq_true (by omega),cond_true,chk_true (by omega)]
     exact go _ (hf _ (nthI hn))
   · rw [decide_eq_false (by omega),cond_false]
     exact go 0 (in64_s (by omega))
theorem fin_ok (hg:GOk g) (hP:POk g ops) (K:Keep g ops mem0 J) {firsts:List Int} (hf:∀ x∈firsts,in64 x) {most:Nat} (hmo:most≤1000000) (I:Inv g ops mem0 mem s) (hJ:J s) (hmu:mu g s<most) :
 ∃ r s' mem',rfinS (conc g s) (most:Int) firsts=some (r,conc g s')∧r≤(most:Int)∧Inv g ops mem0 mem' s'∧J s'∧(∃ e,s'.tr=s.tr++e)∧quietB g s'=true∧leftN g s'=0:=by
 unfold rfinS
 exact fin_l1 hg hP K firsts hf most hmo _ 0 s mem I hJ (by omega) (by omega)
end
end
section
open Go
section
variable {g:CfgS} {L:Int}
theorem right_ok (hg:GOk g) {o:OpS} (ho:OOk g o):prightS g o=some true:=by
 have h:=line_ok hg ho
 obtain ⟨a1,a2,a3,a4,a5⟩:=addr_eq hg ho
 unfold prightS
 rw [h,Option.bind_some,decide_eq_true ho.k0,cond_true,decide_eq_true ho.k1,cond_true]
 simp only
 rw [decide_eq_false (by omega),Bool.not_false,cond_true]
 rcases ho.vz with z | z | z
 · rw [decide_eq_true z]; rfl
 · rw [decide_eq_true z]
   cases decide (o.value=0) <;> rfl
 · rw [decide_eq_true z]
   cases decide (o.value=0) <;> cases decide (o.kind=2) <;> rfl
theorem oidx_l1 (hg:GOk g) (s:List OpS) (hs:s.length≤1000) (ho:∀ o∈s,OOk g o):∀ (m i:Nat),i≤s.length→s.length<m+i→oidxS_l1 s g oidxS_j0 m (i:Int)=some (-1)
 |0,i,h1,h2=>by omega
 |m+1,i,h1,h2=>by
  rw [oidxS_l1]
  by_cases hi:i<s.length
  · have hx:s[i]?=some s[i]:=List.getElem?_eq_getElem hi
    rw [decide_eq_true (by omega),cond_true,chk_true (by omega)]
    dsimp only [letP]
    rw [nthT_at hx]
    unfold pops11S
    rw [right_ok hg (ho _ (List.getElem_mem hi)),Option.bind_some,Option.bind_some,Bool.not_true,cond_false,chk_true (by unfold inR; omega)]
    have ih:=oidx_l1 hg s hs ho m (i+1) (by omega) (by omega)
    rw [show (((i+1:Nat)):Int)=(i:Int)+1 by omega] at ih
    exact ih
  · rw [decide_eq_false (by omega),cond_false]
    rfl
structure PsOk (g:CfgS) (ps:List (List OpS)):Prop where
 len:ps.length=nn g
 sh:∀ l∈ps,l.length≤24
 ok:∀ l∈ps,∀ o∈l,OOk g o
theorem pops1_ok (hg:GOk g) {l:List OpS} (h1:l.length≤24) (h2:∀ o∈l,OOk g o):pops1S l g=some false:=by
 unfold pops1S ocontS oidxS
 have:=oidx_l1 hg l (by omega) h2 (l.length+1) 0 (by omega) (by omega)
 rw [decide_eq_false (by omega),cond_false,show (0:Int)=((0:Nat):Int) from rfl,this]
 rfl
theorem lidx_l1 (hg:GOk g) (s:List (List OpS)) (hs:s.length≤1000) (ho:∀ l∈s,l.length≤24∧∀ o∈l,OOk g o):∀ (m i:Nat),i≤s.length→s.length<m+i→lidxS_l1 s g lidxS_j0 m (i:Int)=some (-1)
 |0,i,h1,h2=>by omega
 |m+1,i,h1,h2=>by
  rw [lidxS_l1]
  by_cases hi:i<s.length
  · have hx:s[i]?=some s[i]:=List.getElem?_eq_getElem hi
    have hm:=ho _ (List.getElem_mem hi)
    rw [decide_eq_true (by omega),cond_true,chk_true (by omega)]
    dsimp only [letP]
    rw [nthT_at hx,pops1_ok hg hm.1 hm.2,Option.bind_some,cond_false,chk_true (by unfold inR; omega)]
    have ih:=lidx_l1 hg s hs ho m (i+1) (by omega) (by omega)
    rw [show (((i+1:Nat)):Int)=(i:Int)+1 by omega] at ih
    exact ih
  · rw [decide_eq_false (by omega),cond_false]
    rfl
theorem pops_ok (hg:GOk g) {ps:List (List OpS)} (h:PsOk g ps):popsS g ps=some 0:=by
 have hn:=nnI hg
 have hn6:=hg.n1
 have hl:=h.len
 unfold popsS lcontS lidxS
 have:=lidx_l1 hg ps (by omega) (fun l hm=>⟨h.sh l hm,h.ok l hm⟩) (ps.length+1) 0 (by omega) (by omega)
 rw [show (0:Int)=((0:Nat):Int) from rfl,this,Option.bind_some,decide_eq_false (by omega),Option.bind_some,cond_false,decide_eq_true (by omega),Bool.not_true]
 rfl
def opsL (ps:List (List OpS)) (k:Nat):List OpS:=ps.getD k []
theorem opsL_at {ps:List (List OpS)} {k:Nat} (h:k<ps.length):ps[k]?=some (opsL ps k)∧opsL ps k∈ps:=by
 have e:ps[k]?=some ps[k]:=List.getElem?_eq_getElem h
 have e2:opsL ps k=ps[k]:=by unfold opsL; rw [List.getD_eq_getElem?_getD,e]; rfl
 rw [e2]
 exact ⟨e,List.getElem_mem h⟩
theorem PsOk.pok {ps:List (List OpS)} (h:PsOk g ps):POk g (opsL ps):=by
 have h0:∀ k,opsL ps k∈ps∨opsL ps k=[]:=fun k=>by
  by_cases hk:k<ps.length
  · exact .inl (opsL_at hk).2
  · right; unfold opsL; rw [List.getD_eq_getElem?_getD,List.getElem?_eq_none (by omega)]; rfl
 refine ⟨fun k=>?_,fun k o ho=>?_⟩
 · rcases h0 k with z | z
   · exact h.sh _ z
   · rw [z]; simp
 · rcases h0 k with z | z
   · exact h.ok _ z o ho
   · rw [z] at ho; cases ho
theorem check_ok (hg:GOk g):pcheckS g=some 0:=by
 have w:∀ n m:Int,1≤n→n≤m→pwithinS n m=some true:=fun n m h1 h2=>by
  unfold pwithinS
  rw [decide_eq_true h1,cond_true,decide_eq_true h2]
 have h1:=hg.l1
 have h2:=hg.w1
 have h3:=hg.w0
 have h4:=hg.l0
 have hm:g.lines*g.words≤8*g.words:=Int.mul_le_mul_of_nonneg_right h1 (by omega)
 have hm0:0≤g.lines*g.words:=Int.mul_nonneg (by omega) (by omega)
 have hi:=hg.ini
 unfold pcheckS pcheckS_j0 pcheckS_j1 pcheckS_j2
 rw [w _ _ hg.n0 hg.n1,Option.bind_some,cond_true,w _ _ hg.l0 hg.l1,Option.bind_some,cond_true,w _ _ hg.w0 hg.w1,Option.bind_some]
 simp only [w _ _ hg.s0 hg.s1,w _ _ hg.y0 hg.y1,w _ _ hg.o0 hg.o1,w _ _ hg.i0 hg.i1,Option.bind_some,cond_true,Bool.not_true,cond_false]
 rw [wr_in (by omega) (by omega),decide_eq_false (by omega)]
 rfl
def w0 (g:CfgS) (L:Int):List Int:=cpI (List.replicate g.words.toNat 0) (g.init.drop (min (L*g.words).toNat g.init.length))
theorem w0_len (hg:GOk g):(w0 g L).length=g.words.toNat:=by
 unfold w0 cpI
 rw [List.length_append,List.length_take,List.length_drop,List.length_drop,List.length_replicate]
 omega
theorem w0_ok (hg:GOk g) (hi:∀ x∈g.init,in64 x):WOk g (w0 g L):=by
 refine ⟨by rw [w0_len hg]; have:=hg.w0; omega,fun d hd=>?_⟩
 unfold w0 cpI at hd
 rcases List.mem_append.1 hd with h | h
 · exact hi d (List.mem_of_mem_drop (List.mem_of_mem_take h))
 · have:=List.eq_of_mem_replicate (List.mem_of_mem_drop h)
   rw [this]
   exact in64_s (by omega)
theorem pwords_eq (hg:GOk g) (h0:0≤L) (h1:L<g.lines):pwordsS g L=some (w0 g L):=by
 have h2:=hg.w1
 have h3:=hg.w0
 have h4:=hg.l1
 have hm:L*g.words≤8*g.words:=Int.mul_le_mul_of_nonneg_right (by omega) (by omega)
 have hm0:0≤L*g.words:=Int.mul_nonneg (by omega) (by omega)
 unfold pwordsS
 rw [decide_eq_false (by omega),cond_false,decide_eq_false (by omega)]
 unfold pwordsS_j0
 rw [cond_false,chk_true (by omega)]
 dsimp only [letP]
 rw [wr_in (by omega) (by omega)]
 have e:(if (g.init.length:Int)<L*g.words then (g.init.length:Int) else L*g.words)=((min (L*g.words).toNat g.init.length:Nat):Int):=by
  split <;> omega
 rw [e,chk_true (by omega)]
 have e2:(g.init.drop ((min (L*g.words).toNat g.init.length:Nat):Int).toNat).take (((g.init.length:Int)).toNat - ((min (L*g.words).toNat g.init.length:Nat):Int).toNat)=g.init.drop (min (L*g.words).toNat g.init.length):=by
  rw [Int.toNat_natCast,Int.toNat_natCast,List.take_of_length_le]
  rw [List.length_drop]
  omega
 rw [e2]
 rfl
def lN (g:CfgS):Nat:=g.lines.toNat
def mem0 (g:CfgS):List Int:=(List.range (lN g)).flatMap fun k:Nat=>w0 g (k:Int)
theorem flat_len {f:Nat→List Int} {W:Nat} (h:∀ k,(f k).length=W):∀ n,((List.range n).flatMap f).length=n*W
 |0=>by simp
 |n+1=>by
  rw [List.range_succ,List.flatMap_append,List.length_append,flat_len h n,Nat.succ_mul]
  simp [h]
theorem flat_at {f:Nat→List Int} {W:Nat} (h:∀ k,(f k).length=W) {k:Nat}:∀ {n:Nat},k<n→(((List.range n).flatMap f).drop (k*W)).take W=f k
 |0,hk=>by omega
 |n+1,hk=>by
  rw [List.range_succ,List.flatMap_append]
  have hl:=flat_len h n
  by_cases e:k=n
  · subst e
    rw [List.drop_append_of_le_length (by omega),List.drop_of_length_le (by omega),List.nil_append,show List.flatMap f [k]=f k by simp,List.take_of_length_le (by rw [h]; omega)]
  · have hkn:k<n:=by omega
    have hle:(k+1)*W≤n*W:=Nat.mul_le_mul_right _ (by omega)
    rw [Nat.succ_mul] at hle
    rw [List.drop_append_of_le_length (by omega),List.take_append_of_le_length (by rw [List.length_drop]; omega)]
    exact flat_at h hkn
theorem lw_mem0 (hg:GOk g) (h0:0≤L) (h1:L<g.lines):lw g (mem0 g) L=w0 g L:=by
 unfold lw mem0
 have hw:=hg.w0
 have e:(L*g.words).toNat=L.toNat*g.words.toNat:=by
  have:(((L.toNat*g.words.toNat:Nat)):Int)=L*g.words:=by
   rw [Int.natCast_mul,Int.toNat_of_nonneg h0,Int.toNat_of_nonneg (by omega)]
  omega
 rw [e,flat_at (fun k=>w0_len (L:=(k:Int)) hg) (n:=lN g) (k:=L.toNat) (by unfold lN; omega)]
 congr 1
 omega
theorem mem0_len (hg:GOk g):(((mem0 g).length:Nat):Int)=g.lines*g.words:=by
 unfold mem0
 rw [flat_len (fun k=>w0_len (L:=(k:Int)) hg),Int.natCast_mul]
 unfold lN
 have:=hg.w0
 have:=hg.l0
 rw [Int.toNat_of_nonneg (by omega),Int.toNat_of_nonneg (by omega)]
theorem mem0_rng (hg:GOk g) (hi:∀ x∈g.init,in64 x):∀ x∈mem0 g,in64 x:=by
 intro x hx
 obtain ⟨k,-,hk⟩:=List.mem_flatMap.1 hx
 exact (w0_ok hg hi).rng x hk
theorem rows_l1 (hg:GOk g) (node:Int):∀ (m i:Nat) (r:List (Int×RowS)),i≤lN g→lN g<m+i→(∀ L,mget r L=if 0≤L∧L<(i:Int)∧L.tmod g.nodes=node then some ⟨0,-1,w0 g L⟩ else none) →
 ∃ r',mnewS_l1 g node (mnewS_j0 g) m (i:Int) r=some ⟨g,r'⟩∧∀ L,mget r' L=if 0≤L∧L<g.lines∧L.tmod g.nodes=node then some ⟨0,-1,w0 g L⟩ else none
 |0,i,r,h1,h2,h3=>by omega
 |m+1,i,r,h1,h2,h3=>by
  have hl0:=hg.l0
  have hl1:=hg.l1
  have hlN:((lN g:Nat):Int)=g.lines:=by unfold lN; omega
  rw [mnewS_l1]
  by_cases hi:i<lN g
  · rw [decide_eq_true (by omega),cond_true]
    have hph:phomeS g (i:Int)=some ((i:Int).tmod g.nodes):=by
     unfold phomeS prestS
     rw [decide_eq_false (by omega),cond_false,chk_true hg.n0]
     rfl
    rw [hph,Option.bind_some]
    by_cases hh:(i:Int).tmod g.nodes=node
    · rw [decide_eq_true hh,cond_true,pwords_eq hg (by omega) (by omega),Option.bind_some]
      dsimp only [letP]
      unfold mnewS_j2
      rw [chk_true (by unfold inR; omega)]
      have ih:=rows_l1 hg node m (i+1) (mset r (i:Int) ⟨0,-1,w0 g (i:Int)⟩) (by omega) (by omega) fun L=>by
       rw [mget_mset,h3]
       by_cases e:L=(i:Int)
       · subst e
         rw [if_pos rfl,if_pos ⟨by omega,by omega,hh⟩]
       · rw [if_neg e]
         by_cases hc:0≤L∧L<(i:Int)∧L.tmod g.nodes=node
         · rw [if_pos hc,if_pos ⟨hc.1,by omega,hc.2.2⟩]
         · rw [if_neg hc,if_neg (fun z=>hc ⟨z.1,by omega,z.2.2⟩)]
      rw [show (((i+1:Nat)):Int)=(i:Int)+1 by omega] at ih
      exact ih
    · rw [decide_eq_false hh,cond_false]
      unfold mnewS_j2
      rw [chk_true (by unfold inR; omega)]
      have ih:=rows_l1 hg node m (i+1) r (by omega) (by omega) fun L=>by
       rw [h3]
       by_cases hc:0≤L∧L<(i:Int)∧L.tmod g.nodes=node
       · rw [if_pos hc,if_pos ⟨hc.1,by omega,hc.2.2⟩]
       · rw [if_neg hc,if_neg]
         intro z
         by_cases e:L=(i:Int)
         · subst e; exact hh z.2.2
         · exact hc ⟨z.1,by omega,z.2.2⟩
      rw [show (((i+1:Nat)):Int)=(i:Int)+1 by omega] at ih
      exact ih
  · rw [decide_eq_false (by omega),cond_false]
    refine ⟨r,rfl,fun L=>?_⟩
    rw [h3]
    have:i=lN g:=by omega
    subst this
    rw [hlN]
theorem rows_ok (hg:GOk g) (node:Int):∃ r',mnewS g node=some ⟨g,r'⟩∧∀ L,mget r' L=if 0≤L∧L<g.lines∧L.tmod g.nodes=node then some ⟨0,-1,w0 g L⟩ else none:=by
 have:=rows_l1 hg node (g.lines.toNat+1) 0 [] (by omega) (by unfold lN; omega) fun L=>by
  rw [if_neg (by omega)]
  rfl
 exact this
noncomputable def rows0 (g:CfgS) (hg:GOk g) (k:Nat):List (Int×RowS):=Classical.choose (rows_ok hg (k:Int))
theorem rows0_ok (hg:GOk g) (k:Nat):mnewS g (k:Int)=some ⟨g,rows0 g hg k⟩∧∀ L,mget (rows0 g hg k) L=if 0≤L∧L<g.lines∧L.tmod g.nodes=(k:Int) then some ⟨0,-1,w0 g L⟩ else none:=Classical.choose_spec (rows_ok hg (k:Int))
noncomputable def node0' (g:CfgS) (hg:GOk g) (ops:List OpS) (k:Nat):NodeS:=⟨⟨[],g.sets,g.ways,0⟩,⟨ops,[],false⟩,g,(k:Int),⟨⟨g,rows0 g hg k⟩,⟨[],[]⟩,g,(k:Int)⟩,⟨0,0,0,0,0,0,[],0,0⟩,0⟩
noncomputable def st0 (g:CfgS) (hg:GOk g) (ps:List (List OpS)):St:=⟨fun k=>node0' g hg (opsL ps k) k,fun _=>.idle,fun _=>false,fun _=>pktZ,fun _=>[],fun _=>[],[]⟩
theorem nnew_eq (hg:GOk g) {ops:List OpS} (ho:ops.length≤24) (k:Nat):nnewS g (k:Int) ops=some (node0' g hg ops k):=by
 unfold nnewS cnewS prnewS cloneOS hnewS tnewS
 dsimp only [letP]
 have h1:=hg.s0
 have h2:=hg.y0
 have e1:(if 1<g.sets then g.sets else 1)=g.sets:=by split <;> omega
 have e2:(if 1<g.ways then g.ways else 1)=g.ways:=by split <;> omega
 rw [e1,e2,Option.bind_some,chk_true (by omega),Option.bind_some,Option.bind_some,(rows0_ok hg k).1]
 rfl
theorem fnew_l1 (hg:GOk g):∀ (m i:Nat),i≤nn g→nn g<m+i→fnewS_l1 g fnewS_j0 m (i:Int) ⟨csOf i (fun _=>⟨⟨[],g.out⟩,⟨[],g.inn⟩⟩) (fun _=>⟨⟨[],g.out⟩,⟨[],1⟩⟩)⟩=some ⟨csOf (nn g) (fun _=>⟨⟨[],g.out⟩,⟨[],g.inn⟩⟩) (fun _=>⟨⟨[],g.out⟩,⟨[],1⟩⟩)⟩
 |0,i,h1,h2=>by omega
 |m+1,i,h1,h2=>by
  have hn:=nnI hg
  have hn6:=hg.n1
  rw [fnewS_l1]
  by_cases hi:i<nn g
  · have ih:=fnew_l1 hg m (i+1) (by omega) (by omega)
    unfold ponewS qunewS
    dsimp only [letP]
    have ho:=hg.o0
    have hin:=hg.i0
    have e1:(if 0<g.out then g.out else 0)=g.out:=by split <;> omega
    have e2:(if 0<g.inn then g.inn else 0)=g.inn:=by split <;> omega
    rw [decide_eq_true (by omega),cond_true,e1,e2,Option.bind_some,Option.bind_some,Option.bind_some,Option.bind_some,chk_true (by rw [csOf_len]; omega),chk_true (by unfold inR; omega)]
    rw [show (((i+1:Nat)):Int)=(i:Int)+1 by omega,csOf_succ] at ih
    rw [List.append_assoc]
    exact ih
  · have:i=nn g:=by omega
    subst this
    rw [decide_eq_false (by omega),cond_false]
    rfl
theorem mnew_l1 (hg:GOk g) {ps:List (List OpS)} (hp:PsOk g ps) (F:FabS) (T:TraceS):∀ (m i:Nat),i≤nn g→nn g<m+i→mnewmS_l1 ps g g.init mnewmS_j0 m (i:Int) ⟨F,T,g,(List.range i).map (st0 g hg ps).nd⟩=some (some ⟨F,T,g,(List.range (nn g)).map (st0 g hg ps).nd⟩,0)
 |0,i,h1,h2=>by omega
 |m+1,i,h1,h2=>by
  have hn:=nnI hg
  have hn6:=hg.n1
  have hl:=hp.len
  rw [mnewmS_l1]
  by_cases hi:i<nn g
  · have ih:=mnew_l1 hg hp F T m (i+1) (by omega) (by omega)
    obtain ⟨e1,e2⟩:=opsL_at (ps:=ps) (k:=i) (by omega)
    rw [decide_eq_true (by omega),cond_true,chk_true (by omega)]
    dsimp only [letP]
    rw [nthT_at e1]
    show (nnewS g (i:Int) (opsL ps i)).bind _=_
    rw [nnew_eq hg (hp.sh _ e2),Option.bind_some,chk_true (by simp; omega),chk_true (by unfold inR; omega)]
    rw [show (((i+1:Nat)):Int)=(i:Int)+1 by omega,List.range_succ,List.map_append] at ih
    exact ih
  · have:i=nn g:=by omega
    subst this
    rw [decide_eq_false (by omega),cond_false]
    rfl
theorem new_eq (hg:GOk g) {ps:List (List OpS)} (hp:PsOk g ps):mnewmS g ps=some (some (conc g (st0 g hg ps)),0):=by
 have h:=hg.ini
 have h1:=hg.l1
 have h2:=hg.w1
 have h3:=hg.w0
 have hm:g.lines*g.words≤8*g.words:=Int.mul_le_mul_of_nonneg_right h1 (by omega)
 unfold mnewmS
 rw [check_ok hg,Option.bind_some,decide_eq_true rfl,Bool.not_true,cond_false,pops_ok hg hp,Option.bind_some,decide_eq_true rfl,Bool.not_true,cond_false]
 unfold cloneS
 rw [chk_true (by omega),Option.bind_some]
 have e1:fnewS g=some ⟨csOf (nn g) (fun _=>⟨⟨[],g.out⟩,⟨[],g.inn⟩⟩) (fun _=>⟨⟨[],g.out⟩,⟨[],1⟩⟩)⟩:=fnew_l1 hg (g.nodes.toNat+1) 0 (by omega) (by unfold nn; omega)
 show (fnewS g).bind _=_
 rw [e1,Option.bind_some]
 unfold trnewS
 rw [Option.bind_some]
 have e2:=mnew_l1 hg hp ⟨csOf (nn g) (fun _=>⟨⟨[],g.out⟩,⟨[],g.inn⟩⟩) (fun _=>⟨⟨[],g.out⟩,⟨[],1⟩⟩)⟩ ⟨[]⟩ (ps.length+1) 0 (by omega) (by have:=hp.len; omega)
 refine Eq.trans e2 ?_
 have:csOf (nn g) (fun _=>⟨⟨[],g.out⟩,⟨[],g.inn⟩⟩) (fun _=>⟨⟨[],g.out⟩,⟨[],1⟩⟩)=fab g (st0 g hg ps):=by
  unfold fab
  refine csOf_con fun k hk=>⟨?_,?_⟩
  · unfold RC st0; simp
  · unfold AC st0; simp
 unfold conc
 rw [this]
 rfl
theorem inv0 (hg:GOk g) {ps:List (List OpS)} (hp:PsOk g ps) (hi:∀ x∈g.init,in64 x):Inv g (opsL ps) (mem0 g) (mem0 g) (st0 g hg ps):=by
 have hz:∀ k,((st0 g hg ps).dl k).step=0:=fun _=>rfl
 have hnh:∀ k t,¬ Held ((st0 g hg ps).dl k) t:=fun k t h=>h.1 rfl
 have hcw:∀ L k,cw g (st0 g hg ps) L k=none:=fun L k=>by
  unfold cw
  split <;> rfl
 have hi0:=hg.i0
 have ho0:=hg.o0
 refine ⟨⟨fun k hk=>⟨fun _=>rfl,fun _=>rfl⟩,fun k hk h=>(by cases h),fun h hh=>List.nodup_nil,fun h hh k=>⟨fun z=>(by cases z),fun z=>(by cases z.2.1)⟩,fun h hh=>(by show (((([]:List Nat).length:Nat)):Int)≤g.inn; simp; omega),fun h hh=>List.nodup_nil,fun h hh k=>⟨fun z=>(by cases z),fun z=>(by cases z.2.1)⟩,fun h hh=>(by show (((([]:List Nat).length:Nat)):Int)≤g.out; simp; omega),fun k hk h=>(by cases h)⟩,⟨fun L o l0 l1 h=>(by cases h),fun k hk h=>absurd h (hnh k _),fun L l0 l1=>⟨[],rfl,List.nodup_nil,fun k=>⟨fun z=>(by cases z),fun z=>(by cases z.2.1)⟩⟩⟩,fun k hk=>?_,fun k hk h=>absurd (hz k) h,fun L l0 l1=>?_,mem0_len hg,mem0_rng hg hi,⟨fun _=>0,rfl,fun k hk=>⟨rfl,rfl⟩⟩⟩
 · refine ⟨rfl,rfl,rfl,rfl,rfl,⟨rfl,rfl,List.nodup_nil,fun e he=>(by cases he),fun e he=>(by cases he),fun L=>(by have:=hg.y0; show ((([]:List Ent).length:Nat):Int)≤g.ways; simp; omega)⟩,⟨List.nodup_nil,List.nodup_nil,fun L h=>(by cases h)⟩,rfl,Nat.zero_le _,fun h=>(by cases h),by show (0:Int)≤0∧(0:Int)<4096; omega,fun L h=>absurd rfl h⟩
 · obtain ⟨m1,m2⟩:=hm_lt hg l0
   have hrow:row g (st0 g hg ps) L=some ⟨0,-1,w0 g L⟩:=by
    show mget (rows0 g hg (hm g L)) L=_
    rw [(rows0_ok hg (hm g L)).2 L,if_pos ⟨l0,l1,m2⟩]
   refine ⟨_,hrow,w0_ok hg hi,?_⟩
   show ∃ xs,Norm (cw g (st0 g hg ps) L) ⟨0,-1,w0 g L⟩ (lw g (mem0 g) L) xs
   exact ⟨[],List.nodup_nil,fun k=>by rw [hcw]; simp,fun k p h=>(by rw [hcw] at h; cases h),trivial,trivial,rfl,.inl ⟨rfl,rfl,(lw_mem0 hg l0 l1).symm⟩⟩
def opsN (ps:List (List OpS)):Nat:=(ps.map List.length).sum
theorem sum_ge {l:List (List OpS)} {b:Nat}:(∀ x∈l,x.length≤b)→opsN l≤l.length*b:=by
 induction l with
 |nil=>intro _; simp [opsN]
 |cons x r ih =>
  intro h
  have a:=h x (by simp)
  have c:=ih fun y hy=>h y (by simp [hy])
  simp [opsN] at c ⊢
  rw [Nat.add_mul]
  omega
theorem bound_l1 (hg:GOk g) (ps:List (List OpS)) (hs:ps.length≤6) (hl:∀ l∈ps,l.length≤24):∀ (rest pre:List (List OpS)) (m v:Nat),ps=pre++rest→rest.length<m→v≤24*pre.length →
 rboundS_l1 ps (rboundS_j0 g) m (v:Int) (pre.length:Int)=some (((40*(v+opsN rest+1)*(nn g+6):Nat)):Int)
 |_,_,0,_,_,h,_=>by omega
 |[],pre,m+1,v,h,_,hv=>by
  have:ps.length=pre.length:=by rw [h]; simp
  have hn:=nnI hg
  have hn6:=hg.n1
  have hm:40*(v+1)*(nn g+6)≤40*145*12:=Nat.mul_le_mul (by omega) (by omega)
  rw [rboundS_l1,this,decide_eq_false (by omega),cond_false]
  unfold rboundS_j0
  dsimp only [letP]
  rw [chk_true (by unfold inR; omega),chk_true (by unfold inR; omega),wr_in (x:=g.nodes+6) (by omega) (by omega)]
  have e:(40*((v:Int)+1))*(g.nodes+6)=(((40*(v+1)*(nn g+6):Nat)):Int):=by
   rw [Int.natCast_mul,Int.natCast_mul]
   congr 1
   omega
  rw [e,wr_in (by omega) (by omega)]
  simp [opsN]
 |x::r,pre,m+1,v,h,hm,hv=>by
  have hlen:ps.length=pre.length+(r.length+1):=by rw [h]; simp
  have hg':ps[pre.length]?=some x:=by rw [h]; simp
  have hx:=hl x (by rw [h]; simp)
  rw [rboundS_l1,decide_eq_true (by omega),cond_true,chk_true (by omega)]
  dsimp only [letP]
  rw [nthT_at hg',wr_in (by omega) (by omega),chk_true (by unfold inR; omega)]
  have ih:=bound_l1 hg ps hs hl r (pre++[x]) m (v+x.length) (by rw [h]; simp) (by simp at hm; omega) (by simp; omega)
  rw [show (((pre++[x]).length:Nat):Int)=(pre.length:Int)+1 by simp,show (((v+x.length:Nat)):Int)=(v:Int)+(x.length:Int) by omega] at ih
  rw [ih]
  simp only [opsN,List.map_cons,List.sum_cons]
  rw [Nat.add_assoc v]
theorem bound_eq (hg:GOk g) {ps:List (List OpS)} (hp:PsOk g ps):rboundS g ps=some (((40*(opsN ps+1)*(nn g+6):Nat)):Int):=by
 have:=bound_l1 hg ps (by have:=hp.len; have:=(nn6 hg).1; omega) hp.sh ps [] (ps.length+1) 0 rfl (by omega) (by omega)
 rw [Nat.zero_add] at this
 exact this
theorem sum_ops:∀ (ps:List (List OpS)) (c:Nat),((List.range ps.length).map fun k=>(opsL ps k).length*c).sum=opsN ps*c
 |[],c=>by simp [opsN]
 |x::r,c=>by
  have ih:=sum_ops r c
  rw [List.length_cons,List.range_succ_eq_map,List.map_cons,List.sum_cons,List.map_map]
  have e:(List.range r.length).map ((fun k=>(opsL (x::r) k).length*c) ∘ Nat.succ)=(List.range r.length).map fun k=>(opsL r k).length*c:=List.map_congr_left fun k _=>rfl
  rw [e,ih]
  show x.length*c+_=(x.length+opsN r)*c
  rw [Nat.add_mul]
theorem mu0 (hg:GOk g) {ps:List (List OpS)} (hp:PsOk g ps):mu g (st0 g hg ps)≤opsN ps*(5*nn g+43):=by
 rw [← sum_ops,hp.len]
 unfold mu
 have h:∀ k,k<nn g→cost g (st0 g hg ps) k≤(opsL ps k).length*(5*nn g+43):=fun k hk=>by
  unfold cost
  show costF (nn g) (opsL ps k) 0 ((st0 g hg ps).dl k) _ _ _ _≤_
  unfold costF
  rw [if_pos (show ((st0 g hg ps).dl k).step=0 from rfl)]
  by_cases z:(opsL ps k).length - 0=0
  · rw [if_pos z]; omega
  · rw [if_neg z]
    have e:(opsL ps k).length*(5*nn g+43)=((opsL ps k).length - 0 - 1)*(5*nn g+43)+(5*nn g+43):=by
     rw [← Nat.succ_mul]
     congr 1
     omega
    rw [e]
    split <;> omega
 have h2:∀ n,n≤nn g→((List.range n).map (cost g (st0 g hg ps))).sum≤((List.range n).map fun k=>(opsL ps k).length*(5*nn g+43)).sum:=by
  intro n
  induction n with
  |zero=>intro _; simp
  |succ n ih =>
   intro hn
   have a:=ih (by omega)
   have b:=h n (by omega)
   rw [List.range_succ,List.map_append,List.map_append,List.sum_append,List.sum_append]
   simp only [List.map_cons,List.map_nil,List.sum_cons,List.sum_nil]
   omega
 exact h2 _ (Nat.le_refl _)
theorem end_ok (hg:GOk g) {ps:List (List OpS)} (hp:PsOk g ps) {J:St→Prop} {s:St} {mem:List Int} (K:Keep g (opsL ps) (mem0 g) J) {firsts:List Int} (hf:∀ x∈firsts,in64 x) (I:Inv g (opsL ps) (mem0 g) mem s) (hJ:J s) (hmu:mu g s≤opsN ps*(5*nn g+43)) :
 ∃ s' mem',tendS (conc g s) ps firsts=some (true,conc g s')∧Inv g (opsL ps) (mem0 g) mem' s'∧J s'∧(∃ e,s'.tr=s.tr++e)∧quietB g s'=true∧leftN g s'=0:=by
 have hn6:=(nn6 hg).1
 have hT:opsN ps≤144:=by
  have:=sum_ge hp.sh
  have e:=hp.len
  have h2:ps.length*24≤6*24:=Nat.mul_le_mul_right _ (by omega)
  omega
 have hlt:opsN ps*(5*nn g+43)<40*(opsN ps+1)*(nn g+6):=by
  have a:opsN ps*(5*nn g+43)≤(opsN ps+1)*(5*nn g+43):=Nat.mul_le_mul_right _ (by omega)
  have b:(opsN ps+1)*(5*nn g+43)<(opsN ps+1)*(40*(nn g+6)):=Nat.mul_lt_mul_of_pos_left (by omega) (by omega)
  have c:40*(opsN ps+1)*(nn g+6)=(opsN ps+1)*(40*(nn g+6)):=by rw [Nat.mul_comm 40,Nat.mul_assoc]
  omega
 have hmo:40*(opsN ps+1)*(nn g+6)≤1000000:=by
  have:40*(opsN ps+1)*(nn g+6)≤40*145*12:=Nat.mul_le_mul (by omega) (by omega)
  omega
 obtain ⟨r,s',mem',e1,e2,e3,e4,e5,e6,e7⟩:=fin_ok hg hp.pok K hf hmo I hJ (by omega)
 refine ⟨s',mem',?_,e3,e4,e5,e6,e7⟩
 unfold tendS
 rw [conf_eq hg,Option.bind_some,bound_eq hg hp,Option.bind_some,e1,Option.bind_some]
 simp only
 rw [decide_eq_true e2,cond_true,left_eq hg hp.pok e3,Option.bind_some,e7,decide_eq_true (by omega),cond_true,quiet_eq hg e3,e6]
 rfl
end
end
section
open Go
section
variable {g:CfgS} {ps:List (List OpS)} {n:Nat} {ops:Nat→List OpS}
theorem evOk_some {y z:(Nat→Nat)×List Int} {e:EventS} (h:evOk n ops y e=some z):∃ k o,k<n∧e.node=(k:Int)∧e.index=((y.1 k / 2:Nat):Int)∧e.done_=decide (y.1 k % 2=1)∧(e.done_=false→e.value=0)∧(ops k)[y.1 k / 2]?=some o ∧
 (e.done_=true∧e.value=opVal y.2 o∧z=(upd y.1 k (y.1 k+1),opMem y.2 o)∨e.done_=false∧z=(upd y.1 k (y.1 k+1),y.2)):=by
 unfold evOk at h
 split at h
 · rename_i hc
   obtain ⟨c1,c2,c3,c4,c5⟩:=hc
   have e0:e.node=(e.node.toNat:Int):=by omega
   cases ho:(ops e.node.toNat)[y.1 e.node.toNat / 2]? with
   |none=>rw [ho] at h; cases h
   |some o =>
    rw [ho] at h
    simp only at h
    refine ⟨e.node.toNat,o,by omega,e0,c3,c4,c5,ho,?_⟩
    cases hd:e.done_ with
    |true =>
     rw [hd] at h
     simp only [if_true] at h
     split at h
     · rename_i hv
       exact .inl ⟨rfl,hv,(Option.some.inj h).symm⟩
     · cases h
    |false =>
     rw [hd] at h
     right
     exact ⟨rfl,(Option.some.inj h).symm⟩
 · cases h
theorem replay_cons {y z:(Nat→Nat)×List Int} {e:EventS} {r:List EventS} (h:replay n ops y (e::r)=some z):∃ u,evOk n ops y e=some u∧replay n ops u r=some z:=Option.bind_eq_some_iff.1 (show (evOk n ops y e).bind (fun z=>replay n ops z r)=some z from h)
theorem right_l1 (l:List EventS) (hl:l.length≤1000000) (hn:n≤6):∀ (rest pre:List EventS) (m:Nat) (y z:(Nat→Nat)×List Int) (mp:List (Int×Int)),l=pre++rest→rest.length<m→(∀ k,k<n→mgo mp (k:Int)=((y.1 k:Nat):Int)∧y.1 k≤pre.length)→replay n ops y rest=some z →
 trrightS_l1 l (n:Int) trrightS_j0 m (pre.length:Int) mp=some true
 |_,_,0,_,_,_,_,h,_,_=>by omega
 |[],pre,m+1,y,z,mp,h,_,_,_=>by
  have:l.length=pre.length:=by rw [h]; simp
  rw [trrightS_l1,this,decide_eq_false (by omega),cond_false]
  rfl
 |e::r,pre,m+1,y,z,mp,h,hm,hmp,hr=>by
  have hlen:l.length=pre.length+(r.length+1):=by rw [h]; simp
  have hg':l[pre.length]?=some e:=by rw [h]; simp
  obtain ⟨u,h1,h2⟩:=replay_cons hr
  obtain ⟨k,o,k1,k2,k3,k4,k5,k6,k7⟩:=evOk_some h1
  obtain ⟨m1,m2⟩:=hmp k k1
  have hu:u.1=upd y.1 k (y.1 k+1):=by
   rcases k7 with ⟨-,-,z⟩ | ⟨-,z⟩ <;> rw [z]
  rw [trrightS_l1,decide_eq_true (by omega),cond_true,chk_true (by omega)]
  dsimp only [letP]
  rw [nthT_at hg',k2,decide_eq_false (by omega),cond_false,decide_eq_false (by omega),cond_false,m1]
  have e1:(((y.1 k:Nat)):Int).tdiv 2=((y.1 k / 2:Nat):Int):=by
   rw [Int.tdiv_eq_ediv_of_nonneg (by omega)]
   omega
  have e2:(((y.1 k:Nat)):Int).tmod 2=((y.1 k % 2:Nat):Int):=by
   rw [Int.tmod_eq_emod_of_nonneg (by omega)]
   omega
  rw [e1,e2,wr_in (by omega) (by omega),decide_eq_true k3,Bool.not_true,cond_false]
  have e3:(e.done_ == decide ((((y.1 k % 2:Nat)):Int)=1))=true:=by
   rw [k4]
   by_cases hz:y.1 k % 2=1
   · rw [decide_eq_true hz,decide_eq_true (by omega)]; rfl
   · rw [decide_eq_false hz,decide_eq_false (by omega)]; rfl
  rw [e3,Bool.not_true,cond_false,wr_in (by omega) (by omega)]
  have ih:=right_l1 l hl hn r (pre++[e]) m u z (mset mp (k:Int) (((y.1 k:Nat):Int)+1)) (by rw [h]; simp) (by simp at hm; omega) (fun j hj=>by
   rw [hu]
   unfold mgo
   rw [mget_mset]
   by_cases ej:j=k
   · subst ej
     rw [if_pos rfl,upd_eq]
     simp
     omega
   · rw [if_neg (by omega),upd_ne ej]
     have:=hmp j hj
     unfold mgo at this
     simp
     exact ⟨this.1,by omega⟩) h2
  rw [show (((pre++[e]).length:Nat):Int)=(pre.length:Int)+1 by simp] at ih
  cases hd:e.done_ with
  |true =>
   rw [Bool.not_true,cond_false,chk_true (by unfold inR; omega)]
   exact ih
  |false =>
   rw [Bool.not_false,cond_true,decide_eq_true (k5 hd),Bool.not_true,cond_false,chk_true (by unfold inR; omega)]
   exact ih
theorem trright_ok {l:List EventS} (hl:l.length≤1000000) (hn:n≤6) {m0:List Int} {z:(Nat→Nat)×List Int} (h:replay n ops (fun _=>0,m0) l=some z):trrightS (n:Int) l=some true:=by
 unfold trrightS
 exact right_l1 l hl hn l [] (l.length+1) _ z [] rfl (by omega) (fun k _=>⟨rfl,Nat.le_refl _⟩) h
theorem ado_ok (hg:GOk g) {mem:List Int} (hm:(mem.length:Int)=g.lines*g.words) {o:OpS} (ho:OOk g o):adoS ⟨g,mem⟩ o=some (opVal mem o,0,⟨g,opMem mem o⟩):=by
 have hn:=nnI hg
 have hn0:=hg.n0
 have hn6:=hg.n1
 have a0:=ho.a0
 have a1:=ho.a1
 have k0:=ho.k0
 have k1:=ho.k1
 have hps:PsOk g (setR (List.replicate g.nodes.toNat ([]:List OpS)) 0 [o]):=by
  unfold setR
  refine ⟨by rw [List.length_set,List.length_replicate]; rfl,fun l hl=>?_,fun l hl q hq=>?_⟩
  · rcases List.mem_or_eq_of_mem_set hl with h | h
    · rw [List.eq_of_mem_replicate h]; simp
    · rw [h]; simp
  · rcases List.mem_or_eq_of_mem_set hl with h | h
    · rw [List.eq_of_mem_replicate h] at hq; cases hq
    · rw [h] at hq
      simp at hq
      rw [hq]; exact ho
 unfold adoS
 dsimp only [letP]
 rw [chk_true (by omega),chk_true (by rw [List.length_replicate]; omega),pops_ok hg hps,Option.bind_some,decide_eq_true rfl,Bool.not_true,cond_false,chk_true (by omega)]
 have hnth:nth mem o.addr=mem.getD o.addr.toNat 0:=rfl
 have hset:∀ v,setT mem o.addr v=mem.set o.addr.toNat v:=fun _=>rfl
 unfold opVal opMem adoS_j0
 have hk:o.kind=1∨o.kind=2∨o.kind=3∨o.kind=4:=by omega
 rcases hk with z | z | z | z
 · rw [decide_eq_true z,cond_true,if_pos (.inl z),if_neg (by omega),if_neg (by omega),hnth]
 · rw [decide_eq_false (by omega),cond_false,decide_eq_true z,cond_true,chk_true (by omega),if_neg (by omega),if_pos z,hset]
 · rw [decide_eq_false (by omega),cond_false,decide_eq_false (by omega),cond_false,decide_eq_true z,cond_true,chk_true (by omega),if_pos (.inr z),if_neg (by omega),if_pos z,hnth,hset]
 · rw [decide_eq_false (by omega),cond_false,decide_eq_false (by omega),cond_false,decide_eq_false (by omega),cond_false,if_neg (by omega),if_neg (by omega),if_neg (by omega)]
theorem fold_l2 (hg:GOk g) (hp:PsOk g ps) (l:List EventS) (hl:l.length≤1000000):∀ (rest pre:List EventS) (m:Nat) (y z:(Nat→Nat)×List Int),l=pre++rest→rest.length<m→(y.2.length:Int)=g.lines*g.words→replay (nn g) (opsL ps) y rest=some z →
 afoldS_l2 l ps afoldS_j1 m (pre.length:Int) ⟨g,y.2⟩=some (some ⟨g,z.2⟩,true)
 |_,_,0,_,_,_,h,_,_=>by omega
 |[],pre,m+1,y,z,h,_,_,hr=>by
  have:l.length=pre.length:=by rw [h]; simp
  obtain rfl:=Option.some.inj (show some y=some z from hr)
  rw [afoldS_l2,this,decide_eq_false (by omega),cond_false]
  rfl
 |e::r,pre,m+1,y,z,h,hm,hy,hr=>by
  have hlen:l.length=pre.length+(r.length+1):=by rw [h]; simp
  have hg':l[pre.length]?=some e:=by rw [h]; simp
  obtain ⟨u,h1,h2⟩:=replay_cons hr
  obtain ⟨k,o,k1,k2,k3,k4,k5,k6,k7⟩:=evOk_some h1
  have hpl:=hp.len
  obtain ⟨o1,o2⟩:=opsL_at (ps:=ps) (k:=k) (by omega)
  have hsh:=hp.sh _ o2
  have hlt:=(List.getElem?_eq_some_iff.1 k6).1
  have hO:=hp.ok _ o2 o (List.mem_of_getElem? k6)
  rw [afoldS_l2,decide_eq_true (by omega),cond_true,chk_true (by omega)]
  dsimp only [letP]
  rw [nthT_at hg',k2,chk_true (by omega),nthT_at o1,k3,decide_eq_false (by omega),cond_false]
  rcases k7 with ⟨d1,d2,d3⟩ | ⟨d1,d2⟩
  · rw [d1,Bool.not_true,cond_false,chk_true (by omega),chk_true (by omega),nthT_at k6,ado_ok hg hy hO,Option.bind_some]
    simp only [decide_true,Bool.not_true,cond_false]
    rw [decide_eq_true d2.symm,Bool.not_true,cond_false,chk_true (by unfold inR; omega)]
    subst d3
    have ih:=fold_l2 hg hp l hl r (pre++[e]) m _ z (by rw [h]; simp) (by simp at hm; omega) (by rw [opMem_len]; exact hy) h2
    rw [show (((pre++[e]).length:Nat):Int)=(pre.length:Int)+1 by simp] at ih
    exact ih
  · rw [d1,Bool.not_false,cond_true,chk_true (by unfold inR; omega)]
    subst d2
    have ih:=fold_l2 hg hp l hl r (pre++[e]) m (upd y.1 k (y.1 k+1),y.2) z (by rw [h]; simp) (by simp at hm; omega) hy h2
    rw [show (((pre++[e]).length:Nat):Int)=(pre.length:Int)+1 by simp] at ih
    exact ih
theorem anew_l1 (hg:GOk g):∀ (m i:Nat),i≤lN g→lN g<m+i→anewS_l1 g (anewS_j0 g) m (i:Int) ((List.range i).flatMap fun k:Nat=>w0 g (k:Int))=some ⟨g,mem0 g⟩
 |0,i,h1,h2=>by omega
 |m+1,i,h1,h2=>by
  have hl0:=hg.l0
  have hl1:=hg.l1
  have hw1:=hg.w1
  have hlN:((lN g:Nat):Int)=g.lines:=by unfold lN; omega
  rw [anewS_l1]
  by_cases hi:i<lN g
  · rw [decide_eq_true (by omega),cond_true,pwords_eq hg (by omega) (by omega),Option.bind_some]
    have hfl:=flat_len (fun k=>w0_len (L:=(k:Int)) hg) i
    have hwl:=w0_len (L:=(i:Int)) hg
    have hb:i*g.words.toNat≤8*4:=Nat.mul_le_mul (by omega) (by omega)
    rw [chk_true (by rw [List.length_append,hfl,hwl]; omega)]
    dsimp only [letP]
    rw [chk_true (by unfold inR; omega)]
    have ih:=anew_l1 hg m (i+1) (by omega) (by omega)
    rw [show (((i+1:Nat)):Int)=(i:Int)+1 by omega,List.range_succ,List.flatMap_append,show List.flatMap (fun k:Nat=>w0 g (k:Int)) [i]=w0 g (i:Int) by simp] at ih
    exact ih
  · have:i=lN g:=by omega
    subst this
    rw [decide_eq_false (by omega),cond_false]
    rfl
theorem anew_eq (hg:GOk g):anewS g=some ⟨g,mem0 g⟩:=anew_l1 hg (g.lines.toNat+1) 0 (by omega) (by unfold lN; omega)
theorem fold_ok (hg:GOk g) (hp:PsOk g ps) {l:List EventS} (hl:l.length≤1000000) {z:(Nat→Nat)×List Int} (h:replay (nn g) (opsL ps) (fun _=>0,mem0 g) l=some z):afoldS g ps l=some (some ⟨g,z.2⟩,true):=by
 have hn:=nnI hg
 have hr:=trright_ok hl (nn6 hg).1 h
 rw [hn] at hr
 unfold afoldS afoldS_j0
 rw [pops_ok hg hp,Option.bind_some,decide_eq_true rfl,Bool.not_true,cond_false,hr,Option.bind_some,Bool.not_true,cond_false,anew_eq hg,Option.bind_some]
 exact fold_l2 hg hp l hl l [] (l.length+1) (fun _=>0,mem0 g) z rfl (by omega) (mem0_len hg) h
theorem legal_ok (hg:GOk g) (hp:PsOk g ps) {l:List EventS} (hl:l.length≤1000000) {z:(Nat→Nat)×List Int} (h:replay (nn g) (opsL ps) (fun _=>0,mem0 g) l=some z):alegS g ps l=some true:=by
 unfold alegS
 rw [fold_ok hg hp hl h]
 rfl
theorem after_ok (hg:GOk g) (hp:PsOk g ps) {l:List EventS} (hl:l.length≤1000000) {z:(Nat→Nat)×List Int} (h:replay (nn g) (opsL ps) (fun _=>0,mem0 g) l=some z) (hz:z.2.length≤1000000):aaftS g ps l=some z.2:=by
 unfold aaftS
 rw [fold_ok hg hp hl h,Option.bind_some]
 simp only [Bool.not_true,cond_false,optM]
 unfold awordsS cloneS
 rw [chk_true (by show z.2.length≤_; omega)]
 rfl
end
end
section
open Go
def seqM (mem:List Int) (l:List OpS):List Int:=l.foldl opMem mem
def seqV:List Int→List OpS→List Int
 |_,[]=>[]
 |m,o::r=>opVal m o::seqV (opMem m o) r
theorem seqV_app:∀ (a:List OpS) (m:List Int) (b:List OpS),seqV m (a++b)=seqV m a++seqV (seqM m a) b
 |[],_,_=>rfl
 |o::r,m,b=>by
  show _::seqV _ (r++b)=_
  rw [seqV_app r]
  rfl
section
variable {n k:Nat} {ops:Nat→List OpS} {R:Int→Prop}
theorem getD_setL {l:List Int} {i j:Nat} {v:Int}:(l.set i v).getD j 0=if i=j∧i<l.length then v else l.getD j 0:=by
 rw [List.getD_eq_getElem?_getD,List.getElem?_set,List.getD_eq_getElem?_getD]
 by_cases h:i=j
 · subst h
   by_cases h2:i<l.length
   · rw [if_pos rfl,if_pos h2,if_pos ⟨rfl,h2⟩]; rfl
   · rw [if_pos rfl,if_neg h2,if_neg (fun z=>h2 z.2),List.getElem?_eq_none (by omega)]
 · rw [if_neg h,if_neg (fun z=>h z.1)]
theorem len_op {m:List Int} {o:OpS}:(opMem m o).length=m.length:=by
 unfold opMem
 split
 · simp
 · split <;> simp
theorem op_alike {a b:List Int} {o:OpS} (hl:a.length=b.length) (ho:R o.addr) (h:∀ x,R x→a.getD x.toNat 0=b.getD x.toNat 0):opVal a o=opVal b o∧∀ x,R x→(opMem a o).getD x.toNat 0=(opMem b o).getD x.toNat 0:=by
 refine ⟨?_,fun x hx=>?_⟩
 · unfold opVal
   rw [h _ ho]
 · unfold opMem
   split
   · rw [getD_setL,getD_setL,hl,h x hx]
   · split
     · rw [getD_setL,getD_setL,hl,h x hx,h _ ho]
     · exact h x hx
theorem op_apart {a:List Int} {o:OpS} (ha:0≤o.addr) (hw:o.kind=2∨o.kind=3→¬ R o.addr) {x:Int} (hx:R x) (hx0:0≤x):(opMem a o).getD x.toNat 0=a.getD x.toNat 0:=by
 unfold opMem
 have hne:o.kind=2∨o.kind=3→¬ o.addr.toNat=x.toNat:=fun z e=>by
  have:o.addr=x:=by omega
  exact hw z (by rw [this]; exact hx)
 split
 · rename_i h
   rw [getD_setL,if_neg fun z=>hne (.inl h) z.1]
 · split
   · rename_i h
     rw [getD_setL,if_neg fun z=>hne (.inr h) z.1]
   · rfl
theorem told_alone (hR:∀ x,R x→0≤x) (hk:∀ o∈ops k,R o.addr) (hw:∀ j,j≠k→∀ o∈ops j,0≤o.addr∧(o.kind=2∨o.kind=3→¬ R o.addr)) {m0:List Int}:∀ (tr:List EventS) (z:(Nat→Nat)×List Int),replay n ops (fun _=>0,m0) tr.reverse=some z →
 told k tr.reverse=seqV m0 ((ops k).take (z.1 k / 2))∧z.2.length=m0.length∧(seqM m0 ((ops k).take (z.1 k / 2))).length=m0.length∧∀ x,R x→z.2.getD x.toNat 0=(seqM m0 ((ops k).take (z.1 k / 2))).getD x.toNat 0
 |[],z,h=>by
  have:z=(fun _=>0,m0):=(Option.some.inj h).symm
  subst this
  have e0:(ops k).take (0 / 2)=[]:=by simp
  show told k []=seqV m0 ((ops k).take (0 / 2))∧_=_∧(seqM m0 ((ops k).take (0 / 2))).length=_∧∀ x,R x→_=(seqM m0 ((ops k).take (0 / 2))).getD x.toNat 0
  rw [e0]
  exact ⟨rfl,rfl,rfl,fun _ _=>rfl⟩
 |e::tr,z,h=>by
  rw [List.reverse_cons,replay_app] at h
  obtain ⟨y,h1,h2⟩:=Option.bind_eq_some_iff.1 h
  obtain ⟨i1,i2,i3,i4⟩:=told_alone hR hk hw tr y h1
  have h2':evOk n ops y e=some z:=by
   obtain ⟨u,u1,u2⟩:=Option.bind_eq_some_iff.1 (show (evOk n ops y e).bind (fun z=>some z)=some z from h2)
   rw [u1]
   exact u2
  obtain ⟨j,o,j1,j2,j3,j4,j5,j6,j7⟩:=evOk_some h2'
  have hmem:=List.mem_of_getElem? j6
  rw [List.reverse_cons,told_app,i1]
  by_cases ej:j=k
  · subst ej
    rcases j7 with ⟨d1,d2,d3⟩ | ⟨d1,d3⟩
    · rw [d1] at j4
      have hodd:y.1 j % 2=1:=by simpa using j4.symm
      have hz1:z.1 j / 2=y.1 j / 2+1:=by rw [d3]; show upd y.1 j (y.1 j+1) j / 2=_; rw [upd_eq]; omega
      obtain ⟨b1,b2⟩:=op_alike (R:=R) (o:=o) (i2.trans i3.symm) (hk o hmem) i4
      have htk:(ops j).take (y.1 j / 2+1)=(ops j).take (y.1 j / 2)++[o]:=by
       obtain ⟨q1,q2⟩:=List.getElem?_eq_some_iff.1 j6
       rw [List.take_succ_eq_append_getElem q1,q2]
      have hsM:seqM m0 ((ops j).take (y.1 j / 2)++[o])=opMem (seqM m0 ((ops j).take (y.1 j / 2))) o:=by
       unfold seqM
       rw [List.foldl_append]
       rfl
      rw [hz1,htk,seqV_app,hsM,len_op,d3]
      refine ⟨?_,by show (opMem y.2 o).length=_; rw [len_op]; exact i2,i3,b2⟩
      have ht:told j [e]=[e.value]:=by
       unfold told
       simp [d1,j2]
      rw [ht,d2,b1]
      rfl
    · rw [d1] at j4
      have hev:¬ y.1 j % 2=1:=by simpa using j4.symm
      have hz1:z.1 j / 2=y.1 j / 2:=by rw [d3]; show upd y.1 j (y.1 j+1) j / 2=_; rw [upd_eq]; omega
      have ht:told j [e]=[]:=by
       unfold told
       simp [d1]
      rw [hz1,ht,List.append_nil,d3]
      exact ⟨rfl,i2,i3,i4⟩
  · have hz1:z.1 k=y.1 k:=by
     rcases j7 with ⟨d1,d2,d3⟩ | ⟨d1,d3⟩ <;> rw [d3] <;> exact upd_ne (Ne.symm ej)
    have ht:told k [e]=[]:=by
     unfold told
     have:¬ (j:Int)=(k:Int):=by omega
     simp [j2,this]
    obtain ⟨w1,w2⟩:=hw j ej o hmem
    rw [hz1,ht,List.append_nil]
    rcases j7 with ⟨d1,d2,d3⟩ | ⟨d1,d3⟩
    · rw [d3]
      exact ⟨rfl,by show (opMem y.2 o).length=_; rw [len_op]; exact i2,i3,fun x hx=>by rw [← i4 x hx]; exact op_apart w1 w2 hx (hR x hx)⟩
    · rw [d3]
      exact ⟨rfl,i2,i3,i4⟩
theorem vals_alone {g:CfgS} {mem0 mem:List Int} {s:St} (I:Inv g ops mem0 mem s) (hkn:k<nn g) (hR:∀ x,R x→0≤x) (hk:∀ o∈ops k,R o.addr) (hw:∀ j,j≠k→∀ o∈ops j,0≤o.addr∧(o.kind=2∨o.kind=3→¬ R o.addr)) (hd:(s.nd k).proc.values.length=(ops k).length):(s.nd k).proc.values=seqV mem0 (ops k):=by
 obtain ⟨sn,r1,r2⟩:=I.rp
 obtain ⟨r3,r4⟩:=r2 k hkn
 have h:=(told_alone (n:=nn g) (R:=R) hR hk hw (m0:=mem0) s.tr.reverse (sn,mem) (by rw [List.reverse_reverse]; exact r1)).1
 rw [List.reverse_reverse] at h
 rw [r4,h]
 have:(sn k) / 2=(ops k).length:=by
  rw [r3,hd]
  split <;> omega
 show seqV mem0 ((ops k).take (sn k / 2))=_
 rw [this,List.take_length]
end
end
section
open Go
section
variable {g:CfgS}
end
end
section
open Go
section
variable {g:CfgS} {s:St} {ops:Nat→List OpS} {mem0 mem:List Int} {k:Nat} {L:Int}
theorem mnode_eq (hk:k<nn g):mnodeS (conc g s) (k:Int)=some (some (k:Int)):=by
 unfold mnodeS
 rw [decide_eq_false (by omega),cond_false,conc_nodes,decide_eq_false (by omega),cond_false,chk_true (by omega)]
theorem wis_eq (hg:GOk g) (l0:0≤L) (l1:L<g.lines):wisS (conc g s) L=some true:=by
 unfold wisS
 rw [decide_eq_true l0,cond_true,conf_eq hg,Option.bind_some,decide_eq_true l1]
def hasC (s:St) (L:Int) (k:Nat):Bool:=(cv (s.nd k).cache L).isSome
def copiesN (g:CfgS) (s:St) (L:Int):List Nat:=(List.range (nn g)).filter (hasC s L)
def toI (l:List Nat):List Int:=l.map fun k:Nat=>(k:Int)
theorem cop_l1 (hg:GOk g) (I:Inv g ops mem0 mem s) (l0:0≤L) (l1:L<g.lines):∀ (m i:Nat) (acc:List Int),i≤nn g→nn g<m+i→acc.length≤i →
 wcopS_l1 g (conc g s) L wcopS_j0 m acc (i:Int)=some (acc++toI (((List.range (nn g - i)).map (i+·)).filter (hasC s L)))
 |0,i,acc,h1,h2,h3=>by omega
 |m+1,i,acc,h1,h2,h3=>by
  have hn:=nnI hg
  have hn6:=hg.n1
  rw [wcopS_l1]
  by_cases hi:i<nn g
  · rw [decide_eq_true (by omega),cond_true,mnode_eq hi,Option.bind_some]
    simp only [optM]
    rw [conc_nodes,chk_true (by omega),nth_nd hi,find_ok hg (I.nod i hi).co,Option.bind_some]
    have e:nn g - i=(nn g - (i+1))+1:=by omega
    have e2:((List.range (nn g - i)).map (i+·))=i::((List.range (nn g - (i+1))).map (i+1+·)):=by
     rw [e,List.range_succ_eq_map,List.map_cons,List.map_map]
     congr 1
     refine List.map_congr_left fun j _=>?_
     show i+(j+1)=i+1+j
     omega
    rw [e2]
    have ih:=fun acc ha=>cop_l1 hg I l0 l1 m (i+1) acc (by omega) (by omega) ha
    rw [show (((i+1:Nat)):Int)=(i:Int)+1 by omega] at ih
    cases hc:cf (s.nd i).cache.l L with
    |none =>
     have hh:hasC s L i=false:=by unfold hasC cv; rw [hc]; rfl
     simp only [cond_false]
     rw [chk_true (by unfold inR; omega),ih acc (by omega),List.filter_cons_of_neg (by rw [hh]; simp)]
    |some q =>
     have hh:hasC s L i=true:=by unfold hasC cv; rw [hc]; rfl
     simp only [cond_true]
     rw [wis_eq hg l0 l1,Option.bind_some,cond_true,chk_true (by simp; omega)]
     dsimp only [letP]
     rw [chk_true (by unfold inR; omega),ih _ (by simp; omega),List.filter_cons_of_pos hh]
     simp [toI]
  · rw [decide_eq_false (by omega),cond_false,show nn g - i=0 by omega]
    simp [toI,wcopS_j0]
theorem cop_eq (hg:GOk g) (I:Inv g ops mem0 mem s) (l0:0≤L) (l1:L<g.lines):wcopS (conc g s) L=some (toI (copiesN g s L)):=by
 unfold wcopS
 rw [conf_eq hg,Option.bind_some]
 have:=cop_l1 hg I l0 l1 (g.nodes.toNat+1) 0 [] (by omega) (by unfold nn; omega) (by simp)
 refine Eq.trans this ?_
 simp [copiesN]
theorem hasC_iff (hk:k<nn g):hasC s L k=true↔cw g s L k≠none:=by
 unfold hasC cw
 rw [if_pos hk]
 cases cv (s.nd k).cache L <;> simp
theorem nrow_eq (hg:GOk g) {r:RowS} (hr:row g s L=some r) (hw:WOk g r.data):nrowS (s.nd (hm g L)) L=some (r,true):=by
 have:=hw.le hg
 unfold nrowS mrowS cloneS
 dsimp only [letP]
 have e:mgo (s.nd (hm g L)).home.dir.rows L=r:=by
  unfold mgo
  show (row g s L).getD _=r
  rw [hr]; rfl
 have e2:mget (s.nd (hm g L)).home.dir.rows L=some r:=hr
 rw [e,e2,chk_true (by omega)]
 rfl
theorem home_eq (hg:GOk g) (l0:0≤L):phomeS g L=some ((hm g L:Nat):Int):=by
 obtain ⟨-,h⟩:=hm_lt hg l0
 unfold phomeS prestS
 rw [decide_eq_false (by omega),cond_false,chk_true hg.n0,h]
 rfl
theorem wrow_eq (hg:GOk g) (l0:0≤L) {r:RowS} (hr:row g s L=some r) (hw:WOk g r.data):wrowS (conc g s) L=some r:=by
 obtain ⟨h1,h2⟩:=hm_lt hg l0
 unfold wrowS
 rw [conf_eq hg,Option.bind_some,home_eq hg l0,Option.bind_some,mnode_eq h1,Option.bind_some]
 simp only [optM]
 rw [conc_nodes,chk_true (by omega),nth_nd h1,nrow_eq hg hr hw]
 rfl
theorem wfind_eq (hg:GOk g) (I:Inv g ops mem0 mem s) (hk:k<nn g):wfindS (conc g s) (k:Int) L=some (match cf (s.nd k).cache.l L with | some e=>(e,true) | none=>(ent0,false)):=by
 unfold wfindS
 rw [mnode_eq hk,Option.bind_some]
 simp only [optM]
 rw [conc_nodes,chk_true (by omega),nth_nd hk,find_ok hg (I.nod k hk).co]
 rfl
theorem wown_eq (hg:GOk g) (l0:0≤L) (l1:L<g.lines):wownS (conc g s) L=some (match own g s L with | some o=>o | none=>-1):=by
 obtain ⟨h1,h2⟩:=hm_lt hg l0
 unfold wownS
 rw [wis_eq hg l0 l1,Option.bind_some,Bool.not_true,cond_false,conf_eq hg,Option.bind_some,home_eq hg l0,Option.bind_some,mnode_eq h1,Option.bind_some]
 simp only [optM]
 rw [conc_nodes,chk_true (by omega),nth_nd h1]
 unfold nownerS townerS mgo
 show (Option.bind (Option.bind (bif (own g s L).isSome then some ((own g s L).getD Rw.d) else some (-1)) fun y=>some y) fun y=>some y)=_
 cases own g s L <;> rfl
theorem slice_eq (hg:GOk g) (hm:(mem.length:Int)=g.lines*g.words) {i:Nat} (hi:i<lN g):wr ((i:Int)*g.words)=(i:Int)*g.words∧wr (((i:Int)+1)*g.words)=((i:Int)+1)*g.words∧(0≤(i:Int)*g.words∧(i:Int)*g.words≤((i:Int)+1)*g.words∧((i:Int)+1)*g.words≤(mem.length:Int)) ∧
 (mem.drop ((i:Int)*g.words).toNat).take ((((i:Int)+1)*g.words).toNat - ((i:Int)*g.words).toNat)=lw g mem (i:Int):=by
 have hl0:=hg.l0
 have hl1:=hg.l1
 have hw0:=hg.w0
 have hw1:=hg.w1
 have hlN:((lN g:Nat):Int)=g.lines:=by unfold lN; omega
 have a0:0≤(i:Int)*g.words:=Int.mul_nonneg (by omega) (by omega)
 have a1:((i:Int)+1)*g.words≤g.lines*g.words:=Int.mul_le_mul_of_nonneg_right (by omega) (by omega)
 have a2:g.lines*g.words≤8*g.words:=Int.mul_le_mul_of_nonneg_right hl1 (by omega)
 have a3:((i:Int)+1)*g.words=(i:Int)*g.words+g.words:=by rw [Int.add_mul,Int.one_mul]
 refine ⟨wr_in (by omega) (by omega),wr_in (by omega) (by omega),⟨a0,by omega,by omega⟩,?_⟩
 unfold lw
 congr 1
 omega
structure Done (g:CfgS) (ops:Nat→List OpS) (s:St):Prop where
 own:∀ L,0≤L→L<g.lines→own g s L=none
 vals:∀ k,k<nn g→(s.nd k).proc.values.length=(ops k).length
theorem done_of (I:Inv g ops mem0 mem s) (hq:quietB g s=true) (hl:leftN g s=0):Done g ops s:=by
 unfold quietB at hq
 rw [Bool.and_eq_true,List.all_eq_true] at hq
 have hz:∀ k,k<nn g→(s.dl k).step=0:=fun k hk=>by
  have:=hq.1 k (List.mem_range.2 hk)
  unfold calm at this
  simp at this
  exact this.1.1
 refine ⟨fun L l0 l1=>?_,fun k hk=>?_⟩
 · cases ho:Go.Proofs.YtcidmgkfaioceaaGreat.own g s L with
   |none=>rfl
   |some o =>
    obtain ⟨j,j1,j2,j3,j4⟩:=I.trn.ow L o l0 l1 ho
    exact absurd (hz j j1) j4.1
 · have N:=I.nod k hk
   have h2:∀ (f:Nat→Nat) (n:Nat),((List.range n).map f).sum=0→∀ k,k<n→f k=0:=by
    intro f n
    induction n with
    |zero=>intro _ k hk; omega
    |succ n ih =>
     intro h k hk
     rw [List.range_succ,List.map_append,List.sum_append] at h
     simp only [List.map_cons,List.map_nil,List.sum_cons,List.sum_nil] at h
     by_cases e:k=n
     · subst e; omega
     · exact ih (by omega) k (by omega)
   have:=h2 _ _ hl k hk
   rw [N.po] at this
   have:=N.vl
   omega
end
end
section
open Go
theorem seq_l1 (l:List Int) (hl:l.length≤1000000):∀ (m i:Nat),i≤l.length→l.length<m+i→seqS_l1 l l seqS_j0 m (i:Int)=some true
 |0,i,h1,h2=>by omega
 |m+1,i,h1,h2=>by
  rw [seqS_l1]
  by_cases hi:i<l.length
  · rw [decide_eq_true (by omega),cond_true,chk_true (by omega),chk_true (by omega),decide_eq_true rfl,Bool.not_true,cond_false,chk_true (by unfold inR; omega)]
    have ih:=seq_l1 l hl m (i+1) (by omega) (by omega)
    rw [show (((i+1:Nat)):Int)=(i:Int)+1 by omega] at ih
    exact ih
  · rw [decide_eq_false (by omega),cond_false]
    rfl
theorem seq_ok {l:List Int} (hl:l.length≤1000000):seqS l l=some true:=by
 unfold seqS
 rw [decide_eq_true rfl,Bool.not_true,cond_false]
 exact seq_l1 l hl (l.length+1) 0 (by omega) (by omega)
theorem sidx_no (l:List Int) (v:Int) (hv:v∉l) (hl:l.length≤1000000):∀ (m i:Nat),i≤l.length→l.length<m+i→sidxS_l1 l v sidxS_j0 m (i:Int)=some (-1)
 |0,i,h1,h2=>by omega
 |m+1,i,h1,h2=>by
  rw [sidxS_l1]
  by_cases hi:i<l.length
  · have hne:¬ v=nth l (i:Int):=fun z=>hv (by rw [z]; exact nthI hi)
    rw [decide_eq_true (by omega),cond_true,chk_true (by omega),decide_eq_false hne,cond_false,chk_true (by unfold inR; omega)]
    have ih:=sidx_no l v hv hl m (i+1) (by omega) (by omega)
    rw [show (((i+1:Nat)):Int)=(i:Int)+1 by omega] at ih
    exact ih
  · rw [decide_eq_false (by omega),cond_false]
    rfl
theorem scont_no {l:List Int} {v:Int} (hv:v∉l) (hl:l.length≤1000000):scontS l v=some false:=by
 unfold scontS sidxS
 have:=sidx_no l v hv hl (l.length+1) 0 (by omega) (by omega)
 rw [show (0:Int)=((0:Nat):Int) from rfl,this]
 rfl
theorem toI_len {l:List Nat}:(toI l).length=l.length:=by unfold toI; rw [List.length_map]
theorem toI_app {a b:List Nat}:toI (a++b)=toI a++toI b:=by unfold toI; rw [List.map_append]
theorem toI_nth {l:List Nat} {i k:Nat} (h:l[i]?=some k):nth (toI l) (i:Int)=(k:Int):=by
 refine nth_at ?_
 unfold toI
 rw [List.getElem?_map,h]
 rfl
theorem toI_mem {l:List Nat} {k:Nat}:(k:Int)∈toI l↔k∈l:=by
 unfold toI
 rw [List.mem_map]
 constructor
 · rintro ⟨x,h1,h2⟩
   have:x=k:=by omega
   rw [← this]; exact h1
 · exact fun h=>⟨k,h,rfl⟩
section
variable {g:CfgS} {s s':St} {ops:Nat→List OpS} {mem0 mem:List Int} {k:Nat} {L:Int} {r:RowS} {M:List Int} {xs:List Nat}
def enE (s:St) (L:Int) (k:Nat):Ent:=(cf (s.nd k).cache.l L).getD ent0
theorem cw_en {p:Cp} (h:cw g s L k=some p):k<nn g∧cf (s.nd k).cache.l L=some (enE s L k)∧toCp (enE s L k)=p:=by
 have hk:=cw_lt (g:=g) (s:=s) (L:=L) (k:=k) (by rw [h]; simp)
 unfold cw at h
 rw [if_pos hk] at h
 obtain ⟨e,h1,h2⟩:=cv_some h
 refine ⟨hk,?_,?_⟩
 · unfold enE; rw [h1]; rfl
 · unfold enE; rw [h1]; exact h2
theorem wfind_en (hg:GOk g) (I:Inv g ops mem0 mem s) {p:Cp} (h:cw g s L k=some p):wfindS (conc g s) (k:Int) L=some (enE s L k,true):=by
 obtain ⟨h1,h2,-⟩:=cw_en h
 rw [wfind_eq hg I h1,h2]
theorem cop_perm (N:Norm (cw g s L) r M xs):xs.Perm (copiesN g s L):=by
 refine (List.perm_ext_iff_of_nodup N.nd (List.nodup_range.filter _)).2 fun k=>?_
 rw [← N.ex k,List.mem_filter,List.mem_range]
 constructor
 · intro h
   have hk:=cw_lt h
   exact ⟨hk,(hasC_iff hk).2 h⟩
 · rintro ⟨h1,h2⟩
   exact (hasC_iff h1).1 h2
theorem cop_len:(copiesN g s L).length≤nn g:=by
 unfold copiesN
 refine Nat.le_trans (List.length_filter_le _ _) ?_
 rw [List.length_range]
 exact Nat.le_refl _
theorem Norm.len (N:Norm (cw g s L) r M xs):xs.length≤nn g:=by
 rw [(cop_perm N).length_eq]
 exact cop_len
theorem Norm.at (N:Norm (cw g s L) r M xs) (h:k∈xs):∃ p,cw g s L k=some p:=by
 have:=(N.ex k).2 h
 cases hc:cw g s L k with
 |none=>exact absurd hc this
 |some p=>exact ⟨p,rfl⟩
theorem walk_l1 (hg:GOk g) (I:Inv g ops mem0 mem s) (N:Norm (cw g s L) r M xs):∀ (rest pre:List Nat) (m:Nat),xs=pre++rest→rest.length<m→wwalkS_l1 (conc g s) L wwalkS_j0 m (toI pre) (hd rest (-1))=some (toI xs,true)
 |rest,pre,0,h1,h2=>by omega
 |[],pre,m+1,h1,h2=>by
  rw [wwalkS_l1]
  simp only [hd,decide_true,Bool.not_true,cond_false]
  rw [h1,List.append_nil]
  rfl
 |x::rest,pre,m+1,h1,h2=>by
  have hx:x∈xs:=by rw [h1]; simp
  obtain ⟨p,hp⟩:=N.at hx
  have hf:=N.fw
  rw [h1,Fw_app] at hf
  obtain ⟨p',f1,f2⟩:=hf.2.1
  rw [hp] at f1
  have hpp:=Option.some.inj f1
  subst hpp
  obtain ⟨-,-,e3⟩:=cw_en hp
  have hl:=N.len
  have hn6:=(nn6 hg).1
  have hnot:(x:Int)∉toI pre:=fun z=>by
   have hnd:=N.nd
   rw [h1,List.nodup_append] at hnd
   exact hnd.2.2 x (toI_mem.1 z) x (by simp) rfl
  have hpl:pre.length<xs.length:=by rw [h1,List.length_append,List.length_cons]; omega
  rw [wwalkS_l1,show hd (x::rest) (-1)=(x:Int) from rfl,decide_eq_false (by omega),Bool.not_false,cond_true,wfind_en hg I hp,Option.bind_some]
  simp only [Bool.not_true,cond_false]
  rw [scont_no hnot (by rw [toI_len]; omega),Option.bind_some,cond_false,chk_true (by rw [List.length_append,toI_len]; simp; omega)]
  dsimp only [letP]
  have e4:(enE s L x).fwd=hd rest (-1):=by rw [← f2,← e3]; rfl
  rw [e4]
  have ih:=walk_l1 hg I N rest (pre++[x]) m (by rw [h1,List.append_assoc]; rfl) (by rw [List.length_cons] at h2; omega)
  rw [toI_app] at ih
  exact ih
theorem wwalk_eq (hg:GOk g) (I:Inv g ops mem0 mem s) (l0:0≤L) (l1:L<g.lines) (hr:row g s L=some r) (hw:WOk g r.data) (N:Norm (cw g s L) r M xs):wwalkS (conc g s) L=some (toI xs,true):=by
 unfold wwalkS
 rw [wis_eq hg l0 l1,Option.bind_some,Bool.not_true,cond_false,wrow_eq hg l0 hr hw,Option.bind_some,show r.head=hd xs (-1) from N.rh,conc_nodes]
 exact walk_l1 hg I N xs [] (nn g+2) rfl (by have:=N.len; omega)
theorem list_l2 (hg:GOk g) (I:Inv g ops mem0 mem s) (N:Norm (cw g s L) r M xs) {K:List Ent→Option Bool}:∀ (rest pre:List Nat) (m:Nat),xs=pre++rest→rest.length<m→wlistS_l2 (toI xs,true) (conc g s) L K m (pre.map (enE s L)) (lst pre (-1)) (pre.length:Int)=K (xs.map (enE s L))
 |rest,pre,0,h1,h2=>by omega
 |[],pre,m+1,h1,h2=>by
  rw [wlistS_l2]
  rw [List.append_nil] at h1
  rw [decide_eq_false (by rw [toI_len,h1]; omega),cond_false,h1]
 |x::rest,pre,m+1,h1,h2=>by
  have hx:x∈xs:=by rw [h1]; simp
  obtain ⟨p,hp⟩:=N.at hx
  have hb:=N.bk
  rw [h1,Bk_app] at hb
  obtain ⟨p',f1,f2⟩:=hb.2.1
  rw [hp] at f1
  have hpp:=Option.some.inj f1
  subst hpp
  obtain ⟨-,-,e3⟩:=cw_en hp
  have hl:=N.len
  have hn6:=(nn6 hg).1
  have hpl:pre.length<xs.length:=by rw [h1,List.length_append,List.length_cons]; omega
  have hat:xs[pre.length]?=some x:=by rw [h1,List.getElem?_append_right (Nat.le_refl _),Nat.sub_self]; rfl
  have e4:(enE s L x).back=lst pre (-1):=by rw [← f2,← e3]; rfl
  rw [wlistS_l2]
  rw [decide_eq_true (by rw [toI_len]; omega),cond_true,chk_true (by rw [toI_len]; omega)]
  simp only
  rw [toI_nth hat,wfind_en hg I hp,Option.bind_some]
  simp only
  rw [e4,decide_eq_true rfl,Bool.not_true,cond_false,chk_true (by rw [List.length_append,List.length_map]; simp; omega)]
  dsimp only [letP]
  rw [chk_true (by unfold inR; omega)]
  have ih:=list_l2 hg I N (K:=K) rest (pre++[x]) m (by rw [h1,List.append_assoc]; rfl) (by rw [List.length_cons] at h2; omega)
  rw [List.map_append,lst_app,List.length_append,show (((pre.length+[x].length:Nat)):Int)=(pre.length:Int)+1 by simp] at ih
  exact ih
theorem stidx_no (l:List Ent) (hl:l.length≤1000000) (r:RowS) (h:∀ e∈l,e.dirty=false∧e.data=r.data) (hr:r.data.length≤1000000):∀ (m i:Nat),i≤l.length→l.length<m+i→wstidxS_l1 l r wstidxS_j0 m (i:Int)=some (-1)
 |0,i,h1,h2=>by omega
 |m+1,i,h1,h2=>by
  rw [wstidxS_l1]
  by_cases hi:i<l.length
  · have hx:l[i]?=some l[i]:=List.getElem?_eq_getElem hi
    obtain ⟨a1,a2⟩:=h _ (List.getElem_mem hi)
    have hw:wst1S l[i] r=some false:=by
     unfold wst1S
     rw [a1,cond_false,a2,seq_ok hr]
     rfl
    rw [decide_eq_true (by omega),cond_true,chk_true (by omega)]
    dsimp only [letP]
    rw [nthT_at hx,hw,Option.bind_some,cond_false,chk_true (by unfold inR; omega)]
    have ih:=stidx_no l hl r h hr m (i+1) (by omega) (by omega)
    rw [show (((i+1:Nat)):Int)=(i:Int)+1 by omega] at ih
    exact ih
  · rw [decide_eq_false (by omega),cond_false]
    rfl
theorem en_of {p:Cp} (h:cw g s L k=some p):(enE s L k).dirty=p.dirty∧(enE s L k).data=p.data:=by
 obtain ⟨-,-,e3⟩:=cw_en h
 rw [← e3]
 exact ⟨rfl,rfl⟩
theorem state_eq (hg:GOk g) (hw:WOk g r.data) (N:Norm (cw g s L) r M xs):wstateS r (xs.map (enE s L))=some true:=by
 have hl:=N.len
 have hn6:=(nn6 hg).1
 have hd:=hw.le hg
 unfold wstateS
 rcases N.st with ⟨a,b,c⟩ | ⟨a,b,c,d⟩ | ⟨a,x,b,c⟩
 · rw [a,b]; rfl
 · have hne:0<xs.length:=List.length_pos_iff.2 b
   rw [a,decide_eq_false (by omega),cond_false,decide_eq_true rfl,cond_true,decide_eq_true (by rw [List.length_map]; omega),cond_true]
   have hh:∀ e∈xs.map (enE s L),e.dirty=false∧e.data=r.data:=fun e he=>by
    obtain ⟨k,hk,rfl⟩:=List.mem_map.1 he
    obtain ⟨p,hp⟩:=N.at hk
    obtain ⟨q1,q2⟩:=en_of hp
    rw [q1,q2,d]
    exact ⟨c k p hp,N.dt k p hp⟩
   have:=stidx_no (xs.map (enE s L)) (by rw [List.length_map]; omega) r hh (by omega) ((xs.map (enE s L)).length+1) 0 (by omega) (by omega)
   unfold wstcofS wstidxS
   rw [show (0:Int)=((0:Nat):Int) from rfl,this]
   rfl
 · obtain ⟨p,hp⟩:=N.at (k:=x) (by rw [b]; simp)
   obtain ⟨q1,q2⟩:=en_of hp
   rw [a,decide_eq_false (by omega),cond_false,decide_eq_false (by omega),cond_false,b,decide_eq_true (by rfl),cond_true,chk_true (by simp)]
   show some ((enE s L x).dirty)=_
   rw [q1,c p hp]
theorem wlist_eq (hg:GOk g) (I:Inv g ops mem0 mem s) (l0:0≤L) (l1:L<g.lines) (hr:row g s L=some r) (hw:WOk g r.data) (N:Norm (cw g s L) r M xs):wlistS (conc g s) L=some true:=by
 have hl:=N.len
 have hn6:=(nn6 hg).1
 unfold wlistS
 rw [wis_eq hg l0 l1,Option.bind_some,Bool.not_true,cond_false,wwalk_eq hg I l0 l1 hr hw N,Option.bind_some]
 simp only [Bool.not_true,cond_false]
 rw [chk_true (by rw [toI_len]; omega)]
 dsimp only [letP]
 have hs:isrt (toI xs)=toI (copiesN g s L):=by
  refine List.Perm.eq_of_pairwise (le:=(·≤·)) (fun a b _ _ h1 h2=>Int.le_antisymm h1 h2) (isrt_sorted _) ?_ ((isrt_perm _).trans ((cop_perm N).map _))
  unfold toI
  rw [List.pairwise_map]
  unfold copiesN
  refine (List.Pairwise.filter _ List.pairwise_lt_range).imp fun h=>?_
  omega
 rw [hs,cop_eq hg I l0 l1,Option.bind_some,seq_ok (by rw [toI_len]; have:=cop_len (g:=g) (s:=s) (L:=L); omega),Option.bind_some]
 unfold wlistS_j0
 rw [Bool.not_true,cond_false,conc_nodes]
 refine Eq.trans (list_l2 hg I N (K:=wlistS_j1 (conc g s) L) xs [] (nn g+2) rfl (by omega)) ?_
 unfold wlistS_j1
 rw [wrow_eq hg l0 hr hw,Option.bind_some,state_eq hg hw N]
 rfl
theorem wiidx_no (hg:GOk g) (I:Inv g ops mem0 mem s) (l:List Nat) (hl:l.length≤1000000) (h:∀ k∈l,∃ p,cw g s L k=some p∧p.dirty=false):∀ (m i:Nat),i≤l.length→l.length<m+i→wiidxS_l1 (toI l) (conc g s) L wiidxS_j0 m (i:Int)=some (-1)
 |0,i,h1,h2=>by omega
 |m+1,i,h1,h2=>by
  rw [wiidxS_l1]
  by_cases hi:i<l.length
  · have hx:l[i]?=some l[i]:=List.getElem?_eq_getElem hi
    obtain ⟨p,p1,p2⟩:=h _ (List.getElem_mem hi)
    rw [decide_eq_true (by rw [toI_len]; omega),cond_true,chk_true (by rw [toI_len]; omega),toI_nth hx]
    unfold wsin1S
    rw [wfind_en hg I p1,Option.bind_some,Option.bind_some,(en_of p1).1,p2,cond_false,chk_true (by unfold inR; omega)]
    have ih:=wiidx_no hg I l hl h m (i+1) (by omega) (by omega)
    rw [show (((i+1:Nat)):Int)=(i:Int)+1 by omega] at ih
    exact ih
  · rw [decide_eq_false (by rw [toI_len]; omega),cond_false]
    rfl
theorem wsin_eq (hg:GOk g) (I:Inv g ops mem0 mem s) (l0:0≤L) (l1:L<g.lines) (N:Norm (cw g s L) r M xs):wsinS (conc g s) L=some true:=by
 have hn6:=(nn6 hg).1
 have hcl:=cop_len (g:=g) (s:=s) (L:=L)
 unfold wsinS
 rw [cop_eq hg I l0 l1,Option.bind_some]
 have hno:(∀ k p,cw g s L k=some p→p.dirty=false)→((wicofS (toI (copiesN g s L)) (conc g s) L).bind fun y2_2=>(bif !y2_2 then some true else some (decide ((((List.length (toI (copiesN g s L))):Nat):Int)=(1:Int)))))=some true:=fun hc=>by
  have:=wiidx_no hg I (copiesN g s L) (by omega) (fun k hk=>by
   have hk':=(cop_perm N).mem_iff.2 hk
   obtain ⟨p,hp⟩:=N.at hk'
   exact ⟨p,hp,hc k p hp⟩) ((toI (copiesN g s L)).length+1) 0 (by omega) (by rw [toI_len]; omega)
  unfold wicofS wiidxS
  rw [show (0:Int)=((0:Nat):Int) from rfl,this]
  rfl
 rcases N.st with ⟨a,b,c⟩ | ⟨a,b,c,d⟩ | ⟨a,x,b,c⟩
 · refine hno fun k p hp=>?_
   have:=(N.ex k).1 (by rw [hp]; simp)
   rw [b] at this
   cases this
 · exact hno c
 · obtain ⟨p,hp⟩:=N.at (k:=x) (by rw [b]; simp)
   have hcp:=cop_perm N
   rw [b] at hcp
   have hce:copiesN g s L=[x]:=(List.singleton_perm.1 hcp).symm
   rw [hce]
   have hi:wicofS (toI [x]) (conc g s) L=some true:=by
    unfold wicofS wiidxS
    show ((wiidxS_l1 (toI [x]) (conc g s) L wiidxS_j0 2 0).bind _)=_
    rw [wiidxS_l1,decide_eq_true (by show (0:Int)<1; omega),cond_true,chk_true (by show (0:Int)≤0∧(0:Int)<1; omega),show nth (toI [x]) 0=(x:Int) from rfl]
    unfold wsin1S
    rw [wfind_en hg I hp,Option.bind_some,Option.bind_some,(en_of hp).1,c p hp]
    rfl
   rw [hi]
   rfl
theorem right_l1w (hg:GOk g) (I:Inv g ops mem0 mem s) (W:List Int) (hW:W.length≤1000000) {K:Option Bool} (l:List Nat) (hl:l.length≤1000000) (h:∀ k∈l,∃ p,cw g s L k=some p∧p.data=W):∀ (m i:Nat),i≤l.length→l.length<m+i→wrightS_l1 (toI l) (conc g s) L W K m (i:Int)=K
 |0,i,h1,h2=>by omega
 |m+1,i,h1,h2=>by
  rw [wrightS_l1]
  by_cases hi:i<l.length
  · have hx:l[i]?=some l[i]:=List.getElem?_eq_getElem hi
    obtain ⟨p,p1,p2⟩:=h _ (List.getElem_mem hi)
    rw [decide_eq_true (by rw [toI_len]; omega),cond_true,chk_true (by rw [toI_len]; omega),toI_nth hx,wfind_en hg I p1,Option.bind_some]
    simp only
    rw [(en_of p1).2,p2,seq_ok hW,Option.bind_some,Bool.not_true,cond_false,chk_true (by unfold inR; omega)]
    have ih:=right_l1w hg I W hW (K:=K) l hl h m (i+1) (by omega) (by omega)
    rw [show (((i+1:Nat)):Int)=(i:Int)+1 by omega] at ih
    exact ih
  · rw [decide_eq_false (by rw [toI_len]; omega),cond_false]
theorem wright_eq (hg:GOk g) (I:Inv g ops mem0 mem s) (l0:0≤L) (l1:L<g.lines) (ho:own g s L=none) (hr:row g s L=some r) (hw:WOk g r.data) (N:Norm (cw g s L) r M xs) (hM:M.length≤1000000):wrightS (conc g s) L M=some true:=by
 have hn6:=(nn6 hg).1
 have hcl:=cop_len (g:=g) (s:=s) (L:=L)
 unfold wrightS
 rw [cop_eq hg I l0 l1,Option.bind_some,conc_nodes]
 refine Eq.trans (right_l1w hg I M hM (K:=wrightS_j0 (conc g s) L M) (copiesN g s L) (by omega) (fun k hk=>by
  have hk':=(cop_perm N).mem_iff.2 hk
  obtain ⟨p,hp⟩:=N.at hk'
  exact ⟨p,hp,N.dt k p hp⟩) (nn g+2) 0 (by omega) (by omega)) ?_
 unfold wrightS_j0
 rw [wrow_eq hg l0 hr hw,Option.bind_some,wown_eq hg l0 l1,ho,Option.bind_some]
 rcases N.st with ⟨a,b,c⟩ | ⟨a,b,c,d⟩ | ⟨a,x,b,c⟩
 · rw [a,c]
   simp only [decide_true,Bool.not_true,cond_false]
   rw [seq_ok hM]
   rfl
 · rw [a,d]
   simp only [decide_true,Bool.not_true,cond_false]
   rw [seq_ok hM]
   rfl
 · rw [a]; rfl
theorem Done.norm (I:Inv g ops mem0 mem s) (hD:Done g ops s) (l0:0≤L) (l1:L<g.lines):∃ r xs,row g s L=some r∧WOk g r.data∧Norm (cw g s L) r (lw g mem L) xs:=by
 obtain ⟨r,r1,r2,r3⟩:=I.lin L l0 l1
 rw [hD.own L l0 l1] at r3
 obtain ⟨xs,N⟩:=r3
 exact ⟨r,xs,r1,r2,N⟩
theorem wval_l1 (hg:GOk g) (I:Inv g ops mem0 mem s) (hD:Done g ops s):∀ (m i:Nat),i≤lN g→lN g<m+i→wvalS_l1 g mem (conc g s) wvalS_j0 m (i:Int)=some true
 |0,i,h1,h2=>by omega
 |m+1,i,h1,h2=>by
  have hl0:=hg.l0
  have hl1:=hg.l1
  have hlN:((lN g:Nat):Int)=g.lines:=by unfold lN; omega
  rw [wvalS_l1]
  by_cases hi:i<lN g
  · obtain ⟨r,xs,r1,r2,N⟩:=hD.norm I (L:=(i:Int)) (by omega) (by omega)
    obtain ⟨s1,s2,s3,s4⟩:=slice_eq hg I.ml hi
    have hw1:=hg.w1
    rw [decide_eq_true (by omega),cond_true,chk_true (by unfold inR; omega),s1,s2,chk_true s3]
    dsimp only [letP]
    have hM:(lw g mem (i:Int)).length≤1000000:=by
     unfold lw
     have:=List.length_take_le g.words.toNat (mem.drop ((i:Int)*g.words).toNat)
     omega
    rw [s4,wright_eq hg I (by omega) (by omega) (hD.own _ (by omega) (by omega)) r1 r2 N hM,Option.bind_some,Bool.not_true,cond_false,chk_true (by unfold inR; omega)]
    have ih:=wval_l1 hg I hD m (i+1) (by omega) (by omega)
    rw [show (((i+1:Nat)):Int)=(i:Int)+1 by omega] at ih
    exact ih
  · rw [decide_eq_false (by omega),cond_false]
    rfl
end
section
variable {g:CfgS} {s:St} {ps:List (List OpS)} {mem:List Int}
theorem wval_eq (hg:GOk g) (hp:PsOk g ps) (I:Inv g (opsL ps) (mem0 g) mem s) (hD:Done g (opsL ps) s):wvalS (conc g s) ps=some true:=by
 have htl:=I.trLen hg hp.pok
 have hml:=I.ml
 have hw0:=hg.w0
 have hw1:=hg.w1
 have hl0:=hg.l0
 have hl1:=hg.l1
 have hmm:g.lines*g.words≤8*g.words:=Int.mul_le_mul_of_nonneg_right hl1 (by omega)
 unfold wvalS
 rw [conf_eq hg,Option.bind_some]
 unfold trevS cloneES
 rw [chk_true (by show s.tr.length≤_; omega),Option.bind_some,Option.bind_some]
 obtain ⟨sn,r1,-⟩:=I.rp
 have ha:=after_ok hg hp (l:=s.tr) (by omega) r1 (by show mem.length≤_; omega)
 have ha':aaftS g ps (conc g s).trace.l=some mem:=ha
 rw [ha',Option.bind_some]
 unfold paddrsS
 rw [Option.bind_some,wr_in (by omega) (by omega),decide_eq_true hml,Bool.not_true,cond_false]
 exact wval_l1 hg I hD (g.lines.toNat+1) 0 (by omega) (by unfold lN; omega)
theorem wsnd_l2 (hg:GOk g) (hp:PsOk g ps) (I:Inv g (opsL ps) (mem0 g) mem s) (hD:Done g (opsL ps) s) {K:Option Bool}:∀ (m i:Nat),i≤lN g→lN g<m+i→wsndS_l2 g (conc g s) K m (i:Int)=K
 |0,i,h1,h2=>by omega
 |m+1,i,h1,h2=>by
  have hl0:=hg.l0
  have hl1:=hg.l1
  have hlN:((lN g:Nat):Int)=g.lines:=by unfold lN; omega
  rw [wsndS_l2]
  by_cases hi:i<lN g
  · obtain ⟨r,xs,r1,r2,N⟩:=hD.norm I (L:=(i:Int)) (by omega) (by omega)
    rw [decide_eq_true (by omega),cond_true,wsin_eq hg I (by omega) (by omega) N,Option.bind_some,Bool.not_true,cond_false,wown_eq hg (by omega) (by omega),hD.own _ (by omega) (by omega),Option.bind_some]
    simp only [decide_true,cond_true]
    rw [wlist_eq hg I (by omega) (by omega) r1 r2 N,Option.bind_some,Bool.not_true,cond_false,chk_true (by unfold inR; omega)]
    have ih:=wsnd_l2 hg hp I hD (K:=K) m (i+1) (by omega) (by omega)
    rw [show (((i+1:Nat)):Int)=(i:Int)+1 by omega] at ih
    exact ih
  · rw [decide_eq_false (by omega),cond_false]
theorem wsnd_eq (hg:GOk g) (hp:PsOk g ps) (I:Inv g (opsL ps) (mem0 g) mem s) (hD:Done g (opsL ps) s):wsndS (conc g s) ps=some true:=by
 have htl:=I.trLen hg hp.pok
 unfold wsndS
 rw [conf_eq hg,Option.bind_some]
 refine Eq.trans (wsnd_l2 hg hp I hD (K:=wsndS_j0 (conc g s) g ps) (g.lines.toNat+1) 0 (by omega) (by unfold lN; omega)) ?_
 unfold wsndS_j0
 obtain ⟨sn,r1,-⟩:=I.rp
 have h2:alegS g ps s.tr=some true:=legal_ok hg hp (by omega) r1
 unfold trevS cloneES
 rw [chk_true (by show s.tr.length≤_; omega),Option.bind_some,Option.bind_some]
 have h2':alegS g ps (conc g s).trace.l=some true:=h2
 rw [h2',Option.bind_some,cond_true,wval_eq hg hp I hD]
 rfl
end
end
section
open Go Go.RowKit
def TL (α:Type):Type:=List α
instance rwTL {α:Type} [Rw α]:Rw (TL α) where
 X:=Option Addr
 k:=1
 cells l x:=[.slice x (List.length (show List α from l)) (List.length (show List α from l))]
 asn l x:=ImmA x (List.length (show List α from l)) (show List α from l)
 d:=([]:List α)
 len _ _:=rfl
 one _ _:=rfl
 dup _ _:=imm_dup _ _ _
section
variable {α:Type} [Rw α]
def adl:List (List α)→List (Option Addr)→List (Option Addr×Nat)
 |l::ls,x::xs=>(x,l.length)::adl ls xs
 |_,_=>[]
def rowsT:List (List α)→List (Option Addr)→List (List Value)
 |l::ls,x::xs=>[.slice x l.length l.length]::rowsT ls xs
 |_,_=>[]
omit [Rw α] in
theorem adl_len:∀ {l:List (List α)} {xs:List (Option Addr)},xs.length=l.length→(adl l xs).length=l.length
 |[],[],_=>rfl
 |[],_::_,h=>by simp at h
 |_::_,[],h=>by simp at h
 |l::ls,x::xs,h=>by simp only [adl,List.length_cons]; rw [adl_len (by simpa using h)]
theorem adl_rows:∀ {l:List (List α)} {xs:List (Option Addr)},rowsOf l (adl l xs)=rowsT l xs
 |[],xs=>by cases xs <;> rfl
 |l::ls,[]=>rfl
 |l::ls,x::xs=>by
  have ih:=adl_rows (l:=ls) (xs:=xs)
  show [Value.slice x l.length l.length]::rowsOf ls (adl ls xs)=[Value.slice x l.length l.length]::rowsT ls xs
  rw [ih]
theorem tl_rows:∀ {l:List (TL α)} {xs:List (Option Addr)},rowsOf (α:=TL α) l xs=rowsT (α:=α) l xs
 |[],xs=>by cases xs <;> rfl
 |l::ls,[]=>rfl
 |l::ls,x::xs=>by
  have ih:=tl_rows (l:=ls) (xs:=xs)
  show [Value.slice x (List.length (show List α from l)) (List.length (show List α from l))]::rowsOf (α:=TL α) ls xs=[Value.slice x (List.length (show List α from l)) (List.length (show List α from l))]::rowsT (α:=α) ls xs
  rw [ih]
theorem adl_knows {I:Nat→Prop} {h:Nat→Option Obj}:∀ {l:List (List α)} {xs:List (Option Addr)},(∀ (i:Nat) (a:List α) (x:Option Addr),l[i]?=some a→xs[i]?=some x→(ImmA x a.length a).holds (fun _=>False) I h)→Knows I h l (adl l xs)
 |[],xs,_=>fun i a x e=>by simp at e
 |l::ls,[],_=>fun i a x _ e=>by simp [adl] at e
 |l::ls,x::xs,hk=>fun i a y e1 e2=>by
  cases i with
  |zero =>
   simp only [adl,List.getElem?_cons_zero,Option.some.injEq] at e1 e2
   subst e1; subst e2
   exact hk 0 l x rfl rfl
  |succ i =>
   simp only [adl,List.getElem?_cons_succ] at e1 e2
   exact adl_knows (l:=ls) (xs:=xs) (fun j b z f1 f2=>hk (j+1) b z (by simpa using f1) (by simpa using f2)) i a y e1 e2
theorem rdTL {A:Asn} {a:Option Addr} {cap:Nat} {l:List (TL α)} (hA:Rdb A a cap l):Rdb (α:=List α) A a cap l where
 rd:=fun S I h ha=>by
  obtain ⟨h0,xs,q1,p1,p2,p3⟩:=hA.rd S I h ha
  have e:rowsOf (α:=List α) l (adl (α:=α) l xs)=rowsOf (α:=TL α) l xs:=(adl_rows (α:=α)).trans tl_rows.symm
  exact ⟨h0,adl (α:=α) l xs,adl_len (α:=α) q1,fun r hr=>p1 r (e▸hr),e.symm▸p2,adl_knows (α:=α) p3⟩
theorem gh_untl (a:Option Addr) (cap:Nat) (l:List (TL α)):Gh ⟨[],[ArrA a cap l]⟩ fun _:Unit=>⟨[],[ArrA (α:=List α) a cap l]⟩:=by
 intro W0 Γ w hw
 refine ⟨(),?_⟩
 obtain ⟨S,I,⟨S1,S2,h1,h2,h3,⟨xs,q1,q2,q3⟩,h5⟩,r⟩:=(show Sat W0 (ArrA a cap l::Γ) w from hw)
 have e:rowsOf (α:=List α) l (adl (α:=α) l xs)=rowsOf (α:=TL α) l xs:=(adl_rows (α:=α)).trans tl_rows.symm
 exact ⟨S,I,⟨S1,S2,h1,h2,h3,⟨adl (α:=α) l xs,adl_len (α:=α) q1,e.symm▸q2,adl_knows (α:=α) q3⟩,h5⟩,r⟩
end
theorem st_append_new {P:Program} {W0:World} {Γ:List Asn} {e:Env} {k:Nat} {a1 a2:Option Addr} {cap:Nat} {rows news:List (List Value)} {op:Op} {ty:TypeId} (t ty' E cap2:Nat) (info:TypeInfo) (zv:Value)
 (hx:∀ w,(execOp (ev e) (bare op ty)).run P w=(Builtin.append_ #[t,t] ty' #[.slice a1 rows.length cap,.slice a2 news.length cap2] >>= fun v=>pure (Next.value v)).run P w)
 (ht:P.underlying t=some (.slice E)) (hi:P.info? E=some info) (hz:info.zero=some zv) (hk:info.size=k) (hzs:zv.cells.size=k)
 (hr1:Reads W0 Γ a1 rows) (hr:Reads W0 Γ a2 news) (hrk:∀ r∈rows,r.length=k) (hnk:∀ r∈news,r.length=k) (hg:cap<rows.length+news.length)
 (hbig:(rows.length+news.length)*info.bytes≤140737488355328) (hb0:0<info.bytes) :
 StepTo P W0 Γ e op ty (fun v Δ=>∃ a' cap',v=.slice a' (rows.length+news.length) cap'∧Δ=RowsA k a' cap' (rows++news)::Γ):=by
 subst hk
 refine StepTo.val fun w hw=>?_
 have hrd:∀ j v,news.flatten[j]?=some v→∃ p,a2=some p∧w.cell? (p.add j)=some v:=hr w hw
 have hrr:∀ j v,rows.flatten[j]?=some v→∃ p,a1=some p∧w.cell? (p.add j)=some v:=hr1 w hw
 have hnl:=flatten_length hnk
 have hrl:=flatten_length hrk
 have happ:∀ r∈rows++news,r.length=info.size:=fun r hm=>(List.mem_append.1 hm).elim (hrk r) (hnk r)
 have hmul:rows.length+news.length≤140737488355328:=Nat.le_trans (Nat.le_mul_of_pos_right _ hb0) hbig
 have hroom:¬ rows.length+news.length≤cap:=by omega
 have hfd:=run_firstCells (P:=P) (w:=w.drew) (a:=a2) info.size news.length cap2 hnl (fun j v hj=>by obtain ⟨p,hp',hc⟩:=hrd j v hj; exact ⟨p,hp',hc⟩)
 have hfo:=run_firstCells (P:=P) (w:=w.drew) (a:=a1) info.size rows.length cap hrl (fun j v hj=>by obtain ⟨p,hp',hc⟩:=hrr j v hj; exact ⟨p,hp',hc⟩)
 have h63':¬ (9223372036854775807<((rows.length:Int)+(news.length:Int))):=by omega
 have h48':¬ (281474976710656<Builtin.nextslicecap (rows.length+news.length) cap*info.bytes):=by have:=growslice_fits hg hbig; omega
 have hge:=grownCap_ge w (rows.length+news.length) cap E
 refine ⟨.slice (some ⟨w.heap.size,0,none⟩) (rows.length+news.length) (grownCap w (rows.length+news.length) cap E),
  w.drew.alloc (.cells (rows.flatten.toArray++news.flatten.toArray++Builtin.zeroCells zv.cells (grownCap w (rows.length+news.length) cap E - (rows.length+news.length))) E),_,?_,⟨_,_,rfl,rfl⟩,?_⟩
 · rw [hx]
   refine run_seq (x:=.slice (some ⟨w.heap.size,0,none⟩) (rows.length+news.length) (grownCap w (rows.length+news.length) cap E)) ?_ rfl
   simp [Builtin.append_,run_underlying ht,Go.sizeOf,typeInfo,zeroValue,hi,hz,Builtin.lenOf,hroom,h63',h48',Question.forced,hfd,hfo,newRow,grownCap]
   congr 2
   apply Array.ext'
   simp [List.append_assoc]
 · have h9:=(hw.drew).alloc (.cells (rows.flatten.toArray++news.flatten.toArray++Builtin.zeroCells zv.cells (grownCap w (rows.length+news.length) cap E - (rows.length+news.length))) E)
   refine Sat.head_imp (A:=Asn.own w.heap.size (.cells (rows.flatten.toArray++news.flatten.toArray++Builtin.zeroCells zv.cells (grownCap w (rows.length+news.length) cap E - (rows.length+news.length))) E)) (B:=RowsA info.size (some ⟨w.heap.size,0,none⟩) (grownCap w (rows.length+news.length) cap E) (rows++news)) (fun S I h ⟨k1,k2⟩=>⟨happ,.inr ⟨w.heap.size,0,_,E,rfl,k1,k2,by simpa using hge,?_,?_⟩⟩) h9
   · simp only [Array.size_append,List.size_toArray,size_zeroCells,hzs,hrl,hnl,← Nat.add_mul,Nat.zero_add]
     apply Nat.mul_le_mul_right
     omega
   · intro j v hj
     rw [List.flatten_append] at hj
     have hjl:j<(rows.flatten++news.flatten).length:=by
      rcases Nat.lt_or_ge j (rows.flatten++news.flatten).length with h | h
      · exact h
      · rw [List.getElem?_eq_none h] at hj; cases hj
     rw [Nat.zero_add,Array.getElem?_append_left (by simpa using hjl)]
     simpa using hj
theorem reads_of {α:Type} [Rw α] {W0:World} {Γ:List Asn} {A:Asn} {a:Option Addr} {l:List α} {xs:List (Rw.X α)}:Reads W0 (A.and (LieA a l xs)::Γ) a (rowsOf l xs):=by
 intro w hw j v hj
 obtain ⟨S,I,⟨S1,S2,p1,p2,p3,⟨p4,p5,p6,p7⟩,p8⟩,r⟩:=hw
 rcases p6 with p6 | ⟨b,off,cc,T,fr,e1,e2,e3,e4⟩
 · rw [p6] at hj; simp at hj
 · exact ⟨_,e1,by rw [add_none,cell_of e3]; exact e4 j v hj⟩
theorem Reads.tail {W0:World} {Γ:List Asn} {A:Asn} {a:Option Addr} {rows:List (List Value)} (h:Reads W0 Γ a rows):Reads W0 (A::Γ) a rows:=fun w hw=>h w hw.tail
theorem xat {α:Type} [Rw α] {X:Ctx} {s:XS} (h:List Nat) (ia:List Nat) {a a2:Option Addr} {l ys zs:List α} {A B:Asn} {cap2:Nat} (hA:Rdb A a l.length l) (hB:Rdb B a2 cap2 ys) (hz:l++ys=zs) (hn:zs.length≤1099511627776) (hy:0<ys.length)
 (k:∀ z:Option Addr×Nat,G X ((s.dr X h).put [] ia (.slice z.1 zs.length z.2) ⟨[],[ArrA z.1 z.2 zs,A,B]⟩))
 (hq:(s.dq X h).map (·.1)=(s.dq X h).map (·.2):=by kernel_rfl) (hp:s.dp X h=[]:=by kernel_rfl) (hpa:pkA ia (s.dr X h).gam=[A,B]:=by kernel_rfl)
 (hx:apOf X.P (s.dr X h)=some (a,l.length,l.length,a2,ys.length,Rw.k α):=by kernel_rfl) (h1:oks ((s.dr X h).ok1 X.n)=okr ((s.dr X h).ok1 X.n):=by kernel_rfl)
 (h2:∀ z:Option Addr×Nat,oks ((s.dr X h).okP X [] ia (.slice z.1 zs.length z.2) ⟨[],[ArrA z.1 z.2 zs,A,B]⟩)=okr ((s.dr X h).okP X [] ia (.slice z.1 zs.length z.2) ⟨[],[ArrA z.1 z.2 zs,A,B]⟩):=by intro _; kernel_rfl) (h3:∀ z:Option Addr×Nat,(s.dr X h).ol1=(s.dr X h).olP [] ia ⟨[],[ArrA z.1 z.2 zs,A,B]⟩:=by intro _; kernel_rfl):G X s:=by
 refine ⟨x0 h ?_ hq hp⟩
 generalize s.dr X h=s at *
 subst hz
 refine step_oc (io:=[]) (ia:=ia) (pre:=⟨[],[A,B]⟩) (rv:=fun z:Option Addr×Nat=>Value.slice z.1 (l++ys).length z.2) (post:=fun z=>⟨[],[ArrA z.1 z.2 (l++ys),A,B]⟩) (fun Γ=>?_) rfl hpa h1 h2 h3 fun z=>(k z).get
 unfold apOf at hx
 split at hx
 · rename_i args ts hop
   split at hx
   · rename_i x y t t' hargs hts
     split at hx
     · rename_i a' m c a2' m2 c2 E e1 e2 e3
       split at hx
       · rename_i info hi
         replace hx:(bif (Nat.beq t t' && Nat.blt 0 info.bytes && Nat.ble info.bytes 128 && (match info.zero with | some zv=>Nat.beq zv.cells.size info.size | none=>false)) then some (a',m,c,a2',m2,info.size) else none)=some (a,l.length,l.length,a2,ys.length,Rw.k α):=hx
         cases hc:(Nat.beq t t' && Nat.blt 0 info.bytes && Nat.ble info.bytes 128 && (match info.zero with | some zv=>Nat.beq zv.cells.size info.size | none=>false)) with
         |false=>simp [hc] at hx
         |true =>
          simp only [hc,cond_true,Option.some.injEq,Prod.mk.injEq] at hx
          obtain ⟨rfl,rfl,hcc,rfl,rfl,hk⟩:=hx
          simp only [Bool.and_eq_true] at hc
          obtain ⟨⟨⟨ht,hb0⟩,hb1⟩,hzz⟩:=hc
          obtain rfl:=Nat.eq_of_beq_eq_true ht
          cases hzv:info.zero with
          |none=>simp [hzv] at hzz
          |some zv =>
           simp only [hzv] at hzz
           have hzs:=Nat.eq_of_beq_eq_true hzz
           have hargs':args=#[x,y]:=by rw [← hargs]
           have hts':ts=#[t,t]:=by rw [← hts]
           subst hargs'; subst hts'
           intro w hw
           obtain ⟨xs,q1,g1⟩:=(show Sat X.W0 (A::B::Γ) w from hw).read hA
           have g2:Sat X.W0 (B::A.and (LieA a' l xs)::Γ) w:=g1.less (.take (.there .here) (.take .here .refl))
           obtain ⟨ys',q2,g3⟩:=g2.read hB
           have hst:=st_append_new (P:=X.P) (W0:=X.W0) (Γ:=B.and (LieA a2' ys ys')::A.and (LieA a' l xs)::Γ) (e:=s.env) (op:=s.op.op) (ty:=s.op.type) (k:=Rw.k α) (a1:=a') (a2:=a2') (cap:=l.length) (rows:=rowsOf l xs) (news:=rowsOf ys ys') t s.op.type E c2 info zv (fun w=>by
            rw [hop]
            have e9:execOp (ev s.env) (bare (Op.call { callee:=Callee.builtin Builtin.append,args:=#[x,y],argTypes:=#[t,t] }) s.op.type)=(Builtin.append_ #[t,t] s.op.type #[ev s.env x,ev s.env y] >>= fun v=>pure (Next.value v)):=by kernel_rfl
            rw [e9,e1,e2,rowsOf_len q1,rowsOf_len q2,hcc]) e3 hi hzv hk (by rw [hzs,hk]) (Reads.tail reads_of) reads_of rowsOf_k rowsOf_k (by rw [rowsOf_len q1,rowsOf_len q2]; omega) (by
             rw [rowsOf_len q1,rowsOf_len q2]
             rw [List.length_append] at hn
             exact Nat.le_trans (Nat.mul_le_mul hn (Nat.le_of_ble_eq_true hb1)) (by decide)) (by simpa using hb0)
           intro ro o aa K Q kk
           refine hst w g3 ro o aa K Q ?_
           rintro v Δ w' ⟨a3,c3,rfl,rfl⟩ hw'
           refine kk _ _ w' ⟨(a3,c3),?_,rfl⟩ ?_
           · rw [rowsOf_len q1,rowsOf_len q2,List.length_append]
           · obtain ⟨S,I,⟨S1,S2,p1,p2,p3,p4,T1,T2,k1,k2,k3,⟨k4,k4',k4'',k4k⟩,U1,U2,u1,u2,u3,⟨u4,u4',u4'',u4k⟩,u5⟩,r⟩:=hw'
             refine ⟨S,I,⟨S1,S2,p1,p2,p3,⟨xs++ys',by simp [q1,q2],?_,fun i a x e1 e2=>?_⟩,U1,fun b=>T1 b∨U2 b,fun b hb=>k2 b (u1 b hb),fun b hb=>hb.elim (k1 b) fun hu=>k2 b (u2 b hu),fun b hb hc=>hc.elim (fun ht=>k3 b ht (u1 b hb)) fun hu=>u3 b hb hu,u4,T1,U2,fun _ hb=>.inl hb,fun _ hb=>.inr hb,fun b ht hu=>k3 b ht (u2 b hu),k4,u5⟩,r⟩
             · have:rowsOf (l++ys) (xs++ys')=rowsOf l xs++rowsOf ys ys':=List.zipWith_append q1.symm
               rw [this]; exact p4
             · rcases Nat.lt_or_ge i l.length with hi' | hi'
               · rw [List.getElem?_append_left hi'] at e1
                 rw [List.getElem?_append_left (by omega)] at e2
                 exact u4k i a x e1 e2
               · rw [List.getElem?_append_right hi'] at e1
                 rw [List.getElem?_append_right (by omega),q1] at e2
                 exact k4k _ a x e1 e2
       · cases hx
     · cases hx
   · cases hx
 · cases hx
end
end Go.Proofs.YtcidmgkfaioceaaGreat
