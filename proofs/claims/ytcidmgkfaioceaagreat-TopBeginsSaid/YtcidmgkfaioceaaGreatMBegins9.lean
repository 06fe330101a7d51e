/- Walks of the program's functions, and the plain laws of what they compute (part 9): PR, PS, PT, PU, PV, PW, PX, PY, PZ, QA, QB, QC, Ref, Rfa, Rfb, Rfc.
   Conditions: none. -/
import Derived.Test.YtcidmgkfaioceaaGreatMBegins8
set_option linter.unusedVariables false
set_option linter.unusedSimpArgs false
set_option linter.unusedSectionVars false
set_option maxRecDepth 100000
set_option maxHeartbeats 4000000
namespace Go.Proofs.YtcidmgkfaioceaaGreat
section
open Go
section
variable {g:CfgS} {s s':St} {ops:Nat→List OpS} {mem0 mem mem':List Int} {k X h:Nat} {L:Int} {x:NodeS} {t:Tk}
theorem lw_ok (hg:GOk g) (hl:(mem.length:Int)=g.lines*g.words) (hr:∀ x∈mem,in64 x) (h0:0≤L) (h1:L<g.lines):WOk g (lw g mem L):=by
 unfold lw
 refine ⟨?_,fun d hd=>hr d (List.mem_of_mem_drop (List.mem_of_mem_take hd))⟩
 rw [List.length_take,List.length_drop]
 have hw:=hg.w0
 have a:0≤L*g.words:=Int.mul_nonneg h0 (by omega)
 have b:(L+1)*g.words≤g.lines*g.words:=Int.mul_le_mul_of_nonneg_right (by omega) (by omega)
 rw [Int.add_mul] at b
 omega
theorem after1 {p:PktS} {d':DealS} {c':CacheS} (hid:x.id=(X:Int)) (hk:x.deal.kind=1) (h:anextS x.deal (X:Int) x.cache p=some (d',true,c')):nafterS x p=some (d',true,{ x with cache:=c' }):=by
 unfold nafterS
 rw [decide_eq_true hk,cond_true,hid,h]
 rfl
theorem after2 {p:PktS} {d':DealS} {c':CacheS} (hid:x.id=(X:Int)) (hk:x.deal.kind=2) (h:unextS x.deal (X:Int) x.cache p=some (d',true,c')):nafterS x p=some (d',true,{ x with cache:=c' }):=by
 unfold nafterS
 rw [decide_eq_false (by omega),cond_false,decide_eq_true hk,cond_true,hid,h]
 rfl
theorem after3 {p:PktS} {d':DealS} {c':CacheS} (hid:x.id=(X:Int)) (hk:x.deal.kind=3) (h:onextS x.deal (X:Int) x.cache p=some (d',true,c')):nafterS x p=some (d',true,{ x with cache:=c' }):=by
 unfold nafterS
 rw [decide_eq_false (by omega),cond_false,decide_eq_false (by omega),cond_false,decide_eq_true hk,cond_true,hid,h]
 rfl
theorem gr_data {c:Nat→Option Cp} {r:RowS} {M:List Int} {d:DealS} {p:PktS} (H:Ph c r M X d (some p)) (h1:d.step=1):p.data=r.data:=by
 cases H with
 |gr xs _ a1 a2 a3 a4 a5 a6=>exact a5
 |_=>omega
theorem pu_data {c:Nat→Option Cp} {r:RowS} {M:List Int} {d:DealS} {p:PktS} (H:Ph c r M X d (some p)) (h1:d.step=3):p.data=M:=by
 cases H with
 |pura zs _ a1 a2 a3 a4 a5 a6 a7=>exact a5
 |_=>omega
theorem mid_has {c:Nat→Option Cp} {r:RowS} {M:List Int} {d:DealS} {p:PktS} (H:Ph c r M X d (some p)) (h1:d.step=4∨d.step=5):c X≠none:=by
 cases H with
 |fra fs bs _ a1 a2 a3 a4 a5 a6 a7 a8=>exact (a4.ex X).2 (by simp)
 |bea fs bs _ a1 a2 a3 a4 a5 a6 a7 a8=>exact (a4.ex X).2 (by simp)
 |_=>omega
theorem ro_gone {d:DealS} {c':CacheS} (hC:COk g x.cache) (hk:d.kind=3) (D:DOk g x d) {d':DealS} (hk':d'.kind=3) (hl':d'.line=d.line) (hid:d'.id=d.id) (hs':d'.step=6) (hdt:d'.data=[]∨WOk g d'.data) (f4:∀ L',cv c' L'=if L'=d.line then none else cv x.cache L') (f6:∀ L',d.line.tmod g.sets=L'.tmod g.sets→cnt c' L'+1≤cnt x.cache L') :
 DOk g { x with cache:=c',deal:=d' } d':=by
 obtain ⟨-,b1,b2,o,b3,b4,b5⟩:=D.ro hk
 refine ⟨by omega,.inr (.inr hk'),by rw [hl']; exact D.ln,by rw [hid]; exact D.id,hdt,fun z=>by omega,fun z=>by omega,fun _=>⟨by omega,b1,fun _=>by show cv c' d'.line=none; rw [f4,hl',if_pos rfl],o,b3,fun z=>by rw [hl']; exact b4 z,fun z=>?_⟩,fun z=>absurd hk' z⟩
 obtain ⟨c1,c2,c3⟩:=b5 z
 refine ⟨by rw [hl']; exact c1,?_,.inr ?_⟩
 · show cv c' (oline g o)=none
   rw [f4]
   split
   · rfl
   · exact c2
 · show ((cnt c' (oline g o):Nat):Int)<g.ways
   have:=f6 (oline g o) c1
   have:=hC.ct (oline g o)
   omega
theorem ev_answer (hg:GOk g) (hP:POk g ops) (I:Inv g ops mem0 mem s) (hX:X<nn g) (h1:s.tk X=.ans) (h2:s.dv X=true):Fin g ops mem0 s X:=by
 have N:=I.nod X hX
 have h0:(s.dl X).step≠0:=fun z=>by have:=(I.net.idle X hX).2 z; rw [h1] at this; cases this
 have D:=I.dok X hX h0
 have hA:=I.net.aw X hX h1
 have hF:=hA.fit
 have hC:=N.co
 have hdeal:s.dl X=(s.nd X).deal:=rfl
 have hcX:cw g s (s.dl X).line X=cv (s.nd X).cache (s.dl X).line:=by unfold cw; rw [if_pos hX]
 have hself:upd (cw g s (s.dl X).line) X (cv (s.nd X).cache (s.dl X).line)=cw g s (s.dl X).line:=by rw [← hcX,upd_self]
 have hM:=lw_ok (L:=(s.dl X).line) hg I.ml I.mr D.ln.1 D.ln.2
 have hd4:=hA.lg.2.2.2.2.2.2.2.1
 have hheld:(s.dl X).step≠6→∃ r,row g s (s.dl X).line=some r∧WOk g r.data∧Ph (cw g s (s.dl X).line) r (lw g mem (s.dl X).line) X (s.dl X) (some (s.aw X)):=fun h6=>by
  obtain ⟨-,r,r1,r2,r3⟩:=I.held hX D.ln ⟨h0,fun _=>h1,fun z=>absurd z h6⟩
  have hao:ao s X=some (s.aw X):=by unfold ao; rw [h1]; rfl
  rw [hao] at r3
  exact ⟨r,r1,r2,r3⟩
 rcases D.kn with hk | hk | hk
 · obtain ⟨hst,hloc⟩:=D.rd hk
   rcases hst with e1 | e2 | e6
   · obtain ⟨b1,o,b2,b3,b4,b5,b6⟩:=hloc (by omega)
     obtain ⟨r,r1,r2,r3⟩:=hheld (by omega)
     have hpd:WOk g (s.aw X).data:=by rw [gr_data r3 e1]; exact r2
     by_cases hs:(s.aw X).state=0
     · obtain ⟨c',p1,p2,p3⟩:=a_home (X:=(X:Int)) hg hC hk hF e1 hs hpd D.ln (fun _=>b6)
       have hcc:cv c' (s.dl X).line=some ⟨-1,-1,false,(s.aw X).data⟩:=by rw [p3,if_pos rfl]
       have hPh:∀ r,row g s (s.dl X).line=some r→Ph (cw g s (s.dl X).line) r (lw g mem (s.dl X).line) X (s.dl X) (some (s.aw X))→Ph (upd (cw g s (s.dl X).line) X (cv c' (s.dl X).line)) r (lw g mem (s.dl X).line) X ⟨(s.dl X).kind,(s.dl X).line,(s.dl X).id,6,1,(X:Int),[],(s.dl X).next,(s.aw X).ptr⟩ none:=fun r' q1 q2=>by
        rw [hcc]; exact ph_home q2 e1 hk (by rw [hcX]; exact b5) hs
       refine fin_eff hg hP I hX h1 h2 (after1 N.id hk p1) rfl (by omega) rfl (by omega) rfl rfl (.inl rfl) p2 (fun L' hL'=>by rw [p3,if_neg hL']) hcc ?_ (fun z=>by omega) (fun _=>rfl) hPh ?_
       · have:=hPh r r1 r3
         rw [hcc] at this
         exact ph_data this (upd_eq _ _ _)
       · unfold asksF; rw [if_pos hk,if_pos e1]; omega
     · have p1:=a_att (c:=(s.nd X).cache) (X:=(X:Int)) hk hF e1 hs (by omega)
       refine fin_ask (c':=(s.nd X).cache) (hcL:=.inl rfl) hg hP I hX h1 h2 (after1 N.id hk p1) ⟨by show (2:Int)≤2; omega,by show (2:Int)≤6; omega⟩ (by omega) (fun z=>by cases z) rfl rfl hC (fun _ _=>rfl) (fun r' q1 q2=>by rw [hself]; exact ph_att q2 e1 hk (by rw [hcX]; exact b5) hs) ?_ ?_
       · exact ⟨by show (1:Int)≤2∧(2:Int)≤6; omega,.inl hk,D.ln,D.id,.inr hpd,fun _=>⟨.inr (.inl rfl),fun _=>⟨b1,o,b2,b3,b4,b5,b6⟩⟩,fun z=>by have z':(s.dl X).kind=2:=z; omega,fun z=>by have z':(s.dl X).kind=3:=z; omega,fun _ z=>by cases z⟩
       · rw [hself]
         unfold asksF
         rw [if_pos (show (s.dl X).kind=1 from hk),if_pos hk,if_pos e1]
         show 1+1≤2
         omega
   · obtain ⟨b1,o,b2,b3,b4,b5,b6⟩:=hloc (by omega)
     obtain ⟨r,r1,r2,r3⟩:=hheld (by omega)
     have hpm:=(ph_told r3 e2 (hM.pos hg) hk).1
     have hpd:WOk g (s.aw X).data:=by rw [hpm]; exact hM
     obtain ⟨c',p1,p2,p3⟩:=a_told (X:=(X:Int)) hg hC hk hF e2 hpd D.ln (fun _=>b6)
     have hcc:cv c' (s.dl X).line=some ⟨(s.dl X).head,-1,false,(s.aw X).data⟩:=by rw [p3,if_pos rfl]
     refine fin_eff hg hP I hX h1 h2 (after1 N.id hk p1) rfl (by omega) rfl (by omega) rfl rfl ?_ p2 (fun L' hL'=>by rw [p3,if_neg hL']) hcc hpm (fun z=>by omega) (fun _=>rfl) (fun r' q1 q2=>by rw [hcc]; exact (ph_told q2 e2 (hM.pos hg) hk).2) ?_
     · show (if (s.aw X).flag then (s.aw X).data else [])=[]∨WOk g (if (s.aw X).flag then (s.aw X).data else [])
       cases (s.aw X).flag with
       |true=>exact .inr hpd
       |false=>exact .inl rfl
     · unfold asksF; rw [if_pos hk,if_neg (by omega),if_pos e2]; omega
   · have p1:=a_done (c:=(s.nd X).cache) (X:=(X:Int)) hk hF e6
     exact fin_over hg hP I hX h1 h2 rfl (after1 N.id hk p1) e6
 · obtain ⟨hst,hloc⟩:=D.wr hk
   -- both walks
   have walk:∀ (e:DealS),(s.dl X).step≠6→e.kind=(s.dl X).kind→e.line=(s.dl X).line→e.id=(s.dl X).id→(e.data=[]∨WOk g e.data)→unextS (s.dl X) (X:Int) (s.nd X).cache (s.aw X)=(uwalkS e (X:Int) (s.nd X).cache).bind (fun y=>some (y.1,true,y.2)) →
    (∀ r,row g s (s.dl X).line=some r→Ph (cw g s (s.dl X).line) r (lw g mem (s.dl X).line) X (s.dl X) (some (s.aw X))→(nxt (cw g s (s.dl X).line) X e.next≠-1→Ph (cw g s (s.dl X).line) r (lw g mem (s.dl X).line) X ⟨e.kind,e.line,e.id,3,e.state,e.head,e.data,nxt (cw g s (s.dl X).line) X e.next,e.told⟩ none) ∧
     (nxt (cw g s (s.dl X).line) X e.next=-1→e.data=lw g mem (s.dl X).line∧Ph (upd (cw g s (s.dl X).line) X (some ⟨-1,-1,true,e.data⟩)) r (lw g mem (s.dl X).line) X ⟨e.kind,e.line,e.id,6,2,(X:Int),[],nxt (cw g s (s.dl X).line) X e.next,e.told⟩ none)) →
    oth (nn g) (cw g s (s.dl X).line) X+1≤asksF (nn g) (s.dl X) .ans (oth (nn g) (cw g s (s.dl X).line) X)→Fin g ops mem0 s X:=by
    intro e hs6 ek el ei ed hu hPh hasks
    obtain ⟨b1,o,b2,b3,b4,b5,b6⟩:=hloc hs6
    obtain ⟨r,r1,r2,r3⟩:=hheld hs6
    obtain ⟨q1,q2⟩:=hPh r r1 r3
    have hnx:nxt (cw g s (s.dl X).line) X e.next=nxo (cv (s.nd X).cache e.line) (X:Int) e.next:=by unfold nxt nxo; rw [hcX,el]; rfl
    obtain ⟨w1,w2⟩:=walk_eq (X:=(X:Int)) (d:=e) hg hC (by rw [el]; exact D.ln) (by rw [el]; exact b5)
    rw [← hnx] at w1 w2
    by_cases hn:nxt (cw g s (s.dl X).line) X e.next=-1
    · obtain ⟨hdM,P1⟩:=q2 hn
      obtain ⟨c',p1,p2,p3⟩:=w2 hn (by rw [hdM]; exact hM)
      rw [el] at p3
      have hcc:cv c' (s.dl X).line=some ⟨-1,-1,true,e.data⟩:=by rw [p3,if_pos rfl]
      rw [p1] at hu
      refine fin_eff hg hP I hX h1 h2 (after2 N.id hk hu) rfl hs6 ek (by omega) el ei (.inl rfl) p2 (fun L' hL'=>by rw [p3,if_neg hL']) hcc hdM (fun _=>rfl) (fun z=>by omega) (fun r' z1 z2=>?_) (by omega)
      rw [hcc]
      exact ((hPh r' z1 z2).2 hn).2
    · have p1:=w1 hn
      rw [p1] at hu
      refine fin_ask (c':=(s.nd X).cache) (hcL:=.inl rfl) hg hP I hX h1 h2 (after2 N.id hk hu) ⟨by show (2:Int)≤3; omega,by show (3:Int)≤6; omega⟩ hs6 (fun z=>by cases z) ek el hC (fun _ _=>rfl) (fun r' z1 z2=>by rw [hself]; exact (hPh r' z1 z2).1 hn) ?_ ?_
      · exact ⟨by show (1:Int)≤3∧(3:Int)≤6; omega,.inr (.inl (ek.trans hk)),by show 0≤e.line∧e.line<g.lines; rw [el]; exact D.ln,by show 0≤e.id∧e.id<4096; rw [ei]; exact D.id,ed,fun z=>by have z':e.kind=1:=z; omega,fun _=>⟨.inr (.inl rfl),fun _=>⟨b1,o,b2,b3,by show oline g o=e.line; rw [el]; exact b4,by show cv (s.nd X).cache e.line=none→((cnt (s.nd X).cache e.line:Nat):Int)<g.ways; rw [el]; exact b5,by show ∀ q,cv (s.nd X).cache e.line=some q→q.dirty=false; rw [el]; exact b6⟩⟩,fun z=>by have z':e.kind=3:=z; omega,fun _ z=>by cases z⟩
      · rw [hself]
        have e9:asksF (nn g) ⟨e.kind,e.line,e.id,3,e.state,e.head,e.data,nxt (cw g s (s.dl X).line) X e.next,e.told⟩ .req (oth (nn g) (cw g s (s.dl X).line) X)=oth (nn g) (cw g s (s.dl X).line) X:=by
         unfold asksF
         rw [if_neg (show ¬ e.kind=1 by omega),if_pos (show e.kind=2 by omega)]
         rfl
        rw [e9]
        exact hasks
   rcases hst with e1 | e3 | e6
   · obtain ⟨b1,o,b2,b3,b4,b5,b6⟩:=hloc (by omega)
     obtain ⟨r,r1,r2,r3⟩:=hheld (by omega)
     have hpd:WOk g (s.aw X).data:=by rw [gr_data r3 e1]; exact r2
     let Dt:List Int:=match cv (s.nd X).cache (s.dl X).line with | some q=>q.data | none=>(s.aw X).data
     have hDt:WOk g Dt:=by
      show WOk g (match cv (s.nd X).cache (s.dl X).line with | some q=>q.data | none=>(s.aw X).data)
      cases hc:cv (s.nd X).cache (s.dl X).line with
      |none=>exact hpd
      |some q=>exact hC.word hc
     refine walk ⟨(s.dl X).kind,(s.dl X).line,(s.dl X).id,(s.dl X).step,(s.aw X).state,(s.aw X).ptr,Dt,(s.aw X).ptr,(s.aw X).ptr⟩ (by omega) rfl rfl rfl (.inr hDt) (u_lock hg hC hk hF e1 (by omega) rfl) (fun r' z1 z2=>?_) ?_
     · refine ph_wlock z2 e1 hk (fun q hq=>b6 q (by rw [← hcX]; exact hq)) (D:=Dt) ?_ rfl
       rw [hcX]
       rfl
     · unfold asksF
       rw [if_neg (by omega),if_pos hk,if_pos e1]
       have:=oth_le (c:=cw g s (s.dl X).line) hX
       omega
   · obtain ⟨r,r1,r2,r3⟩:=hheld (by omega)
     have hpd:WOk g (s.aw X).data:=by rw [pu_data r3 e3]; exact hM
     let Dt:List Int:=match cv (s.nd X).cache (s.dl X).line with | some q=>(s.dl X).data | none=>(s.aw X).data
     have hDt:Dt=[]∨WOk g Dt:=by
      show (match cv (s.nd X).cache (s.dl X).line with | some q=>(s.dl X).data | none=>(s.aw X).data)=[]∨WOk g (match cv (s.nd X).cache (s.dl X).line with | some q=>(s.dl X).data | none=>(s.aw X).data)
      cases hc:cv (s.nd X).cache (s.dl X).line with
      |none=>exact .inr hpd
      |some q=>exact D.dt
     refine walk ⟨(s.dl X).kind,(s.dl X).line,(s.dl X).id,(s.dl X).step,(s.dl X).state,(s.dl X).head,Dt,(s.aw X).ptr,(s.dl X).told⟩ (by omega) rfl rfl rfl hDt (u_told hg hC hk hF e3 (by omega) rfl) (fun r' z1 z2=>?_) ?_
     · refine ph_wtold z2 e3 hk (D:=Dt) ?_ rfl
       rw [hcX]
       rfl
     · unfold asksF
       rw [if_neg (by omega),if_pos hk,if_neg (by omega),if_pos e3,if_pos rfl]
       omega
   · have p1:=u_done (X:=(X:Int)) hg hC hk hF e6
     exact fin_over hg hP I hX h1 h2 rfl (after2 N.id hk p1) e6
 · obtain ⟨hst,b1,b2,o,b3,b4,b5⟩:=D.ro hk
   have ha3:∀ (d':DealS) (t:Tk) (u:Nat),d'.kind=3→asksF (nn g) d' t u=if d'.step=1 then 3 else if d'.step=4 then 2 else if d'.step=5 then 1 else 0:=fun d' t u z=>by unfold asksF; rw [if_neg (by omega),if_neg (by omega)]
   have ha4:∀ (d':DealS) (u u':Nat),d'.kind=3→(if d'.step=1 then 3 else if d'.step=4 then 2 else if d'.step=5 then 1 else 0)+1≤(if (s.dl X).step=1 then 3 else if (s.dl X).step=4 then 2 else if (s.dl X).step=5 then 1 else 0)→asksF (nn g) d' .req u+1≤asksF (nn g) (s.dl X) .ans u':=fun d' u u' z w=>by
    rw [ha3 d' _ _ z,ha3 (s.dl X) _ _ hk]; exact w
   rcases hst with e1 | e4 | e5 | e6
   · have hL:=o_lock (X:=(X:Int)) hg hC hk hF e1
     obtain ⟨r,r1,r2,r3⟩:=hheld (by omega)
     cases hc:cv (s.nd X).cache (s.dl X).line with
     |none =>
      have hc':cv (s.nd X).cache (s.nd X).deal.line=none:=hc
      rw [hc] at hL
      have p1:onextS (s.nd X).deal (X:Int) (s.nd X).cache (s.aw X)=_:=hL
      refine fin_ask (c':=(s.nd X).cache) (hcL:=.inl rfl) hg hP I hX h1 h2 (after3 N.id hk p1) ⟨by show (2:Int)≤6; omega,by show (6:Int)≤6; omega⟩ (by omega) (fun _=>hk) rfl rfl hC (fun _ _=>rfl) (fun r' q1 q2=>by rw [hself]; exact ph_rgone q2 e1 (by rw [hcX]; exact hc)) ?_ ?_
      · refine ⟨by show (1:Int)≤6∧(6:Int)≤6; omega,.inr (.inr hk),D.ln,D.id,.inl rfl,fun z=>by have z':(s.dl X).kind=1:=z; omega,fun z=>by have z':(s.dl X).kind=2:=z; omega,fun _=>⟨.inr (.inr (.inr rfl)),b1,fun _=>hc,o,b3,b4,fun z=>?_⟩,fun z=>absurd hk z⟩
        exact b5 z
      · refine ha4 _ _ _ hk ?_
        simp [e1]
     |some q =>
      rw [hc] at hL
      obtain ⟨l1,l2,l3⟩:=hL
      have hqX:cw g s (s.dl X).line X=some q:=by rw [hcX]; exact hc
      by_cases hb:q.back=-1
      · by_cases hf:q.fwd=-1
        · obtain ⟨c',p1,f3,f4,f5,f6⟩:=l1 hb hf
          have hcc:cv c' (s.dl X).line=none:=by rw [f4,if_pos rfl]
          have hdt:(if q.dirty then q.data else [])=[]∨WOk g (if q.dirty then q.data else []):=by
           cases q.dirty with
           |true=>exact .inr (hC.word hc)
           |false=>exact .inl rfl
          refine fin_ask (hcL:=.inr ⟨hk,hcc⟩) hg hP I hX h1 h2 (after3 N.id hk p1) ⟨by show (2:Int)≤6; omega,by show (6:Int)≤6; omega⟩ (by omega) (fun _=>hk) rfl rfl f3 (fun L' hL'=>by rw [f4,if_neg hL']) (fun r' q1 q2=>by rw [hcc]; exact ph_ronly q2 e1 (hM.pos hg) hqX hb hf) (ro_gone hC hk D hk rfl rfl rfl hdt f4 f6) ?_
          refine ha4 _ _ _ hk ?_
          simp [e1]
        · have p1:=l2 hb hf
          refine fin_ask (c':=(s.nd X).cache) (hcL:=.inl rfl) hg hP I hX h1 h2 (after3 N.id hk p1) ⟨by show (2:Int)≤5; omega,by show (5:Int)≤6; omega⟩ (by omega) (fun z=>by cases z) rfl rfl hC (fun _ _=>rfl) (fun r' q1 q2=>by rw [hself]; exact ph_rhead q2 e1 hk hqX hb hf) ?_ ?_
          · exact ⟨by show (1:Int)≤5∧(5:Int)≤6; omega,.inr (.inr hk),D.ln,D.id,.inl rfl,fun z=>by have z':(s.dl X).kind=1:=z; omega,fun z=>by have z':(s.dl X).kind=2:=z; omega,fun _=>⟨.inr (.inr (.inl rfl)),b1,(fun z=>by cases z),o,b3,b4,b5⟩,fun z=>absurd hk z⟩
          · refine ha4 _ _ _ hk ?_
            simp [e1]
      · have p1:=l3 hb
        refine fin_ask (c':=(s.nd X).cache) (hcL:=.inl rfl) hg hP I hX h1 h2 (after3 N.id hk p1) ⟨by show (2:Int)≤4; omega,by show (4:Int)≤6; omega⟩ (by omega) (fun z=>by cases z) rfl rfl hC (fun _ _=>rfl) (fun r' q1 q2=>by rw [hself]; exact ph_rfront q2 e1 hk hqX hb) ?_ ?_
        · exact ⟨by show (1:Int)≤4∧(4:Int)≤6; omega,.inr (.inr hk),D.ln,D.id,.inl rfl,fun z=>by have z':(s.dl X).kind=1:=z; omega,fun z=>by have z':(s.dl X).kind=2:=z; omega,fun _=>⟨.inr (.inl rfl),b1,(fun z=>by cases z),o,b3,b4,b5⟩,fun z=>absurd hk z⟩
        · refine ha4 _ _ _ hk ?_
          simp [e1]
   · obtain ⟨r,r1,r2,r3⟩:=hheld (by omega)
     have hhas:cv (s.nd X).cache (s.dl X).line≠none:=by rw [← hcX]; exact mid_has r3 (.inl e4)
     obtain ⟨l1,l2⟩:=o_front (X:=(X:Int)) hg hC hk hF e4 hhas
     by_cases hn:(s.dl X).next=-1
     · obtain ⟨c',p1,f3,f4,f5,f6⟩:=l1 hn
       have hcc:cv c' (s.dl X).line=none:=by rw [f4,if_pos rfl]
       refine fin_ask (hcL:=.inr ⟨hk,hcc⟩) hg hP I hX h1 h2 (after3 N.id hk p1) ⟨by show (2:Int)≤6; omega,by show (6:Int)≤6; omega⟩ (by omega) (fun _=>hk) rfl rfl f3 (fun L' hL'=>by rw [f4,if_neg hL']) (fun r' q1 q2=>by rw [hcc]; exact ph_fout q2 e4 hn) (ro_gone hC hk D hk rfl rfl rfl (.inl rfl) f4 f6) ?_
       refine ha4 _ _ _ hk ?_
       simp [e4]
     · have p1:=l2 hn
       refine fin_ask (c':=(s.nd X).cache) (hcL:=.inl rfl) hg hP I hX h1 h2 (after3 N.id hk p1) ⟨by show (2:Int)≤5; omega,by show (5:Int)≤6; omega⟩ (by omega) (fun z=>by cases z) rfl rfl hC (fun _ _=>rfl) (fun r' q1 q2=>by rw [hself]; exact ph_fnext q2 e4 hn) ?_ ?_
       · exact ⟨by show (1:Int)≤5∧(5:Int)≤6; omega,.inr (.inr hk),D.ln,D.id,D.dt,fun z=>by have z':(s.dl X).kind=1:=z; omega,fun z=>by have z':(s.dl X).kind=2:=z; omega,fun _=>⟨.inr (.inr (.inl rfl)),b1,(fun z=>by cases z),o,b3,b4,b5⟩,fun z=>absurd hk z⟩
       · refine ha4 _ _ _ hk ?_
         simp [e4]
   · obtain ⟨r,r1,r2,r3⟩:=hheld (by omega)
     have hhas:cv (s.nd X).cache (s.dl X).line≠none:=by rw [← hcX]; exact mid_has r3 (.inr e5)
     obtain ⟨c',p1,f3,f4,f5,f6⟩:=o_behind (X:=(X:Int)) hg hC hk hF e5 hhas
     have hcc:cv c' (s.dl X).line=none:=by rw [f4,if_pos rfl]
     refine fin_ask (hcL:=.inr ⟨hk,hcc⟩) hg hP I hX h1 h2 (after3 N.id hk p1) ⟨by show (2:Int)≤6; omega,by show (6:Int)≤6; omega⟩ (by omega) (fun _=>hk) rfl rfl f3 (fun L' hL'=>by rw [f4,if_neg hL']) (fun r' q1 q2=>by rw [hcc]; exact ph_bout q2 e5) (ro_gone hC hk D hk rfl rfl rfl (.inl rfl) f4 f6) ?_
     refine ha4 _ _ _ hk ?_
     simp [e5]
   · have p1:=o_done (c:=(s.nd X).cache) (X:=(X:Int)) hk hF e6
     exact fin_over hg hP I hX h1 h2 rfl (after3 N.id hk p1) e6
end
end
section
open Go
section
variable {g:CfgS} {s s':St} {ops:Nat→List OpS} {mem0 mem mem':List Int} {k X h:Nat} {L:Int} {x:NodeS} {t:Tk}
def prB (x:NodeS):ProcS:=⟨x.proc.ops,x.proc.values,true⟩
def trB (x:NodeS) (tr:List EventS):List EventS:=if x.proc.begun then tr else tr++[⟨x.id,(x.proc.values.length:Int),false,0⟩]
theorem work_in {o:OpS} {f:FabS} {tr:List EventS} (h:cur x=some o) (h0:x.deal.step=0) (hl:x.proc.ops.length≤24) (hv:x.proc.values.length≤24) (ht:tr.length≤1000000):nworkS x f ⟨tr⟩=nworkS_j1 x (o,(x.proc.values.length:Int),true) f ⟨trB x tr⟩ (prB x):=by
 have hlt:=(List.getElem?_eq_some_iff.1 h).1
 unfold nworkS
 rw [cur_eq h hl hv,Option.bind_some]
 simp only [Bool.not_true,cond_false]
 rw [decide_eq_true h0,Bool.not_true]
 unfold nworkS_j0 prbegunS
 rw [cond_false,Option.bind_some]
 cases hb:x.proc.begun with
 |true =>
  have e1:trB x tr=tr:=by unfold trB; rw [hb]; rfl
  have e2:prB x=x.proc:=by
   unfold prB
   cases hp:x.proc with
   |mk a b c=>rw [hp] at hb; simp at hb; rw [hb]
  rw [e1,e2]
  rfl
 |false =>
  have e1:trB x tr=tr++[⟨x.id,(x.proc.values.length:Int),false,0⟩]:=by unfold trB; rw [hb]; rfl
  rw [Bool.not_false,cond_true]
  unfold prbeginS prleftS trbeginS
  dsimp only [letP]
  rw [hb,cond_false,wr_in (by omega) (by omega),Option.bind_some,decide_eq_false (by omega),cond_false,Option.bind_some,chk_true (by simp; omega),Option.bind_some,e1]
  rfl
theorem rp_begun (I:Inv g ops mem0 mem s) (hX:X<nn g) {o:OpS} (h:cur (s.nd X)=some o):∃ sn,replay (nn g) ops (fun _=>0,mem0) (trB (s.nd X) s.tr)=some (sn,mem)∧sn X=2*(s.nd X).proc.values.length+1∧(∀ k,k<nn g→k≠X→sn k=2*(s.nd k).proc.values.length+(if (s.nd k).proc.begun then 1 else 0))∧∀ k,k<nn g→(s.nd k).proc.values=told k (trB (s.nd X) s.tr):=by
 obtain ⟨sn,r1,r2⟩:=I.rp
 have N:=I.nod X hX
 have hx:=(r2 X hX).1
 unfold cur at h
 have hlt:=(List.getElem?_eq_some_iff.1 h).1
 rw [N.po] at hlt
 unfold trB
 cases hb:(s.nd X).proc.begun with
 |true =>
  rw [hb] at hx
  exact ⟨sn,r1,hx,fun k hk _=>(r2 k hk).1,fun k hk=>(r2 k hk).2⟩
 |false =>
  rw [hb] at hx
  have h2:=rp_begin (mem:=mem) r1 hX hx hlt
  refine ⟨upd sn X (sn X+1),?_,?_,fun k hk hne=>?_,fun k hk=>?_⟩
  · rw [N.id]; exact h2
  · rw [upd_eq,hx]; simp
  · rw [upd_ne hne]; exact (r2 k hk).1
  · rw [(r2 k hk).2]
    show _=told k (s.tr++[_])
    rw [told_app]
    unfold told
    simp
theorem trB_len {tr:List EventS}:(trB x tr).length≤tr.length+1:=by
 unfold trB
 split <;> simp
structure FinW (g:CfgS) (ops:Nat→List OpS) (mem0:List Int) (s:St) (X:Nat):Prop where
 ex:∃ s' mem',nworkS (s.nd X) ⟨fab g s⟩ ⟨s.tr⟩=some (true,s'.nd X,⟨fab g s'⟩,⟨s'.tr⟩)∧(∀ j,j≠X→s'.nd j=s.nd j)∧Inv g ops mem0 mem' s'∧mu g s'<mu g s∧(∃ e,s'.tr=s.tr++e)∧NChg g s X (s.nd X) (s'.nd X)
theorem trB_ex {tr:List EventS}:∃ e,trB x tr=tr++e:=by
 unfold trB
 split
 · exact ⟨[],(List.append_nil _).symm⟩
 · exact ⟨_,rfl⟩
theorem fab_idle (N:Net g (nn g) s.dl s.tk s.dv s.Q s.AP s.aw) (hX:X<nn g) (T:GoOn s s' X x .idle) (h1:s.tk X=.idle):fab g s'=fab g s:=by
 have h:=(fab_turn N hX T (.inr h1) (.inr rfl)).1
 rw [if_neg (by simp)] at h
 rw [h]
 have e:AC g s X=⟨(AC g s X).pool,⟨[],1⟩⟩:=by
  unfold AC
  rw [h1]
  simp
 rw [← e,upd_self]
 rfl
theorem fin_begin (hg:GOk g) (hP:POk g ops) (I:Inv g ops mem0 mem s) (hX:X<nn g) (h1:s.tk X=.idle) {o:OpS} (hcur:cur (s.nd X)=some o) {kind line:Int} (hW:nworkS (s.nd X) ⟨fab g s⟩ ⟨s.tr⟩=(nbegS { s.nd X with proc:=prB (s.nd X) } ⟨fab g s⟩ kind line).bind fun y=>some (true,y.1,y.2,⟨trB (s.nd X) s.tr⟩))
 (hk:kind=1∨kind=2∨kind=3) (hln:0≤line∧line<g.lines)
 (hr:kind=1→o.kind=1∧oline g o=line∧cv (s.nd X).cache line=none∧((cnt (s.nd X).cache line:Nat):Int)<g.ways)
 (hw:kind=2→(o.kind=2∨o.kind=3)∧oline g o=line∧(cv (s.nd X).cache line=none→((cnt (s.nd X).cache line:Nat):Int)<g.ways)∧∀ q,cv (s.nd X).cache line=some q→q.dirty=false)
 (ho:kind=3→(o.kind=4→oline g o=line)∧(o.kind≠4→line.tmod g.sets=(oline g o).tmod g.sets∧cv (s.nd X).cache (oline g o)=none∧cv (s.nd X).cache line≠none∧fullB g (s.nd X)=true)):FinW g ops mem0 s X:=by
 have N:=I.nod X hX
 have hst:(s.dl X).step=0:=(I.net.idle X hX).1 h1
 have hnh:¬ Held (s.dl X) (s.tk X):=fun z=>z.1 hst
 obtain ⟨hO,hlt,hat,hl24,hv24⟩:=cur_ok hP N hcur
 have hnx:=N.nx
 let d':DealS:=⟨kind,line,(s.nd X).next,1,0,-1,[],-1,-1⟩
 let x':NodeS:={ s.nd X with proc:=prB (s.nd X),deal:=d',next:=((s.nd X).next+1).tmod 4096 }
 let s':St:={ s with nd:=upd s.nd X x',tk:=upd s.tk X .req,dv:=upd s.dv X false,tr:=trB (s.nd X) s.tr }
 have T:GoOn s s' X x' .req:=⟨rfl,rfl,rfl,rfl,rfl,rfl,rfl⟩
 have hcw:cw g s'=cw g s:=cw_con fun k=>by
  show (upd s.nd X x' k).cache=_
  by_cases ek:k=X
  · subst ek; rw [upd_eq]
  · rw [upd_ne ek]
 have hnx':0≤((s.nd X).next+1).tmod 4096∧((s.nd X).next+1).tmod 4096<4096:=⟨Int.tmod_nonneg _ (by omega),Int.tmod_lt_of_pos _ (by omega)⟩
 have N':NOk g ops X x':=⟨N.id,N.c,N.hc,N.hn,N.hdc,N.co,N.to,N.po,N.vl,fun _=>hlt,hnx',N.wz⟩
 have hD:DOk g x' d':=by
  refine ⟨by show (1:Int)≤1∧(1:Int)≤6; omega,hk,hln,hnx,.inl rfl,fun z=>⟨.inl rfl,fun _=>?_⟩,fun z=>⟨.inl rfl,fun _=>?_⟩,fun z=>⟨.inl rfl,rfl,(fun w=>by cases w),o,hcur,?_,fun w=>?_⟩,fun _ w=>by cases w⟩
  · obtain ⟨a,b,c,d⟩:=hr z
    exact ⟨rfl,o,hcur,a,b,c,d⟩
  · obtain ⟨a,b,c,d⟩:=hw z
    exact ⟨rfl,o,hcur,a,b,c,d⟩
  · exact (ho z).1
  · obtain ⟨a,b,c,d⟩:=(ho z).2 w
    exact ⟨a,b,.inl c⟩
 obtain ⟨sn,r1,r2,r3,r4⟩:=rp_begun I hX hcur
 have hnown:∀ L,0≤L→L<g.lines→own g s L=some (X:Int)→False:=fun L l0 l1=>I.notown l0 l1 fun _=>hnh
 have hnh':¬ Held x'.deal .req:=fun z=>by have:=z.2.1 rfl; cases this
 have I':Inv g ops mem0 mem s':=by
  refine I.turn hX T N' (fun _=>hD) (.inr h1) (.inl ⟨rfl,by show (1:Int)≠0; omega⟩) ⟨fun z=>absurd z hnh,fun z=>absurd z hnh'⟩ (fun z=>absurd z hnh') ?_ ⟨I.ml,I.mr⟩ ⟨sn,r1,fun k hk'=>?_⟩
  · intro L l0 l1 r' q1 q2 q3
    rw [hcw]
    exact I.lineStay T l0 l1 (hnown L l0 l1) q3
  · show sn k=2*(upd s.nd X x' k).proc.values.length+(if (upd s.nd X x' k).proc.begun then 1 else 0)∧(upd s.nd X x' k).proc.values=told k (trB (s.nd X) s.tr)
    by_cases ek:k=X
    · subst ek; rw [upd_eq,r2]; exact ⟨rfl,r4 k hk'⟩
    · rw [upd_ne ek]; exact ⟨r3 k hk' ek,r4 k hk'⟩
 obtain ⟨eB,hB⟩:=trB_ex (x:=s.nd X) (tr:=s.tr)
 refine ⟨s',mem,?_,fun j hj=>upd_ne hj,I',mu_lt hX ?_ fun j hj hne=>?_,⟨eB,hB⟩,?_⟩
 rotate_left 3
 · have f2:s'.nd X=x':=upd_eq _ _ _
   rw [f2]
   refine ⟨.inl rfl,fun L hL=>.inl hL,fun L a b=>absurd b a,fun L q a b=>.inl ⟨q,a,b⟩,fun _=>.inr ⟨o,hcur,fun z=>(hw z).1,fun z=>?_⟩⟩
   by_cases h4:o.kind=4
   · exact .inl h4
   · exact .inr ((ho z).2 h4).2.2.2
 · obtain ⟨hf,hp⟩:=fab_turn I.net hX T (.inr h1) (.inl rfl)
   rw [if_pos rfl] at hf
   have e:AC g s X=⟨(AC g s X).pool,⟨[],1⟩⟩:=by
    unfold AC
    rw [h1]
    simp
   rw [← e,upd_self] at hf
   have hask:=asks_ok hg I' hX T N' (by show (1:Int)≠0; omega) (A:=AC g s) hp
   have f3:s'.nd X=x':=upd_eq _ _ _
   rw [hW,hf,f3]
   unfold nbegS dbeginS
   dsimp only [letP]
   rw [Option.bind_some,wr_in (by omega) (by omega)]
   show ((naskS x' ⟨csOf (nn g) (RC g s) (AC g s)⟩).bind _).bind _=_
   rw [hask]
   rfl
 · have f1:s'.dl X=d':=by rw [T.dl,upd_eq]
   have f2:s'.nd X=x':=upd_eq _ _ _
   have f4:s'.tk X=.req:=upd_eq _ _ _
   have f5:s'.dv X=false:=upd_eq _ _ _
   unfold cost
   rw [f1,f2,f4,f5]
   generalize oth (nn g) (cw g s' d'.line) X=o'
   unfold costF
   rw [if_neg (show ¬ d'.step=0 by show ¬ (1:Int)=0; omega),if_pos hst]
   have g1:x'.proc.ops=(s.nd X).proc.ops:=rfl
   have g2:x'.proc.values=(s.nd X).proc.values:=rfl
   rw [g1,g2]
   have g3:(s.nd X).proc.ops[(s.nd X).proc.values.length]?=some o:=hcur
   have g4:(s.nd X).proc.values.length<(s.nd X).proc.ops.length:=by rw [N.po]; exact hlt
   rw [g3]
   generalize (s.nd X).proc.ops.length=a at g4 ⊢
   generalize (s.nd X).proc.values.length=b at g4 ⊢
   rw [if_neg (show ¬ a - b=0 by omega)]
   have hge:(5*nn g+22)≤(if fullB g (s.nd X)=true then 5*nn g+43 else 5*nn g+22):=by split <;> omega
   rcases hk with z | z | z
   · have e1:asksF (nn g) d' .req o'=2:=by unfold asksF; rw [if_pos (show d'.kind=1 from z)]; rfl
     rw [if_neg (show ¬ d'.kind=3 by show ¬ kind=3; omega),if_neg (show ¬ d'.step=6 by show ¬ (1:Int)=6; omega),e1]
     show _+5*2+5<_
     omega
   · have e1:asksF (nn g) d' .req o'=nn g:=by unfold asksF; rw [if_neg (show ¬ d'.kind=1 by show ¬ kind=1; omega),if_pos (show d'.kind=2 from z)]; rfl
     rw [if_neg (show ¬ d'.kind=3 by show ¬ kind=3; omega),if_neg (show ¬ d'.step=6 by show ¬ (1:Int)=6; omega),e1]
     show _+5*nn g+5<_
     omega
   · have e1:asksF (nn g) d' .req o'=3:=by unfold asksF; rw [if_neg (show ¬ d'.kind=1 by show ¬ kind=1; omega),if_neg (show ¬ d'.kind=2 by show ¬ kind=2; omega)]; rfl
     rw [if_pos (show d'.kind=3 from z),e1]
     simp only
     by_cases h4:o.kind=4
     · rw [if_pos h4]
       show _+0+5*3+5<_
       omega
     · rw [if_neg h4,((ho z).2 h4).2.2.2,if_pos rfl]
       show _+(5*nn g+22)+5*3+5<_
       omega
 · have hn:s'.nd j=s.nd j:=upd_ne hne
   exact cost_con (by rw [hn]) (by show (s'.nd j).deal=_; rw [hn]; rfl) (upd_ne hne) (upd_ne hne) (fun _ _=>by rw [hcw]) (by rw [hn]; exact fun z=>z)
theorem fin_end (hg:GOk g) (hP:POk g ops) (I:Inv g ops mem0 mem s) (hX:X<nn g) (h1:s.tk X=.idle) {o:OpS} (hcur:cur (s.nd X)=some o) {c':CacheS} {v:Int} (hW:nworkS (s.nd X) ⟨fab g s⟩ ⟨s.tr⟩=some (true,{ s.nd X with cache:=c',proc:=pEnd (s.nd X) v },⟨fab g s⟩,⟨trB (s.nd X) s.tr++[eEnd (s.nd X) v]⟩))
 (hC:COk g c') (hv:v=opVal mem o) (hcase:o.kind=4∧c'=(s.nd X).cache∧cv (s.nd X).cache (oline g o)=none∨o.kind≠4∧∃ q,cv (s.nd X).cache (oline g o)=some q∧(o.kind=1∨q.dirty=true)∧∀ L',cv c' L'=if L'=oline g o then some ⟨q.fwd,q.back,q.dirty,opLine g q.data o⟩ else cv (s.nd X).cache L'):FinW g ops mem0 s X:=by
 have N:=I.nod X hX
 have hst:(s.dl X).step=0:=(I.net.idle X hX).1 h1
 have hnh:¬ Held (s.dl X) (s.tk X):=fun z=>z.1 hst
 obtain ⟨hO,hlt,hat,hl24,hv24⟩:=cur_ok hP N hcur
 obtain ⟨a1,a2,a3,a4,a5⟩:=addr_eq hg hO
 let x':NodeS:={ s.nd X with cache:=c',proc:=pEnd (s.nd X) v }
 let s':St:={ s with nd:=upd s.nd X x',tk:=upd s.tk X .idle,dv:=upd s.dv X false,tr:=trB (s.nd X) s.tr++[eEnd (s.nd X) v] }
 have T:GoOn s s' X x' .idle:=⟨rfl,rfl,rfl,rfl,rfl,rfl,rfl⟩
 have N':NOk g ops X x':=⟨N.id,N.c,N.hc,N.hn,N.hdc,hC,N.to,N.po,by show ((s.nd X).proc.values++[_]).length≤_; simp; omega,fun z=>(by cases z),N.nx,N.wz⟩
 have hoth:∀ L',L'≠oline g o→cv c' L'=cv (s.nd X).cache L':=fun L' hL'=>by
  rcases hcase with ⟨-,h,-⟩ | ⟨-,q,-,-,h⟩
  · rw [h]
  · rw [h,if_neg hL']
 have hcw:=cw_one (g:=g) (s:=s) (s':=s') (x:=x') (L:=oline g o) hX rfl hoth
 have hcX:cw g s (oline g o) X=cv (s.nd X).cache (oline g o):=by unfold cw; rw [if_pos hX]
 obtain ⟨sn,r1,r2,r3,r4⟩:=rp_begun I hX hcur
 have hnown:∀ L,0≤L→L<g.lines→own g s L=some (X:Int)→False:=fun L l0 l1=>I.notown l0 l1 fun _=>hnh
 have hst':x'.deal.step=0:=hst
 have hdl:s'.dl=s.dl:=by
  rw [T.dl]
  show upd s.dl X (s.dl X)=s.dl
  exact upd_self _ _
 have hao:ao s'=ao s:=by
  funext j
  unfold ao
  show (if upd s.tk X .idle j=.ans then _ else _)=_
  by_cases ej:j=X
  · subst ej; rw [upd_eq,h1]
  · rw [upd_ne ej]
 have I':Inv g ops mem0 (opMem mem o) s':=by
  refine I.turn hX T N' (fun z=>absurd hst' z) (.inr h1) (.inr ⟨rfl,hst'⟩) ⟨fun z=>absurd z hnh,fun z=>absurd hst' z.1⟩ (fun z=>absurd hst' z.1) ?_ ⟨by rw [opMem_len]; exact I.ml,opMem_rng hO.v I.mr⟩ ⟨upd sn X (sn X+1),?_,fun k hk'=>?_⟩
  · intro L l0 l1 r' q1 q2 q3
    rw [hcw L,hdl,hao,lw_op hg hO l0]
    by_cases e:L=oline g o
    · subst e
      rw [if_pos rfl,if_pos rfl]
      show LineI (upd (cw g s (oline g o)) X (cv c' (oline g o))) r' _ _ _ _
      rcases hcase with ⟨k4,h,-⟩ | ⟨k4,q,hq,hd,h⟩
      · have e1:opLine g (lw g mem (oline g o)) o=lw g mem (oline g o):=by unfold opLine; rw [if_neg (by omega),if_neg (by omega)]
        rw [e1,h,← hcX,upd_self]
        exact q3
      · have hqM:q.data=lw g mem (oline g o):=by
         have hq':cw g s (oline g o) X=some q:=by rw [hcX]; exact hq
         cases how:own g s (oline g o) with
         |none=>rw [how] at q3; obtain ⟨xs,hN⟩:=q3; exact hN.dt X q hq'
         |some y=>rw [how] at q3; exact ph_data q3 hq'
        rw [h,if_pos rfl]
        by_cases hk1:o.kind=1
        · have e1:∀ D,opLine g D o=D:=fun D=>by unfold opLine; rw [if_neg (by omega),if_neg (by omega)]
          rw [e1,e1]
          have e2:(⟨q.fwd,q.back,q.dirty,q.data⟩:Cp)=q:=rfl
          rw [e2,← hq,← hcX,upd_self]
          exact q3
        · have hd':q.dirty=true:=by
           rcases hd with hd | hd
           · exact absurd hd hk1
           · exact hd
          have hq':cw g s (oline g o) X=some q:=by rw [hcX]; exact hq
          rw [hd',← hqM]
          rw [← hqM] at q3
          cases how:own g s (oline g o) with
          |none =>
           rw [how] at q3
           obtain ⟨xs,hN⟩:=q3
           exact ⟨xs,norm_write hN hq' hd'⟩
          |some y =>
           rw [how] at q3
           have hy:=(I.other l0 l1 (hnown _ l0 l1) y how).1
           exact ph_write (show Ph _ _ _ y.toNat _ _ from q3) hq' hd' (.inl (Ne.symm hy))
    · rw [if_neg e,if_neg e]
      exact q3
  · have h2:=rp_end (o:=o) (u:=v) r1 hX r2 hat hv
    show replay _ _ _ (trB (s.nd X) s.tr++[eEnd (s.nd X) v])=_
    unfold eEnd
    rw [N.id]
    exact h2
  · show upd sn X (sn X+1) k=2*(upd s.nd X x' k).proc.values.length+(if (upd s.nd X x' k).proc.begun then 1 else 0)∧(upd s.nd X x' k).proc.values=told k (trB (s.nd X) s.tr++[eEnd (s.nd X) v])
    rw [told_app,← r4 k hk']
    by_cases ek:k=X
    · subst ek
      rw [upd_eq,upd_eq,r2]
      refine ⟨?_,?_⟩
      · show _=2*((s.nd k).proc.values++[v]).length+0
        simp
        omega
      · show (s.nd k).proc.values++[v]=_
        unfold eEnd told
        rw [N.id]
        simp
    · rw [upd_ne ek,upd_ne ek]
      refine ⟨r3 k hk' ek,?_⟩
      unfold eEnd told
      rw [N.id]
      have:¬ (X:Int)=(k:Int):=by omega
      simp [this]
 have hpres:∀ L j,j≠X→(cw g s' L j).isSome=(cw g s L j).isSome:=fun L j hj=>by
  rw [hcw L]
  by_cases e:L=oline g o
  · rw [if_pos e,upd_ne hj,e]
  · rw [if_neg e]
 obtain ⟨eB,hB⟩:=trB_ex (x:=s.nd X) (tr:=s.tr)
 refine ⟨s',opMem mem o,?_,fun j hj=>upd_ne hj,I',mu_lt hX ?_ fun j hj hne=>?_,⟨eB++[eEnd (s.nd X) v],by show trB (s.nd X) s.tr++_=_; rw [hB,List.append_assoc]⟩,?_⟩
 rotate_left 3
 · have f2:s'.nd X=x':=upd_eq _ _ _
   rw [f2]
   have hsame:∀ L,cv c' L=cv (s.nd X).cache L∨∃ q D,cv (s.nd X).cache L=some q∧cv c' L=some ⟨q.fwd,q.back,q.dirty,D⟩:=fun L=>by
    by_cases e:L=oline g o
    · rcases hcase with ⟨-,z,-⟩ | ⟨-,q,z1,-,z2⟩
      · exact .inl (by rw [z])
      · exact .inr ⟨q,_,by rw [e]; exact z1,by rw [z2,if_pos e]⟩
    · exact .inl (hoth L e)
   refine ⟨.inr ⟨o,_,hcur,rfl,fun z=>?_,fun z=>?_⟩,fun L hL=>.inl ?_,fun L a b=>?_,fun L q a b=>.inl ?_,fun z=>absurd hst' z⟩
   · rcases hcase with ⟨-,y1,y2⟩ | ⟨y,-⟩
     · show cv c' (oline g o)=none; rw [y1]; exact y2
     · exact absurd z y
   · rcases hcase with ⟨y,-⟩ | ⟨-,q,y1,-,y2⟩
     · exact absurd y z
     · show cv c' (oline g o)≠none; rw [y2,if_pos rfl]; simp
   · have hL':cv c' L≠none:=hL
     rcases hsame L with z | ⟨q,D,z1,z2⟩
     · rw [← z]; exact hL'
     · rw [z1]; simp
   · have b':cv c' L=none:=b
     rcases hsame L with z | ⟨q,D,z1,z2⟩
     · exact absurd (z▸b') a
     · rw [z2] at b'; cases b'
   · have a':cv c' L=some q:=a
     rcases hsame L with z | ⟨q0,D,z1,z2⟩
     · exact ⟨q,by rw [← z]; exact a',b⟩
     · rw [z2] at a'
       obtain rfl:=Option.some.inj a'
       exact ⟨q0,z1,b⟩
 · have hf:=fab_idle I.net hX T h1
   have f3:s'.nd X=x':=upd_eq _ _ _
   rw [hW,hf,f3]
 · have f2:s'.nd X=x':=upd_eq _ _ _
   unfold cost
   rw [hdl,f2]
   unfold costF
   rw [if_pos hst,if_pos hst]
   have g1:x'.proc.ops=(s.nd X).proc.ops:=rfl
   have g2:x'.proc.values.length=(s.nd X).proc.values.length+1:=by show ((s.nd X).proc.values++[_]).length=_; simp
   rw [g1,g2]
   have g4:(s.nd X).proc.values.length<(s.nd X).proc.ops.length:=by rw [N.po]; exact hlt
   generalize (s.nd X).proc.ops.length=a at g4 ⊢
   generalize (s.nd X).proc.values.length=b at g4 ⊢
   rw [if_neg (show ¬ a - b=0 by omega),show a - (b+1)=a - b - 1 by omega]
   by_cases z:a - b - 1=0
   · rw [if_pos z]; split <;> omega
   · rw [if_neg z]
     have e:(a - b - 1)*(5*nn g+43)=(a - b - 1 - 1)*(5*nn g+43)+(5*nn g+43):=by
      rw [← Nat.succ_mul]
      congr 1
      omega
     rw [e]
     split <;> split <;> omega
 · have hn:s'.nd j=s.nd j:=upd_ne hne
   refine cost_con (by rw [hn]) (by rw [hdl]) (upd_ne hne) (upd_ne hne) (fun k2 s3=>?_) (by rw [hn]; exact fun z=>z)
   -- who purges has the line locked: nobody but the one copy could be written
   unfold oth
   congr 1
   refine List.filter_congr fun i _=>?_
   by_cases hi:i=X
   · subst hi
     have:(cw g s' (s.dl j).line i).isSome=(cw g s (s.dl j).line i).isSome:=by
      rw [hcw]
      by_cases e:(s.dl j).line=oline g o
      · rw [if_pos e,upd_eq,e,hcX]
        rcases hcase with ⟨-,h,-⟩ | ⟨-,q,hq,-,h⟩
        · show (cv c' _).isSome=_; rw [h]
        · show (cv c' _).isSome=_; rw [h,if_pos rfl,hq]; rfl
      · rw [if_neg e]
     rw [this]
   · rw [hpres _ i hi]
end
end
section
open Go
section
variable {g:CfgS} {s s':St} {ops:Nat→List OpS} {mem0 mem mem':List Int} {k X h:Nat} {L:Int} {x:NodeS} {t:Tk}
theorem ev_work (hg:GOk g) (hP:POk g ops) (I:Inv g ops mem0 mem s) (hX:X<nn g) (h1:s.tk X=.idle) {o:OpS} (hcur:cur (s.nd X)=some o):FinW g ops mem0 s X:=by
 have N:=I.nod X hX
 have hst:(s.dl X).step=0:=(I.net.idle X hX).1 h1
 have hnh:¬ Held (s.dl X) (s.tk X):=fun z=>z.1 hst
 obtain ⟨hO,hlt,hat,hl24,hv24⟩:=cur_ok hP N hcur
 obtain ⟨a1,a2,a3,a4,a5⟩:=addr_eq hg hO
 have htl:=I.trLen hg hP
 have hC:=N.co
 have htB:=trB_len (x:=s.nd X) (tr:=s.tr)
 have hW:=work_in (f:=⟨fab g s⟩) (tr:=s.tr) hcur hst hl24 hv24 (by omega)
 have hln:plineS (s.nd X).c o.addr=some (oline g o,oword g o):=by rw [N.c]; exact line_ok hg hO
 have hfe:=find_ok hg hC (oline g o)
 have hcvf:cv (s.nd X).cache (oline g o)=(cf (s.nd X).cache.l (oline g o)).map toCp:=rfl
 have hW2:nworkS (s.nd X) ⟨fab g s⟩ ⟨s.tr⟩=(bif decide (o.kind=4) then (nworkS_j2 (s.nd X) (prB (s.nd X)) ⟨trB (s.nd X) s.tr⟩ ⟨fab g s⟩ (o,(((s.nd X).proc.values.length:Nat):Int),true) (oline g o,oword g o) (match cf (s.nd X).cache.l (oline g o) with | some e=>(e,true) | none=>(ent0,false))) !(match cf (s.nd X).cache.l (oline g o) with | some e=>(e,true) | none=>(ent0,false)).2
  else (nworkS_j2 (s.nd X) (prB (s.nd X)) ⟨trB (s.nd X) s.tr⟩ ⟨fab g s⟩ (o,(((s.nd X).proc.values.length:Nat):Int),true) (oline g o,oword g o) (match cf (s.nd X).cache.l (oline g o) with | some e=>(e,true) | none=>(ent0,false))) false):=by
  rw [hW]
  unfold nworkS_j1
  simp only
  rw [hln,Option.bind_some]
  simp only
  rw [hfe,Option.bind_some]
  rfl
 have hEnd:∀ (c':CacheS) (v:Int),nendS { s.nd X with cache:=c',proc:=prB (s.nd X) } ⟨trB (s.nd X) s.tr⟩ v=some ({ s.nd X with cache:=c',proc:=pEnd (s.nd X) v },⟨trB (s.nd X) s.tr++[eEnd (s.nd X) v]⟩):=fun c' v=>end_eq (x:={ s.nd X with cache:=c',proc:=prB (s.nd X) }) (o:=o) hcur rfl hl24 hv24 (by omega)
 have k0:=hO.k0
 have k1:=hO.k1
 cases hcf:cf (s.nd X).cache.l (oline g o) with
 |none =>
  rw [hcf] at hW2 hcvf
  have hcn:cv (s.nd X).cache (oline g o)=none:=hcvf
  by_cases h4:o.kind=4
  · refine fin_end hg hP I hX h1 hcur (c':=(s.nd X).cache) (v:=0) ?_ hC (by unfold opVal; rw [if_neg (by omega)]) (.inl ⟨h4,rfl,hcn⟩)
    rw [hW2,decide_eq_true h4,cond_true]
    unfold nworkS_j2
    simp only [Bool.not_false,cond_true]
    have:=hEnd (s.nd X).cache 0
    have e:({ s.nd X with cache:=(s.nd X).cache,proc:=prB (s.nd X) }:NodeS)={ s.nd X with proc:=prB (s.nd X) }:=rfl
    rw [e] at this
    rw [this]
    rfl
  · have hW3:nworkS (s.nd X) ⟨fab g s⟩ ⟨s.tr⟩=nworkS_j3 (s.nd X) (oline g o,oword g o) (prB (s.nd X)) ⟨trB (s.nd X) s.tr⟩ ⟨fab g s⟩ (o,(((s.nd X).proc.values.length:Nat):Int),true) false:=by
     rw [hW2,decide_eq_false h4,cond_false]
     unfold nworkS_j2
     rw [cond_false]
     simp only
     rw [decide_eq_false h4]
     rfl
    unfold nworkS_j3 at hW3
    rw [cond_false] at hW3
    simp only at hW3
    rw [full_ok hg hC a1,Option.bind_some] at hW3
    by_cases hf:g.ways≤((cnt (s.nd X).cache (oline g o):Nat):Int)
    · rw [decide_eq_true ⟨hcn,hf⟩,cond_true] at hW3
      obtain ⟨v,v1,v2,v3,v4,v5⟩:=vic_ok hg hC a1 hf
      rw [v1,Option.bind_some] at hW3
      refine fin_begin hg hP I hX h1 hcur hW3 (.inr (.inr rfl)) ⟨v4,v5⟩ (fun z=>by omega) (fun z=>by omega) fun _=>⟨fun z=>absurd z h4,fun _=>⟨v3,hcn,v2,?_⟩⟩
      unfold fullB
      rw [hcur]
      show ((cv (s.nd X).cache (oline g o)).isNone && decide (g.ways≤((cnt (s.nd X).cache (oline g o):Nat):Int)))=true
      rw [hcn,decide_eq_true hf]
      rfl
    · rw [decide_eq_false (fun z=>hf z.2),cond_false] at hW3
      by_cases hk1:o.kind=1
      · rw [decide_eq_true hk1,cond_true] at hW3
        exact fin_begin hg hP I hX h1 hcur hW3 (.inl rfl) ⟨a1,a2⟩ (fun _=>⟨hk1,rfl,hcn,by omega⟩) (fun z=>by omega) (fun z=>by omega)
      · rw [decide_eq_false hk1,cond_false] at hW3
        exact fin_begin hg hP I hX h1 hcur hW3 (.inr (.inl rfl)) ⟨a1,a2⟩ (fun z=>by omega) (fun _=>⟨by omega,rfl,fun _=>(by omega),fun q hq=>(by rw [hcn] at hq; cases hq)⟩) (fun z=>by omega)
 |some e =>
  rw [hcf] at hW2 hcvf
  have hcs:cv (s.nd X).cache (oline g o)=some (toCp e):=hcvf
  by_cases h4:o.kind=4
  · have hW3:nworkS (s.nd X) ⟨fab g s⟩ ⟨s.tr⟩=(nbegS { s.nd X with proc:=prB (s.nd X) } ⟨fab g s⟩ 3 (oline g o)).bind fun y=>some (true,y.1,y.2,⟨trB (s.nd X) s.tr⟩):=by
     rw [hW2,decide_eq_true h4,cond_true]
     unfold nworkS_j2
     simp only [Bool.not_true,cond_false]
     rw [decide_eq_true h4,cond_true]
    exact fin_begin hg hP I hX h1 hcur hW3 (.inr (.inr rfl)) ⟨a1,a2⟩ (fun z=>by omega) (fun z=>by omega) fun _=>⟨fun _=>rfl,fun z=>absurd h4 z⟩
  · have hW3:nworkS (s.nd X) ⟨fab g s⟩ ⟨s.tr⟩=nworkS_j3 (s.nd X) (oline g o,oword g o) (prB (s.nd X)) ⟨trB (s.nd X) s.tr⟩ ⟨fab g s⟩ (o,(((s.nd X).proc.values.length:Nat):Int),true) (decide (o.kind=1∨e.dirty=true)):=by
     rw [hW2,decide_eq_false h4,cond_false]
     unfold nworkS_j2
     rw [cond_false]
     simp only
     rw [decide_eq_false h4,cond_false,cond_true]
     by_cases hk1:o.kind=1
     · rw [decide_eq_true hk1,cond_true,decide_eq_true (.inl hk1)]
     · rw [decide_eq_false hk1,cond_false]
       cases hd:e.dirty with
       |true=>rw [decide_eq_true (.inr rfl)]
       |false=>rw [decide_eq_false (by simp [hk1])]
    unfold nworkS_j3 at hW3
    by_cases hit:o.kind=1∨e.dirty=true
    · rw [decide_eq_true hit,cond_true] at hW3
      simp only at hW3
      obtain ⟨c1,t1,t2,t3,t4⟩:=touch_ok hg hC (L:=oline g o) (by rw [hcs]; simp)
      rw [t1,Option.bind_some] at hW3
      simp only at hW3
      obtain ⟨c2,e1,e2,e3,e4⟩:=eff_ok (x:={ s.nd X with cache:=c1,proc:=prB (s.nd X) }) (tr:=trB (s.nd X) s.tr) (o:=o) (q:=toCp e) hg N.c hO hcur h4 rfl hl24 hv24 (by omega) t2 (by rw [t3]; exact hcs) (fun z=>by
       rcases hit with hit | hit
       · exact absurd hit z
       · exact hit)
      rw [e1,Option.bind_some] at hW3
      have hqM:e.data=lw g mem (oline g o):=by
       have hq':cw g s (oline g o) X=some (toCp e):=by unfold cw; rw [if_pos hX]; exact hcs
       obtain ⟨r,q1,q2,q3⟩:=I.lin _ a1 a2
       cases how:own g s (oline g o) with
       |none=>rw [how] at q3; obtain ⟨xs,hN⟩:=q3; exact hN.dt X _ hq'
       |some y=>rw [how] at q3; exact ph_data q3 hq'
      refine fin_end hg hP I hX h1 hcur (c':=c2) (v:=opTold g e.data o) hW3 e2 (by rw [told_eq hg hO,hqM]) (.inr ⟨h4,toCp e,hcs,hit,fun L'=>?_⟩)
      rw [e3,t3]
    · rw [decide_eq_false hit,cond_false] at hW3
      simp only at hW3
      rw [full_ok hg hC a1,Option.bind_some,decide_eq_false (fun z=>by rw [hcs] at z; cases z.1),cond_false] at hW3
      have hk1:¬ o.kind=1:=fun z=>hit (.inl z)
      rw [decide_eq_false hk1,cond_false] at hW3
      refine fin_begin hg hP I hX h1 hcur hW3 (.inr (.inl rfl)) ⟨a1,a2⟩ (fun z=>by omega) (fun _=>⟨by omega,rfl,fun z=>(by rw [hcs] at z; cases z),fun q hq=>?_⟩) (fun z=>by omega)
      rw [hcs] at hq
      obtain rfl:=Option.some.inj hq
      cases hd:e.dirty with
      |false=>exact hd
      |true=>exact absurd (.inr hd) hit
theorem work_no (hP:POk g ops) (I:Inv g ops mem0 mem s) (hX:X<nn g) (hn:s.tk X≠.idle∨cur (s.nd X)=none) {f:FabS} {tr:List EventS}:nworkS (s.nd X) f ⟨tr⟩=some (false,s.nd X,f,⟨tr⟩):=by
 have N:=I.nod X hX
 have hl:(s.nd X).proc.ops.length≤24:=by rw [N.po]; exact hP.len X
 have hv:(s.nd X).proc.values.length≤(s.nd X).proc.ops.length:=by rw [N.po]; exact N.vl
 unfold nworkS
 cases hc:cur (s.nd X) with
 |none =>
  rw [cur_no hc hl hv,Option.bind_some]
  rfl
 |some o =>
  rw [cur_eq hc hl (by omega),Option.bind_some]
  have h1:s.tk X≠.idle:=by
   rcases hn with hn | hn
   · exact hn
   · rw [hc] at hn; cases hn
  have h2:(s.nd X).deal.step≠0:=fun z=>h1 ((I.net.idle X hX).2 z)
  simp only [Bool.not_true,cond_false]
  rw [decide_eq_false h2,Bool.not_false]
  rfl
end
end
section
open Go
section
variable {g:CfgS} {s s':St} {ops:Nat→List OpS} {mem0 mem mem':List Int} {k X h:Nat} {L:Int} {x:NodeS} {t:Tk}
theorem fab_taken {ks:List Nat} {p:PktS} (N:Net g (nn g) s.dl s.tk s.dv s.Q s.AP s.aw) (hh:h<nn g) (h1:s.Q h=X::ks) (hd:s'.dl=s.dl) (ht:s'.tk=upd s.tk X .ans) (hv:s'.dv=upd s.dv X false) (hq:s'.Q=upd s.Q h ks) (ha:s'.AP=upd s.AP h (s.AP h++[X])) (hw:s'.aw=upd s.aw X p) :
 fab g s'=csOf (nn g) (upd (RC g s) h ⟨(RC g s h).pool,⟨ks.map (rqP g s.dl),g.inn⟩⟩) (upd (AC g s) h ⟨⟨(AC g s h).pool.l++[p],g.out⟩,(AC g s h).queue⟩):=by
 obtain ⟨hX,h3,h4,h5⟩:=(N.qm h hh X).1 (by rw [h1]; simp)
 have hap:∀ j,j<nn g→X∉s.AP j:=fun j hj hx=>by have:=(N.pm j hj X).1 hx; rw [h3] at this; simp at this
 have hmap:∀ j,j<nn g→(s.AP j).map s'.aw=(s.AP j).map s.aw:=fun j hj=>List.map_congr_left fun i hi=>by
  rw [hw,upd_ne]
  rintro rfl
  exact hap j hj hi
 refine csOf_con fun j hj=>⟨?_,?_⟩
 · have e:(if s'.tk j=.req∧s'.dv j=false then [rqP g s'.dl j] else [])=(if s.tk j=.req∧s.dv j=false then [rqP g s.dl j] else []):=by
    rw [hd,ht,hv]
    by_cases e:j=X
    · subst e; rw [upd_eq,upd_eq,h3,h4]; simp
    · rw [upd_ne e,upd_ne e]
   unfold RC
   rw [e,hq,hd]
   by_cases ej:j=h
   · subst ej; rw [upd_eq,upd_eq]
   · rw [upd_ne ej,upd_ne ej]
 · have e:(if s'.tk j=.ans∧s'.dv j=true then [s'.aw j] else [])=(if s.tk j=.ans∧s.dv j=true then [s.aw j] else []):=by
    rw [ht,hv,hw]
    by_cases e:j=X
    · subst e; rw [upd_eq,upd_eq,h3]; simp
    · rw [upd_ne e,upd_ne e,upd_ne e]
   unfold AC
   rw [e,ha]
   by_cases ej:j=h
   · subst ej
     rw [upd_eq,upd_eq,List.map_append,hmap j hj]
     simp only [List.map_cons,List.map_nil]
     rw [hw,upd_eq]
   · rw [upd_ne ej,upd_ne ej,hmap j hj]
theorem fab_waits {ks:List Nat} (N:Net g (nn g) s.dl s.tk s.dv s.Q s.AP s.aw) (hh:h<nn g) (h1:s.Q h=X::ks) (hd:s'.dl=s.dl) (ht:s'.tk=upd s.tk X .wait) (hv:s'.dv=s.dv) (hq:s'.Q=upd s.Q h ks) (ha:s'.AP=s.AP) (hw:s'.aw=s.aw) :
 fab g s'=csOf (nn g) (upd (RC g s) h ⟨(RC g s h).pool,⟨ks.map (rqP g s.dl),g.inn⟩⟩) (AC g s):=by
 obtain ⟨hX,h3,h4,h5⟩:=(N.qm h hh X).1 (by rw [h1]; simp)
 refine csOf_con fun j hj=>⟨?_,?_⟩
 · have e:(if s'.tk j=.req∧s'.dv j=false then [rqP g s'.dl j] else [])=(if s.tk j=.req∧s.dv j=false then [rqP g s.dl j] else []):=by
    rw [hd,ht,hv]
    by_cases e:j=X
    · subst e; rw [upd_eq,h3,h4]; simp
    · rw [upd_ne e]
   unfold RC
   rw [e,hq,hd]
   by_cases ej:j=h
   · subst ej; rw [upd_eq,upd_eq]
   · rw [upd_ne ej,upd_ne ej]
 · have e:(if s'.tk j=.ans∧s'.dv j=true then [s'.aw j] else [])=(if s.tk j=.ans∧s.dv j=true then [s.aw j] else []):=by
    rw [ht,hv,hw]
    by_cases e:j=X
    · subst e; rw [upd_eq,h3]; simp
    · rw [upd_ne e]
   unfold AC
   rw [e,ha,hw]
theorem fab_grant {p:PktS} (N:Net g (nn g) s.dl s.tk s.dv s.Q s.AP s.aw) (hh:h<nn g) (h1:s.tk X=.wait) (hd:s'.dl=s.dl) (ht:s'.tk=upd s.tk X .ans) (hv:s'.dv=upd s.dv X false) (hq:s'.Q=s.Q) (ha:s'.AP=upd s.AP h (s.AP h++[X])) (hw:s'.aw=upd s.aw X p) :
 fab g s'=csOf (nn g) (RC g s) (upd (AC g s) h ⟨⟨(AC g s h).pool.l++[p],g.out⟩,(AC g s h).queue⟩):=by
 have hap:∀ j,j<nn g→X∉s.AP j:=fun j hj hx=>by have:=(N.pm j hj X).1 hx; rw [h1] at this; simp at this
 have hmap:∀ j,j<nn g→(s.AP j).map s'.aw=(s.AP j).map s.aw:=fun j hj=>List.map_congr_left fun i hi=>by
  rw [hw,upd_ne]
  rintro rfl
  exact hap j hj hi
 refine csOf_con fun j hj=>⟨?_,?_⟩
 · have e:(if s'.tk j=.req∧s'.dv j=false then [rqP g s'.dl j] else [])=(if s.tk j=.req∧s.dv j=false then [rqP g s.dl j] else []):=by
    rw [hd,ht,hv]
    by_cases e:j=X
    · subst e; rw [upd_eq,upd_eq,h1]; simp
    · rw [upd_ne e,upd_ne e]
   unfold RC
   rw [e,hq,hd]
 · have e:(if s'.tk j=.ans∧s'.dv j=true then [s'.aw j] else [])=(if s.tk j=.ans∧s.dv j=true then [s.aw j] else []):=by
    rw [ht,hv,hw]
    by_cases e:j=X
    · subst e; rw [upd_eq,upd_eq,h1]; simp
    · rw [upd_ne e,upd_ne e,upd_ne e]
   unfold AC
   rw [e,ha]
   by_cases ej:j=h
   · subst ej
     rw [upd_eq,upd_eq,List.map_append,hmap j hj]
     simp only [List.map_cons,List.map_nil]
     rw [hw,upd_eq]
   · rw [upd_ne ej,upd_ne ej,hmap j hj]
theorem room_eq (hg:GOk g) (I:Inv g ops mem0 mem s) (hh:h<nn g):froomS ⟨fab g s⟩ (s.nd h).id false=some (g.out - (((s.AP h).length:Nat):Int)):=by
 have ho:=hg.o1
 have h0:=hg.o0
 have hl:=I.net.pl h hh
 have e:(AC g s h).pool.l.length=(s.AP h).length:=by show ((s.AP h).map s.aw).length=_; rw [List.length_map]
 rw [(I.nod h hh).id]
 have:=room_ans (R:=RC g s) (A:=AC g s) hh (by rw [e]; omega) (by show 0≤g.out; omega) (by show g.out≤64; omega)
 rw [e] at this
 exact this
theorem send_ok (hg:GOk g) {p:PktS} {R:Nat→ChanS} (I:Inv g ops mem0 mem s) (hh:h<nn g) (hA:Awk (nn g) X (s.dl X) p) (hX:X<nn g) (hs:p.src=(h:Int)) (hk:6<p.kind) (hrm:(((s.AP h).length:Nat):Int)<g.out) :
 fsendS ⟨csOf (nn g) R (AC g s)⟩ p=some (0,⟨csOf (nn g) R (upd (AC g s) h ⟨⟨(AC g s h).pool.l++[p],g.out⟩,(AC g s h).queue⟩)⟩):=by
 have ho:=hg.o1
 have e:(AC g s h).pool.l.length=(s.AP h).length:=by show ((s.AP h).map s.aw).length=_; rw [List.length_map]
 exact send_ans hA.lg hk hs hh (by rw [hA.dst]; omega) (by rw [e]; exact hrm) (by show g.out≤64; omega)
structure FinR (g:CfgS) (ops:Nat→List OpS) (mem0 mem:List Int) (s:St) (h:Nat) (r:Option (Bool×NodeS×FabS)):Prop where
 ex:∃ s',r=some (true,s'.nd h,⟨fab g s'⟩)∧s'.tr=s.tr∧(∀ j,j≠h→s'.nd j=s.nd j)∧Inv g ops mem0 mem s'∧mu g s'<mu g s∧NChg g s h (s.nd h) (s'.nd h)
theorem ev_homegrant (hg:GOk g) (I:Inv g ops mem0 mem s) (hh:h<nn g) (hr:rdy (s.nd h).home.turns≠[]) (hrm:(((s.AP h).length:Nat):Int)<g.out):FinR g ops mem0 mem s h (ngrS (s.nd h) ⟨fab g s⟩):=by
 have N:=I.nod h hh
 have hrows:∀ L∈rdy (s.nd h).home.turns,∃ r,mget (s.nd h).home.dir.rows L=some r∧r.data.length≤1099511627776:=by
  intro L hL
  have h1:=mem_rdy.1 hL
  obtain ⟨l0,l1,l2⟩:=N.wz L h1.2
  obtain ⟨r,r1,r2,-⟩:=I.lin L l0 l1
  unfold row at r1
  rw [l2] at r1
  exact ⟨r,r1,by have:=r2.le hg; omega⟩
 obtain ⟨L,a,rs,r,g1,g2,g3,g4⟩:=grant_eq N.to hr hrows
 obtain ⟨l0,l1,l2⟩:=N.wz L (by rw [g2]; simp)
 have hwts:wts g s L=a::rs:=by unfold wts; rw [l2]; exact g2
 have hown:own g s L=none:=by unfold own; rw [l2]; exact g1
 have hrow:row g s L=some r:=by unfold row; rw [l2]; exact g3
 obtain ⟨ws,w1,w2,w3⟩:=I.trn.ww L l0 l1
 rw [hwts] at w1
 cases ws with
 |nil=>cases w1
 |cons X ws =>
  obtain ⟨u1,u2⟩:=List.cons.inj w1
  obtain ⟨hX,ht,hl⟩:=(w3 X).1 (by simp)
  have hst:=I.net.wait X hX ht
  have ha1:a.who=(X:Int):=by rw [u1]
  have ha2:a.id=(s.dl X).id:=by rw [u1]
  let H:HomeS:={ (s.nd h).home with turns:=⟨mset (s.nd h).home.turns.owners L a.who,mset (s.nd h).home.turns.wait L rs⟩ }
  let p:PktS:=⟨7,(h:Int),(X:Int),(s.dl X).id,L,r.head,r.state,false,r.data⟩
  let s':St:={ s with nd:=upd s.nd h { s.nd h with home:=H },tk:=upd s.tk X .ans,dv:=upd s.dv X false,AP:=upd s.AP h (s.AP h++[X]),aw:=upd s.aw X p }
  obtain ⟨I',hmu⟩:=ev_grant (s':=s') (Q':=s.Q) (w:=rs) (H:=H) hg I hh hX hst hl l2 hown hrow hrm (.inr ⟨⟨ht,rfl⟩,a,hwts,ha1⟩) ⟨rfl,rfl,rfl⟩ (by show mset _ L a.who=_; rw [ha1]) (.inr rfl) rfl
  have F:HomeOnly s s' h H:=⟨rfl,rfl⟩
  refine ⟨s',?_,rfl,fun j hj=>upd_ne hj,I',hmu,.same (F.cs h).2.1 (F.cs h).1 (F.cs h).2.2⟩
  have hA:Awk (nn g) X (s.dl X) p:=by
   have:=I'.net.aw X hX (upd_eq _ _ _)
   have e1:s'.aw X=p:=upd_eq _ _ _
   have e2:s'.dl X=s.dl X:=by rw [F.dl]
   rw [e1,e2] at this
   exact this
  have hf:=fab_grant (s':=s') (p:=p) I.net hh ht F.dl rfl rfl rfl rfl rfl
  unfold ngrS
  rw [pend_eq N.to,Option.bind_some,decide_eq_true hr,Bool.not_true,cond_false,room_eq hg I hh,Option.bind_some,decide_eq_false (by omega)]
  unfold ngrS_j0
  rw [cond_false,g4,Option.bind_some]
  have hp:grP (s.nd h).home r L a.who a.id=p:=by unfold grP; rw [N.hn,ha1,ha2]
  simp only
  rw [hp]
  have hs:=send_ok (R:=RC g s) hg I hh hA hX rfl (show (6:Int)<7 by omega) hrm
  show (fsendS ⟨csOf (nn g) (RC g s) (AC g s)⟩ p).bind _=_
  rw [hs,hf]
  show some _=some (true,upd s.nd h { s.nd h with home:=H } h,_)
  rw [upd_eq]
theorem grant_no (hg:GOk g) (I:Inv g ops mem0 mem s) (hh:h<nn g) (hn:rdy (s.nd h).home.turns=[]∨¬ (((s.AP h).length:Nat):Int)<g.out):ngrS (s.nd h) ⟨fab g s⟩=some (false,s.nd h,⟨fab g s⟩):=by
 have N:=I.nod h hh
 have hl:=I.net.pl h hh
 unfold ngrS
 rw [pend_eq N.to,Option.bind_some]
 by_cases hr:rdy (s.nd h).home.turns=[]
 · rw [decide_eq_false (by simpa using hr),Bool.not_false,cond_true]
   rfl
 · have h2:¬ (((s.AP h).length:Nat):Int)<g.out:=by
    rcases hn with hn | hn
    · exact absurd hn hr
    · exact hn
   rw [decide_eq_true hr,Bool.not_true,cond_false,room_eq hg I hh,Option.bind_some,decide_eq_true (by omega)]
   rfl
theorem request_no (hg:GOk g) (I:Inv g ops mem0 mem s) (hh:h<nn g) (hn:s.Q h=[]∨¬ (((s.AP h).length:Nat):Int)<g.out):nreqS (s.nd h) ⟨fab g s⟩=some (false,s.nd h,⟨fab g s⟩):=by
 have N:=I.nod h hh
 have hl:=I.net.pl h hh
 unfold nreqS
 rw [room_eq hg I hh,Option.bind_some]
 by_cases h2:(((s.AP h).length:Nat):Int)<g.out
 · rw [decide_eq_false (by omega),cond_false,N.id]
   have hq:s.Q h=[]:=by
    rcases hn with hn | hn
    · exact hn
    · exact absurd h2 hn
   have:=req_nil (R:=RC g s) (A:=AC g s) hh (by show (s.Q h).map _=[]; rw [hq]; rfl)
   show (freqS ⟨csOf (nn g) (RC g s) (AC g s)⟩ _).bind _=_
   rw [this]
   rfl
 · rw [decide_eq_true (by omega)]
   rfl
theorem purge_ptr {c:Nat→Option Cp} {r:RowS} {M:List Int} {d:DealS} {p:PktS} {n:Nat} (H:Ph c r M X d (some p)) (h1:d.step=3) (hn:∀ k,c k≠none→k<n):-1≤p.ptr∧p.ptr<(n:Int):=by
 cases H with
 |pura zs _ a1 a2 a3 a4 a5 a6 a7=>rw [a4]; exact hd_rng fun j hj=>hn j (a6.e2 j hj)
 |_=>omega
theorem req_first (hg:GOk g) (I:Inv g ops mem0 mem s) {ks:List Nat} (hh:h<nn g) (h1:s.Q h=X::ks):freqS ⟨fab g s⟩ (s.nd h).id=some (rqP g s.dl X,true,⟨csOf (nn g) (upd (RC g s) h ⟨(RC g s h).pool,⟨ks.map (rqP g s.dl),g.inn⟩⟩) (AC g s)⟩):=by
 obtain ⟨hX,h3,h4,h5⟩:=(I.net.qm h hh X).1 (by rw [h1]; simp)
 have hl:=I.net.ql h hh
 have hi:=hg.i1
 obtain ⟨-,hlg,-⟩:=I.rq hg hX (.inl h3)
 have h8:=hlg.2.2.2.2.2.2.2.1
 rw [(I.nod h hh).id]
 refine req_cons (R:=RC g s) (A:=AC g s) (p:=rqP g s.dl X) (r:=ks.map (rqP g s.dl)) hh ?_ ?_ (by omega)
 · show (s.Q h).map _=_; rw [h1]; rfl
 · rw [List.length_map]; rw [h1] at hl; simp at hl; omega
end
end
section
open Go
section
variable {g:CfgS} {s s':St} {ops:Nat→List OpS} {mem0 mem mem':List Int} {k X h:Nat} {L:Int} {x:NodeS} {t:Tk}
theorem nodup_lenN:∀ (N:Nat) (l:List Nat),l.Nodup→(∀ x∈l,x<N)→l.length≤N
 |0,l,_,h=>by
  cases l with
  |nil=>simp
  |cons x r=>have:=h x (by simp); omega
 |N+1,l,hn,h=>by
  have ih:=nodup_lenN N (l.erase N) (hn.erase _) fun x hx=>by
   have h1:=(List.Nodup.mem_erase_iff hn).1 hx
   have h2:=h x h1.2
   have h3:=h1.1
   omega
  have h2:=List.length_erase (a:=N) (l:=l)
  by_cases hm:N∈l
  · rw [if_pos hm] at h2; omega
  · rw [if_neg hm] at h2; omega
theorem req_in (hg:GOk g) (I:Inv g ops mem0 mem s) {ks:List Nat} (hh:h<nn g) (h1:s.Q h=X::ks) (hrm:(((s.AP h).length:Nat):Int)<g.out) :
 nreqS (s.nd h) ⟨fab g s⟩=(nserS (s.nd h) (rqP g s.dl X)).bind fun y=>(bif y.2.1 then (fsendS ⟨csOf (nn g) (upd (RC g s) h ⟨(RC g s h).pool,⟨ks.map (rqP g s.dl),g.inn⟩⟩) (AC g s)⟩ y.1).bind fun z=>some (true,y.2.2,z.2) else some (true,y.2.2,⟨csOf (nn g) (upd (RC g s) h ⟨(RC g s h).pool,⟨ks.map (rqP g s.dl),g.inn⟩⟩) (AC g s)⟩)):=by
 unfold nreqS
 rw [room_eq hg I hh,Option.bind_some,decide_eq_false (by omega),cond_false,req_first hg I hh h1,Option.bind_some]
 rfl
theorem ser_home {p o:PktS} {b:Bool} {H:HomeS} (hk:p.kind=1∨p.kind=2) (h:hhanS x.home p=some (o,b,0,H)):nserS x p=some (o,b,{ x with home:=H }):=by
 have e:nserS_j0 x p true=some (o,b,{ x with home:=H }):=by
  unfold nserS_j0
  rw [cond_true,h,Option.bind_some]
  unfold nserS_j1 nserS_j2
  cases b <;> rfl
 unfold nserS
 rcases hk with hk | hk
 · rw [decide_eq_true hk,cond_true]; exact e
 · rw [decide_eq_false (by omega),cond_false,decide_eq_true hk]; exact e
theorem ser_cache {p o:PktS} {c':CacheS} (hk:p.kind≠1∧p.kind≠2) (h:shanS x.cache p=some (o,0,c')):nserS x p=some (o,true,{ x with cache:=c' }):=by
 unfold nserS
 rw [decide_eq_false hk.1,cond_false,decide_eq_false hk.2]
 unfold nserS_j0
 rw [cond_false,h,Option.bind_some]
 rfl
theorem fin_serve (hg:GOk g) (I:Inv g ops mem0 mem s) {ks:List Nat} (hh:h<nn g) (h1:s.Q h=X::ks) (hrm:(((s.AP h).length:Nat):Int)<g.out) (h2:2≤(s.dl X).step∧(s.dl X).step≤5) (hxX:h≠X) {c':CacheS} {p:PktS} (hk:(rqP g s.dl X).kind≠1∧(rqP g s.dl X).kind≠2) (hS:shanS (s.nd h).cache (rqP g s.dl X)=some (p,0,c'))
 (V:Srv g (s.dl X).line (s.nd h).cache c') (hV:cv c' (s.dl X).line=none↔(s.dl X).step=3) (hA:Awk (nn g) X (s.dl X) p) (hs:p.src=(h:Int)) (hpk:6<p.kind)
 (P:∀ r,row g s (s.dl X).line=some r→Ph (cw g s (s.dl X).line) r (lw g mem (s.dl X).line) X (s.dl X) none→Ph (upd (cw g s (s.dl X).line) h (cv c' (s.dl X).line)) r (lw g mem (s.dl X).line) X (s.dl X) (some p)):FinR g ops mem0 mem s h (nreqS (s.nd h) ⟨fab g s⟩):=by
 obtain ⟨hX,h3,h4,h5⟩:=(I.net.qm h hh X).1 (by rw [h1]; simp)
 let s':St:={ s with nd:=upd s.nd h { s.nd h with cache:=c' },tk:=upd s.tk X .ans,dv:=upd s.dv X false,Q:=upd s.Q h ks,AP:=upd s.AP h (s.AP h++[X]),aw:=upd s.aw X p }
 obtain ⟨I',hmu⟩:=ev_serve (s':=s') hg I hh h1 h2 rfl hxX hrm V hV hA hs P rfl
 refine ⟨s',?_,rfl,fun j hj=>upd_ne hj,I',hmu,?_⟩
 rotate_left
 · have f3:s'.nd h={ s.nd h with cache:=c' }:=upd_eq _ _ _
   rw [f3]
   have h0:(s.dl X).step≠0:=by omega
   have D:=I.dok X hX h0
   refine ⟨.inl rfl,fun L hL=>.inl ?_,fun L a b=>?_,fun L q a b=>.inl ?_,fun z=>.inl ⟨z,rfl⟩⟩
   · by_cases e:L=(s.dl X).line
     · rw [e]; exact V.was
     · rw [← V.oth L e]; exact hL
   · have b':cv c' L=none:=b
     by_cases e:L=(s.dl X).line
     · rw [e] at b'
       have h3':=hV.1 b'
       refine ⟨X,hX,h0,?_⟩
       rcases D.kn with z | z | z
       · have:=(D.rd z).1; omega
       · exact .inl z
       · exact .inr z
     · rw [V.oth L e] at b'; exact absurd b' a
   · have a':cv c' L=some q:=a
     by_cases e:L=(s.dl X).line
     · subst e; exact V.dr q a' b
     · rw [V.oth L e] at a'; exact ⟨q,a',b⟩
 have hdl:s'.dl=s.dl:=funext fun k=>by
  show (upd s.nd h { s.nd h with cache:=c' } k).deal=_
  by_cases ek:k=h
  · subst ek; rw [upd_eq]; rfl
  · rw [upd_ne ek]; rfl
 have hf:=fab_taken (s':=s') (p:=p) I.net hh h1 hdl rfl rfl rfl rfl rfl
 have f3:s'.nd h={ s.nd h with cache:=c' }:=upd_eq _ _ _
 rw [req_in hg I hh h1 hrm,ser_cache hk hS,Option.bind_some]
 simp only [cond_true]
 rw [send_ok hg I hh hA hX hs hpk hrm,Option.bind_some,hf,f3]
theorem ev_request (hg:GOk g) (I:Inv g ops mem0 mem s) {ks:List Nat} (hh:h<nn g) (h1:s.Q h=X::ks) (hrm:(((s.AP h).length:Nat):Int)<g.out):FinR g ops mem0 mem s h (nreqS (s.nd h) ⟨fab g s⟩):=by
 have N:=I.nod h hh
 have hC:=N.co
 obtain ⟨hX,h3,h4,h5⟩:=(I.net.qm h hh X).1 (by rw [h1]; simp)
 have h0:(s.dl X).step≠0:=fun z=>by have:=(I.net.idle X hX).2 z; rw [h3] at this; cases this
 have D:=I.dok X hX h0
 have hln:=D.ln
 have hid:=D.id
 have hnI:=nnI hg
 have hn6:=hg.n1
 have hl8:=hg.l1
 obtain ⟨-,hlg,hkd,hk6,hsrc,hline,hpid⟩:=I.rq hg hX (.inl h3)
 have hrg:0≤(h:Int)∧(h:Int)<6:=by omega
 have hrX:0≤(X:Int)∧(X:Int)<6:=by omega
 obtain ⟨hm1,hm2⟩:=hm_lt (L:=(s.dl X).line) hg hln.1
 have hst:=D.st
 have hcl:∀ k,cw g s (s.dl X).line k≠none→k<nn g:=fun k hk=>cw_lt hk
 have hcv:cw g s (s.dl X).line h=cv (s.nd h).cache (s.dl X).line:=by unfold cw; rw [if_pos hh]
 -- to a home
 by_cases hhome:(s.dl X).step=1∨(s.dl X).step=6
 · have hdst:(rqP g s.dl X).dst=(s.dl X).line.tmod g.nodes:=by
    unfold rqP askP
    rcases hhome with e | e
    · rw [if_pos e]
    · rw [if_neg (by omega),if_neg (by omega),if_neg (by omega),if_neg (by omega),if_neg (by omega),if_pos e]
   have hmL:hm g (s.dl X).line=h:=by rw [h5,hm2] at hdst; omega
   have hT:ToHome (s.nd h).home (rqP g s.dl X):=⟨hlg,by rw [h5,N.hn],by rw [hsrc,N.hc]; omega,by rw [N.hc]; exact hg.n0,by rw [hline,N.hc,N.hn,hm2,hmL],by rw [hline,N.hc]; exact hln.2⟩
   have hownm:mget (s.nd h).home.turns.owners (s.dl X).line=own g s (s.dl X).line:=by unfold own; rw [hmL]
   have hwtsm:wget (s.nd h).home.turns.wait (s.dl X).line=wts g s (s.dl X).line:=by unfold wts; rw [hmL]
   have hrowm:mget (s.nd h).home.dir.rows (s.dl X).line=row g s (s.dl X).line:=by unfold row; rw [hmL]
   obtain ⟨r,r1,r2,r3⟩:=I.lin (s.dl X).line hln.1 hln.2
   rcases hhome with e1 | e6
   · have hk1:(rqP g s.dl X).kind=1:=by rw [hkd,e1]; rfl
     by_cases hfree:own g s (s.dl X).line=none∧wts g s (s.dl X).line=[]
     · let H:HomeS:={ (s.nd h).home with turns:={ (s.nd h).home.turns with owners:=mset (s.nd h).home.turns.owners (s.dl X).line (X:Int) } }
       let p:PktS:=⟨7,(h:Int),(X:Int),(s.dl X).id,(s.dl X).line,r.head,r.state,false,r.data⟩
       let s':St:={ s with nd:=upd s.nd h { s.nd h with home:=H },tk:=upd s.tk X .ans,dv:=upd s.dv X false,Q:=upd s.Q h ks,AP:=upd s.AP h (s.AP h++[X]),aw:=upd s.aw X p }
       obtain ⟨I',hmu⟩:=ev_grant (s':=s') (Q':=upd s.Q h ks) (w:=wts g s (s.dl X).line) (H:=H) hg I hh hX e1 rfl hmL hfree.1 r1 hrm (.inl ⟨⟨ks,h1,rfl⟩,rfl⟩) ⟨rfl,rfl,rfl⟩ rfl (.inl ⟨rfl,rfl⟩) rfl
       have F:HomeOnly s s' h H:=⟨rfl,rfl⟩
       refine ⟨s',?_,rfl,fun j hj=>upd_ne hj,I',hmu,.same (F.cs h).2.1 (F.cs h).1 (F.cs h).2.2⟩
       have hA:Awk (nn g) X (s.dl X) p:=by
        have:=I'.net.aw X hX (upd_eq _ _ _)
        have e1:s'.aw X=p:=upd_eq _ _ _
        have e2:s'.dl X=s.dl X:=by rw [F.dl]
        rw [e1,e2] at this
        exact this
       have hf:=fab_taken (s':=s') (p:=p) I.net hh h1 F.dl rfl rfl rfl rfl rfl
       have hhan:=lock_got hT hk1 (by rw [hline,hownm]; exact hfree.1) (by rw [hline,hwtsm]; exact hfree.2) (r:=r) (by rw [hline,hrowm]; exact r1) (by have:=r2.le hg; omega)
       rw [hline,hsrc,hpid] at hhan
       have hp:grP (s.nd h).home r (s.dl X).line (X:Int) (s.dl X).id=p:=by unfold grP; rw [N.hn]
       rw [hp] at hhan
       have f3:s'.nd h={ s.nd h with home:=H }:=upd_eq _ _ _
       rw [req_in hg I hh h1 hrm,ser_home (.inl hk1) hhan,Option.bind_some]
       simp only [cond_true]
       rw [send_ok hg I hh hA hX rfl (show (6:Int)<7 by omega) hrm,Option.bind_some,hf,f3]
     · have hor:own g s (s.dl X).line≠none∨wts g s (s.dl X).line≠[]:=by
        by_cases z:own g s (s.dl X).line=none
        · exact .inr fun w=>hfree ⟨z,w⟩
        · exact .inl z
       let H:HomeS:={ (s.nd h).home with turns:={ (s.nd h).home.turns with wait:=mset (s.nd h).home.turns.wait (s.dl X).line (wget (s.nd h).home.turns.wait (s.dl X).line++[⟨(X:Int),(s.dl X).id⟩]) } }
       let s':St:={ s with nd:=upd s.nd h { s.nd h with home:=H },tk:=upd s.tk X .wait,Q:=upd s.Q h ks }
       obtain ⟨I',hmu⟩:=ev_lockwait (s':=s') (H:=H) hg I hh h1 e1 rfl hmL rfl rfl
       have F:HomeOnly s s' h H:=⟨rfl,rfl⟩
       refine ⟨s',?_,rfl,fun j hj=>upd_ne hj,I',hmu,.same (F.cs h).2.1 (F.cs h).1 (F.cs h).2.2⟩
       have hf:=fab_waits (s':=s') I.net hh h1 F.dl rfl rfl rfl rfl rfl
       have hwl:(wget (s.nd h).home.turns.wait (s.dl X).line).length≤64:=by
        obtain ⟨ws,w1,w2,w3⟩:=I.trn.ww (s.dl X).line hln.1 hln.2
        rw [hwtsm,w1,List.length_map]
        have:=nodup_lenN (nn g) ws w2 fun z hz=>((w3 z).1 hz).1
        omega
       have hhan:=lock_wait hT hk1 (by rw [hline,hownm,hwtsm]; exact hor) (by rw [hline]; exact hwl)
       rw [hline,hsrc,hpid] at hhan
       have f3:s'.nd h={ s.nd h with home:=H }:=upd_eq _ _ _
       rw [req_in hg I hh h1 hrm,ser_home (.inl hk1) hhan,Option.bind_some]
       simp only [cond_false]
       rw [hf,f3]
   · have hk2:(rqP g s.dl X).kind=2:=by rw [hkd,e6]; rfl
     have hhd:Held (s.dl X) (s.tk X):=⟨h0,fun z=>by omega,fun _=>by rw [h3]; simp⟩
     obtain ⟨ho,r',q1,q2,P⟩:=I.held hX hln hhd
     rw [r1] at q1
     obtain rfl:=Option.some.inj q1
     have hao0:ao s X=none:=by unfold ao; rw [h3]; rfl
     rw [hao0] at P
     obtain ⟨xs,hN⟩:=ph_unlock P e6
     let H:HomeS:={ (s.nd h).home with dir:={ (s.nd h).home.dir with rows:=mset (s.nd h).home.dir.rows (s.dl X).line (rset r (s.dl X)) },turns:={ (s.nd h).home.turns with owners:=mdel (s.nd h).home.turns.owners (s.dl X).line } }
     let p:PktS:=⟨8,(h:Int),(X:Int),(s.dl X).id,(s.dl X).line,0,0,false,[]⟩
     let s':St:={ s with nd:=upd s.nd h { s.nd h with home:=H },tk:=upd s.tk X .ans,dv:=upd s.dv X false,Q:=upd s.Q h ks,AP:=upd s.AP h (s.AP h++[X]),aw:=upd s.aw X p }
     obtain ⟨I',hmu⟩:=ev_unlock (s':=s') (H:=H) hg I hh h1 e6 rfl hmL r1 hrm rfl rfl
     have F:HomeOnly s s' h H:=⟨rfl,rfl⟩
     refine ⟨s',?_,rfl,fun j hj=>upd_ne hj,I',hmu,.same (F.cs h).2.1 (F.cs h).1 (F.cs h).2.2⟩
     have hA:Awk (nn g) X (s.dl X) p:=by
      have:=I'.net.aw X hX (upd_eq _ _ _)
      have e1:s'.aw X=p:=upd_eq _ _ _
      have e2:s'.dl X=s.dl X:=by rw [F.dl]
      rw [e1,e2] at this
      exact this
     have hf:=fab_taken (s':=s') (p:=p) I.net hh h1 F.dl rfl rfl rfl rfl rfl
     have erq:rqP g s.dl X=⟨2,(X:Int),(s.dl X).line.tmod g.nodes,(s.dl X).id,(s.dl X).line,(s.dl X).head,(s.dl X).state,decide (0<(s.dl X).data.length),(s.dl X).data⟩:=by
      unfold rqP askP
      rw [if_neg (by omega),if_neg (by omega),if_neg (by omega),if_neg (by omega),if_neg (by omega),if_pos e6]
     have hhead:(s.dl X).head=hd xs (-1):=hN.rh
     have hrange:=hd_rng (xs:=xs) (N:=nn g) fun j hj=>cw_lt ((hN.ex j).2 hj)
     have hzero:(s.dl X).head=-1↔(s.dl X).state=0:=by
      rw [hhead,hd_neg]
      rcases hN.st with ⟨a,b,-⟩ | ⟨a,b,-⟩ | ⟨a,y,b,-⟩
      · have a':(s.dl X).state=0:=a
        simp [b,a']
      · have a':(s.dl X).state=1:=a
        simp [b,a']
      · have a':(s.dl X).state=2:=a
        simp [b,a']
     have hdd:(s.dl X).data=[]∨(((s.dl X).data.length:Nat):Int)=g.words:=by
      rcases D.dt with z | z
      · exact .inl z
      · exact .inr z.len
     have hhan:=unlock_eq (r:=r) hT hk2 (by rw [hline,hownm,hsrc]; exact ho) (by rw [hline,hrowm]; exact r1) (by rw [N.hdc,N.hc]) (by rw [N.hc,erq]; show (s.dl X).head<g.nodes; omega) (by rw [erq]; exact hzero) (by rw [N.hc,erq]; exact hdd)
     have hrt:rowTo r (rqP g s.dl X)=rset r (s.dl X):=by
      rw [erq]
      unfold rowTo rset
      simp only
      by_cases z:0<(s.dl X).data.length
      · rw [decide_eq_true z]; simp [z]
      · rw [decide_eq_false z]; simp [z]
     rw [hline,hsrc,hpid,hrt] at hhan
     have hp:(⟨8,(s.nd h).home.node,(X:Int),(s.dl X).id,(s.dl X).line,0,0,false,[]⟩:PktS)=p:=by rw [N.hn]
     rw [hp] at hhan
     have f3:s'.nd h={ s.nd h with home:=H }:=upd_eq _ _ _
     rw [req_in hg I hh h1 hrm,ser_home (.inr hk2) hhan,Option.bind_some]
     simp only [cond_true]
     rw [send_ok hg I hh hA hX rfl (show (6:Int)<8 by omega) hrm,Option.bind_some,hf,f3]
 -- to a cache
 · have h25:2≤(s.dl X).step∧(s.dl X).step≤5:=by omega
   have hhd:Held (s.dl X) (s.tk X):=⟨h0,fun z=>by omega,fun z=>by omega⟩
   obtain ⟨ho,r,q1,q2,P0⟩:=I.held hX hln hhd
   have hao0:ao s X=none:=by unfold ao; rw [h3]; rfl
   rw [hao0] at P0
   have hcase:(s.dl X).step=2∨(s.dl X).step=3∨(s.dl X).step=4∨(s.dl X).step=5:=by omega
   have hz:∀ c∈([]:List Int),in64 c:=fun c hc=>by cases hc
   rcases hcase with e | e | e | e
   · have erq:rqP g s.dl X=⟨3,(X:Int),(s.dl X).head,(s.dl X).id,(s.dl X).line,(X:Int),0,false,[]⟩:=by unfold rqP askP; rw [if_neg (by omega),if_pos e]
     obtain ⟨y,q,y1,y2,y3,y4⟩:=ph_sattach P0 e
     have hy:y=h:=by rw [erq] at h5; have h5':(s.dl X).head=(h:Int):=h5; omega
     subst hy
     rw [hcv] at y3
     obtain ⟨c',s1,s2,s3,s4⟩:=s_attach hg hC hlg (by rw [erq]) (q:=q) (by rw [hline]; exact y3)
     rw [h5,hsrc,hpid,hline] at s1
     rw [hline] at s3
     have hcc:cv c' (s.dl X).line=some ⟨q.fwd,(rqP g s.dl X).ptr,false,q.data⟩:=by rw [s3,if_pos rfl]
     have eptr:(rqP g s.dl X).ptr=(X:Int):=by rw [erq]
     rw [eptr] at hcc
     have hqw:=hC.word y3
     refine fin_serve hg I hh h1 hrm h25 y2 (by rw [erq]; exact ⟨by show (3:Int)≠1; omega,by show (3:Int)≠2; omega⟩) s1 ⟨by rw [y3]; simp,s2,fun L' hL'=>by rw [s3,if_neg hL'],fun L'=>by rw [s4]; exact Nat.le_refl _,fun z=>(by rw [hcc] at z; cases z),fun q' hq' hd=>by rw [hcc] at hq'; obtain rfl:=Option.some.inj hq'; cases hd⟩ ⟨fun z=>(by rw [hcc] at z; cases z),fun z=>by omega⟩ ?_ rfl (show (6:Int)<9 by omega) ?_
     · exact ⟨⟨hst,by rw [e]; rfl,rfl,rfl⟩,rfl,⟨hrg,hrX,hid,⟨by show (1:Int)≤9; omega,by show (9:Int)<10; omega⟩,⟨hln.1,by show (s.dl X).line<8; omega⟩,⟨by show (-1:Int)≤0; omega,by show (0:Int)<6; omega⟩,⟨by show (0:Int)≤0; omega,by show (0:Int)<3; omega⟩,hqw.le hg,hqw.rng⟩,⟨y,hh,rfl⟩⟩
     · intro r' z1 z2
       obtain ⟨y',q',w1,w2,w3,w4⟩:=ph_sattach z2 e
       have hy':y'=y:=by omega
       subst hy'
       rw [hcv,y3] at w3
       obtain rfl:=Option.some.inj w3
       rw [hcc]
       exact w4 _ rfl rfl rfl
   · have erq:rqP g s.dl X=⟨6,(X:Int),(s.dl X).next,(s.dl X).id,(s.dl X).line,0,0,false,[]⟩:=by unfold rqP askP; rw [if_neg (by omega),if_neg (by omega),if_pos e]
     obtain ⟨y,q,y1,y2,y3,y4⟩:=ph_spurge P0 e
     have hy:y=h:=by rw [erq] at h5; have h5':(s.dl X).next=(h:Int):=h5; omega
     subst hy
     rw [hcv] at y3
     obtain ⟨c',s1,s2,s3,s4,s5⟩:=s_purge hg hC hlg (by rw [erq]) (q:=q) (by rw [hline]; exact y3)
     rw [h5,hsrc,hpid,hline] at s1
     rw [hline] at s3 s5
     have hcc:cv c' (s.dl X).line=none:=by rw [s3,if_pos rfl]
     have hqw:=hC.word y3
     have hptr:-1≤q.fwd∧q.fwd<((nn g:Nat):Int):=by
      have:=y4 ⟨9,(y:Int),(X:Int),(s.dl X).id,(s.dl X).line,q.fwd,0,q.dirty,q.data⟩ rfl rfl rfl
      exact purge_ptr this e fun k hk=>by
       by_cases ek:k=y
       · subst ek; rw [upd_eq] at hk; exact absurd rfl hk
       · rw [upd_ne ek] at hk; exact cw_lt hk
     refine fin_serve hg I hh h1 hrm h25 y2 (by rw [erq]; exact ⟨by show (6:Int)≠1; omega,by show (6:Int)≠2; omega⟩) s1 ⟨by rw [y3]; simp,s2,fun L' hL'=>by rw [s3,if_neg hL'],s4,fun _ L' hL'=>s5 L' hL',fun q' hq' hd=>by rw [hcc] at hq'; cases hq'⟩ ⟨fun _=>e,fun _=>hcc⟩ ?_ rfl (show (6:Int)<9 by omega) ?_
     · exact ⟨⟨hst,by rw [e]; rfl,rfl,rfl⟩,rfl,⟨hrg,hrX,hid,⟨by show (1:Int)≤9; omega,by show (9:Int)<10; omega⟩,⟨hln.1,by show (s.dl X).line<8; omega⟩,⟨hptr.1,by show q.fwd<6; omega⟩,⟨by show (0:Int)≤0; omega,by show (0:Int)<3; omega⟩,hqw.le hg,hqw.rng⟩,⟨y,hh,rfl⟩⟩
     · intro r' z1 z2
       obtain ⟨y',q',w1,w2,w3,w4⟩:=ph_spurge z2 e
       have hy':y'=y:=by omega
       subst hy'
       rw [hcv,y3] at w3
       obtain rfl:=Option.some.inj w3
       rw [hcc]
       exact w4 _ rfl rfl rfl
   · have erq:rqP g s.dl X=⟨4,(X:Int),(s.dl X).head,(s.dl X).id,(s.dl X).line,(s.dl X).next,0,false,[]⟩:=by unfold rqP askP; rw [if_neg (by omega),if_neg (by omega),if_neg (by omega),if_pos e]
     obtain ⟨y,q,y1,y2,y3,y4⟩:=ph_sfront P0 e
     have hy:y=h:=by rw [erq] at h5; have h5':(s.dl X).head=(h:Int):=h5; omega
     subst hy
     rw [hcv] at y3
     obtain ⟨c',s1,s2,s3,s4⟩:=s_front hg hC hlg (by rw [erq]) (q:=q) (by rw [hline]; exact y3)
     rw [h5,hsrc,hpid,hline] at s1
     rw [hline] at s3
     have hcc:cv c' (s.dl X).line=some ⟨(rqP g s.dl X).ptr,q.back,q.dirty,q.data⟩:=by rw [s3,if_pos rfl]
     have eptr:(rqP g s.dl X).ptr=(s.dl X).next:=by rw [erq]
     rw [eptr] at hcc
     refine fin_serve hg I hh h1 hrm h25 y2 (by rw [erq]; exact ⟨by show (4:Int)≠1; omega,by show (4:Int)≠2; omega⟩) s1 ⟨by rw [y3]; simp,s2,fun L' hL'=>by rw [s3,if_neg hL'],fun L'=>by rw [s4]; exact Nat.le_refl _,fun z=>(by rw [hcc] at z; cases z),fun q' hq' hd=>by rw [hcc] at hq'; obtain rfl:=Option.some.inj hq'; exact ⟨q,y3,hd⟩⟩ ⟨fun z=>(by rw [hcc] at z; cases z),fun z=>by omega⟩ ?_ rfl (show (6:Int)<8 by omega) ?_
     · exact ⟨⟨hst,by rw [e]; rfl,rfl,rfl⟩,rfl,⟨hrg,hrX,hid,⟨by show (1:Int)≤8; omega,by show (8:Int)<10; omega⟩,⟨hln.1,by show (s.dl X).line<8; omega⟩,⟨by show (-1:Int)≤0; omega,by show (0:Int)<6; omega⟩,⟨by show (0:Int)≤0; omega,by show (0:Int)<3; omega⟩,by simp,hz⟩,⟨y,hh,rfl⟩⟩
     · intro r' z1 z2
       obtain ⟨y',q',w1,w2,w3,w4⟩:=ph_sfront z2 e
       have hy':y'=y:=by omega
       subst hy'
       rw [hcv,y3] at w3
       obtain rfl:=Option.some.inj w3
       rw [hcc]
       exact w4 _ rfl
   · have erq:rqP g s.dl X=⟨5,(X:Int),(s.dl X).next,(s.dl X).id,(s.dl X).line,(s.dl X).head,0,false,[]⟩:=by unfold rqP askP; rw [if_neg (by omega),if_neg (by omega),if_neg (by omega),if_neg (by omega),if_pos e]
     obtain ⟨y,q,y1,y2,y3,y4⟩:=ph_sbehind P0 e
     have hy:y=h:=by rw [erq] at h5; have h5':(s.dl X).next=(h:Int):=h5; omega
     subst hy
     rw [hcv] at y3
     obtain ⟨c',s1,s2,s3,s4⟩:=s_behind hg hC hlg (by rw [erq]) (q:=q) (by rw [hline]; exact y3)
     rw [h5,hsrc,hpid,hline] at s1
     rw [hline] at s3
     have hcc:cv c' (s.dl X).line=some ⟨q.fwd,(rqP g s.dl X).ptr,q.dirty,q.data⟩:=by rw [s3,if_pos rfl]
     have eptr:(rqP g s.dl X).ptr=(s.dl X).head:=by rw [erq]
     rw [eptr] at hcc
     refine fin_serve hg I hh h1 hrm h25 y2 (by rw [erq]; exact ⟨by show (5:Int)≠1; omega,by show (5:Int)≠2; omega⟩) s1 ⟨by rw [y3]; simp,s2,fun L' hL'=>by rw [s3,if_neg hL'],fun L'=>by rw [s4]; exact Nat.le_refl _,fun z=>(by rw [hcc] at z; cases z),fun q' hq' hd=>by rw [hcc] at hq'; obtain rfl:=Option.some.inj hq'; exact ⟨q,y3,hd⟩⟩ ⟨fun z=>(by rw [hcc] at z; cases z),fun z=>by omega⟩ ?_ rfl (show (6:Int)<8 by omega) ?_
     · exact ⟨⟨hst,by rw [e]; rfl,rfl,rfl⟩,rfl,⟨hrg,hrX,hid,⟨by show (1:Int)≤8; omega,by show (8:Int)<10; omega⟩,⟨hln.1,by show (s.dl X).line<8; omega⟩,⟨by show (-1:Int)≤0; omega,by show (0:Int)<6; omega⟩,⟨by show (0:Int)≤0; omega,by show (0:Int)<3; omega⟩,by simp,hz⟩,⟨y,hh,rfl⟩⟩
     · intro r' z1 z2
       obtain ⟨y',q',w1,w2,w3,w4⟩:=ph_sbehind z2 e
       have hy':y'=y:=by omega
       subst hy'
       rw [hcv,y3] at w3
       obtain rfl:=Option.some.inj w3
       rw [hcc]
       exact w4 _ rfl
structure Stuck (g:CfgS) (s:St) (X:Nat):Prop where
 a:¬ (s.tk X=.ans∧s.dv X=true)
 gr:rdy (s.nd X).home.turns=[]∨¬ (((s.AP X).length:Nat):Int)<g.out
 rq:s.Q X=[]∨¬ (((s.AP X).length:Nat):Int)<g.out
 wk:s.tk X≠.idle∨cur (s.nd X)=none
theorem nstep_ok (hg:GOk g) (hP:POk g ops) (I:Inv g ops mem0 mem s) (hX:X<nn g):∃ r s' mem',nstepS (s.nd X) ⟨fab g s⟩ ⟨s.tr⟩=some (r,s'.nd X,⟨fab g s'⟩,⟨s'.tr⟩)∧(∀ j,j≠X→s'.nd j=s.nd j)∧Inv g ops mem0 mem' s'∧((r=0∧s'=s∧mem'=mem∧Stuck g s X)∨(r≠0∧mu g s'<mu g s))∧(∃ e,s'.tr=s.tr++e)∧NChg g s X (s.nd X) (s'.nd X):=by
 unfold nstepS
 by_cases hA:s.tk X=.ans∧s.dv X=true
 · obtain ⟨s',mem',e1,e2,e3,e4,e5,e6⟩:=(ev_answer hg hP I hX hA.1 hA.2).ex
   refine ⟨1,s',mem',?_,e2,e3,.inr ⟨by omega,e4⟩,e5,e6⟩
   rw [e1]
   rfl
 have eA:nansS (s.nd X) ⟨fab g s⟩ ⟨s.tr⟩=some (false,s.nd X,⟨fab g s⟩,⟨s.tr⟩):=by
  unfold nansS
  rw [reply_no hX (I.nod X hX).id hA]
  rfl
 rw [eA,Option.bind_some]
 simp only [cond_false]
 by_cases hG:rdy (s.nd X).home.turns≠[]∧(((s.AP X).length:Nat):Int)<g.out
 · obtain ⟨s',e1,e2,e3,e4,e5,e6⟩:=(ev_homegrant hg I hX hG.1 hG.2).ex
   refine ⟨2,s',mem,?_,e3,e4,.inr ⟨by omega,e5⟩,⟨[],by rw [e2]; simp⟩,e6⟩
   rw [e1,e2]
   rfl
 have hG':rdy (s.nd X).home.turns=[]∨¬ (((s.AP X).length:Nat):Int)<g.out:=by
  by_cases z:rdy (s.nd X).home.turns=[]
  · exact .inl z
  · exact .inr fun w=>hG ⟨z,w⟩
 rw [grant_no hg I hX hG',Option.bind_some]
 simp only [cond_false]
 by_cases hR:s.Q X≠[]∧(((s.AP X).length:Nat):Int)<g.out
 · obtain ⟨hq,hrm⟩:=hR
   cases hQ:s.Q X with
   |nil=>exact absurd hQ hq
   |cons Y ks =>
    obtain ⟨s',e1,e2,e3,e4,e5,e6⟩:=(ev_request hg I hX hQ hrm).ex
    refine ⟨3,s',mem,?_,e3,e4,.inr ⟨by omega,e5⟩,⟨[],by rw [e2]; simp⟩,e6⟩
    rw [e1,e2]
    rfl
 have hR':s.Q X=[]∨¬ (((s.AP X).length:Nat):Int)<g.out:=by
  by_cases z:s.Q X=[]
  · exact .inl z
  · exact .inr fun w=>hR ⟨z,w⟩
 rw [request_no hg I hX hR',Option.bind_some]
 simp only [cond_false]
 by_cases hW:s.tk X=.idle∧cur (s.nd X)≠none
 · obtain ⟨h1,hc⟩:=hW
   cases hcur:cur (s.nd X) with
   |none=>exact absurd hcur hc
   |some o =>
    obtain ⟨s',mem',e1,e2,e3,e4,e5,e6⟩:=(ev_work hg hP I hX h1 hcur).ex
    refine ⟨4,s',mem',?_,e2,e3,.inr ⟨by omega,e4⟩,e5,e6⟩
    rw [e1]
    rfl
 have hW':s.tk X≠.idle∨cur (s.nd X)=none:=by
  by_cases z:s.tk X=.idle
  · right
    exact Classical.byContradiction fun w=>hW ⟨z,w⟩
  · exact .inl z
 refine ⟨0,s,mem,?_,fun _ _=>rfl,I,.inl ⟨rfl,rfl,rfl,hA,hG',hR',hW'⟩,⟨[],(List.append_nil _).symm⟩,.same rfl rfl rfl⟩
 rw [work_no hP I hX hW']
 rfl
end
end
section
open Go
theorem wireP_any {p:PktS} {bit mask:Int} (hp:PLegal p) (hb:in64 bit) (hm:0≤mask∧mask<65536):wireP p bit mask=some (p,0)∨wireP p bit mask=some (pkt0,2):=by
 have h:=wire_any hp hb hm
 rw [wire_eq] at h
 exact h
theorem wireP_clean {p:PktS} (hp:PLegal p):wireP p 0 0=some (p,0):=by
 unfold wireP
 rw [if_pos ⟨hp,by omega,by omega,by omega⟩,if_pos rfl]
section
variable {R A:Nat→ChanS} {n:Nat}
theorem csOf_at {j:Nat} {ch:ChanS} (h:(csOf n R A)[j]?=some ch):j / 2<n∧(j=2*(j / 2)∧ch=R (j / 2)∨j=2*(j / 2)+1∧ch=A (j / 2)):=by
 have hl:=(List.getElem?_eq_some_iff.1 h).1
 rw [csOf_len] at hl
 have hk:j / 2<n:=by omega
 obtain ⟨h1,h2⟩:=csOf_get (R:=R) (A:=A) hk
 refine ⟨hk,?_⟩
 by_cases he:j=2*(j / 2)
 · left
   rw [← he,h] at h1
   exact ⟨he,Option.some.inj h1⟩
 · right
   have he':j=2*(j / 2)+1:=by omega
   rw [← he',h] at h2
   exact ⟨he',Option.some.inj h2⟩
end
section
variable {g:CfgS} {s s':St} {ops:Nat→List OpS} {mem0 mem mem':List Int} {k X h:Nat} {L:Int}
theorem fab_len:(fab g s).length=2*nn g:=csOf_len _
theorem fab_small (hg:GOk g) (I:Inv g ops mem0 mem s):(fab g s).length≤64∧∀ ch∈fab g s,ch.pool.l.length≤64:=by
 have hn:=nnI hg
 have hn6:=hg.n1
 have ho:=hg.o1
 refine ⟨by rw [fab_len]; omega,fun ch hc=>?_⟩
 obtain ⟨j,hj⟩:=List.getElem?_of_mem hc
 obtain ⟨hk,⟨-,rfl⟩ | ⟨-,rfl⟩⟩:=csOf_at hj
 · unfold RC
   simp only
   split <;> simp
 · have:=I.net.pl _ hk
   unfold AC
   simp only [List.length_map]
   omega
theorem del_no (hg:GOk g) (I:Inv g ops mem0 mem s) {at_ bit mask:Int} (ha:in64 at_) (h:at_<0∨seek (fab g s) at_.toNat=none):fdelS ⟨fab g s⟩ at_ bit mask=some (3,⟨fab g s⟩):=by
 obtain ⟨h1,h2⟩:=fab_small hg I
 have hu:=ha.2
 unfold fdelS
 by_cases hn:at_<0
 · rw [fpkt_neg h1 hn]
   rfl
 · have hs:seek (fab g s) at_.toNat=none:=by
    rcases h with h | h
    · exact absurd h hn
    · exact h
   have e:at_=(at_.toNat:Int):=by omega
   rw [e,fpkt_none h1 h2 (by omega) hs]
   rfl
theorem seek_who (I:Inv g ops mem0 mem s) {a j i:Nat} (h:seek (fab g s) a=some (j,i)):∃ X,X<nn g∧s.dv X=false∧((s.tk X=.req∧j=2*X∧i=0∧(fab g s)[j]?=some (RC g s X)∧(RC g s X).pool.l=[rqP g s.dl X]) ∨
 (s.tk X=.ans∧∃ k,k<nn g∧j=2*k+1∧(fab g s)[j]?=some (AC g s k)∧(s.AP k)[i]?=some X)):=by
 obtain ⟨ch,p,h1,h2⟩:=seek_some h
 obtain ⟨hk,⟨e,rfl⟩ | ⟨e,rfl⟩⟩:=csOf_at h1
 · have hc:s.tk (j / 2)=.req∧s.dv (j / 2)=false:=by
    apply Classical.byContradiction
    intro hc
    have:(RC g s (j / 2)).pool.l=[]:=by unfold RC; rw [if_neg hc]
    rw [this] at h2
    cases h2
   have hp:(RC g s (j / 2)).pool.l=[rqP g s.dl (j / 2)]:=by unfold RC; rw [if_pos hc]
   rw [hp] at h2
   have hi:i=0:=by
    have:=(List.getElem?_eq_some_iff.1 h2).1
    simpa using this
   exact ⟨j / 2,hk,hc.2,.inl ⟨hc.1,e,hi,h1,hp⟩⟩
 · have h2':((s.AP (j / 2)).map s.aw)[i]?=some p:=h2
   rw [List.getElem?_map] at h2'
   cases hx:(s.AP (j / 2))[i]? with
   |none=>rw [hx] at h2'; cases h2'
   |some X =>
    obtain ⟨hX,q1,q2,-⟩:=(I.net.pm _ hk X).1 (List.mem_of_getElem? hx)
    exact ⟨X,hX,q2,.inr ⟨q1,j / 2,hk,e,h1,hx⟩⟩
theorem erase_at:∀ {l:List Nat} {i X:Nat},l.Nodup→l[i]?=some X→l.take i++l.drop (i+1)=l.erase X
 |[],_,_,_,h=>by simp at h
 |y::l,0,X,_,h=>by
  simp at h
  subst h
  simp
 |y::l,i+1,X,hn,h=>by
  have h':l[i]?=some X:=by simpa using h
  obtain ⟨n1,n2⟩:=List.nodup_cons.1 hn
  have hne:¬ y=X:=fun e=>n1 (e▸List.mem_of_getElem? h')
  rw [List.erase_cons_tail (by simpa using hne),← erase_at n2 h']
  simp
theorem del_ok (hg:GOk g) (I:Inv g ops mem0 mem s) {at_ bit mask:Int} (ha:in64 at_) (h0:0≤at_) (hb:in64 bit) (hm:0≤mask∧mask<65536) {j i:Nat} (h:seek (fab g s) at_.toNat=some (j,i)) :
 (∃ e,e≠0∧fdelS ⟨fab g s⟩ at_ bit mask=some (e,⟨fab g s⟩)∧(mask=0→bit=0→∃ X t,j=2*X∧t<nn g∧(((s.Q t).length:Nat):Int)=g.inn)) ∨
 ∃ s',fdelS ⟨fab g s⟩ at_ bit mask=some (0,⟨fab g s'⟩)∧s'.nd=s.nd∧s'.tr=s.tr∧Inv g ops mem0 mem s'∧mu g s'<mu g s:=by
 obtain ⟨h1,h2⟩:=fab_small hg I
 have hu:=ha.2
 have hn:=nnI hg
 have e0:at_=(at_.toNat:Int):=by omega
 obtain ⟨X,hX,hdv,⟨htk,hj,hi,hch,hpl⟩ | ⟨htk,k,hk,hj,hch,hx⟩⟩:=seek_who I h
 · obtain ⟨⟨t,ht1,ht2⟩,hlg,hk1,hk2,-,-,-⟩:=I.rq hg hX (.inl htk)
   have hkind:1≤(rqP g s.dl X).kind:=hlg.2.2.2.1.1
   have hd4:=hlg.2.2.2.2.2.2.2.1
   have hp0:(RC g s X).pool.l[i]?=some (rqP g s.dl X):=by rw [hpl,hi]; rfl
   rcases wireP_any hlg hb hm with hw | hw
   · have hcu:(fab g s)[2*t]?=some (RC g s t):=(csOf_get ht1).1
     have hql:=I.net.ql t ht1
     have hi1:=hg.i1
     have hi0:=hg.i0
     have hqlen:(RC g s t).queue.l.length=(s.Q t).length:=by show ((s.Q t).map _).length=_; rw [List.length_map]
     have hE:=fdel_eq (n:=nn g) fab_len h1 h2 (a:=at_.toNat) (by omega) h hch hp0 (by omega) hw hkind ht2 ht1 (u:=2*t) (by rw [if_pos hk2]) hcu (by rw [hqlen]; omega) (by show 0≤g.inn; omega) (by show g.inn≤64; omega)
     rw [← e0,hqlen] at hE
     by_cases hf:(((s.Q t).length:Nat):Int)=g.inn
     · left
       refine ⟨5,by omega,?_,fun _ _=>⟨X,t,hj,ht1,hf⟩⟩
       rw [hE,if_pos (show (((s.Q t).length:Nat):Int)=(RC g s t).queue.room from hf)]
     · right
       rw [if_neg (show ¬ (((s.Q t).length:Nat):Int)=(RC g s t).queue.room from hf)] at hE
       obtain ⟨I',hmu⟩:=ev_dreq (h:=t) I hX htk hdv ht1 ht2 (by omega)
       refine ⟨{ s with dv:=upd s.dv X true,Q:=upd s.Q t (s.Q t++[X]) },?_,rfl,rfl,I',hmu⟩
       rw [hE]
       congr 3
       rw [hj]
       unfold fab
       rw [(csOf_set _ ht1).1,(csOf_set _ hX).1]
       refine csOf_con fun q hq=>⟨?_,?_⟩
       rotate_left
       · unfold AC
         by_cases eqX:q=X
         · subst eqX
           rw [if_neg (show ¬ (s.tk q=.ans∧s.dv q=true) by rw [htk]; simp),if_neg (show ¬ (s.tk q=.ans∧upd s.dv q true q=true) by rw [htk]; simp)]
         · simp only [upd_ne eqX]
       have e1:∀ (u:Nat) (v:List PktS),(⟨⟨(if s.tk u=.req∧s.dv u=false then [rqP g s.dl u] else []),g.out⟩,⟨v,g.inn⟩⟩:ChanS)=⟨(RC g s u).pool,⟨v,g.inn⟩⟩:=fun _ _=>rfl
       have hpool:(RC g s X).pool.l.take i++(RC g s X).pool.l.drop (i+1)=[]:=by rw [hpl,hi]; rfl
       rw [hpool]
       show _=(⟨⟨if s.tk q=.req∧upd s.dv X true q=false then [rqP g s.dl q] else [],g.out⟩,⟨(upd s.Q t (s.Q t++[X]) q).map (rqP g s.dl),g.inn⟩⟩:ChanS)
       by_cases eqX:q=X
       · subst eqX
         rw [upd_eq,upd_eq,if_neg (show ¬ (s.tk q=.req∧true=false) by simp)]
         by_cases eqt:q=t
         · subst eqt
           rw [if_pos (by omega),upd_eq,List.map_append]
           rfl
         · rw [if_neg (by omega),upd_ne eqt]
           rfl
       · rw [upd_ne eqX,upd_ne eqX]
         by_cases eqt:q=t
         · subst eqt
           rw [upd_eq,upd_eq,List.map_append]
           rfl
         · rw [upd_ne eqt,upd_ne eqt]
           rfl
   · left
     refine ⟨2,by omega,?_,fun z1 z2=>?_⟩
     · unfold fdelS
       rw [e0,fpkt_some h1 h2 (by omega) h hch hp0 (by omega),Option.bind_some]
       simp only [Bool.not_true,cond_false]
       rw [hw]
       rfl
     · subst z1; subst z2
       rw [wireP_clean hlg] at hw
       have:=congrArg (fun o:Option (PktS×Int)=>o.map Prod.snd) hw
       simp at this
 · have hA:=I.net.aw X hX htk
   have hlg:=hA.lg
   have hd4:=hlg.2.2.2.2.2.2.2.1
   have hkind:1≤(s.aw X).kind:=hlg.2.2.2.1.1
   have hk7:¬ (s.aw X).kind≤6:=by
    rw [hA.fit.kn]
    have:=hA.fit.st
    have hc:(s.dl X).step=1∨(s.dl X).step=2∨(s.dl X).step=3∨(s.dl X).step=4∨(s.dl X).step=5∨(s.dl X).step=6:=by omega
    rcases hc with e | e | e | e | e | e <;> rw [e] <;> decide
   have hp0:(AC g s k).pool.l[i]?=some (s.aw X):=by
    show ((s.AP k).map s.aw)[i]?=_
    rw [List.getElem?_map,hx]
    rfl
   rcases wireP_any hlg hb hm with hw | hw
   · have hcu:(fab g s)[2*X+1]?=some (AC g s X):=(csOf_get hX).2
     have hq0:(AC g s X).queue.l=[]:=by unfold AC; rw [hdv]; simp
     have hE:=fdel_eq (n:=nn g) fab_len h1 h2 (a:=at_.toNat) (by omega) h hch hp0 (by omega) hw hkind hA.dst hX (u:=2*X+1) (by rw [if_neg hk7]) hcu (by rw [hq0]; simp) (by show (0:Int)≤1; omega) (by show (1:Int)≤64; omega)
     rw [← e0,hq0] at hE
     right
     rw [if_neg (show ¬ (((([]:List PktS).length:Nat)):Int)=(AC g s X).queue.room by show ¬ (0:Int)=1; omega)] at hE
     obtain ⟨I',hmu⟩:=ev_dans (X:=X) I hX hk (List.mem_of_getElem? hx)
     refine ⟨{ s with dv:=upd s.dv X true,AP:=upd s.AP k ((s.AP k).erase X) },?_,rfl,rfl,I',hmu⟩
     rw [hE]
     congr 3
     rw [hj]
     unfold fab
     rw [(csOf_set _ hX).2,(csOf_set _ hk).2]
     have hpool:(AC g s k).pool.l.take i++(AC g s k).pool.l.drop (i+1)=((s.AP k).erase X).map s.aw:=by
      show ((s.AP k).map s.aw).take i++((s.AP k).map s.aw).drop (i+1)=_
      rw [← erase_at (I.net.pn k hk) hx,List.map_append,List.map_take,List.map_drop]
     rw [hpool]
     refine csOf_con fun q hq=>⟨?_,?_⟩
     · unfold RC
       by_cases eqX:q=X
       · subst eqX
         rw [if_neg (show ¬ (s.tk q=.req∧s.dv q=false) by rw [htk]; simp),if_neg (show ¬ (s.tk q=.req∧upd s.dv q true q=false) by rw [htk]; simp)]
         rfl
       · simp only [upd_ne eqX]; rfl
     · by_cases eqk:q=k
       · subst eqk
         rw [upd_eq]
         unfold AC
         simp only [upd_eq]
         by_cases eqX:q=X
         · subst eqX
           rw [if_pos rfl,upd_eq]
           simp [htk]
         · rw [if_neg (by omega),upd_ne eqX]
       · rw [upd_ne eqk]
         unfold AC
         simp only [upd_ne eqk]
         by_cases eqX:q=X
         · subst eqX
           rw [upd_eq,upd_eq]
           simp [htk]
         · rw [upd_ne eqX,upd_ne eqX]
   · left
     refine ⟨2,by omega,?_,fun z1 z2=>?_⟩
     · unfold fdelS
       rw [e0,fpkt_some h1 h2 (by omega) h hch hp0 (by omega),Option.bind_some]
       simp only [Bool.not_true,cond_false]
       rw [hw]
       rfl
     · subst z1; subst z2
       rw [wireP_clean hlg] at hw
       have:=congrArg (fun o:Option (PktS×Int)=>o.map Prod.snd) hw
       simp at this
end
end
section
open Go
def Chg (g:CfgS) (s s':St):Prop:=∀ k,k<nn g→NChg g s k (s.nd k) (s'.nd k)
theorem Chg.rfl' {g:CfgS} {s s':St} (h:s'.nd=s.nd):Chg g s s':=fun k _=>by rw [h]; exact .same rfl rfl rfl
structure PkOk (p:PickS):Prop where
 a:in64 p.at_
 b:in64 p.bit
 m:0≤p.mask∧p.mask<65536
section
variable {g:CfgS} {s s':St} {ops:Nat→List OpS} {mem0 mem mem':List Int} {k X h:Nat} {L:Int}
theorem conc_nodes:(conc g s).nodes.length=nn g:=by unfold conc; simp
theorem do_step (hg:GOk g) (hP:POk g ops) (I:Inv g ops mem0 mem s) (hX:X<nn g) {b m:Int}:∃ r s' mem',mdoS (conc g s) ⟨false,(X:Int),b,m⟩=some (r,conc g s')∧Inv g ops mem0 mem' s'∧Chg g s s'∧(∃ e,s'.tr=s.tr++e)∧((r=false∧s'=s∧mem'=mem∧Stuck g s X)∨(r=true∧mu g s'<mu g s)):=by
 obtain ⟨r,s',mem',e1,e2,e3,e4,e5,e6⟩:=nstep_ok hg hP I hX
 have hch:Chg g s s':=fun k hk=>by
  by_cases ek:k=X
  · subst ek; exact e6
  · rw [e2 k ek]; exact .same rfl rfl rfl
 have hd:mdoS (conc g s) ⟨false,(X:Int),b,m⟩=some (!(decide (r=0)),conc g s'):=by
  unfold mdoS mnodeS
  simp only [cond_false]
  rw [conc_nodes,decide_eq_false (by omega),cond_false,decide_eq_false (by omega),cond_false,chk_true (by omega),Option.bind_some]
  simp only [optM]
  rw [chk_true (by omega),nth_nd hX]
  show (nstepS (s.nd X) ⟨fab g s⟩ ⟨s.tr⟩).bind _=_
  rw [e1,Option.bind_some]
  simp only
  have:setS (conc g s).nodes (X:Int) (s'.nd X)=(List.range (nn g)).map s'.nd:=by
   show setS ((List.range (nn g)).map s.nd) _ _=_
   rw [set_nd hX]
   refine List.map_congr_left fun j _=>?_
   by_cases ej:j=X
   · subst ej; rw [upd_eq]
   · rw [upd_ne ej,e2 j ej]
  rw [this]
  rfl
 refine ⟨_,s',mem',hd,e3,hch,e5,?_⟩
 rcases e4 with ⟨z1,z2,z3,z4⟩ | ⟨z1,z2⟩
 · exact .inl ⟨by rw [decide_eq_true z1]; rfl,z2,z3,z4⟩
 · exact .inr ⟨by rw [decide_eq_false z1]; rfl,z2⟩
theorem do_del (hg:GOk g) (I:Inv g ops mem0 mem s) {at_ bit mask:Int} (ha:in64 at_) (hb:in64 bit) (hm:0≤mask∧mask<65536):∃ r s',mdoS (conc g s) ⟨true,at_,bit,mask⟩=some (r,conc g s')∧Inv g ops mem0 mem s'∧s'.nd=s.nd∧s'.tr=s.tr ∧
 ((r=false∧s'=s∧(0≤at_→mask=0→bit=0→∀ j i,seek (fab g s) at_.toNat=some (j,i)→∃ X t,j=2*X∧t<nn g∧(((s.Q t).length:Nat):Int)=g.inn))∨(r=true∧mu g s'<mu g s)):=by
 have hd:mdoS (conc g s) ⟨true,at_,bit,mask⟩=(fdelS ⟨fab g s⟩ at_ bit mask).bind fun y=>some (decide (y.1=0),{ conc g s with fab:=y.2 }):=rfl
 by_cases hn:at_<0∨seek (fab g s) at_.toNat=none
 · rw [hd,del_no hg I ha hn]
   refine ⟨false,s,rfl,I,rfl,rfl,.inl ⟨rfl,rfl,fun h0 _ _ j i hs=>?_⟩⟩
   rcases hn with hn | hn
   · omega
   · rw [hn] at hs; cases hs
 · have h0:0≤at_:=by
    apply Classical.byContradiction
    intro z
    exact hn (.inl (by omega))
   cases hs:seek (fab g s) at_.toNat with
   |none=>exact absurd (.inr hs) hn
   |some y =>
    obtain ⟨j,i⟩:=y
    rcases del_ok hg I ha h0 hb hm hs with ⟨e,e1,e2,e3⟩ | ⟨s',e1,e2,e3,e4,e5⟩
    · rw [hd,e2]
      refine ⟨false,s,?_,I,rfl,rfl,.inl ⟨rfl,rfl,fun _ z1 z2 j' i' hs'=>?_⟩⟩
      · rw [Option.bind_some,decide_eq_false e1]
        rfl
      · obtain ⟨rfl,rfl⟩:=Prod.mk.inj (Option.some.inj hs')
        exact e3 z1 z2
    · rw [hd,e1]
      refine ⟨true,s',?_,e4,e2,e3,.inr ⟨rfl,e5⟩⟩
      rw [Option.bind_some]
      unfold conc
      rw [e2,e3]
      rfl
theorem do_ok (hg:GOk g) (hP:POk g ops) (I:Inv g ops mem0 mem s) {p:PickS} (hp:PkOk p):∃ r s' mem',mdoS (conc g s) p=some (r,conc g s')∧Inv g ops mem0 mem' s'∧Chg g s s'∧(∃ e,s'.tr=s.tr++e)∧mu g s'≤mu g s:=by
 obtain ⟨dl,at_,bit,mask⟩:=p
 cases dl with
 |true =>
  obtain ⟨r,s',e1,e2,e3,e4,e5⟩:=do_del (s:=s) hg I hp.a hp.b hp.m
  refine ⟨r,s',mem,e1,e2,.rfl' e3,⟨[],by rw [e4]; simp⟩,?_⟩
  rcases e5 with ⟨-,z,-⟩ | ⟨-,z⟩
  · rw [z]; exact Nat.le_refl _
  · omega
 |false =>
  by_cases hX:0≤at_∧at_<((nn g:Nat):Int)
  · have e:at_=(at_.toNat:Int):=by omega
    rw [e]
    obtain ⟨r,s',mem',e1,e2,e3,e4,e5⟩:=do_step (X:=at_.toNat) (b:=bit) (m:=mask) hg hP I (by omega)
    refine ⟨r,s',mem',e1,e2,e3,e4,?_⟩
    rcases e5 with ⟨-,z,-⟩ | ⟨-,z⟩
    · rw [z]; exact Nat.le_refl _
    · omega
  · refine ⟨false,s,mem,?_,I,.rfl' rfl,⟨[],by simp⟩,Nat.le_refl _⟩
    unfold mdoS mnodeS
    simp only [cond_false]
    rw [conc_nodes]
    by_cases h0:at_<0
    · rw [decide_eq_true h0]; rfl
    · rw [decide_eq_false h0,cond_false,decide_eq_true (by omega)]; rfl
theorem nn6 (hg:GOk g):nn g≤6∧1≤nn g:=by have:=nnI hg; have:=hg.n1; have:=hg.n0; omega
end
end
section
open Go
theorem within_ok {v n:Int} (hv:in64 v) (hn:n≤100000):∃ b,withinS v n=some b∧(n<1→b=0)∧(1≤n→0≤b∧b<n∧(0≤v→v<n→b=v)):=by
 unfold withinS
 by_cases h:n<1
 · rw [decide_eq_true h]
   exact ⟨0,rfl,fun _=>rfl,fun z=>by omega⟩
 · rw [decide_eq_false h,cond_false,chk_true (by omega)]
   have h1:=Int.lt_tmod_of_pos v (show 0<n by omega)
   have h2:=Int.tmod_lt_of_pos v (show 0<n by omega)
   by_cases hz:v.tmod n<0
   · refine ⟨v.tmod n+n,?_,fun z=>absurd z h,fun _=>⟨by omega,by omega,fun a b=>?_⟩⟩
     · rw [decide_eq_true hz,cond_true,chk_true (by unfold inR; omega)]
     · rw [Int.tmod_eq_of_lt a b] at hz; omega
   · refine ⟨v.tmod n,?_,fun z=>absurd z h,fun _=>⟨by omega,by omega,fun a b=>Int.tmod_eq_of_lt a b⟩⟩
     rw [decide_eq_false hz,cond_false]
structure ChOk (x:ChoiceS):Prop where
 d:in64 x.do_
 a:in64 x.at_
 b:in64 x.bit
 m:0≤x.mask∧x.mask<65536
theorem in64_s {x:Int} (h:-1000000≤x∧x≤1000000):in64 x:=⟨by omega,by omega⟩
theorem pick_ok {x:ChoiceS} {n u:Int} (h:ChOk x) (hn:1≤n∧n≤6) (hu:0≤u∧u≤100000):∃ p,ppickS x n u=some p∧PkOk p:=by
 unfold ppickS
 have hz:in64 0:=in64_s (by omega)
 by_cases h1:x.do_.tmod 23=22
 · rw [decide_eq_true h1,cond_true]
   exact ⟨_,rfl,h.a,h.b,h.m⟩
 · rw [decide_eq_false h1,cond_false]
   obtain ⟨b,e1,-,e2⟩:=within_ok (n:=2) h.d (by omega)
   rw [e1,Option.bind_some]
   by_cases h2:b=0
   · rw [decide_eq_true h2,cond_true]
     obtain ⟨c,f1,-,f2⟩:=within_ok (n:=n) h.a (by omega)
     rw [f1]
     exact ⟨_,rfl,in64_s (by have:=f2 hn.1; show -1000000≤c∧c≤1000000; omega),hz,by show (0:Int)≤0∧(0:Int)<65536; omega⟩
   · rw [decide_eq_false h2,cond_false]
     obtain ⟨c,f1,f3,f2⟩:=within_ok (n:=u) h.a (by omega)
     have hc:in64 c:=by
      by_cases hu1:u<1
      · rw [f3 hu1]; exact hz
      · have:=f2 (by omega); exact in64_s (by omega)
     rw [f1,Option.bind_some]
     by_cases h3:x.do_.tmod 7=6
     · rw [decide_eq_true h3,cond_true]
       obtain ⟨d,g1,-,g2⟩:=within_ok (n:=120) h.b (by omega)
       rw [g1]
       exact ⟨_,rfl,hc,in64_s (by have:=g2 (by omega); show -1000000≤d∧d≤1000000; omega),h.m⟩
     · rw [decide_eq_false h3,cond_false]
       exact ⟨_,rfl,hc,hz,by show (0:Int)≤0∧(0:Int)<65536; omega⟩
def Keep (g:CfgS) (ops:Nat→List OpS) (mem0:List Int) (J:St→Prop):Prop:=∀ s s' mem mem',Inv g ops mem0 mem s→Inv g ops mem0 mem' s'→Chg g s s'→J s→J s'
section
variable {g:CfgS} {s s':St} {ops:Nat→List OpS} {mem0 mem mem':List Int} {k X h:Nat} {L:Int} {J:St→Prop}
theorem conf_eq (hg:GOk g):mconfS (conc g s)=some g:=by
 have h:=hg.ini
 have h1:=hg.l1
 have h2:=hg.w1
 have h3:=hg.w0
 have hm:g.lines*g.words≤8*g.words:=Int.mul_le_mul_of_nonneg_right h1 (by omega)
 unfold mconfS cloneS
 show (chk (g.init.length≤1099511627776) (some g.init)).bind _=_
 rw [chk_true (by omega)]
 rfl
theorem tot_le (hg:GOk g) (I:Inv g ops mem0 mem s):tot (fab g s)≤1000:=by
 obtain ⟨h1,h2⟩:=fab_small hg I
 have h3:∀ cs:List ChanS,(∀ ch∈cs,ch.pool.l.length≤64)→tot cs≤64*cs.length:=by
  intro cs
  induction cs with
  |nil=>intro _; simp [tot]
  |cons c cs ih =>
   intro h
   have a:=h c (by simp)
   have b:=ih fun ch hc=>h ch (by simp [hc])
   simp [tot] at b ⊢
   omega
 have:=h3 _ h2
 have h4:=fab_len (g:=g) (s:=s)
 have:=(nn6 hg).1
 omega
theorem nthC {l:List ChoiceS} {i:Nat} {x:ChoiceS} (h:l[i]?=some x):nthT l (i:Int)=x:=nthT_at h
theorem run_l0 (hg:GOk g) (hP:POk g ops) (K:Keep g ops mem0 J) (l:List ChoiceS) (hl:∀ x∈l,ChOk x) (most:Int) (hm:most≤1000):∀ (m i:Nat) (s:St) (mem:List Int),Inv g ops mem0 mem s→J s→i≤l.length→l.length<m+i →
 ∃ s' mem',trunS_l0 l most m (i:Int) (conc g s)=some (conc g s')∧Inv g ops mem0 mem' s'∧J s'∧(∃ e,s'.tr=s.tr++e)∧mu g s'≤mu g s
 |0,i,s,mem,I,hJ,h1,h2=>by omega
 |m+1,i,s,mem,I,hJ,h1,h2=>by
  have hend:trunS_j1 (i:Int) l (conc g s) (trunS_l0 l most m) false=some (conc g s):=rfl
  rw [trunS_l0]
  by_cases hi:i<l.length
  · rw [decide_eq_true (by omega),cond_true]
    by_cases hmo:(i:Int)<most
    · rw [decide_eq_true hmo]
      unfold trunS_j1
      have hx:l[i]?=some l[i]:=List.getElem?_eq_getElem hi
      obtain ⟨f1,f2⟩:=fab_small hg I
      have ht:=tot_le hg I
      obtain ⟨p,p1,p2⟩:=pick_ok (hl l[i] (List.getElem_mem hi)) ⟨hg.n0,hg.n1⟩ (u:=((tot (fab g s):Nat):Int)) (by omega)
      obtain ⟨r,s1,mem1,d1,d2,d3,⟨e,d4⟩,d5⟩:=do_ok hg hP I p2
      have hu:funderS (conc g s).fab=some ((tot (fab g s):Nat):Int):=under_eq f1 f2
      rw [cond_true,chk_true (by omega),conf_eq hg,Option.bind_some,hu,Option.bind_some,nthC hx,p1,Option.bind_some,d1,Option.bind_some,chk_true (by unfold inR; omega)]
      obtain ⟨s2,mem2,e1,e2,e3,⟨e',e4⟩,e5⟩:=run_l0 hg hP K l hl most hm m (i+1) s1 mem1 d2 (K _ _ _ _ I d2 d3 hJ) (by omega) (by omega)
      rw [show (((i+1:Nat)):Int)=(i:Int)+1 by omega] at e1
      exact ⟨s2,mem2,e1,e2,e3,⟨e++e',by rw [e4,d4,List.append_assoc]⟩,Nat.le_trans e5 d5⟩
    · rw [decide_eq_false hmo,hend]
      exact ⟨s,mem,rfl,I,hJ,⟨[],(List.append_nil _).symm⟩,Nat.le_refl _⟩
  · rw [decide_eq_false (by omega),cond_false,hend]
    exact ⟨s,mem,rfl,I,hJ,⟨[],(List.append_nil _).symm⟩,Nat.le_refl _⟩
theorem run_ok (hg:GOk g) (hP:POk g ops) (K:Keep g ops mem0 J) {l:List ChoiceS} (hl:∀ x∈l,ChOk x) {most:Int} (hm:most≤1000) (I:Inv g ops mem0 mem s) (hJ:J s) :
 ∃ s' mem',trunS (conc g s) l most=some (conc g s')∧Inv g ops mem0 mem' s'∧J s'∧(∃ e,s'.tr=s.tr++e)∧mu g s'≤mu g s:=run_l0 hg hP K l hl most hm _ 0 s mem I hJ (by omega) (by omega)
theorem nthI {l:List Int} {i:Nat} (h:i<l.length):nth l (i:Int)∈l:=by
 rw [nth_at (List.getElem?_eq_getElem h)]
 exact List.getElem_mem h
end
end
section
open Go
section
variable {g:CfgS} {L:Int}
theorem right_ok (hg:GOk g) {o:OpS} (ho:OOk g o):prightS g o=some true:=by
 have h:=line_ok hg ho
 obtain ⟨a1,a2,a3,a4,a5⟩:=addr_eq hg ho
 unfold prightS
 rw [h,Option.bind_some,decide_eq_true ho.k0,cond_true,decide_eq_true ho.k1,cond_true]
 simp only
 rw [decide_eq_false (by omega),Bool.not_false,cond_true]
 rcases ho.vz with z | z | z
 · rw [decide_eq_true z]; rfl
 · rw [decide_eq_true z]
   cases decide (o.value=0) <;> rfl
 · rw [decide_eq_true z]
   cases decide (o.value=0) <;> cases decide (o.kind=2) <;> rfl
theorem oidx_l1 (hg:GOk g) (s:List OpS) (hs:s.length≤1000) (ho:∀ o∈s,OOk g o):∀ (m i:Nat),i≤s.length→s.length<m+i→oidxS_l1 s g oidxS_j0 m (i:Int)=some (-1)
 |0,i,h1,h2=>by omega
 |m+1,i,h1,h2=>by
  rw [oidxS_l1]
  by_cases hi:i<s.length
  · have hx:s[i]?=some s[i]:=List.getElem?_eq_getElem hi
    rw [decide_eq_true (by omega),cond_true,chk_true (by omega)]
    dsimp only [letP]
    rw [nthT_at hx]
    unfold pops11S
    rw [right_ok hg (ho _ (List.getElem_mem hi)),Option.bind_some,Option.bind_some,Bool.not_true,cond_false,chk_true (by unfold inR; omega)]
    have ih:=oidx_l1 hg s hs ho m (i+1) (by omega) (by omega)
    rw [show (((i+1:Nat)):Int)=(i:Int)+1 by omega] at ih
    exact ih
  · rw [decide_eq_false (by omega),cond_false]
    rfl
structure PsOk (g:CfgS) (ps:List (List OpS)):Prop where
 len:ps.length=nn g
 sh:∀ l∈ps,l.length≤24
 ok:∀ l∈ps,∀ o∈l,OOk g o
theorem pops1_ok (hg:GOk g) {l:List OpS} (h1:l.length≤24) (h2:∀ o∈l,OOk g o):pops1S l g=some false:=by
 unfold pops1S ocontS oidxS
 have:=oidx_l1 hg l (by omega) h2 (l.length+1) 0 (by omega) (by omega)
 rw [decide_eq_false (by omega),cond_false,show (0:Int)=((0:Nat):Int) from rfl,this]
 rfl
theorem lidx_l1 (hg:GOk g) (s:List (List OpS)) (hs:s.length≤1000) (ho:∀ l∈s,l.length≤24∧∀ o∈l,OOk g o):∀ (m i:Nat),i≤s.length→s.length<m+i→lidxS_l1 s g lidxS_j0 m (i:Int)=some (-1)
 |0,i,h1,h2=>by omega
 |m+1,i,h1,h2=>by
  rw [lidxS_l1]
  by_cases hi:i<s.length
  · have hx:s[i]?=some s[i]:=List.getElem?_eq_getElem hi
    have hm:=ho _ (List.getElem_mem hi)
    rw [decide_eq_true (by omega),cond_true,chk_true (by omega)]
    dsimp only [letP]
    rw [nthT_at hx,pops1_ok hg hm.1 hm.2,Option.bind_some,cond_false,chk_true (by unfold inR; omega)]
    have ih:=lidx_l1 hg s hs ho m (i+1) (by omega) (by omega)
    rw [show (((i+1:Nat)):Int)=(i:Int)+1 by omega] at ih
    exact ih
  · rw [decide_eq_false (by omega),cond_false]
    rfl
theorem pops_ok (hg:GOk g) {ps:List (List OpS)} (h:PsOk g ps):popsS g ps=some 0:=by
 have hn:=nnI hg
 have hn6:=hg.n1
 have hl:=h.len
 unfold popsS lcontS lidxS
 have:=lidx_l1 hg ps (by omega) (fun l hm=>⟨h.sh l hm,h.ok l hm⟩) (ps.length+1) 0 (by omega) (by omega)
 rw [show (0:Int)=((0:Nat):Int) from rfl,this,Option.bind_some,decide_eq_false (by omega),Option.bind_some,cond_false,decide_eq_true (by omega),Bool.not_true]
 rfl
def opsL (ps:List (List OpS)) (k:Nat):List OpS:=ps.getD k []
theorem opsL_at {ps:List (List OpS)} {k:Nat} (h:k<ps.length):ps[k]?=some (opsL ps k)∧opsL ps k∈ps:=by
 have e:ps[k]?=some ps[k]:=List.getElem?_eq_getElem h
 have e2:opsL ps k=ps[k]:=by unfold opsL; rw [List.getD_eq_getElem?_getD,e]; rfl
 rw [e2]
 exact ⟨e,List.getElem_mem h⟩
theorem PsOk.pok {ps:List (List OpS)} (h:PsOk g ps):POk g (opsL ps):=by
 have h0:∀ k,opsL ps k∈ps∨opsL ps k=[]:=fun k=>by
  by_cases hk:k<ps.length
  · exact .inl (opsL_at hk).2
  · right; unfold opsL; rw [List.getD_eq_getElem?_getD,List.getElem?_eq_none (by omega)]; rfl
 refine ⟨fun k=>?_,fun k o ho=>?_⟩
 · rcases h0 k with z | z
   · exact h.sh _ z
   · rw [z]; simp
 · rcases h0 k with z | z
   · exact h.ok _ z o ho
   · rw [z] at ho; cases ho
theorem check_ok (hg:GOk g):pcheckS g=some 0:=by
 have w:∀ n m:Int,1≤n→n≤m→pwithinS n m=some true:=fun n m h1 h2=>by
  unfold pwithinS
  rw [decide_eq_true h1,cond_true,decide_eq_true h2]
 have h1:=hg.l1
 have h2:=hg.w1
 have h3:=hg.w0
 have h4:=hg.l0
 have hm:g.lines*g.words≤8*g.words:=Int.mul_le_mul_of_nonneg_right h1 (by omega)
 have hm0:0≤g.lines*g.words:=Int.mul_nonneg (by omega) (by omega)
 have hi:=hg.ini
 unfold pcheckS pcheckS_j0 pcheckS_j1 pcheckS_j2
 rw [w _ _ hg.n0 hg.n1,Option.bind_some,cond_true,w _ _ hg.l0 hg.l1,Option.bind_some,cond_true,w _ _ hg.w0 hg.w1,Option.bind_some]
 simp only [w _ _ hg.s0 hg.s1,w _ _ hg.y0 hg.y1,w _ _ hg.o0 hg.o1,w _ _ hg.i0 hg.i1,Option.bind_some,cond_true,Bool.not_true,cond_false]
 rw [wr_in (by omega) (by omega),decide_eq_false (by omega)]
 rfl
def w0 (g:CfgS) (L:Int):List Int:=cpI (List.replicate g.words.toNat 0) (g.init.drop (min (L*g.words).toNat g.init.length))
theorem w0_len (hg:GOk g):(w0 g L).length=g.words.toNat:=by
 unfold w0 cpI
 rw [List.length_append,List.length_take,List.length_drop,List.length_drop,List.length_replicate]
 omega
theorem w0_ok (hg:GOk g) (hi:∀ x∈g.init,in64 x):WOk g (w0 g L):=by
 refine ⟨by rw [w0_len hg]; have:=hg.w0; omega,fun d hd=>?_⟩
 unfold w0 cpI at hd
 rcases List.mem_append.1 hd with h | h
 · exact hi d (List.mem_of_mem_drop (List.mem_of_mem_take h))
 · have:=List.eq_of_mem_replicate (List.mem_of_mem_drop h)
   rw [this]
   exact in64_s (by omega)
theorem pwords_eq (hg:GOk g) (h0:0≤L) (h1:L<g.lines):pwordsS g L=some (w0 g L):=by
 have h2:=hg.w1
 have h3:=hg.w0
 have h4:=hg.l1
 have hm:L*g.words≤8*g.words:=Int.mul_le_mul_of_nonneg_right (by omega) (by omega)
 have hm0:0≤L*g.words:=Int.mul_nonneg (by omega) (by omega)
 unfold pwordsS
 rw [decide_eq_false (by omega),cond_false,decide_eq_false (by omega)]
 unfold pwordsS_j0
 rw [cond_false,chk_true (by omega)]
 dsimp only [letP]
 rw [wr_in (by omega) (by omega)]
 have e:(if (g.init.length:Int)<L*g.words then (g.init.length:Int) else L*g.words)=((min (L*g.words).toNat g.init.length:Nat):Int):=by
  split <;> omega
 rw [e,chk_true (by omega)]
 have e2:(g.init.drop ((min (L*g.words).toNat g.init.length:Nat):Int).toNat).take (((g.init.length:Int)).toNat - ((min (L*g.words).toNat g.init.length:Nat):Int).toNat)=g.init.drop (min (L*g.words).toNat g.init.length):=by
  rw [Int.toNat_natCast,Int.toNat_natCast,List.take_of_length_le]
  rw [List.length_drop]
  omega
 rw [e2]
 rfl
def lN (g:CfgS):Nat:=g.lines.toNat
def mem0 (g:CfgS):List Int:=(List.range (lN g)).flatMap fun k:Nat=>w0 g (k:Int)
theorem flat_len {f:Nat→List Int} {W:Nat} (h:∀ k,(f k).length=W):∀ n,((List.range n).flatMap f).length=n*W
 |0=>by simp
 |n+1=>by
  rw [List.range_succ,List.flatMap_append,List.length_append,flat_len h n,Nat.succ_mul]
  simp [h]
theorem flat_at {f:Nat→List Int} {W:Nat} (h:∀ k,(f k).length=W) {k:Nat}:∀ {n:Nat},k<n→(((List.range n).flatMap f).drop (k*W)).take W=f k
 |0,hk=>by omega
 |n+1,hk=>by
  rw [List.range_succ,List.flatMap_append]
  have hl:=flat_len h n
  by_cases e:k=n
  · subst e
    rw [List.drop_append_of_le_length (by omega),List.drop_of_length_le (by omega),List.nil_append,show List.flatMap f [k]=f k by simp,List.take_of_length_le (by rw [h]; omega)]
  · have hkn:k<n:=by omega
    have hle:(k+1)*W≤n*W:=Nat.mul_le_mul_right _ (by omega)
    rw [Nat.succ_mul] at hle
    rw [List.drop_append_of_le_length (by omega),List.take_append_of_le_length (by rw [List.length_drop]; omega)]
    exact flat_at h hkn
theorem lw_mem0 (hg:GOk g) (h0:0≤L) (h1:L<g.lines):lw g (mem0 g) L=w0 g L:=by
 unfold lw mem0
 have hw:=hg.w0
 have e:(L*g.words).toNat=L.toNat*g.words.toNat:=by
  have:(((L.toNat*g.words.toNat:Nat)):Int)=L*g.words:=by
   rw [Int.natCast_mul,Int.toNat_of_nonneg h0,Int.toNat_of_nonneg (by omega)]
  omega
 rw [e,flat_at (fun k=>w0_len (L:=(k:Int)) hg) (n:=lN g) (k:=L.toNat) (by unfold lN; omega)]
 congr 1
 omega
theorem mem0_len (hg:GOk g):(((mem0 g).length:Nat):Int)=g.lines*g.words:=by
 unfold mem0
 rw [flat_len (fun k=>w0_len (L:=(k:Int)) hg),Int.natCast_mul]
 unfold lN
 have:=hg.w0
 have:=hg.l0
 rw [Int.toNat_of_nonneg (by omega),Int.toNat_of_nonneg (by omega)]
theorem mem0_rng (hg:GOk g) (hi:∀ x∈g.init,in64 x):∀ x∈mem0 g,in64 x:=by
 intro x hx
 obtain ⟨k,-,hk⟩:=List.mem_flatMap.1 hx
 exact (w0_ok hg hi).rng x hk
theorem rows_l1 (hg:GOk g) (node:Int):∀ (m i:Nat) (r:List (Int×RowS)),i≤lN g→lN g<m+i→(∀ L,mget r L=if 0≤L∧L<(i:Int)∧L.tmod g.nodes=node then some ⟨0,-1,w0 g L⟩ else none) →
 ∃ r',mnewS_l1 g node (mnewS_j0 g) m (i:Int) r=some ⟨g,r'⟩∧∀ L,mget r' L=if 0≤L∧L<g.lines∧L.tmod g.nodes=node then some ⟨0,-1,w0 g L⟩ else none
 |0,i,r,h1,h2,h3=>by omega
 |m+1,i,r,h1,h2,h3=>by
  have hl0:=hg.l0
  have hl1:=hg.l1
  have hlN:((lN g:Nat):Int)=g.lines:=by unfold lN; omega
  rw [mnewS_l1]
  by_cases hi:i<lN g
  · rw [decide_eq_true (by omega),cond_true]
    have hph:phomeS g (i:Int)=some ((i:Int).tmod g.nodes):=by
     unfold phomeS prestS
     rw [decide_eq_false (by omega),cond_false,chk_true hg.n0]
     rfl
    rw [hph,Option.bind_some]
    by_cases hh:(i:Int).tmod g.nodes=node
    · rw [decide_eq_true hh,cond_true,pwords_eq hg (by omega) (by omega),Option.bind_some]
      dsimp only [letP]
      unfold mnewS_j2
      rw [chk_true (by unfold inR; omega)]
      have ih:=rows_l1 hg node m (i+1) (mset r (i:Int) ⟨0,-1,w0 g (i:Int)⟩) (by omega) (by omega) fun L=>by
       rw [mget_mset,h3]
       by_cases e:L=(i:Int)
       · subst e
         rw [if_pos rfl,if_pos ⟨by omega,by omega,hh⟩]
       · rw [if_neg e]
         by_cases hc:0≤L∧L<(i:Int)∧L.tmod g.nodes=node
         · rw [if_pos hc,if_pos ⟨hc.1,by omega,hc.2.2⟩]
         · rw [if_neg hc,if_neg (fun z=>hc ⟨z.1,by omega,z.2.2⟩)]
      rw [show (((i+1:Nat)):Int)=(i:Int)+1 by omega] at ih
      exact ih
    · rw [decide_eq_false hh,cond_false]
      unfold mnewS_j2
      rw [chk_true (by unfold inR; omega)]
      have ih:=rows_l1 hg node m (i+1) r (by omega) (by omega) fun L=>by
       rw [h3]
       by_cases hc:0≤L∧L<(i:Int)∧L.tmod g.nodes=node
       · rw [if_pos hc,if_pos ⟨hc.1,by omega,hc.2.2⟩]
       · rw [if_neg hc,if_neg]
         intro z
         by_cases e:L=(i:Int)
         · subst e; exact hh z.2.2
         · exact hc ⟨z.1,by omega,z.2.2⟩
      rw [show (((i+1:Nat)):Int)=(i:Int)+1 by omega] at ih
      exact ih
  · rw [decide_eq_false (by omega),cond_false]
    refine ⟨r,rfl,fun L=>?_⟩
    rw [h3]
    have:i=lN g:=by omega
    subst this
    rw [hlN]
theorem rows_ok (hg:GOk g) (node:Int):∃ r',mnewS g node=some ⟨g,r'⟩∧∀ L,mget r' L=if 0≤L∧L<g.lines∧L.tmod g.nodes=node then some ⟨0,-1,w0 g L⟩ else none:=by
 have:=rows_l1 hg node (g.lines.toNat+1) 0 [] (by omega) (by unfold lN; omega) fun L=>by
  rw [if_neg (by omega)]
  rfl
 exact this
noncomputable def rows0 (g:CfgS) (hg:GOk g) (k:Nat):List (Int×RowS):=Classical.choose (rows_ok hg (k:Int))
theorem rows0_ok (hg:GOk g) (k:Nat):mnewS g (k:Int)=some ⟨g,rows0 g hg k⟩∧∀ L,mget (rows0 g hg k) L=if 0≤L∧L<g.lines∧L.tmod g.nodes=(k:Int) then some ⟨0,-1,w0 g L⟩ else none:=Classical.choose_spec (rows_ok hg (k:Int))
noncomputable def node0' (g:CfgS) (hg:GOk g) (ops:List OpS) (k:Nat):NodeS:=⟨⟨[],g.sets,g.ways,0⟩,⟨ops,[],false⟩,g,(k:Int),⟨⟨g,rows0 g hg k⟩,⟨[],[]⟩,g,(k:Int)⟩,⟨0,0,0,0,0,0,[],0,0⟩,0⟩
noncomputable def st0 (g:CfgS) (hg:GOk g) (ps:List (List OpS)):St:=⟨fun k=>node0' g hg (opsL ps k) k,fun _=>.idle,fun _=>false,fun _=>pktZ,fun _=>[],fun _=>[],[]⟩
theorem nnew_eq (hg:GOk g) {ops:List OpS} (ho:ops.length≤24) (k:Nat):nnewS g (k:Int) ops=some (node0' g hg ops k):=by
 unfold nnewS cnewS prnewS cloneOS hnewS tnewS
 dsimp only [letP]
 have h1:=hg.s0
 have h2:=hg.y0
 have e1:(if 1<g.sets then g.sets else 1)=g.sets:=by split <;> omega
 have e2:(if 1<g.ways then g.ways else 1)=g.ways:=by split <;> omega
 rw [e1,e2,Option.bind_some,chk_true (by omega),Option.bind_some,Option.bind_some,(rows0_ok hg k).1]
 rfl
theorem fnew_l1 (hg:GOk g):∀ (m i:Nat),i≤nn g→nn g<m+i→fnewS_l1 g fnewS_j0 m (i:Int) ⟨csOf i (fun _=>⟨⟨[],g.out⟩,⟨[],g.inn⟩⟩) (fun _=>⟨⟨[],g.out⟩,⟨[],1⟩⟩)⟩=some ⟨csOf (nn g) (fun _=>⟨⟨[],g.out⟩,⟨[],g.inn⟩⟩) (fun _=>⟨⟨[],g.out⟩,⟨[],1⟩⟩)⟩
 |0,i,h1,h2=>by omega
 |m+1,i,h1,h2=>by
  have hn:=nnI hg
  have hn6:=hg.n1
  rw [fnewS_l1]
  by_cases hi:i<nn g
  · have ih:=fnew_l1 hg m (i+1) (by omega) (by omega)
    unfold ponewS qunewS
    dsimp only [letP]
    have ho:=hg.o0
    have hin:=hg.i0
    have e1:(if 0<g.out then g.out else 0)=g.out:=by split <;> omega
    have e2:(if 0<g.inn then g.inn else 0)=g.inn:=by split <;> omega
    rw [decide_eq_true (by omega),cond_true,e1,e2,Option.bind_some,Option.bind_some,Option.bind_some,Option.bind_some,chk_true (by rw [csOf_len]; omega),chk_true (by unfold inR; omega)]
    rw [show (((i+1:Nat)):Int)=(i:Int)+1 by omega,csOf_succ] at ih
    rw [List.append_assoc]
    exact ih
  · have:i=nn g:=by omega
    subst this
    rw [decide_eq_false (by omega),cond_false]
    rfl
theorem mnew_l1 (hg:GOk g) {ps:List (List OpS)} (hp:PsOk g ps) (F:FabS) (T:TraceS):∀ (m i:Nat),i≤nn g→nn g<m+i→mnewmS_l1 ps g g.init mnewmS_j0 m (i:Int) ⟨F,T,g,(List.range i).map (st0 g hg ps).nd⟩=some (some ⟨F,T,g,(List.range (nn g)).map (st0 g hg ps).nd⟩,0)
 |0,i,h1,h2=>by omega
 |m+1,i,h1,h2=>by
  have hn:=nnI hg
  have hn6:=hg.n1
  have hl:=hp.len
  rw [mnewmS_l1]
  by_cases hi:i<nn g
  · have ih:=mnew_l1 hg hp F T m (i+1) (by omega) (by omega)
    obtain ⟨e1,e2⟩:=opsL_at (ps:=ps) (k:=i) (by omega)
    rw [decide_eq_true (by omega),cond_true,chk_true (by omega)]
    dsimp only [letP]
    rw [nthT_at e1]
    show (nnewS g (i:Int) (opsL ps i)).bind _=_
    rw [nnew_eq hg (hp.sh _ e2),Option.bind_some,chk_true (by simp; omega),chk_true (by unfold inR; omega)]
    rw [show (((i+1:Nat)):Int)=(i:Int)+1 by omega,List.range_succ,List.map_append] at ih
    exact ih
  · have:i=nn g:=by omega
    subst this
    rw [decide_eq_false (by omega),cond_false]
    rfl
theorem new_eq (hg:GOk g) {ps:List (List OpS)} (hp:PsOk g ps):mnewmS g ps=some (some (conc g (st0 g hg ps)),0):=by
 have h:=hg.ini
 have h1:=hg.l1
 have h2:=hg.w1
 have h3:=hg.w0
 have hm:g.lines*g.words≤8*g.words:=Int.mul_le_mul_of_nonneg_right h1 (by omega)
 unfold mnewmS
 rw [check_ok hg,Option.bind_some,decide_eq_true rfl,Bool.not_true,cond_false,pops_ok hg hp,Option.bind_some,decide_eq_true rfl,Bool.not_true,cond_false]
 unfold cloneS
 rw [chk_true (by omega),Option.bind_some]
 have e1:fnewS g=some ⟨csOf (nn g) (fun _=>⟨⟨[],g.out⟩,⟨[],g.inn⟩⟩) (fun _=>⟨⟨[],g.out⟩,⟨[],1⟩⟩)⟩:=fnew_l1 hg (g.nodes.toNat+1) 0 (by omega) (by unfold nn; omega)
 show (fnewS g).bind _=_
 rw [e1,Option.bind_some]
 unfold trnewS
 rw [Option.bind_some]
 have e2:=mnew_l1 hg hp ⟨csOf (nn g) (fun _=>⟨⟨[],g.out⟩,⟨[],g.inn⟩⟩) (fun _=>⟨⟨[],g.out⟩,⟨[],1⟩⟩)⟩ ⟨[]⟩ (ps.length+1) 0 (by omega) (by have:=hp.len; omega)
 refine Eq.trans e2 ?_
 have:csOf (nn g) (fun _=>⟨⟨[],g.out⟩,⟨[],g.inn⟩⟩) (fun _=>⟨⟨[],g.out⟩,⟨[],1⟩⟩)=fab g (st0 g hg ps):=by
  unfold fab
  refine csOf_con fun k hk=>⟨?_,?_⟩
  · unfold RC st0; simp
  · unfold AC st0; simp
 unfold conc
 rw [this]
 rfl
theorem inv0 (hg:GOk g) {ps:List (List OpS)} (hp:PsOk g ps) (hi:∀ x∈g.init,in64 x):Inv g (opsL ps) (mem0 g) (mem0 g) (st0 g hg ps):=by
 have hz:∀ k,((st0 g hg ps).dl k).step=0:=fun _=>rfl
 have hnh:∀ k t,¬ Held ((st0 g hg ps).dl k) t:=fun k t h=>h.1 rfl
 have hcw:∀ L k,cw g (st0 g hg ps) L k=none:=fun L k=>by
  unfold cw
  split <;> rfl
 have hi0:=hg.i0
 have ho0:=hg.o0
 refine ⟨⟨fun k hk=>⟨fun _=>rfl,fun _=>rfl⟩,fun k hk h=>(by cases h),fun h hh=>List.nodup_nil,fun h hh k=>⟨fun z=>(by cases z),fun z=>(by cases z.2.1)⟩,fun h hh=>(by show (((([]:List Nat).length:Nat)):Int)≤g.inn; simp; omega),fun h hh=>List.nodup_nil,fun h hh k=>⟨fun z=>(by cases z),fun z=>(by cases z.2.1)⟩,fun h hh=>(by show (((([]:List Nat).length:Nat)):Int)≤g.out; simp; omega),fun k hk h=>(by cases h)⟩,⟨fun L o l0 l1 h=>(by cases h),fun k hk h=>absurd h (hnh k _),fun L l0 l1=>⟨[],rfl,List.nodup_nil,fun k=>⟨fun z=>(by cases z),fun z=>(by cases z.2.1)⟩⟩⟩,fun k hk=>?_,fun k hk h=>absurd (hz k) h,fun L l0 l1=>?_,mem0_len hg,mem0_rng hg hi,⟨fun _=>0,rfl,fun k hk=>⟨rfl,rfl⟩⟩⟩
 · refine ⟨rfl,rfl,rfl,rfl,rfl,⟨rfl,rfl,List.nodup_nil,fun e he=>(by cases he),fun e he=>(by cases he),fun L=>(by have:=hg.y0; show ((([]:List Ent).length:Nat):Int)≤g.ways; simp; omega)⟩,⟨List.nodup_nil,List.nodup_nil,fun L h=>(by cases h)⟩,rfl,Nat.zero_le _,fun h=>(by cases h),by show (0:Int)≤0∧(0:Int)<4096; omega,fun L h=>absurd rfl h⟩
 · obtain ⟨m1,m2⟩:=hm_lt hg l0
   have hrow:row g (st0 g hg ps) L=some ⟨0,-1,w0 g L⟩:=by
    show mget (rows0 g hg (hm g L)) L=_
    rw [(rows0_ok hg (hm g L)).2 L,if_pos ⟨l0,l1,m2⟩]
   refine ⟨_,hrow,w0_ok hg hi,?_⟩
   show ∃ xs,Norm (cw g (st0 g hg ps) L) ⟨0,-1,w0 g L⟩ (lw g (mem0 g) L) xs
   exact ⟨[],List.nodup_nil,fun k=>by rw [hcw]; simp,fun k p h=>(by rw [hcw] at h; cases h),trivial,trivial,rfl,.inl ⟨rfl,rfl,(lw_mem0 hg l0 l1).symm⟩⟩
end
end
section
open Go
section
variable {g:CfgS} {ps:List (List OpS)} {n:Nat} {ops:Nat→List OpS}
theorem evOk_some {y z:(Nat→Nat)×List Int} {e:EventS} (h:evOk n ops y e=some z):∃ k o,k<n∧e.node=(k:Int)∧e.index=((y.1 k / 2:Nat):Int)∧e.done_=decide (y.1 k % 2=1)∧(e.done_=false→e.value=0)∧(ops k)[y.1 k / 2]?=some o ∧
 (e.done_=true∧e.value=opVal y.2 o∧z=(upd y.1 k (y.1 k+1),opMem y.2 o)∨e.done_=false∧z=(upd y.1 k (y.1 k+1),y.2)):=by
 unfold evOk at h
 split at h
 · rename_i hc
   obtain ⟨c1,c2,c3,c4,c5⟩:=hc
   have e0:e.node=(e.node.toNat:Int):=by omega
   cases ho:(ops e.node.toNat)[y.1 e.node.toNat / 2]? with
   |none=>rw [ho] at h; cases h
   |some o =>
    rw [ho] at h
    simp only at h
    refine ⟨e.node.toNat,o,by omega,e0,c3,c4,c5,ho,?_⟩
    cases hd:e.done_ with
    |true =>
     rw [hd] at h
     simp only [if_true] at h
     split at h
     · rename_i hv
       exact .inl ⟨rfl,hv,(Option.some.inj h).symm⟩
     · cases h
    |false =>
     rw [hd] at h
     right
     exact ⟨rfl,(Option.some.inj h).symm⟩
 · cases h
theorem replay_cons {y z:(Nat→Nat)×List Int} {e:EventS} {r:List EventS} (h:replay n ops y (e::r)=some z):∃ u,evOk n ops y e=some u∧replay n ops u r=some z:=Option.bind_eq_some_iff.1 (show (evOk n ops y e).bind (fun z=>replay n ops z r)=some z from h)
theorem right_l1 (l:List EventS) (hl:l.length≤1000000) (hn:n≤6):∀ (rest pre:List EventS) (m:Nat) (y z:(Nat→Nat)×List Int) (mp:List (Int×Int)),l=pre++rest→rest.length<m→(∀ k,k<n→mgo mp (k:Int)=((y.1 k:Nat):Int)∧y.1 k≤pre.length)→replay n ops y rest=some z →
 trrightS_l1 l (n:Int) trrightS_j0 m (pre.length:Int) mp=some true
 |_,_,0,_,_,_,_,h,_,_=>by omega
 |[],pre,m+1,y,z,mp,h,_,_,_=>by
  have:l.length=pre.length:=by rw [h]; simp
  rw [trrightS_l1,this,decide_eq_false (by omega),cond_false]
  rfl
 |e::r,pre,m+1,y,z,mp,h,hm,hmp,hr=>by
  have hlen:l.length=pre.length+(r.length+1):=by rw [h]; simp
  have hg':l[pre.length]?=some e:=by rw [h]; simp
  obtain ⟨u,h1,h2⟩:=replay_cons hr
  obtain ⟨k,o,k1,k2,k3,k4,k5,k6,k7⟩:=evOk_some h1
  obtain ⟨m1,m2⟩:=hmp k k1
  have hu:u.1=upd y.1 k (y.1 k+1):=by
   rcases k7 with ⟨-,-,z⟩ | ⟨-,z⟩ <;> rw [z]
  rw [trrightS_l1,decide_eq_true (by omega),cond_true,chk_true (by omega)]
  dsimp only [letP]
  rw [nthT_at hg',k2,decide_eq_false (by omega),cond_false,decide_eq_false (by omega),cond_false,m1]
  have e1:(((y.1 k:Nat)):Int).tdiv 2=((y.1 k / 2:Nat):Int):=by
   rw [Int.tdiv_eq_ediv_of_nonneg (by omega)]
   omega
  have e2:(((y.1 k:Nat)):Int).tmod 2=((y.1 k % 2:Nat):Int):=by
   rw [Int.tmod_eq_emod_of_nonneg (by omega)]
   omega
  rw [e1,e2,wr_in (by omega) (by omega),decide_eq_true k3,Bool.not_true,cond_false]
  have e3:(e.done_ == decide ((((y.1 k % 2:Nat)):Int)=1))=true:=by
   rw [k4]
   by_cases hz:y.1 k % 2=1
   · rw [decide_eq_true hz,decide_eq_true (by omega)]; rfl
   · rw [decide_eq_false hz,decide_eq_false (by omega)]; rfl
  rw [e3,Bool.not_true,cond_false,wr_in (by omega) (by omega)]
  have ih:=right_l1 l hl hn r (pre++[e]) m u z (mset mp (k:Int) (((y.1 k:Nat):Int)+1)) (by rw [h]; simp) (by simp at hm; omega) (fun j hj=>by
   rw [hu]
   unfold mgo
   rw [mget_mset]
   by_cases ej:j=k
   · subst ej
     rw [if_pos rfl,upd_eq]
     simp
     omega
   · rw [if_neg (by omega),upd_ne ej]
     have:=hmp j hj
     unfold mgo at this
     simp
     exact ⟨this.1,by omega⟩) h2
  rw [show (((pre++[e]).length:Nat):Int)=(pre.length:Int)+1 by simp] at ih
  cases hd:e.done_ with
  |true =>
   rw [Bool.not_true,cond_false,chk_true (by unfold inR; omega)]
   exact ih
  |false =>
   rw [Bool.not_false,cond_true,decide_eq_true (k5 hd),Bool.not_true,cond_false,chk_true (by unfold inR; omega)]
   exact ih
theorem trright_ok {l:List EventS} (hl:l.length≤1000000) (hn:n≤6) {m0:List Int} {z:(Nat→Nat)×List Int} (h:replay n ops (fun _=>0,m0) l=some z):trrightS (n:Int) l=some true:=by
 unfold trrightS
 exact right_l1 l hl hn l [] (l.length+1) _ z [] rfl (by omega) (fun k _=>⟨rfl,Nat.le_refl _⟩) h
theorem ado_ok (hg:GOk g) {mem:List Int} (hm:(mem.length:Int)=g.lines*g.words) {o:OpS} (ho:OOk g o):adoS ⟨g,mem⟩ o=some (opVal mem o,0,⟨g,opMem mem o⟩):=by
 have hn:=nnI hg
 have hn0:=hg.n0
 have hn6:=hg.n1
 have a0:=ho.a0
 have a1:=ho.a1
 have k0:=ho.k0
 have k1:=ho.k1
 have hps:PsOk g (setR (List.replicate g.nodes.toNat ([]:List OpS)) 0 [o]):=by
  unfold setR
  refine ⟨by rw [List.length_set,List.length_replicate]; rfl,fun l hl=>?_,fun l hl q hq=>?_⟩
  · rcases List.mem_or_eq_of_mem_set hl with h | h
    · rw [List.eq_of_mem_replicate h]; simp
    · rw [h]; simp
  · rcases List.mem_or_eq_of_mem_set hl with h | h
    · rw [List.eq_of_mem_replicate h] at hq; cases hq
    · rw [h] at hq
      simp at hq
      rw [hq]; exact ho
 unfold adoS
 dsimp only [letP]
 rw [chk_true (by omega),chk_true (by rw [List.length_replicate]; omega),pops_ok hg hps,Option.bind_some,decide_eq_true rfl,Bool.not_true,cond_false,chk_true (by omega)]
 have hnth:nth mem o.addr=mem.getD o.addr.toNat 0:=rfl
 have hset:∀ v,setT mem o.addr v=mem.set o.addr.toNat v:=fun _=>rfl
 unfold opVal opMem adoS_j0
 have hk:o.kind=1∨o.kind=2∨o.kind=3∨o.kind=4:=by omega
 rcases hk with z | z | z | z
 · rw [decide_eq_true z,cond_true,if_pos (.inl z),if_neg (by omega),if_neg (by omega),hnth]
 · rw [decide_eq_false (by omega),cond_false,decide_eq_true z,cond_true,chk_true (by omega),if_neg (by omega),if_pos z,hset]
 · rw [decide_eq_false (by omega),cond_false,decide_eq_false (by omega),cond_false,decide_eq_true z,cond_true,chk_true (by omega),if_pos (.inr z),if_neg (by omega),if_pos z,hnth,hset]
 · rw [decide_eq_false (by omega),cond_false,decide_eq_false (by omega),cond_false,decide_eq_false (by omega),cond_false,if_neg (by omega),if_neg (by omega),if_neg (by omega)]
theorem fold_l2 (hg:GOk g) (hp:PsOk g ps) (l:List EventS) (hl:l.length≤1000000):∀ (rest pre:List EventS) (m:Nat) (y z:(Nat→Nat)×List Int),l=pre++rest→rest.length<m→(y.2.length:Int)=g.lines*g.words→replay (nn g) (opsL ps) y rest=some z →
 afoldS_l2 l ps afoldS_j1 m (pre.length:Int) ⟨g,y.2⟩=some (some ⟨g,z.2⟩,true)
 |_,_,0,_,_,_,h,_,_=>by omega
 |[],pre,m+1,y,z,h,_,_,hr=>by
  have:l.length=pre.length:=by rw [h]; simp
  obtain rfl:=Option.some.inj (show some y=some z from hr)
  rw [afoldS_l2,this,decide_eq_false (by omega),cond_false]
  rfl
 |e::r,pre,m+1,y,z,h,hm,hy,hr=>by
  have hlen:l.length=pre.length+(r.length+1):=by rw [h]; simp
  have hg':l[pre.length]?=some e:=by rw [h]; simp
  obtain ⟨u,h1,h2⟩:=replay_cons hr
  obtain ⟨k,o,k1,k2,k3,k4,k5,k6,k7⟩:=evOk_some h1
  have hpl:=hp.len
  obtain ⟨o1,o2⟩:=opsL_at (ps:=ps) (k:=k) (by omega)
  have hsh:=hp.sh _ o2
  have hlt:=(List.getElem?_eq_some_iff.1 k6).1
  have hO:=hp.ok _ o2 o (List.mem_of_getElem? k6)
  rw [afoldS_l2,decide_eq_true (by omega),cond_true,chk_true (by omega)]
  dsimp only [letP]
  rw [nthT_at hg',k2,chk_true (by omega),nthT_at o1,k3,decide_eq_false (by omega),cond_false]
  rcases k7 with ⟨d1,d2,d3⟩ | ⟨d1,d2⟩
  · rw [d1,Bool.not_true,cond_false,chk_true (by omega),chk_true (by omega),nthT_at k6,ado_ok hg hy hO,Option.bind_some]
    simp only [decide_true,Bool.not_true,cond_false]
    rw [decide_eq_true d2.symm,Bool.not_true,cond_false,chk_true (by unfold inR; omega)]
    subst d3
    have ih:=fold_l2 hg hp l hl r (pre++[e]) m _ z (by rw [h]; simp) (by simp at hm; omega) (by rw [opMem_len]; exact hy) h2
    rw [show (((pre++[e]).length:Nat):Int)=(pre.length:Int)+1 by simp] at ih
    exact ih
  · rw [d1,Bool.not_false,cond_true,chk_true (by unfold inR; omega)]
    subst d2
    have ih:=fold_l2 hg hp l hl r (pre++[e]) m (upd y.1 k (y.1 k+1),y.2) z (by rw [h]; simp) (by simp at hm; omega) hy h2
    rw [show (((pre++[e]).length:Nat):Int)=(pre.length:Int)+1 by simp] at ih
    exact ih
theorem anew_l1 (hg:GOk g):∀ (m i:Nat),i≤lN g→lN g<m+i→anewS_l1 g (anewS_j0 g) m (i:Int) ((List.range i).flatMap fun k:Nat=>w0 g (k:Int))=some ⟨g,mem0 g⟩
 |0,i,h1,h2=>by omega
 |m+1,i,h1,h2=>by
  have hl0:=hg.l0
  have hl1:=hg.l1
  have hw1:=hg.w1
  have hlN:((lN g:Nat):Int)=g.lines:=by unfold lN; omega
  rw [anewS_l1]
  by_cases hi:i<lN g
  · rw [decide_eq_true (by omega),cond_true,pwords_eq hg (by omega) (by omega),Option.bind_some]
    have hfl:=flat_len (fun k=>w0_len (L:=(k:Int)) hg) i
    have hwl:=w0_len (L:=(i:Int)) hg
    have hb:i*g.words.toNat≤8*4:=Nat.mul_le_mul (by omega) (by omega)
    rw [chk_true (by rw [List.length_append,hfl,hwl]; omega)]
    dsimp only [letP]
    rw [chk_true (by unfold inR; omega)]
    have ih:=anew_l1 hg m (i+1) (by omega) (by omega)
    rw [show (((i+1:Nat)):Int)=(i:Int)+1 by omega,List.range_succ,List.flatMap_append,show List.flatMap (fun k:Nat=>w0 g (k:Int)) [i]=w0 g (i:Int) by simp] at ih
    exact ih
  · have:i=lN g:=by omega
    subst this
    rw [decide_eq_false (by omega),cond_false]
    rfl
theorem anew_eq (hg:GOk g):anewS g=some ⟨g,mem0 g⟩:=anew_l1 hg (g.lines.toNat+1) 0 (by omega) (by unfold lN; omega)
theorem fold_ok (hg:GOk g) (hp:PsOk g ps) {l:List EventS} (hl:l.length≤1000000) {z:(Nat→Nat)×List Int} (h:replay (nn g) (opsL ps) (fun _=>0,mem0 g) l=some z):afoldS g ps l=some (some ⟨g,z.2⟩,true):=by
 have hn:=nnI hg
 have hr:=trright_ok hl (nn6 hg).1 h
 rw [hn] at hr
 unfold afoldS afoldS_j0
 rw [pops_ok hg hp,Option.bind_some,decide_eq_true rfl,Bool.not_true,cond_false,hr,Option.bind_some,Bool.not_true,cond_false,anew_eq hg,Option.bind_some]
 exact fold_l2 hg hp l hl l [] (l.length+1) (fun _=>0,mem0 g) z rfl (by omega) (mem0_len hg) h
theorem legal_ok (hg:GOk g) (hp:PsOk g ps) {l:List EventS} (hl:l.length≤1000000) {z:(Nat→Nat)×List Int} (h:replay (nn g) (opsL ps) (fun _=>0,mem0 g) l=some z):alegS g ps l=some true:=by
 unfold alegS
 rw [fold_ok hg hp hl h]
 rfl
theorem replay_take {y z:(Nat→Nat)×List Int} {l:List EventS} (h:replay n ops y l=some z) (k:Nat):∃ u,replay n ops y (l.take k)=some u:=by
 rw [← List.take_append_drop k l,replay_app] at h
 obtain ⟨u,h1,-⟩:=Option.bind_eq_some_iff.1 h
 exact ⟨u,h1⟩
end
end
section
open Go
structure SOk (s:SetupS):Prop where
 nodes:in64 s.nodes
 lines:in64 s.lines
 words:in64 s.words
 sets:in64 s.sets
 ways:in64 s.ways
 out:in64 s.out
 inn:in64 s.inn
 init:∀ x∈s.init,in64 x
 who:∀ x∈s.who,in64 x
 kinds:∀ x∈s.kinds,in64 x
 addrs:∀ x∈s.addrs,in64 x
 values:∀ x∈s.values,in64 x
theorem cut_ok {l:List Int} {n:Int} (h0:0≤n) (h1:n≤1000):∃ m,cutS l n=some m∧(m.length:Int)≤n∧∀ x∈m,x∈l:=by
 unfold cutS copyS
 dsimp only [letP]
 have e:(if n<(l.length:Int) then n else (l.length:Int))=((min n.toNat l.length:Nat):Int):=by split <;> omega
 rw [e,chk_true (by omega)]
 have hl:((l.drop (0:Int).toNat).take (((min n.toNat l.length:Nat):Int).toNat - (0:Int).toNat)).length≤n.toNat:=by
  rw [List.length_take,Int.toNat_natCast]
  have:(0:Int).toNat=0:=rfl
  omega
 rw [chk_true (by omega)]
 exact ⟨_,rfl,by omega,fun x hx=>List.mem_of_mem_drop (List.mem_of_mem_take hx)⟩
theorem conf_ok {s:SetupS} (h:SOk s):∃ g,pconfS s=some g∧GOk g∧(∀ x∈g.init,in64 x)∧g.nodes≤4∧g.lines≤4∧g.words≤2:=by
 obtain ⟨a1,b1,-,c1⟩:=within_ok (n:=4) h.nodes (by omega)
 obtain ⟨a2,b2,-,c2⟩:=within_ok (n:=4) h.lines (by omega)
 obtain ⟨a3,b3,-,c3⟩:=within_ok (n:=2) h.words (by omega)
 obtain ⟨a4,b4,-,c4⟩:=within_ok (n:=2) h.sets (by omega)
 obtain ⟨a5,b5,-,c5⟩:=within_ok (n:=2) h.ways (by omega)
 obtain ⟨a6,b6,-,c6⟩:=within_ok (n:=3) h.out (by omega)
 obtain ⟨a7,b7,-,c7⟩:=within_ok (n:=3) h.inn (by omega)
 have c1:=c1 (by omega)
 have c2:=c2 (by omega)
 have c3:=c3 (by omega)
 have c4:=c4 (by omega)
 have c5:=c5 (by omega)
 have c6:=c6 (by omega)
 have c7:=c7 (by omega)
 have hm:(1+a2)*(1+a3)≤4*(1+a3):=Int.mul_le_mul_of_nonneg_right (by omega) (by omega)
 have hm0:0≤(1+a2)*(1+a3):=Int.mul_nonneg (by omega) (by omega)
 obtain ⟨ini,i1,i2,i3⟩:=cut_ok (l:=s.init) hm0 (by omega)
 refine ⟨⟨1+a1,1+a2,1+a3,1+a4,1+a5,1+a6,1+a7,ini⟩,?_,⟨by show 1≤1+a1; omega,by show 1+a1≤6; omega,by show 1≤1+a2; omega,by show 1+a2≤8; omega,by show 1≤1+a3; omega,by show 1+a3≤4; omega,by show 1≤1+a4; omega,by show 1+a4≤4; omega,by show 1≤1+a5; omega,by show 1+a5≤3; omega,by show 1≤1+a6; omega,by show 1+a6≤8; omega,by show 1≤1+a7; omega,by show 1+a7≤8; omega,i2⟩,fun x hx=>h.init x (i3 x hx),by show 1+a1≤4; omega,by show 1+a2≤4; omega,by show 1+a3≤2; omega⟩
 unfold pconfS
 dsimp only [letP]
 rw [b1,Option.bind_some,b2,Option.bind_some,b3,Option.bind_some,b4,Option.bind_some,b5,Option.bind_some,b6,Option.bind_some,b7,Option.bind_some]
 simp only [wr_in (x:=1+a1) (by omega) (by omega),wr_in (x:=1+a2) (by omega) (by omega),wr_in (x:=1+a3) (by omega) (by omega),wr_in (x:=1+a4) (by omega) (by omega),wr_in (x:=1+a5) (by omega) (by omega),wr_in (x:=1+a6) (by omega) (by omega),wr_in (x:=1+a7) (by omega) (by omega)]
 rw [wr_in (by omega) (by omega),i1]
 rfl
section
variable {g:CfgS}
theorem pprog_l1 (hg:GOk g) (s:SetupS) (hs:SOk s) (hcf:pconfS s=some g) (most:Nat) (hmost:most≤23):∀ (m i:Nat) (v:List (List OpS)),v.length=nn g→(∀ l∈v,l.length≤i∧∀ o∈l,OOk g o)→i≤most→most+2≤m+i →
 ∃ ps,pprogS_l1 s g pprogS_j0 (most:Int) m v (i:Int)=some ps∧ps.length=nn g∧∀ l∈ps,l.length≤most∧∀ o∈l,OOk g o
 |0,i,v,h1,h2,h3,h4=>by omega
 |m+1,i,v,h1,h2,h3,h4=>by
  have hn:=nnI hg
  have hn6:=hg.n1
  have hn0:=hg.n0
  have hl1:=hg.l1
  have hw1:=hg.w1
  have hl0:=hg.l0
  have hw0:=hg.w0
  have hm:g.lines*g.words≤8*g.words:=Int.mul_le_mul_of_nonneg_right hl1 (by omega)
  have hm1:1≤g.lines*g.words:=by
   have:1*g.words≤g.lines*g.words:=Int.mul_le_mul_of_nonneg_right hl0 (by omega)
   omega
  have hend:pprogS_j2 s (i:Int) g v (pprogS_l1 s g pprogS_j0 (most:Int) m) pprogS_j0 false=some v:=rfl
  rw [pprogS_l1]
  by_cases hi:i<s.who.length
  · rw [decide_eq_true (by omega),cond_true]
    by_cases hmo:i<most
    · rw [decide_eq_true (by omega)]
      unfold pprogS_j2
      rw [cond_true]
      have hat:∀ l:List Int,(∀ x∈l,in64 x)→∃ a,patS l (i:Int)=some a∧in64 a:=fun l hl=>by
       unfold patS
       by_cases hz:i<l.length
       · rw [decide_eq_true (by omega),cond_true,chk_true (by omega)]
         exact ⟨_,rfl,hl _ (nthI hz)⟩
       · rw [decide_eq_false (by omega)]
         exact ⟨0,rfl,in64_s (by omega)⟩
      obtain ⟨a1,b1,c1⟩:=hat s.kinds hs.kinds
      obtain ⟨a2,b2,c2⟩:=hat s.addrs hs.addrs
      obtain ⟨a3,b3,c3⟩:=hat s.values hs.values
      obtain ⟨d1,e1,-,f1⟩:=within_ok (n:=7) c1 (by omega)
      have f1:=f1 (by omega)
      obtain ⟨d2,e2,-,f2⟩:=within_ok (n:=g.lines*g.words) c2 (by omega)
      have f2:=f2 hm1
      rw [b1,Option.bind_some,e1,Option.bind_some,chk_true (show 0≤d1∧d1<((([1,2,3,1,2,1,4]:List Int).length:Nat):Int) from ⟨f1.1,f1.2.1⟩),b2,Option.bind_some,wr_in (by omega) (by omega),e2,Option.bind_some]
      -- whichever kind: its value
      have hkind:1≤nth [1,2,3,1,2,1,4] d1∧nth [1,2,3,1,2,1,4] d1≤4:=by
       have:d1=0∨d1=1∨d1=2∨d1=3∨d1=4∨d1=5∨d1=6:=by omega
       rcases this with rfl | rfl | rfl | rfl | rfl | rfl | rfl <;> decide
      have go:∀ val:Int,in64 val→(val=0∨nth [1,2,3,1,2,1,4] d1=2∨nth [1,2,3,1,2,1,4] d1=3)→∃ ps,pprogS_j5 (i:Int) s g v d1 d2 (pprogS_j3 (i:Int) (pprogS_l1 s g pprogS_j0 (most:Int) m)) val=some ps∧ps.length=nn g∧∀ l∈ps,l.length≤most∧∀ o∈l,OOk g o:=by
       intro val hval hvz
       unfold pprogS_j5
       obtain ⟨d3,e3,-,f3⟩:=within_ok (n:=g.nodes) (hs.who _ (nthI hi)) (by omega)
       have f3:=f3 hn0
       rw [chk_true (by omega),e3,Option.bind_some,chk_true (by omega)]
       have hx:nthR v d3∈v:=by
        unfold nthR
        rw [List.getD_eq_getElem?_getD,List.getElem?_eq_getElem (by omega)]
        exact List.getElem_mem _
       have hlx:=(h2 _ hx)
       have hO:OOk g ⟨nth [1,2,3,1,2,1,4] d1,d2,val⟩:=⟨hkind.1,hkind.2,f2.1,f2.2.1,hval,hvz⟩
       rw [decide_eq_true (by omega),cond_true,chk_true (by omega),chk_true (by simp; omega)]
       dsimp only [letP]
       rw [chk_true (by omega)]
       unfold pprogS_j3
       rw [chk_true (by unfold inR; omega)]
       have ih:=pprog_l1 hg s hs hcf most hmost m (i+1) (setR v d3 (nthR v d3++[⟨nth [1,2,3,1,2,1,4] d1,d2,val⟩])) (by unfold setR; rw [List.length_set]; exact h1) (fun l hl=>by
        unfold setR at hl
        rcases List.mem_or_eq_of_mem_set hl with h | h
        · exact ⟨by have:=(h2 l h).1; omega,(h2 l h).2⟩
        · rw [h]
          refine ⟨by simp; omega,fun o ho=>?_⟩
          rcases List.mem_append.1 ho with h | h
          · exact hlx.2 o h
          · simp at h; rw [h]; exact hO) (by omega) (by omega)
       rw [show (((i+1:Nat)):Int)=(i:Int)+1 by omega] at ih
       exact ih
      unfold pprogS_j4
      by_cases k2:nth [1,2,3,1,2,1,4] d1=2
      · rw [decide_eq_true k2,cond_true,b3,Option.bind_some]
        exact go a3 c3 (.inr (.inl k2))
      · rw [decide_eq_false k2,cond_false]
        by_cases k3:nth [1,2,3,1,2,1,4] d1=3
        · rw [decide_eq_true k3,cond_true,b3,Option.bind_some]
          exact go a3 c3 (.inr (.inr k3))
        · rw [decide_eq_false k3,cond_false]
          exact go 0 (in64_s (by omega)) (.inl rfl)
    · rw [decide_eq_false (by omega),hend]
      exact ⟨v,rfl,h1,fun l hl=>⟨by have:=(h2 l hl).1; omega,(h2 l hl).2⟩⟩
  · rw [decide_eq_false (by omega),cond_false,hend]
    exact ⟨v,rfl,h1,fun l hl=>⟨by have:=(h2 l hl).1; omega,(h2 l hl).2⟩⟩
theorem pprog_ok (hg:GOk g) {s:SetupS} (hs:SOk s) (hcf:pconfS s=some g) {most:Nat} (hmost:most≤23):∃ ps,pprogS s (most:Int)=some ps∧ps.length=nn g∧∀ l∈ps,l.length≤most∧∀ o∈l,OOk g o:=by
 have hn:=nnI hg
 have hn6:=hg.n1
 have hn0:=hg.n0
 unfold pprogS
 rw [hcf,Option.bind_some,chk_true (by omega)]
 dsimp only [letP]
 exact pprog_l1 hg s hs hcf most hmost 64 0 _ (by rw [List.length_replicate]; rfl) (fun l hl=>by rw [List.eq_of_mem_replicate hl]; exact ⟨by simp,fun o ho=>by cases ho⟩) (by omega) (by omega)
end
end
section
open Go
section
variable {g:CfgS} {s:St} {ops:Nat→List OpS} {mem0 mem:List Int} {k:Nat} {L:Int}
end
end
section
open Go Go.RowKit
def r1withinS (n:Int) (most:Int):Option (Bool) :=
 (bif decide ((1:Int)≤n) then some (decide (n≤most)) else some false)
theorem r1within_fq {n:Int} {most:Int} {y:Bool} (H:r1withinS n most=some y):Fq Tryz.prog 161 [.int .i64 n,.int .i64 most] (.bool y):=by
 unfold r1withinS at H
 refine Fn.quiet (xf Tryz.func161 fun W0 F=>?_)
 refine xs [] H ?_ ?_
 · intro H
   obtain rfl:=someE H
   exact xr [1,1,1,1] [] [] [] ()
 · intro H
   obtain rfl:=someE H
   exact xr [0,0,0,0] [] [] [] ()
def r1checkS (c:CfgS):Option (Bool) :=
 (r1withinS c.nodes (6:Int)).bind fun y1_2=>(bif y1_2 then (r1withinS c.lines (8:Int)).bind fun y1_6=>(bif y1_6 then (r1withinS c.words (4:Int)).bind fun y1_11=>(bif y1_11 then (r1withinS c.sets (4:Int)).bind fun y1_16=>(bif y1_16 then (r1withinS c.ways (3:Int)).bind fun y1_21=>(bif y1_21 then (r1withinS c.out (8:Int)).bind fun y1_26=>(bif y1_26 then (r1withinS c.inn (8:Int)).bind fun y1_31=>(bif y1_31 then some (decide ((c.init.length:Int)≤(wr (c.lines*c.words)))) else some false) else some false) else some false) else some false) else some false) else some false) else some false)
theorem r1checkF {c:CfgS} (c0a:Option Addr) (c0c:Nat) {y:Bool} (H:r1checkS c=some y):FnY Tryz.prog 118 [.agg #[.int .i64 c.nodes,.int .i64 c.lines,.int .i64 c.words,.int .i64 c.sets,.int .i64 c.ways,.int .i64 c.out,.int .i64 c.inn,.slice c0a c.init.length c0c]] ⟨[],[]⟩ (Z:=Unit) (fun y _=>.bool y) (fun y _=>⟨[],[]⟩) y:=by
 unfold r1checkS at H
 refine xfY Tryz.func118 fun W0 F=>?_
 refine xn [] fun b0_0=>?_
 refine bindG H fun y1_2 hy1_2 H=>?_
 refine xq [0] (r1within_fq hy1_2) ?_
 refine xs [] H ?_ ?_
 · intro H
   refine bindG H fun y1_6 hy1_6 H=>?_
   refine xq [1,1,0,1] (r1within_fq hy1_6) ?_
   refine xs [1] H ?_ ?_
   · intro H
     refine bindG H fun y1_11 hy1_11 H=>?_
     refine xq [1,1,0,1] (r1within_fq hy1_11) ?_
     refine xs [1] H ?_ ?_
     · intro H
       refine bindG H fun y1_16 hy1_16 H=>?_
       refine xq [1,1,0,1] (r1within_fq hy1_16) ?_
       refine xs [1] H ?_ ?_
       · intro H
         refine bindG H fun y1_21 hy1_21 H=>?_
         refine xq [1,1,0,1] (r1within_fq hy1_21) ?_
         refine xs [1] H ?_ ?_
         · intro H
           refine bindG H fun y1_26 hy1_26 H=>?_
           refine xq [1,1,0,1] (r1within_fq hy1_26) ?_
           refine xs [1] H ?_ ?_
           · intro H
             refine bindG H fun y1_31 hy1_31 H=>?_
             refine xq [1,1,0,1] (r1within_fq hy1_31) ?_
             refine xs [1] H ?_ ?_
             · intro H
               exact xrY (someE H) [1,1,0,1,1,1,0,1,1,0,1,1,1,1] [] [] [] ()
             · intro H
               exact xrY (someE H) [0,0,0,0,0,0,0,0,0,0] [] [] [] ()
           · intro H
             exact xrY (someE H) [0,0,0,0,0,0,0,0,0,0,0,0,0,0] [] [] [] ()
         · intro H
           exact xrY (someE H) [0,0,0,0,0,0,0,0,0,0,0,0,0,0,0,0,0,0] [] [] [] ()
       · intro H
         exact xrY (someE H) [0,0,0,0,0,0,0,0,0,0,0,0,0,0,0,0,0,0,0,0,0,0] [] [] [] ()
     · intro H
       exact xrY (someE H) [0,0,0,0,0,0,0,0,0,0,0,0,0,0,0,0,0,0,0,0,0,0,0,0,0,0] [] [] [] ()
   · intro H
     exact xrY (someE H) [0,0,0,0,0,0,0,0,0,0,0,0,0,0,0,0,0,0,0,0,0,0,0,0,0,0,0,0,0,0] [] [] [] ()
 · intro H
   exact xrY (someE H) [0,0,0,0,0,0,0,0,0,0,0,0,0,0,0,0,0,0,0,0,0,0,0,0,0,0,0,0,0,0,0,0,0,0] [] [] [] ()
def r1opS (c:CfgS) (o:OpS):Option (Bool) :=
 (bif decide ((1:Int)≤o.kind) then (bif decide (o.kind≤(4:Int)) then (bif decide ((0:Int)≤o.addr) then (bif decide (o.addr<(wr (c.lines*c.words))) then (bif decide (o.value=(0:Int)) then some true else (bif decide (o.kind=(2:Int)) then some true else some (decide (o.kind=(3:Int))))) else some false) else some false) else some false) else some false)
theorem r1opF {c:CfgS} {o:OpS} (c0a:Option Addr) (c0c:Nat) {y:Bool} (H:r1opS c o=some y):FnY Tryz.prog 162 [.agg #[.int .i64 c.nodes,.int .i64 c.lines,.int .i64 c.words,.int .i64 c.sets,.int .i64 c.ways,.int .i64 c.out,.int .i64 c.inn,.slice c0a c.init.length c0c],.agg #[.int .i64 o.kind,.int .i64 o.addr,.int .i64 o.value]] ⟨[],[]⟩ (Z:=Unit) (fun y _=>.bool y) (fun y _=>⟨[],[]⟩) y:=by
 unfold r1opS at H
 refine xfY Tryz.func162 fun W0 F=>?_
 refine xn [] fun b0_0=>?_
 refine xn [] fun b0_1=>?_
 refine xs [0] H ?_ ?_
 · intro H
   refine xs [1,1,0,1,1] H ?_ ?_
   · intro H
     refine xs [1,1,0,1,1] H ?_ ?_
     · intro H
       refine xs [1,1,0,1,1,1,1,1,1,1,1,1,1] H ?_ ?_
       · intro H
         refine xs [1,1,0,1,1] H ?_ ?_
         · intro H
           exact xrY (someE H) [0,0,0,1,1,1,0,0,0,1,1,1] [] [] [] ()
         · intro H
           refine xs [1,1,0,1,1,0,1] H ?_ ?_
           · intro H
             exact xrY (someE H) [0,0,0,1,1,1] [] [] [] ()
           · intro H
             exact xrY (someE H) [1,1,0,1,1,0,1] [] [] [] ()
       · intro H
         exact xrY (someE H) [0,0,0,0,0,0,0,0,0,0,0,0,0,0] [] [] [] ()
     · intro H
       exact xrY (someE H) [0,0,0,0,0,0,0,0,0,0,0,0,0,0,0,0,0,0,0,0,0,0,0] [] [] [] ()
   · intro H
     exact xrY (someE H) [0,0,0,0,0,0,0,0,0,0,0,0,0,0,0,0,0,0,0,0,0,0,0,0,0,0,0] [] [] [] ()
 · intro H
   exact xrY (someE H) [0,0,0,0,0,0,0,0,0,0,0,0,0,0,0,0,0,0,0,0,0,0,0,0,0,0,0,0,0,0,0] [] [] [] ()
def r1opsS_j0:Option (Bool) :=
 some true
def r1opsS_j2 (v1_16:Int) (r1:Int→Option (Bool)):Option (Bool) :=
 chk (inR (v1_16+(1:Int))) (r1 (v1_16+(1:Int)))
def r1opsS_l3 (x5_1:List OpS) (c:CfgS) (k2:Option (Bool)):Nat→Int→Option (Bool)
 |0,_=>none
 |m+1,v3_25=>(bif decide (v3_25<(x5_1.length:Int)) then chk (0≤v3_25∧v3_25<(x5_1.length:Int)) (letP (nthT x5_1 v3_25) fun x10_1=>(r1opS c x10_1).bind fun y11_2=>(bif !y11_2 then some false else chk (inR (v3_25+(1:Int))) ((r1opsS_l3 x5_1 c k2 m) (v3_25+(1:Int))))) else k2)
def r1opsS_l1 (programs:List (List OpS)) (c:CfgS) (k0:Option (Bool)):Nat→Int→Option (Bool)
 |0,_=>none
 |m+1,v1_16=>(bif decide (v1_16<(programs.length:Int)) then chk (0≤v1_16∧v1_16<(programs.length:Int)) (letP (nthT programs v1_16) fun x5_1=>(bif decide ((24:Int)<(x5_1.length:Int)) then some false else r1opsS_l3 x5_1 c (r1opsS_j2 v1_16 (r1opsS_l1 programs c k0 m)) 64 (0:Int))) else k0)
def r1opsS (c:CfgS) (programs:List (List OpS)):Option (Bool) :=
 (bif !(decide ((programs.length:Int)=c.nodes)) then some false else r1opsS_l1 programs c r1opsS_j0 64 (0:Int))
theorem r1opsF {c:CfgS} {programs:List (List OpS)} {programsA:Asn} (c0a:Option Addr) (c0c:Nat) (programsa:Option Addr) (programsc:Nat) (hprogramsA:Rdb programsA programsa programsc programs) {y:Bool} (H:r1opsS c programs=some y):FnY Tryz.prog 119 [.agg #[.int .i64 c.nodes,.int .i64 c.lines,.int .i64 c.words,.int .i64 c.sets,.int .i64 c.ways,.int .i64 c.out,.int .i64 c.inn,.slice c0a c.init.length c0c],.slice programsa programs.length programsc] ⟨[],[programsA]⟩ (Z:=Unit) (fun y _=>.bool y) (fun y _=>⟨[],[programsA]⟩) y:=by
 unfold r1opsS at H
 refine xfY Tryz.func119 fun W0 F=>?_
 refine xn [] fun b0_0=>?_
 refine xs [0] H ?_ ?_
 · intro H
   exact xrY (someE H) [1] [] [] [0] ()
 · intro H
   refine xj [0,100] (ι:=Unit) (fun _=>⟨[],[],[programsA]⟩) (fun _=>r1opsS_j0=some y) ?_ ?_
   · rintro _ H
     replace H:r1opsS_j0=some y:=H
     rw [r1opsS_j0] at H
     exact xrY (someE H) [] [] [] [0] ()
   · intro N0 hN0
     refine xl [] (ι:=Int) (fun v1_16=>⟨[(2,.pointer (some ⟨b0_0,0,none⟩)),(14,.slice programsa programs.length programsc),(15,.int .i64 programs.length),(16,.int .i64 v1_16)],[⟨b0_0,#[.int .i64 c.nodes,.int .i64 c.lines,.int .i64 c.words,.int .i64 c.sets,.int .i64 c.ways,.int .i64 c.out,.int .i64 c.inn,.slice c0a c.init.length c0c],25⟩],[programsA]⟩) (fun m1 v1_16=>r1opsS_l1 programs c (r1opsS_j0) m1 v1_16=some y) [0] [0] (64) ((0:Int)) H ?_
     rintro N1 (_ | m1) v1_16 H hN1
     · exact (noneE H).elim
     replace H:r1opsS_l1 programs c (r1opsS_j0) (m1+1) v1_16=some y:=H
     rw [r1opsS_l1] at H
     refine xs [] H ?_ ?_
     · intro H
       refine xj [1,100] (ι:=Unit) (fun _=>⟨[(2,.pointer (some ⟨b0_0,0,none⟩)),(14,.slice programsa programs.length programsc),(15,.int .i64 programs.length),(16,.int .i64 v1_16)],[⟨b0_0,#[.int .i64 c.nodes,.int .i64 c.lines,.int .i64 c.words,.int .i64 c.sets,.int .i64 c.ways,.int .i64 c.out,.int .i64 c.inn,.slice c0a c.init.length c0c],25⟩],[programsA]⟩) (fun _=>r1opsS_j2 v1_16 (r1opsS_l1 programs c (r1opsS_j0) m1)=some y) ?_ ?_
       · rintro _ H
         replace H:r1opsS_j2 v1_16 (r1opsS_l1 programs c (r1opsS_j0) m1)=some y:=H
         rw [r1opsS_j2] at H
         refine chkG H fun q14_0_1 H=>?_
         refine xd [0] (ap q14_0_1 an) ?_
         exact xe [] _ [0] [0] (hN1 _ (v1_16+(1:Int)) (Nat.lt_succ_self _) H)
       · intro N2 hN2
         refine chkG H fun q5_0_1 H=>?_
         refine xi [] 0 hprogramsA q5_0_1 fun b1 o1 e1=>?_
         refine letG H fun x5_1 hx5_1 H=>?_
         refine xo [] [] [0] (oc_ld hprogramsA e1 q5_0_1 hx5_1 0) fun z5_1_1=>?_
         refine xs [] H ?_ ?_
         · intro H
           exact xrY (someE H) [1] [] [] [1] ()
         · intro H
           refine xl [0] (ι:=Int) (fun v3_25=>⟨[(2,.pointer (some ⟨b0_0,0,none⟩)),(14,.slice programsa programs.length programsc),(15,.int .i64 programs.length),(16,.int .i64 v1_16),(23,.slice z5_1_1.1 x5_1.length z5_1_1.2),(24,.int .i64 x5_1.length),(25,.int .i64 v3_25)],[⟨b0_0,#[.int .i64 c.nodes,.int .i64 c.lines,.int .i64 c.words,.int .i64 c.sets,.int .i64 c.ways,.int .i64 c.out,.int .i64 c.inn,.slice c0a c.init.length c0c],25⟩],[(ImmA z5_1_1.1 z5_1_1.2 x5_1),programsA]⟩) (fun m3 v3_25=>r1opsS_l3 x5_1 c (r1opsS_j2 v1_16 (r1opsS_l1 programs c (r1opsS_j0) m1)) m3 v3_25=some y) [0] [0,0] (64) ((0:Int)) H ?_
           rintro N3 (_ | m3) v3_25 H hN3
           · exact (noneE H).elim
           replace H:r1opsS_l3 x5_1 c (r1opsS_j2 v1_16 (r1opsS_l1 programs c (r1opsS_j0) m1)) (m3+1) v3_25=some y:=H
           rw [r1opsS_l3] at H
           refine xs [] H ?_ ?_
           · intro H
             refine chkG H fun q10_0_1 H=>?_
             refine xi [1] 0 (rI z5_1_1.1 z5_1_1.2 x5_1) q10_0_1 fun b2 o2 e2=>?_
             refine letG H fun x10_1 hx10_1 H=>?_
             refine xo [] [] [0] (oc_ldN (rI z5_1_1.1 z5_1_1.2 x5_1) e2 q10_0_1 hx10_1 0 3) fun _=>?_
             refine xn [] fun b10_2=>?_
             refine bindG H fun y11_2 hy11_2 H=>?_
             refine xc [0,1,0] [] [] (r1opF c0a c0c hy11_2) fun _=>?_
             refine xs [] H ?_ ?_
             · intro H
               exact xrY (someE H) [1] [] [] [2] ()
             · intro H
               refine chkG H fun q13_0_1 H=>?_
               refine xd [0,0] (ap q13_0_1 an) ?_
               exact xe [] _ [1] [1,1] (hN3 _ (v3_25+(1:Int)) (Nat.lt_succ_self _) H)
           · intro H
             exact xe [0] _ [0] [1] (hN2 () H)
     · intro H
       exact xe [0] _ [] [0] (hN0 () H)
def r1wordsS_j1 (e1_5x:List Int):Option (List Int) :=
 some e1_5x
def r1wordsS_l2 (c:CfgS) (line:Int) (k1:(List Int)→Option (List Int)):Nat→(List Int)→Int→Option (List Int)
 |0,_,_=>none
 |m+1,v2_5x,v2_6=>(bif decide (v2_6<c.words) then (bif decide ((wr ((wr (line*c.words))+v2_6))<(c.init.length:Int)) then chk (0≤(wr ((wr (line*c.words))+v2_6))∧(wr ((wr (line*c.words))+v2_6))<(c.init.length:Int)) (chk ((v2_5x++([nth c.init (wr ((wr (line*c.words))+v2_6))])).length≤1099511627776) (letP (v2_5x++([nth c.init (wr ((wr (line*c.words))+v2_6))])) fun l11_3=>chk (inR (v2_6+(1:Int))) ((r1wordsS_l2 c line k1 m) l11_3 (v2_6+(1:Int))))) else chk ((v2_5x++([(0:Int)])).length≤1099511627776) (letP (v2_5x++([(0:Int)])) fun l11_3=>chk (inR (v2_6+(1:Int))) ((r1wordsS_l2 c line k1 m) l11_3 (v2_6+(1:Int))))) else k1 v2_5x)
def r1wordsS_j0 (c:CfgS) (line:Int) (e0_16:Bool):Option (List Int) :=
 (bif e0_16 then some ([]:List Int) else r1wordsS_l2 c line r1wordsS_j1 (c.words.toNat+1) ([]:List Int) (0:Int))
def r1wordsS (c:CfgS) (line:Int):Option (List Int) :=
 (bif decide (line<(0:Int)) then (r1wordsS_j0 c line) true else (r1wordsS_j0 c line) (decide (c.lines≤line)))
theorem r1wordsF {c:CfgS} {c0A:Asn} {line:Int} (c0a:Option Addr) (c0c:Nat) (hc0A:Rdb c0A c0a c0c c.init) {y:List Int} (H:r1wordsS c line=some y):FnY Tryz.prog 206 [.agg #[.int .i64 c.nodes,.int .i64 c.lines,.int .i64 c.words,.int .i64 c.sets,.int .i64 c.ways,.int .i64 c.out,.int .i64 c.inn,.slice c0a c.init.length c0c],.int .i64 line] ⟨[],[c0A]⟩ (Z:=Option Addr×Nat) (fun y (za0,zc0)=>.slice za0 y.length zc0) (fun y (za0,zc0)=>⟨[],[(ArrA za0 zc0 y),c0A]⟩) y:=by
 unfold r1wordsS at H
 refine xfY Tryz.func206 fun W0 F=>?_
 refine xn [] fun b0_0=>?_
 refine xj [101] (ι:=Bool) (fun e0_16=>⟨[(1,.int .i64 line),(2,.pointer (some ⟨b0_0,0,none⟩)),(16,.bool e0_16)],[⟨b0_0,#[.int .i64 c.nodes,.int .i64 c.lines,.int .i64 c.words,.int .i64 c.sets,.int .i64 c.ways,.int .i64 c.out,.int .i64 c.inn,.slice c0a c.init.length c0c],25⟩],[c0A]⟩) (fun e0_16=>r1wordsS_j0 c line e0_16=some y) ?_ ?_
 · rintro e0_16 H
   replace H:r1wordsS_j0 c line e0_16=some y:=H
   rw [r1wordsS_j0] at H
   refine xs [] H ?_ ?_
   · intro H
     refine xg [1] [] [] (gh_nil (α:=Int) none) fun _=>?_
     exact xrY (someE H) [] [] [] [0,0] (none,0)
   · intro H
     refine xj [0,101] (ι:=List Int×Option Addr×Nat) (fun (e1_5x,e1_5a,e1_5c)=>⟨[(5,.slice e1_5a e1_5x.length e1_5c)],[],[(ArrA e1_5a e1_5c e1_5x),c0A]⟩) (fun (e1_5x,e1_5a,e1_5c)=>r1wordsS_j1 e1_5x=some y) ?_ ?_
     · rintro ⟨e1_5x,e1_5a,e1_5c⟩ H
       replace H:r1wordsS_j1 e1_5x=some y:=H
       rw [r1wordsS_j1] at H
       exact xrY (someE H) [] [] [] [0,0] (e1_5a,e1_5c)
     · intro N1 hN1
       refine xg [] [] [] (gh_nil (α:=Int) none) fun _=>?_
       refine xl [] (ι:=List Int×Int×Option Addr×Nat) (fun (v2_5x,v2_6,v2_5a,v2_5c)=>⟨[(1,.int .i64 line),(2,.pointer (some ⟨b0_0,0,none⟩)),(5,.slice v2_5a v2_5x.length v2_5c),(6,.int .i64 v2_6)],[⟨b0_0,#[.int .i64 c.nodes,.int .i64 c.lines,.int .i64 c.words,.int .i64 c.sets,.int .i64 c.ways,.int .i64 c.out,.int .i64 c.inn,.slice c0a c.init.length c0c],25⟩],[(ArrA v2_5a v2_5c v2_5x),c0A]⟩) (fun m2 (v2_5x,v2_6,v2_5a,v2_5c)=>r1wordsS_l2 c line (r1wordsS_j1) m2 v2_5x v2_6=some y) [0] [0,0] ((c.words.toNat+1)) (([]:List Int),(0:Int),none,0) H ?_
       rintro N2 (_ | m2) ⟨v2_5x,v2_6,v2_5a,v2_5c⟩ H hN2
       · exact (noneE H).elim
       replace H:r1wordsS_l2 c line (r1wordsS_j1) (m2+1) v2_5x v2_6=some y:=H
       rw [r1wordsS_l2] at H
       refine xs [0] H ?_ ?_
       · intro H
         refine xs [1,0,1,1,0] H ?_ ?_
         · intro H
           refine chkG H fun q10_3_1 H=>?_
           refine xi [1,0] 1 hc0A q10_3_1 fun b1 o1 e1=>?_
           refine xpl [] 1 (ol_ld hc0A e1 q10_3_1 0 (fun _=>rfl)) ?_
           refine xn [] fun b11_2=>?_
           refine xg [] [0] [2] (gh_one b11_2 3 (nth c.init (wr ((wr (line*c.words))+v2_6)):Int) ()) fun _=>?_
           refine chkG H fun q11_3_1 H=>?_
           refine letG H fun l11_3 hl11_3 H=>?_
           refine xa [] [1,0] (a:=v2_5a) (l:=v2_5x) (zs:=l11_3) (cap:=v2_5c) (rA (some ⟨b11_2,0,none⟩) 1 ([nth c.init (wr ((wr (line*c.words))+v2_6))])) hl11_3 (hl11_3▸q11_3_1) fun ⟨a11_3,c11_3⟩=>?_
           refine chkG H fun q6_1_1 H=>?_
           refine xd [0] (ap q6_1_1 an) ?_
           exact xe [] _ [0] [0,1] (hN2 _ (l11_3,v2_6+(1:Int),a11_3,c11_3) (Nat.lt_succ_self _) H)
         · intro H
           refine xn [0] fun b11_2=>?_
           refine xg [] [0] [2] (gh_one b11_2 3 ((0:Int):Int) ()) fun _=>?_
           refine chkG H fun q11_3_2 H=>?_
           refine letG H fun l11_3 hl11_3 H=>?_
           refine xa [] [1,0] (a:=v2_5a) (l:=v2_5x) (zs:=l11_3) (cap:=v2_5c) (rA (some ⟨b11_2,0,none⟩) 1 ([(0:Int)])) hl11_3 (hl11_3▸q11_3_2) fun ⟨a11_3,c11_3⟩=>?_
           refine chkG H fun q6_1_2 H=>?_
           refine xd [0] (ap q6_1_2 an) ?_
           exact xe [] _ [0] [0,1] (hN2 _ (l11_3,v2_6+(1:Int),a11_3,c11_3) (Nat.lt_succ_self _) H)
       · intro H
         exact xe [0] _ [] [0,0] (hN1 (v2_5x,v2_5a,v2_5c) H)
 · intro N0 hN0
   refine xs [] H ?_ ?_
   · intro H
     exact xe [0,0,0,0,1] _ [0] [0] (hN0 (true) H)
   · intro H
     exact xe [1,1,1,0,1,0] _ [0] [0] (hN0 (decide (c.lines≤line)) H)
end
section
open Go Go.RowKit
structure OpqS where
def OpqA (_:Nat) (_:OpqS):Asn:=Asn.pure True
theorem gh_opq (b:Nat) (c:OpqS):Gh ⟨[],[]⟩ fun _:Unit=>⟨[],[OpqA b c]⟩:=by
 intro W0 Γ w hw
 exact ⟨(),Sat.pure_mk trivial hw⟩
def r7cacheS (sets:Int) (ways:Int):Option (OpqS) :=
 letP (if sets<(1:Int) then (1:Int) else sets) fun u1_1=>letP (if ways<(1:Int) then (1:Int) else ways) fun u1_3=>some (⟨⟩:OpqS)
theorem r7cacheF {sets:Int} {ways:Int} {y:OpqS} (H:r7cacheS sets ways=some y):FnY Tryz.prog 163 [.int .i64 sets,.int .i64 ways] ⟨[],[]⟩ (Z:=Nat) (fun y (zb0:Nat)=>.pointer (some ⟨zb0,0,none⟩)) (fun y (zb0:Nat)=>⟨[],[(OpqA zb0 y)]⟩) y:=by
 unfold r7cacheS at H
 refine xfY Tryz.func163 fun W0 F=>?_
 refine letG H fun u1_1 hu1_1 H=>?_
 refine xw [304] 6 (congrArg (Value.int .i64) hu1_1) ?_
 refine letG H fun u1_3 hu1_3 H=>?_
 refine xw [302] 8 (congrArg (Value.int .i64) hu1_3) ?_
 refine xn [] fun b1_5=>?_
 refine xg [] [] [] (gh_opq b1_5 ⟨⟩) fun _=>?_
 exact xrY (someE H) [] [] [] [0] (b1_5)
def r7homesS_j0 (e0_b1_3_9x:List RowS):Option (OpqS) :=
 some (⟨⟩:OpqS)
def r7homesS_l1 (c:CfgS) (k0:(List RowS)→Option (OpqS)):Nat→Int→(List RowS)→Option (OpqS)
 |0,_,_=>none
 |m+1,v1_6,v1_b1_3_9x=>(bif decide (v1_6<c.lines) then (r1wordsS c v1_6).bind fun y5_7=>chk ((v1_b1_3_9x++([(⟨(0:Int),((-1):Int),y5_7⟩:RowS)])).length≤1099511627776) (letP (v1_b1_3_9x++([(⟨(0:Int),((-1):Int),y5_7⟩:RowS)])) fun l5_10=>chk (inR (v1_6+(1:Int))) ((r7homesS_l1 c k0 m) (v1_6+(1:Int)) l5_10)) else k0 v1_b1_3_9x)
def r7homesS (c:CfgS) (node:Int):Option (OpqS) :=
 r7homesS_l1 c r7homesS_j0 (c.lines.toNat+1) (0:Int) ([]:List RowS)
theorem r7homesF {c:CfgS} {node:Int} (c0a:Option Addr) (c0c:Nat) {y:OpqS} (H:r7homesS c node=some y):FnY Tryz.prog 164 [.agg #[.int .i64 c.nodes,.int .i64 c.lines,.int .i64 c.words,.int .i64 c.sets,.int .i64 c.ways,.int .i64 c.out,.int .i64 c.inn,.slice c0a c.init.length c0c],.int .i64 node] ⟨[],[(ImmA c0a c0c c.init)]⟩ (Z:=Nat) (fun y (zb0:Nat)=>.pointer (some ⟨zb0,0,none⟩)) (fun y (zb0:Nat)=>⟨[],[(OpqA zb0 y)]⟩) y:=by
 unfold r7homesS at H
 refine xfY Tryz.func164 fun W0 F=>?_
 refine xn [] fun b0_0=>?_
 refine xn [0] fun b1_3=>?_
 refine xj [100] (ι:=List RowS×Option Addr×Nat) (fun (e0_b1_3_9x,e0_b1_3_9a,e0_b1_3_9c)=>⟨[(5,.pointer (some ⟨b1_3,0,none⟩))],[⟨b1_3,#[.int .i64 c.nodes,.int .i64 c.lines,.int .i64 c.words,.int .i64 c.sets,.int .i64 c.ways,.int .i64 c.out,.int .i64 c.inn,.slice c0a c.init.length c0c,.int .i64 node,.slice e0_b1_3_9a e0_b1_3_9x.length e0_b1_3_9c,.slice none 0 0,.slice none 0 0],304⟩],[(ArrA e0_b1_3_9a e0_b1_3_9c e0_b1_3_9x),(ImmA c0a c0c c.init)]⟩) (fun (e0_b1_3_9x,e0_b1_3_9a,e0_b1_3_9c)=>r7homesS_j0 e0_b1_3_9x=some y) ?_ ?_
 · rintro ⟨e0_b1_3_9x,e0_b1_3_9a,e0_b1_3_9c⟩ H
   replace H:r7homesS_j0 e0_b1_3_9x=some y:=H
   rw [r7homesS_j0] at H
   refine xg [] [] [] (gh_opq b1_3 ⟨⟩) fun _=>?_
   exact xrY (someE H) [] [] [] [0] (b1_3)
 · intro N0 hN0
   refine xg [] [] [] (gh_nil (α:=RowS) none) fun _=>?_
   refine xl [] (ι:=Int×List RowS×Option Addr×Nat) (fun (v1_6,v1_b1_3_9x,v1_b1_3_9a,v1_b1_3_9c)=>⟨[(2,.pointer (some ⟨b0_0,0,none⟩)),(5,.pointer (some ⟨b1_3,0,none⟩)),(6,.int .i64 v1_6)],[⟨b1_3,#[.int .i64 c.nodes,.int .i64 c.lines,.int .i64 c.words,.int .i64 c.sets,.int .i64 c.ways,.int .i64 c.out,.int .i64 c.inn,.slice c0a c.init.length c0c,.int .i64 node,.slice v1_b1_3_9a v1_b1_3_9x.length v1_b1_3_9c,.slice none 0 0,.slice none 0 0],304⟩,⟨b0_0,#[.int .i64 c.nodes,.int .i64 c.lines,.int .i64 c.words,.int .i64 c.sets,.int .i64 c.ways,.int .i64 c.out,.int .i64 c.inn,.slice c0a c.init.length c0c],25⟩],[(ArrA v1_b1_3_9a v1_b1_3_9c v1_b1_3_9x),(ImmA c0a c0c c.init)]⟩) (fun m1 (v1_6,v1_b1_3_9x,v1_b1_3_9a,v1_b1_3_9c)=>r7homesS_l1 c (r7homesS_j0) m1 v1_6 v1_b1_3_9x=some y) [0,0] [0,0] ((c.lines.toNat+1)) ((0:Int),([]:List RowS),none,0) H ?_
   rintro N1 (_ | m1) ⟨v1_6,v1_b1_3_9x,v1_b1_3_9a,v1_b1_3_9c⟩ H hN1
   · exact (noneE H).elim
   replace H:r7homesS_l1 c (r7homesS_j0) (m1+1) v1_6 v1_b1_3_9x=some y:=H
   rw [r7homesS_l1] at H
   refine xs [1] H ?_ ?_
   · intro H
     refine bindG H fun y5_7 hy5_7 H=>?_
     refine xc [1,0,1,2,3,4,0,5,1,6,7] [] [1] (r1wordsF c0a c0c (rI c0a c0c c.init) hy5_7) fun ⟨t5_7_a0,t5_7_c0⟩=>?_
     refine xn [8,9] fun b5_9=>?_
     refine xg [10] [] [0] (gh_frz t5_7_a0 t5_7_c0 y5_7) fun _=>?_
     refine xg [] [] [0] (gh_dup t5_7_a0 t5_7_c0 y5_7) fun _=>?_
     refine xg [] [0] [0] (gh_one b5_9 305 (⟨(0:Int),((-1):Int),y5_7⟩:RowS) (t5_7_a0,t5_7_c0)) fun _=>?_
     refine chkG H fun q5_10_1 H=>?_
     refine letG H fun l5_10 hl5_10 H=>?_
     refine xa [] [3,0] (a:=v1_b1_3_9a) (l:=v1_b1_3_9x) (zs:=l5_10) (cap:=v1_b1_3_9c) (rA (some ⟨b5_9,0,none⟩) 1 ([(⟨(0:Int),((-1):Int),y5_7⟩:RowS)])) hl5_10 (hl5_10▸q5_10_1) fun ⟨a5_10,c5_10⟩=>?_
     refine chkG H fun q4_1_1 H=>?_
     refine xd [11,12,13,0,0] (ap q4_1_1 an) ?_
     exact xe [] _ [0,0] [0,2] (hN1 _ (v1_6+(1:Int),l5_10,a5_10,c5_10) (Nat.lt_succ_self _) H)
   · intro H
     exact xe [0] _ [0] [0,0] (hN0 (v1_b1_3_9x,v1_b1_3_9a,v1_b1_3_9c) H)
end
section
open Go Go.RowKit
def mkOf0 (P:Program) (s:XS):Option (Int×Int) :=
 match s.op.op with
 |.makeSlice t l c =>
  match ev s.env l,ev s.env c,P.underlying t with
  |.int .i64 l,.int .i64 c,some (.slice E) =>
   match P.info? E with
   |some i=>bif Nat.ble i.bytes 128 then i.zero.map fun _=>(l,c) else none
   |none=>none
  |_,_,_=>none
 |_=>none
theorem mk0_step {P:Program} {W0:World} {s:XS} {n:Int} (hb:0≤n∧n≤1099511627776) (hx:mkOf0 P s=some (n,n)) (Γ:List Asn) :
 StepTo P W0 Γ s.env s.op.op s.op.type fun v Δ=>∃ b:Nat,v=Value.slice (some ⟨b,0,none⟩) n.toNat n.toNat∧Δ=Γ:=by
 unfold mkOf0 at hx
 split at hx
 · rename_i t l c hop
   split at hx
   · rename_i l' c' E e1 e2 e3
     split at hx
     · rename_i info hi
       cases hc:Nat.ble info.bytes 128 with
       |false=>simp [hc] at hx
       |true =>
        simp only [hc,cond_true,Option.map_eq_some_iff,Prod.mk.injEq] at hx
        obtain ⟨z,hz,rfl,hcn⟩:=hx
        have hby:=Nat.le_of_ble_eq_true hc
        refine StepTo.val fun w hw=>?_
        have hcn':c'=l':=hcn
        subst hcn'
        have hb2:(info.bytes:Int)*c'≤281474976710656:=by
         have h3:(info.bytes:Int)≤128:=by omega
         have h4:(info.bytes:Int)*c'≤128*c':=Int.mul_le_mul_of_nonneg_right h3 (by omega)
         omega
        have hr:=run_make (P:=P) w t E info z e3 hi hz .i64 .i64 c' c' hb.1 (by omega) hb2 (by omega)
        refine ⟨_,w.alloc (.cells (Go.madeCells z.cells (c'.toNat*info.size)) E),_,?_,⟨w.heap.size,rfl,rfl⟩,?_⟩
        · rw [hop]
          show ((Instr.makeSlice t (ev s.env l) (ev s.env c)) >>= fun v=>pure (Next.value v)).run P w=_
          rw [e1,e2]
          exact run_seq hr rfl
        · exact Sat.drop .here (hw.alloc (.cells (Go.madeCells z.cells (c'.toNat*info.size)) E (0,0)))
     · cases hx
   · cases hx
 · cases hx
theorem xmk0 {X:Ctx} {s:XS} (h:List Nat) {n:Int} (hb:0≤n∧n≤1099511627776)
 (k:∀ b:Nat,G X ((s.dr X h).put [] [] (.slice (some ⟨b,0,none⟩) n.toNat n.toNat) ⟨[],[]⟩))
 (hq:(s.dq X h).map (·.1)=(s.dq X h).map (·.2):=by kernel_rfl) (hp:s.dp X h=[]:=by kernel_rfl) (hx:mkOf0 X.P (s.dr X h)=some (n,n):=by kernel_rfl)
 (h1:oks ((s.dr X h).ok1 X.n)=okr ((s.dr X h).ok1 X.n):=by kernel_rfl)
 (h2:∀ b:Nat,oks ((s.dr X h).okP X [] [] (.slice (some ⟨b,0,none⟩) n.toNat n.toNat) ⟨[],[]⟩)=okr ((s.dr X h).okP X [] [] (.slice (some ⟨b,0,none⟩) n.toNat n.toNat) ⟨[],[]⟩):=by intro _; kernel_rfl) (h3:∀ b:Nat,(s.dr X h).ol1=(s.dr X h).olP [] [] ⟨[],[]⟩:=by intro _; kernel_rfl):G X s:=by
 refine ⟨_root_.Go.Proofs.YtcidmgkfaioceaaGreat.x0 h ?_ hq hp⟩
 generalize s.dr X h=s at *
 refine step_oc (io:=[]) (ia:=[]) (pre:=⟨[],[]⟩) (rv:=fun b:Nat=>Value.slice (some ⟨b,0,none⟩) n.toNat n.toNat) (post:=fun b=>⟨[],[]⟩) (fun Γ=>?_) rfl rfl h1 h2 h3 fun z=>(k z).get
 exact mk0_step hb hx Γ
instance:So OpqS:=⟨PtrR,fun n x=>[OpqA x.b n],⟨⟩,⟨0⟩⟩
instance:Rw (So.X OpqS):=rwPtrR
structure RMacS where
 c:CfgS
 f:OpqS
 n:List OpqS
 e:List EventS
def RMacO (b:Nat) (c:RMacS):Option Addr×Nat×Nat×Option Addr×Nat×List PtrR×Option Addr×Nat→Rs:=fun (a_c_init,c_c_init,b_f,a_n,c_n,r_n,a_e,c_e)=>⟨[⟨b,#[.int .i64 c.c.nodes,.int .i64 c.c.lines,.int .i64 c.c.words,.int .i64 c.c.sets,.int .i64 c.c.ways,.int .i64 c.c.out,.int .i64 c.c.inn,.slice a_c_init c.c.init.length c_c_init,.pointer (some ⟨b_f,0,none⟩),.slice a_n r_n.length c_n,.slice a_e c.e.length c_e],207⟩],[(ImmA a_c_init c_c_init c.c.init),(OpqA b_f c.f),(ArrA a_n c_n r_n),(StA c.n r_n),(ArrA a_e c_e c.e)]⟩
abbrev RMacA (b:Nat) (c:RMacS):Asn:=ObA (RMacO b c)
def r17nodeS (c:CfgS) (id:Int) (ops:List OpS):Option (OpqS) :=
 (r7cacheS c.sets c.ways).bind fun y1_6=>(r7homesS c id).bind fun y1_9=>chk ((ops).length≤1099511627776) (letP (ops) fun l1_11=>some (⟨⟩:OpqS))
theorem r17nodeF {c:CfgS} {id:Int} {ops:List OpS} {opsA:Asn} (c0a:Option Addr) (c0c:Nat) (opsa:Option Addr) (opsc:Nat) (hopsA:Rdb opsA opsa opsc ops) {y:OpqS} (H:r17nodeS c id ops=some y):FnY Tryz.prog 121 [.agg #[.int .i64 c.nodes,.int .i64 c.lines,.int .i64 c.words,.int .i64 c.sets,.int .i64 c.ways,.int .i64 c.out,.int .i64 c.inn,.slice c0a c.init.length c0c],.int .i64 id,.slice opsa ops.length opsc] ⟨[],[(ImmA c0a c0c c.init),opsA]⟩ (Z:=Nat) (fun y (zb0:Nat)=>.pointer (some ⟨zb0,0,none⟩)) (fun y (zb0:Nat)=>⟨[],[(OpqA zb0 y),opsA]⟩) y:=by
 unfold r17nodeS at H
 refine xfY Tryz.func121 fun W0 F=>?_
 refine xn [] fun b0_0=>?_
 refine bindG H fun y1_6 hy1_6 H=>?_
 refine xc [0,0,1,2,3,0,4,5,0,7,0,8,10,6] [] [] (r7cacheF hy1_6) fun t1_6_b0=>?_
 refine xg [9] [] [1] (gh_dup c0a c0c c.init) fun _=>?_
 refine bindG H fun y1_9 hy1_9 H=>?_
 refine xc [] [] [0] (r7homesF c0a c0c hy1_9) fun t1_9_b0=>?_
 refine xg [11] [] [] (gh_nil (α:=OpS) none) fun _=>?_
 refine chkG H fun q1_11_1 H=>?_
 refine letG H fun l1_11 hl1_11 H=>?_
 refine xa [] [0,3] (a:=none) (l:=([]:List OpS)) (zs:=l1_11) (cap:=0) hopsA hl1_11 (hl1_11▸q1_11_1) fun ⟨a1_11,c1_11⟩=>?_
 refine xn [12,13] fun b1_13=>?_
 refine xg [14] [] [] (gh_opq b1_13 ⟨⟩) fun _=>?_
 exact xrY (someE H) [] [] [] [0,1] (b1_13)
def r1fabS (c:CfgS):Option (OpqS) :=
 chk (0≤c.nodes∧c.nodes≤1099511627776) (some (⟨⟩:OpqS))
theorem r1fabF {c:CfgS} (c0a:Option Addr) (c0c:Nat) {y:OpqS} (H:r1fabS c=some y):FnY Tryz.prog 120 [.agg #[.int .i64 c.nodes,.int .i64 c.lines,.int .i64 c.words,.int .i64 c.sets,.int .i64 c.ways,.int .i64 c.out,.int .i64 c.inn,.slice c0a c.init.length c0c]] ⟨[],[(ImmA c0a c0c c.init)]⟩ (Z:=Nat) (fun y (zb0:Nat)=>.pointer (some ⟨zb0,0,none⟩)) (fun y (zb0:Nat)=>⟨[],[(OpqA zb0 y)]⟩) y:=by
 unfold r1fabS at H
 refine xfY Tryz.func120 fun W0 F=>?_
 refine xn [] fun b0_0=>?_
 refine chkG H fun q1_3_1 H=>?_
 refine xmk0 [0,0,1,2,0,3] q1_3_1 fun b1_3=>?_
 refine xn [4,5] fun b1_5=>?_
 refine xg [6] [] [] (gh_opq b1_5 ⟨⟩) fun _=>?_
 exact xrY (someE H) [] [] [] [0] (b1_5)
end
section
open Go Go.RowKit
def r17newS_j1 (e1_b3_4:RMacS):Option (Option RMacS×Bool) :=
 some ((some e1_b3_4),true)
def r17newS_l2 (c:CfgS) (programs:List (List OpS)) (k1:RMacS→Option (Option RMacS×Bool)):Nat→Int→RMacS→Option (Option RMacS×Bool)
 |0,_,_=>none
 |m+1,v2_7,v2_b3_4=>(bif decide (v2_7<c.nodes) then chk (0≤v2_7∧v2_7<(programs.length:Int)) (letP (nthT programs v2_7) fun x7_10=>(r17nodeS c v2_7 x7_10).bind fun y7_11=>chk (v2_b3_4.n.length+1≤1099511627776) (chk (inR (v2_7+(1:Int))) ((r17newS_l2 c programs k1 m) (v2_7+(1:Int)) ({ v2_b3_4 with n:=(v2_b3_4.n++[y7_11]) }:RMacS)))) else k1 v2_b3_4)
def r17newS_j0 (c:CfgS) (programs:List (List OpS)) (e0_16:Bool):Option (Option RMacS×Bool) :=
 (bif e0_16 then some (none,false) else (r1fabS c).bind fun y3_2=>r17newS_l2 c programs r17newS_j1 (c.nodes.toNat+1) (0:Int) ({ c:=c,f:=y3_2,n:=([]:List OpqS),e:=([]:List EventS) }:RMacS))
def r17newS (c:CfgS) (programs:List (List OpS)):Option (Option RMacS×Bool) :=
 (r1checkS c).bind fun y1_1=>(bif !y1_1 then (r17newS_j0 c programs) true else (r1opsS c programs).bind fun y1_6=>(r17newS_j0 c programs) !y1_6)
theorem r17newF {c:CfgS} {programs:List (List OpS)} {programsA:Asn} (c0a:Option Addr) (c0c:Nat) (programsa:Option Addr) (programsc:Nat) (hprogramsA:Rdb programsA programsa programsc programs) {y:Option RMacS×Bool} (H:r17newS c programs=some y):FnY Tryz.prog 75 [.agg #[.int .i64 c.nodes,.int .i64 c.lines,.int .i64 c.words,.int .i64 c.sets,.int .i64 c.ways,.int .i64 c.out,.int .i64 c.inn,.slice c0a c.init.length c0c],.slice programsa programs.length programsc] ⟨[],[(ImmA c0a c0c c.init),programsA]⟩ (Z:=Nat) (fun y (zb0:Nat)=>.tuple #[(optV y.1 zb0),.bool y.2]) (fun y (zb0:Nat)=>⟨[],[(optA (RMacA zb0) y.1),programsA]⟩) y:=by
 unfold r17newS at H
 refine xfY Tryz.func75 fun W0 F=>?_
 refine xn [] fun b0_0=>?_
 refine xj [101] (ι:=Bool) (fun e0_16=>⟨[(1,.slice programsa programs.length programsc),(2,.pointer (some ⟨b0_0,0,none⟩)),(16,.bool e0_16)],[⟨b0_0,#[.int .i64 c.nodes,.int .i64 c.lines,.int .i64 c.words,.int .i64 c.sets,.int .i64 c.ways,.int .i64 c.out,.int .i64 c.inn,.slice c0a c.init.length c0c],25⟩],[(ImmA c0a c0c c.init),programsA]⟩) (fun e0_16=>r17newS_j0 c programs e0_16=some y) ?_ ?_
 · rintro e0_16 H
   replace H:r17newS_j0 c programs e0_16=some y:=H
   rw [r17newS_j0] at H
   refine xs [] H ?_ ?_
   · intro H
     exact xrY (someE H) [1] [] [] [52,1] (0)
   · intro H
     refine xg [0,0,0,1,0,2] [] [0] (gh_dup c0a c0c c.init) fun _=>?_
     refine bindG H fun y3_2 hy3_2 H=>?_
     refine xc [] [] [0] (r1fabF c0a c0c hy3_2) fun t3_2_b0=>?_
     refine xn [3,4] fun b3_4=>?_
     refine xj [5,100] (ι:=RMacS) (fun e1_b3_4=>⟨[(6,.pointer (some ⟨b3_4,0,none⟩))],[],[(RMacA b3_4 e1_b3_4),programsA]⟩) (fun e1_b3_4=>r17newS_j1 e1_b3_4=some y) ?_ ?_
     · rintro e1_b3_4 H
       replace H:r17newS_j1 e1_b3_4=some y:=H
       rw [r17newS_j1] at H
       exact xrY (someE H) [] [] [] [0,0] (b3_4)
     · intro N1 hN1
       refine xg [] [] [1] (gh_dup c0a c0c c.init) fun _=>?_
       refine xg [] [] [] (gh_nil (α:=PtrR) none) fun _=>?_
       refine xg [] [] [] (gh_snil (α:=OpqS)) fun _=>?_
       refine xg [] [] [] (gh_nil (α:=EventS) none) fun _=>?_
       refine xg [] [0] [3,4,2,1,0] (gh_shut (RMacO b3_4 ({ c:=c,f:=y3_2,n:=([]:List OpqS),e:=([]:List EventS) }:RMacS)) (c0a,c0c,t3_2_b0,none,0,([]:List PtrR),none,0)) fun _=>?_
       refine xl [] (ι:=Int×RMacS) (fun (v2_7,v2_b3_4)=>⟨[(1,.slice programsa programs.length programsc),(2,.pointer (some ⟨b0_0,0,none⟩)),(6,.pointer (some ⟨b3_4,0,none⟩)),(7,.int .i64 v2_7)],[⟨b0_0,#[.int .i64 c.nodes,.int .i64 c.lines,.int .i64 c.words,.int .i64 c.sets,.int .i64 c.ways,.int .i64 c.out,.int .i64 c.inn,.slice c0a c.init.length c0c],25⟩],[(RMacA b3_4 v2_b3_4),(ImmA c0a c0c c.init),programsA]⟩) (fun m2 (v2_7,v2_b3_4)=>r17newS_l2 c programs (r17newS_j1) m2 v2_7 v2_b3_4=some y) [0] [0,0,0] ((c.nodes.toNat+1)) ((0:Int),({ c:=c,f:=y3_2,n:=([]:List OpqS),e:=([]:List EventS) }:RMacS)) H ?_
       rintro N2 (_ | m2) ⟨v2_7,v2_b3_4⟩ H hN2
       · exact (noneE H).elim
       replace H:r17newS_l2 c programs (r17newS_j1) (m2+1) v2_7 v2_b3_4=some y:=H
       rw [r17newS_l2] at H
       refine xs [0] H ?_ ?_
       · intro H
         refine xg [1,0,1,2,3,4] [] [0] (gh_open (RMacO b3_4 v2_b3_4)) fun ⟨a_c_init1,c_c_init2,b_f3,a_n4,c_n5,r_n6,a_e7,c_e8⟩=>?_
         refine chkG H fun q7_9_1 H=>?_
         refine xi [0,5,1,6,7,8,9] 6 hprogramsA q7_9_1 fun b1 o1 e1=>?_
         refine letG H fun x7_10 hx7_10 H=>?_
         refine xo [10] [] [6] (oc_ld hprogramsA e1 q7_9_1 hx7_10 0) fun z7_10_1=>?_
         refine xg [11] [] [7] (gh_dup c0a c0c c.init) fun _=>?_
         refine bindG H fun y7_11 hy7_11 H=>?_
         refine xc [] [] [0,1] (r17nodeF c0a c0c z7_10_1.1 z7_10_1.2 (rI z7_10_1.1 z7_10_1.2 x7_10) hy7_11) fun t7_11_b0=>?_
         refine xn [12] fun b7_12=>?_
         refine xg [13] [0] [9] (gh_one b7_12 208 (⟨t7_11_b0⟩:PtrR) ()) fun _=>?_
         refine xk [] [8] (st_len v2_b3_4.n r_n6) fun hl7_13_1=>?_
         refine chkG H fun q7_13_1 H=>?_
         refine xa [] [7,0] (a:=a_n4) (l:=r_n6) (zs:=(r_n6++[(⟨t7_11_b0⟩:PtrR)])) (cap:=c_n5) (rA (some ⟨b7_12,0,none⟩) 1 ([(⟨t7_11_b0⟩:PtrR)])) rfl (apG (e:=(⟨t7_11_b0⟩:PtrR)) hl7_13_1 q7_13_1) fun ⟨a7_13,c7_13⟩=>?_
         refine xg [] [] [2,7] (gh_ssnoc v2_b3_4.n r_n6 y7_11 (⟨t7_11_b0⟩:PtrR)) fun _=>?_
         refine chkG H fun q6_1_1 H=>?_
         refine xd [14,15,16,0,0] (ap q6_1_1 an) ?_
         refine xg [] [0] [6,6,1,0,4] (gh_shut (RMacO b3_4 ({ v2_b3_4 with n:=(v2_b3_4.n++[y7_11]) }:RMacS)) (a_c_init1,c_c_init2,b_f3,a7_13,c7_13,(r_n6++[(⟨t7_11_b0⟩:PtrR)]),a_e7,c_e8)) fun _=>?_
         exact xe [] _ [0] [0,2,2] (hN2 _ (v2_7+(1:Int),({ v2_b3_4 with n:=(v2_b3_4.n++[y7_11]) }:RMacS)) (Nat.lt_succ_self _) H)
       · intro H
         exact xe [0] _ [] [0,1] (hN1 (v2_b3_4) H)
 · intro N0 hN0
   refine bindG H fun y1_1 hy1_1 H=>?_
   refine xc [0] [] [] (r1checkF c0a c0c hy1_1) fun _=>?_
   refine xs [] H ?_ ?_
   · intro H
     exact xe [0,0,0,0,1] _ [0] [0,0] (hN0 (true) H)
   · intro H
     refine bindG H fun y1_6 hy1_6 H=>?_
     refine xc [1,0,1,1] [] [1] (r1opsF c0a c0c programsa programsc hprogramsA hy1_6) fun _=>?_
     exact xe [1,0] _ [0] [1,0] (hN0 (!y1_6) H)
end
end Go.Proofs.YtcidmgkfaioceaaGreat
