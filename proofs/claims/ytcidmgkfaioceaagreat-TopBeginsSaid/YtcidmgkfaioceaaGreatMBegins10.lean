/- Walks of the program's functions, and the plain laws of what they compute (part 10): Rfd, Tig, TBegins, T9, RE, InX, InY.
   Conditions: none. -/
import Derived.OpenShut
import Derived.ChangeArms
import Derived.ChangeSlices
import Derived.Test.YtcidmgkfaioceaaGreatMBegins9
set_option linter.unusedVariables false
set_option linter.unusedSimpArgs false
set_option linter.unusedSectionVars false
set_option maxRecDepth 100000
set_option maxHeartbeats 4000000
namespace Go.Proofs.YtcidmgkfaioceaaGreat
section
open Go Go.RowKit
def bothS (s:SetupS) (most:Int):Option (Option MachS×Option RMacS×List (List OpS)) :=
 (pconfS s).bind fun y1_1=>(pprogS s most).bind fun y2_2=>(r17newS y1_1 y2_2).bind fun y3_2=>(mnewmS y1_1 y2_2).bind fun y4_2=>(bif !y3_2.2 then some (none,none,([]:List (List OpS))) else (bif !(decide (y4_2.2=(0:Int))) then some (none,none,([]:List (List OpS))) else (optM y4_2.1 (fun n5_7_1=>some ((some n5_7_1),y3_2.1,y2_2)) (some (none,none,([]:List (List OpS)))))))
theorem bothF {s:SetupS} {s0A:Asn} {s1A:Asn} {s2A:Asn} {s3A:Asn} {s4A:Asn} {most:Int} (s0a:Option Addr) (s0c:Nat) (s1a:Option Addr) (s1c:Nat) (s2a:Option Addr) (s2c:Nat) (s3a:Option Addr) (s3c:Nat) (s4a:Option Addr) (s4c:Nat) (hs0A:Rdb s0A s0a s0c s.init) (hs1A:Rdb s1A s1a s1c s.who) (hs2A:Rdb s2A s2a s2c s.kinds) (hs3A:Rdb s3A s3a s3c s.addrs) (hs4A:Rdb s4A s4a s4c s.values) {y:Option MachS×Option RMacS×List (List OpS)} (H:bothS s most=some y):FnY Tryz.prog 33 [.agg #[.int .i64 s.nodes,.int .i64 s.lines,.int .i64 s.words,.int .i64 s.sets,.int .i64 s.ways,.int .i64 s.out,.int .i64 s.inn,.slice s0a s.init.length s0c,.slice s1a s.who.length s1c,.slice s2a s.kinds.length s2c,.slice s3a s.addrs.length s3c,.slice s4a s.values.length s4c],.int .i64 most] ⟨[],[s0A,s1A,s2A,s3A,s4A]⟩ (Z:=Nat×Nat×Option Addr×Nat) (fun y (zb0,zb1,za2,zc2)=>.tuple #[(optV y.1 zb0),(optV y.2.1 zb1),.slice za2 y.2.2.length zc2]) (fun y (zb0,zb1,za2,zc2)=>⟨[],[(optA (MachA zb0) y.1),(optA (RMacA zb1) y.2.1),(ArrA za2 zc2 y.2.2),s0A,s1A,s2A,s3A,s4A]⟩) y:=by
 unfold bothS at H
 refine xfY Tryz.func33 fun W0 F=>?_
 refine xn [] fun b0_0=>?_
 refine bindG H fun y1_1 hy1_1 H=>?_
 refine xc [0] [] [0,0,0,0,0] (pconfF s0a s0c s1a s1c s2a s2c s3a s3c s4a s4c hs0A hs1A hs2A hs3A hs4A hy1_1) fun ⟨t1_1_a0,t1_1_c0⟩=>?_
 refine xn [] fun b1_2=>?_
 refine bindG H fun y2_2 hy2_2 H=>?_
 refine xc [0,1] [] [1,1,1,1,1] (pprogF s0a s0c s1a s1c s2a s2c s3a s3c s4a s4c hs0A hs1A hs2A hs3A hs4A hy2_2) fun ⟨t2_2_a0,t2_2_c0⟩=>?_
 refine xg [0] [] [6] (gh_frz t1_1_a0 t1_1_c0 y1_1.init) fun _=>?_
 refine xg [] [] [0] (gh_dup t1_1_a0 t1_1_c0 y1_1.init) fun _=>?_
 refine bindG H fun y3_2 hy3_2 H=>?_
 refine xc [] [] [0,1] (r17newF t1_1_a0 t1_1_c0 t2_2_a0 t2_2_c0 (rA t2_2_a0 t2_2_c0 y2_2) hy3_2) fun t3_2_b0=>?_
 refine xg [0] [] [2] (gh_dup t1_1_a0 t1_1_c0 y1_1.init) fun _=>?_
 refine bindG H fun y4_2 hy4_2 H=>?_
 refine xc [] [] [0,2] (mnewmF t1_1_a0 t1_1_c0 t2_2_a0 t2_2_c0 (rA t2_2_a0 t2_2_c0 y2_2) hy4_2) fun t4_2_b0=>?_
 refine xs [] H ?_ ?_
 · intro H
   refine xg [0,0,1,0,0,1,1] [] [] (gh_nil (α:=List OpS) none) fun _=>?_
   exact xrY (someE H) [] [] [] [60,60,0,4,4,4,4,4] (0,0,none,0)
 · intro H
   refine xs [1,1,0] H ?_ ?_
   · intro H
     refine xg [0,0,1,1] [] [] (gh_nil (α:=List OpS) none) fun _=>?_
     exact xrY (someE H) [] [] [] [60,60,0,4,4,4,4,4] (0,0,none,0)
   · intro H
     refine optG H (fun hn5_7_1 H=>?_) fun n5_7_1 hn5_7_1 H=>?_
     · refine xw [1,300] 11 (optV_n t4_2_b0 hn5_7_1) ?_
       refine xw [300] 37 (optV_n t4_2_b0 hn5_7_1) ?_
       refine xg [1,0,1] [] [] (gh_nil (α:=List OpS) none) fun _=>?_
       exact xrY (someE H) [] [] [] [60,60,0,4,4,4,4,4] (0,0,none,0)
     · refine xw [1,300] 11 (optV_s t4_2_b0 hn5_7_1) ?_
       refine xw [300] 37 (optV_s t4_2_b0 hn5_7_1) ?_
       refine xg [300] [] [0] (gh_opt (A:=MachA t4_2_b0) hn5_7_1) fun _=>?_
       exact xrY (someE H) [1,0,0] [] [] [0,2,0,1,1,1,1,1] (t4_2_b0,t3_2_b0,t2_2_a0,t2_2_c0)
end
section
open Go Go.RowKit
section
variable {α:Type} [Rw α]
omit [Rw α] in
end
end
section
open Go Go.RowKit
def topBeginsS (s:SetupS) (l:List ChoiceS) (cut:Int):Option (Bool) :=
 (bothS s (16:Int)).bind fun y1_1=>(optM y1_1.1 (fun n2_0_1=>(trunS n2_0_1 l (100:Int)).bind fun y4_2=>(trevS y4_2.trace).bind fun y5_4=>letP (wr ((y5_4.length:Int)+(1:Int))) fun u6_3=>(withinS cut u6_3).bind fun y6_4=>chk (0≤(0:Int)∧(0:Int)≤y6_4∧y6_4≤(y5_4.length:Int)) (letP ((y5_4.drop ((0:Int)).toNat).take ((y6_4).toNat - ((0:Int)).toNat)) fun l7_2=>(trunS y4_2 l (40:Int)).bind fun y8_2=>(trevS y8_2.trace).bind fun y9_4=>(bif decide ((y5_4.length:Int)≤(y9_4.length:Int)) then chk (0≤(0:Int)∧(0:Int)≤y6_4∧y6_4≤(y9_4.length:Int)) (letP ((y9_4.drop ((0:Int)).toNat).take ((y6_4).toNat - ((0:Int)).toNat)) fun l10_8=>(sameES l10_8 l7_2).bind fun y10_10=>(bif y10_10 then (mconfS y8_2).bind fun y10_14=>(alegS y10_14 y1_1.2.2 l7_2).bind fun y10_17=>(bif y10_17 then (mconfS y8_2).bind fun y10_21=>(alegS y10_21 y1_1.2.2 y9_4).bind fun y10_24=>(bif y10_24 then (twakesS).bind fun y10_27=>some y10_27 else some false) else some false) else some false)) else some false))) (some false))
theorem topBeginsF {s:SetupS} {s0A:Asn} {s1A:Asn} {s2A:Asn} {s3A:Asn} {s4A:Asn} {l:List ChoiceS} {lA:Asn} {cut:Int} (s0a:Option Addr) (s0c:Nat) (s1a:Option Addr) (s1c:Nat) (s2a:Option Addr) (s2c:Nat) (s3a:Option Addr) (s3c:Nat) (s4a:Option Addr) (s4c:Nat) (la:Option Addr) (lc:Nat) (hs0A:Rdb s0A s0a s0c s.init) (hs1A:Rdb s1A s1a s1c s.who) (hs2A:Rdb s2A s2a s2c s.kinds) (hs3A:Rdb s3A s3a s3c s.addrs) (hs4A:Rdb s4A s4a s4c s.values) (hlA:Rdb lA la lc l) {y:Bool} (H:topBeginsS s l cut=some y):FnY Tryz.prog 7 [.agg #[.int .i64 s.nodes,.int .i64 s.lines,.int .i64 s.words,.int .i64 s.sets,.int .i64 s.ways,.int .i64 s.out,.int .i64 s.inn,.slice s0a s.init.length s0c,.slice s1a s.who.length s1c,.slice s2a s.kinds.length s2c,.slice s3a s.addrs.length s3c,.slice s4a s.values.length s4c],.slice la l.length lc,.int .i64 cut] ⟨[],[s0A,s1A,s2A,s3A,s4A,lA]⟩ (Z:=Unit) (fun y _=>.bool y) (fun y _=>⟨[],[s0A,s1A,s2A,s3A,s4A,lA]⟩) y:=by
 unfold topBeginsS at H
 refine xfY Tryz.func7 fun W0 F=>?_
 refine xn [] fun b0_0=>?_
 refine bindG H fun y1_1 hy1_1 H=>?_
 refine xc [0] [] [0,0,0,0,0] (bothF s0a s0c s1a s1c s2a s2c s3a s3c s4a s4c hs0A hs1A hs2A hs3A hs4A hy1_1) fun ⟨t1_1_b0,t1_1_b1,t1_1_a2,t1_1_c2⟩=>?_
 refine optG H (fun hn2_0_1 H=>?_) fun n2_0_1 hn2_0_1 H=>?_
 · refine xw [309] 7 (optV_n t1_1_b0 hn2_0_1) ?_
   refine xw [300] 19 (optV_n t1_1_b0 hn2_0_1) ?_
   exact xrY (someE H) [1] [] [] [3,3,3,3,3,3] ()
 · refine xw [309] 7 (optV_s t1_1_b0 hn2_0_1) ?_
   refine xw [300] 19 (optV_s t1_1_b0 hn2_0_1) ?_
   refine xg [300] [] [0] (gh_opt (A:=MachA t1_1_b0) hn2_0_1) fun _=>?_
   refine bindG H fun y4_2 hy4_2 H=>?_
   refine xc [0] [] [0,7] (trunF t1_1_b0 la lc hlA hy4_2) fun _=>?_
   refine xg [] [] [0] (gh_open (MachO t1_1_b0 y4_2)) fun ⟨b_fab2,b_trace3,a_c_init4,c_c_init5,a_nodes6,c_nodes7,r_nodes8⟩=>?_
   refine xg [0] [] [1] (gh_open (TraceO b_trace3 y4_2.trace)) fun ⟨a_l9,c_l10⟩=>?_
   refine bindG H fun y5_4 hy5_4 H=>?_
   refine xc [] [0] [0] (trevF b_trace3 a_l9 c_l10 hy5_4) fun ⟨t5_4_a0,t5_4_c0⟩=>?_
   refine letG H fun u6_3 hu6_3 H=>?_
   refine xw [1,300] 32 (congrArg (Value.int .i64) hu6_3) ?_
   refine bindG H fun y6_4 hy6_4 H=>?_
   refine xq [] (within_fq hy6_4) ?_
   refine chkG H fun q7_2_1 H=>?_
   refine letG H fun l7_2 hl7_2 H=>?_
   refine xsl [] 0 (rA t5_4_a0 t5_4_c0 y5_4) (mx:=(t5_4_c0:Int)) q7_2_1 (.inl rfl) hl7_2 fun a7_2 rl7_2=>?_
   refine xg [] [0] [1] (gh_shut (TraceO b_trace3 y4_2.trace) (a_l9,c_l10)) fun _=>?_
   refine xg [] [0] [2,0,1,1,1] (gh_shut (MachO t1_1_b0 y4_2) (b_fab2,b_trace3,a_c_init4,c_c_init5,a_nodes6,c_nodes7,r_nodes8)) fun _=>?_
   refine bindG H fun y8_2 hy8_2 H=>?_
   refine xc [] [] [0,1] (trunF t1_1_b0 la lc hlA hy8_2) fun _=>?_
   refine xg [] [] [0] (gh_open (MachO t1_1_b0 y8_2)) fun ⟨b_fab11,b_trace12,a_c_init13,c_c_init14,a_nodes15,c_nodes16,r_nodes17⟩=>?_
   refine xg [0] [] [1] (gh_open (TraceO b_trace12 y8_2.trace)) fun ⟨a_l18,c_l19⟩=>?_
   refine bindG H fun y9_4 hy9_4 H=>?_
   refine xc [] [0] [0] (trevF b_trace12 a_l18 c_l19 hy9_4) fun ⟨t9_4_a0,t9_4_c0⟩=>?_
   refine xs [] H ?_ ?_
   · intro H
     refine chkG H fun q10_8_1 H=>?_
     refine letG H fun l10_8 hl10_8 H=>?_
     refine xsl [1,1,1] 0 (rA t9_4_a0 t9_4_c0 y9_4) (mx:=(t9_4_c0:Int)) q10_8_1 (.inl rfl) hl10_8 fun a10_8 rl10_8=>?_
     refine bindG H fun y10_10 hy10_10 H=>?_
     refine xc [1,1] [] [0,6] (sameEF a10_8 (((t9_4_c0:Int)).toNat - ((0:Int)).toNat) a7_2 (((t5_4_c0:Int)).toNat - ((0:Int)).toNat) rl10_8 rl7_2 hy10_10) fun _=>?_
     refine xs [1] H ?_ ?_
     · intro H
       refine xg [1,1] [0] [2] (gh_shut (TraceO b_trace12 y8_2.trace) (a_l18,c_l19)) fun _=>?_
       refine bindG H fun y10_14 hy10_14 H=>?_
       refine xc [] [0] [3,0,2,2,2] (mconfF t1_1_b0 b_fab11 b_trace12 a_c_init13 c_c_init14 a_nodes15 c_nodes16 r_nodes17 hy10_14) fun ⟨t10_14_a0,t10_14_c0⟩=>?_
       refine xg [1,1,1] [] [0] (gh_frz t10_14_a0 t10_14_c0 y10_14.init) fun _=>?_
       refine xg [] [] [0] (gh_dup t10_14_a0 t10_14_c0 y10_14.init) fun _=>?_
       refine bindG H fun y10_17 hy10_17 H=>?_
       refine xc [] [] [0,10,7] (alegF t10_14_a0 t10_14_c0 t1_1_a2 t1_1_c2 a7_2 (((t5_4_c0:Int)).toNat - ((0:Int)).toNat) (rA t1_1_a2 t1_1_c2 y1_1.2.2) rl7_2 hy10_17) fun _=>?_
       refine xs [1] H ?_ ?_
       · intro H
         refine bindG H fun y10_21 hy10_21 H=>?_
         refine xc [1,1] [0] [3,3,3,3,3] (mconfF t1_1_b0 b_fab11 b_trace12 a_c_init13 c_c_init14 a_nodes15 c_nodes16 r_nodes17 hy10_21) fun ⟨t10_21_a0,t10_21_c0⟩=>?_
         refine xg [1,1,1] [] [0] (gh_frz t10_21_a0 t10_21_c0 y10_21.init) fun _=>?_
         refine xg [] [] [0] (gh_dup t10_21_a0 t10_21_c0 y10_21.init) fun _=>?_
         refine bindG H fun y10_24 hy10_24 H=>?_
         refine xc [] [] [0,6,8] (alegF t10_21_a0 t10_21_c0 t1_1_a2 t1_1_c2 t9_4_a0 t9_4_c0 (rA t1_1_a2 t1_1_c2 y1_1.2.2) (rA t9_4_a0 t9_4_c0 y9_4) hy10_24) fun _=>?_
         refine xs [1] H ?_ ?_
         · intro H
           refine bindG H fun y10_27 hy10_27 H=>?_
           refine xc [1] [] [] (twakesF hy10_27) fun _=>?_
           exact xrY (someE H) [1] [] [] [12,12,12,12,12,10] ()
         · intro H
           exact xrY (someE H) [0,0] [] [] [12,12,12,12,12,10] ()
       · intro H
         exact xrY (someE H) [0,0,0,0,0,0,0,0] [] [] [11,11,11,11,11,9] ()
     · intro H
       exact xrY (someE H) [0,0,0,0,0,0,0,0,0,0,0,0,0,0] [] [] [10,10,10,10,10,7] ()
   · intro H
     exact xrY (someE H) [0,0,0,0,0,0,0,0,0,0,0,0,0,0,0,0,0,0,0,0] [] [] [10,10,10,10,10,6] ()
end
section
open Go
theorem wakes_true:twakesS=some true:=by kernel_rfl
end
section
open Go
section
variable {g:CfgS} {ps:List (List OpS)} {L:Int}
theorem r1check_ok (hg:GOk g):r1checkS g=some true:=by
 have w:∀ n m:Int,1≤n→n≤m→r1withinS n m=some true:=fun n m h1 h2=>by
  unfold r1withinS
  rw [decide_eq_true h1,cond_true,decide_eq_true h2]
 have h1:=hg.l1
 have h2:=hg.w1
 have h3:=hg.w0
 have h4:=hg.l0
 have hm:g.lines*g.words≤8*g.words:=Int.mul_le_mul_of_nonneg_right h1 (by omega)
 have hm0:0≤g.lines*g.words:=Int.mul_nonneg (by omega) (by omega)
 have hi:=hg.ini
 unfold r1checkS
 rw [w _ _ hg.n0 hg.n1,Option.bind_some,cond_true,w _ _ hg.l0 hg.l1,Option.bind_some,cond_true,w _ _ hg.w0 hg.w1,Option.bind_some]
 simp only [w _ _ hg.s0 hg.s1,w _ _ hg.y0 hg.y1,w _ _ hg.o0 hg.o1,w _ _ hg.i0 hg.i1,Option.bind_some,cond_true,Bool.not_true,cond_false]
 rw [wr_in (by omega) (by omega),decide_eq_true (by omega)]
theorem r1op_ok (hg:GOk g) {o:OpS} (ho:OOk g o):r1opS g o=some true:=by
 have h1:=hg.l1
 have h2:=hg.w1
 have h3:=hg.w0
 have h4:=hg.l0
 have hm:g.lines*g.words≤8*g.words:=Int.mul_le_mul_of_nonneg_right h1 (by omega)
 have hm0:0≤g.lines*g.words:=Int.mul_nonneg (by omega) (by omega)
 unfold r1opS
 rw [decide_eq_true ho.k0,cond_true,decide_eq_true ho.k1,cond_true,decide_eq_true ho.a0,cond_true,wr_in (by omega) (by omega),decide_eq_true ho.a1,cond_true]
 by_cases hv:o.value=0
 · rw [decide_eq_true hv,cond_true]
 · rw [decide_eq_false hv,cond_false]
   rcases ho.vz with z | z | z
   · exact absurd z hv
   · rw [decide_eq_true z,cond_true]
   · rw [decide_eq_false (by omega),cond_false,decide_eq_true z]
theorem r1ops_l3 (hg:GOk g) {K:Option Bool} (x:List OpS) (hx:x.length≤24) (ho:∀ o∈x,OOk g o):∀ (m i:Nat),i≤x.length→x.length<m+i→r1opsS_l3 x g K m (i:Int)=K
 |0,i,h1,h2=>by omega
 |m+1,i,h1,h2=>by
  rw [r1opsS_l3]
  by_cases hi:i<x.length
  · have hxi:x[i]?=some x[i]:=List.getElem?_eq_getElem hi
    rw [decide_eq_true (by omega),cond_true,chk_true (by omega)]
    dsimp only [letP]
    rw [nthT_at hxi,r1op_ok hg (ho _ (List.getElem_mem hi)),Option.bind_some,Bool.not_true,cond_false,chk_true (by unfold inR; omega)]
    have ih:=r1ops_l3 hg (K:=K) x hx ho m (i+1) (by omega) (by omega)
    rw [show (((i+1:Nat)):Int)=(i:Int)+1 by omega] at ih
    exact ih
  · rw [decide_eq_false (by omega),cond_false]
theorem r1ops_l1 (hg:GOk g) (hp:PsOk g ps):∀ (m i:Nat),i≤ps.length→ps.length<m+i→r1opsS_l1 ps g r1opsS_j0 m (i:Int)=some true
 |0,i,h1,h2=>by omega
 |m+1,i,h1,h2=>by
  have hn6:=(nn6 hg).1
  have hlen:=hp.len
  rw [r1opsS_l1]
  by_cases hi:i<ps.length
  · have hxi:ps[i]?=some ps[i]:=List.getElem?_eq_getElem hi
    have hmem:=List.getElem_mem hi
    have h24:=hp.sh _ hmem
    rw [decide_eq_true (by omega),cond_true,chk_true (by omega)]
    dsimp only [letP]
    rw [nthT_at hxi,decide_eq_false (by omega),cond_false]
    refine Eq.trans (r1ops_l3 hg ps[i] h24 (hp.ok _ hmem) 64 0 (by omega) (by omega)) ?_
    unfold r1opsS_j2
    rw [chk_true (by unfold inR; omega)]
    have ih:=r1ops_l1 hg hp m (i+1) (by omega) (by omega)
    rw [show (((i+1:Nat)):Int)=(i:Int)+1 by omega] at ih
    exact ih
  · rw [decide_eq_false (by omega),cond_false]
    rfl
theorem r1ops_ok (hg:GOk g) (hp:PsOk g ps):r1opsS g ps=some true:=by
 have hn:=nnI hg
 have hn6:=(nn6 hg).1
 have hlen:=hp.len
 unfold r1opsS
 rw [decide_eq_true (by omega),Bool.not_true,cond_false]
 exact r1ops_l1 hg hp 64 0 (by omega) (by omega)
theorem r1words_l2 (hg:GOk g) (l0:0≤L) (l1:L<g.lines):∀ (m i:Nat) (acc:List Int),acc.length≤i→(i:Int)≤g.words→g.words.toNat<m+i→∃ y,r1wordsS_l2 g L r1wordsS_j1 m acc (i:Int)=some y
 |0,i,acc,h0,h1,h2=>by omega
 |m+1,i,acc,h0,h1,h2=>by
  have hw1:=hg.w1
  have hw0:=hg.w0
  have hl1:=hg.l1
  have hm:L*g.words≤8*g.words:=Int.mul_le_mul_of_nonneg_right (by omega) (by omega)
  have hm0:0≤L*g.words:=Int.mul_nonneg l0 (by omega)
  rw [r1wordsS_l2]
  by_cases hi:(i:Int)<g.words
  · have ih:=fun a ha=>r1words_l2 hg l0 l1 m (i+1) a ha (by omega) (by omega)
    rw [show (((i+1:Nat)):Int)=(i:Int)+1 by omega] at ih
    rw [decide_eq_true hi,cond_true,show wr (L*g.words)=L*g.words from wr_in (by omega) (by omega),wr_in (by omega) (by omega)]
    by_cases hx:L*g.words+(i:Int)<(g.init.length:Int)
    · rw [decide_eq_true hx,cond_true,chk_true (by omega),chk_true (by rw [List.length_append]; simp; omega)]
      dsimp only [letP]
      rw [chk_true (by unfold inR; omega)]
      exact ih _ (by rw [List.length_append]; simp; omega)
    · rw [decide_eq_false hx,cond_false,chk_true (by rw [List.length_append]; simp; omega)]
      dsimp only [letP]
      rw [chk_true (by unfold inR; omega)]
      exact ih _ (by rw [List.length_append]; simp; omega)
  · rw [decide_eq_false hi,cond_false]
    exact ⟨_,rfl⟩
theorem r1words_ok (hg:GOk g) (l0:0≤L) (l1:L<g.lines):∃ y,r1wordsS g L=some y:=by
 have hw0:=hg.w0
 unfold r1wordsS
 rw [decide_eq_false (by omega),cond_false,decide_eq_false (by omega)]
 unfold r1wordsS_j0
 rw [cond_false]
 exact r1words_l2 hg l0 l1 (g.words.toNat+1) 0 [] (by simp) (by omega) (by omega)
theorem r7homes_l1 (hg:GOk g):∀ (m i:Nat) (acc:List RowS),acc.length≤i→(i:Int)≤g.lines→g.lines.toNat<m+i→∃ y,r7homesS_l1 g r7homesS_j0 m (i:Int) acc=some y
 |0,i,acc,h0,h1,h2=>by omega
 |m+1,i,acc,h0,h1,h2=>by
  have hl1:=hg.l1
  rw [r7homesS_l1]
  by_cases hi:(i:Int)<g.lines
  · obtain ⟨y,hy⟩:=r1words_ok hg (L:=(i:Int)) (by omega) hi
    rw [decide_eq_true hi,cond_true,hy,Option.bind_some,chk_true (by rw [List.length_append]; simp; omega)]
    dsimp only [letP]
    rw [chk_true (by unfold inR; omega)]
    have ih:=r7homes_l1 hg m (i+1) (acc++[⟨0,-1,y⟩]) (by rw [List.length_append]; simp; omega) (by omega) (by omega)
    rw [show (((i+1:Nat)):Int)=(i:Int)+1 by omega] at ih
    exact ih
  · rw [decide_eq_false hi,cond_false]
    exact ⟨_,rfl⟩
theorem r17node_ok (hg:GOk g) {id:Int} {l:List OpS} (hl:l.length≤24):∃ y,r17nodeS g id l=some y:=by
 have hl0:=hg.l0
 obtain ⟨y,hy⟩:=r7homes_l1 hg (g.lines.toNat+1) 0 [] (by simp) (by omega) (by omega)
 unfold r17nodeS r7cacheS r7homesS
 dsimp only [letP]
 have hy':r7homesS_l1 g r7homesS_j0 (g.lines.toNat+1) 0 []=some y:=hy
 rw [Option.bind_some,hy',Option.bind_some,chk_true (by omega)]
 exact ⟨_,rfl⟩
theorem r17new_l2 (hg:GOk g) (hp:PsOk g ps):∀ (m i:Nat) (r:RMacS),r.n.length≤i→i≤nn g→nn g<m+i→∃ y,r17newS_l2 g ps r17newS_j1 m (i:Int) r=some (some y,true)
 |0,i,r,h0,h1,h2=>by omega
 |m+1,i,r,h0,h1,h2=>by
  have hn:=nnI hg
  have hn6:=(nn6 hg).1
  have hlen:=hp.len
  rw [r17newS_l2]
  by_cases hi:i<nn g
  · obtain ⟨b1,b2⟩:=opsL_at (ps:=ps) (k:=i) (by omega)
    obtain ⟨y,hy⟩:=r17node_ok hg (id:=(i:Int)) (hp.sh _ b2)
    rw [decide_eq_true (by omega),cond_true,chk_true (by omega)]
    dsimp only [letP]
    rw [nthT_at b1,hy,Option.bind_some,chk_true (by omega),chk_true (by unfold inR; omega)]
    have ih:=r17new_l2 hg hp m (i+1) { r with n:=r.n++[y] } (by show (r.n++[y]).length≤_; rw [List.length_append]; simp; omega) (by omega) (by omega)
    rw [show (((i+1:Nat)):Int)=(i:Int)+1 by omega] at ih
    exact ih
  · rw [decide_eq_false (by omega),cond_false]
    exact ⟨_,rfl⟩
theorem r17new_ok (hg:GOk g) (hp:PsOk g ps):∃ y,r17newS g ps=some (some y,true):=by
 have hn:=nnI hg
 have hn0:=hg.n0
 have hn6:=(nn6 hg).1
 unfold r17newS
 rw [r1check_ok hg,Option.bind_some,Bool.not_true,cond_false,r1ops_ok hg hp,Option.bind_some]
 unfold r17newS_j0 r1fabS
 rw [Bool.not_true,cond_false,chk_true (by omega),Option.bind_some]
 exact r17new_l2 hg hp (g.nodes.toNat+1) 0 _ (by simp) (by omega) (by unfold nn; omega)
end
theorem sameE_l1 (l:List EventS) (hl:l.length≤1000000):∀ (m i:Nat),i≤l.length→l.length<m+i→sameES_l1 l l sameES_j0 m (i:Int)=some true
 |0,i,h1,h2=>by omega
 |m+1,i,h1,h2=>by
  rw [sameES_l1]
  by_cases hi:i<l.length
  · rw [decide_eq_true (by omega),cond_true,chk_true (by omega),chk_true (by omega)]
    simp only [decide_true,beq_self_eq_true,Bool.and_self,Bool.not_true,cond_false]
    rw [chk_true (by unfold inR; omega)]
    have ih:=sameE_l1 l hl m (i+1) (by omega) (by omega)
    rw [show (((i+1:Nat)):Int)=(i:Int)+1 by omega] at ih
    exact ih
  · rw [decide_eq_false (by omega),cond_false]
    rfl
theorem sameE_ok {l:List EventS} (hl:l.length≤1000000):sameES l l=some true:=by
 unfold sameES
 rw [decide_eq_true rfl,Bool.not_true,cond_false]
 exact sameE_l1 l hl (l.length+1) 0 (by omega) (by omega)
theorem trev_eq {l:List EventS} (h:l.length≤1000000):trevS ⟨l⟩=some l:=by
 unfold trevS cloneES
 rw [chk_true (by show l.length≤_; omega)]
 rfl
theorem topBegins_pure {s:SetupS} (hs:SOk s) {l:List ChoiceS} (hl:∀ x∈l,ChOk x) {cut:Int} (hcut:in64 cut):topBeginsS s l cut=some true:=by
 obtain ⟨g,hc,hg,hini,hn4,hl4,hw2⟩:=conf_ok hs
 obtain ⟨ps,p1,p2,p3⟩:=pprog_ok (most:=16) hg hs hc (by omega)
 have hp:PsOk g ps:=⟨p2,fun l hl=>by have:=(p3 l hl).1; omega,fun l hl=>(p3 l hl).2⟩
 obtain ⟨rm,hr⟩:=r17new_ok hg hp
 have p1':pprogS s 16=some ps:=p1
 have hb:bothS s 16=some (some (conc g (st0 g hg ps)),some rm,ps):=by
  unfold bothS
  rw [hc,Option.bind_some,p1',Option.bind_some,hr,Option.bind_some,new_eq hg hp,Option.bind_some]
  simp only [Bool.not_true,cond_false,decide_true,optM]
 have K:Keep g (opsL ps) (mem0 g) fun _=>True:=fun _ _ _ _ _ _ _ _=>trivial
 obtain ⟨s1,mem1,e1,I1,-,-,-⟩:=run_ok hg hp.pok K hl (most:=100) (by omega) (inv0 hg hp hini) trivial
 obtain ⟨s2,mem2,e2,I2,-,⟨ex,hex⟩,-⟩:=run_ok hg hp.pok K hl (most:=40) (by omega) I1 trivial
 have ht1:=I1.trLen hg hp.pok
 have ht2:=I2.trLen hg hp.pok
 have hlen2:s2.tr.length=s1.tr.length+ex.length:=by rw [hex,List.length_append]
 obtain ⟨b,w1,-,w2⟩:=within_ok (n:=(s1.tr.length:Int)+1) hcut (by omega)
 obtain ⟨b0,b1,-⟩:=w2 (by omega)
 unfold topBeginsS
 rw [hb,Option.bind_some]
 simp only [optM]
 rw [e1,Option.bind_some,show trevS (conc g s1).trace=some s1.tr from trev_eq (by omega),Option.bind_some]
 dsimp only [letP]
 rw [wr_in (by omega) (by omega),w1,Option.bind_some,chk_true (by omega),e2,Option.bind_some,show trevS (conc g s2).trace=some s2.tr from trev_eq (by omega),Option.bind_some,decide_eq_true (by omega),cond_true,chk_true (by omega)]
 have ht:∀ t:List EventS,(t.drop (0:Int).toNat).take (b.toNat - (0:Int).toNat)=t.take b.toNat:=fun t=>rfl
 have hsame:s2.tr.take b.toNat=s1.tr.take b.toNat:=by
  rw [hex,List.take_append_of_le_length (by omega)]
 rw [ht,ht,hsame,sameE_ok (by have:=List.length_take_le b.toNat s1.tr; have:=List.length_take_le' b.toNat s1.tr; omega),Option.bind_some,cond_true,conf_eq hg,Option.bind_some]
 obtain ⟨sn1,r1,-⟩:=I1.rp
 obtain ⟨sn2,r2,-⟩:=I2.rp
 obtain ⟨u,hu⟩:=replay_take r1 b.toNat
 have hl1:(s1.tr.take b.toNat).length≤1000000:=by have:=List.length_take_le' b.toNat s1.tr; omega
 have g1:alegS g ps (s1.tr.take b.toNat)=some true:=legal_ok hg hp hl1 hu
 have g2:alegS g ps s2.tr=some true:=legal_ok hg hp (by omega) r2
 rw [g1,Option.bind_some,cond_true,Option.bind_some,g2,Option.bind_some,cond_true,wakes_true]
 rfl
end
section
open Go Go.RowKit Go.ChangeShapes
theorem Sat.came {W:World}:∀ {As:List Asn},(∀ A∈As,A.holds (fun _=>False) (fun b=>b<W.heap.size) (fun b=>W.heap[b]?))→Sat W As W:=by
 intro As h
 refine ⟨fun _=>False,fun b=>b<W.heap.size,?_,fun _ h=>h.elim,fun _ h=>h.elim,fun _ h=>h,fun _ h=>h,Below.refl _ _⟩
 induction As with
 |nil=>trivial
 |cons A As ih=>exact ⟨fun _=>False,fun _=>False,fun _ h=>h.elim,fun _ h=>h.elim,fun _ h=>h.elim,h A (by simp),ih fun B hB=>h B (by simp [hB])⟩
theorem walk_of {P:Program} {f:FuncId} {args:List Value} {As:List Asn} {post:Bool→Unit→Rs} {w:World} (hs:Sat w As w) (h:FnY P f args ⟨[],As⟩ (Z:=Unit) (fun y _=>.bool y) post true):Calls P f args.toArray w fun e w'=>e=.returned (.bool true)∧RowKit.Below w.heap.size w w':=by
 have hp:Sat w ((⟨[],As⟩:Rs).all []) w:=by
  have:(⟨[],As⟩:Rs).all []=As:=by simp [Rs.all,owns]
  rw [this]; exact hs
 exact (h w [] w hp).mono fun _ _ ⟨_,_,h1,⟨_,h2,_⟩,h3⟩=>⟨by rw [h1,h2],h3.below⟩
theorem wf_u16 {n:Int} (h:(Lit.int .u16 n).wf=true):0≤n∧n<65536:=by
 have h1:(decide (IntKind.u16.min≤n) && decide (n≤IntKind.u16.max))=true:=h
 rw [Bool.and_eq_true] at h1
 have a:=of_decide_eq_true h1.1
 have b:=of_decide_eq_true h1.2
 have e1:IntKind.u16.min=0:=rfl
 have e2:IntKind.u16.max=65535:=rfl
 rw [e1] at a
 rw [e2] at b
 exact ⟨a,by omega⟩
def IntsIn (W:World) (a:Option Addr) (len cap:Nat) (zs:List Int):Prop:=len=zs.length∧len≤cap∧cap≤9223372036854775807∧(∀ i,i<zs.length→∃ x,a=some x∧W.cell? (x.add i)=some (.int .i64 (zs.getD i 0)))∧∀ n∈zs,-9223372036854775808≤n∧n≤9223372036854775807
theorem IntsIn.none {W:World}:IntsIn W none 0 0 []:=⟨rfl,Nat.le_refl _,by omega,fun i h=>by simp at h,by simp⟩
theorem IntsIn.some {W:World} {x:Addr} {l c:Nat} {zs:List Int} (hl:l≤c) (hm:c≤9223372036854775807) (hz:zs.length=c) (hcell:∀ i,i<zs.length→W.cell? (x.add i)=.some (.int .i64 (zs.getD i 0))) (hwz:∀ n∈zs,(Lit.int .i64 n).wf=true) :
 IntsIn W (.some x) l c (zs.take l):=by
 refine ⟨by simp; omega,hl,hm,fun i hi=>⟨x,rfl,?_⟩,fun n hn=>bounds_i64 (hwz n (List.mem_of_mem_take hn))⟩
 rw [List.length_take] at hi
 rw [hcell i (by omega)]
 rw [List.getD_eq_getElem?_getD,List.getD_eq_getElem?_getD,List.getElem?_take_of_lt (by omega)]
theorem cell_block {W:World} {x:Addr} {v:Value} (h:W.cell? (x.add 0)=some v):∃ c T fr,x=⟨x.block,x.off,none⟩∧W.heap[x.block]?=some (.cells c T fr)∧x.block<W.heap.size:=by
 have h0:x.add 0=x:=by simp [Addr.add]
 rw [h0] at h
 unfold World.cell? at h
 cases ho:W.heap[x.block]? with
 |none=>rw [ho] at h; cases h
 |some o =>
  rw [ho] at h
  cases o with
  |cells c T fr =>
   simp only at h
   cases hs:x.spot with
   |some s=>rw [hs] at h; cases h
   |none =>
    refine ⟨c,T,fr,?_,rfl,(Array.getElem?_eq_some_iff.1 ho).1⟩
    cases x with
    |mk b o s=>cases hs; rfl
  |_=>cases h
theorem IntsIn.imm {W:World} {a:Option Addr} {len cap:Nat} {zs:List Int} (h:IntsIn W a len cap zs):(ImmA a cap zs).holds (fun _=>False) (fun b=>b<W.heap.size) (fun b=>W.heap[b]?):=by
 obtain ⟨rfl,h1,_,h2,_⟩:=h
 refine ⟨h1,List.replicate zs.length (),by simp,⟨rowsOf_k,?_⟩,fun i a x e1 e2=>trivial⟩
 cases zs with
 |nil=>exact .inl rfl
 |cons z zs =>
  obtain ⟨x,rfl,hx⟩:=h2 0 (by simp)
  obtain ⟨c,T,fr,e1,e2,e4⟩:=cell_block hx
  refine .inr ⟨x.block,x.off,c,T,fr,by rw [← e1],e4,e2,fun j v hj=>?_⟩
  have hrows:(rowsOf (z::zs) (List.replicate (z::zs).length ())).flatten=(z::zs).map (Value.int .i64):=by
   have:∀ l:List Int,(rowsOf l (List.replicate l.length ())).flatten=l.map (Value.int .i64):=by
    intro l
    induction l with
    |nil=>rfl
    |cons y l ih =>
     show ([Value.int .i64 y]::rowsOf l (List.replicate l.length ())).flatten=_
     rw [List.flatten_cons,ih]
     rfl
   exact this _
  rw [hrows,List.getElem?_map] at hj
  cases hy:(z::zs)[j]? with
  |none=>rw [hy] at hj; cases hj
  |some y =>
   rw [hy] at hj
   obtain rfl:=Option.some.inj hj
   have hjl:j<(z::zs).length:=(List.getElem?_eq_some_iff.1 hy).1
   obtain ⟨x',hx',hc⟩:=h2 j hjl
   obtain rfl:=Option.some.inj hx'
   rw [e1,add_none,cell_of e2,List.getD_eq_getElem?_getD,hy] at hc
   exact hc
end
section
open Go Go.RowKit Go.ChangeShapes
def Match (cs:Array Value):Nat→List Value→Prop
 |_,[]=>True
 |k,y::ys=>cs[k]?=.some y∧Match cs (k+1) ys
theorem match_drop {cs:Array Value}:∀ {ys:List Value} {k:Nat},Match cs k ys→cs.size=k+ys.length→cs.toList.drop k=ys
 |[],k,_,hs=>by
  apply List.drop_eq_nil_of_le
  simp at hs ⊢; omega
 |y::ys,k,⟨h1,h2⟩,hs=>by
  have ih:=match_drop h2 (by simp at hs ⊢; omega)
  have hk:k<cs.toList.length:=by simp at hs ⊢; omega
  rw [List.drop_eq_getElem_cons hk,ih]
  congr 1
  have:cs.toList[k]?=.some y:=by simpa using h1
  rw [List.getElem?_eq_getElem hk] at this
  exact Option.some.inj this
theorem match_all {cs:Array Value} {ys:List Value} (h:Match cs 0 ys) (hs:cs.size=ys.length):cs=ys.toArray:=by
 have:=match_drop h (by simpa using hs)
 apply Array.ext'
 simpa using this
section
variable {H:Type} {enc:TypeId×Value→H} {P:Program} {W:World} {cs:Array Value} {n:Nat} {fs:Array Field} {xs:List (DataW H×List MemPlace)}
theorem one_of {c:Value} {o:Nat} (h:(cs.toList.drop o).take 1=[c]):cs[o]?=.some c:=by
 have h1:((cs.toList.drop o).take 1)[0]?=.some c:=by rw [h]; rfl
 rw [List.getElem?_take_of_lt (by omega),List.getElem?_drop] at h1
 simpa using h1
def FieldsOk (enc:TypeId×Value→H) (P:Program) (W:World) (n:Nat) (cs:Array Value) (fs:Array Field):Prop :=
 ∀ (i:Nat) (f:Field),fs[i]?=.some f→∃ y,DataW.trod enc P W 0 (fun _=>true) true n f.type ((cs.toList.drop f.offset).take (P.cellsOf f.type))=.some y
theorem fields_ok (hl:xs.length=fs.size) (h:∀ (i:Nat) (f:Field),fs[i]?=.some f→DataW.trod enc P W 0 (fun _=>true) true n f.type ((cs.toList.drop f.offset).take (P.cellsOf f.type))=xs[i]?):FieldsOk enc P W n cs fs:=by
 intro i f hf
 have hi:i<fs.size:=(Array.getElem?_eq_some_iff.1 hf).1
 exact ⟨xs[i],by rw [h i f hf,List.getElem?_eq_getElem (by omega)]⟩
theorem in_int (h:FieldsOk enc P W n cs fs) (i:Nat) (f:Field) (hf:fs[i]?=.some f) (ht:P.underlying f.type=.some (.int .i64)) (hc:P.cellsOf f.type=1):∃ z,cs[f.offset]?=.some (.int .i64 z)∧-9223372036854775808≤z∧z≤9223372036854775807:=by
 obtain ⟨y,hy⟩:=h i f hf
 rw [hc] at hy
 obtain ⟨z,h1,_,h3⟩:=DataW.trod_int ht hy
 exact ⟨z,one_of h1,bounds_i64 h3⟩
theorem in_u16 (h:FieldsOk enc P W n cs fs) (i:Nat) (f:Field) (hf:fs[i]?=.some f) (ht:P.underlying f.type=.some (.int .u16)) (hc:P.cellsOf f.type=1):∃ z,cs[f.offset]?=.some (.int .u16 z)∧0≤z∧z<65536:=by
 obtain ⟨y,hy⟩:=h i f hf
 rw [hc] at hy
 obtain ⟨z,h1,_,h3⟩:=DataW.trod_int ht hy
 exact ⟨z,one_of h1,wf_u16 h3⟩
theorem ints_in {t e:TypeId} {fuel:Nat} {l:List Value} {x:DataW H×List MemPlace} (ht:P.underlying t=.some (.slice e)) (he:P.underlying e=.some (.int .i64)) (hc:P.cellsOf e=1) (h:DataW.trod enc P W 0 (fun _=>true) true fuel t l=.some x) :
 ∃ a len cap zs,l=[.slice a len cap]∧IntsIn W a len cap zs:=by
 rcases open_ints ht he hc h with ⟨hcs,_⟩ | ⟨x,l,c,zs,hcs,_,hl,hm,hz,_,hcell,hwz⟩
 · exact ⟨_,_,_,[],hcs,IntsIn.none⟩
 · exact ⟨_,_,_,_,hcs,IntsIn.some hl hm (by simpa using hz) hcell hwz⟩
theorem in_ints (h:FieldsOk enc P W n cs fs) (i:Nat) (f:Field) {e:TypeId} (hf:fs[i]?=.some f) (ht:P.underlying f.type=.some (.slice e)) (he:P.underlying e=.some (.int .i64)) (hc:P.cellsOf e=1) (hc2:P.cellsOf f.type=1) :
 ∃ a len cap zs,cs[f.offset]?=.some (.slice a len cap)∧IntsIn W a len cap zs:=by
 obtain ⟨y,hy⟩:=h i f hf
 rw [hc2] at hy
 obtain ⟨a,len,cap,zs,h1,h2⟩:=ints_in ht he hc hy
 exact ⟨a,len,cap,zs,one_of h1,h2⟩
end
theorem add_add (x:Addr) (i j:Nat):(x.add i).add j=x.add (i+j):=by
 unfold Addr.add
 cases i with
 |zero=>simp
 |succ i =>
  cases j with
  |zero=>simp
  |succ j=>simp [Nat.add_assoc]
def RowsIn (W:World) (k:Nat) (a:Option Addr) (len cap:Nat) (rows:List (List Value)):Prop:=len=rows.length∧len≤cap∧cap≤9223372036854775807∧(∀ j v,rows.flatten[j]?=some v→∃ x,a=some x∧W.cell? (x.add j)=some v)∧∀ r∈rows,r.length=k
theorem rows_in {H:Type} {enc:TypeId×Value→H} {P:Program} {W:World} {t e:TypeId} {fuel:Nat} {l:List Value} {x:DataW H×List MemPlace} (ht:P.underlying t=.some (.slice e)) (Q:List Value→Prop)
 (hel:∀ (fuel:Nat) (cs:List Value) (y:DataW H×List MemPlace),cs.length=P.cellsOf e→DataW.trod enc P W 0 (fun _=>true) true fuel e cs=.some y→Q cs)
 (h:DataW.trod enc P W 0 (fun _=>true) true fuel t l=.some x):∃ a len cap rows,l=[.slice a len cap]∧RowsIn W (P.cellsOf e) a len cap rows∧∀ r∈rows,Q r:=by
 rcases DataW.trod_slice ht h with ⟨rfl,_⟩ | ⟨a,len,cap,elems,rest,n,_,rfl,_,hb,hl,hm,hlen,hel2,_,_⟩
 · exact ⟨none,0,0,[],rfl,⟨rfl,Nat.le_refl _,by omega,fun j v h=>by simp at h,by simp⟩,by simp⟩
 have each:∀ i,i<len→∃ cs y,W.cells? 0 (a.add (i*P.cellsOf e)) (P.cellsOf e)=.some cs∧DataW.trod enc P W 0 (fun _=>true) true n e cs=.some y:=by
  intro i hi
  have h1:=hel2 i hi
  rw [List.getElem?_eq_getElem (by omega),Option.bind_eq_some_iff] at h1
  obtain ⟨cs,h2,h3⟩:=h1
  exact ⟨cs,_,h2,h3⟩
 let rows:=(List.range len).map fun i=>(W.cells? 0 (a.add (i*P.cellsOf e)) (P.cellsOf e)).getD []
 have hrow:∀ r∈rows,∃ i cs y,i<len∧r=cs∧W.cells? 0 (a.add (i*P.cellsOf e)) (P.cellsOf e)=.some cs∧DataW.trod enc P W 0 (fun _=>true) true n e cs=.some y:=by
  intro r hr
  obtain ⟨i,hi,rfl⟩:=List.mem_map.1 hr
  have hi':=List.mem_range.1 hi
  obtain ⟨cs,y,h1,h2⟩:=each i hi'
  exact ⟨i,cs,y,hi',by rw [h1]; rfl,h1,h2⟩
 have hk:∀ r∈rows,r.length=P.cellsOf e:=by
  intro r hr
  obtain ⟨i,cs,y,_,rfl,h1,_⟩:=hrow r hr
  exact (World.cells?_some h1).2.1
 refine ⟨.some a,len,cap,rows,rfl,⟨by simp [rows],hl,hm,fun j v hj=>⟨a,rfl,?_⟩,hk⟩,?_⟩
 · obtain ⟨i,q,row,h1,h2,rfl,h4⟩:=flatten_at hk hj
   have hi:i<len:=by
    have:=(List.getElem?_eq_some_iff.1 h1).1
    simpa [rows] using this
   obtain ⟨cs,y,g1,g2⟩:=each i hi
   have e1:row=cs:=by
    have:rows[i]?=.some cs:=by simp [rows,hi,g1]
    rw [this] at h1
    exact (Option.some.inj h1).symm
   subst e1
   have g3:=(World.cells?_some g1).2.2 q h4
   rw [add_add,h2] at g3
   exact g3
 · intro r hr
   obtain ⟨i,cs,y,_,rfl,h1,h2⟩:=hrow r hr
   exact hel n r y (World.cells?_some h1).2.1 h2
theorem list_of {β:Type} {f:β→List Value}:∀ {rows:List (List Value)} {p:β→Prop},(∀ r∈rows,∃ x,p x∧r=f x)→∃ l:List β,rows=l.map f∧∀ x∈l,p x
 |[],_,_=>⟨[],rfl,by simp⟩
 |r::rows,p,h=>by
  obtain ⟨x,hx,rfl⟩:=h r (List.mem_cons_self ..)
  obtain ⟨l,hl,hp⟩:=list_of (fun r hr=>h r (List.mem_cons_of_mem _ hr))
  exact ⟨x::l,by rw [hl]; rfl,by intro y hy; rcases List.mem_cons.1 hy with rfl | hy; exact hx; exact hp y hy⟩
theorem RowsIn.imm {α:Type} [Rw α] {W:World} {a:Option Addr} {len cap:Nat} {zs:List α} {xs:List (Rw.X α)} (h:RowsIn W (Rw.k α) a len cap (rowsOf zs xs)) (hx:xs.length=zs.length) (h4:0<Rw.k α) (hk:∀ (i:Nat) (z:α) (x:Rw.X α),zs[i]?=some z→xs[i]?=some x→(Rw.asn z x).holds (fun _=>False) (fun b=>b<W.heap.size) (fun b=>W.heap[b]?)):(ImmA a cap zs).holds (fun _=>False) (fun b=>b<W.heap.size) (fun b=>W.heap[b]?):=by
 obtain ⟨h0,h1,_,h2,h3⟩:=h
 rw [rowsOf_len hx] at h0
 refine ⟨by omega,xs,hx,⟨h3,?_⟩,hk⟩
 cases hz:(rowsOf zs xs) with
 |nil=>exact .inl rfl
 |cons r rs =>
  right
  have hr:=h3 r (by rw [hz]; simp)
  cases r with
  |nil=>exact absurd hr.symm (Nat.pos_iff_ne_zero.1 h4)
  |cons v vs =>
   obtain ⟨x,rfl,hx⟩:=h2 0 v (by rw [hz]; rfl)
   obtain ⟨c,T,fr,e1,e2,e4⟩:=cell_block hx
   refine ⟨x.block,x.off,c,T,fr,by rw [← e1],e4,e2,fun j u hj=>?_⟩
   rw [← hz] at hj
   obtain ⟨x',hx',hc⟩:=h2 j u hj
   obtain rfl:=Option.some.inj hx'
   rw [e1,add_none,cell_of e2] at hc
   exact hc
theorem rowsC:∀ l:List ChoiceS,rowsOf l (List.replicate l.length ())=l.map fun x=>Rw.cells x ()
 |[]=>rfl
 |x::l=>by
  have ih:=rowsC l
  show Rw.cells x ()::rowsOf l (List.replicate l.length ())=_
  rw [ih]
  rfl
def ChIn (W:World) (a:Option Addr) (len cap:Nat) (zs:List ChoiceS):Prop:=RowsIn W (Rw.k ChoiceS) a len cap (rowsOf zs (List.replicate zs.length ()))∧∀ x∈zs,ChOk x
theorem ChIn.len {W:World} {a:Option Addr} {len cap:Nat} {zs:List ChoiceS} (h:ChIn W a len cap zs):len=zs.length:=by rw [h.1.1,rowsOf_len (by simp)]
theorem ChIn.imm {W:World} {a:Option Addr} {len cap:Nat} {zs:List ChoiceS} (h:ChIn W a len cap zs):(ImmA a cap zs).holds (fun _=>False) (fun b=>b<W.heap.size) (fun b=>W.heap[b]?) :=
 h.1.imm (by simp) (show 0<4 by omega) fun _ _ _ _ _=>trivial
theorem ChIn.mk {W:World} {a:Option Addr} {len cap:Nat} {rows:List (List Value)} (h:RowsIn W (Rw.k ChoiceS) a len cap rows) (hq:∀ r∈rows,∃ x:ChoiceS,ChOk x∧r=Rw.cells x ()):∃ zs,ChIn W a len cap zs:=by
 obtain ⟨l,rfl,hl⟩:=list_of hq
 exact ⟨l,by rw [rowsC]; exact h,hl⟩
end
end Go.Proofs.YtcidmgkfaioceaaGreat
