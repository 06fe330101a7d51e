/- Walks of the program's functions, and the plain laws of what they compute (part 10): TFlush, T9, QF, InX, InY.
   Conditions: none. -/
import Derived.OpenShut
import Derived.ChangeArms
import Derived.ChangeSlices
import Derived.Test.YtcidmgkfaioceaaGreatMFlush9
set_option linter.unusedVariables false
set_option linter.unusedSimpArgs false
set_option linter.unusedSectionVars false
set_option maxRecDepth 100000
set_option maxHeartbeats 4000000
namespace Go.Proofs.YtcidmgkfaioceaaGreat
section
open Go Go.RowKit
def topFlushS_j1:Option (Bool) :=
 (twakesS).bind fun y26_0=>some y26_0
def topFlushS_j3 (v2_14:Int) (r2:Int→Option (Bool)) (e3_135:Bool):Option (Bool) :=
 (bif e3_135 then some false else chk (inR (v2_14+(1:Int))) (r2 (v2_14+(1:Int))))
def topFlushS_l2 (y1_1:CfgS) (y15_3:Bool×MachS) (y17_7:List Int) (k1:Option (Bool)):Nat→Int→Option (Bool)
 |0,_=>none
 |m+1,v2_14=>(bif decide (v2_14<y1_1.lines) then chk (1≤y1_1.nodes) ((mnodeS y15_3.2 (v2_14.tmod y1_1.nodes)).bind fun y23_5=>(optM y23_5 (fun k23_5=>chk (0≤k23_5∧k23_5<(y15_3.2.nodes.length:Int)) ((nrowS (nthS y15_3.2.nodes k23_5) v2_14).bind fun y23_7=>(bif !y23_7.2 then (topFlushS_j3 v2_14 (topFlushS_l2 y1_1 y15_3 y17_7 k1 m)) true else (wcopS y15_3.2 v2_14).bind fun y24_5=>(bif !(decide ((y24_5.length:Int)=(0:Int))) then (topFlushS_j3 v2_14 (topFlushS_l2 y1_1 y15_3 y17_7 k1 m)) true else (bif !(decide (y23_7.1.state=(0:Int))) then (topFlushS_j3 v2_14 (topFlushS_l2 y1_1 y15_3 y17_7 k1 m)) true else (bif !(decide (y23_7.1.head=((-1):Int))) then (topFlushS_j3 v2_14 (topFlushS_l2 y1_1 y15_3 y17_7 k1 m)) true else chk (inR (v2_14+(1:Int))) (chk (0≤(wr (v2_14*y1_1.words))∧(wr (v2_14*y1_1.words))≤(wr ((v2_14+(1:Int))*y1_1.words))∧(wr ((v2_14+(1:Int))*y1_1.words))≤(y17_7.length:Int)) (letP ((y17_7.drop ((wr (v2_14*y1_1.words))).toNat).take (((wr ((v2_14+(1:Int))*y1_1.words))).toNat - ((wr (v2_14*y1_1.words))).toNat)) fun l24_32=>(sameS y23_7.1.data l24_32).bind fun y24_33=>(topFlushS_j3 v2_14 (topFlushS_l2 y1_1 y15_3 y17_7 k1 m)) !y24_33)))))))) (none))) else k1)
def topFlushS_j0 (y1_1:CfgS) (l:List ChoiceS) (firsts:List Int) (e0_8x:List (List OpS)):Option (Bool) :=
 (mnewmS y1_1 e0_8x).bind fun y11_2=>(bif !(decide (y11_2.2=(0:Int))) then some false else (optM y11_2.1 (fun n12_3_1=>(trunS n12_3_1 l (60:Int)).bind fun y14_2=>(tendS y14_2 e0_8x firsts).bind fun y15_3=>(bif !y15_3.1 then some false else (trevS y15_3.2.trace).bind fun y17_6=>(aaftS y1_1 e0_8x y17_6).bind fun y17_7=>(bif !(decide ((y17_7.length:Int)=(wr (y1_1.lines*y1_1.words)))) then some false else topFlushS_l2 y1_1 y15_3 y17_7 topFlushS_j1 64 (0:Int)))) (some false)))
def topFlushS_j5 (v4_23:Int) (r4:(List (List OpS))→Int→Int→Option (Bool)) (v4_22:Int) (e5_8x:List (List OpS)):Option (Bool) :=
 chk (inR (v4_23+(1:Int))) (r4 e5_8x v4_22 (v4_23+(1:Int)))
def topFlushS_l6 (y1_1:CfgS) (v4_23:Int) (k5:(List (List OpS))→Option (Bool)):Nat→(List (List OpS))→Int→Option (Bool)
 |0,_,_=>none
 |m+1,v6_8x,v6_10=>(bif decide (v6_10<y1_1.lines) then chk (0≤v4_23∧v4_23<(v6_8x.length:Int)) (chk (((nthR v6_8x v4_23)++([(⟨(4:Int),wr (v6_10*y1_1.words),(0:Int)⟩:OpS)])).length≤1099511627776) (letP ((nthR v6_8x v4_23)++([(⟨(4:Int),wr (v6_10*y1_1.words),(0:Int)⟩:OpS)])) fun l9_12=>chk (0≤v4_23∧v4_23<(v6_8x.length:Int)) (letP (setR v6_8x v4_23 l9_12) fun l9_14=>chk (inR (v6_10+(1:Int))) ((topFlushS_l6 y1_1 v4_23 k5 m) l9_14 (v6_10+(1:Int)))))) else k5 v6_8x)
def topFlushS_l4 (y1_1:CfgS) (k0:(List (List OpS))→Option (Bool)):Nat→(List (List OpS))→Int→Int→Option (Bool)
 |0,_,_,_=>none
 |m+1,v4_8x,v4_22,v4_23=>(bif decide (v4_23<v4_22) then topFlushS_l6 y1_1 v4_23 (topFlushS_j5 v4_23 (topFlushS_l4 y1_1 k0 m) v4_22) 64 v4_8x (0:Int) else k0 v4_8x)
def topFlushS (s:SetupS) (l:List ChoiceS) (firsts:List Int):Option (Bool) :=
 (pconfS s).bind fun y1_1=>(pprogOS s (14:Int)).bind fun y2_1=>topFlushS_l4 y1_1 (topFlushS_j0 y1_1 l firsts) 64 y2_1 (y2_1.length:Int) (0:Int)
theorem topFlushF {s:SetupS} {s0A:Asn} {s1A:Asn} {s2A:Asn} {s3A:Asn} {s4A:Asn} {l:List ChoiceS} {lA:Asn} {firsts:List Int} {firstsA:Asn} (s0a:Option Addr) (s0c:Nat) (s1a:Option Addr) (s1c:Nat) (s2a:Option Addr) (s2c:Nat) (s3a:Option Addr) (s3c:Nat) (s4a:Option Addr) (s4c:Nat) (la:Option Addr) (lc:Nat) (firstsa:Option Addr) (firstsc:Nat) (hs0A:Rdb s0A s0a s0c s.init) (hs1A:Rdb s1A s1a s1c s.who) (hs2A:Rdb s2A s2a s2c s.kinds) (hs3A:Rdb s3A s3a s3c s.addrs) (hs4A:Rdb s4A s4a s4c s.values) (hlA:Rdb lA la lc l) (hfirstsA:Rdb firstsA firstsa firstsc firsts) {y:Bool} (H:topFlushS s l firsts=some y):FnY Tryz.prog 6 [.agg #[.int .i64 s.nodes,.int .i64 s.lines,.int .i64 s.words,.int .i64 s.sets,.int .i64 s.ways,.int .i64 s.out,.int .i64 s.inn,.slice s0a s.init.length s0c,.slice s1a s.who.length s1c,.slice s2a s.kinds.length s2c,.slice s3a s.addrs.length s3c,.slice s4a s.values.length s4c],.slice la l.length lc,.slice firstsa firsts.length firstsc] ⟨[],[s0A,s1A,s2A,s3A,s4A,lA,firstsA]⟩ (Z:=Unit) (fun y _=>.bool y) (fun y _=>⟨[],[s0A,s1A,s2A,s3A,s4A,lA,firstsA]⟩) y:=by
 unfold topFlushS at H
 refine xfY Tryz.func6 fun W0 F=>?_
 refine xn [] fun b0_0=>?_
 refine bindG H fun y1_1 hy1_1 H=>?_
 refine xc [0] [] [0,0,0,0,0] (pconfF s0a s0c s1a s1c s2a s2c s3a s3c s4a s4c hs0A hs1A hs2A hs3A hs4A hy1_1) fun ⟨t1_1_a0,t1_1_c0⟩=>?_
 refine xn [] fun b1_2=>?_
 refine bindG H fun y2_1 hy2_1 H=>?_
 refine xc [0,1] [] [1,1,1,1,1] (pprogOF s0a s0c s1a s1c s2a s2c s3a s3c s4a s4c hs0A hs1A hs2A hs3A hs4A hy2_1) fun ⟨t2_1_a0,t2_1_c0⟩=>?_
 refine xj [100] (ι:=List (List OpS)×Option Addr×Nat) (fun (e0_8x,e0_8a,e0_8c)=>⟨[(1,.slice la l.length lc),(2,.slice firstsa firsts.length firstsc),(7,.pointer (some ⟨b1_2,0,none⟩)),(8,.slice e0_8a e0_8x.length e0_8c)],[⟨b1_2,#[.int .i64 y1_1.nodes,.int .i64 y1_1.lines,.int .i64 y1_1.words,.int .i64 y1_1.sets,.int .i64 y1_1.ways,.int .i64 y1_1.out,.int .i64 y1_1.inn,.slice t1_1_a0 y1_1.init.length t1_1_c0],25⟩],[(ArrO e0_8a e0_8c e0_8x),s0A,s1A,s2A,s3A,s4A,(ArrA t1_1_a0 t1_1_c0 y1_1.init),lA,firstsA]⟩) (fun (e0_8x,e0_8a,e0_8c)=>topFlushS_j0 y1_1 l firsts e0_8x=some y) ?_ ?_
 · rintro ⟨e0_8x,e0_8a,e0_8c⟩ H
   replace H:topFlushS_j0 y1_1 l firsts e0_8x=some y:=H
   rw [topFlushS_j0] at H
   refine xg [0] [] [6] (gh_frz t1_1_a0 t1_1_c0 y1_1.init) fun _=>?_
   refine xg [] [] [0] (gh_dup t1_1_a0 t1_1_c0 y1_1.init) fun _=>?_
   refine xg [] [] [2] (gh_frzO e0_8a e0_8c e0_8x) fun _=>?_
   refine bindG H fun y11_2 hy11_2 H=>?_
   refine xc [] [] [1,0] (mnewmF t1_1_a0 t1_1_c0 e0_8a e0_8c (rA e0_8a e0_8c e0_8x) hy11_2) fun t11_2_b0=>?_
   refine xs [] H ?_ ?_
   · intro H
     exact xrY (someE H) [0,0,1,1] [] [] [3,3,3,3,3,3,3] ()
   · intro H
     refine optG H (fun hn12_3_1 H=>?_) fun n12_3_1 hn12_3_1 H=>?_
     · refine xw [1,300] 11 (optV_n t11_2_b0 hn12_3_1) ?_
       refine xw [300] 56 (optV_n t11_2_b0 hn12_3_1) ?_
       exact xrY (someE H) [1,0,1] [] [] [3,3,3,3,3,3,3] ()
     · refine xw [1,300] 11 (optV_s t11_2_b0 hn12_3_1) ?_
       refine xw [300] 56 (optV_s t11_2_b0 hn12_3_1) ?_
       refine xg [300] [] [0] (gh_opt (A:=MachA t11_2_b0) hn12_3_1) fun _=>?_
       refine bindG H fun y14_2 hy14_2 H=>?_
       refine xc [1,0,0] [] [0,7] (trunF t11_2_b0 la lc hlA hy14_2) fun _=>?_
       refine bindG H fun y15_3 hy15_3 H=>?_
       refine xc [] [] [0,1,7] (tendF t11_2_b0 e0_8a e0_8c firstsa firstsc (rA e0_8a e0_8c e0_8x) hfirstsA hy15_3) fun _=>?_
       refine xs [] H ?_ ?_
       · intro H
         exact xrY (someE H) [1] [] [] [5,5,5,5,5,3,2] ()
       · intro H
         refine xg [0,0,0,1,2,3,4,5] [] [0] (gh_open (MachO t11_2_b0 y15_3.2)) fun ⟨b_fab2,b_trace3,a_c_init4,c_c_init5,a_nodes6,c_nodes7,r_nodes8⟩=>?_
         refine xg [0,6] [] [1] (gh_open (TraceO b_trace3 y15_3.2.trace)) fun ⟨a_l9,c_l10⟩=>?_
         refine bindG H fun y17_6 hy17_6 H=>?_
         refine xc [] [0] [0] (trevF b_trace3 a_l9 c_l10 hy17_6) fun ⟨t17_6_a0,t17_6_c0⟩=>?_
         refine xg [7] [] [9] (gh_dup t1_1_a0 t1_1_c0 y1_1.init) fun _=>?_
         refine bindG H fun y17_7 hy17_7 H=>?_
         refine xc [] [] [0,7,1] (aaftF t1_1_a0 t1_1_c0 e0_8a e0_8c t17_6_a0 t17_6_c0 (rA e0_8a e0_8c e0_8x) (rA t17_6_a0 t17_6_c0 y17_6) hy17_7) fun ⟨t17_7_a0,t17_7_c0⟩=>?_
         refine xs [8,2,2,1] H ?_ ?_
         · intro H
           exact xrY (someE H) [1] [] [] [11,11,11,11,11,10,9] ()
         · intro H
           refine xj [0,100] (ι:=Unit) (fun _=>⟨[],[⟨t11_2_b0,#[.pointer (some ⟨b_fab2,0,none⟩),.pointer (some ⟨b_trace3,0,none⟩),.int .i64 y15_3.2.c.nodes,.int .i64 y15_3.2.c.lines,.int .i64 y15_3.2.c.words,.int .i64 y15_3.2.c.sets,.int .i64 y15_3.2.c.ways,.int .i64 y15_3.2.c.out,.int .i64 y15_3.2.c.inn,.slice a_c_init4 y15_3.2.c.init.length c_c_init5,.slice a_nodes6 r_nodes8.length c_nodes7],70⟩],[(TraceA b_trace3 y15_3.2.trace),(FabA b_fab2 y15_3.2.fab),(ImmA a_c_init4 c_c_init5 y15_3.2.c.init),(ArrA a_nodes6 c_nodes7 r_nodes8),(StA y15_3.2.nodes r_nodes8),firstsA,lA,s0A,s1A,s2A,s3A,s4A]⟩) (fun _=>topFlushS_j1=some y) ?_ ?_
           · rintro _ H
             replace H:topFlushS_j1=some y:=H
             rw [topFlushS_j1] at H
             refine bindG H fun y26_0 hy26_0 H=>?_
             refine xc [] [] [] (twakesF hy26_0) fun _=>?_
             exact xrY (someE H) [] [] [] [7,7,7,7,7,6,5] ()
           · intro N1 hN1
             refine xg [] [0] [4] (gh_shut (TraceO b_trace3 y15_3.2.trace) (a_l9,c_l10)) fun _=>?_
             refine xl [] (ι:=Int) (fun v2_14=>⟨[(7,.pointer (some ⟨b1_2,0,none⟩)),(11,.pointer (some ⟨t11_2_b0,0,none⟩)),(13,.slice t17_7_a0 y17_7.length t17_7_c0),(14,.int .i64 v2_14)],[⟨t11_2_b0,#[.pointer (some ⟨b_fab2,0,none⟩),.pointer (some ⟨b_trace3,0,none⟩),.int .i64 y15_3.2.c.nodes,.int .i64 y15_3.2.c.lines,.int .i64 y15_3.2.c.words,.int .i64 y15_3.2.c.sets,.int .i64 y15_3.2.c.ways,.int .i64 y15_3.2.c.out,.int .i64 y15_3.2.c.inn,.slice a_c_init4 y15_3.2.c.init.length c_c_init5,.slice a_nodes6 r_nodes8.length c_nodes7],70⟩,⟨b1_2,#[.int .i64 y1_1.nodes,.int .i64 y1_1.lines,.int .i64 y1_1.words,.int .i64 y1_1.sets,.int .i64 y1_1.ways,.int .i64 y1_1.out,.int .i64 y1_1.inn,.slice t1_1_a0 y1_1.init.length t1_1_c0],25⟩],[(TraceA b_trace3 y15_3.2.trace),(ArrA t17_7_a0 t17_7_c0 y17_7),(ImmA t1_1_a0 t1_1_c0 y1_1.init),(FabA b_fab2 y15_3.2.fab),(ImmA a_c_init4 c_c_init5 y15_3.2.c.init),(ArrA a_nodes6 c_nodes7 r_nodes8),(StA y15_3.2.nodes r_nodes8),firstsA,lA,s0A,s1A,s2A,s3A,s4A]⟩) (fun m2 v2_14=>topFlushS_l2 y1_1 y15_3 y17_7 (topFlushS_j1) m2 v2_14=some y) [0,0] [0,0,2,2,2,2,2,2,2,2,2,2,2,2] (64) ((0:Int)) H ?_
             rintro N2 (_ | m2) v2_14 H hN2
             · exact (noneE H).elim
             replace H:topFlushS_l2 y1_1 y15_3 y17_7 (topFlushS_j1) (m2+1) v2_14=some y:=H
             rw [topFlushS_l2] at H
             refine xs [1] H ?_ ?_
             · intro H
               refine chkG H fun q23_4_1 H=>?_
               refine xp [1,1] (ov_rem (a:=v2_14) (b:=y1_1.nodes) q23_4_1) ?_
               refine bindG H fun y23_5 hy23_5 H=>?_
               refine xc [] [0] [3,0,2,2,2] (mnodeF t11_2_b0 b_fab2 b_trace3 a_c_init4 c_c_init5 a_nodes6 c_nodes7 r_nodes8 hy23_5) fun _=>?_
               refine optG H (fun hk23_5 H=>?_) fun k23_5 hk23_5 H=>?_
               · refine xw [300] 95 (v:=(nodeV r_nodes8 y23_5)) (v':=.pointer none) (by rw [hk23_5]; rfl) ?_
                 exact (noneE H).elim
               · refine xw [300] 95 (v:=(nodeV r_nodes8 y23_5)) (v':=.pointer (some ⟨(nthT r_nodes8 k23_5).b,0,none⟩)) (by rw [hk23_5]; rfl) ?_
                 refine xk [] [4] (st_len y15_3.2.nodes r_nodes8) fun hl23_7_1=>?_
                 refine chkG H fun q23_7_1 H=>?_
                 refine xg [] [] [4] (gh_sfoc y15_3.2.nodes r_nodes8 k23_5 (nthT r_nodes8 k23_5) rfl (rngB hl23_7_1 (rngE hl23_7_1 q23_7_1))) fun _=>?_
                 refine xg [] [] [0] (gh_open (NodeO (nthT r_nodes8 k23_5).b (nthS y15_3.2.nodes k23_5))) fun ⟨b_cache11,b_proc12,a_c_init13,c_c_init14,b_home15,a_deal_data16,c_deal_data17⟩=>?_
                 refine bindG H fun y23_7 hy23_7 H=>?_
                 refine xc [] [0] [0,0,0,0,0] (nrowF (nthT r_nodes8 k23_5).b b_cache11 b_proc12 a_c_init13 c_c_init14 b_home15 a_deal_data16 c_deal_data17 hy23_7) fun ⟨t23_7_a0,t23_7_c0⟩=>?_
                 refine xn [] fun b23_11=>?_
                 refine xj [0,100] (ι:=Bool) (fun e3_135=>⟨[(7,.pointer (some ⟨b1_2,0,none⟩)),(11,.pointer (some ⟨t11_2_b0,0,none⟩)),(13,.slice t17_7_a0 y17_7.length t17_7_c0),(14,.int .i64 v2_14),(135,.bool e3_135)],[⟨t11_2_b0,#[.pointer (some ⟨b_fab2,0,none⟩),.pointer (some ⟨b_trace3,0,none⟩),.int .i64 y15_3.2.c.nodes,.int .i64 y15_3.2.c.lines,.int .i64 y15_3.2.c.words,.int .i64 y15_3.2.c.sets,.int .i64 y15_3.2.c.ways,.int .i64 y15_3.2.c.out,.int .i64 y15_3.2.c.inn,.slice a_c_init4 y15_3.2.c.init.length c_c_init5,.slice a_nodes6 r_nodes8.length c_nodes7],70⟩,⟨b1_2,#[.int .i64 y1_1.nodes,.int .i64 y1_1.lines,.int .i64 y1_1.words,.int .i64 y1_1.sets,.int .i64 y1_1.ways,.int .i64 y1_1.out,.int .i64 y1_1.inn,.slice t1_1_a0 y1_1.init.length t1_1_c0],25⟩],[(StA y15_3.2.nodes r_nodes8),(FabA b_fab2 y15_3.2.fab),(TraceA b_trace3 y15_3.2.trace),(ImmA a_c_init4 c_c_init5 y15_3.2.c.init),(ArrA a_nodes6 c_nodes7 r_nodes8),(ArrA t17_7_a0 t17_7_c0 y17_7),(ImmA t1_1_a0 t1_1_c0 y1_1.init),firstsA,lA,s0A,s1A,s2A,s3A,s4A]⟩) (fun e3_135=>topFlushS_j3 v2_14 (topFlushS_l2 y1_1 y15_3 y17_7 (topFlushS_j1) m2) e3_135=some y) ?_ ?_
                 · rintro e3_135 H
                   replace H:topFlushS_j3 v2_14 (topFlushS_l2 y1_1 y15_3 y17_7 (topFlushS_j1) m2) e3_135=some y:=H
                   rw [topFlushS_j3] at H
                   refine xs [] H ?_ ?_
                   · intro H
                     exact xrY (someE H) [1] [] [] [9,9,9,9,9,8,7] ()
                   · intro H
                     refine chkG H fun q22_1_1 H=>?_
                     refine xd [0,0] (ap q22_1_1 an) ?_
                     exact xe [] _ [0,0] [2,4,4,1,1,1,0,0,0,0,0,0,0,0] (hN2 _ (v2_14+(1:Int)) (Nat.lt_succ_self _) H)
                 · intro N3 hN3
                   refine xs [0,1,2,3] H ?_ ?_
                   · intro H
                     refine xg [0,4,0,5,0,6,0,7,0,8,1,9,10,0,11,0,12,0,13,1,14,15,0,16,0,17,0,18,1,19,20,0,21,0,22,0,23,0,24,0,25,0,26,0,27,0,28,0,29,0,30,0,31,0,32,0,33,0,34,0,35,1] [1] [1,1,1,1,1] (gh_shut (NodeO (nthT r_nodes8 k23_5).b (nthS y15_3.2.nodes k23_5)) (b_cache11,b_proc12,a_c_init13,c_c_init14,b_home15,a_deal_data16,c_deal_data17)) fun _=>?_
                     refine xg [] [] [0,1] (gh_sunfs y15_3.2.nodes r_nodes8 k23_5 (nthT r_nodes8 k23_5) rfl (rngB hl23_7_1 (rngE hl23_7_1 q23_7_1))) fun _=>?_
                     exact xe [] _ [1,1] [0,1,1,1,1,1,1,1,1,1,1,1,1,1] (hN3 (true) H)
                   · intro H
                     refine xg [1,4,1,5,1] [1] [1,1,1,1,1] (gh_shut (NodeO (nthT r_nodes8 k23_5).b (nthS y15_3.2.nodes k23_5)) (b_cache11,b_proc12,a_c_init13,c_c_init14,b_home15,a_deal_data16,c_deal_data17)) fun _=>?_
                     refine xg [] [] [0,1] (gh_sunfs y15_3.2.nodes r_nodes8 k23_5 (nthT r_nodes8 k23_5) rfl (rngB hl23_7_1 (rngE hl23_7_1 q23_7_1))) fun _=>?_
                     refine bindG H fun y24_5 hy24_5 H=>?_
                     refine xc [] [1] [2,2,2,2,0] (wcopF t11_2_b0 b_fab2 b_trace3 a_c_init4 c_c_init5 a_nodes6 c_nodes7 r_nodes8 hy24_5) fun ⟨t24_5_a0,t24_5_c0⟩=>?_
                     refine xs [6,1,7,1,8,0,9,10] H ?_ ?_
                     · intro H
                       exact xe [0,11,0,12,0,13,1,14,15,0,16,0,17,0,18,1,19,20,0,21,0,22,0,23,0,24,0,25,0,26,0,27,0,28,0,29,0,30,0,31,0,32,0,33,0,34,0,35,1] _ [0,1] [5,1,1,1,1,2,2,2,2,2,2,2,2,2] (hN3 (true) H)
                     · intro H
                       refine xs [1,11,1,1,12,1,13,0,14,15] H ?_ ?_
                       · intro H
                         exact xe [0,16,0,17,0,18,1,19,20,0,21,0,22,0,23,0,24,0,25,0,26,0,27,0,28,0,29,0,30,0,31,0,32,0,33,0,34,0,35,1] _ [0,1] [5,1,1,1,1,2,2,2,2,2,2,2,2,2] (hN3 (true) H)
                       · intro H
                         refine xs [1,16,1,1,17,1,18,0,19,20] H ?_ ?_
                         · intro H
                           exact xe [0,21,0,22,0,23,0,24,0,25,0,26,0,27,0,28,0,29,0,30,0,31,0,32,0,33,0,34,0,35,1] _ [0,1] [5,1,1,1,1,2,2,2,2,2,2,2,2,2] (hN3 (true) H)
                         · intro H
                           refine chkG H fun q24_28_1 H=>?_
                           refine chkG H fun q24_32_1 H=>?_
                           refine letG H fun l24_32 hl24_32 H=>?_
                           refine xd [1,21,1,1,22,1,23,1,24,1,25,1,2,26,1,1,27,1,28,1,0,29,1,30,1,2,31,1,1,32,1] (ap q24_28_1 an) ?_
                           refine xsl [] 7 (rA t17_7_a0 t17_7_c0 y17_7) (mx:=(t17_7_c0:Int)) q24_32_1 (.inl rfl) hl24_32 fun a24_32 rl24_32=>?_
                           refine bindG H fun y24_33 hy24_33 H=>?_
                           refine xc [33,1] [] [6,6] (sameF t23_7_a0 t23_7_c0 a24_32 (((t17_7_c0:Int)).toNat - ((wr (v2_14*y1_1.words))).toNat) (rA t23_7_a0 t23_7_c0 y23_7.1.data) rl24_32 hy24_33) fun _=>?_
                           exact xe [34,1,35,0] _ [0,1] [7,3,3,3,3,1,2,2,2,2,2,2,2,2] (hN3 (!y24_33) H)
             · intro H
               exact xe [0] _ [0] [0,2,2,2,2,2,2,2,2,2,2,2] (hN1 () H)
 · intro N0 hN0
   refine xl [] (ι:=List (List OpS)×Int×Int×Option Addr×Nat) (fun (v4_8x,v4_22,v4_23,v4_8a,v4_8c)=>⟨[(1,.slice la l.length lc),(2,.slice firstsa firsts.length firstsc),(7,.pointer (some ⟨b1_2,0,none⟩)),(8,.slice v4_8a v4_8x.length v4_8c),(22,.int .i64 v4_22),(23,.int .i64 v4_23)],[⟨b1_2,#[.int .i64 y1_1.nodes,.int .i64 y1_1.lines,.int .i64 y1_1.words,.int .i64 y1_1.sets,.int .i64 y1_1.ways,.int .i64 y1_1.out,.int .i64 y1_1.inn,.slice t1_1_a0 y1_1.init.length t1_1_c0],25⟩],[(ArrO v4_8a v4_8c v4_8x),s0A,s1A,s2A,s3A,s4A,(ArrA t1_1_a0 t1_1_c0 y1_1.init),lA,firstsA]⟩) (fun m4 (v4_8x,v4_22,v4_23,v4_8a,v4_8c)=>topFlushS_l4 y1_1 (topFlushS_j0 y1_1 l firsts) m4 v4_8x v4_22 v4_23=some y) [0] [0,0,0,0,0,0,0,0,0] (64) (y2_1,(y2_1.length:Int),(0:Int),t2_1_a0,t2_1_c0) H ?_
   rintro N4 (_ | m4) ⟨v4_8x,v4_22,v4_23,v4_8a,v4_8c⟩ H hN4
   · exact (noneE H).elim
   replace H:topFlushS_l4 y1_1 (topFlushS_j0 y1_1 l firsts) (m4+1) v4_8x v4_22 v4_23=some y:=H
   rw [topFlushS_l4] at H
   refine xs [] H ?_ ?_
   · intro H
     refine xj [1,100] (ι:=List (List OpS)×Option Addr×Nat) (fun (e5_8x,e5_8a,e5_8c)=>⟨[(1,.slice la l.length lc),(2,.slice firstsa firsts.length firstsc),(7,.pointer (some ⟨b1_2,0,none⟩)),(8,.slice e5_8a e5_8x.length e5_8c),(22,.int .i64 v4_22),(23,.int .i64 v4_23)],[⟨b1_2,#[.int .i64 y1_1.nodes,.int .i64 y1_1.lines,.int .i64 y1_1.words,.int .i64 y1_1.sets,.int .i64 y1_1.ways,.int .i64 y1_1.out,.int .i64 y1_1.inn,.slice t1_1_a0 y1_1.init.length t1_1_c0],25⟩],[(ArrO e5_8a e5_8c e5_8x),s0A,s1A,s2A,s3A,s4A,(ArrA t1_1_a0 t1_1_c0 y1_1.init),lA,firstsA]⟩) (fun (e5_8x,e5_8a,e5_8c)=>topFlushS_j5 v4_23 (topFlushS_l4 y1_1 (topFlushS_j0 y1_1 l firsts) m4) v4_22 e5_8x=some y) ?_ ?_
     · rintro ⟨e5_8x,e5_8a,e5_8c⟩ H
       replace H:topFlushS_j5 v4_23 (topFlushS_l4 y1_1 (topFlushS_j0 y1_1 l firsts) m4) v4_22 e5_8x=some y:=H
       rw [topFlushS_j5] at H
       refine chkG H fun q10_0_1 H=>?_
       refine xd [0] (ap q10_0_1 an) ?_
       exact xe [] _ [0] [0,0,0,0,0,0,0,0,0] (hN4 _ (e5_8x,v4_22,v4_23+(1:Int),e5_8a,e5_8c) (Nat.lt_succ_self _) H)
     · intro N5 hN5
       refine xl [] (ι:=List (List OpS)×Int×Option Addr×Nat) (fun (v6_8x,v6_10,v6_8a,v6_8c)=>⟨[(1,.slice la l.length lc),(2,.slice firstsa firsts.length firstsc),(7,.pointer (some ⟨b1_2,0,none⟩)),(8,.slice v6_8a v6_8x.length v6_8c),(9,.int .i64 v4_23),(10,.int .i64 v6_10),(22,.int .i64 v4_22),(23,.int .i64 v4_23)],[⟨b1_2,#[.int .i64 y1_1.nodes,.int .i64 y1_1.lines,.int .i64 y1_1.words,.int .i64 y1_1.sets,.int .i64 y1_1.ways,.int .i64 y1_1.out,.int .i64 y1_1.inn,.slice t1_1_a0 y1_1.init.length t1_1_c0],25⟩],[(ArrO v6_8a v6_8c v6_8x),s0A,s1A,s2A,s3A,s4A,(ArrA t1_1_a0 t1_1_c0 y1_1.init),lA,firstsA]⟩) (fun m6 (v6_8x,v6_10,v6_8a,v6_8c)=>topFlushS_l6 y1_1 v4_23 (topFlushS_j5 v4_23 (topFlushS_l4 y1_1 (topFlushS_j0 y1_1 l firsts) m4) v4_22) m6 v6_8x v6_10=some y) [0] [0,0,0,0,0,0,0,0,0] (64) (v4_8x,(0:Int),v4_8a,v4_8c) H ?_
       rintro N6 (_ | m6) ⟨v6_8x,v6_10,v6_8a,v6_8c⟩ H hN6
       · exact (noneE H).elim
       replace H:topFlushS_l6 y1_1 v4_23 (topFlushS_j5 v4_23 (topFlushS_l4 y1_1 (topFlushS_j0 y1_1 l firsts) m4) v4_22) (m6+1) v6_8x v6_10=some y:=H
       rw [topFlushS_l6] at H
       refine xs [0] H ?_ ?_
       · intro H
         refine chkG H fun q9_4_1 H=>?_
         refine xg [1,0,1,2,3,4] [] [0] (gh_foc v6_8a v6_8c v6_8x v4_23 q9_4_1) fun ⟨wa1,wc1⟩=>?_
         refine xiG (K:=1) [] 1 (ix_hol v6_8a v6_8c v6_8x v4_23 (wa1,wc1) q9_4_1) q9_4_1 fun b1 o1 e1=>?_
         refine xpl [5] 1 (ol_hld v6_8a v6_8c v6_8x v4_23 (wa1,wc1) e1 q9_4_1 0 rfl) ?_
         refine xn [6,7,8,0,9,1,10,11] fun b9_11=>?_
         refine xg [12] [0] [10] (gh_one b9_11 29 (⟨(4:Int),wr (v6_10*y1_1.words),(0:Int)⟩:OpS) ()) fun _=>?_
         refine chkG H fun q9_12_1 H=>?_
         refine letG H fun l9_12 hl9_12 H=>?_
         refine xa [] [1,0] (a:=wa1) (l:=(nthR v6_8x v4_23)) (zs:=l9_12) (cap:=wc1) (rA (some ⟨b9_11,0,none⟩) 1 ([(⟨(4:Int),wr (v6_10*y1_1.words),(0:Int)⟩:OpS)])) hl9_12 (hl9_12▸q9_12_1) fun ⟨a9_12,c9_12⟩=>?_
         refine chkG H fun q9_13_1 H=>?_
         refine xiG (K:=1) [13] 2 (ix_hol v6_8a v6_8c v6_8x v4_23 (wa1,wc1) q9_13_1) q9_13_1 fun b2 o2 e2=>?_
         refine letG H fun l9_14 hl9_14 H=>?_
         refine xo [14] [] [0,1] (oc_hst v6_8a v6_8c v6_8x v4_23 (wa1,wc1) l9_12 (a9_12,c9_12) e2 q9_4_1 hl9_14) fun _=>?_
         refine xw [] 8 (congrArg (fun n:Nat=>(.slice v6_8a n v6_8c:Value)) (setR_len hl9_14)) ?_
         refine xw [] 32 (congrArg (fun n:Nat=>(.slice v6_8a n v6_8c:Value)) (setR_len hl9_14)) ?_
         refine xw [] 34 (congrArg (fun n:Nat=>(.slice v6_8a n v6_8c:Value)) (setR_len hl9_14)) ?_
         refine chkG H fun q8_1_1 H=>?_
         refine xd [0] (ap q8_1_1 an) ?_
         exact xe [] _ [0] [0,1,1,1,1,1,1,1,1] (hN6 _ (l9_14,v6_10+(1:Int),v6_8a,v6_8c) (Nat.lt_succ_self _) H)
       · intro H
         exact xe [0] _ [0] [0,0,0,0,0,0,0,0,0] (hN5 (v6_8x,v6_8a,v6_8c) H)
   · intro H
     exact xe [0] _ [0] [0,0,0,0,0,0,0,0,0] (hN0 (v4_8x,v4_8a,v4_8c) H)
end
section
open Go
theorem wakes_true:twakesS=some true:=by kernel_rfl
end
section
open Go
section
variable {g:CfgS} {s s':St} {ops:Nat→List OpS} {mem0' mem:List Int} {k:Nat} {L:Int}
def JF (g:CfgS) (ops:Nat→List OpS) (s:St):Prop:=∀ k,k<nn g→∀ L,cv (s.nd k).cache L≠none→∃ i o,i<(s.nd k).proc.values.length∧(ops k)[i]?=some o∧o.kind≠4∧∀ j o',i<j→j<(s.nd k).proc.values.length→(ops k)[j]?=some o'→o'.kind=4→oline g o'≠L
theorem keepF:Keep g ops mem0' (JF g ops):=by
 intro s s' mem mem' I I' C J k hk L hL
 have c:=C k hk
 have hpo:=(I.nod k hk).po
 rcases c.va with hv | ⟨o,v,ho,hv,h4,hn4⟩
 · rcases c.nw L hL with h | ⟨o,v,-,-,-,h⟩
   · rw [hv]; exact J k hk L h
   · rw [hv] at h
     have:=congrArg List.length h
     simp at this
 · have ho':(ops k)[(s.nd k).proc.values.length]?=some o:=by unfold cur at ho; rw [hpo] at ho; exact ho
   have hlen:(s'.nd k).proc.values.length=(s.nd k).proc.values.length+1:=by rw [hv]; simp
   rw [hlen]
   rcases c.nw L hL with h | ⟨o1,v1,q1,q2,q3,q4⟩
   · obtain ⟨i,oi,i1,i2,i3,i4⟩:=J k hk L h
     refine ⟨i,oi,by omega,i2,i3,fun j o' j1 j2 j3 j4=>?_⟩
     by_cases e:j=(s.nd k).proc.values.length
     · subst e
       rw [ho'] at j3
       obtain rfl:=Option.some.inj j3
       intro e2
       rw [← e2] at hL
       exact hL (h4 j4)
     · exact i4 j o' j1 (by omega) j3 j4
   · rw [ho] at q1
     obtain rfl:=Option.some.inj q1
     exact ⟨(s.nd k).proc.values.length,o,by omega,ho',q2,fun j o' j1 j2=>by omega⟩
def flop (g:CfgS) (i:Nat):OpS:=⟨4,(i:Int)*g.words,0⟩
def flops (g:CfgS) (n:Nat):List OpS:=(List.range n).map (flop g)
theorem flop_ok (hg:GOk g) {i:Nat} (hi:i<lN g):OOk g (flop g i)∧oline g (flop g i)=(i:Int):=by
 have hw:=hg.w0
 have hl0:=hg.l0
 have hlN:((lN g:Nat):Int)=g.lines:=by unfold lN; omega
 have h0:0≤(i:Int)*g.words:=Int.mul_nonneg (by omega) (by omega)
 have h1:((i:Int)+1)*g.words≤g.lines*g.words:=Int.mul_le_mul_of_nonneg_right (by omega) (by omega)
 rw [Int.add_mul] at h1
 refine ⟨⟨by show (1:Int)≤4; omega,by show (4:Int)≤4; omega,h0,by show (i:Int)*g.words<_; omega,in64_s (by show -1000000≤(0:Int)∧(0:Int)≤1000000; omega),.inl rfl⟩,?_⟩
 show ((i:Int)*g.words).tdiv g.words=_
 rw [Int.mul_tdiv_cancel _ (by omega)]
theorem flops_at {n i:Nat} (h:i<n):(flops g n)[i]?=some (flop g i):=by
 unfold flops
 rw [List.getElem?_map,List.getElem?_range h]
 rfl
theorem fl_l6 (hg:GOk g) (base:List (List OpS)) (k:Nat) (hk:k<base.length) (x:List OpS) (hx:base[k]?=some x) (hxl:x.length≤100) {K:List (List OpS)→Option Bool}:∀ (m i:Nat),i≤lN g→lN g<m+i →
 topFlushS_l6 g (k:Int) K m (base.set k (x++flops g i)) (i:Int)=K (base.set k (x++flops g (lN g)))
 |0,i,h1,h2=>by omega
 |m+1,i,h1,h2=>by
  have hl0:=hg.l0
  have hl1:=hg.l1
  have hw0:=hg.w0
  have hw1:=hg.w1
  have hlN:((lN g:Nat):Int)=g.lines:=by unfold lN; omega
  rw [topFlushS_l6]
  by_cases hi:i<lN g
  · have hm:(i:Int)*g.words≤8*g.words:=Int.mul_le_mul_of_nonneg_right (by omega) (by omega)
    have hm0:0≤(i:Int)*g.words:=Int.mul_nonneg (by omega) (by omega)
    have hnth:nthR (base.set k (x++flops g i)) (k:Int)=x++flops g i:=by
     unfold nthR
     rw [Int.toNat_natCast,List.getD_eq_getElem?_getD,List.getElem?_set,if_pos rfl,if_pos hk]
     rfl
    have hfl:(flops g i).length=i:=by simp [flops]
    rw [decide_eq_true (by omega),cond_true,chk_true (by rw [List.length_set]; omega),wr_in (by omega) (by omega),hnth,chk_true (by simp; omega)]
    dsimp only [letP]
    rw [chk_true (by rw [List.length_set]; omega),chk_true (by unfold inR; omega)]
    have ih:=fl_l6 hg base k hk x hx hxl (K:=K) m (i+1) (by omega) (by omega)
    rw [show (((i+1:Nat)):Int)=(i:Int)+1 by omega] at ih
    have e:setR (base.set k (x++flops g i)) (k:Int) (x++flops g i++[⟨4,(i:Int)*g.words,0⟩])=base.set k (x++flops g (i+1)):=by
     unfold setR
     rw [Int.toNat_natCast,List.set_set]
     congr 1
     unfold flops
     rw [List.range_succ,List.map_append,List.append_assoc]
     rfl
    rw [e]
    exact ih
  · have:i=lN g:=by omega
    subst this
    rw [decide_eq_false (by omega),cond_false]
theorem fl_l4 (hg:GOk g) (ps:List (List OpS)) (hs:ps.length≤6) (hl:∀ l∈ps,l.length≤100) {K:List (List OpS)→Option Bool}:∀ (m i:Nat),i≤ps.length→ps.length<m+i →
 topFlushS_l4 g K m ((ps.take i).map (·++flops g (lN g))++ps.drop i) (ps.length:Int) (i:Int)=K (ps.map (·++flops g (lN g)))
 |0,i,h1,h2=>by omega
 |m+1,i,h1,h2=>by
  have hl0:=hg.l0
  have hl1:=hg.l1
  rw [topFlushS_l4]
  by_cases hi:i<ps.length
  · have hx:ps[i]?=some ps[i]:=List.getElem?_eq_getElem hi
    have hb:((ps.take i).map (·++flops g (lN g))++ps.drop i)[i]?=some ps[i]:=by
     rw [List.getElem?_append_right (by simp; omega)]
     simp [hi]
     rw [Nat.min_eq_left (by omega),Nat.sub_self,Nat.add_zero]
     exact hx
    have hlen:((ps.take i).map (·++flops g (lN g))++ps.drop i).length=ps.length:=by simp; omega
    rw [decide_eq_true (by omega),cond_true]
    have h6:=fl_l6 hg ((ps.take i).map (·++flops g (lN g))++ps.drop i) i (by rw [hlen]; exact hi) ps[i] hb (hl _ (List.getElem_mem hi)) (K:=topFlushS_j5 (i:Int) (topFlushS_l4 g K m) (ps.length:Int)) 64 0 (by omega) (by unfold lN; omega)
    have e0:((ps.take i).map (·++flops g (lN g))++ps.drop i).set i (ps[i]++flops g 0)=(ps.take i).map (·++flops g (lN g))++ps.drop i:=by
     have:ps[i]++flops g 0=ps[i]:=by simp [flops]
     rw [this]
     rw [List.getElem?_eq_some_iff] at hb
     obtain ⟨q1,q2⟩:=hb
     rw [← q2,List.set_getElem_self]
    rw [e0] at h6
    refine Eq.trans h6 ?_
    unfold topFlushS_j5
    rw [chk_true (by unfold inR; omega)]
    have ih:=fl_l4 hg ps hs hl (K:=K) m (i+1) (by omega) (by omega)
    rw [show (((i+1:Nat)):Int)=(i:Int)+1 by omega] at ih
    have e1:((ps.take i).map (·++flops g (lN g))++ps.drop i).set i (ps[i]++flops g (lN g))=(ps.take (i+1)).map (·++flops g (lN g))++ps.drop (i+1):=by
     rw [List.set_append_right _ _ (by simp; omega)]
     have e2:i - ((ps.take i).map (·++flops g (lN g))).length=0:=by simp; omega
     rw [e2,List.drop_eq_getElem_cons hi,List.set_cons_zero,List.take_succ_eq_append_getElem hi,List.map_append,List.append_assoc]
     rfl
    rw [e1]
    exact ih
  · have:i=ps.length:=by omega
    subst this
    rw [decide_eq_false (by omega),cond_false]
    simp
theorem fl_ok (hg:GOk g) {ps:List (List OpS)} (h1:ps.length=nn g) (h2:∀ l∈ps,l.length≤14∧∀ o∈l,OOk g o) (hl4:g.lines≤4):PsOk g (ps.map (·++flops g (lN g))):=by
 have hlN:((lN g:Nat):Int)=g.lines:=by unfold lN; have:=hg.l0; omega
 have hfl:(flops g (lN g)).length=lN g:=by simp [flops]
 refine ⟨by simpa using h1,fun l hl=>?_,fun l hl o ho=>?_⟩
 · obtain ⟨x,hx,rfl⟩:=List.mem_map.1 hl
   have:=(h2 x hx).1
   rw [List.length_append,hfl]
   omega
 · obtain ⟨x,hx,rfl⟩:=List.mem_map.1 hl
   rcases List.mem_append.1 ho with h | h
   · exact (h2 x hx).2 o h
   · obtain ⟨i,hi,rfl⟩:=List.mem_map.1 h
     exact (flop_ok hg (List.mem_range.1 hi)).1
theorem fl_none (hg:GOk g) {ps:List (List OpS)} (h1:ps.length=nn g) (I:Inv g (opsL (ps.map (·++flops g (lN g)))) mem0' mem s) (hJ:JF g (opsL (ps.map (·++flops g (lN g)))) s) (hD:Done g (opsL (ps.map (·++flops g (lN g)))) s):∀ k,k<nn g→∀ L,cv (s.nd k).cache L=none:=by
 intro k hk L
 apply Classical.byContradiction
 intro hn
 obtain ⟨i,o,i1,i2,i3,i4⟩:=hJ k hk L hn
 have hv:=hD.vals k hk
 cases hc:cv (s.nd k).cache L with
 |none=>exact hn hc
 |some p =>
  obtain ⟨l0,l1⟩:=(I.nod k hk).co.line hc
  have hlN:((lN g:Nat):Int)=g.lines:=by unfold lN; omega
  have hx:ps[k]?=some ps[k]:=List.getElem?_eq_getElem (by omega)
  have ho:opsL (ps.map (·++flops g (lN g))) k=ps[k]++flops g (lN g):=by
   unfold opsL
   rw [List.getD_eq_getElem?_getD,List.getElem?_map,hx]
   rfl
  rw [ho] at i2 i4 hv
  have hfl:(flops g (lN g)).length=lN g:=by simp [flops]
  have hip:i<ps[k].length:=by
   apply Classical.byContradiction
   intro z
   rw [List.getElem?_append_right (by omega)] at i2
   have hlt:=(List.getElem?_eq_some_iff.1 i2).1
   rw [flops_at (by omega)] at i2
   obtain rfl:=Option.some.inj i2
   exact i3 rfl
  have hj:(ps[k]++flops g (lN g))[ps[k].length+L.toNat]?=some (flop g L.toNat):=by
   rw [List.getElem?_append_right (by omega),show ps[k].length+L.toNat - ps[k].length=L.toNat by omega]
   exact flops_at (by omega)
  refine i4 (ps[k].length+L.toNat) (flop g L.toNat) (by omega) ?_ hj rfl ?_
  · rw [hv,List.length_append,hfl]; omega
  · rw [(flop_ok hg (by omega)).2]; omega
theorem slice_eq (hg:GOk g) (hm:(mem.length:Int)=g.lines*g.words) {i:Nat} (hi:i<lN g):wr ((i:Int)*g.words)=(i:Int)*g.words∧wr (((i:Int)+1)*g.words)=((i:Int)+1)*g.words∧(0≤(i:Int)*g.words∧(i:Int)*g.words≤((i:Int)+1)*g.words∧((i:Int)+1)*g.words≤(mem.length:Int)) ∧
 (mem.drop ((i:Int)*g.words).toNat).take ((((i:Int)+1)*g.words).toNat - ((i:Int)*g.words).toNat)=lw g mem (i:Int):=by
 have hl0:=hg.l0
 have hl1:=hg.l1
 have hw0:=hg.w0
 have hw1:=hg.w1
 have hlN:((lN g:Nat):Int)=g.lines:=by unfold lN; omega
 have a0:0≤(i:Int)*g.words:=Int.mul_nonneg (by omega) (by omega)
 have a1:((i:Int)+1)*g.words≤g.lines*g.words:=Int.mul_le_mul_of_nonneg_right (by omega) (by omega)
 have a2:g.lines*g.words≤8*g.words:=Int.mul_le_mul_of_nonneg_right hl1 (by omega)
 have a3:((i:Int)+1)*g.words=(i:Int)*g.words+g.words:=by rw [Int.add_mul,Int.one_mul]
 refine ⟨wr_in (by omega) (by omega),wr_in (by omega) (by omega),⟨a0,by omega,by omega⟩,?_⟩
 unfold lw
 congr 1
 omega
theorem topFlush_l2 (hg:GOk g) (I:Inv g ops mem0' mem s) (hD:Done g ops s) (hno:∀ k,k<nn g→∀ L,cv (s.nd k).cache L=none) {b:Bool} {K:Option Bool}:∀ (m i:Nat),i≤lN g→lN g<m+i→topFlushS_l2 g (b,conc g s) mem K m (i:Int)=K
 |0,i,h1,h2=>by omega
 |m+1,i,h1,h2=>by
  have hl0:=hg.l0
  have hl1:=hg.l1
  have hlN:((lN g:Nat):Int)=g.lines:=by unfold lN; omega
  rw [topFlushS_l2]
  by_cases hi:i<lN g
  · have l0:0≤(i:Int):=by omega
    have l1:(i:Int)<g.lines:=by omega
    obtain ⟨hm1,hm2⟩:=hm_lt hg l0
    obtain ⟨r,r1,r2,r3⟩:=I.lin _ l0 l1
    rw [hD.own _ l0 l1] at r3
    obtain ⟨xs,hN⟩:=r3
    have hcw:∀ k,cw g s (i:Int) k=none:=fun k=>by
     unfold cw
     split
     · rename_i hk; exact hno k hk _
     · rfl
    have hxs:xs=[]:=by
     cases xs with
     |nil=>rfl
     |cons x r=>exact absurd (hcw x) ((hN.ex x).2 (by simp))
    subst hxs
    have hst:r.state=0∧r.data=lw g mem (i:Int):=by
     rcases hN.st with ⟨a,-,c⟩ | ⟨-,a,-⟩ | ⟨-,x,a,-⟩
     · exact ⟨a,c⟩
     · exact absurd rfl a
     · cases a
    have hcop:copiesN g s (i:Int)=[]:=by
     unfold copiesN
     rw [List.filter_eq_nil_iff]
     intro k hk
     unfold hasC
     rw [hno k (List.mem_range.1 hk)]
     simp
    obtain ⟨s1,s2,s3,s4⟩:=slice_eq hg I.ml hi
    have h4:=r2.le hg
    rw [decide_eq_true l1,cond_true,chk_true hg.n0,hm2,mnode_eq hm1,Option.bind_some]
    simp only [optM]
    rw [conc_nodes,chk_true (by omega),nth_nd hm1,nrow_eq hg r1 r2,Option.bind_some]
    simp only [Bool.not_true,cond_false]
    rw [cop_eq hg I l0 l1,Option.bind_some,hcop]
    simp only [toI,List.map_nil]
    rw [decide_eq_true (by rfl),Bool.not_true,cond_false,decide_eq_true hst.1,Bool.not_true,cond_false,decide_eq_true (show r.head=-1 from hN.rh),Bool.not_true,cond_false,chk_true (by unfold inR; omega),s1,s2,chk_true s3]
    dsimp only [letP]
    rw [s4,hst.2,same_ok (by rw [← hst.2]; omega),Option.bind_some]
    unfold topFlushS_j3
    rw [Bool.not_true,cond_false,chk_true (by unfold inR; omega)]
    have ih:=topFlush_l2 hg I hD hno (b:=b) (K:=K) m (i+1) (by omega) (by omega)
    rw [show (((i+1:Nat)):Int)=(i:Int)+1 by omega] at ih
    exact ih
  · rw [decide_eq_false (by omega),cond_false]
theorem topFlush_pure {s:SetupS} (hs:SOk s) {l:List ChoiceS} (hl:∀ x∈l,ChOk x) {firsts:List Int} (hf:∀ x∈firsts,in64 x):topFlushS s l firsts=some true:=by
 obtain ⟨g,hc,hg,hini,hn4,hl4,hw2⟩:=conf_ok hs
 obtain ⟨ps,p1,p2,p3⟩:=pprogO_ok (most:=14) hg hs hc (by omega)
 have hn6:=(nn6 hg).1
 have hp:=fl_ok hg p2 p3 hl4
 unfold topFlushS
 rw [hc,Option.bind_some]
 have p1':pprogOS s 14=some ps:=p1
 rw [p1',Option.bind_some]
 have h4:=fl_l4 hg ps (by omega) (fun l hl=>by have:=(p3 l hl).1; omega) (K:=topFlushS_j0 g l firsts) 64 0 (by omega) (by omega)
 have h4':topFlushS_l4 g (topFlushS_j0 g l firsts) 64 ps (ps.length:Int) 0=topFlushS_j0 g l firsts (ps.map (·++flops g (lN g))):=h4
 rw [h4']
 unfold topFlushS_j0
 have K:=keepF (g:=g) (ops:=opsL (ps.map (·++flops g (lN g)))) (mem0':=mem0 g)
 have I0:=inv0 hg hp hini
 have hJ0:JF g (opsL (ps.map (·++flops g (lN g)))) (st0 g hg (ps.map (·++flops g (lN g)))):=fun k hk L h=>absurd rfl h
 obtain ⟨s1,mem1,e1,I1,J1,-,mu1⟩:=run_ok hg hp.pok K hl (most:=60) (by omega) I0 hJ0
 obtain ⟨s2,mem2,e2,I2,J2,-,q2,l2⟩:=end_ok hg hp K hf I1 J1 (Nat.le_trans mu1 (mu0 hg hp))
 have hD:=done_of I2 q2 l2
 have hno:=fl_none hg p2 I2 J2 hD
 have htl:=I2.trLen hg hp.pok
 have hml:=I2.ml
 have hw0:=hg.w0
 have hl0:=hg.l0
 have hmm:g.lines*g.words≤4*g.words:=Int.mul_le_mul_of_nonneg_right hl4 (by omega)
 rw [new_eq hg hp,Option.bind_some]
 simp only [decide_true,Bool.not_true,cond_false,optM]
 rw [e1,Option.bind_some,e2,Option.bind_some]
 simp only [Bool.not_true,cond_false]
 unfold trevS cloneES
 rw [chk_true (by show s2.tr.length≤_; omega),Option.bind_some,Option.bind_some]
 obtain ⟨sn,r1,-⟩:=I2.rp
 have ha:=after_ok hg hp (l:=s2.tr) (by omega) r1 (by show mem2.length≤_; omega)
 have ha':aaftS g (ps.map (·++flops g (lN g))) (conc g s2).trace.l=some mem2:=ha
 rw [ha',Option.bind_some,wr_in (by omega) (by omega),decide_eq_true hml,Bool.not_true,cond_false]
 have hlast:=topFlush_l2 hg I2 hD hno (b:=true) (K:=topFlushS_j1) 64 0 (by omega) (by unfold lN; omega)
 have hlast':topFlushS_l2 g (true,conc g s2) mem2 topFlushS_j1 64 0=topFlushS_j1:=hlast
 rw [hlast']
 unfold topFlushS_j1
 rw [wakes_true]
 rfl
end
end
section
open Go Go.RowKit Go.ChangeShapes
theorem Sat.came {W:World}:∀ {As:List Asn},(∀ A∈As,A.holds (fun _=>False) (fun b=>b<W.heap.size) (fun b=>W.heap[b]?))→Sat W As W:=by
 intro As h
 refine ⟨fun _=>False,fun b=>b<W.heap.size,?_,fun _ h=>h.elim,fun _ h=>h.elim,fun _ h=>h,fun _ h=>h,Below.refl _ _⟩
 induction As with
 |nil=>trivial
 |cons A As ih=>exact ⟨fun _=>False,fun _=>False,fun _ h=>h.elim,fun _ h=>h.elim,fun _ h=>h.elim,h A (by simp),ih fun B hB=>h B (by simp [hB])⟩
theorem walk_of {P:Program} {f:FuncId} {args:List Value} {As:List Asn} {post:Bool→Unit→Rs} {w:World} (hs:Sat w As w) (h:FnY P f args ⟨[],As⟩ (Z:=Unit) (fun y _=>.bool y) post true):Calls P f args.toArray w fun e w'=>e=.returned (.bool true)∧RowKit.Below w.heap.size w w':=by
 have hp:Sat w ((⟨[],As⟩:Rs).all []) w:=by
  have:(⟨[],As⟩:Rs).all []=As:=by simp [Rs.all,owns]
  rw [this]; exact hs
 exact (h w [] w hp).mono fun _ _ ⟨_,_,h1,⟨_,h2,_⟩,h3⟩=>⟨by rw [h1,h2],h3.below⟩
theorem wf_u16 {n:Int} (h:(Lit.int .u16 n).wf=true):0≤n∧n<65536:=by
 have h1:(decide (IntKind.u16.min≤n) && decide (n≤IntKind.u16.max))=true:=h
 rw [Bool.and_eq_true] at h1
 have a:=of_decide_eq_true h1.1
 have b:=of_decide_eq_true h1.2
 have e1:IntKind.u16.min=0:=rfl
 have e2:IntKind.u16.max=65535:=rfl
 rw [e1] at a
 rw [e2] at b
 exact ⟨a,by omega⟩
def IntsIn (W:World) (a:Option Addr) (len cap:Nat) (zs:List Int):Prop:=len=zs.length∧len≤cap∧cap≤9223372036854775807∧(∀ i,i<zs.length→∃ x,a=some x∧W.cell? (x.add i)=some (.int .i64 (zs.getD i 0)))∧∀ n∈zs,-9223372036854775808≤n∧n≤9223372036854775807
theorem IntsIn.none {W:World}:IntsIn W none 0 0 []:=⟨rfl,Nat.le_refl _,by omega,fun i h=>by simp at h,by simp⟩
theorem IntsIn.some {W:World} {x:Addr} {l c:Nat} {zs:List Int} (hl:l≤c) (hm:c≤9223372036854775807) (hz:zs.length=c) (hcell:∀ i,i<zs.length→W.cell? (x.add i)=.some (.int .i64 (zs.getD i 0))) (hwz:∀ n∈zs,(Lit.int .i64 n).wf=true) :
 IntsIn W (.some x) l c (zs.take l):=by
 refine ⟨by simp; omega,hl,hm,fun i hi=>⟨x,rfl,?_⟩,fun n hn=>bounds_i64 (hwz n (List.mem_of_mem_take hn))⟩
 rw [List.length_take] at hi
 rw [hcell i (by omega)]
 rw [List.getD_eq_getElem?_getD,List.getD_eq_getElem?_getD,List.getElem?_take_of_lt (by omega)]
theorem cell_block {W:World} {x:Addr} {v:Value} (h:W.cell? (x.add 0)=some v):∃ c T fr,x=⟨x.block,x.off,none⟩∧W.heap[x.block]?=some (.cells c T fr)∧x.block<W.heap.size:=by
 have h0:x.add 0=x:=by simp [Addr.add]
 rw [h0] at h
 unfold World.cell? at h
 cases ho:W.heap[x.block]? with
 |none=>rw [ho] at h; cases h
 |some o =>
  rw [ho] at h
  cases o with
  |cells c T fr =>
   simp only at h
   cases hs:x.spot with
   |some s=>rw [hs] at h; cases h
   |none =>
    refine ⟨c,T,fr,?_,rfl,(Array.getElem?_eq_some_iff.1 ho).1⟩
    cases x with
    |mk b o s=>cases hs; rfl
  |_=>cases h
theorem IntsIn.imm {W:World} {a:Option Addr} {len cap:Nat} {zs:List Int} (h:IntsIn W a len cap zs):(ImmA a cap zs).holds (fun _=>False) (fun b=>b<W.heap.size) (fun b=>W.heap[b]?):=by
 obtain ⟨rfl,h1,_,h2,_⟩:=h
 refine ⟨h1,List.replicate zs.length (),by simp,⟨rowsOf_k,?_⟩,fun i a x e1 e2=>trivial⟩
 cases zs with
 |nil=>exact .inl rfl
 |cons z zs =>
  obtain ⟨x,rfl,hx⟩:=h2 0 (by simp)
  obtain ⟨c,T,fr,e1,e2,e4⟩:=cell_block hx
  refine .inr ⟨x.block,x.off,c,T,fr,by rw [← e1],e4,e2,fun j v hj=>?_⟩
  have hrows:(rowsOf (z::zs) (List.replicate (z::zs).length ())).flatten=(z::zs).map (Value.int .i64):=by
   have:∀ l:List Int,(rowsOf l (List.replicate l.length ())).flatten=l.map (Value.int .i64):=by
    intro l
    induction l with
    |nil=>rfl
    |cons y l ih =>
     show ([Value.int .i64 y]::rowsOf l (List.replicate l.length ())).flatten=_
     rw [List.flatten_cons,ih]
     rfl
   exact this _
  rw [hrows,List.getElem?_map] at hj
  cases hy:(z::zs)[j]? with
  |none=>rw [hy] at hj; cases hj
  |some y =>
   rw [hy] at hj
   obtain rfl:=Option.some.inj hj
   have hjl:j<(z::zs).length:=(List.getElem?_eq_some_iff.1 hy).1
   obtain ⟨x',hx',hc⟩:=h2 j hjl
   obtain rfl:=Option.some.inj hx'
   rw [e1,add_none,cell_of e2,List.getD_eq_getElem?_getD,hy] at hc
   exact hc
end
section
open Go Go.RowKit Go.ChangeShapes
def Match (cs:Array Value):Nat→List Value→Prop
 |_,[]=>True
 |k,y::ys=>cs[k]?=.some y∧Match cs (k+1) ys
theorem match_drop {cs:Array Value}:∀ {ys:List Value} {k:Nat},Match cs k ys→cs.size=k+ys.length→cs.toList.drop k=ys
 |[],k,_,hs=>by
  apply List.drop_eq_nil_of_le
  simp at hs ⊢; omega
 |y::ys,k,⟨h1,h2⟩,hs=>by
  have ih:=match_drop h2 (by simp at hs ⊢; omega)
  have hk:k<cs.toList.length:=by simp at hs ⊢; omega
  rw [List.drop_eq_getElem_cons hk,ih]
  congr 1
  have:cs.toList[k]?=.some y:=by simpa using h1
  rw [List.getElem?_eq_getElem hk] at this
  exact Option.some.inj this
theorem match_all {cs:Array Value} {ys:List Value} (h:Match cs 0 ys) (hs:cs.size=ys.length):cs=ys.toArray:=by
 have:=match_drop h (by simpa using hs)
 apply Array.ext'
 simpa using this
section
variable {H:Type} {enc:TypeId×Value→H} {P:Program} {W:World} {cs:Array Value} {n:Nat} {fs:Array Field} {xs:List (DataW H×List MemPlace)}
theorem one_of {c:Value} {o:Nat} (h:(cs.toList.drop o).take 1=[c]):cs[o]?=.some c:=by
 have h1:((cs.toList.drop o).take 1)[0]?=.some c:=by rw [h]; rfl
 rw [List.getElem?_take_of_lt (by omega),List.getElem?_drop] at h1
 simpa using h1
def FieldsOk (enc:TypeId×Value→H) (P:Program) (W:World) (n:Nat) (cs:Array Value) (fs:Array Field):Prop :=
 ∀ (i:Nat) (f:Field),fs[i]?=.some f→∃ y,DataW.trod enc P W 0 (fun _=>true) true n f.type ((cs.toList.drop f.offset).take (P.cellsOf f.type))=.some y
theorem fields_ok (hl:xs.length=fs.size) (h:∀ (i:Nat) (f:Field),fs[i]?=.some f→DataW.trod enc P W 0 (fun _=>true) true n f.type ((cs.toList.drop f.offset).take (P.cellsOf f.type))=xs[i]?):FieldsOk enc P W n cs fs:=by
 intro i f hf
 have hi:i<fs.size:=(Array.getElem?_eq_some_iff.1 hf).1
 exact ⟨xs[i],by rw [h i f hf,List.getElem?_eq_getElem (by omega)]⟩
theorem in_int (h:FieldsOk enc P W n cs fs) (i:Nat) (f:Field) (hf:fs[i]?=.some f) (ht:P.underlying f.type=.some (.int .i64)) (hc:P.cellsOf f.type=1):∃ z,cs[f.offset]?=.some (.int .i64 z)∧-9223372036854775808≤z∧z≤9223372036854775807:=by
 obtain ⟨y,hy⟩:=h i f hf
 rw [hc] at hy
 obtain ⟨z,h1,_,h3⟩:=DataW.trod_int ht hy
 exact ⟨z,one_of h1,bounds_i64 h3⟩
theorem in_u16 (h:FieldsOk enc P W n cs fs) (i:Nat) (f:Field) (hf:fs[i]?=.some f) (ht:P.underlying f.type=.some (.int .u16)) (hc:P.cellsOf f.type=1):∃ z,cs[f.offset]?=.some (.int .u16 z)∧0≤z∧z<65536:=by
 obtain ⟨y,hy⟩:=h i f hf
 rw [hc] at hy
 obtain ⟨z,h1,_,h3⟩:=DataW.trod_int ht hy
 exact ⟨z,one_of h1,wf_u16 h3⟩
theorem ints_in {t e:TypeId} {fuel:Nat} {l:List Value} {x:DataW H×List MemPlace} (ht:P.underlying t=.some (.slice e)) (he:P.underlying e=.some (.int .i64)) (hc:P.cellsOf e=1) (h:DataW.trod enc P W 0 (fun _=>true) true fuel t l=.some x) :
 ∃ a len cap zs,l=[.slice a len cap]∧IntsIn W a len cap zs:=by
 rcases open_ints ht he hc h with ⟨hcs,_⟩ | ⟨x,l,c,zs,hcs,_,hl,hm,hz,_,hcell,hwz⟩
 · exact ⟨_,_,_,[],hcs,IntsIn.none⟩
 · exact ⟨_,_,_,_,hcs,IntsIn.some hl hm (by simpa using hz) hcell hwz⟩
theorem in_ints (h:FieldsOk enc P W n cs fs) (i:Nat) (f:Field) {e:TypeId} (hf:fs[i]?=.some f) (ht:P.underlying f.type=.some (.slice e)) (he:P.underlying e=.some (.int .i64)) (hc:P.cellsOf e=1) (hc2:P.cellsOf f.type=1) :
 ∃ a len cap zs,cs[f.offset]?=.some (.slice a len cap)∧IntsIn W a len cap zs:=by
 obtain ⟨y,hy⟩:=h i f hf
 rw [hc2] at hy
 obtain ⟨a,len,cap,zs,h1,h2⟩:=ints_in ht he hc hy
 exact ⟨a,len,cap,zs,one_of h1,h2⟩
end
theorem add_add (x:Addr) (i j:Nat):(x.add i).add j=x.add (i+j):=by
 unfold Addr.add
 cases i with
 |zero=>simp
 |succ i =>
  cases j with
  |zero=>simp
  |succ j=>simp [Nat.add_assoc]
def RowsIn (W:World) (k:Nat) (a:Option Addr) (len cap:Nat) (rows:List (List Value)):Prop:=len=rows.length∧len≤cap∧cap≤9223372036854775807∧(∀ j v,rows.flatten[j]?=some v→∃ x,a=some x∧W.cell? (x.add j)=some v)∧∀ r∈rows,r.length=k
theorem rows_in {H:Type} {enc:TypeId×Value→H} {P:Program} {W:World} {t e:TypeId} {fuel:Nat} {l:List Value} {x:DataW H×List MemPlace} (ht:P.underlying t=.some (.slice e)) (Q:List Value→Prop)
 (hel:∀ (fuel:Nat) (cs:List Value) (y:DataW H×List MemPlace),cs.length=P.cellsOf e→DataW.trod enc P W 0 (fun _=>true) true fuel e cs=.some y→Q cs)
 (h:DataW.trod enc P W 0 (fun _=>true) true fuel t l=.some x):∃ a len cap rows,l=[.slice a len cap]∧RowsIn W (P.cellsOf e) a len cap rows∧∀ r∈rows,Q r:=by
 rcases DataW.trod_slice ht h with ⟨rfl,_⟩ | ⟨a,len,cap,elems,rest,n,_,rfl,_,hb,hl,hm,hlen,hel2,_,_⟩
 · exact ⟨none,0,0,[],rfl,⟨rfl,Nat.le_refl _,by omega,fun j v h=>by simp at h,by simp⟩,by simp⟩
 have each:∀ i,i<len→∃ cs y,W.cells? 0 (a.add (i*P.cellsOf e)) (P.cellsOf e)=.some cs∧DataW.trod enc P W 0 (fun _=>true) true n e cs=.some y:=by
  intro i hi
  have h1:=hel2 i hi
  rw [List.getElem?_eq_getElem (by omega),Option.bind_eq_some_iff] at h1
  obtain ⟨cs,h2,h3⟩:=h1
  exact ⟨cs,_,h2,h3⟩
 let rows:=(List.range len).map fun i=>(W.cells? 0 (a.add (i*P.cellsOf e)) (P.cellsOf e)).getD []
 have hrow:∀ r∈rows,∃ i cs y,i<len∧r=cs∧W.cells? 0 (a.add (i*P.cellsOf e)) (P.cellsOf e)=.some cs∧DataW.trod enc P W 0 (fun _=>true) true n e cs=.some y:=by
  intro r hr
  obtain ⟨i,hi,rfl⟩:=List.mem_map.1 hr
  have hi':=List.mem_range.1 hi
  obtain ⟨cs,y,h1,h2⟩:=each i hi'
  exact ⟨i,cs,y,hi',by rw [h1]; rfl,h1,h2⟩
 have hk:∀ r∈rows,r.length=P.cellsOf e:=by
  intro r hr
  obtain ⟨i,cs,y,_,rfl,h1,_⟩:=hrow r hr
  exact (World.cells?_some h1).2.1
 refine ⟨.some a,len,cap,rows,rfl,⟨by simp [rows],hl,hm,fun j v hj=>⟨a,rfl,?_⟩,hk⟩,?_⟩
 · obtain ⟨i,q,row,h1,h2,rfl,h4⟩:=flatten_at hk hj
   have hi:i<len:=by
    have:=(List.getElem?_eq_some_iff.1 h1).1
    simpa [rows] using this
   obtain ⟨cs,y,g1,g2⟩:=each i hi
   have e1:row=cs:=by
    have:rows[i]?=.some cs:=by simp [rows,hi,g1]
    rw [this] at h1
    exact (Option.some.inj h1).symm
   subst e1
   have g3:=(World.cells?_some g1).2.2 q h4
   rw [add_add,h2] at g3
   exact g3
 · intro r hr
   obtain ⟨i,cs,y,_,rfl,h1,h2⟩:=hrow r hr
   exact hel n r y (World.cells?_some h1).2.1 h2
theorem list_of {β:Type} {f:β→List Value}:∀ {rows:List (List Value)} {p:β→Prop},(∀ r∈rows,∃ x,p x∧r=f x)→∃ l:List β,rows=l.map f∧∀ x∈l,p x
 |[],_,_=>⟨[],rfl,by simp⟩
 |r::rows,p,h=>by
  obtain ⟨x,hx,rfl⟩:=h r (List.mem_cons_self ..)
  obtain ⟨l,hl,hp⟩:=list_of (fun r hr=>h r (List.mem_cons_of_mem _ hr))
  exact ⟨x::l,by rw [hl]; rfl,by intro y hy; rcases List.mem_cons.1 hy with rfl | hy; exact hx; exact hp y hy⟩
theorem RowsIn.imm {α:Type} [Rw α] {W:World} {a:Option Addr} {len cap:Nat} {zs:List α} {xs:List (Rw.X α)} (h:RowsIn W (Rw.k α) a len cap (rowsOf zs xs)) (hx:xs.length=zs.length) (h4:0<Rw.k α) (hk:∀ (i:Nat) (z:α) (x:Rw.X α),zs[i]?=some z→xs[i]?=some x→(Rw.asn z x).holds (fun _=>False) (fun b=>b<W.heap.size) (fun b=>W.heap[b]?)):(ImmA a cap zs).holds (fun _=>False) (fun b=>b<W.heap.size) (fun b=>W.heap[b]?):=by
 obtain ⟨h0,h1,_,h2,h3⟩:=h
 rw [rowsOf_len hx] at h0
 refine ⟨by omega,xs,hx,⟨h3,?_⟩,hk⟩
 cases hz:(rowsOf zs xs) with
 |nil=>exact .inl rfl
 |cons r rs =>
  right
  have hr:=h3 r (by rw [hz]; simp)
  cases r with
  |nil=>exact absurd hr.symm (Nat.pos_iff_ne_zero.1 h4)
  |cons v vs =>
   obtain ⟨x,rfl,hx⟩:=h2 0 v (by rw [hz]; rfl)
   obtain ⟨c,T,fr,e1,e2,e4⟩:=cell_block hx
   refine ⟨x.block,x.off,c,T,fr,by rw [← e1],e4,e2,fun j u hj=>?_⟩
   rw [← hz] at hj
   obtain ⟨x',hx',hc⟩:=h2 j u hj
   obtain rfl:=Option.some.inj hx'
   rw [e1,add_none,cell_of e2] at hc
   exact hc
theorem rowsC:∀ l:List ChoiceS,rowsOf l (List.replicate l.length ())=l.map fun x=>Rw.cells x ()
 |[]=>rfl
 |x::l=>by
  have ih:=rowsC l
  show Rw.cells x ()::rowsOf l (List.replicate l.length ())=_
  rw [ih]
  rfl
def ChIn (W:World) (a:Option Addr) (len cap:Nat) (zs:List ChoiceS):Prop:=RowsIn W (Rw.k ChoiceS) a len cap (rowsOf zs (List.replicate zs.length ()))∧∀ x∈zs,ChOk x
theorem ChIn.len {W:World} {a:Option Addr} {len cap:Nat} {zs:List ChoiceS} (h:ChIn W a len cap zs):len=zs.length:=by rw [h.1.1,rowsOf_len (by simp)]
theorem ChIn.imm {W:World} {a:Option Addr} {len cap:Nat} {zs:List ChoiceS} (h:ChIn W a len cap zs):(ImmA a cap zs).holds (fun _=>False) (fun b=>b<W.heap.size) (fun b=>W.heap[b]?) :=
 h.1.imm (by simp) (show 0<4 by omega) fun _ _ _ _ _=>trivial
theorem ChIn.mk {W:World} {a:Option Addr} {len cap:Nat} {rows:List (List Value)} (h:RowsIn W (Rw.k ChoiceS) a len cap rows) (hq:∀ r∈rows,∃ x:ChoiceS,ChOk x∧r=Rw.cells x ()):∃ zs,ChIn W a len cap zs:=by
 obtain ⟨l,rfl,hl⟩:=list_of hq
 exact ⟨l,by rw [rowsC]; exact h,hl⟩
end
end Go.Proofs.YtcidmgkfaioceaaGreat
