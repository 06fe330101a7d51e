/- Walks of the program's functions, and the plain laws of what they compute (part 10): TReaders, T9, RD, InX, InY.
   Conditions: none. -/
import Derived.OpenShut
import Derived.ChangeArms
import Derived.ChangeSlices
import Derived.Test.YtcidmgkfaioceaaGreatMReaders9
set_option linter.unusedVariables false
set_option linter.unusedSimpArgs false
set_option linter.unusedSectionVars false
set_option maxRecDepth 100000
set_option maxHeartbeats 4000000
namespace Go.Proofs.YtcidmgkfaioceaaGreat
section
open Go Go.RowKit
def topReadersS_j3 (y1_1:Int) (v:Int) (y2_1:CfgS) (w:Int) (firsts:List Int) (e3_10x:List (TL OpS)):Option (Bool) :=
 chk (0≤(wr ((wr ((2:Int)+y1_1)) - (1:Int)))∧(wr ((wr ((2:Int)+y1_1)) - (1:Int)))<(e3_10x.length:Int)) (letP (β:=List OpS) (nthT e3_10x (wr ((wr ((2:Int)+y1_1)) - (1:Int)))) fun x28_7=>chk ((x28_7++([(⟨(2:Int),(0:Int),v⟩:OpS),(⟨(1:Int),(0:Int),(0:Int)⟩:OpS)])).length≤1099511627776∧0<(([(⟨(2:Int),(0:Int),v⟩:OpS),(⟨(1:Int),(0:Int),(0:Int)⟩:OpS)])).length) (letP (x28_7++([(⟨(2:Int),(0:Int),v⟩:OpS),(⟨(1:Int),(0:Int),(0:Int)⟩:OpS)])) fun l28_12=>chk (0≤(wr ((wr ((2:Int)+y1_1)) - (1:Int)))∧(wr ((wr ((2:Int)+y1_1)) - (1:Int)))<(e3_10x.length:Int)) (letP (β:=List (List OpS)) (setT e3_10x (wr ((wr ((2:Int)+y1_1)) - (1:Int))) l28_12) fun l28_14=>(mnewmS (⟨y2_1.nodes,y2_1.lines,y2_1.words,y2_1.sets,y2_1.ways,y2_1.out,y2_1.inn,([w])⟩:CfgS) l28_14).bind fun y29_2=>(bif !(decide (y29_2.2=(0:Int))) then some false else (optM y29_2.1 (fun n30_3_9=>(tendS n30_3_9 l28_14 firsts).bind fun y30_10=>(bif !y30_10.1 then some false else (mnodeS y30_10.2 (wr ((wr ((2:Int)+y1_1)) - (1:Int)))).bind fun y32_3=>(optM y32_3 (fun k32_3=>chk (0≤k32_3∧k32_3<(y30_10.2.nodes.length:Int)) ((prvalS ((nthS y30_10.2.nodes k32_3).proc)).bind fun y32_7=>(bif decide ((y32_7.length:Int)=(3:Int)) then chk (0≤(0:Int)∧(0:Int)<(y32_7.length:Int)) ((bif decide ((nth y32_7 (0:Int))=w) then chk (0≤(1:Int)∧(1:Int)<(y32_7.length:Int)) ((bif decide ((nth y32_7 (1:Int))=(0:Int)) then chk (0≤(2:Int)∧(2:Int)<(y32_7.length:Int)) ((bif decide ((nth y32_7 (2:Int))=v) then (wsndS y30_10.2 l28_14).bind fun y33_26=>(bif y33_26 then (twakesS).bind fun y33_29=>some y33_29 else some false) else some false)) else some false)) else some false)) else some false))) (none)))) (some false))))))
def topReadersS_l4 (k3:(List (TL OpS))→Option (Bool)):Nat→(List (TL OpS))→Int→Int→Option (Bool)
 |0,_,_,_=>none
 |m+1,v4_10x,v4_108,v4_109=>(bif decide (v4_109<v4_108) then chk (0≤v4_109∧v4_109<(v4_10x.length:Int)) (letP (setT v4_10x v4_109 ([(⟨(1:Int),(0:Int),(0:Int)⟩:OpS)])) fun l26_5=>chk (inR (v4_109+(1:Int))) ((topReadersS_l4 k3 m) l26_5 v4_108 (v4_109+(1:Int)))) else k3 v4_10x)
def topReadersS_j2 (y1_1:Int) (v:Int) (y2_1:CfgS) (w:Int) (firsts:List Int) (e0_10x:List (TL OpS)):Option (Bool) :=
 topReadersS_l4 (topReadersS_j3 y1_1 v y2_1 w firsts) 64 e0_10x (e0_10x.length:Int) (0:Int)
def topReadersS_l5 (e0_10x:List (TL OpS)) (y11_10:Bool×MachS) (w:Int) (k2:Option (Bool)):Nat→Int→Option (Bool)
 |0,_=>none
 |m+1,v5_81=>(bif decide (v5_81<(e0_10x.length:Int)) then (mnodeS y11_10.2 v5_81).bind fun y19_2=>(optM y19_2 (fun k19_2=>chk (0≤k19_2∧k19_2<(y11_10.2.nodes.length:Int)) ((cfindS ((nthS y11_10.2.nodes k19_2).cache) (0:Int)).bind fun y19_6=>(bif !y19_6.2 then some false else (bif y19_6.1.dirty then some false else (ewordS y19_6.1 (0:Int)).bind fun y20_8=>(bif !(decide (y20_8=w)) then some false else chk (inR (v5_81+(1:Int))) ((topReadersS_l5 e0_10x y11_10 w k2 m) (v5_81+(1:Int)))))))) (none)) else k2)
def topReadersS_j1 (e0_10x:List (TL OpS)) (y11_10:Bool×MachS) (w:Int) (y1_1:Int) (v:Int) (y2_1:CfgS) (firsts:List Int) (e1_78:Bool):Option (Bool) :=
 (bif e1_78 then some false else topReadersS_l5 e0_10x y11_10 w (topReadersS_j2 y1_1 v y2_1 w firsts e0_10x) 64 (0:Int))
def topReadersS_j0 (y2_1:CfgS) (w:Int) (firsts:List Int) (y1_1:Int) (v:Int) (e0_10x:List (TL OpS)):Option (Bool) :=
 (mnewmS (⟨y2_1.nodes,y2_1.lines,y2_1.words,y2_1.sets,y2_1.ways,y2_1.out,y2_1.inn,([w])⟩:CfgS) e0_10x).bind fun y10_2=>(bif !(decide (y10_2.2=(0:Int))) then some false else (optM y10_2.1 (fun n11_3_1=>(tendS n11_3_1 e0_10x firsts).bind fun y11_10=>(bif !y11_10.1 then some false else (wwalkS y11_10.2 (0:Int)).bind fun y13_1=>(bif !y13_1.2 then (topReadersS_j1 e0_10x y11_10 w y1_1 v y2_1 firsts) true else (bif !(decide ((y13_1.1.length:Int)=(wr ((2:Int)+y1_1)))) then (topReadersS_j1 e0_10x y11_10 w y1_1 v y2_1 firsts) true else (wlistS y11_10.2 (0:Int)).bind fun y14_10=>(topReadersS_j1 e0_10x y11_10 w y1_1 v y2_1 firsts) !y14_10)))) (some false)))
def topReadersS_l6 (k0:(List (TL OpS))→Option (Bool)):Nat→(List (TL OpS))→Int→Int→Option (Bool)
 |0,_,_,_=>none
 |m+1,v6_10x,v6_32,v6_33=>(bif decide (v6_33<v6_32) then chk (0≤v6_33∧v6_33<(v6_10x.length:Int)) (letP (setT v6_10x v6_33 ([(⟨(1:Int),(0:Int),(0:Int)⟩:OpS)])) fun l8_5=>chk (inR (v6_33+(1:Int))) ((topReadersS_l6 k0 m) l8_5 v6_32 (v6_33+(1:Int)))) else k0 v6_10x)
def topReadersS (n:Int) (v:Int) (w:Int) (firsts:List Int):Option (Bool) :=
 (withinS n (4:Int)).bind fun y1_1=>(tsmallS (wr ((2:Int)+y1_1))).bind fun y2_1=>chk (0≤(wr ((2:Int)+y1_1))∧(wr ((2:Int)+y1_1))≤1099511627776) (letP (List.replicate ((wr ((2:Int)+y1_1))).toNat ([]:TL OpS)) fun l4_1=>topReadersS_l6 (topReadersS_j0 y2_1 w firsts y1_1 v) 64 l4_1 (l4_1.length:Int) (0:Int))
theorem topReadersF {n:Int} {v:Int} {w:Int} {firsts:List Int} {firstsA:Asn} (firstsa:Option Addr) (firstsc:Nat) (hfirstsA:Rdb firstsA firstsa firstsc firsts) {y:Bool} (H:topReadersS n v w firsts=some y):FnY Tryz.prog 3 [.int .i64 n,.int .i64 v,.int .i64 w,.slice firstsa firsts.length firstsc] ⟨[],[firstsA]⟩ (Z:=Unit) (fun y _=>.bool y) (fun y _=>⟨[],[firstsA]⟩) y:=by
 unfold topReadersS at H
 refine xfY Tryz.func3 fun W0 F=>?_
 refine bindG H fun y1_1 hy1_1 H=>?_
 refine xq [] (within_fq hy1_1) ?_
 refine bindG H fun y2_1 hy2_1 H=>?_
 refine xc [1] [] [] (tsmallF hy2_1) fun ⟨t2_1_a0,t2_1_c0⟩=>?_
 refine xn [] fun b2_2=>?_
 refine xn [0] fun b3_1=>?_
 refine chkG H fun q4_1_1 H=>?_
 refine letG H fun l4_1 hl4_1 H=>?_
 refine xmk (α:=TL OpS) [1] none q4_1_1 hl4_1 (fun _ _=>imm_nil) fun b4_1=>?_
 refine xj [100] (ι:=List (TL OpS)×Option Addr×Nat) (fun (e0_10x,e0_10a,e0_10c)=>⟨[(0,.int .i64 (wr ((2:Int)+y1_1))),(1,.int .i64 v),(2,.int .i64 w),(3,.slice firstsa firsts.length firstsc),(9,.pointer (some ⟨b2_2,0,none⟩)),(10,.slice e0_10a e0_10x.length e0_10c)],[⟨b3_1,#[.int .i64 w],3⟩,⟨b2_2,#[.int .i64 y2_1.nodes,.int .i64 y2_1.lines,.int .i64 y2_1.words,.int .i64 y2_1.sets,.int .i64 y2_1.ways,.int .i64 y2_1.out,.int .i64 y2_1.inn,.slice (some ⟨b3_1,0,none⟩) 1 1],25⟩],[(ArrA e0_10a e0_10c e0_10x),firstsA]⟩) (fun (e0_10x,e0_10a,e0_10c)=>topReadersS_j0 y2_1 w firsts y1_1 v e0_10x=some y) ?_ ?_
 · rintro ⟨e0_10x,e0_10a,e0_10c⟩ H
   replace H:topReadersS_j0 y2_1 w firsts y1_1 v e0_10x=some y:=H
   rw [topReadersS_j0] at H
   refine xg [1] [0] [2] (gh_one b3_1 3 (w:Int) ()) fun _=>?_
   refine xg [] [] [0] (gh_frz (some ⟨b3_1,0,none⟩) 1 ([w])) fun _=>?_
   refine xg [] [] [0] (gh_dup (some ⟨b3_1,0,none⟩) 1 ([w])) fun _=>?_
   refine bindG H fun y10_2 hy10_2 H=>?_
   refine xc [] [] [0,1] (mnewmF (some ⟨b3_1,0,none⟩) 1 e0_10a e0_10c (rdTL (rA e0_10a e0_10c e0_10x)) hy10_2) fun t10_2_b0=>?_
   refine xs [] H ?_ ?_
   · intro H
     exact xrY (someE H) [0,0,1,0,0,0,0,0,1,1] [] [] [3] ()
   · intro H
     refine optG H (fun hn11_3_1 H=>?_) fun n11_3_1 hn11_3_1 H=>?_
     · refine xw [1,300] 12 (optV_n t10_2_b0 hn11_3_1) ?_
       refine xw [300] 51 (optV_n t10_2_b0 hn11_3_1) ?_
       exact xrY (someE H) [1,0,0,0,0,0,0,1,1] [] [] [3] ()
     · refine xw [1,300] 12 (optV_s t10_2_b0 hn11_3_1) ?_
       refine xw [300] 51 (optV_s t10_2_b0 hn11_3_1) ?_
       refine xg [300] [] [0] (gh_opt (A:=MachA t10_2_b0) hn11_3_1) fun _=>?_
       refine bindG H fun y11_10 hy11_10 H=>?_
       refine xc [1,0,1,1,1,1] [] [0,0,1] (tendF t10_2_b0 e0_10a e0_10c firstsa firstsc (rdTL (rA e0_10a e0_10c e0_10x)) hfirstsA hy11_10) fun _=>?_
       refine xs [1,0] H ?_ ?_
       · intro H
         exact xrY (someE H) [1] [] [] [2] ()
       · intro H
         refine xg [0] [] [0] (gh_open (MachO t10_2_b0 y11_10.2)) fun ⟨b_fab2,b_trace3,a_c_init4,c_c_init5,a_nodes6,c_nodes7,r_nodes8⟩=>?_
         refine bindG H fun y13_1 hy13_1 H=>?_
         refine xc [] [0] [0,0,0,0,0] (wwalkF t10_2_b0 b_fab2 b_trace3 a_c_init4 c_c_init5 a_nodes6 c_nodes7 r_nodes8 hy13_1) fun ⟨t13_1_a0,t13_1_c0⟩=>?_
         refine xj [101] (ι:=Bool) (fun e1_78=>⟨[(0,.int .i64 (wr ((2:Int)+y1_1))),(1,.int .i64 v),(2,.int .i64 w),(3,.slice firstsa firsts.length firstsc),(9,.pointer (some ⟨b2_2,0,none⟩)),(10,.slice e0_10a e0_10x.length e0_10c),(12,.pointer (some ⟨t10_2_b0,0,none⟩)),(78,.bool e1_78)],[⟨t10_2_b0,#[.pointer (some ⟨b_fab2,0,none⟩),.pointer (some ⟨b_trace3,0,none⟩),.int .i64 y11_10.2.c.nodes,.int .i64 y11_10.2.c.lines,.int .i64 y11_10.2.c.words,.int .i64 y11_10.2.c.sets,.int .i64 y11_10.2.c.ways,.int .i64 y11_10.2.c.out,.int .i64 y11_10.2.c.inn,.slice a_c_init4 y11_10.2.c.init.length c_c_init5,.slice a_nodes6 r_nodes8.length c_nodes7],70⟩,⟨b2_2,#[.int .i64 y2_1.nodes,.int .i64 y2_1.lines,.int .i64 y2_1.words,.int .i64 y2_1.sets,.int .i64 y2_1.ways,.int .i64 y2_1.out,.int .i64 y2_1.inn,.slice (some ⟨b3_1,0,none⟩) 1 1],25⟩],[(FabA b_fab2 y11_10.2.fab),(TraceA b_trace3 y11_10.2.trace),(ImmA a_c_init4 c_c_init5 y11_10.2.c.init),(ArrA a_nodes6 c_nodes7 r_nodes8),(StA y11_10.2.nodes r_nodes8),(ArrA e0_10a e0_10c e0_10x),firstsA,(ImmA (some ⟨b3_1,0,none⟩) 1 ([w]))]⟩) (fun e1_78=>topReadersS_j1 e0_10x y11_10 w y1_1 v y2_1 firsts e1_78=some y) ?_ ?_
         · rintro e1_78 H
           replace H:topReadersS_j1 e0_10x y11_10 w y1_1 v y2_1 firsts e1_78=some y:=H
           rw [topReadersS_j1] at H
           refine xs [] H ?_ ?_
           · intro H
             exact xrY (someE H) [1] [] [] [6] ()
           · intro H
             refine xj [0,100] (ι:=Unit) (fun _=>⟨[(0,.int .i64 (wr ((2:Int)+y1_1))),(1,.int .i64 v),(2,.int .i64 w),(3,.slice firstsa firsts.length firstsc),(9,.pointer (some ⟨b2_2,0,none⟩)),(10,.slice e0_10a e0_10x.length e0_10c)],[⟨t10_2_b0,#[.pointer (some ⟨b_fab2,0,none⟩),.pointer (some ⟨b_trace3,0,none⟩),.int .i64 y11_10.2.c.nodes,.int .i64 y11_10.2.c.lines,.int .i64 y11_10.2.c.words,.int .i64 y11_10.2.c.sets,.int .i64 y11_10.2.c.ways,.int .i64 y11_10.2.c.out,.int .i64 y11_10.2.c.inn,.slice a_c_init4 y11_10.2.c.init.length c_c_init5,.slice a_nodes6 r_nodes8.length c_nodes7],70⟩,⟨b2_2,#[.int .i64 y2_1.nodes,.int .i64 y2_1.lines,.int .i64 y2_1.words,.int .i64 y2_1.sets,.int .i64 y2_1.ways,.int .i64 y2_1.out,.int .i64 y2_1.inn,.slice (some ⟨b3_1,0,none⟩) 1 1],25⟩],[(FabA b_fab2 y11_10.2.fab),(TraceA b_trace3 y11_10.2.trace),(ImmA a_c_init4 c_c_init5 y11_10.2.c.init),(ArrA a_nodes6 c_nodes7 r_nodes8),(StA y11_10.2.nodes r_nodes8),(ArrA e0_10a e0_10c e0_10x),firstsA,(ImmA (some ⟨b3_1,0,none⟩) 1 ([w]))]⟩) (fun _=>topReadersS_j2 y1_1 v y2_1 w firsts e0_10x=some y) ?_ ?_
             · rintro _ H
               replace H:topReadersS_j2 y1_1 v y2_1 w firsts e0_10x=some y:=H
               rw [topReadersS_j2] at H
               refine xj [100] (ι:=List (TL OpS)×Option Addr×Nat) (fun (e3_10x,e3_10a,e3_10c)=>⟨[(0,.int .i64 (wr ((2:Int)+y1_1))),(1,.int .i64 v),(2,.int .i64 w),(3,.slice firstsa firsts.length firstsc),(9,.pointer (some ⟨b2_2,0,none⟩)),(10,.slice e3_10a e3_10x.length e3_10c)],[⟨t10_2_b0,#[.pointer (some ⟨b_fab2,0,none⟩),.pointer (some ⟨b_trace3,0,none⟩),.int .i64 y11_10.2.c.nodes,.int .i64 y11_10.2.c.lines,.int .i64 y11_10.2.c.words,.int .i64 y11_10.2.c.sets,.int .i64 y11_10.2.c.ways,.int .i64 y11_10.2.c.out,.int .i64 y11_10.2.c.inn,.slice a_c_init4 y11_10.2.c.init.length c_c_init5,.slice a_nodes6 r_nodes8.length c_nodes7],70⟩,⟨b2_2,#[.int .i64 y2_1.nodes,.int .i64 y2_1.lines,.int .i64 y2_1.words,.int .i64 y2_1.sets,.int .i64 y2_1.ways,.int .i64 y2_1.out,.int .i64 y2_1.inn,.slice (some ⟨b3_1,0,none⟩) 1 1],25⟩],[(ArrA e3_10a e3_10c e3_10x),(FabA b_fab2 y11_10.2.fab),(TraceA b_trace3 y11_10.2.trace),(ImmA a_c_init4 c_c_init5 y11_10.2.c.init),(ArrA a_nodes6 c_nodes7 r_nodes8),(StA y11_10.2.nodes r_nodes8),firstsA,(ImmA (some ⟨b3_1,0,none⟩) 1 ([w]))]⟩) (fun (e3_10x,e3_10a,e3_10c)=>topReadersS_j3 y1_1 v y2_1 w firsts e3_10x=some y) ?_ ?_
               · rintro ⟨e3_10x,e3_10a,e3_10c⟩ H
                 replace H:topReadersS_j3 y1_1 v y2_1 w firsts e3_10x=some y:=H
                 rw [topReadersS_j3] at H
                 refine chkG H fun q28_6_1 H=>?_
                 refine xi [1,1] 0 (rA e3_10a e3_10c e3_10x) q28_6_1 fun b1 o1 e1=>?_
                 refine letG H fun x28_7 hx28_7 H=>?_
                 refine xo [] [] [0] (oc_ld (rA e3_10a e3_10c e3_10x) e1 q28_6_1 hx28_7 0) fun z28_7_1=>?_
                 refine xn [] fun b28_11=>?_
                 refine xg [] [0] [] (gh_own b28_11 29 2 ([(⟨(2:Int),(0:Int),v⟩:OpS),(⟨(1:Int),(0:Int),(0:Int)⟩:OpS)]:List OpS) [(),()] (fun _ _ _ _ _ _ _=>trivial)) fun _=>?_
                 refine chkG H fun q28_12_1 H=>?_
                 refine letG H fun l28_12 hl28_12 H=>?_
                 refine xat [] [1,0] (rI z28_7_1 x28_7.length x28_7) (rA (some ⟨b28_11,0,none⟩) 2 ([(⟨(2:Int),(0:Int),v⟩:OpS),(⟨(1:Int),(0:Int),(0:Int)⟩:OpS)])) hl28_12 (hl28_12▸q28_12_1.1) q28_12_1.2 fun ⟨a28_12,c28_12⟩=>?_
                 refine chkG H fun q28_13_1 H=>?_
                 refine xi [] 3 (rA e3_10a e3_10c e3_10x) q28_13_1 fun b2 o2 e2=>?_
                 refine xg [] [] [3] (gh_untl e3_10a e3_10c e3_10x) fun _=>?_
                 refine xg [] [] [1] (gh_frz a28_12 c28_12 l28_12) fun _=>?_
                 refine xg [] [] [0] (gh_dup a28_12 c28_12 l28_12) fun _=>?_
                 refine letG H fun l28_14 hl28_14 H=>?_
                 refine xo [] [] [2,0] (oc_st (α:=(List OpS)) (cap:=e3_10c) (e:=l28_12) (a28_12,c28_12) e2 q28_13_1 hl28_14) fun _=>?_
                 refine xw [300] 10 (congrArg (fun n:Nat=>(.slice e3_10a n e3_10c:Value)) (set_len hl28_14)) ?_
                 refine xw [300] 118 (congrArg (fun n:Nat=>(.slice e3_10a n e3_10c:Value)) (set_len hl28_14)) ?_
                 refine xw [300] 121 (congrArg (fun n:Nat=>(.slice e3_10a n e3_10c:Value)) (set_len hl28_14)) ?_
                 refine xg [1] [] [10] (gh_dup (some ⟨b3_1,0,none⟩) 1 ([w])) fun _=>?_
                 refine bindG H fun y29_2 hy29_2 H=>?_
                 refine xc [] [] [0,1] (mnewmF (some ⟨b3_1,0,none⟩) 1 e3_10a e3_10c (rA e3_10a e3_10c l28_14) hy29_2) fun t29_2_b0=>?_
                 refine xs [] H ?_ ?_
                 · intro H
                   exact xrY (someE H) [0,0,1,0,0,0,0,0,1,1] [] [] [11] ()
                 · intro H
                   refine optG H (fun hn30_3_9 H=>?_) fun n30_3_9 hn30_3_9 H=>?_
                   · refine xw [1,300] 12 (optV_n t29_2_b0 hn30_3_9) ?_
                     refine xw [300] 141 (optV_n t29_2_b0 hn30_3_9) ?_
                     exact xrY (someE H) [1,0,0,0,0,0,0,1,1] [] [] [11] ()
                   · refine xw [1,300] 12 (optV_s t29_2_b0 hn30_3_9) ?_
                     refine xw [300] 141 (optV_s t29_2_b0 hn30_3_9) ?_
                     refine xg [300] [] [0] (gh_opt (A:=MachA t29_2_b0) hn30_3_9) fun _=>?_
                     refine bindG H fun y30_10 hy30_10 H=>?_
                     refine xc [1,0,1,1,1,1] [] [0,0,9] (tendF t29_2_b0 e3_10a e3_10c firstsa firstsc (rA e3_10a e3_10c l28_14) hfirstsA hy30_10) fun _=>?_
                     refine xs [1,0] H ?_ ?_
                     · intro H
                       exact xrY (someE H) [1] [] [] [2] ()
                     · intro H
                       refine xg [0,1] [] [0] (gh_open (MachO t29_2_b0 y30_10.2)) fun ⟨b_fab10,b_trace11,a_c_init12,c_c_init13,a_nodes14,c_nodes15,r_nodes16⟩=>?_
                       refine bindG H fun y32_3 hy32_3 H=>?_
                       refine xc [] [0] [0,0,0,0,0] (mnodeF t29_2_b0 b_fab10 b_trace11 a_c_init12 c_c_init13 a_nodes14 c_nodes15 r_nodes16 hy32_3) fun _=>?_
                       refine optG H (fun hk32_3 H=>?_) fun k32_3 hk32_3 H=>?_
                       · refine xw [300] 154 (v:=(nodeV r_nodes16 y32_3)) (v':=.pointer none) (by rw [hk32_3]; rfl) ?_
                         exact (noneE H).elim
                       · refine xw [300] 154 (v:=(nodeV r_nodes16 y32_3)) (v':=.pointer (some ⟨(nthT r_nodes16 k32_3).b,0,none⟩)) (by rw [hk32_3]; rfl) ?_
                         refine xk [] [4] (st_len y30_10.2.nodes r_nodes16) fun hl32_6_1=>?_
                         refine chkG H fun q32_6_1 H=>?_
                         refine xg [] [] [4] (gh_sfoc y30_10.2.nodes r_nodes16 k32_3 (nthT r_nodes16 k32_3) rfl (rngB hl32_6_1 (rngE hl32_6_1 q32_6_1))) fun _=>?_
                         refine xg [] [] [0] (gh_open (NodeO (nthT r_nodes16 k32_3).b (nthS y30_10.2.nodes k32_3))) fun ⟨b_cache17,b_proc18,a_c_init19,c_c_init20,b_home21,a_deal_data22,c_deal_data23⟩=>?_
                         refine xg [0] [] [1] (gh_open (ProcO b_proc18 ((nthS y30_10.2.nodes k32_3).proc))) fun ⟨a_ops24,c_ops25,a_values26,c_values27⟩=>?_
                         refine bindG H fun y32_7 hy32_7 H=>?_
                         refine xc [] [0] [0,0] (prvalF b_proc18 a_ops24 c_ops25 a_values26 c_values27 hy32_7) fun ⟨t32_7_a0,t32_7_c0⟩=>?_
                         refine xs [] H ?_ ?_
                         · intro H
                           refine chkG H fun q33_5_1 H=>?_
                           refine xi [1,1] 0 (rA t32_7_a0 t32_7_c0 y32_7) q33_5_1 fun b3 o3 e3=>?_
                           refine xpl [1] 0 (ol_ld (rA t32_7_a0 t32_7_c0 y32_7) e3 q33_5_1 0 (fun _=>rfl)) ?_
                           refine xs [1,1,1] H ?_ ?_
                           · intro H
                             refine chkG H fun q33_12_1 H=>?_
                             refine xi [1,1] 0 (rA t32_7_a0 t32_7_c0 y32_7) q33_12_1 fun b4 o4 e4=>?_
                             refine xpl [1] 0 (ol_ld (rA t32_7_a0 t32_7_c0 y32_7) e4 q33_12_1 0 (fun _=>rfl)) ?_
                             refine xs [1,1] H ?_ ?_
                             · intro H
                               refine chkG H fun q33_18_1 H=>?_
                               refine xi [1,1] 0 (rA t32_7_a0 t32_7_c0 y32_7) q33_18_1 fun b5 o5 e5=>?_
                               refine xpl [1] 0 (ol_ld (rA t32_7_a0 t32_7_c0 y32_7) e5 q33_18_1 0 (fun _=>rfl)) ?_
                               refine xs [1,1,1] H ?_ ?_
                               · intro H
                                 refine xg [1,1,1] [0] [1,1] (gh_shut (ProcO b_proc18 ((nthS y30_10.2.nodes k32_3).proc)) (a_ops24,c_ops25,a_values26,c_values27)) fun _=>?_
                                 refine xg [] [0] [2,0,1,1,1] (gh_shut (NodeO (nthT r_nodes16 k32_3).b (nthS y30_10.2.nodes k32_3)) (b_cache17,b_proc18,a_c_init19,c_c_init20,b_home21,a_deal_data22,c_deal_data23)) fun _=>?_
                                 refine xg [] [] [0,1] (gh_sunfs y30_10.2.nodes r_nodes16 k32_3 (nthT r_nodes16 k32_3) rfl (rngB hl32_6_1 (rngE hl32_6_1 q32_6_1))) fun _=>?_
                                 refine bindG H fun y33_26 hy33_26 H=>?_
                                 refine xc [] [0] [2,2,2,2,0,1] (wsndF t29_2_b0 b_fab10 b_trace11 a_c_init12 c_c_init13 a_nodes14 c_nodes15 r_nodes16 e3_10a e3_10c (rA e3_10a e3_10c l28_14) hy33_26) fun _=>?_
                                 refine xs [1] H ?_ ?_
                                 · intro H
                                   refine bindG H fun y33_29 hy33_29 H=>?_
                                   refine xc [1] [] [] (twakesF hy33_29) fun _=>?_
                                   exact xrY (someE H) [1] [] [] [7] ()
                                 · intro H
                                   exact xrY (someE H) [0,0] [] [] [7] ()
                               · intro H
                                 refine xg [0,0,0,0,0,0] [0] [1,1] (gh_shut (ProcO b_proc18 ((nthS y30_10.2.nodes k32_3).proc)) (a_ops24,c_ops25,a_values26,c_values27)) fun _=>?_
                                 refine xg [] [0] [2,0,1,1,1] (gh_shut (NodeO (nthT r_nodes16 k32_3).b (nthS y30_10.2.nodes k32_3)) (b_cache17,b_proc18,a_c_init19,c_c_init20,b_home21,a_deal_data22,c_deal_data23)) fun _=>?_
                                 refine xg [] [] [0,1] (gh_sunfs y30_10.2.nodes r_nodes16 k32_3 (nthT r_nodes16 k32_3) rfl (rngB hl32_6_1 (rngE hl32_6_1 q32_6_1))) fun _=>?_
                                 exact xrY (someE H) [] [] [] [7] ()
                             · intro H
                               refine xg [0,0,0,0,0,0,0,0,0,0,0,0] [0] [1,1] (gh_shut (ProcO b_proc18 ((nthS y30_10.2.nodes k32_3).proc)) (a_ops24,c_ops25,a_values26,c_values27)) fun _=>?_
                               refine xg [] [0] [2,0,1,1,1] (gh_shut (NodeO (nthT r_nodes16 k32_3).b (nthS y30_10.2.nodes k32_3)) (b_cache17,b_proc18,a_c_init19,c_c_init20,b_home21,a_deal_data22,c_deal_data23)) fun _=>?_
                               refine xg [] [] [0,1] (gh_sunfs y30_10.2.nodes r_nodes16 k32_3 (nthT r_nodes16 k32_3) rfl (rngB hl32_6_1 (rngE hl32_6_1 q32_6_1))) fun _=>?_
                               exact xrY (someE H) [] [] [] [7] ()
                           · intro H
                             refine xg [0,0,0,0,0,0,0,0,0,0,0,0,0,0,0,0,0] [0] [1,1] (gh_shut (ProcO b_proc18 ((nthS y30_10.2.nodes k32_3).proc)) (a_ops24,c_ops25,a_values26,c_values27)) fun _=>?_
                             refine xg [] [0] [2,0,1,1,1] (gh_shut (NodeO (nthT r_nodes16 k32_3).b (nthS y30_10.2.nodes k32_3)) (b_cache17,b_proc18,a_c_init19,c_c_init20,b_home21,a_deal_data22,c_deal_data23)) fun _=>?_
                             refine xg [] [] [0,1] (gh_sunfs y30_10.2.nodes r_nodes16 k32_3 (nthT r_nodes16 k32_3) rfl (rngB hl32_6_1 (rngE hl32_6_1 q32_6_1))) fun _=>?_
                             exact xrY (someE H) [] [] [] [7] ()
                         · intro H
                           refine xg [0,0,0,0,0,0,0,0,0,0,0,0,0,0,0,0,0,0,0,0,0,0,0] [0] [1,1] (gh_shut (ProcO b_proc18 ((nthS y30_10.2.nodes k32_3).proc)) (a_ops24,c_ops25,a_values26,c_values27)) fun _=>?_
                           refine xg [] [0] [2,0,1,1,1] (gh_shut (NodeO (nthT r_nodes16 k32_3).b (nthS y30_10.2.nodes k32_3)) (b_cache17,b_proc18,a_c_init19,c_c_init20,b_home21,a_deal_data22,c_deal_data23)) fun _=>?_
                           refine xg [] [] [0,1] (gh_sunfs y30_10.2.nodes r_nodes16 k32_3 (nthT r_nodes16 k32_3) rfl (rngB hl32_6_1 (rngE hl32_6_1 q32_6_1))) fun _=>?_
                           exact xrY (someE H) [] [] [] [7] ()
               · intro N3 hN3
                 refine xl [] (ι:=List (TL OpS)×Int×Int×Option Addr×Nat) (fun (v4_10x,v4_108,v4_109,v4_10a,v4_10c)=>⟨[(0,.int .i64 (wr ((2:Int)+y1_1))),(1,.int .i64 v),(2,.int .i64 w),(3,.slice firstsa firsts.length firstsc),(9,.pointer (some ⟨b2_2,0,none⟩)),(10,.slice v4_10a v4_10x.length v4_10c),(108,.int .i64 v4_108),(109,.int .i64 v4_109)],[⟨t10_2_b0,#[.pointer (some ⟨b_fab2,0,none⟩),.pointer (some ⟨b_trace3,0,none⟩),.int .i64 y11_10.2.c.nodes,.int .i64 y11_10.2.c.lines,.int .i64 y11_10.2.c.words,.int .i64 y11_10.2.c.sets,.int .i64 y11_10.2.c.ways,.int .i64 y11_10.2.c.out,.int .i64 y11_10.2.c.inn,.slice a_c_init4 y11_10.2.c.init.length c_c_init5,.slice a_nodes6 r_nodes8.length c_nodes7],70⟩,⟨b2_2,#[.int .i64 y2_1.nodes,.int .i64 y2_1.lines,.int .i64 y2_1.words,.int .i64 y2_1.sets,.int .i64 y2_1.ways,.int .i64 y2_1.out,.int .i64 y2_1.inn,.slice (some ⟨b3_1,0,none⟩) 1 1],25⟩],[(ArrA v4_10a v4_10c v4_10x),(FabA b_fab2 y11_10.2.fab),(TraceA b_trace3 y11_10.2.trace),(ImmA a_c_init4 c_c_init5 y11_10.2.c.init),(ArrA a_nodes6 c_nodes7 r_nodes8),(StA y11_10.2.nodes r_nodes8),firstsA,(ImmA (some ⟨b3_1,0,none⟩) 1 ([w]))]⟩) (fun m4 (v4_10x,v4_108,v4_109,v4_10a,v4_10c)=>topReadersS_l4 (topReadersS_j3 y1_1 v y2_1 w firsts) m4 v4_10x v4_108 v4_109=some y) [0,0] [5,0,0,0,0,0,0,0] (64) (e0_10x,(e0_10x.length:Int),(0:Int),e0_10a,e0_10c) H ?_
                 rintro N4 (_ | m4) ⟨v4_10x,v4_108,v4_109,v4_10a,v4_10c⟩ H hN4
                 · exact (noneE H).elim
                 replace H:topReadersS_l4 (topReadersS_j3 y1_1 v y2_1 w firsts) (m4+1) v4_10x v4_108 v4_109=some y:=H
                 rw [topReadersS_l4] at H
                 refine xs [] H ?_ ?_
                 · intro H
                   refine xn [1] fun b26_3=>?_
                   refine chkG H fun q26_4_1 H=>?_
                   refine xi [] 0 (rA v4_10a v4_10c v4_10x) q26_4_1 fun b6 o6 e6=>?_
                   refine xg [] [0] [8] (gh_one b26_3 29 (⟨(1:Int),(0:Int),(0:Int)⟩:OpS) ()) fun _=>?_
                   refine xg [] [] [0] (gh_frz (some ⟨b26_3,0,none⟩) 1 ([(⟨(1:Int),(0:Int),(0:Int)⟩:OpS)])) fun _=>?_
                   refine xg [] [] [0] (gh_dup (some ⟨b26_3,0,none⟩) 1 ([(⟨(1:Int),(0:Int),(0:Int)⟩:OpS)])) fun _=>?_
                   refine letG H fun l26_5 hl26_5 H=>?_
                   refine xo [] [] [2,0] (oc_st (α:=(TL OpS)) (cap:=v4_10c) (e:=[(⟨(1:Int),(0:Int),(0:Int)⟩:OpS)]) (some ⟨b26_3,0,none⟩) e6 q26_4_1 hl26_5) fun _=>?_
                   refine xw [300] 10 (congrArg (fun n:Nat=>(.slice v4_10a n v4_10c:Value)) (set_len hl26_5)) ?_
                   refine xw [300] 112 (congrArg (fun n:Nat=>(.slice v4_10a n v4_10c:Value)) (set_len hl26_5)) ?_
                   refine chkG H fun q27_0_1 H=>?_
                   refine xd [0] (ap q27_0_1 an) ?_
                   exact xe [] _ [0,0] [0,1,1,1,1,1,1,1] (hN4 _ (l26_5,v4_108,v4_109+(1:Int),v4_10a,v4_10c) (Nat.lt_succ_self _) H)
                 · intro H
                   exact xe [0] _ [0,0] [0,0,0,0,0,0,0,0] (hN3 (v4_10x,v4_10a,v4_10c) H)
             · intro N2 hN2
               refine xl [] (ι:=Int) (fun v5_81=>⟨[(0,.int .i64 (wr ((2:Int)+y1_1))),(1,.int .i64 v),(2,.int .i64 w),(3,.slice firstsa firsts.length firstsc),(9,.pointer (some ⟨b2_2,0,none⟩)),(10,.slice e0_10a e0_10x.length e0_10c),(12,.pointer (some ⟨t10_2_b0,0,none⟩)),(80,.int .i64 e0_10x.length),(81,.int .i64 v5_81)],[⟨t10_2_b0,#[.pointer (some ⟨b_fab2,0,none⟩),.pointer (some ⟨b_trace3,0,none⟩),.int .i64 y11_10.2.c.nodes,.int .i64 y11_10.2.c.lines,.int .i64 y11_10.2.c.words,.int .i64 y11_10.2.c.sets,.int .i64 y11_10.2.c.ways,.int .i64 y11_10.2.c.out,.int .i64 y11_10.2.c.inn,.slice a_c_init4 y11_10.2.c.init.length c_c_init5,.slice a_nodes6 r_nodes8.length c_nodes7],70⟩,⟨b2_2,#[.int .i64 y2_1.nodes,.int .i64 y2_1.lines,.int .i64 y2_1.words,.int .i64 y2_1.sets,.int .i64 y2_1.ways,.int .i64 y2_1.out,.int .i64 y2_1.inn,.slice (some ⟨b3_1,0,none⟩) 1 1],25⟩],[(FabA b_fab2 y11_10.2.fab),(TraceA b_trace3 y11_10.2.trace),(ImmA a_c_init4 c_c_init5 y11_10.2.c.init),(ArrA a_nodes6 c_nodes7 r_nodes8),(StA y11_10.2.nodes r_nodes8),(ArrA e0_10a e0_10c e0_10x),firstsA,(ImmA (some ⟨b3_1,0,none⟩) 1 ([w]))]⟩) (fun m5 v5_81=>topReadersS_l5 e0_10x y11_10 w (topReadersS_j2 y1_1 v y2_1 w firsts e0_10x) m5 v5_81=some y) [0,0] [0,0,0,0,0,0,0,0] (64) ((0:Int)) H ?_
               rintro N5 (_ | m5) v5_81 H hN5
               · exact (noneE H).elim
               replace H:topReadersS_l5 e0_10x y11_10 w (topReadersS_j2 y1_1 v y2_1 w firsts e0_10x) (m5+1) v5_81=some y:=H
               rw [topReadersS_l5] at H
               refine xs [] H ?_ ?_
               · intro H
                 refine bindG H fun y19_2 hy19_2 H=>?_
                 refine xc [1] [0] [0,0,0,0,0] (mnodeF t10_2_b0 b_fab2 b_trace3 a_c_init4 c_c_init5 a_nodes6 c_nodes7 r_nodes8 hy19_2) fun _=>?_
                 refine optG H (fun hk19_2 H=>?_) fun k19_2 hk19_2 H=>?_
                 · refine xw [300] 87 (v:=(nodeV r_nodes8 y19_2)) (v':=.pointer none) (by rw [hk19_2]; rfl) ?_
                   exact (noneE H).elim
                 · refine xw [300] 87 (v:=(nodeV r_nodes8 y19_2)) (v':=.pointer (some ⟨(nthT r_nodes8 k19_2).b,0,none⟩)) (by rw [hk19_2]; rfl) ?_
                   refine xk [] [4] (st_len y11_10.2.nodes r_nodes8) fun hl19_5_1=>?_
                   refine chkG H fun q19_5_1 H=>?_
                   refine xg [] [] [4] (gh_sfoc y11_10.2.nodes r_nodes8 k19_2 (nthT r_nodes8 k19_2) rfl (rngB hl19_5_1 (rngE hl19_5_1 q19_5_1))) fun _=>?_
                   refine xg [] [] [0] (gh_open (NodeO (nthT r_nodes8 k19_2).b (nthS y11_10.2.nodes k19_2))) fun ⟨b_cache28,b_proc29,a_c_init30,c_c_init31,b_home32,a_deal_data33,c_deal_data34⟩=>?_
                   refine xg [0] [] [0] (gh_open (CacheO b_cache28 ((nthS y11_10.2.nodes k19_2).cache))) fun ⟨a_l35,c_l36⟩=>?_
                   refine bindG H fun y19_6 hy19_6 H=>?_
                   refine xc [] [0] [0] (cfindF b_cache28 a_l35 c_l36 hy19_6) fun ⟨t19_6_a0,t19_6_c0⟩=>?_
                   refine xn [] fun b19_10=>?_
                   refine xs [0] H ?_ ?_
                   · intro H
                     refine xg [0,0,1,0,0,0,0,1,1] [1] [1] (gh_shut (CacheO b_cache28 ((nthS y11_10.2.nodes k19_2).cache)) (a_l35,c_l36)) fun _=>?_
                     refine xg [] [1] [0,1,1,1,1] (gh_shut (NodeO (nthT r_nodes8 k19_2).b (nthS y11_10.2.nodes k19_2)) (b_cache28,b_proc29,a_c_init30,c_c_init31,b_home32,a_deal_data33,c_deal_data34)) fun _=>?_
                     refine xg [] [] [0,1] (gh_sunfs y11_10.2.nodes r_nodes8 k19_2 (nthT r_nodes8 k19_2) rfl (rngB hl19_5_1 (rngE hl19_5_1 q19_5_1))) fun _=>?_
                     exact xrY (someE H) [] [] [] [7] ()
                   · intro H
                     refine xs [1,1,0,0] H ?_ ?_
                     · intro H
                       refine xg [0,0,0,0,1,1] [1] [1] (gh_shut (CacheO b_cache28 ((nthS y11_10.2.nodes k19_2).cache)) (a_l35,c_l36)) fun _=>?_
                       refine xg [] [1] [0,1,1,1,1] (gh_shut (NodeO (nthT r_nodes8 k19_2).b (nthS y11_10.2.nodes k19_2)) (b_cache28,b_proc29,a_c_init30,c_c_init31,b_home32,a_deal_data33,c_deal_data34)) fun _=>?_
                       refine xg [] [] [0,1] (gh_sunfs y11_10.2.nodes r_nodes8 k19_2 (nthT r_nodes8 k19_2) rfl (rngB hl19_5_1 (rngE hl19_5_1 q19_5_1))) fun _=>?_
                       exact xrY (someE H) [] [] [] [7] ()
                     · intro H
                       refine bindG H fun y20_8 hy20_8 H=>?_
                       refine xc [1,0,1] [] [0] (ewordF t19_6_a0 t19_6_c0 (rA t19_6_a0 t19_6_c0 y19_6.1.data) hy20_8) fun _=>?_
                       refine xs [1,1,0] H ?_ ?_
                       · intro H
                         refine xg [1] [1] [1] (gh_shut (CacheO b_cache28 ((nthS y11_10.2.nodes k19_2).cache)) (a_l35,c_l36)) fun _=>?_
                         refine xg [] [1] [0,1,1,1,1] (gh_shut (NodeO (nthT r_nodes8 k19_2).b (nthS y11_10.2.nodes k19_2)) (b_cache28,b_proc29,a_c_init30,c_c_init31,b_home32,a_deal_data33,c_deal_data34)) fun _=>?_
                         refine xg [] [] [0,1] (gh_sunfs y11_10.2.nodes r_nodes8 k19_2 (nthT r_nodes8 k19_2) rfl (rngB hl19_5_1 (rngE hl19_5_1 q19_5_1))) fun _=>?_
                         exact xrY (someE H) [] [] [] [7] ()
                       · intro H
                         refine chkG H fun q22_0_1 H=>?_
                         refine xd [0,0] (ap q22_0_1 an) ?_
                         refine xg [] [1] [1] (gh_shut (CacheO b_cache28 ((nthS y11_10.2.nodes k19_2).cache)) (a_l35,c_l36)) fun _=>?_
                         refine xg [] [1] [0,1,1,1,1] (gh_shut (NodeO (nthT r_nodes8 k19_2).b (nthS y11_10.2.nodes k19_2)) (b_cache28,b_proc29,a_c_init30,c_c_init31,b_home32,a_deal_data33,c_deal_data34)) fun _=>?_
                         refine xg [] [] [0,1] (gh_sunfs y11_10.2.nodes r_nodes8 k19_2 (nthT r_nodes8 k19_2) rfl (rngB hl19_5_1 (rngE hl19_5_1 q19_5_1))) fun _=>?_
                         exact xe [] _ [1,1] [2,2,2,2,0,1,1,1] (hN5 _ (v5_81+(1:Int)) (Nat.lt_succ_self _) H)
               · intro H
                 exact xe [0] _ [0,0] [0,0,0,0,0,0,0,0] (hN2 () H)
         · intro N1 hN1
           refine xs [] H ?_ ?_
           · intro H
             exact xe [0,0,0,0,1,0,0,0,1] _ [0,0] [1,1,1,1,1,1,1,1] (hN1 (true) H)
           · intro H
             refine xs [1,1,1,1,0] H ?_ ?_
             · intro H
               exact xe [0,0,0,1] _ [0,0] [1,1,1,1,1,1,1,1] (hN1 (true) H)
             · intro H
               refine bindG H fun y14_10 hy14_10 H=>?_
               refine xc [1,1] [0] [1,1,1,1,1] (wlistF t10_2_b0 b_fab2 b_trace3 a_c_init4 c_c_init5 a_nodes6 c_nodes7 r_nodes8 hy14_10) fun _=>?_
               exact xe [1,0] _ [0,0] [0,0,0,0,0,1,1,1] (hN1 (!y14_10) H)
 · intro N0 hN0
   refine xl [] (ι:=List (TL OpS)×Int×Int×Option Addr×Nat) (fun (v6_10x,v6_32,v6_33,v6_10a,v6_10c)=>⟨[(0,.int .i64 (wr ((2:Int)+y1_1))),(1,.int .i64 v),(2,.int .i64 w),(3,.slice firstsa firsts.length firstsc),(9,.pointer (some ⟨b2_2,0,none⟩)),(10,.slice v6_10a v6_10x.length v6_10c),(32,.int .i64 v6_32),(33,.int .i64 v6_33)],[⟨b3_1,#[.int .i64 w],3⟩,⟨b2_2,#[.int .i64 y2_1.nodes,.int .i64 y2_1.lines,.int .i64 y2_1.words,.int .i64 y2_1.sets,.int .i64 y2_1.ways,.int .i64 y2_1.out,.int .i64 y2_1.inn,.slice (some ⟨b3_1,0,none⟩) 1 1],25⟩],[(ArrA v6_10a v6_10c v6_10x),firstsA]⟩) (fun m6 (v6_10x,v6_32,v6_33,v6_10a,v6_10c)=>topReadersS_l6 (topReadersS_j0 y2_1 w firsts y1_1 v) m6 v6_10x v6_32 v6_33=some y) [0,0] [0,1] (64) (l4_1,(l4_1.length:Int),(0:Int),some ⟨b4_1,0,none⟩,((wr ((2:Int)+y1_1))).toNat) H ?_
   rintro N6 (_ | m6) ⟨v6_10x,v6_32,v6_33,v6_10a,v6_10c⟩ H hN6
   · exact (noneE H).elim
   replace H:topReadersS_l6 (topReadersS_j0 y2_1 w firsts y1_1 v) (m6+1) v6_10x v6_32 v6_33=some y:=H
   rw [topReadersS_l6] at H
   refine xs [] H ?_ ?_
   · intro H
     refine xn [1] fun b8_3=>?_
     refine chkG H fun q8_4_1 H=>?_
     refine xi [] 0 (rA v6_10a v6_10c v6_10x) q8_4_1 fun b7 o7 e7=>?_
     refine xg [] [0] [2] (gh_one b8_3 29 (⟨(1:Int),(0:Int),(0:Int)⟩:OpS) ()) fun _=>?_
     refine xg [] [] [0] (gh_frz (some ⟨b8_3,0,none⟩) 1 ([(⟨(1:Int),(0:Int),(0:Int)⟩:OpS)])) fun _=>?_
     refine xg [] [] [0] (gh_dup (some ⟨b8_3,0,none⟩) 1 ([(⟨(1:Int),(0:Int),(0:Int)⟩:OpS)])) fun _=>?_
     refine letG H fun l8_5 hl8_5 H=>?_
     refine xo [] [] [2,0] (oc_st (α:=(TL OpS)) (cap:=v6_10c) (e:=[(⟨(1:Int),(0:Int),(0:Int)⟩:OpS)]) (some ⟨b8_3,0,none⟩) e7 q8_4_1 hl8_5) fun _=>?_
     refine xw [300] 10 (congrArg (fun n:Nat=>(.slice v6_10a n v6_10c:Value)) (set_len hl8_5)) ?_
     refine xw [300] 36 (congrArg (fun n:Nat=>(.slice v6_10a n v6_10c:Value)) (set_len hl8_5)) ?_
     refine chkG H fun q9_0_1 H=>?_
     refine xd [0] (ap q9_0_1 an) ?_
     exact xe [] _ [0,0] [0,1] (hN6 _ (l8_5,v6_32,v6_33+(1:Int),v6_10a,v6_10c) (Nat.lt_succ_self _) H)
   · intro H
     exact xe [0] _ [0,0] [0,0] (hN0 (v6_10x,v6_10a,v6_10c) H)
end
section
open Go
theorem wakes_true:twakesS=some true:=by kernel_rfl
end
section
open Go
theorem replay_ro {n:Nat} {ops:Nat→List OpS} (h:∀ k,∀ o∈ops k,o.kind=1):∀ {tr:List EventS} {y z:(Nat→Nat)×List Int},replay n ops y tr=some z→z.2=y.2
 |[],y,z,e=>by rw [← Option.some.inj e]
 |e::r,y,z,q=>by
  obtain ⟨u,h1,h2⟩:=replay_cons q
  obtain ⟨j,o,j1,j2,j3,j4,j5,j6,j7⟩:=evOk_some h1
  have hk:=h j o (List.mem_of_getElem? j6)
  have hu:u.2=y.2:=by
   rcases j7 with ⟨d1,d2,d3⟩ | ⟨d1,d3⟩
   · rw [d3]
     show opMem y.2 o=_
     unfold opMem
     rw [if_neg (by omega),if_neg (by omega)]
   · rw [d3]
  rw [replay_ro h h2,hu]
section
variable {g:CfgS} {s s':St} {ops:Nat→List OpS} {mem0' mem:List Int} {k:Nat} {L:Int}
def JR (g:CfgS) (s:St):Prop:=∀ k,k<nn g→((s.dl k).step≠0→(s.dl k).kind=1)∧(∀ L q,cv (s.nd k).cache L=some q→q.dirty=false∧L=0)∧((s.nd k).proc.values≠[]→cv (s.nd k).cache 0≠none)
theorem keepR (hg:GOk g) (ho:∀ k,∀ o∈ops k,o.kind=1∧oline g o=0):Keep g ops mem0' (JR g):=by
 intro s s' mem mem' I I' C J k hk
 have c:=C k hk
 have N:=I.nod k hk
 have hcur:∀ o,cur (s.nd k)=some o→o.kind=1∧oline g o=0:=fun o h=>by
  unfold cur at h
  rw [N.po] at h
  exact ho k o (List.mem_of_getElem? h)
 obtain ⟨j1,j2,j3⟩:=J k hk
 have hfull:fullB g (s.nd k)=true→False:=fun h=>by
  unfold fullB at h
  cases hc:cur (s.nd k) with
  |none=>rw [hc] at h; cases h
  |some o =>
   rw [hc] at h
   obtain ⟨-,o2⟩:=hcur o hc
   simp only [o2,Bool.and_eq_true,decide_eq_true_eq] at h
   have hn:cv (s.nd k).cache 0=none:=by simpa using h.1
   have he:(s.nd k).cache.l=[]:=by
    cases hl:(s.nd k).cache.l with
    |nil=>rfl
    |cons e r =>
     obtain ⟨x,hx⟩:=cf_some (L:=e.line) (l:=(s.nd k).cache.l) (e:=e) (by rw [hl]; simp) rfl
     have hv:cv (s.nd k).cache e.line=some (toCp x):=by unfold cv; rw [hx]; rfl
     have h0:=(j2 _ _ hv).2
     rw [h0,hn] at hv
     cases hv
   have hz:cnt (s.nd k).cache 0=0:=by unfold cnt; rw [he]; rfl
   have hy:=hg.y0
   rw [hz] at h
   have:=h.2
   omega
 refine ⟨fun hs=>?_,fun L q hq=>⟨?_,?_⟩,fun hv=>?_⟩
 · rcases c.de hs with ⟨a,b⟩ | ⟨o,o1,o2,o3⟩
   · exact b.trans (j1 a)
   · obtain ⟨k1,-⟩:=hcur o o1
     rcases (I'.dok k hk hs).kn with z | z | z
     · exact z
     · rcases o2 z with w | w <;> omega
     · rcases o3 z with w | w
       · omega
       · exact absurd w fun w=>hfull w
 · cases hd:q.dirty with
   |false=>rfl
   |true =>
    rcases c.dr L q hq hd with ⟨q0,a,b⟩ | ⟨a,b⟩
    · rw [(j2 L q0 a).1] at b; cases b
    · have:=j1 a; omega
 · rcases c.nw L (by rw [hq]; simp) with a | ⟨o,v,a1,a2,a3,-⟩
   · cases hx:cv (s.nd k).cache L with
     |none=>exact absurd hx a
     |some x=>exact (j2 L x hx).2
   · rw [← a3,(hcur o a1).2]
 · rcases c.va with a | ⟨o,v,a1,a2,a3,a4⟩
   · rw [a] at hv
     intro hn
     obtain ⟨X,x1,x2,x3⟩:=c.gn 0 (j3 hv) hn
     have:=(J X x1).1 x2
     omega
   · obtain ⟨k1,k2⟩:=hcur o a1
     have:=a4 (by omega)
     rw [k2] at this
     exact this
end
def ldO:OpS:=⟨1,0,0⟩
def rdC (n:Nat) (w:Int):CfgS:=⟨(n:Int),2,1,1,1,1,1,[w]⟩
theorem rdC_ok {n:Nat} {w:Int} (h0:1≤n) (h1:n≤6):GOk (rdC n w):=by
 refine ⟨?_,?_,?_,?_,?_,?_,?_,?_,?_,?_,?_,?_,?_,?_,?_⟩ <;> first | (show (1:Int)≤(n:Int); omega) | (show (n:Int)≤6; omega) | (unfold rdC; simp; done) | (unfold rdC; simp; omega)
theorem rdC_nn {n:Nat} {w:Int}:nn (rdC n w)=n:=by unfold nn rdC; simp
theorem rdC_mem {n:Nat} {w:Int}:mem0 (rdC n w)=[w,0]:=rfl
def rdP (n:Nat):List (TL OpS):=List.replicate n ([ldO]:List OpS)
def rdQ (n:Nat) (v:Int):List (List OpS):=(List.replicate n [ldO]).set (n - 1) [ldO,⟨2,0,v⟩,ldO]
section
variable {n:Nat} {v w:Int}
theorem ld_ok (h1:n≤6):OOk (rdC n w) ldO:=by
 refine ⟨?_,?_,?_,?_,?_,.inl rfl⟩
 · show (1:Int)≤1; omega
 · show (1:Int)≤4; omega
 · show (0:Int)≤0; omega
 · show (0:Int)<2*1; omega
 · exact in64_s (by show -1000000≤(0:Int)∧(0:Int)≤1000000; omega)
theorem st_ok (h1:n≤6) (hv:in64 v):OOk (rdC n w) ⟨2,0,v⟩:=by
 refine ⟨?_,?_,?_,?_,hv,.inr (.inl rfl)⟩
 · show (1:Int)≤2; omega
 · show (2:Int)≤4; omega
 · show (0:Int)≤0; omega
 · show (0:Int)<2*1; omega
theorem rdP_ok (h1:n≤6):PsOk (rdC n w) (List.replicate n [ldO]):=by
 refine ⟨by rw [rdC_nn]; simp,fun l hl=>?_,fun l hl o ho=>?_⟩
 · rw [List.eq_of_mem_replicate hl]; simp
 · rw [List.eq_of_mem_replicate hl] at ho
   rw [List.mem_singleton.1 ho]
   exact ld_ok h1
theorem rdQ_ok (h1:n≤6) (hv:in64 v):PsOk (rdC n w) (rdQ n v):=by
 refine ⟨by rw [rdC_nn]; unfold rdQ; simp,fun l hl=>?_,fun l hl o ho=>?_⟩
 · rcases List.mem_or_eq_of_mem_set hl with z | z
   · rw [List.eq_of_mem_replicate z]; simp
   · rw [z]; simp
 · rcases List.mem_or_eq_of_mem_set hl with z | z
   · rw [List.eq_of_mem_replicate z] at ho
     rw [List.mem_singleton.1 ho]
     exact ld_ok h1
   · rw [z] at ho
     simp at ho
     rcases ho with rfl | rfl | rfl
     · exact ld_ok h1
     · exact st_ok h1 hv
     · exact ld_ok h1
theorem opsP_eq (k:Nat):opsL (List.replicate n [ldO]) k=if k<n then [ldO] else []:=by
 unfold opsL
 rw [List.getD_eq_getElem?_getD,List.getElem?_replicate]
 split <;> rfl
theorem opsQ_eq (h0:1≤n) (k:Nat):opsL (rdQ n v) k=if k=n - 1 then [ldO,⟨2,0,v⟩,ldO] else if k<n then [ldO] else []:=by
 unfold opsL rdQ
 rw [List.getD_eq_getElem?_getD,List.getElem?_set]
 by_cases h:k=n - 1
 · rw [if_pos h.symm,if_pos h,if_pos (by rw [List.length_replicate]; omega)]
   rfl
 · rw [if_neg (Ne.symm h),if_neg h,List.getElem?_replicate]
   split <;> rfl
def rdB (n i:Nat) (b:List OpS):List (TL OpS):=(List.replicate i ([ldO]:List OpS)++List.replicate (n - i) b:List (List OpS))
theorem rdB_len {i:Nat} {b:List OpS} (h:i≤n):List.length (rdB n i b)=n:=by
 show List.length (List.replicate i ([ldO]:List OpS)++List.replicate (n - i) b:List (List OpS))=n
 rw [List.length_append,List.length_replicate,List.length_replicate]
 omega
theorem rdB_set {i:Nat} {b:List OpS} (h:i<n):setT (α:=TL OpS) (rdB n i b) (i:Int) ([ldO]:List OpS)=rdB n (i+1) b:=by
 have e:(List.replicate i ([ldO]:List OpS)++List.replicate (n - i) b).set i [ldO]=List.replicate (i+1) ([ldO]:List OpS)++List.replicate (n - (i+1)) b:=by
  rw [List.set_append_right _ _ (by simp),List.length_replicate,Nat.sub_self,show n - i=(n - (i+1))+1 by omega,List.replicate_succ,List.set_cons_zero,List.replicate_succ',List.append_assoc]
  rfl
 unfold setT
 rw [Int.toNat_natCast]
 exact e
theorem rdB_all {b:List OpS}:rdB n n b=rdP n:=by
 show (List.replicate n ([ldO]:List OpS)++List.replicate (n - n) b:List (List OpS))=List.replicate n ([ldO]:List OpS)
 rw [Nat.sub_self,List.replicate_zero,List.append_nil]
theorem rd_l6 {K:List (TL OpS)→Option Bool} (b:List OpS) (hn:n≤6):∀ (m i:Nat),i≤n→n<m+i→topReadersS_l6 K m (rdB n i b) (n:Int) (i:Int)=K (rdP n)
 |0,i,h1,h2=>by omega
 |m+1,i,h1,h2=>by
  rw [topReadersS_l6]
  by_cases hi:i<n
  · rw [decide_eq_true (by omega),cond_true,chk_true (by rw [rdB_len h1]; omega)]
    dsimp only [letP]
    rw [chk_true (by unfold inR; omega)]
    have ih:=rd_l6 (K:=K) b hn m (i+1) (by omega) (by omega)
    rw [show (((i+1:Nat)):Int)=(i:Int)+1 by omega] at ih
    exact Eq.trans (congrArg (fun z=>topReadersS_l6 K m z (n:Int) ((i:Int)+1)) (rdB_set hi)) ih
  · have:i=n:=by omega
    subst this
    rw [decide_eq_false (by omega),cond_false,rdB_all]
theorem rd_l4 {K:List (TL OpS)→Option Bool} (b:List OpS) (hn:n≤6):∀ (m i:Nat),i≤n→n<m+i→topReadersS_l4 K m (rdB n i b) (n:Int) (i:Int)=K (rdP n)
 |0,i,h1,h2=>by omega
 |m+1,i,h1,h2=>by
  rw [topReadersS_l4]
  by_cases hi:i<n
  · rw [decide_eq_true (by omega),cond_true,chk_true (by rw [rdB_len h1]; omega)]
    dsimp only [letP]
    rw [chk_true (by unfold inR; omega)]
    have ih:=rd_l4 (K:=K) b hn m (i+1) (by omega) (by omega)
    rw [show (((i+1:Nat)):Int)=(i:Int)+1 by omega] at ih
    exact Eq.trans (congrArg (fun z=>topReadersS_l4 K m z (n:Int) ((i:Int)+1)) (rdB_set hi)) ih
  · have:i=n:=by omega
    subst this
    rw [decide_eq_false (by omega),cond_false,rdB_all]
theorem rd_l5 {s:St} {mem:List Int} {ops:Nat→List OpS} {b:Bool} {K:Option Bool} (h0:1≤n) (hn:n≤6) (I:Inv (rdC n w) ops [w,0] mem s) (hall:∀ k,k<n→∃ e,cf (s.nd k).cache.l 0=some e∧e.dirty=false∧e.data=[w]):∀ (m i:Nat),i≤n→n<m+i →
 topReadersS_l5 (rdP n) (b,conc (rdC n w) s) w K m (i:Int)=K
 |0,i,h1,h2=>by omega
 |m+1,i,h1,h2=>by
  have hg:=rdC_ok (w:=w) h0 hn
  have hlen:List.length (rdP n)=n:=by unfold rdP; exact List.length_replicate
  rw [topReadersS_l5]
  by_cases hi:i<n
  · obtain ⟨e,e1,e2,e3⟩:=hall i hi
    have hi':i<nn (rdC n w):=by rw [rdC_nn]; exact hi
    rw [decide_eq_true (by omega),cond_true,mnode_eq hi',Option.bind_some]
    simp only [optM]
    rw [conc_nodes,chk_true (by omega),nth_nd hi',find_ok hg (I.nod i hi').co,Option.bind_some,e1]
    simp only [Bool.not_true,cond_false]
    rw [e2,cond_false]
    have hwd:ewordS e 0=some w:=by
     unfold ewordS eisS
     rw [e3]
     rfl
    rw [hwd,Option.bind_some,decide_eq_true rfl,Bool.not_true,cond_false,chk_true (by unfold inR; omega)]
    have ih:=rd_l5 (b:=b) (K:=K) h0 hn I hall m (i+1) (by omega) (by omega)
    rw [show (((i+1:Nat)):Int)=(i:Int)+1 by omega] at ih
    exact ih
  · rw [decide_eq_false (by omega),cond_false]
theorem topReaders_pure {n0:Int} (hn0:in64 n0) (hv:in64 v) (hw:in64 w) {firsts:List Int} (hf:∀ x∈firsts,in64 x):topReadersS n0 v w firsts=some true:=by
 obtain ⟨b,w1,-,w2⟩:=within_ok (n:=4) hn0 (by omega)
 obtain ⟨b0,b1,-⟩:=w2 (by omega)
 obtain ⟨n,hn⟩:∃ n:Nat,(n:Int)=2+b:=⟨(2+b).toNat,by omega⟩
 have h0:1≤n:=by omega
 have h6:n≤6:=by omega
 have hwr:wr (2+b)=(n:Int):=by rw [hn]; exact wr_in (by omega) (by omega)
 have hwr1:wr ((n:Int) - 1)=((n - 1:Nat):Int):=by rw [wr_in (by omega) (by omega)]; omega
 have hg:=rdC_ok (n:=n) (w:=w) h0 h6
 have hini:∀ x∈(rdC n w).init,in64 x:=fun x hx=>by rw [List.mem_singleton.1 hx]; exact hw
 have hnn:nn (rdC n w)=n:=rdC_nn
 unfold topReadersS
 rw [w1,Option.bind_some,hwr]
 unfold tsmallS
 rw [Option.bind_some,chk_true (by omega),Int.toNat_natCast]
 dsimp only [letP]
 rw [List.length_replicate]
 refine Eq.trans (rd_l6 (n:=n) ([]:List OpS) h6 64 0 (by omega) (by omega)) ?_
 unfold topReadersS_j0
 have hp:=rdP_ok (n:=n) (w:=w) h6
 have ho1:∀ k,∀ o∈opsL (List.replicate n [ldO]) k,o.kind=1∧oline (rdC n w) o=0:=fun k o ho=>by
  rw [opsP_eq] at ho
  split at ho
  · rw [List.mem_singleton.1 ho]; exact ⟨rfl,rfl⟩
  · cases ho
 have K1:=keepR (mem0':=mem0 (rdC n w)) hg ho1
 have hJ0:JR (rdC n w) (st0 (rdC n w) hg (List.replicate n [ldO])):=fun k hk=>⟨fun z=>absurd rfl z,fun L q hq=>(by cases hq),fun z=>absurd rfl z⟩
 obtain ⟨s1,mem1,e1,I1,J1,-,q1,l1⟩:=end_ok hg hp K1 hf (inv0 hg hp hini) hJ0 (mu0 hg hp)
 have hD:=done_of I1 q1 l1
 have hmem:mem1=[w,0]:=by
  obtain ⟨sn,r1,-⟩:=I1.rp
  exact (replay_ro (fun k o ho=>(ho1 k o ho).1) r1).trans rdC_mem
 have hnew:mnewmS (rdC n w) (rdP n)=some (some (conc (rdC n w) (st0 (rdC n w) hg (List.replicate n [ldO]))),0):=new_eq hg hp
 have hcfg:(⟨(n:Int),2,1,1,1,1,1,[w]⟩:CfgS)=rdC n w:=rfl
 have e1':tendS (conc (rdC n w) (st0 (rdC n w) hg (List.replicate n [ldO]))) (rdP n) firsts=some (true,conc (rdC n w) s1):=e1
 rw [hcfg,hnew,Option.bind_some]
 simp only [decide_true,Bool.not_true,cond_false,optM]
 rw [e1',Option.bind_some]
 simp only [Bool.not_true,cond_false]
 have g0:(0:Int)≤0:=by omega
 have g1:(0:Int)<(rdC n w).lines:=by show (0:Int)<2; omega
 obtain ⟨r,xs,r1,r2,N⟩:=hD.norm I1 g0 g1
 have hall:∀ k,k<n→∃ e,cf (s1.nd k).cache.l 0=some e∧e.dirty=false∧e.data=[w]:=fun k hk=>by
  have hk':k<nn (rdC n w):=by rw [hnn]; exact hk
  obtain ⟨-,j2,j3⟩:=J1 k hk'
  have hv1:(s1.nd k).proc.values.length=1:=by rw [hD.vals k hk',opsP_eq,if_pos hk]; rfl
  have hne:=j3 (fun z=>by rw [z] at hv1; cases hv1)
  cases hc:cv (s1.nd k).cache 0 with
  |none=>exact absurd hc hne
  |some q =>
   obtain ⟨e,c1,c2⟩:=cv_some hc
   have hq:=N.dt k q (by unfold cw; rw [if_pos hk']; exact hc)
   refine ⟨e,c1,?_,?_⟩
   · have:=(j2 0 q hc).1; rw [← c2] at this; exact this
   · rw [← c2] at hq
     rw [hmem] at hq
     exact hq
 have hxs:xs.length=n:=by
  rw [(cop_perm N).length_eq]
  unfold copiesN
  rw [List.filter_eq_self.2,List.length_range,hnn]
  intro k hk
  have hk':=List.mem_range.1 hk
  obtain ⟨e,c1,-⟩:=hall k (by rw [← hnn]; exact hk')
  unfold hasC cv
  rw [c1]
  rfl
 rw [wwalk_eq hg I1 g0 g1 r1 r2 N,Option.bind_some]
 simp only [Bool.not_true,cond_false]
 rw [hwr,decide_eq_true (by rw [toI_len,hxs]),Bool.not_true,cond_false,wlist_eq hg I1 g0 g1 r1 r2 N,Option.bind_some]
 unfold topReadersS_j1
 rw [Bool.not_true,cond_false]
 refine Eq.trans (rd_l5 (b:=true) (K:=topReadersS_j2 b v ⟨(n:Int),2,1,1,1,1,1,[]⟩ w firsts (rdP n)) h0 h6 (by rw [← rdC_mem (n:=n)]; exact I1) hall 64 0 (by omega) (by omega)) ?_
 unfold topReadersS_j2
 have hlen:List.length (rdP n)=n:=by unfold rdP; exact List.length_replicate
 rw [hlen]
 refine Eq.trans (rd_l4 (n:=n) ([ldO]:List OpS) h6 64 0 (by omega) (by omega)) ?_
 unfold topReadersS_j3
 rw [hwr,hwr1]
 have hat:(List.replicate n [ldO])[n - 1]?=some [ldO]:=by rw [List.getElem?_replicate,if_pos (by omega)]
 have hnth:nthT (α:=List OpS) (rdP n) ((n - 1:Nat):Int)=([ldO]:List OpS):=nthT_at (α:=List OpS) hat
 rw [hnth,chk_true (by rw [hlen]; omega)]
 dsimp only [letP]
 rw [chk_true (by simp),chk_true (by rw [hlen]; omega)]
 have hset:setT (α:=List OpS) (rdP n) ((n - 1:Nat):Int) (([ldO]:List OpS)++[⟨2,0,v⟩,⟨1,0,0⟩])=rdQ n v:=by
  unfold setT
  rw [Int.toNat_natCast]
  rfl
 rw [hset]
 have hpQ:=rdQ_ok (n:=n) (w:=w) h6 hv
 obtain ⟨s2,mem2,e2,I2,-,-,q2,l2⟩:=end_ok hg hpQ (J:=fun _=>True) (fun _ _ _ _ _ _ _ _=>trivial) hf (inv0 hg hpQ hini) trivial (mu0 hg hpQ)
 have hD2:=done_of I2 q2 l2
 have hnew2:mnewmS (⟨(n:Int),2,1,1,1,1,1,[w]⟩:CfgS) (rdQ n v)=some (some (conc (rdC n w) (st0 (rdC n w) hg (rdQ n v))),0):=new_eq hg hpQ
 have hk:n - 1<nn (rdC n w):=by rw [hnn]; omega
 have hvals:=vals_alone (R:=fun x=>x=0) I2 hk (fun x hx=>by omega) (fun o ho=>by
  rw [opsQ_eq h0,if_pos rfl] at ho
  simp at ho
  rcases ho with rfl | rfl | rfl <;> rfl) (fun j hj o ho=>by
  rw [opsQ_eq h0,if_neg hj] at ho
  split at ho
  · rw [List.mem_singleton.1 ho]
    exact ⟨by show (0:Int)≤0; omega,fun z=>by rcases z with z | z <;> cases z⟩
  · cases ho) (hD2.vals _ hk)
 have hvals':(s2.nd (n - 1)).proc.values=[w,0,v]:=by
  rw [hvals,opsQ_eq h0,if_pos rfl,rdC_mem]
  rfl
 rw [hnew2,Option.bind_some]
 simp only [decide_true,Bool.not_true,cond_false,optM]
 rw [e2,Option.bind_some]
 simp only [Bool.not_true,cond_false]
 rw [mnode_eq hk,Option.bind_some]
 simp only [optM]
 have hpr:prvalS (s2.nd (n - 1)).proc=some [w,0,v]:=by
  unfold prvalS cloneS
  rw [hvals',chk_true (by simp)]
  rfl
 rw [conc_nodes,chk_true (by omega),nth_nd hk,hpr,Option.bind_some]
 have t1:wsndS (conc (rdC n w) s2) (rdQ n v)=some true:=wsnd_eq hg hpQ I2 hD2
 rw [decide_eq_true (by rfl),cond_true,chk_true (by simp),decide_eq_true (by rfl),cond_true,chk_true (by simp),decide_eq_true (by rfl),cond_true,chk_true (by simp),decide_eq_true (by rfl),cond_true,t1,Option.bind_some,cond_true,wakes_true]
 rfl
end
end
section
open Go Go.RowKit Go.ChangeShapes
theorem Sat.came {W:World}:∀ {As:List Asn},(∀ A∈As,A.holds (fun _=>False) (fun b=>b<W.heap.size) (fun b=>W.heap[b]?))→Sat W As W:=by
 intro As h
 refine ⟨fun _=>False,fun b=>b<W.heap.size,?_,fun _ h=>h.elim,fun _ h=>h.elim,fun _ h=>h,fun _ h=>h,Below.refl _ _⟩
 induction As with
 |nil=>trivial
 |cons A As ih=>exact ⟨fun _=>False,fun _=>False,fun _ h=>h.elim,fun _ h=>h.elim,fun _ h=>h.elim,h A (by simp),ih fun B hB=>h B (by simp [hB])⟩
theorem walk_of {P:Program} {f:FuncId} {args:List Value} {As:List Asn} {post:Bool→Unit→Rs} {w:World} (hs:Sat w As w) (h:FnY P f args ⟨[],As⟩ (Z:=Unit) (fun y _=>.bool y) post true):Calls P f args.toArray w fun e w'=>e=.returned (.bool true)∧RowKit.Below w.heap.size w w':=by
 have hp:Sat w ((⟨[],As⟩:Rs).all []) w:=by
  have:(⟨[],As⟩:Rs).all []=As:=by simp [Rs.all,owns]
  rw [this]; exact hs
 exact (h w [] w hp).mono fun _ _ ⟨_,_,h1,⟨_,h2,_⟩,h3⟩=>⟨by rw [h1,h2],h3.below⟩
def IntsIn (W:World) (a:Option Addr) (len cap:Nat) (zs:List Int):Prop:=len=zs.length∧len≤cap∧cap≤9223372036854775807∧(∀ i,i<zs.length→∃ x,a=some x∧W.cell? (x.add i)=some (.int .i64 (zs.getD i 0)))∧∀ n∈zs,-9223372036854775808≤n∧n≤9223372036854775807
theorem IntsIn.none {W:World}:IntsIn W none 0 0 []:=⟨rfl,Nat.le_refl _,by omega,fun i h=>by simp at h,by simp⟩
theorem IntsIn.some {W:World} {x:Addr} {l c:Nat} {zs:List Int} (hl:l≤c) (hm:c≤9223372036854775807) (hz:zs.length=c) (hcell:∀ i,i<zs.length→W.cell? (x.add i)=.some (.int .i64 (zs.getD i 0))) (hwz:∀ n∈zs,(Lit.int .i64 n).wf=true) :
 IntsIn W (.some x) l c (zs.take l):=by
 refine ⟨by simp; omega,hl,hm,fun i hi=>⟨x,rfl,?_⟩,fun n hn=>bounds_i64 (hwz n (List.mem_of_mem_take hn))⟩
 rw [List.length_take] at hi
 rw [hcell i (by omega)]
 rw [List.getD_eq_getElem?_getD,List.getD_eq_getElem?_getD,List.getElem?_take_of_lt (by omega)]
theorem cell_block {W:World} {x:Addr} {v:Value} (h:W.cell? (x.add 0)=some v):∃ c T fr,x=⟨x.block,x.off,none⟩∧W.heap[x.block]?=some (.cells c T fr)∧x.block<W.heap.size:=by
 have h0:x.add 0=x:=by simp [Addr.add]
 rw [h0] at h
 unfold World.cell? at h
 cases ho:W.heap[x.block]? with
 |none=>rw [ho] at h; cases h
 |some o =>
  rw [ho] at h
  cases o with
  |cells c T fr =>
   simp only at h
   cases hs:x.spot with
   |some s=>rw [hs] at h; cases h
   |none =>
    refine ⟨c,T,fr,?_,rfl,(Array.getElem?_eq_some_iff.1 ho).1⟩
    cases x with
    |mk b o s=>cases hs; rfl
  |_=>cases h
theorem IntsIn.imm {W:World} {a:Option Addr} {len cap:Nat} {zs:List Int} (h:IntsIn W a len cap zs):(ImmA a cap zs).holds (fun _=>False) (fun b=>b<W.heap.size) (fun b=>W.heap[b]?):=by
 obtain ⟨rfl,h1,_,h2,_⟩:=h
 refine ⟨h1,List.replicate zs.length (),by simp,⟨rowsOf_k,?_⟩,fun i a x e1 e2=>trivial⟩
 cases zs with
 |nil=>exact .inl rfl
 |cons z zs =>
  obtain ⟨x,rfl,hx⟩:=h2 0 (by simp)
  obtain ⟨c,T,fr,e1,e2,e4⟩:=cell_block hx
  refine .inr ⟨x.block,x.off,c,T,fr,by rw [← e1],e4,e2,fun j v hj=>?_⟩
  have hrows:(rowsOf (z::zs) (List.replicate (z::zs).length ())).flatten=(z::zs).map (Value.int .i64):=by
   have:∀ l:List Int,(rowsOf l (List.replicate l.length ())).flatten=l.map (Value.int .i64):=by
    intro l
    induction l with
    |nil=>rfl
    |cons y l ih =>
     show ([Value.int .i64 y]::rowsOf l (List.replicate l.length ())).flatten=_
     rw [List.flatten_cons,ih]
     rfl
   exact this _
  rw [hrows,List.getElem?_map] at hj
  cases hy:(z::zs)[j]? with
  |none=>rw [hy] at hj; cases hj
  |some y =>
   rw [hy] at hj
   obtain rfl:=Option.some.inj hj
   have hjl:j<(z::zs).length:=(List.getElem?_eq_some_iff.1 hy).1
   obtain ⟨x',hx',hc⟩:=h2 j hjl
   obtain rfl:=Option.some.inj hx'
   rw [e1,add_none,cell_of e2,List.getD_eq_getElem?_getD,hy] at hc
   exact hc
end
section
open Go Go.RowKit Go.ChangeShapes
section
variable {H:Type} {enc:TypeId×Value→H} {P:Program} {W:World} {cs:Array Value} {n:Nat} {fs:Array Field} {xs:List (DataW H×List MemPlace)}
end
end
end Go.Proofs.YtcidmgkfaioceaaGreat
