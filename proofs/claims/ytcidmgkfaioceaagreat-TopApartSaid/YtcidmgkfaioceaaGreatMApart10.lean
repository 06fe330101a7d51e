/- Walks of the program's functions, and the plain laws of what they compute (part 10): TApart, T9, RB, InX, InY.
   Conditions: none. -/
import Derived.OpenShut
import Derived.ChangeArms
import Derived.ChangeSlices
import Derived.Test.YtcidmgkfaioceaaGreatMApart9
set_option linter.unusedVariables false
set_option linter.unusedSimpArgs false
set_option linter.unusedSectionVars false
set_option maxRecDepth 100000
set_option maxHeartbeats 4000000
namespace Go.Proofs.YtcidmgkfaioceaaGreat
section
open Go Go.RowKit
def topApartS_j1:Option (Bool) :=
 (twakesS).bind fun y30_0=>some y30_0
def topApartS_l2 (e0_9x:List (List OpS)) (y1_1:CfgS) (y19_3:Bool×MachS) (k1:Option (Bool)):Nat→Int→Option (Bool)
 |0,_=>none
 |m+1,v2_89=>(bif decide (v2_89<(e0_9x.length:Int)) then chk (0≤y1_1.nodes∧y1_1.nodes≤1099511627776) (letP (List.replicate (y1_1.nodes).toNat ([]:List OpS)) fun l24_2=>chk (0≤v2_89∧v2_89<(e0_9x.length:Int)) (letP (nthT e0_9x v2_89) fun x25_5=>chk (0≤v2_89∧v2_89<(l24_2.length:Int)) (letP (setT l24_2 v2_89 x25_5) fun l25_7=>(mnewmS y1_1 l25_7).bind fun y26_2=>(bif !(decide (y26_2.2=(0:Int))) then some false else (optM y26_2.1 (fun n27_3_2=>(tendS n27_3_2 l25_7 ([]:List Int)).bind fun y27_9=>(bif !y27_9.1 then some false else (mnodeS y27_9.2 v2_89).bind fun y27_15=>(optM y27_15 (fun k27_15=>chk (0≤k27_15∧k27_15<(y27_9.2.nodes.length:Int)) ((prvalS ((nthS y27_9.2.nodes k27_15).proc)).bind fun y27_19=>(mnodeS y19_3.2 v2_89).bind fun y27_22=>(optM y27_22 (fun k27_22=>chk (0≤k27_22∧k27_22<(y19_3.2.nodes.length:Int)) ((prvalS ((nthS y19_3.2.nodes k27_22).proc)).bind fun y27_26=>(sameS y27_19 y27_26).bind fun y27_27=>(bif !y27_27 then some false else chk (inR (v2_89+(1:Int))) ((topApartS_l2 e0_9x y1_1 y19_3 k1 m) (v2_89+(1:Int)))))) (none)))) (none)))) (some false)))))) else k1)
def topApartS_j0 (y1_1:CfgS) (l:List ChoiceS) (firsts:List Int) (e0_9x:List (List OpS)):Option (Bool) :=
 (mnewmS y1_1 e0_9x).bind fun y15_2=>(bif !(decide (y15_2.2=(0:Int))) then some false else (optM y15_2.1 (fun n16_3_1=>(trunS n16_3_1 l (60:Int)).bind fun y18_2=>(tendS y18_2 e0_9x firsts).bind fun y19_3=>(bif !y19_3.1 then some false else topApartS_l2 e0_9x y1_1 y19_3 topApartS_j1 64 (0:Int))) (some false)))
def topApartS_j4 (v3_28:Int) (r3:(List (List OpS))→Int→Option (Bool)) (e4_9x:List (List OpS)):Option (Bool) :=
 chk (inR (v3_28+(1:Int))) (r3 e4_9x (v3_28+(1:Int)))
def topApartS_j6 (v5_36:Int) (r5:(List (List OpS))→Int→Option (Bool)) (e6_9x:List (List OpS)):Option (Bool) :=
 chk (inR (v5_36+(1:Int))) (r5 e6_9x (v5_36+(1:Int)))
def topApartS_l5 (x7_3:List OpS) (v3_28:Int) (y1_1:CfgS) (k4:(List (List OpS))→Option (Bool)):Nat→(List (List OpS))→Int→Option (Bool)
 |0,_,_=>none
 |m+1,v5_9x,v5_36=>(bif decide (v5_36<(x7_3.length:Int)) then chk (0≤v5_36∧v5_36<(x7_3.length:Int)) (letP (nthT x7_3 v5_36) fun x9_1=>(bif decide (v3_28<y1_1.lines) then chk (1≤y1_1.words) (letP (wr ((wr (v3_28*y1_1.words))+(x9_1.addr.tmod y1_1.words))) fun u11_9=>chk (0≤v3_28∧v3_28<(v5_9x.length:Int)) (chk (((nthR v5_9x v3_28)++([(⟨x9_1.kind,u11_9,x9_1.value⟩:OpS)])).length≤1099511627776) (letP ((nthR v5_9x v3_28)++([(⟨x9_1.kind,u11_9,x9_1.value⟩:OpS)])) fun l12_8=>chk (0≤v3_28∧v3_28<(v5_9x.length:Int)) (letP (setR v5_9x v3_28 l12_8) fun l12_10=>(topApartS_j6 v5_36 (topApartS_l5 x7_3 v3_28 y1_1 k4 m)) l12_10)))) else (topApartS_j6 v5_36 (topApartS_l5 x7_3 v3_28 y1_1 k4 m)) v5_9x)) else k4 v5_9x)
def topApartS_l3 (y2_1:List (List OpS)) (y1_1:CfgS) (k0:(List (List OpS))→Option (Bool)):Nat→(List (List OpS))→Int→Option (Bool)
 |0,_,_=>none
 |m+1,v3_9x,v3_28=>(bif decide (v3_28<(y2_1.length:Int)) then chk (0≤v3_28∧v3_28<(y2_1.length:Int)) (letP (nthT y2_1 v3_28) fun x7_3=>topApartS_l5 x7_3 v3_28 y1_1 (topApartS_j4 v3_28 (topApartS_l3 y2_1 y1_1 k0 m)) 64 v3_9x (0:Int)) else k0 v3_9x)
def topApartS (s:SetupS) (l:List ChoiceS) (firsts:List Int):Option (Bool) :=
 (pconfS s).bind fun y1_1=>(pprogS s (20:Int)).bind fun y2_1=>chk (0≤y1_1.nodes∧y1_1.nodes≤1099511627776) (letP (List.replicate (y1_1.nodes).toNat ([]:List OpS)) fun l3_2=>topApartS_l3 y2_1 y1_1 (topApartS_j0 y1_1 l firsts) 64 l3_2 (0:Int))
theorem topApartF {s:SetupS} {s0A:Asn} {s1A:Asn} {s2A:Asn} {s3A:Asn} {s4A:Asn} {l:List ChoiceS} {lA:Asn} {firsts:List Int} {firstsA:Asn} (s0a:Option Addr) (s0c:Nat) (s1a:Option Addr) (s1c:Nat) (s2a:Option Addr) (s2c:Nat) (s3a:Option Addr) (s3c:Nat) (s4a:Option Addr) (s4c:Nat) (la:Option Addr) (lc:Nat) (firstsa:Option Addr) (firstsc:Nat) (hs0A:Rdb s0A s0a s0c s.init) (hs1A:Rdb s1A s1a s1c s.who) (hs2A:Rdb s2A s2a s2c s.kinds) (hs3A:Rdb s3A s3a s3c s.addrs) (hs4A:Rdb s4A s4a s4c s.values) (hlA:Rdb lA la lc l) (hfirstsA:Rdb firstsA firstsa firstsc firsts) {y:Bool} (H:topApartS s l firsts=some y):FnY Tryz.prog 5 [.agg #[.int .i64 s.nodes,.int .i64 s.lines,.int .i64 s.words,.int .i64 s.sets,.int .i64 s.ways,.int .i64 s.out,.int .i64 s.inn,.slice s0a s.init.length s0c,.slice s1a s.who.length s1c,.slice s2a s.kinds.length s2c,.slice s3a s.addrs.length s3c,.slice s4a s.values.length s4c],.slice la l.length lc,.slice firstsa firsts.length firstsc] ⟨[],[s0A,s1A,s2A,s3A,s4A,lA,firstsA]⟩ (Z:=Unit) (fun y _=>.bool y) (fun y _=>⟨[],[s0A,s1A,s2A,s3A,s4A,lA,firstsA]⟩) y:=by
 unfold topApartS at H
 refine xfY Tryz.func5 fun W0 F=>?_
 refine xn [] fun b0_0=>?_
 refine bindG H fun y1_1 hy1_1 H=>?_
 refine xc [0] [] [0,0,0,0,0] (pconfF s0a s0c s1a s1c s2a s2c s3a s3c s4a s4c hs0A hs1A hs2A hs3A hs4A hy1_1) fun ⟨t1_1_a0,t1_1_c0⟩=>?_
 refine xn [] fun b1_2=>?_
 refine bindG H fun y2_1 hy2_1 H=>?_
 refine xc [0,1] [] [1,1,1,1,1] (pprogF s0a s0c s1a s1c s2a s2c s3a s3c s4a s4c hs0A hs1A hs2A hs3A hs4A hy2_1) fun ⟨t2_1_a0,t2_1_c0⟩=>?_
 refine chkG H fun q3_2_1 H=>?_
 refine letG H fun l3_2 hl3_2 H=>?_
 refine xmkO (α:=List OpS) [0] q3_2_1 hl3_2 roList_d fun b3_2=>?_
 refine xj [100] (ι:=List (List OpS)×Option Addr×Nat) (fun (e0_9x,e0_9a,e0_9c)=>⟨[(1,.slice la l.length lc),(2,.slice firstsa firsts.length firstsc),(7,.pointer (some ⟨b1_2,0,none⟩)),(9,.slice e0_9a e0_9x.length e0_9c)],[⟨b1_2,#[.int .i64 y1_1.nodes,.int .i64 y1_1.lines,.int .i64 y1_1.words,.int .i64 y1_1.sets,.int .i64 y1_1.ways,.int .i64 y1_1.out,.int .i64 y1_1.inn,.slice t1_1_a0 y1_1.init.length t1_1_c0],25⟩],[(ArrO e0_9a e0_9c e0_9x),s0A,s1A,s2A,s3A,s4A,(ArrA t1_1_a0 t1_1_c0 y1_1.init),lA,firstsA]⟩) (fun (e0_9x,e0_9a,e0_9c)=>topApartS_j0 y1_1 l firsts e0_9x=some y) ?_ ?_
 · rintro ⟨e0_9x,e0_9a,e0_9c⟩ H
   replace H:topApartS_j0 y1_1 l firsts e0_9x=some y:=H
   rw [topApartS_j0] at H
   refine xg [0] [] [6] (gh_frz t1_1_a0 t1_1_c0 y1_1.init) fun _=>?_
   refine xg [] [] [0] (gh_dup t1_1_a0 t1_1_c0 y1_1.init) fun _=>?_
   refine xg [] [] [2] (gh_frzO e0_9a e0_9c e0_9x) fun _=>?_
   refine bindG H fun y15_2 hy15_2 H=>?_
   refine xc [] [] [1,0] (mnewmF t1_1_a0 t1_1_c0 e0_9a e0_9c (rA e0_9a e0_9c e0_9x) hy15_2) fun t15_2_b0=>?_
   refine xs [] H ?_ ?_
   · intro H
     exact xrY (someE H) [0,0,1,1] [] [] [3,3,3,3,3,3,3] ()
   · intro H
     refine optG H (fun hn16_3_1 H=>?_) fun n16_3_1 hn16_3_1 H=>?_
     · refine xw [1,300] 13 (optV_n t15_2_b0 hn16_3_1) ?_
       refine xw [300] 76 (optV_n t15_2_b0 hn16_3_1) ?_
       exact xrY (someE H) [1,0,1] [] [] [3,3,3,3,3,3,3] ()
     · refine xw [1,300] 13 (optV_s t15_2_b0 hn16_3_1) ?_
       refine xw [300] 76 (optV_s t15_2_b0 hn16_3_1) ?_
       refine xg [300] [] [0] (gh_opt (A:=MachA t15_2_b0) hn16_3_1) fun _=>?_
       refine bindG H fun y18_2 hy18_2 H=>?_
       refine xc [1,0,0] [] [0,7] (trunF t15_2_b0 la lc hlA hy18_2) fun _=>?_
       refine bindG H fun y19_3 hy19_3 H=>?_
       refine xc [] [] [0,1,7] (tendF t15_2_b0 e0_9a e0_9c firstsa firstsc (rA e0_9a e0_9c e0_9x) hfirstsA hy19_3) fun _=>?_
       refine xs [] H ?_ ?_
       · intro H
         exact xrY (someE H) [1] [] [] [5,5,5,5,5,3,2] ()
       · intro H
         refine xj [0,100] (ι:=Unit) (fun _=>⟨[],[],[(MachA t15_2_b0 y19_3.2),firstsA,lA,s0A,s1A,s2A,s3A,s4A]⟩) (fun _=>topApartS_j1=some y) ?_ ?_
         · rintro _ H
           replace H:topApartS_j1=some y:=H
           rw [topApartS_j1] at H
           refine bindG H fun y30_0 hy30_0 H=>?_
           refine xc [] [] [] (twakesF hy30_0) fun _=>?_
           exact xrY (someE H) [] [] [] [3,3,3,3,3,2,1] ()
         · intro N1 hN1
           refine xl [] (ι:=Int) (fun v2_89=>⟨[(7,.pointer (some ⟨b1_2,0,none⟩)),(9,.slice e0_9a e0_9x.length e0_9c),(13,.pointer (some ⟨t15_2_b0,0,none⟩)),(88,.int .i64 e0_9x.length),(89,.int .i64 v2_89)],[⟨b1_2,#[.int .i64 y1_1.nodes,.int .i64 y1_1.lines,.int .i64 y1_1.words,.int .i64 y1_1.sets,.int .i64 y1_1.ways,.int .i64 y1_1.out,.int .i64 y1_1.inn,.slice t1_1_a0 y1_1.init.length t1_1_c0],25⟩],[(MachA t15_2_b0 y19_3.2),(ArrA e0_9a e0_9c e0_9x),firstsA,lA,(ImmA t1_1_a0 t1_1_c0 y1_1.init),s0A,s1A,s2A,s3A,s4A]⟩) (fun m2 v2_89=>topApartS_l2 e0_9x y1_1 y19_3 (topApartS_j1) m2 v2_89=some y) [0] [0,0,0,0,0,0,0,0,0,0] (64) ((0:Int)) H ?_
           rintro N2 (_ | m2) v2_89 H hN2
           · exact (noneE H).elim
           replace H:topApartS_l2 e0_9x y1_1 y19_3 (topApartS_j1) (m2+1) v2_89=some y:=H
           rw [topApartS_l2] at H
           refine xs [] H ?_ ?_
           · intro H
             refine chkG H fun q24_2_1 H=>?_
             refine letG H fun l24_2 hl24_2 H=>?_
             refine xmkO (α:=List OpS) [1,0] q24_2_1 hl24_2 roList_d fun b24_2=>?_
             refine chkG H fun q25_4_1 H=>?_
             refine xi [] 2 (rA e0_9a e0_9c e0_9x) q25_4_1 fun b1 o1 e1=>?_
             refine letG H fun x25_5 hx25_5 H=>?_
             refine xo [] [] [2] (oc_ld (rA e0_9a e0_9c e0_9x) e1 q25_4_1 hx25_5 0) fun z25_5_1=>?_
             refine chkG H fun q25_6_1 H=>?_
             refine xg [] [] [2] (gh_foc (some ⟨b24_2,0,none⟩) ((y1_1.nodes).toNat) l24_2 v2_89 q25_6_1) fun ⟨wa1,wc1⟩=>?_
             refine xiG (K:=1) [] 1 (ix_hol (some ⟨b24_2,0,none⟩) ((y1_1.nodes).toNat) l24_2 v2_89 (wa1,wc1) q25_6_1) q25_6_1 fun b2 o2 e2=>?_
             refine xg [] [] [0,0] (gh_unfs (some ⟨b24_2,0,none⟩) ((y1_1.nodes).toNat) l24_2 v2_89 (wa1,wc1) q25_6_1) fun _=>?_
             refine xg [] [] [0] (gh_frzO (some ⟨b24_2,0,none⟩) ((y1_1.nodes).toNat) l24_2) fun _=>?_
             refine xg [] [] [1] (gh_dup z25_5_1.1 z25_5_1.2 x25_5) fun _=>?_
             refine letG H fun l25_7 hl25_7 H=>?_
             refine xo [] [] [2,0] (oc_st (α:=(List OpS)) (cap:=(y1_1.nodes).toNat) (e:=x25_5) (z25_5_1.1,z25_5_1.2) e2 q25_6_1 hl25_7) fun _=>?_
             refine xw [300] 16 (congrArg (fun n:Nat=>(.slice (some ⟨b24_2,0,none⟩) n ((y1_1.nodes).toNat):Value)) (set_len hl25_7)) ?_
             refine xw [300] 95 (congrArg (fun n:Nat=>(.slice (some ⟨b24_2,0,none⟩) n ((y1_1.nodes).toNat):Value)) (set_len hl25_7)) ?_
             refine xg [0] [] [6] (gh_dup t1_1_a0 t1_1_c0 y1_1.init) fun _=>?_
             refine bindG H fun y26_2 hy26_2 H=>?_
             refine xc [] [] [0,1] (mnewmF t1_1_a0 t1_1_c0 (some ⟨b24_2,0,none⟩) ((y1_1.nodes).toNat) (rA (some ⟨b24_2,0,none⟩) ((y1_1.nodes).toNat) l25_7) hy26_2) fun t26_2_b0=>?_
             refine xs [] H ?_ ?_
             · intro H
               exact xrY (someE H) [0,0,1,0,0,0,0,1,0,0,0,0,0,0,0,0,0,0,0,0,0,0,0,0,1,1] [] [] [8,8,8,8,8,7,6] ()
             · intro H
               refine optG H (fun hn27_3_2 H=>?_) fun n27_3_2 hn27_3_2 H=>?_
               · refine xw [1,300] 17 (optV_n t26_2_b0 hn27_3_2) ?_
                 refine xw [300] 111 (optV_n t26_2_b0 hn27_3_2) ?_
                 exact xrY (someE H) [1,0,0,0,0,0,1,0,0,0,0,0,0,0,0,0,0,0,0,0,0,0,0,1,1] [] [] [8,8,8,8,8,7,6] ()
               · refine xw [1,300] 17 (optV_s t26_2_b0 hn27_3_2) ?_
                 refine xw [300] 111 (optV_s t26_2_b0 hn27_3_2) ?_
                 refine xg [300] [] [0] (gh_opt (A:=MachA t26_2_b0) hn27_3_2) fun _=>?_
                 refine xg [1,0,1,1,1] [] [] (gh_nil (α:=Int) none) fun _=>?_
                 refine bindG H fun y27_9 hy27_9 H=>?_
                 refine xc [] [] [1,1,0] (tendF t26_2_b0 (some ⟨b24_2,0,none⟩) ((y1_1.nodes).toNat) none 0 (rA (some ⟨b24_2,0,none⟩) ((y1_1.nodes).toNat) l25_7) (rA none 0 ([]:List Int)) hy27_9) fun _=>?_
                 refine xs [1,0] H ?_ ?_
                 · intro H
                   exact xrY (someE H) [0,0,0,0,0,0,0,0,0,0,0,0,0,0,0,0,1,1] [] [] [9,9,9,9,9,8,7] ()
                 · intro H
                   refine xg [1,1,1] [] [0] (gh_open (MachO t26_2_b0 y27_9.2)) fun ⟨b_fab3,b_trace4,a_c_init5,c_c_init6,a_nodes7,c_nodes8,r_nodes9⟩=>?_
                   refine bindG H fun y27_15 hy27_15 H=>?_
                   refine xc [1] [0] [0,0,0,0,0] (mnodeF t26_2_b0 b_fab3 b_trace4 a_c_init5 c_c_init6 a_nodes7 c_nodes8 r_nodes9 hy27_15) fun _=>?_
                   refine optG H (fun hk27_15 H=>?_) fun k27_15 hk27_15 H=>?_
                   · refine xw [300] 123 (v:=(nodeV r_nodes9 y27_15)) (v':=.pointer none) (by rw [hk27_15]; rfl) ?_
                     exact (noneE H).elim
                   · refine xw [300] 123 (v:=(nodeV r_nodes9 y27_15)) (v':=.pointer (some ⟨(nthT r_nodes9 k27_15).b,0,none⟩)) (by rw [hk27_15]; rfl) ?_
                     refine xk [1,1,1] [4] (st_len y27_9.2.nodes r_nodes9) fun hl27_18_1=>?_
                     refine chkG H fun q27_18_1 H=>?_
                     refine xg [] [] [4] (gh_sfoc y27_9.2.nodes r_nodes9 k27_15 (nthT r_nodes9 k27_15) rfl (rngB hl27_18_1 (rngE hl27_18_1 q27_18_1))) fun _=>?_
                     refine xg [1] [] [0] (gh_open (NodeO (nthT r_nodes9 k27_15).b (nthS y27_9.2.nodes k27_15))) fun ⟨b_cache10,b_proc11,a_c_init12,c_c_init13,b_home14,a_deal_data15,c_deal_data16⟩=>?_
                     refine xg [1,0,1] [] [1] (gh_open (ProcO b_proc11 ((nthS y27_9.2.nodes k27_15).proc))) fun ⟨a_ops17,c_ops18,a_values19,c_values20⟩=>?_
                     refine bindG H fun y27_19 hy27_19 H=>?_
                     refine xc [1] [0] [0,0] (prvalF b_proc11 a_ops17 c_ops18 a_values19 c_values20 hy27_19) fun ⟨t27_19_a0,t27_19_c0⟩=>?_
                     refine xg [1,1,1] [] [17] (gh_open (MachO t15_2_b0 y19_3.2)) fun ⟨b_fab21,b_trace22,a_c_init23,c_c_init24,a_nodes25,c_nodes26,r_nodes27⟩=>?_
                     refine bindG H fun y27_22 hy27_22 H=>?_
                     refine xc [1] [0] [0,0,0,0,0] (mnodeF t15_2_b0 b_fab21 b_trace22 a_c_init23 c_c_init24 a_nodes25 c_nodes26 r_nodes27 hy27_22) fun _=>?_
                     refine optG H (fun hk27_22 H=>?_) fun k27_22 hk27_22 H=>?_
                     · refine xw [300] 130 (v:=(nodeV r_nodes27 y27_22)) (v':=.pointer none) (by rw [hk27_22]; rfl) ?_
                       exact (noneE H).elim
                     · refine xw [300] 130 (v:=(nodeV r_nodes27 y27_22)) (v':=.pointer (some ⟨(nthT r_nodes27 k27_22).b,0,none⟩)) (by rw [hk27_22]; rfl) ?_
                       refine xk [1,1,1] [4] (st_len y19_3.2.nodes r_nodes27) fun hl27_25_1=>?_
                       refine chkG H fun q27_25_1 H=>?_
                       refine xg [] [] [4] (gh_sfoc y19_3.2.nodes r_nodes27 k27_22 (nthT r_nodes27 k27_22) rfl (rngB hl27_25_1 (rngE hl27_25_1 q27_25_1))) fun _=>?_
                       refine xg [1] [] [0] (gh_open (NodeO (nthT r_nodes27 k27_22).b (nthS y19_3.2.nodes k27_22))) fun ⟨b_cache28,b_proc29,a_c_init30,c_c_init31,b_home32,a_deal_data33,c_deal_data34⟩=>?_
                       refine xg [1,0,1] [] [1] (gh_open (ProcO b_proc29 ((nthS y19_3.2.nodes k27_22).proc))) fun ⟨a_ops35,c_ops36,a_values37,c_values38⟩=>?_
                       refine bindG H fun y27_26 hy27_26 H=>?_
                       refine xc [1] [0] [0,0] (prvalF b_proc29 a_ops35 c_ops36 a_values37 c_values38 hy27_26) fun ⟨t27_26_a0,t27_26_c0⟩=>?_
                       refine bindG H fun y27_27 hy27_27 H=>?_
                       refine xc [1] [] [12,0] (sameF t27_19_a0 t27_19_c0 t27_26_a0 t27_26_c0 (rA t27_19_a0 t27_19_c0 y27_19) (rA t27_26_a0 t27_26_c0 y27_26) hy27_27) fun _=>?_
                       refine xs [1,0] H ?_ ?_
                       · intro H
                         refine xg [1] [0] [2,2] (gh_shut (ProcO b_proc29 ((nthS y19_3.2.nodes k27_22).proc)) (a_ops35,c_ops36,a_values37,c_values38)) fun _=>?_
                         refine xg [] [0] [3,0,2,2,2] (gh_shut (NodeO (nthT r_nodes27 k27_22).b (nthS y19_3.2.nodes k27_22)) (b_cache28,b_proc29,a_c_init30,c_c_init31,b_home32,a_deal_data33,c_deal_data34)) fun _=>?_
                         refine xg [] [] [0,2] (gh_sunfs y19_3.2.nodes r_nodes27 k27_22 (nthT r_nodes27 k27_22) rfl (rngB hl27_25_1 (rngE hl27_25_1 q27_25_1))) fun _=>?_
                         refine xg [] [1] [7,7] (gh_shut (ProcO b_proc11 ((nthS y27_9.2.nodes k27_15).proc)) (a_ops17,c_ops18,a_values19,c_values20)) fun _=>?_
                         refine xg [] [1] [8,0,7,7,7] (gh_shut (NodeO (nthT r_nodes9 k27_15).b (nthS y27_9.2.nodes k27_15)) (b_cache10,b_proc11,a_c_init12,c_c_init13,b_home14,a_deal_data15,c_deal_data16)) fun _=>?_
                         refine xg [] [] [0,7] (gh_sunfs y27_9.2.nodes r_nodes9 k27_15 (nthT r_nodes9 k27_15) rfl (rngB hl27_18_1 (rngE hl27_18_1 q27_18_1))) fun _=>?_
                         exact xrY (someE H) [] [] [] [19,19,19,19,19,18,17] ()
                       · intro H
                         refine chkG H fun q29_0_1 H=>?_
                         refine xd [0,0] (ap q29_0_1 an) ?_
                         refine xg [] [0] [2,2] (gh_shut (ProcO b_proc29 ((nthS y19_3.2.nodes k27_22).proc)) (a_ops35,c_ops36,a_values37,c_values38)) fun _=>?_
                         refine xg [] [0] [3,0,2,2,2] (gh_shut (NodeO (nthT r_nodes27 k27_22).b (nthS y19_3.2.nodes k27_22)) (b_cache28,b_proc29,a_c_init30,c_c_init31,b_home32,a_deal_data33,c_deal_data34)) fun _=>?_
                         refine xg [] [] [0,2] (gh_sunfs y19_3.2.nodes r_nodes27 k27_22 (nthT r_nodes27 k27_22) rfl (rngB hl27_25_1 (rngE hl27_25_1 q27_25_1))) fun _=>?_
                         refine xg [] [1] [7,7] (gh_shut (ProcO b_proc11 ((nthS y27_9.2.nodes k27_15).proc)) (a_ops17,c_ops18,a_values19,c_values20)) fun _=>?_
                         refine xg [] [1] [8,0,7,7,7] (gh_shut (NodeO (nthT r_nodes9 k27_15).b (nthS y27_9.2.nodes k27_15)) (b_cache10,b_proc11,a_c_init12,c_c_init13,b_home14,a_deal_data15,c_deal_data16)) fun _=>?_
                         refine xg [] [] [0,7] (gh_sunfs y27_9.2.nodes r_nodes9 k27_15 (nthT r_nodes9 k27_15) rfl (rngB hl27_18_1 (rngE hl27_18_1 q27_18_1))) fun _=>?_
                         refine xg [] [0] [4,4,4,4,1] (gh_shut (MachO t15_2_b0 y19_3.2) (b_fab21,b_trace22,a_c_init23,c_c_init24,a_nodes25,c_nodes26,r_nodes27)) fun _=>?_
                         exact xe [] _ [1] [0,11,11,11,9,10,10,10,10,10] (hN2 _ (v2_89+(1:Int)) (Nat.lt_succ_self _) H)
           · intro H
             exact xe [0] _ [] [0,1,1,2,2,2,2,2] (hN1 () H)
 · intro N0 hN0
   refine xl [] (ι:=List (List OpS)×Int×Option Addr×Nat) (fun (v3_9x,v3_28,v3_9a,v3_9c)=>⟨[(1,.slice la l.length lc),(2,.slice firstsa firsts.length firstsc),(7,.pointer (some ⟨b1_2,0,none⟩)),(8,.slice t2_1_a0 y2_1.length t2_1_c0),(9,.slice v3_9a v3_9x.length v3_9c),(27,.int .i64 y2_1.length),(28,.int .i64 v3_28)],[⟨b1_2,#[.int .i64 y1_1.nodes,.int .i64 y1_1.lines,.int .i64 y1_1.words,.int .i64 y1_1.sets,.int .i64 y1_1.ways,.int .i64 y1_1.out,.int .i64 y1_1.inn,.slice t1_1_a0 y1_1.init.length t1_1_c0],25⟩],[(ArrO v3_9a v3_9c v3_9x),(ArrA t2_1_a0 t2_1_c0 y2_1),s0A,s1A,s2A,s3A,s4A,(ArrA t1_1_a0 t1_1_c0 y1_1.init),lA,firstsA]⟩) (fun m3 (v3_9x,v3_28,v3_9a,v3_9c)=>topApartS_l3 y2_1 y1_1 (topApartS_j0 y1_1 l firsts) m3 v3_9x v3_28=some y) [0] [0,0,0,0,0,0,0,0,0,0] (64) (l3_2,(0:Int),some ⟨b3_2,0,none⟩,(y1_1.nodes).toNat) H ?_
   rintro N3 (_ | m3) ⟨v3_9x,v3_28,v3_9a,v3_9c⟩ H hN3
   · exact (noneE H).elim
   replace H:topApartS_l3 y2_1 y1_1 (topApartS_j0 y1_1 l firsts) (m3+1) v3_9x v3_28=some y:=H
   rw [topApartS_l3] at H
   refine xs [] H ?_ ?_
   · intro H
     refine xj [1,100] (ι:=List (List OpS)×Option Addr×Nat) (fun (e4_9x,e4_9a,e4_9c)=>⟨[(1,.slice la l.length lc),(2,.slice firstsa firsts.length firstsc),(7,.pointer (some ⟨b1_2,0,none⟩)),(8,.slice t2_1_a0 y2_1.length t2_1_c0),(9,.slice e4_9a e4_9x.length e4_9c),(27,.int .i64 y2_1.length),(28,.int .i64 v3_28)],[⟨b1_2,#[.int .i64 y1_1.nodes,.int .i64 y1_1.lines,.int .i64 y1_1.words,.int .i64 y1_1.sets,.int .i64 y1_1.ways,.int .i64 y1_1.out,.int .i64 y1_1.inn,.slice t1_1_a0 y1_1.init.length t1_1_c0],25⟩],[(ArrO e4_9a e4_9c e4_9x),(ArrA t2_1_a0 t2_1_c0 y2_1),s0A,s1A,s2A,s3A,s4A,(ArrA t1_1_a0 t1_1_c0 y1_1.init),lA,firstsA]⟩) (fun (e4_9x,e4_9a,e4_9c)=>topApartS_j4 v3_28 (topApartS_l3 y2_1 y1_1 (topApartS_j0 y1_1 l firsts) m3) e4_9x=some y) ?_ ?_
     · rintro ⟨e4_9x,e4_9a,e4_9c⟩ H
       replace H:topApartS_j4 v3_28 (topApartS_l3 y2_1 y1_1 (topApartS_j0 y1_1 l firsts) m3) e4_9x=some y:=H
       rw [topApartS_j4] at H
       refine chkG H fun q14_0_1 H=>?_
       refine xd [0] (ap q14_0_1 an) ?_
       exact xe [] _ [0] [0,0,0,0,0,0,0,0,0,0] (hN3 _ (e4_9x,v3_28+(1:Int),e4_9a,e4_9c) (Nat.lt_succ_self _) H)
     · intro N4 hN4
       refine chkG H fun q7_2_1 H=>?_
       refine xi [] 1 (rA t2_1_a0 t2_1_c0 y2_1) q7_2_1 fun b3 o3 e3=>?_
       refine letG H fun x7_3 hx7_3 H=>?_
       refine xo [] [] [1] (oc_ld (rA t2_1_a0 t2_1_c0 y2_1) e3 q7_2_1 hx7_3 0) fun z7_3_1=>?_
       refine xl [] (ι:=List (List OpS)×Int×Option Addr×Nat) (fun (v5_9x,v5_36,v5_9a,v5_9c)=>⟨[(1,.slice la l.length lc),(2,.slice firstsa firsts.length firstsc),(7,.pointer (some ⟨b1_2,0,none⟩)),(8,.slice t2_1_a0 y2_1.length t2_1_c0),(9,.slice v5_9a v5_9x.length v5_9c),(10,.int .i64 v3_28),(27,.int .i64 y2_1.length),(28,.int .i64 v3_28),(34,.slice z7_3_1.1 x7_3.length z7_3_1.2),(35,.int .i64 x7_3.length),(36,.int .i64 v5_36)],[⟨b1_2,#[.int .i64 y1_1.nodes,.int .i64 y1_1.lines,.int .i64 y1_1.words,.int .i64 y1_1.sets,.int .i64 y1_1.ways,.int .i64 y1_1.out,.int .i64 y1_1.inn,.slice t1_1_a0 y1_1.init.length t1_1_c0],25⟩],[(ArrO v5_9a v5_9c v5_9x),(ImmA z7_3_1.1 z7_3_1.2 x7_3),(ArrA t2_1_a0 t2_1_c0 y2_1),s0A,s1A,s2A,s3A,s4A,(ArrA t1_1_a0 t1_1_c0 y1_1.init),lA,firstsA]⟩) (fun m5 (v5_9x,v5_36,v5_9a,v5_9c)=>topApartS_l5 x7_3 v3_28 y1_1 (topApartS_j4 v3_28 (topApartS_l3 y2_1 y1_1 (topApartS_j0 y1_1 l firsts) m3)) m5 v5_9x v5_36=some y) [0] [2,0,0,0,0,0,0,0,0,0,0] (64) (v3_9x,(0:Int),v3_9a,v3_9c) H ?_
       rintro N5 (_ | m5) ⟨v5_9x,v5_36,v5_9a,v5_9c⟩ H hN5
       · exact (noneE H).elim
       replace H:topApartS_l5 x7_3 v3_28 y1_1 (topApartS_j4 v3_28 (topApartS_l3 y2_1 y1_1 (topApartS_j0 y1_1 l firsts) m3)) (m5+1) v5_9x v5_36=some y:=H
       rw [topApartS_l5] at H
       refine xs [] H ?_ ?_
       · intro H
         refine xj [1,100] (ι:=List (List OpS)×Option Addr×Nat) (fun (e6_9x,e6_9a,e6_9c)=>⟨[(1,.slice la l.length lc),(2,.slice firstsa firsts.length firstsc),(7,.pointer (some ⟨b1_2,0,none⟩)),(8,.slice t2_1_a0 y2_1.length t2_1_c0),(9,.slice e6_9a e6_9x.length e6_9c),(10,.int .i64 v3_28),(27,.int .i64 y2_1.length),(28,.int .i64 v3_28),(34,.slice z7_3_1.1 x7_3.length z7_3_1.2),(35,.int .i64 x7_3.length),(36,.int .i64 v5_36)],[⟨b1_2,#[.int .i64 y1_1.nodes,.int .i64 y1_1.lines,.int .i64 y1_1.words,.int .i64 y1_1.sets,.int .i64 y1_1.ways,.int .i64 y1_1.out,.int .i64 y1_1.inn,.slice t1_1_a0 y1_1.init.length t1_1_c0],25⟩],[(ArrO e6_9a e6_9c e6_9x),(ImmA z7_3_1.1 z7_3_1.2 x7_3),(ArrA t2_1_a0 t2_1_c0 y2_1),s0A,s1A,s2A,s3A,s4A,(ArrA t1_1_a0 t1_1_c0 y1_1.init),lA,firstsA]⟩) (fun (e6_9x,e6_9a,e6_9c)=>topApartS_j6 v5_36 (topApartS_l5 x7_3 v3_28 y1_1 (topApartS_j4 v3_28 (topApartS_l3 y2_1 y1_1 (topApartS_j0 y1_1 l firsts) m3)) m5) e6_9x=some y) ?_ ?_
         · rintro ⟨e6_9x,e6_9a,e6_9c⟩ H
           replace H:topApartS_j6 v5_36 (topApartS_l5 x7_3 v3_28 y1_1 (topApartS_j4 v3_28 (topApartS_l3 y2_1 y1_1 (topApartS_j0 y1_1 l firsts) m3)) m5) e6_9x=some y:=H
           rw [topApartS_j6] at H
           refine chkG H fun q13_0_1 H=>?_
           refine xd [0] (ap q13_0_1 an) ?_
           exact xe [] _ [0] [0,0,0,0,0,0,0,0,0,0,0] (hN5 _ (e6_9x,v5_36+(1:Int),e6_9a,e6_9c) (Nat.lt_succ_self _) H)
         · intro N6 hN6
           refine chkG H fun q9_0_1 H=>?_
           refine xi [] 1 (rI z7_3_1.1 z7_3_1.2 x7_3) q9_0_1 fun b4 o4 e4=>?_
           refine letG H fun x9_1 hx9_1 H=>?_
           refine xo [] [] [1] (oc_ldN (rI z7_3_1.1 z7_3_1.2 x7_3) e4 q9_0_1 hx9_1 0 3) fun _=>?_
           refine xn [] fun b9_2=>?_
           refine xs [0,1] H ?_ ?_
           · intro H
             refine chkG H fun q11_8_1 H=>?_
             refine xp [1,0,1,2,1,3,1,4,5,0,6,7,1,8] (ov_rem (a:=x9_1.addr) (b:=y1_1.words) q11_8_1) ?_
             refine letG H fun u11_9 hu11_9 H=>?_
             refine xw [9,1] 53 (congrArg (Value.int .i64) hu11_9) ?_
             refine chkG H fun q12_4_1 H=>?_
             refine xg [10,11,0,0,1,2,3,4] [] [2] (gh_foc v5_9a v5_9c v5_9x v3_28 q12_4_1) fun ⟨wa2,wc2⟩=>?_
             refine xiG (K:=1) [] 1 (ix_hol v5_9a v5_9c v5_9x v3_28 (wa2,wc2) q12_4_1) q12_4_1 fun b5 o5 e5=>?_
             refine xpl [5] 1 (ol_hld v5_9a v5_9c v5_9x v3_28 (wa2,wc2) e5 q12_4_1 0 rfl) ?_
             refine xn [6,0,7] fun b12_7=>?_
             refine xg [8] [0] [13] (gh_one b12_7 29 (⟨x9_1.kind,u11_9,x9_1.value⟩:OpS) ()) fun _=>?_
             refine chkG H fun q12_8_1 H=>?_
             refine letG H fun l12_8 hl12_8 H=>?_
             refine xa [] [1,0] (a:=wa2) (l:=(nthR v5_9x v3_28)) (zs:=l12_8) (cap:=wc2) (rA (some ⟨b12_7,0,none⟩) 1 ([(⟨x9_1.kind,u11_9,x9_1.value⟩:OpS)])) hl12_8 (hl12_8▸q12_8_1) fun ⟨a12_8,c12_8⟩=>?_
             refine chkG H fun q12_9_1 H=>?_
             refine xiG (K:=1) [9] 2 (ix_hol v5_9a v5_9c v5_9x v3_28 (wa2,wc2) q12_9_1) q12_9_1 fun b6 o6 e6=>?_
             refine letG H fun l12_10 hl12_10 H=>?_
             refine xo [10] [] [0,1] (oc_hst v5_9a v5_9c v5_9x v3_28 (wa2,wc2) l12_8 (a12_8,c12_8) e6 q12_4_1 hl12_10) fun _=>?_
             refine xw [] 9 (congrArg (fun n:Nat=>(.slice v5_9a n v5_9c:Value)) (setR_len hl12_10)) ?_
             refine xw [] 55 (congrArg (fun n:Nat=>(.slice v5_9a n v5_9c:Value)) (setR_len hl12_10)) ?_
             refine xw [] 57 (congrArg (fun n:Nat=>(.slice v5_9a n v5_9c:Value)) (setR_len hl12_10)) ?_
             exact xe [] _ [1] [0,2,2,2,2,2,2,2,2,2,2] (hN6 (l12_10,v5_9a,v5_9c) H)
           · intro H
             exact xe [0] _ [1] [2,1,1,1,1,1,1,1,1,1,1] (hN6 (v5_9x,v5_9a,v5_9c) H)
       · intro H
         exact xe [0] _ [0] [0,1,1,1,1,1,1,1,1,1] (hN4 (v5_9x,v5_9a,v5_9c) H)
   · intro H
     exact xe [0] _ [0] [0,1,1,1,1,1,1,1,1] (hN0 (v3_9x,v3_9a,v3_9c) H)
end
section
open Go
theorem wakes_true:twakesS=some true:=by kernel_rfl
end
section
open Go
theorem keep_true {g:CfgS} {ops:Nat→List OpS} {m0:List Int}:Keep g ops m0 fun _=>True:=fun _ _ _ _ _ _ _ _=>trivial
section
variable {g:CfgS} {s s':St} {ps:List (List OpS)} {mem mem':List Int} {k:Nat} {L:Int}
def apo (g:CfgS) (k:Nat) (o:OpS):OpS:=⟨o.kind,(k:Int)*g.words+o.addr.tmod g.words,o.value⟩
def apP (g:CfgS) (k:Nat) (l:List OpS):List OpS:=if (k:Int)<g.lines then l.map (apo g k) else []
def apA (g:CfgS) (ps:List (List OpS)) (i:Nat):List (List OpS):=(List.range (nn g)).map fun j=>if j<i then apP g j (opsL ps j) else []
theorem apo_rng (hg:GOk g) {o:OpS} (ho:OOk g o):(k:Int)*g.words≤(apo g k o).addr∧(apo g k o).addr<((k:Int)+1)*g.words:=by
 have hw:=hg.w0
 have h1:=Int.tmod_nonneg g.words ho.a0
 have h2:=Int.tmod_lt_of_pos o.addr (show 0<g.words by omega)
 rw [Int.add_mul]
 show _≤(k:Int)*g.words+o.addr.tmod g.words∧(k:Int)*g.words+o.addr.tmod g.words<_
 omega
theorem apo_ok (hg:GOk g) (hk:(k:Int)<g.lines) {o:OpS} (ho:OOk g o):OOk g (apo g k o):=by
 have hw:=hg.w0
 obtain ⟨h1,h2⟩:=apo_rng (k:=k) hg ho
 have h3:0≤(k:Int)*g.words:=Int.mul_nonneg (by omega) (by omega)
 have h4:((k:Int)+1)*g.words≤g.lines*g.words:=Int.mul_le_mul_of_nonneg_right (by omega) (by omega)
 exact ⟨ho.k0,ho.k1,by omega,by omega,ho.v,ho.vz⟩
theorem apP_ok (hg:GOk g) {l:List OpS} (h1:l.length≤20) (h2:∀ o∈l,OOk g o):(apP g k l).length≤24∧∀ o∈apP g k l,OOk g o:=by
 unfold apP
 split
 · rename_i hk
   refine ⟨by rw [List.length_map]; omega,fun o ho=>?_⟩
   obtain ⟨x,hx,rfl⟩:=List.mem_map.1 ho
   exact apo_ok hg hk (h2 x hx)
 · exact ⟨by simp,fun o ho=>by cases ho⟩
theorem apA_len {i:Nat}:(apA g ps i).length=nn g:=by unfold apA; simp
theorem apA_at {i j:Nat} (hj:j<nn g):(apA g ps i)[j]?=some (if j<i then apP g j (opsL ps j) else []):=by
 unfold apA
 rw [List.getElem?_map,List.getElem?_range hj]
 rfl
theorem apA_ok (hg:GOk g) (h1:ps.length=nn g) (h2:∀ l∈ps,l.length≤20∧∀ o∈l,OOk g o):PsOk g (apA g ps (nn g)):=by
 have h:∀ l∈apA g ps (nn g),l.length≤24∧∀ o∈l,OOk g o:=fun l hl=>by
  unfold apA at hl
  obtain ⟨j,hj,rfl⟩:=List.mem_map.1 hl
  have hj':=List.mem_range.1 hj
  rw [if_pos hj']
  have hm:=h2 _ (opsL_at (ps:=ps) (k:=j) (by omega)).2
  exact apP_ok hg hm.1 hm.2
 exact ⟨apA_len,fun l hl=>(h l hl).1,fun l hl=>(h l hl).2⟩
def aloneP (g:CfgS) (ps:List (List OpS)) (k:Nat):List (List OpS):=(List.replicate (nn g) ([]:List OpS)).set k (apP g k (opsL ps k))
theorem alone_ok (hg:GOk g) (h1:ps.length=nn g) (h2:∀ l∈ps,l.length≤20∧∀ o∈l,OOk g o) (hk:k<nn g):PsOk g (aloneP g ps k):=by
 have h:∀ l∈aloneP g ps k,l.length≤24∧∀ o∈l,OOk g o:=fun l hl=>by
  rcases List.mem_or_eq_of_mem_set hl with z | z
  · have:=List.eq_of_mem_replicate z
    rw [this]
    exact ⟨by simp,fun o ho=>by cases ho⟩
  · rw [z]
    have hm:=h2 _ (opsL_at (ps:=ps) (k:=k) (by omega)).2
    exact apP_ok hg hm.1 hm.2
 exact ⟨by unfold aloneP; simp,fun l hl=>(h l hl).1,fun l hl=>(h l hl).2⟩
theorem opsL_A (hk:k<nn g):opsL (apA g ps (nn g)) k=apP g k (opsL ps k):=by
 unfold opsL
 rw [List.getD_eq_getElem?_getD,apA_at hk,if_pos hk]
 rfl
theorem opsL_out {P:List (List OpS)} (h:P.length≤k):opsL P k=[]:=by
 unfold opsL
 rw [List.getD_eq_getElem?_getD,List.getElem?_eq_none h]
 rfl
theorem opsL_alone (hk:k<nn g) (j:Nat):opsL (aloneP g ps k) j=if j=k then apP g k (opsL ps k) else []:=by
 unfold opsL aloneP
 rw [List.getD_eq_getElem?_getD,List.getElem?_set]
 by_cases h:j=k
 · subst h
   rw [if_pos rfl,if_pos rfl,if_pos (by simpa using hk)]
   rfl
 · rw [if_neg (Ne.symm h),if_neg h,List.getElem?_replicate]
   split <;> rfl
theorem ap_vals (hg:GOk g) (h1:ps.length=nn g) (h2:∀ l∈ps,l.length≤20∧∀ o∈l,OOk g o) (hk:k<nn g) {P:List (List OpS)} (hP:∀ j,opsL P j=[]∨j<nn g∧opsL P j=apP g j (opsL ps j)) (hPk:opsL P k=apP g k (opsL ps k))
 (I:Inv g (opsL P) (mem0 g) mem s) (hD:Done g (opsL P) s):(s.nd k).proc.values=seqV (mem0 g) (apP g k (opsL ps k)):=by
 have hw:=hg.w0
 have hat:∀ j,j<nn g→∀ o∈apP g j (opsL ps j),(j:Int)*g.words≤o.addr∧o.addr<((j:Int)+1)*g.words:=fun j hj o ho=>by
  unfold apP at ho
  split at ho
  · obtain ⟨x,hx,rfl⟩:=List.mem_map.1 ho
    exact apo_rng hg ((h2 _ (opsL_at (ps:=ps) (k:=j) (by omega)).2).2 x hx)
  · cases ho
 have h0:∀ j:Nat,0≤(j:Int)*g.words:=fun j=>Int.mul_nonneg (by omega) (by omega)
 have:=vals_alone (R:=fun x=>(k:Int)*g.words≤x∧x<((k:Int)+1)*g.words) I hk (fun x hx=>by have:=h0 k; have:=hx.1; omega) (fun o ho=>by rw [hPk] at ho; exact hat k hk o ho) (fun j hj o ho=>by
  rcases hP j with z | ⟨z1,z2⟩
  · rw [z] at ho; cases ho
  · rw [z2] at ho
    obtain ⟨a1,a2⟩:=hat j z1 o ho
    refine ⟨by have:=h0 j; omega,fun _ z=>?_⟩
    rcases Nat.lt_or_gt_of_ne hj with h | h
    · have:((j:Int)+1)*g.words≤(k:Int)*g.words:=Int.mul_le_mul_of_nonneg_right (by omega) (by omega)
      have:=z.1
      omega
    · have:((k:Int)+1)*g.words≤(j:Int)*g.words:=Int.mul_le_mul_of_nonneg_right (by omega) (by omega)
      have:=z.2
      omega) (hD.vals k hk)
 rw [this,hPk]
theorem ap_l5 (hg:GOk g) (base:List (List OpS)) (hk:k<base.length) (hk6:k<6) (x:List OpS) (hxl:x.length≤40) (hx:∀ o∈x,OOk g o) {K:List (List OpS)→Option Bool}:∀ (m i:Nat),i≤x.length→x.length<m+i →
 topApartS_l5 x (k:Int) g K m (base.set k (apP g k (x.take i))) (i:Int)=K (base.set k (apP g k x))
 |0,i,h1,h2=>by omega
 |m+1,i,h1,h2=>by
  have hw0:=hg.w0
  have hw1:=hg.w1
  rw [topApartS_l5]
  by_cases hi:i<x.length
  · have hxi:x[i]?=some x[i]:=List.getElem?_eq_getElem hi
    have ho:=hx _ (List.getElem_mem hi)
    have ih:=ap_l5 hg base hk hk6 x hxl hx (K:=K) m (i+1) (by omega) (by omega)
    rw [show (((i+1:Nat)):Int)=(i:Int)+1 by omega] at ih
    rw [decide_eq_true (by omega),cond_true,chk_true (by omega)]
    dsimp only [letP]
    rw [nthT_at hxi]
    by_cases hkl:(k:Int)<g.lines
    · have hm:(k:Int)*g.words≤6*g.words:=Int.mul_le_mul_of_nonneg_right (by omega) (by omega)
      have hm0:0≤(k:Int)*g.words:=Int.mul_nonneg (by omega) (by omega)
      have q1:=Int.tmod_nonneg g.words ho.a0
      have q2:=Int.tmod_lt_of_pos x[i].addr (show 0<g.words by omega)
      have hap:∀ l,apP g k l=l.map (apo g k):=fun l=>by unfold apP; rw [if_pos hkl]
      have hnth:nthR (base.set k (apP g k (x.take i))) (k:Int)=(x.take i).map (apo g k):=by
       unfold nthR
       rw [Int.toNat_natCast,List.getD_eq_getElem?_getD,List.getElem?_set,if_pos rfl,if_pos hk,hap]
       rfl
      rw [decide_eq_true hkl,cond_true,chk_true hw0,show wr ((k:Int)*g.words)=(k:Int)*g.words from wr_in (by omega) (by omega),wr_in (by omega) (by omega),hnth,chk_true (by rw [List.length_set]; omega),chk_true (by simp; omega),chk_true (by rw [List.length_set]; omega)]
      unfold topApartS_j6
      rw [chk_true (by unfold inR; omega)]
      have e:setR (base.set k (apP g k (x.take i))) (k:Int) ((x.take i).map (apo g k)++[⟨x[i].kind,(k:Int)*g.words+x[i].addr.tmod g.words,x[i].value⟩])=base.set k (apP g k (x.take (i+1))):=by
       unfold setR
       rw [Int.toNat_natCast,List.set_set,hap,List.take_succ_eq_append_getElem hi,List.map_append]
       rfl
      rw [e]
      exact ih
    · have hap:∀ l,apP g k l=[]:=fun l=>by unfold apP; rw [if_neg hkl]
      rw [decide_eq_false hkl,cond_false]
      unfold topApartS_j6
      rw [chk_true (by unfold inR; omega)]
      rw [hap] at ih ⊢
      exact ih
  · have:i=x.length:=by omega
    subst this
    rw [decide_eq_false (by omega),cond_false,List.take_length]
theorem ap_l3 (hg:GOk g) (h1:ps.length=nn g) (h2:∀ l∈ps,l.length≤20∧∀ o∈l,OOk g o) {K:List (List OpS)→Option Bool}:∀ (m i:Nat),i≤nn g→nn g<m+i →
 topApartS_l3 ps g K m (apA g ps i) (i:Int)=K (apA g ps (nn g))
 |0,i,a1,a2=>by omega
 |m+1,i,a1,a2=>by
  have hn6:=(nn6 hg).1
  rw [topApartS_l3]
  by_cases hi:i<nn g
  · obtain ⟨b1,b2⟩:=opsL_at (ps:=ps) (k:=i) (by omega)
    obtain ⟨c1,c2⟩:=h2 _ b2
    rw [decide_eq_true (by omega),cond_true,chk_true (by omega)]
    dsimp only [letP]
    rw [nthT_at b1]
    have h5:=ap_l5 hg (apA g ps i) (k:=i) (by rw [apA_len]; exact hi) (by omega) (opsL ps i) (by omega) c2 (K:=topApartS_j4 (i:Int) (topApartS_l3 ps g K m)) 64 0 (by omega) (by omega)
    have e0:(apA g ps i).set i (apP g i ((opsL ps i).take 0))=apA g ps i:=by
     have hz:apP g i ((opsL ps i).take 0)=[]:=by unfold apP; split <;> rfl
     have hq:=apA_at (ps:=ps) (i:=i) hi
     rw [if_neg (by omega)] at hq
     obtain ⟨q1,q2⟩:=List.getElem?_eq_some_iff.1 hq
     rw [hz,← q2,List.set_getElem_self]
    rw [e0] at h5
    refine Eq.trans h5 ?_
    unfold topApartS_j4
    rw [chk_true (by unfold inR; omega)]
    have ih:=ap_l3 hg h1 h2 (K:=K) m (i+1) (by omega) (by omega)
    rw [show (((i+1:Nat)):Int)=(i:Int)+1 by omega] at ih
    have e1:(apA g ps i).set i (apP g i (opsL ps i))=apA g ps (i+1):=by
     apply List.ext_getElem?
     intro j
     rw [List.getElem?_set]
     by_cases hj:j<nn g
     · rw [apA_at hj,apA_at hj,apA_len]
       by_cases e:i=j
       · subst e
         rw [if_pos rfl,if_pos hj,if_pos (by omega)]
       · rw [if_neg e]
         by_cases hji:j<i
         · rw [if_pos hji,if_pos (by omega)]
         · rw [if_neg hji,if_neg (by omega)]
     · rw [if_neg (by omega),List.getElem?_eq_none (by rw [apA_len]; omega),List.getElem?_eq_none (by rw [apA_len]; omega)]
    rw [e1]
    exact ih
  · have:i=nn g:=by omega
    subst this
    rw [decide_eq_false (by omega),cond_false]
theorem prval_eq {p:ProcS} (h:p.values.length≤1099511627776):prvalS p=some p.values:=by
 unfold prvalS cloneS
 rw [chk_true h]
 rfl
theorem ap_l2 (hg:GOk g) (hini:∀ x∈g.init,in64 x) (h1:ps.length=nn g) (h2:∀ l∈ps,l.length≤20∧∀ o∈l,OOk g o) (I:Inv g (opsL (apA g ps (nn g))) (mem0 g) mem s) (hD:Done g (opsL (apA g ps (nn g))) s) {b:Bool} {K:Option Bool}:∀ (m i:Nat),i≤nn g→nn g<m+i →
 topApartS_l2 (apA g ps (nn g)) g (b,conc g s) K m (i:Int)=K
 |0,i,a1,a2=>by omega
 |m+1,i,a1,a2=>by
  have hn6:=(nn6 hg).1
  have hn:=nnI hg
  have hn0:=hg.n0
  rw [topApartS_l2]
  by_cases hi:i<nn g
  · have hA:=apA_at (g:=g) (ps:=ps) (i:=nn g) hi
    rw [if_pos hi] at hA
    have hp:=alone_ok hg h1 h2 hi
    have hq:=apA_ok hg h1 h2
    rw [apA_len,decide_eq_true (by omega),cond_true,chk_true (by omega)]
    dsimp only [letP]
    rw [chk_true (by omega),nthT_at hA,chk_true (by rw [List.length_replicate]; unfold nn at hi; omega)]
    have eA:setT (List.replicate g.nodes.toNat ([]:List OpS)) (i:Int) (apP g i (opsL ps i))=aloneP g ps i:=rfl
    rw [eA,new_eq hg hp,Option.bind_some]
    simp only [decide_true,Bool.not_true,cond_false,optM]
    obtain ⟨s3,mem3,e3,I3,-,-,q3,l3⟩:=end_ok hg hp (keep_true (g:=g)) (firsts:=[]) (fun x hx=>by cases hx) (inv0 hg hp hini) trivial (mu0 hg hp)
    have hD3:=done_of I3 q3 l3
    have v1:=ap_vals hg h1 h2 hi (fun j=>by
     rw [opsL_alone hi]
     by_cases e:j=i
     · subst e; rw [if_pos rfl]; exact .inr ⟨hi,rfl⟩
     · rw [if_neg e]; exact .inl rfl) (by rw [opsL_alone hi,if_pos rfl]) I3 hD3
    have v2:=ap_vals hg h1 h2 hi (fun j=>by
     by_cases hj:j<nn g
     · exact .inr ⟨hj,opsL_A hj⟩
     · exact .inl (opsL_out (by rw [apA_len]; omega))) (opsL_A hi) I hD
    have hl:(seqV (mem0 g) (apP g i (opsL ps i))).length≤24:=by
     rw [seqV_len]
     exact hq.sh _ (by rw [← opsL_A hi]; exact (opsL_at (by rw [apA_len]; exact hi)).2)
    rw [e3,Option.bind_some]
    simp only [Bool.not_true,cond_false]
    rw [mnode_eq hi,Option.bind_some]
    simp only [optM]
    rw [conc_nodes,chk_true (by omega),nth_nd hi,prval_eq (by rw [v1]; omega),Option.bind_some,mnode_eq hi,Option.bind_some]
    simp only [optM]
    rw [conc_nodes,chk_true (by omega),nth_nd hi,prval_eq (by rw [v2]; omega),Option.bind_some,v1,v2,same_ok (by omega),Option.bind_some,Bool.not_true,cond_false,chk_true (by unfold inR; omega)]
    have ih:=ap_l2 hg hini h1 h2 I hD (b:=b) (K:=K) m (i+1) (by omega) (by omega)
    rw [show (((i+1:Nat)):Int)=(i:Int)+1 by omega] at ih
    exact ih
  · rw [apA_len,decide_eq_false (by omega),cond_false]
theorem topApart_pure {s:SetupS} (hs:SOk s) {l:List ChoiceS} (hl:∀ x∈l,ChOk x) {firsts:List Int} (hf:∀ x∈firsts,in64 x):topApartS s l firsts=some true:=by
 obtain ⟨g,hc,hg,hini,hn4,hl4,hw2⟩:=conf_ok hs
 obtain ⟨ps,p1,p2,p3⟩:=pprog_ok (most:=20) hg hs hc (by omega)
 have hn6:=(nn6 hg).1
 have hn:=nnI hg
 have hn0:=hg.n0
 have hp:=apA_ok hg p2 p3
 unfold topApartS
 rw [hc,Option.bind_some]
 have p1':pprogS s 20=some ps:=p1
 rw [p1',Option.bind_some,chk_true (by omega)]
 dsimp only [letP]
 have e0:List.replicate g.nodes.toNat ([]:List OpS)=apA g ps 0:=by
  apply List.ext_getElem?
  intro j
  rw [List.getElem?_replicate]
  by_cases hj:j<nn g
  · rw [apA_at hj,if_pos (show j<g.nodes.toNat from hj),if_neg (by omega)]
  · rw [if_neg (show ¬ j<g.nodes.toNat from hj),List.getElem?_eq_none (by rw [apA_len]; omega)]
 have h3:=ap_l3 hg p2 p3 (K:=topApartS_j0 g l firsts) 64 0 (by omega) (by omega)
 have h3':topApartS_l3 ps g (topApartS_j0 g l firsts) 64 (apA g ps 0) 0=topApartS_j0 g l firsts (apA g ps (nn g)):=h3
 rw [e0,h3']
 unfold topApartS_j0
 obtain ⟨s1,mem1,e1,I1,-,-,mu1⟩:=run_ok hg hp.pok (keep_true (g:=g)) hl (most:=60) (by omega) (inv0 hg hp hini) trivial
 obtain ⟨s2,mem2,e2,I2,-,-,q2,l2⟩:=end_ok hg hp (keep_true (g:=g)) hf I1 trivial (Nat.le_trans mu1 (mu0 hg hp))
 have hD:=done_of I2 q2 l2
 rw [new_eq hg hp,Option.bind_some]
 simp only [decide_true,Bool.not_true,cond_false,optM]
 rw [e1,Option.bind_some,e2,Option.bind_some]
 simp only [Bool.not_true,cond_false]
 have hlast:=ap_l2 hg hini p2 p3 I2 hD (b:=true) (K:=topApartS_j1) 64 0 (by omega) (by omega)
 have hlast':topApartS_l2 (apA g ps (nn g)) g (true,conc g s2) topApartS_j1 64 0=topApartS_j1:=hlast
 rw [hlast']
 unfold topApartS_j1
 rw [wakes_true]
 rfl
end
end
section
open Go Go.RowKit Go.ChangeShapes
theorem Sat.came {W:World}:∀ {As:List Asn},(∀ A∈As,A.holds (fun _=>False) (fun b=>b<W.heap.size) (fun b=>W.heap[b]?))→Sat W As W:=by
 intro As h
 refine ⟨fun _=>False,fun b=>b<W.heap.size,?_,fun _ h=>h.elim,fun _ h=>h.elim,fun _ h=>h,fun _ h=>h,Below.refl _ _⟩
 induction As with
 |nil=>trivial
 |cons A As ih=>exact ⟨fun _=>False,fun _=>False,fun _ h=>h.elim,fun _ h=>h.elim,fun _ h=>h.elim,h A (by simp),ih fun B hB=>h B (by simp [hB])⟩
theorem walk_of {P:Program} {f:FuncId} {args:List Value} {As:List Asn} {post:Bool→Unit→Rs} {w:World} (hs:Sat w As w) (h:FnY P f args ⟨[],As⟩ (Z:=Unit) (fun y _=>.bool y) post true):Calls P f args.toArray w fun e w'=>e=.returned (.bool true)∧RowKit.Below w.heap.size w w':=by
 have hp:Sat w ((⟨[],As⟩:Rs).all []) w:=by
  have:(⟨[],As⟩:Rs).all []=As:=by simp [Rs.all,owns]
  rw [this]; exact hs
 exact (h w [] w hp).mono fun _ _ ⟨_,_,h1,⟨_,h2,_⟩,h3⟩=>⟨by rw [h1,h2],h3.below⟩
theorem wf_u16 {n:Int} (h:(Lit.int .u16 n).wf=true):0≤n∧n<65536:=by
 have h1:(decide (IntKind.u16.min≤n) && decide (n≤IntKind.u16.max))=true:=h
 rw [Bool.and_eq_true] at h1
 have a:=of_decide_eq_true h1.1
 have b:=of_decide_eq_true h1.2
 have e1:IntKind.u16.min=0:=rfl
 have e2:IntKind.u16.max=65535:=rfl
 rw [e1] at a
 rw [e2] at b
 exact ⟨a,by omega⟩
def IntsIn (W:World) (a:Option Addr) (len cap:Nat) (zs:List Int):Prop:=len=zs.length∧len≤cap∧cap≤9223372036854775807∧(∀ i,i<zs.length→∃ x,a=some x∧W.cell? (x.add i)=some (.int .i64 (zs.getD i 0)))∧∀ n∈zs,-9223372036854775808≤n∧n≤9223372036854775807
theorem IntsIn.none {W:World}:IntsIn W none 0 0 []:=⟨rfl,Nat.le_refl _,by omega,fun i h=>by simp at h,by simp⟩
theorem IntsIn.some {W:World} {x:Addr} {l c:Nat} {zs:List Int} (hl:l≤c) (hm:c≤9223372036854775807) (hz:zs.length=c) (hcell:∀ i,i<zs.length→W.cell? (x.add i)=.some (.int .i64 (zs.getD i 0))) (hwz:∀ n∈zs,(Lit.int .i64 n).wf=true) :
 IntsIn W (.some x) l c (zs.take l):=by
 refine ⟨by simp; omega,hl,hm,fun i hi=>⟨x,rfl,?_⟩,fun n hn=>bounds_i64 (hwz n (List.mem_of_mem_take hn))⟩
 rw [List.length_take] at hi
 rw [hcell i (by omega)]
 rw [List.getD_eq_getElem?_getD,List.getD_eq_getElem?_getD,List.getElem?_take_of_lt (by omega)]
theorem cell_block {W:World} {x:Addr} {v:Value} (h:W.cell? (x.add 0)=some v):∃ c T fr,x=⟨x.block,x.off,none⟩∧W.heap[x.block]?=some (.cells c T fr)∧x.block<W.heap.size:=by
 have h0:x.add 0=x:=by simp [Addr.add]
 rw [h0] at h
 unfold World.cell? at h
 cases ho:W.heap[x.block]? with
 |none=>rw [ho] at h; cases h
 |some o =>
  rw [ho] at h
  cases o with
  |cells c T fr =>
   simp only at h
   cases hs:x.spot with
   |some s=>rw [hs] at h; cases h
   |none =>
    refine ⟨c,T,fr,?_,rfl,(Array.getElem?_eq_some_iff.1 ho).1⟩
    cases x with
    |mk b o s=>cases hs; rfl
  |_=>cases h
theorem IntsIn.imm {W:World} {a:Option Addr} {len cap:Nat} {zs:List Int} (h:IntsIn W a len cap zs):(ImmA a cap zs).holds (fun _=>False) (fun b=>b<W.heap.size) (fun b=>W.heap[b]?):=by
 obtain ⟨rfl,h1,_,h2,_⟩:=h
 refine ⟨h1,List.replicate zs.length (),by simp,⟨rowsOf_k,?_⟩,fun i a x e1 e2=>trivial⟩
 cases zs with
 |nil=>exact .inl rfl
 |cons z zs =>
  obtain ⟨x,rfl,hx⟩:=h2 0 (by simp)
  obtain ⟨c,T,fr,e1,e2,e4⟩:=cell_block hx
  refine .inr ⟨x.block,x.off,c,T,fr,by rw [← e1],e4,e2,fun j v hj=>?_⟩
  have hrows:(rowsOf (z::zs) (List.replicate (z::zs).length ())).flatten=(z::zs).map (Value.int .i64):=by
   have:∀ l:List Int,(rowsOf l (List.replicate l.length ())).flatten=l.map (Value.int .i64):=by
    intro l
    induction l with
    |nil=>rfl
    |cons y l ih =>
     show ([Value.int .i64 y]::rowsOf l (List.replicate l.length ())).flatten=_
     rw [List.flatten_cons,ih]
     rfl
   exact this _
  rw [hrows,List.getElem?_map] at hj
  cases hy:(z::zs)[j]? with
  |none=>rw [hy] at hj; cases hj
  |some y =>
   rw [hy] at hj
   obtain rfl:=Option.some.inj hj
   have hjl:j<(z::zs).length:=(List.getElem?_eq_some_iff.1 hy).1
   obtain ⟨x',hx',hc⟩:=h2 j hjl
   obtain rfl:=Option.some.inj hx'
   rw [e1,add_none,cell_of e2,List.getD_eq_getElem?_getD,hy] at hc
   exact hc
end
section
open Go Go.RowKit Go.ChangeShapes
def Match (cs:Array Value):Nat→List Value→Prop
 |_,[]=>True
 |k,y::ys=>cs[k]?=.some y∧Match cs (k+1) ys
theorem match_drop {cs:Array Value}:∀ {ys:List Value} {k:Nat},Match cs k ys→cs.size=k+ys.length→cs.toList.drop k=ys
 |[],k,_,hs=>by
  apply List.drop_eq_nil_of_le
  simp at hs ⊢; omega
 |y::ys,k,⟨h1,h2⟩,hs=>by
  have ih:=match_drop h2 (by simp at hs ⊢; omega)
  have hk:k<cs.toList.length:=by simp at hs ⊢; omega
  rw [List.drop_eq_getElem_cons hk,ih]
  congr 1
  have:cs.toList[k]?=.some y:=by simpa using h1
  rw [List.getElem?_eq_getElem hk] at this
  exact Option.some.inj this
theorem match_all {cs:Array Value} {ys:List Value} (h:Match cs 0 ys) (hs:cs.size=ys.length):cs=ys.toArray:=by
 have:=match_drop h (by simpa using hs)
 apply Array.ext'
 simpa using this
section
variable {H:Type} {enc:TypeId×Value→H} {P:Program} {W:World} {cs:Array Value} {n:Nat} {fs:Array Field} {xs:List (DataW H×List MemPlace)}
theorem one_of {c:Value} {o:Nat} (h:(cs.toList.drop o).take 1=[c]):cs[o]?=.some c:=by
 have h1:((cs.toList.drop o).take 1)[0]?=.some c:=by rw [h]; rfl
 rw [List.getElem?_take_of_lt (by omega),List.getElem?_drop] at h1
 simpa using h1
def FieldsOk (enc:TypeId×Value→H) (P:Program) (W:World) (n:Nat) (cs:Array Value) (fs:Array Field):Prop :=
 ∀ (i:Nat) (f:Field),fs[i]?=.some f→∃ y,DataW.trod enc P W 0 (fun _=>true) true n f.type ((cs.toList.drop f.offset).take (P.cellsOf f.type))=.some y
theorem fields_ok (hl:xs.length=fs.size) (h:∀ (i:Nat) (f:Field),fs[i]?=.some f→DataW.trod enc P W 0 (fun _=>true) true n f.type ((cs.toList.drop f.offset).take (P.cellsOf f.type))=xs[i]?):FieldsOk enc P W n cs fs:=by
 intro i f hf
 have hi:i<fs.size:=(Array.getElem?_eq_some_iff.1 hf).1
 exact ⟨xs[i],by rw [h i f hf,List.getElem?_eq_getElem (by omega)]⟩
theorem in_int (h:FieldsOk enc P W n cs fs) (i:Nat) (f:Field) (hf:fs[i]?=.some f) (ht:P.underlying f.type=.some (.int .i64)) (hc:P.cellsOf f.type=1):∃ z,cs[f.offset]?=.some (.int .i64 z)∧-9223372036854775808≤z∧z≤9223372036854775807:=by
 obtain ⟨y,hy⟩:=h i f hf
 rw [hc] at hy
 obtain ⟨z,h1,_,h3⟩:=DataW.trod_int ht hy
 exact ⟨z,one_of h1,bounds_i64 h3⟩
theorem in_u16 (h:FieldsOk enc P W n cs fs) (i:Nat) (f:Field) (hf:fs[i]?=.some f) (ht:P.underlying f.type=.some (.int .u16)) (hc:P.cellsOf f.type=1):∃ z,cs[f.offset]?=.some (.int .u16 z)∧0≤z∧z<65536:=by
 obtain ⟨y,hy⟩:=h i f hf
 rw [hc] at hy
 obtain ⟨z,h1,_,h3⟩:=DataW.trod_int ht hy
 exact ⟨z,one_of h1,wf_u16 h3⟩
theorem ints_in {t e:TypeId} {fuel:Nat} {l:List Value} {x:DataW H×List MemPlace} (ht:P.underlying t=.some (.slice e)) (he:P.underlying e=.some (.int .i64)) (hc:P.cellsOf e=1) (h:DataW.trod enc P W 0 (fun _=>true) true fuel t l=.some x) :
 ∃ a len cap zs,l=[.slice a len cap]∧IntsIn W a len cap zs:=by
 rcases open_ints ht he hc h with ⟨hcs,_⟩ | ⟨x,l,c,zs,hcs,_,hl,hm,hz,_,hcell,hwz⟩
 · exact ⟨_,_,_,[],hcs,IntsIn.none⟩
 · exact ⟨_,_,_,_,hcs,IntsIn.some hl hm (by simpa using hz) hcell hwz⟩
theorem in_ints (h:FieldsOk enc P W n cs fs) (i:Nat) (f:Field) {e:TypeId} (hf:fs[i]?=.some f) (ht:P.underlying f.type=.some (.slice e)) (he:P.underlying e=.some (.int .i64)) (hc:P.cellsOf e=1) (hc2:P.cellsOf f.type=1) :
 ∃ a len cap zs,cs[f.offset]?=.some (.slice a len cap)∧IntsIn W a len cap zs:=by
 obtain ⟨y,hy⟩:=h i f hf
 rw [hc2] at hy
 obtain ⟨a,len,cap,zs,h1,h2⟩:=ints_in ht he hc hy
 exact ⟨a,len,cap,zs,one_of h1,h2⟩
end
theorem add_add (x:Addr) (i j:Nat):(x.add i).add j=x.add (i+j):=by
 unfold Addr.add
 cases i with
 |zero=>simp
 |succ i =>
  cases j with
  |zero=>simp
  |succ j=>simp [Nat.add_assoc]
def RowsIn (W:World) (k:Nat) (a:Option Addr) (len cap:Nat) (rows:List (List Value)):Prop:=len=rows.length∧len≤cap∧cap≤9223372036854775807∧(∀ j v,rows.flatten[j]?=some v→∃ x,a=some x∧W.cell? (x.add j)=some v)∧∀ r∈rows,r.length=k
theorem rows_in {H:Type} {enc:TypeId×Value→H} {P:Program} {W:World} {t e:TypeId} {fuel:Nat} {l:List Value} {x:DataW H×List MemPlace} (ht:P.underlying t=.some (.slice e)) (Q:List Value→Prop)
 (hel:∀ (fuel:Nat) (cs:List Value) (y:DataW H×List MemPlace),cs.length=P.cellsOf e→DataW.trod enc P W 0 (fun _=>true) true fuel e cs=.some y→Q cs)
 (h:DataW.trod enc P W 0 (fun _=>true) true fuel t l=.some x):∃ a len cap rows,l=[.slice a len cap]∧RowsIn W (P.cellsOf e) a len cap rows∧∀ r∈rows,Q r:=by
 rcases DataW.trod_slice ht h with ⟨rfl,_⟩ | ⟨a,len,cap,elems,rest,n,_,rfl,_,hb,hl,hm,hlen,hel2,_,_⟩
 · exact ⟨none,0,0,[],rfl,⟨rfl,Nat.le_refl _,by omega,fun j v h=>by simp at h,by simp⟩,by simp⟩
 have each:∀ i,i<len→∃ cs y,W.cells? 0 (a.add (i*P.cellsOf e)) (P.cellsOf e)=.some cs∧DataW.trod enc P W 0 (fun _=>true) true n e cs=.some y:=by
  intro i hi
  have h1:=hel2 i hi
  rw [List.getElem?_eq_getElem (by omega),Option.bind_eq_some_iff] at h1
  obtain ⟨cs,h2,h3⟩:=h1
  exact ⟨cs,_,h2,h3⟩
 let rows:=(List.range len).map fun i=>(W.cells? 0 (a.add (i*P.cellsOf e)) (P.cellsOf e)).getD []
 have hrow:∀ r∈rows,∃ i cs y,i<len∧r=cs∧W.cells? 0 (a.add (i*P.cellsOf e)) (P.cellsOf e)=.some cs∧DataW.trod enc P W 0 (fun _=>true) true n e cs=.some y:=by
  intro r hr
  obtain ⟨i,hi,rfl⟩:=List.mem_map.1 hr
  have hi':=List.mem_range.1 hi
  obtain ⟨cs,y,h1,h2⟩:=each i hi'
  exact ⟨i,cs,y,hi',by rw [h1]; rfl,h1,h2⟩
 have hk:∀ r∈rows,r.length=P.cellsOf e:=by
  intro r hr
  obtain ⟨i,cs,y,_,rfl,h1,_⟩:=hrow r hr
  exact (World.cells?_some h1).2.1
 refine ⟨.some a,len,cap,rows,rfl,⟨by simp [rows],hl,hm,fun j v hj=>⟨a,rfl,?_⟩,hk⟩,?_⟩
 · obtain ⟨i,q,row,h1,h2,rfl,h4⟩:=flatten_at hk hj
   have hi:i<len:=by
    have:=(List.getElem?_eq_some_iff.1 h1).1
    simpa [rows] using this
   obtain ⟨cs,y,g1,g2⟩:=each i hi
   have e1:row=cs:=by
    have:rows[i]?=.some cs:=by simp [rows,hi,g1]
    rw [this] at h1
    exact (Option.some.inj h1).symm
   subst e1
   have g3:=(World.cells?_some g1).2.2 q h4
   rw [add_add,h2] at g3
   exact g3
 · intro r hr
   obtain ⟨i,cs,y,_,rfl,h1,h2⟩:=hrow r hr
   exact hel n r y (World.cells?_some h1).2.1 h2
theorem list_of {β:Type} {f:β→List Value}:∀ {rows:List (List Value)} {p:β→Prop},(∀ r∈rows,∃ x,p x∧r=f x)→∃ l:List β,rows=l.map f∧∀ x∈l,p x
 |[],_,_=>⟨[],rfl,by simp⟩
 |r::rows,p,h=>by
  obtain ⟨x,hx,rfl⟩:=h r (List.mem_cons_self ..)
  obtain ⟨l,hl,hp⟩:=list_of (fun r hr=>h r (List.mem_cons_of_mem _ hr))
  exact ⟨x::l,by rw [hl]; rfl,by intro y hy; rcases List.mem_cons.1 hy with rfl | hy; exact hx; exact hp y hy⟩
theorem RowsIn.imm {α:Type} [Rw α] {W:World} {a:Option Addr} {len cap:Nat} {zs:List α} {xs:List (Rw.X α)} (h:RowsIn W (Rw.k α) a len cap (rowsOf zs xs)) (hx:xs.length=zs.length) (h4:0<Rw.k α) (hk:∀ (i:Nat) (z:α) (x:Rw.X α),zs[i]?=some z→xs[i]?=some x→(Rw.asn z x).holds (fun _=>False) (fun b=>b<W.heap.size) (fun b=>W.heap[b]?)):(ImmA a cap zs).holds (fun _=>False) (fun b=>b<W.heap.size) (fun b=>W.heap[b]?):=by
 obtain ⟨h0,h1,_,h2,h3⟩:=h
 rw [rowsOf_len hx] at h0
 refine ⟨by omega,xs,hx,⟨h3,?_⟩,hk⟩
 cases hz:(rowsOf zs xs) with
 |nil=>exact .inl rfl
 |cons r rs =>
  right
  have hr:=h3 r (by rw [hz]; simp)
  cases r with
  |nil=>exact absurd hr.symm (Nat.pos_iff_ne_zero.1 h4)
  |cons v vs =>
   obtain ⟨x,rfl,hx⟩:=h2 0 v (by rw [hz]; rfl)
   obtain ⟨c,T,fr,e1,e2,e4⟩:=cell_block hx
   refine ⟨x.block,x.off,c,T,fr,by rw [← e1],e4,e2,fun j u hj=>?_⟩
   rw [← hz] at hj
   obtain ⟨x',hx',hc⟩:=h2 j u hj
   obtain rfl:=Option.some.inj hx'
   rw [e1,add_none,cell_of e2] at hc
   exact hc
theorem rowsC:∀ l:List ChoiceS,rowsOf l (List.replicate l.length ())=l.map fun x=>Rw.cells x ()
 |[]=>rfl
 |x::l=>by
  have ih:=rowsC l
  show Rw.cells x ()::rowsOf l (List.replicate l.length ())=_
  rw [ih]
  rfl
def ChIn (W:World) (a:Option Addr) (len cap:Nat) (zs:List ChoiceS):Prop:=RowsIn W (Rw.k ChoiceS) a len cap (rowsOf zs (List.replicate zs.length ()))∧∀ x∈zs,ChOk x
theorem ChIn.len {W:World} {a:Option Addr} {len cap:Nat} {zs:List ChoiceS} (h:ChIn W a len cap zs):len=zs.length:=by rw [h.1.1,rowsOf_len (by simp)]
theorem ChIn.imm {W:World} {a:Option Addr} {len cap:Nat} {zs:List ChoiceS} (h:ChIn W a len cap zs):(ImmA a cap zs).holds (fun _=>False) (fun b=>b<W.heap.size) (fun b=>W.heap[b]?) :=
 h.1.imm (by simp) (show 0<4 by omega) fun _ _ _ _ _=>trivial
theorem ChIn.mk {W:World} {a:Option Addr} {len cap:Nat} {rows:List (List Value)} (h:RowsIn W (Rw.k ChoiceS) a len cap rows) (hq:∀ r∈rows,∃ x:ChoiceS,ChOk x∧r=Rw.cells x ()):∃ zs,ChIn W a len cap zs:=by
 obtain ⟨l,rfl,hl⟩:=list_of hq
 exact ⟨l,by rw [rowsC]; exact h,hl⟩
end
end Go.Proofs.YtcidmgkfaioceaaGreat
