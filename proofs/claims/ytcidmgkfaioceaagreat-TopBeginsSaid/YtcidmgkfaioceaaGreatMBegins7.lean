/- Walks of the program's functions, and the plain laws of what they compute (part 7): Ato, Wch, Wak, PA, PB, PD, PE.
   Conditions: none. -/
import Derived.Test.YtcidmgkfaioceaaGreatMBegins6
set_option linter.unusedVariables false
set_option linter.unusedSimpArgs false
set_option linter.unusedSectionVars false
set_option maxRecDepth 100000
set_option maxHeartbeats 4000000
namespace Go.Proofs.YtcidmgkfaioceaaGreat
section
open Go Go.RowKit
structure MemS where
 c:CfgS
 l:List Int
def MemO (b:Nat) (c:MemS):Option Addr×Nat×Option Addr×Nat→Rs:=fun (a_c_init,c_c_init,a_l,c_l)=>⟨[⟨b,#[.int .i64 c.c.nodes,.int .i64 c.c.lines,.int .i64 c.c.words,.int .i64 c.c.sets,.int .i64 c.c.ways,.int .i64 c.c.out,.int .i64 c.c.inn,.slice a_c_init c.c.init.length c_c_init,.slice a_l c.l.length c_l],197⟩],[(ImmA a_c_init c_c_init c.c.init),(ArrA a_l c_l c.l)]⟩
abbrev MemA (b:Nat) (c:MemS):Asn:=ObA (MemO b c)
def trrightS_j0 (e0_m1_0:List (Int×Int)):Option (Bool) :=
 some true
def trrightS_l1 (l:List EventS) (nodes:Int) (k0:(List (Int×Int))→Option (Bool)):Nat→Int→(List (Int×Int))→Option (Bool)
 |0,_,_=>none
 |m+1,v1_12,v1_m1_0=>(bif decide (v1_12<(l.length:Int)) then chk (0≤v1_12∧v1_12<(l.length:Int)) (letP (nthT l v1_12) fun x4_1=>(bif decide (x4_1.node<(0:Int)) then some false else (bif decide (nodes≤x4_1.node) then some false else letP (wr ((mgo v1_m1_0 x4_1.node).tdiv (2:Int))) fun u6_13=>(bif !(decide (x4_1.index=u6_13)) then some false else (bif !(x4_1.done_ == (decide (((mgo v1_m1_0 x4_1.node).tmod (2:Int))=(1:Int)))) then some false else (bif !x4_1.done_ then (bif !(decide (x4_1.value=(0:Int))) then some false else letP (mset v1_m1_0 x4_1.node (wr ((mgo v1_m1_0 x4_1.node)+(1:Int)))) fun l8_5=>chk (inR (v1_12+(1:Int))) ((trrightS_l1 l nodes k0 m) (v1_12+(1:Int)) l8_5)) else letP (mset v1_m1_0 x4_1.node (wr ((mgo v1_m1_0 x4_1.node)+(1:Int)))) fun l8_5=>chk (inR (v1_12+(1:Int))) ((trrightS_l1 l nodes k0 m) (v1_12+(1:Int)) l8_5))))))) else k0 v1_m1_0)
def trrightS (nodes:Int) (l:List EventS):Option (Bool) :=
 trrightS_l1 l nodes trrightS_j0 (l.length+1) (0:Int) ([]:List (Int×Int))
theorem trrightF {nodes:Int} {l:List EventS} {lA:Asn} (la:Option Addr) (lc:Nat) (hlA:Rdb lA la lc l) {y:Bool} (H:trrightS nodes l=some y):FnY Tryz.prog 115 [.int .i64 nodes,.slice la l.length lc] ⟨[],[lA]⟩ (Z:=Unit) (fun y _=>.bool y) (fun y _=>⟨[],[lA]⟩) y:=by
 unfold trrightS at H
 refine xfY Tryz.func115 fun W0 F=>?_
 refine xo [] [] [] (oc_mmake Int 243 Tryz.prog) fun m1_0=>?_
 refine xj [100] (ι:=(List (Int×Int))) (fun e0_m1_0=>⟨[],[],[(FMapA m1_0 e0_m1_0),lA]⟩) (fun e0_m1_0=>trrightS_j0 e0_m1_0=some y) ?_ ?_
 · rintro e0_m1_0 H
   replace H:trrightS_j0 e0_m1_0=some y:=H
   rw [trrightS_j0] at H
   exact xrY (someE H) [] [] [] [1] ()
 · intro N0 hN0
   refine xl [] (ι:=Int×(List (Int×Int))) (fun (v1_12,v1_m1_0)=>⟨[(0,.int .i64 nodes),(5,.map (some m1_0)),(10,.slice la l.length lc),(11,.int .i64 l.length),(12,.int .i64 v1_12)],[],[(FMapA m1_0 v1_m1_0),lA]⟩) (fun m1 (v1_12,v1_m1_0)=>trrightS_l1 l nodes (trrightS_j0) m1 v1_12 v1_m1_0=some y) [] [0,0] ((l.length+1)) ((0:Int),([]:List (Int×Int))) H ?_
   rintro N1 (_ | m1) ⟨v1_12,v1_m1_0⟩ H hN1
   · exact (noneE H).elim
   replace H:trrightS_l1 l nodes (trrightS_j0) (m1+1) v1_12 v1_m1_0=some y:=H
   rw [trrightS_l1] at H
   refine xs [] H ?_ ?_
   · intro H
     refine chkG H fun q4_0_1 H=>?_
     refine xi [1] 1 hlA q4_0_1 fun b1 o1 e1=>?_
     refine letG H fun x4_1 hx4_1 H=>?_
     refine xo [] [] [1] (oc_ldN hlA e1 q4_0_1 hx4_1 0 4) fun _=>?_
     refine xn [] fun b4_2=>?_
     refine xpl [0,0] 2 (ol_mget1 (α:=Int) 243 3 3 Tryz.prog m1_0 x4_1.node v1_m1_0 (fun _=>rfl) ⟨.i64,by kernel_rfl⟩) ?_
     refine xs [0] H ?_ ?_
     · intro H
       exact xrY (someE H) [0,0,0,0,1,0,0,0,0,0,1,0,0,0,0,0,0,1,0,0,0,0,0,0,0,0,1,1] [] [] [1] ()
     · intro H
       refine xs [1,1,0,1,1,0] H ?_ ?_
       · intro H
         exact xrY (someE H) [0,0,0,0,0,1,0,0,0,0,0,0,1,0,0,0,0,0,0,0,0,1,1] [] [] [1] ()
       · intro H
         refine letG H fun u6_13 hu6_13 H=>?_
         refine xw [1,1,0,1,1,300] 33 (congrArg (Value.int .i64) hu6_13) ?_
         refine xs [1,0] H ?_ ?_
         · intro H
           exact xrY (someE H) [0,0,0,0,0,0,1,0,0,0,0,0,0,0,0,1,1] [] [] [1] ()
         · intro H
           refine xs [1,1,0,1,1,1,1,0] H ?_ ?_
           · intro H
             exact xrY (someE H) [0,0,0,0,0,0,0,0,1,1] [] [] [1] ()
           · intro H
             refine xs [1,1,0,1,1] H ?_ ?_
             · intro H
               refine xs [1,1,0,1,1,1,0] H ?_ ?_
               · intro H
                 exact xrY (someE H) [1] [] [] [1] ()
               · intro H
                 refine xpl [0,0] 2 (ol_mget1 (α:=Int) 243 3 3 Tryz.prog m1_0 x4_1.node v1_m1_0 (fun _=>rfl) ⟨.i64,by kernel_rfl⟩) ?_
                 refine letG H fun l8_5 hl8_5 H=>?_
                 refine xo [1] [] [2,3] (oc_mset (α:=Int) 243 3 3 Tryz.prog m1_0 x4_1.node v1_m1_0 (wr ((mgo v1_m1_0 x4_1.node)+(1:Int)):Int) () hl8_5 ⟨.i64,by kernel_rfl⟩) fun _=>?_
                 refine chkG H fun q9_0_1 H=>?_
                 refine xd [0] (ap q9_0_1 an) ?_
                 exact xe [] _ [] [0,1] (hN1 _ (v1_12+(1:Int),l8_5) (Nat.lt_succ_self _) H)
             · intro H
               refine xpl [0,0,0,1,0,0,0,0] 2 (ol_mget1 (α:=Int) 243 3 3 Tryz.prog m1_0 x4_1.node v1_m1_0 (fun _=>rfl) ⟨.i64,by kernel_rfl⟩) ?_
               refine letG H fun l8_5 hl8_5 H=>?_
               refine xo [1] [] [2,3] (oc_mset (α:=Int) 243 3 3 Tryz.prog m1_0 x4_1.node v1_m1_0 (wr ((mgo v1_m1_0 x4_1.node)+(1:Int)):Int) () hl8_5 ⟨.i64,by kernel_rfl⟩) fun _=>?_
               refine chkG H fun q9_0_2 H=>?_
               refine xd [0] (ap q9_0_2 an) ?_
               exact xe [] _ [] [0,1] (hN1 _ (v1_12+(1:Int),l8_5) (Nat.lt_succ_self _) H)
   · intro H
     exact xe [0] _ [] [0,0] (hN0 (v1_m1_0) H)
def anewS_j0 (c:CfgS) (e0_b1_2_8x:List Int):Option (MemS) :=
 some ({ c:=c,l:=e0_b1_2_8x }:MemS)
def anewS_l1 (c:CfgS) (k0:(List Int)→Option (MemS)):Nat→Int→(List Int)→Option (MemS)
 |0,_,_=>none
 |m+1,v1_10,v1_b1_2_8x=>(bif decide (v1_10<c.lines) then (pwordsS c v1_10).bind fun y5_7=>chk ((v1_b1_2_8x++y5_7).length≤1099511627776) (letP (v1_b1_2_8x++y5_7) fun l5_8=>chk (inR (v1_10+(1:Int))) ((anewS_l1 c k0 m) (v1_10+(1:Int)) l5_8)) else k0 v1_b1_2_8x)
def anewS (c:CfgS):Option (MemS) :=
 anewS_l1 c (anewS_j0 c) (c.lines.toNat+1) (0:Int) ([]:List Int)
theorem anewF {c:CfgS} (c0a:Option Addr) (c0c:Nat) {y:MemS} (H:anewS c=some y):FnY Tryz.prog 116 [.agg #[.int .i64 c.nodes,.int .i64 c.lines,.int .i64 c.words,.int .i64 c.sets,.int .i64 c.ways,.int .i64 c.out,.int .i64 c.inn,.slice c0a c.init.length c0c]] ⟨[],[(ImmA c0a c0c c.init)]⟩ (Z:=Nat) (fun y (zb0:Nat)=>.pointer (some ⟨zb0,0,none⟩)) (fun y (zb0:Nat)=>⟨[],[(MemA zb0 y)]⟩) y:=by
 unfold anewS at H
 refine xfY Tryz.func116 fun W0 F=>?_
 refine xn [] fun b0_0=>?_
 refine xn [0] fun b1_2=>?_
 refine xj [100] (ι:=List Int×Option Addr×Nat) (fun (e0_b1_2_8x,e0_b1_2_8a,e0_b1_2_8c)=>⟨[(3,.pointer (some ⟨b1_2,0,none⟩))],[⟨b1_2,#[.int .i64 c.nodes,.int .i64 c.lines,.int .i64 c.words,.int .i64 c.sets,.int .i64 c.ways,.int .i64 c.out,.int .i64 c.inn,.slice c0a c.init.length c0c,.slice e0_b1_2_8a e0_b1_2_8x.length e0_b1_2_8c],197⟩],[(ArrA e0_b1_2_8a e0_b1_2_8c e0_b1_2_8x),(ImmA c0a c0c c.init)]⟩) (fun (e0_b1_2_8x,e0_b1_2_8a,e0_b1_2_8c)=>anewS_j0 c e0_b1_2_8x=some y) ?_ ?_
 · rintro ⟨e0_b1_2_8x,e0_b1_2_8a,e0_b1_2_8c⟩ H
   replace H:anewS_j0 c e0_b1_2_8x=some y:=H
   rw [anewS_j0] at H
   refine xg [] [0] [1,0] (gh_shut (MemO b1_2 ({ c:=c,l:=e0_b1_2_8x }:MemS)) (c0a,c0c,e0_b1_2_8a,e0_b1_2_8c)) fun _=>?_
   exact xrY (someE H) [] [] [] [0] (b1_2)
 · intro N0 hN0
   refine xg [1] [] [] (gh_nil (α:=Int) none) fun _=>?_
   refine xl [] (ι:=Int×List Int×Option Addr×Nat) (fun (v1_10,v1_b1_2_8x,v1_b1_2_8a,v1_b1_2_8c)=>⟨[(1,.pointer (some ⟨b0_0,0,none⟩)),(3,.pointer (some ⟨b1_2,0,none⟩)),(9,.int .i64 c.lines),(10,.int .i64 v1_10)],[⟨b1_2,#[.int .i64 c.nodes,.int .i64 c.lines,.int .i64 c.words,.int .i64 c.sets,.int .i64 c.ways,.int .i64 c.out,.int .i64 c.inn,.slice c0a c.init.length c0c,.slice v1_b1_2_8a v1_b1_2_8x.length v1_b1_2_8c],197⟩,⟨b0_0,#[.int .i64 c.nodes,.int .i64 c.lines,.int .i64 c.words,.int .i64 c.sets,.int .i64 c.ways,.int .i64 c.out,.int .i64 c.inn,.slice c0a c.init.length c0c],25⟩],[(ArrA v1_b1_2_8a v1_b1_2_8c v1_b1_2_8x),(ImmA c0a c0c c.init)]⟩) (fun m1 (v1_10,v1_b1_2_8x,v1_b1_2_8a,v1_b1_2_8c)=>anewS_l1 c (anewS_j0 c) m1 v1_10 v1_b1_2_8x=some y) [0,0] [0,0] ((c.lines.toNat+1)) ((0:Int),([]:List Int),none,0) H ?_
   rintro N1 (_ | m1) ⟨v1_10,v1_b1_2_8x,v1_b1_2_8a,v1_b1_2_8c⟩ H hN1
   · exact (noneE H).elim
   replace H:anewS_l1 c (anewS_j0 c) (m1+1) v1_10 v1_b1_2_8x=some y:=H
   rw [anewS_l1] at H
   refine xs [] H ?_ ?_
   · intro H
     refine bindG H fun y5_7 hy5_7 H=>?_
     refine xc [1,0,1,2,3,4,0,5,1,6,7] [] [1] (pwordsF c0a c0c (rI c0a c0c c.init) hy5_7) fun ⟨t5_7_a0,t5_7_c0⟩=>?_
     refine chkG H fun q5_8_1 H=>?_
     refine letG H fun l5_8 hl5_8 H=>?_
     refine xa [8] [2,0] (a:=v1_b1_2_8a) (l:=v1_b1_2_8x) (zs:=l5_8) (cap:=v1_b1_2_8c) (rA t5_7_a0 t5_7_c0 y5_7) hl5_8 (hl5_8▸q5_8_1) fun ⟨a5_8,c5_8⟩=>?_
     refine chkG H fun q6_0_1 H=>?_
     refine xd [9,10,11,0,0] (ap q6_0_1 an) ?_
     exact xe [] _ [0,0] [0,1] (hN1 _ (v1_10+(1:Int),l5_8,a5_8,c5_8) (Nat.lt_succ_self _) H)
   · intro H
     exact xe [0] _ [0] [0,0] (hN0 (v1_b1_2_8x,v1_b1_2_8a,v1_b1_2_8c) H)
def adoS_j0 (mc:MemS) (e0_m_8x:List Int):Option (Int×Int×MemS) :=
 some ((0:Int),(0:Int),({ mc with l:=e0_m_8x }:MemS))
def adoS (mc:MemS) (op:OpS):Option (Int×Int×MemS) :=
 chk (0≤mc.c.nodes∧mc.c.nodes≤1099511627776) (letP (List.replicate (mc.c.nodes).toNat ([]:List OpS)) fun l1_5=>chk (0≤(0:Int)∧(0:Int)<(l1_5.length:Int)) (letP (setR l1_5 (0:Int) ([op])) fun l2_4=>(popsS mc.c l2_4).bind fun y3_5=>(bif !(decide (y3_5=(0:Int))) then some ((0:Int),y3_5,mc) else chk (0≤op.addr∧op.addr<(mc.l.length:Int)) ((bif decide (op.kind=(1:Int)) then some (nth mc.l op.addr,(0:Int),mc) else (bif decide (op.kind=(2:Int)) then chk (0≤op.addr∧op.addr<(mc.l.length:Int)) (letP (setT mc.l op.addr op.value) fun l11_9=>(adoS_j0 mc) l11_9) else (bif decide (op.kind=(3:Int)) then chk (0≤op.addr∧op.addr<(mc.l.length:Int)) (letP (setT mc.l op.addr (wr ((nth mc.l op.addr)+op.value))) fun l13_11=>some (nth mc.l op.addr,(0:Int),({ mc with l:=l13_11 }:MemS))) else (adoS_j0 mc) mc.l)))))))
theorem adoF {mc:MemS} {op:OpS} (m:Nat) {y:Int×Int×MemS} (H:adoS mc op=some y):FnY Tryz.prog 117 [.pointer (some ⟨m,0,none⟩),.agg #[.int .i64 op.kind,.int .i64 op.addr,.int .i64 op.value]] ⟨[],[(MemA m mc)]⟩ (Z:=Unit) (fun y _=>.tuple #[.int .i64 y.1,.int .i64 y.2.1]) (fun y _=>⟨[],[(MemA m y.2.2)]⟩) y:=by
 unfold adoS at H
 refine xfY Tryz.func117 fun W0 F=>?_
 refine xn [] fun b0_0=>?_
 refine xg [] [] [0] (gh_open (MemO m mc)) fun ⟨a_c_init1,c_c_init2,a_l3,c_l4⟩=>?_
 refine chkG H fun q1_5_1 H=>?_
 refine letG H fun l1_5 hl1_5 H=>?_
 refine xmkO (α:=List OpS) [0] q1_5_1 hl1_5 roList_d fun b1_5=>?_
 refine xn [1] fun b2_2=>?_
 refine chkG H fun q2_3_1 H=>?_
 refine xg [] [] [0] (gh_foc (some ⟨b1_5,0,none⟩) ((mc.c.nodes).toNat) l1_5 (0:Int) q2_3_1) fun ⟨wa1,wc1⟩=>?_
 refine xiG (K:=1) [] 1 (ix_hol (some ⟨b1_5,0,none⟩) ((mc.c.nodes).toNat) l1_5 (0:Int) (wa1,wc1) q2_3_1) q2_3_1 fun b1 o1 e1=>?_
 refine xg [] [0] [4] (gh_one b2_2 29 op ()) fun _=>?_
 refine letG H fun l2_4 hl2_4 H=>?_
 refine xo [] [] [0,1] (oc_hst (some ⟨b1_5,0,none⟩) ((mc.c.nodes).toNat) l1_5 (0:Int) (wa1,wc1) ([op]) (some ⟨b2_2,0,none⟩,1) e1 q2_3_1 hl2_4) fun _=>?_
 refine xw [300] 6 (congrArg (fun n:Nat=>(.slice (some ⟨b1_5,0,none⟩) n ((mc.c.nodes).toNat):Value)) (setR_len hl2_4)) ?_
 refine xw [300] 15 (congrArg (fun n:Nat=>(.slice (some ⟨b1_5,0,none⟩) n ((mc.c.nodes).toNat):Value)) (setR_len hl2_4)) ?_
 refine xg [0] [] [0] (gh_frzO (some ⟨b1_5,0,none⟩) ((mc.c.nodes).toNat) l2_4) fun _=>?_
 refine bindG H fun y3_5 hy3_5 H=>?_
 refine xc [] [] [0] (popsF a_c_init1 c_c_init2 (some ⟨b1_5,0,none⟩) ((mc.c.nodes).toNat) (rA (some ⟨b1_5,0,none⟩) ((mc.c.nodes).toNat) l2_4) hy3_5) fun _=>?_
 refine xs [] H ?_ ?_
 · intro H
   refine xg [1] [0] [2,2] (gh_shut (MemO m mc) (a_c_init1,c_c_init2,a_l3,c_l4)) fun _=>?_
   exact xrY (someE H) [] [] [] [0] ()
 · intro H
   refine chkG H fun q6_6_1 H=>?_
   refine xi [0,0,1,2,3,0,4,5,1,6] 3 (rA a_l3 c_l4 mc.l) q6_6_1 fun b2 o2 e2=>?_
   refine xpl [7] 3 (ol_ld (rA a_l3 c_l4 mc.l) e2 q6_6_1 0 (fun _=>rfl)) ?_
   refine xj [8,100] (ι:=List Int×Option Addr×Nat) (fun (e0_m_8x,e0_m_8a,e0_m_8c)=>⟨[],[⟨m,#[.int .i64 mc.c.nodes,.int .i64 mc.c.lines,.int .i64 mc.c.words,.int .i64 mc.c.sets,.int .i64 mc.c.ways,.int .i64 mc.c.out,.int .i64 mc.c.inn,.slice a_c_init1 mc.c.init.length c_c_init2,.slice e0_m_8a e0_m_8x.length e0_m_8c],197⟩],[(ArrA e0_m_8a e0_m_8c e0_m_8x),(ImmA a_c_init1 c_c_init2 mc.c.init)]⟩) (fun (e0_m_8x,e0_m_8a,e0_m_8c)=>adoS_j0 mc e0_m_8x=some y) ?_ ?_
   · rintro ⟨e0_m_8x,e0_m_8a,e0_m_8c⟩ H
     replace H:adoS_j0 mc e0_m_8x=some y:=H
     rw [adoS_j0] at H
     refine xg [] [0] [1,0] (gh_shut (MemO m ({ mc with l:=e0_m_8x }:MemS)) (a_c_init1,c_c_init2,e0_m_8a,e0_m_8c)) fun _=>?_
     exact xrY (someE H) [] [] [] [0] ()
   · intro N0 hN0
     refine xs [1] H ?_ ?_
     · intro H
       refine xg [1] [0] [2,2] (gh_shut (MemO m mc) (a_c_init1,c_c_init2,a_l3,c_l4)) fun _=>?_
       exact xrY (someE H) [] [] [] [0] ()
     · intro H
       refine xs [0] H ?_ ?_
       · intro H
         refine chkG H fun q11_8_1 H=>?_
         refine xi [1,0,1,2,3,0,4,5,1,6,7,1,8] 3 (rA a_l3 c_l4 mc.l) q11_8_1 fun b3 o3 e3=>?_
         refine letG H fun l11_9 hl11_9 H=>?_
         refine xo [9] [] [3,4] (oc_st (α:=Int) (cap:=c_l4) (e:=op.value) () e3 q11_8_1 hl11_9) fun _=>?_
         refine xw [] 46 (congrArg (fun n:Nat=>(.slice a_l3 n c_l4:Value)) (set_len hl11_9)) ?_
         refine xg [] [0] [] (gh_cells m 197 (congrArg (fun n:Nat=>(#[.int .i64 mc.c.nodes,.int .i64 mc.c.lines,.int .i64 mc.c.words,.int .i64 mc.c.sets,.int .i64 mc.c.ways,.int .i64 mc.c.out,.int .i64 mc.c.inn,.slice a_c_init1 mc.c.init.length c_c_init2,.slice a_l3 n c_l4]:Array Value)) (set_len hl11_9))) fun _=>?_
         exact xe [] _ [0] [0,2] (hN0 (l11_9,a_l3,c_l4) H)
       · intro H
         refine xs [0] H ?_ ?_
         · intro H
           refine chkG H fun q13_10_1 H=>?_
           refine xi [1,0,1,2,3,0,4,5,1,6,7,8,1,9,1,10] 3 (rA a_l3 c_l4 mc.l) q13_10_1 fun b4 o4 e4=>?_
           refine letG H fun l13_11 hl13_11 H=>?_
           refine xo [11] [] [3,4] (oc_st (α:=Int) (cap:=c_l4) (e:=wr ((nth mc.l op.addr)+op.value)) () e4 q13_10_1 hl13_11) fun _=>?_
           refine xw [] 57 (congrArg (fun n:Nat=>(.slice a_l3 n c_l4:Value)) (set_len hl13_11)) ?_
           refine xg [] [0] [] (gh_cells m 197 (congrArg (fun n:Nat=>(#[.int .i64 mc.c.nodes,.int .i64 mc.c.lines,.int .i64 mc.c.words,.int .i64 mc.c.sets,.int .i64 mc.c.ways,.int .i64 mc.c.out,.int .i64 mc.c.inn,.slice a_c_init1 mc.c.init.length c_c_init2,.slice a_l3 n c_l4]:Array Value)) (set_len hl13_11))) fun _=>?_
           refine xg [] [0] [3,0] (gh_shut (MemO m ({ mc with l:=l13_11 }:MemS)) (a_c_init1,c_c_init2,a_l3,c_l4)) fun _=>?_
           exact xrY (someE H) [] [] [] [0] ()
         · intro H
           exact xe [0] _ [0] [3,2] (hN0 (mc.l,a_l3,c_l4) H)
def afoldS_j1 (e1_t3_1_b0:MemS):Option (Option MemS×Bool) :=
 some ((some e1_t3_1_b0),true)
def afoldS_l2 (l:List EventS) (programs:List (List OpS)) (k1:MemS→Option (Option MemS×Bool)):Nat→Int→MemS→Option (Option MemS×Bool)
 |0,_,_=>none
 |m+1,v2_28,v2_t3_1_b0=>(bif decide (v2_28<(l.length:Int)) then chk (0≤v2_28∧v2_28<(l.length:Int)) (letP (nthT l v2_28) fun x6_1=>chk (0≤x6_1.node∧x6_1.node<(programs.length:Int)) (letP (nthT programs x6_1.node) fun x7_6=>(bif decide ((x7_6.length:Int)≤x6_1.index) then some (none,false) else (bif !x6_1.done_ then chk (inR (v2_28+(1:Int))) ((afoldS_l2 l programs k1 m) (v2_28+(1:Int)) v2_t3_1_b0) else chk (0≤x6_1.node∧x6_1.node<(programs.length:Int)) (letP (nthT programs x6_1.node) fun x10_5=>chk (0≤x6_1.index∧x6_1.index<(x10_5.length:Int)) ((adoS v2_t3_1_b0 (nthT x10_5 x6_1.index)).bind fun y10_10=>(bif !(decide (y10_10.2.1=(0:Int))) then some (none,false) else (bif !(decide (y10_10.1=x6_1.value)) then some (none,false) else chk (inR (v2_28+(1:Int))) ((afoldS_l2 l programs k1 m) (v2_28+(1:Int)) y10_10.2.2))))))))) else k1 v2_t3_1_b0)
def afoldS_j0 (c:CfgS) (l:List EventS) (programs:List (List OpS)) (e0_23:Bool):Option (Option MemS×Bool) :=
 (bif e0_23 then some (none,false) else (anewS c).bind fun y3_1=>afoldS_l2 l programs afoldS_j1 (l.length+1) (0:Int) y3_1)
def afoldS (c:CfgS) (programs:List (List OpS)) (l:List EventS):Option (Option MemS×Bool) :=
 (popsS c programs).bind fun y1_2=>(bif !(decide (y1_2=(0:Int))) then (afoldS_j0 c l programs) true else (trrightS c.nodes l).bind fun y1_8=>(afoldS_j0 c l programs) !y1_8)
theorem afoldF {c:CfgS} {programs:List (List OpS)} {programsA:Asn} {l:List EventS} {lA:Asn} (c0a:Option Addr) (c0c:Nat) (programsa:Option Addr) (programsc:Nat) (la:Option Addr) (lc:Nat) (hprogramsA:Rdb programsA programsa programsc programs) (hlA:Rdb lA la lc l) {y:Option MemS×Bool} (H:afoldS c programs l=some y):FnY Tryz.prog 71 [.agg #[.int .i64 c.nodes,.int .i64 c.lines,.int .i64 c.words,.int .i64 c.sets,.int .i64 c.ways,.int .i64 c.out,.int .i64 c.inn,.slice c0a c.init.length c0c],.slice programsa programs.length programsc,.slice la l.length lc] ⟨[],[(ImmA c0a c0c c.init),programsA,lA]⟩ (Z:=Nat) (fun y (zb0:Nat)=>.tuple #[(optV y.1 zb0),.bool y.2]) (fun y (zb0:Nat)=>⟨[],[(optA (MemA zb0) y.1),programsA,lA]⟩) y:=by
 unfold afoldS at H
 refine xfY Tryz.func71 fun W0 F=>?_
 refine xn [] fun b0_0=>?_
 refine xj [101] (ι:=Bool) (fun e0_23=>⟨[(1,.slice programsa programs.length programsc),(2,.slice la l.length lc),(3,.pointer (some ⟨b0_0,0,none⟩)),(23,.bool e0_23)],[⟨b0_0,#[.int .i64 c.nodes,.int .i64 c.lines,.int .i64 c.words,.int .i64 c.sets,.int .i64 c.ways,.int .i64 c.out,.int .i64 c.inn,.slice c0a c.init.length c0c],25⟩],[programsA,(ImmA c0a c0c c.init),lA]⟩) (fun e0_23=>afoldS_j0 c l programs e0_23=some y) ?_ ?_
 · rintro e0_23 H
   replace H:afoldS_j0 c l programs e0_23=some y:=H
   rw [afoldS_j0] at H
   refine xs [] H ?_ ?_
   · intro H
     exact xrY (someE H) [1] [] [] [53,0,1] (0)
   · intro H
     refine xg [0,0] [] [1] (gh_dup c0a c0c c.init) fun _=>?_
     refine bindG H fun y3_1 hy3_1 H=>?_
     refine xc [] [] [0] (anewF c0a c0c hy3_1) fun t3_1_b0=>?_
     refine xj [100] (ι:=MemS) (fun e1_t3_1_b0=>⟨[(8,.pointer (some ⟨t3_1_b0,0,none⟩))],[],[(MemA t3_1_b0 e1_t3_1_b0),programsA,lA]⟩) (fun e1_t3_1_b0=>afoldS_j1 e1_t3_1_b0=some y) ?_ ?_
     · rintro e1_t3_1_b0 H
       replace H:afoldS_j1 e1_t3_1_b0=some y:=H
       rw [afoldS_j1] at H
       exact xrY (someE H) [] [] [] [0,0,0] (t3_1_b0)
     · intro N1 hN1
       refine xl [] (ι:=Int×MemS) (fun (v2_28,v2_t3_1_b0)=>⟨[(1,.slice programsa programs.length programsc),(8,.pointer (some ⟨t3_1_b0,0,none⟩)),(26,.slice la l.length lc),(27,.int .i64 l.length),(28,.int .i64 v2_28)],[],[(MemA t3_1_b0 v2_t3_1_b0),programsA,lA]⟩) (fun m2 (v2_28,v2_t3_1_b0)=>afoldS_l2 l programs (afoldS_j1) m2 v2_28 v2_t3_1_b0=some y) [] [0,1,1] ((l.length+1)) ((0:Int),y3_1) H ?_
       rintro N2 (_ | m2) ⟨v2_28,v2_t3_1_b0⟩ H hN2
       · exact (noneE H).elim
       replace H:afoldS_l2 l programs (afoldS_j1) (m2+1) v2_28 v2_t3_1_b0=some y:=H
       rw [afoldS_l2] at H
       refine xs [] H ?_ ?_
       · intro H
         refine chkG H fun q6_0_1 H=>?_
         refine xi [1] 2 hlA q6_0_1 fun b1 o1 e1=>?_
         refine letG H fun x6_1 hx6_1 H=>?_
         refine xo [] [] [2] (oc_ldN hlA e1 q6_0_1 hx6_1 0 4) fun _=>?_
         refine xn [] fun b6_2=>?_
         refine chkG H fun q7_5_1 H=>?_
         refine xi [0,0,1,0,2,3,4,0,5] 3 hprogramsA q7_5_1 fun b2 o2 e2=>?_
         refine letG H fun x7_6 hx7_6 H=>?_
         refine xo [6] [] [3] (oc_ld hprogramsA e2 q7_5_1 hx7_6 0) fun z7_6_1=>?_
         refine xs [7,8] H ?_ ?_
         · intro H
           exact xrY (someE H) [1] [] [] [55,1,2] (0)
         · intro H
           refine xs [0,0] H ?_ ?_
           · intro H
             refine chkG H fun q13_0_1 H=>?_
             refine xd [1,0] (ap q13_0_1 an) ?_
             exact xe [] _ [] [4,1,2] (hN2 _ (v2_28+(1:Int),v2_t3_1_b0) (Nat.lt_succ_self _) H)
           · intro H
             refine chkG H fun q10_4_1 H=>?_
             refine xi [0,0,1,2,3,0,4] 1 hprogramsA q10_4_1 fun b3 o3 e3=>?_
             refine letG H fun x10_5 hx10_5 H=>?_
             refine xo [6,7,0,5] [] [1] (oc_ld hprogramsA e3 q10_4_1 hx10_5 0) fun z10_5_1=>?_
             refine chkG H fun q10_8_1 H=>?_
             refine xi [8] 0 (rI z10_5_1.1 z10_5_1.2 x10_5) q10_8_1 fun b4 o4 e4=>?_
             refine xpl [9] 0 (ol_ldN (rI z10_5_1.1 z10_5_1.2 x10_5) e4 q10_8_1 0 3 (fun _=>rfl)) ?_
             refine bindG H fun y10_10 hy10_10 H=>?_
             refine xc [10] [] [5] (adoF t3_1_b0 hy10_10) fun _=>?_
             refine xs [11,12,13,14,15] H ?_ ?_
             · intro H
               exact xrY (someE H) [0,0,0,0,1,1] [] [] [56,2,4] (0)
             · intro H
               refine xs [1,1,1,0,1,0] H ?_ ?_
               · intro H
                 exact xrY (someE H) [1] [] [] [56,2,4] (0)
               · intro H
                 refine chkG H fun q13_0_2 H=>?_
                 refine xd [0,0] (ap q13_0_2 an) ?_
                 exact xe [] _ [] [0,1,3] (hN2 _ (v2_28+(1:Int),y10_10.2.2) (Nat.lt_succ_self _) H)
       · intro H
         exact xe [0] _ [] [0,0,0] (hN1 (v2_t3_1_b0) H)
 · intro N0 hN0
   refine bindG H fun y1_2 hy1_2 H=>?_
   refine xc [0] [] [1] (popsF c0a c0c programsa programsc hprogramsA hy1_2) fun _=>?_
   refine xs [] H ?_ ?_
   · intro H
     exact xe [0,0,0,0,0,1] _ [0] [0,0,0] (hN0 (true) H)
   · intro H
     refine bindG H fun y1_8 hy1_8 H=>?_
     refine xc [1,1,0,1,1] [] [2] (trrightF la lc hlA hy1_8) fun _=>?_
     exact xe [1,0] _ [0] [1,1,0] (hN0 (!y1_8) H)
def alegS (c:CfgS) (programs:List (List OpS)) (l:List EventS):Option (Bool) :=
 (afoldS c programs l).bind fun y1_3=>some y1_3.2
theorem alegF {c:CfgS} {programs:List (List OpS)} {programsA:Asn} {l:List EventS} {lA:Asn} (c0a:Option Addr) (c0c:Nat) (programsa:Option Addr) (programsc:Nat) (la:Option Addr) (lc:Nat) (hprogramsA:Rdb programsA programsa programsc programs) (hlA:Rdb lA la lc l) {y:Bool} (H:alegS c programs l=some y):FnY Tryz.prog 35 [.agg #[.int .i64 c.nodes,.int .i64 c.lines,.int .i64 c.words,.int .i64 c.sets,.int .i64 c.ways,.int .i64 c.out,.int .i64 c.inn,.slice c0a c.init.length c0c],.slice programsa programs.length programsc,.slice la l.length lc] ⟨[],[(ImmA c0a c0c c.init),programsA,lA]⟩ (Z:=Unit) (fun y _=>.bool y) (fun y _=>⟨[],[programsA,lA]⟩) y:=by
 unfold alegS at H
 refine xfY Tryz.func35 fun W0 F=>?_
 refine xn [] fun b0_0=>?_
 refine xg [0] [] [0] (gh_dup c0a c0c c.init) fun _=>?_
 refine bindG H fun y1_3 hy1_3 H=>?_
 refine xc [] [] [0,1,1] (afoldF c0a c0c programsa programsc la lc hprogramsA hlA hy1_3) fun t1_3_b0=>?_
 exact xrY (someE H) [] [] [] [1,1] ()
def awordsS (mc:MemS):Option (List Int) :=
 (cloneS mc.l).bind fun y1_4=>some y1_4
theorem awordsF {mc:MemS} (m:Nat) (m_a_c_init:Option Addr) (m_c_c_init:Nat) (m_a_l:Option Addr) (m_c_l:Nat) {y:List Int} (H:awordsS mc=some y):FnY Tryz.prog 72 [.pointer (some ⟨m,0,none⟩)] ⟨[⟨m,#[.int .i64 mc.c.nodes,.int .i64 mc.c.lines,.int .i64 mc.c.words,.int .i64 mc.c.sets,.int .i64 mc.c.ways,.int .i64 mc.c.out,.int .i64 mc.c.inn,.slice m_a_c_init mc.c.init.length m_c_c_init,.slice m_a_l mc.l.length m_c_l],197⟩],[(ImmA m_a_c_init m_c_c_init mc.c.init),(ArrA m_a_l m_c_l mc.l)]⟩ (Z:=Option Addr×Nat) (fun y (za0,zc0)=>.slice za0 y.length zc0) (fun y (za0,zc0)=>⟨[⟨m,#[.int .i64 mc.c.nodes,.int .i64 mc.c.lines,.int .i64 mc.c.words,.int .i64 mc.c.sets,.int .i64 mc.c.ways,.int .i64 mc.c.out,.int .i64 mc.c.inn,.slice m_a_c_init mc.c.init.length m_c_c_init,.slice m_a_l mc.l.length m_c_l],197⟩],[(ArrA za0 zc0 y),(ImmA m_a_c_init m_c_c_init mc.c.init),(ArrA m_a_l m_c_l mc.l)]⟩) y:=by
 unfold awordsS at H
 refine xfY Tryz.func72 fun W0 F=>?_
 refine bindG H fun y1_4 hy1_4 H=>?_
 refine xc [0] [] [1] (cloneF m_a_l m_c_l (rA m_a_l m_c_l mc.l) hy1_4) fun ⟨t1_4_a0,t1_4_c0⟩=>?_
 exact xrY (someE H) [] [] [0] [0,1,0] (t1_4_a0,t1_4_c0)
def aaftS (c:CfgS) (programs:List (List OpS)) (l:List EventS):Option (List Int) :=
 (afoldS c programs l).bind fun y1_3=>(bif !y1_3.2 then some ([]:List Int) else (optM y1_3.1 (fun n4_0_1=>(awordsS n4_0_1).bind fun y4_1=>some y4_1) (none)))
theorem aaftF {c:CfgS} {programs:List (List OpS)} {programsA:Asn} {l:List EventS} {lA:Asn} (c0a:Option Addr) (c0c:Nat) (programsa:Option Addr) (programsc:Nat) (la:Option Addr) (lc:Nat) (hprogramsA:Rdb programsA programsa programsc programs) (hlA:Rdb lA la lc l) {y:List Int} (H:aaftS c programs l=some y):FnY Tryz.prog 29 [.agg #[.int .i64 c.nodes,.int .i64 c.lines,.int .i64 c.words,.int .i64 c.sets,.int .i64 c.ways,.int .i64 c.out,.int .i64 c.inn,.slice c0a c.init.length c0c],.slice programsa programs.length programsc,.slice la l.length lc] ⟨[],[(ImmA c0a c0c c.init),programsA,lA]⟩ (Z:=Option Addr×Nat) (fun y (za0,zc0)=>.slice za0 y.length zc0) (fun y (za0,zc0)=>⟨[],[(ArrA za0 zc0 y),programsA,lA]⟩) y:=by
 unfold aaftS at H
 refine xfY Tryz.func29 fun W0 F=>?_
 refine xn [] fun b0_0=>?_
 refine xg [0] [] [0] (gh_dup c0a c0c c.init) fun _=>?_
 refine bindG H fun y1_3 hy1_3 H=>?_
 refine xc [] [] [0,1,1] (afoldF c0a c0c programsa programsc la lc hprogramsA hlA hy1_3) fun t1_3_b0=>?_
 refine xs [] H ?_ ?_
 · intro H
   refine xg [1] [] [] (gh_nil (α:=Int) none) fun _=>?_
   exact xrY (someE H) [] [] [] [0,1,1] (none,0)
 · intro H
   refine optG H (fun hn4_0_1 H=>?_) fun n4_0_1 hn4_0_1 H=>?_
   · refine xw [0,301] 7 (optV_n t1_3_b0 hn4_0_1) ?_
     refine xw [300] 18 (optV_n t1_3_b0 hn4_0_1) ?_
     exact (noneE H).elim
   · refine xw [0,301] 7 (optV_s t1_3_b0 hn4_0_1) ?_
     refine xw [300] 18 (optV_s t1_3_b0 hn4_0_1) ?_
     refine xg [300] [] [0] (gh_opt (A:=MemA t1_3_b0) hn4_0_1) fun _=>?_
     refine xg [] [] [0] (gh_open (MemO t1_3_b0 n4_0_1)) fun ⟨a_c_init2,c_c_init3,a_l4,c_l5⟩=>?_
     refine bindG H fun y4_1 hy4_1 H=>?_
     refine xc [] [0] [0,0] (awordsF t1_3_b0 a_c_init2 c_c_init3 a_l4 c_l5 hy4_1) fun ⟨t4_1_a0,t4_1_c0⟩=>?_
     exact xrY (someE H) [] [] [] [0,2,2] (t4_1_a0,t4_1_c0)
end
section
open Go Go.RowKit
def wisS (mc:MachS) (line:Int):Option (Bool) :=
 (bif decide ((0:Int)≤line) then (mconfS mc).bind fun y1_5=>some (decide (line<y1_5.lines)) else some false)
theorem wisF {mc:MachS} {line:Int} (m:Nat) (m_b_fab:Nat) (m_b_trace:Nat) (m_a_c_init:Option Addr) (m_c_c_init:Nat) (m_a_nodes:Option Addr) (m_c_nodes:Nat) (m_r_nodes:List PtrR) {y:Bool} (H:wisS mc line=some y):FnY Tryz.prog 45 [.pointer (some ⟨m,0,none⟩),.int .i64 line] ⟨[⟨m,#[.pointer (some ⟨m_b_fab,0,none⟩),.pointer (some ⟨m_b_trace,0,none⟩),.int .i64 mc.c.nodes,.int .i64 mc.c.lines,.int .i64 mc.c.words,.int .i64 mc.c.sets,.int .i64 mc.c.ways,.int .i64 mc.c.out,.int .i64 mc.c.inn,.slice m_a_c_init mc.c.init.length m_c_c_init,.slice m_a_nodes m_r_nodes.length m_c_nodes],70⟩],[(FabA m_b_fab mc.fab),(TraceA m_b_trace mc.trace),(ImmA m_a_c_init m_c_c_init mc.c.init),(ArrA m_a_nodes m_c_nodes m_r_nodes),(StA mc.nodes m_r_nodes)]⟩ (Z:=Unit) (fun y _=>.bool y) (fun y _=>⟨[⟨m,#[.pointer (some ⟨m_b_fab,0,none⟩),.pointer (some ⟨m_b_trace,0,none⟩),.int .i64 mc.c.nodes,.int .i64 mc.c.lines,.int .i64 mc.c.words,.int .i64 mc.c.sets,.int .i64 mc.c.ways,.int .i64 mc.c.out,.int .i64 mc.c.inn,.slice m_a_c_init mc.c.init.length m_c_c_init,.slice m_a_nodes m_r_nodes.length m_c_nodes],70⟩],[(FabA m_b_fab mc.fab),(TraceA m_b_trace mc.trace),(ImmA m_a_c_init m_c_c_init mc.c.init),(ArrA m_a_nodes m_c_nodes m_r_nodes),(StA mc.nodes m_r_nodes)]⟩) y:=by
 unfold wisS at H
 refine xfY Tryz.func45 fun W0 F=>?_
 refine xs [] H ?_ ?_
 · intro H
   refine bindG H fun y1_5 hy1_5 H=>?_
   refine xc [1,1,1] [0] [0,0,0,0,0] (mconfF m m_b_fab m_b_trace m_a_c_init m_c_c_init m_a_nodes m_c_nodes m_r_nodes hy1_5) fun ⟨t1_5_a0,t1_5_c0⟩=>?_
   exact xrY (someE H) [1,1,1] [] [0] [1,1,1,1,1] ()
 · intro H
   exact xrY (someE H) [0,0,0,0,0,0] [] [0] [0,0,0,0,0] ()
def wcopS_j0 (e0_5x:List Int):Option (List Int) :=
 some e0_5x
def wcopS_l1 (y2_1:CfgS) (mc:MachS) (line:Int) (k0:(List Int)→Option (List Int)):Nat→(List Int)→Int→Option (List Int)
 |0,_,_=>none
 |m+1,v1_5x,v1_12=>(bif decide (v1_12<y2_1.nodes) then (mnodeS mc v1_12).bind fun y5_2=>(optM y5_2 (fun k5_2=>chk (0≤k5_2∧k5_2<(mc.nodes.length:Int)) ((cfindS ((nthS mc.nodes k5_2).cache) line).bind fun y5_7=>(bif y5_7.2 then (wisS mc line).bind fun y6_4=>(bif y6_4 then chk ((v1_5x++([v1_12])).length≤1099511627776) (letP (v1_5x++([v1_12])) fun l7_3=>chk (inR (v1_12+(1:Int))) ((wcopS_l1 y2_1 mc line k0 m) l7_3 (v1_12+(1:Int)))) else chk (inR (v1_12+(1:Int))) ((wcopS_l1 y2_1 mc line k0 m) v1_5x (v1_12+(1:Int)))) else chk (inR (v1_12+(1:Int))) ((wcopS_l1 y2_1 mc line k0 m) v1_5x (v1_12+(1:Int)))))) (none)) else k0 v1_5x)
def wcopS (mc:MachS) (line:Int):Option (List Int) :=
 (mconfS mc).bind fun y2_1=>wcopS_l1 y2_1 mc line wcopS_j0 (mc.c.nodes.toNat+1) ([]:List Int) (0:Int)
theorem wcopF {mc:MachS} {line:Int} (m:Nat) (m_b_fab:Nat) (m_b_trace:Nat) (m_a_c_init:Option Addr) (m_c_c_init:Nat) (m_a_nodes:Option Addr) (m_c_nodes:Nat) (m_r_nodes:List PtrR) {y:List Int} (H:wcopS mc line=some y):FnY Tryz.prog 32 [.pointer (some ⟨m,0,none⟩),.int .i64 line] ⟨[⟨m,#[.pointer (some ⟨m_b_fab,0,none⟩),.pointer (some ⟨m_b_trace,0,none⟩),.int .i64 mc.c.nodes,.int .i64 mc.c.lines,.int .i64 mc.c.words,.int .i64 mc.c.sets,.int .i64 mc.c.ways,.int .i64 mc.c.out,.int .i64 mc.c.inn,.slice m_a_c_init mc.c.init.length m_c_c_init,.slice m_a_nodes m_r_nodes.length m_c_nodes],70⟩],[(FabA m_b_fab mc.fab),(TraceA m_b_trace mc.trace),(ImmA m_a_c_init m_c_c_init mc.c.init),(ArrA m_a_nodes m_c_nodes m_r_nodes),(StA mc.nodes m_r_nodes)]⟩ (Z:=Option Addr×Nat) (fun y (za0,zc0)=>.slice za0 y.length zc0) (fun y (za0,zc0)=>⟨[⟨m,#[.pointer (some ⟨m_b_fab,0,none⟩),.pointer (some ⟨m_b_trace,0,none⟩),.int .i64 mc.c.nodes,.int .i64 mc.c.lines,.int .i64 mc.c.words,.int .i64 mc.c.sets,.int .i64 mc.c.ways,.int .i64 mc.c.out,.int .i64 mc.c.inn,.slice m_a_c_init mc.c.init.length m_c_c_init,.slice m_a_nodes m_r_nodes.length m_c_nodes],70⟩],[(ArrA za0 zc0 y),(FabA m_b_fab mc.fab),(TraceA m_b_trace mc.trace),(ImmA m_a_c_init m_c_c_init mc.c.init),(ArrA m_a_nodes m_c_nodes m_r_nodes),(StA mc.nodes m_r_nodes)]⟩) y:=by
 unfold wcopS at H
 refine xfY Tryz.func32 fun W0 F=>?_
 refine xj [102] (ι:=List Int×Option Addr×Nat) (fun (e0_5x,e0_5a,e0_5c)=>⟨[(5,.slice e0_5a e0_5x.length e0_5c)],[⟨m,#[.pointer (some ⟨m_b_fab,0,none⟩),.pointer (some ⟨m_b_trace,0,none⟩),.int .i64 mc.c.nodes,.int .i64 mc.c.lines,.int .i64 mc.c.words,.int .i64 mc.c.sets,.int .i64 mc.c.ways,.int .i64 mc.c.out,.int .i64 mc.c.inn,.slice m_a_c_init mc.c.init.length m_c_c_init,.slice m_a_nodes m_r_nodes.length m_c_nodes],70⟩],[(ArrA e0_5a e0_5c e0_5x),(FabA m_b_fab mc.fab),(TraceA m_b_trace mc.trace),(ImmA m_a_c_init m_c_c_init mc.c.init),(ArrA m_a_nodes m_c_nodes m_r_nodes),(StA mc.nodes m_r_nodes)]⟩) (fun (e0_5x,e0_5a,e0_5c)=>wcopS_j0 e0_5x=some y) ?_ ?_
 · rintro ⟨e0_5x,e0_5a,e0_5c⟩ H
   replace H:wcopS_j0 e0_5x=some y:=H
   rw [wcopS_j0] at H
   exact xrY (someE H) [] [] [0] [0,0,0,0,0,0] (e0_5a,e0_5c)
 · intro N0 hN0
   refine bindG H fun y2_1 hy2_1 H=>?_
   refine xc [] [0] [0,0,0,0,0] (mconfF m m_b_fab m_b_trace m_a_c_init m_c_c_init m_a_nodes m_c_nodes m_r_nodes hy2_1) fun ⟨t2_1_a0,t2_1_c0⟩=>?_
   refine xg [] [] [] (gh_nil (α:=Int) none) fun _=>?_
   refine xl [] (ι:=List Int×Int×Option Addr×Nat) (fun (v1_5x,v1_12,v1_5a,v1_5c)=>⟨[(0,.pointer (some ⟨m,0,none⟩)),(1,.int .i64 line),(5,.slice v1_5a v1_5x.length v1_5c),(11,.int .i64 y2_1.nodes),(12,.int .i64 v1_12)],[⟨m,#[.pointer (some ⟨m_b_fab,0,none⟩),.pointer (some ⟨m_b_trace,0,none⟩),.int .i64 mc.c.nodes,.int .i64 mc.c.lines,.int .i64 mc.c.words,.int .i64 mc.c.sets,.int .i64 mc.c.ways,.int .i64 mc.c.out,.int .i64 mc.c.inn,.slice m_a_c_init mc.c.init.length m_c_c_init,.slice m_a_nodes m_r_nodes.length m_c_nodes],70⟩],[(ArrA v1_5a v1_5c v1_5x),(FabA m_b_fab mc.fab),(TraceA m_b_trace mc.trace),(ImmA m_a_c_init m_c_c_init mc.c.init),(ArrA m_a_nodes m_c_nodes m_r_nodes),(StA mc.nodes m_r_nodes)]⟩) (fun m1 (v1_5x,v1_12,v1_5a,v1_5c)=>wcopS_l1 y2_1 mc line (wcopS_j0) m1 v1_5x v1_12=some y) [0] [0,1,1,1,1,1] ((mc.c.nodes.toNat+1)) (([]:List Int),(0:Int),none,0) H ?_
   rintro N1 (_ | m1) ⟨v1_5x,v1_12,v1_5a,v1_5c⟩ H hN1
   · exact (noneE H).elim
   replace H:wcopS_l1 y2_1 mc line (wcopS_j0) (m1+1) v1_5x v1_12=some y:=H
   rw [wcopS_l1] at H
   refine xs [] H ?_ ?_
   · intro H
     refine bindG H fun y5_2 hy5_2 H=>?_
     refine xc [1] [0] [1,1,1,1,1] (mnodeF m m_b_fab m_b_trace m_a_c_init m_c_c_init m_a_nodes m_c_nodes m_r_nodes hy5_2) fun _=>?_
     refine optG H (fun hk5_2 H=>?_) fun k5_2 hk5_2 H=>?_
     · refine xw [300] 18 (v:=(nodeV m_r_nodes y5_2)) (v':=.pointer none) (by rw [hk5_2]; rfl) ?_
       exact (noneE H).elim
     · refine xw [300] 18 (v:=(nodeV m_r_nodes y5_2)) (v':=.pointer (some ⟨(nthT m_r_nodes k5_2).b,0,none⟩)) (by rw [hk5_2]; rfl) ?_
       refine xk [] [4] (st_len mc.nodes m_r_nodes) fun hl5_5_1=>?_
       refine chkG H fun q5_5_1 H=>?_
       refine xg [] [] [4] (gh_sfoc mc.nodes m_r_nodes k5_2 (nthT m_r_nodes k5_2) rfl (rngB hl5_5_1 (rngE hl5_5_1 q5_5_1))) fun _=>?_
       refine xg [] [] [0] (gh_open (NodeO (nthT m_r_nodes k5_2).b (nthS mc.nodes k5_2))) fun ⟨b_cache1,b_proc2,a_c_init3,c_c_init4,b_home5,a_deal_data6,c_deal_data7⟩=>?_
       refine xg [0] [] [0] (gh_open (CacheO b_cache1 ((nthS mc.nodes k5_2).cache))) fun ⟨a_l8,c_l9⟩=>?_
       refine bindG H fun y5_7 hy5_7 H=>?_
       refine xc [] [0] [0] (cfindF b_cache1 a_l8 c_l9 hy5_7) fun ⟨t5_7_a0,t5_7_c0⟩=>?_
       refine xn [] fun b5_11=>?_
       refine xs [0] H ?_ ?_
       · intro H
         refine xg [1,1,1] [1] [1] (gh_shut (CacheO b_cache1 ((nthS mc.nodes k5_2).cache)) (a_l8,c_l9)) fun _=>?_
         refine xg [] [1] [0,1,1,1,1] (gh_shut (NodeO (nthT m_r_nodes k5_2).b (nthS mc.nodes k5_2)) (b_cache1,b_proc2,a_c_init3,c_c_init4,b_home5,a_deal_data6,c_deal_data7)) fun _=>?_
         refine xg [] [] [0,1] (gh_sunfs mc.nodes m_r_nodes k5_2 (nthT m_r_nodes k5_2) rfl (rngB hl5_5_1 (rngE hl5_5_1 q5_5_1))) fun _=>?_
         refine bindG H fun y6_4 hy6_4 H=>?_
         refine xc [] [1] [2,2,2,2,0] (wisF m m_b_fab m_b_trace m_a_c_init m_c_c_init m_a_nodes m_c_nodes m_r_nodes hy6_4) fun _=>?_
         refine xs [1] H ?_ ?_
         · intro H
           refine xn [1] fun b7_2=>?_
           refine xg [] [0] [7] (gh_one b7_2 3 (v1_12:Int) ()) fun _=>?_
           refine chkG H fun q7_3_1 H=>?_
           refine letG H fun l7_3 hl7_3 H=>?_
           refine xa [] [7,0] (a:=v1_5a) (l:=v1_5x) (zs:=l7_3) (cap:=v1_5c) (rA (some ⟨b7_2,0,none⟩) 1 ([v1_12])) hl7_3 (hl7_3▸q7_3_1) fun ⟨a7_3,c7_3⟩=>?_
           refine chkG H fun q8_0_1 H=>?_
           refine xd [0] (ap q8_0_1 an) ?_
           exact xe [] _ [0] [0,1,1,1,1,1] (hN1 _ (l7_3,v1_12+(1:Int),a7_3,c7_3) (Nat.lt_succ_self _) H)
         · intro H
           refine chkG H fun q8_0_2 H=>?_
           refine xd [0,0] (ap q8_0_2 an) ?_
           exact xe [] _ [0] [6,0,0,0,0,0] (hN1 _ (v1_5x,v1_12+(1:Int),v1_5a,v1_5c) (Nat.lt_succ_self _) H)
       · intro H
         refine chkG H fun q8_0_3 H=>?_
         refine xd [0,0,0,0,0,0] (ap q8_0_3 an) ?_
         refine xg [] [1] [1] (gh_shut (CacheO b_cache1 ((nthS mc.nodes k5_2).cache)) (a_l8,c_l9)) fun _=>?_
         refine xg [] [1] [0,1,1,1,1] (gh_shut (NodeO (nthT m_r_nodes k5_2).b (nthS mc.nodes k5_2)) (b_cache1,b_proc2,a_c_init3,c_c_init4,b_home5,a_deal_data6,c_deal_data7)) fun _=>?_
         refine xg [] [] [0,1] (gh_sunfs mc.nodes m_r_nodes k5_2 (nthT m_r_nodes k5_2) rfl (rngB hl5_5_1 (rngE hl5_5_1 q5_5_1))) fun _=>?_
         exact xe [] _ [1] [6,2,2,2,2,0] (hN1 _ (v1_5x,v1_12+(1:Int),v1_5a,v1_5c) (Nat.lt_succ_self _) H)
   · intro H
     exact xe [0] _ [0] [0,0,0,0,0,0] (hN0 (v1_5x,v1_5a,v1_5c) H)
def wrowS (mc:MachS) (line:Int):Option (RowS) :=
 (mconfS mc).bind fun y1_2=>(phomeS y1_2 line).bind fun y1_4=>(mnodeS mc y1_4).bind fun y1_5=>(optM y1_5 (fun k1_5=>chk (0≤k1_5∧k1_5<(mc.nodes.length:Int)) ((nrowS (nthS mc.nodes k1_5) line).bind fun y1_7=>some y1_7.1)) (none))
theorem wrowF {mc:MachS} {line:Int} (m:Nat) (m_b_fab:Nat) (m_b_trace:Nat) (m_a_c_init:Option Addr) (m_c_c_init:Nat) (m_a_nodes:Option Addr) (m_c_nodes:Nat) (m_r_nodes:List PtrR) {y:RowS} (H:wrowS mc line=some y):FnY Tryz.prog 46 [.pointer (some ⟨m,0,none⟩),.int .i64 line] ⟨[⟨m,#[.pointer (some ⟨m_b_fab,0,none⟩),.pointer (some ⟨m_b_trace,0,none⟩),.int .i64 mc.c.nodes,.int .i64 mc.c.lines,.int .i64 mc.c.words,.int .i64 mc.c.sets,.int .i64 mc.c.ways,.int .i64 mc.c.out,.int .i64 mc.c.inn,.slice m_a_c_init mc.c.init.length m_c_c_init,.slice m_a_nodes m_r_nodes.length m_c_nodes],70⟩],[(FabA m_b_fab mc.fab),(TraceA m_b_trace mc.trace),(ImmA m_a_c_init m_c_c_init mc.c.init),(ArrA m_a_nodes m_c_nodes m_r_nodes),(StA mc.nodes m_r_nodes)]⟩ (Z:=Option Addr×Nat) (fun y (za0,zc0)=>.agg #[.int .i64 y.state,.int .i64 y.head,.slice za0 y.data.length zc0]) (fun y (za0,zc0)=>⟨[⟨m,#[.pointer (some ⟨m_b_fab,0,none⟩),.pointer (some ⟨m_b_trace,0,none⟩),.int .i64 mc.c.nodes,.int .i64 mc.c.lines,.int .i64 mc.c.words,.int .i64 mc.c.sets,.int .i64 mc.c.ways,.int .i64 mc.c.out,.int .i64 mc.c.inn,.slice m_a_c_init mc.c.init.length m_c_c_init,.slice m_a_nodes m_r_nodes.length m_c_nodes],70⟩],[(ArrA za0 zc0 y.data),(FabA m_b_fab mc.fab),(TraceA m_b_trace mc.trace),(ImmA m_a_c_init m_c_c_init mc.c.init),(ArrA m_a_nodes m_c_nodes m_r_nodes),(StA mc.nodes m_r_nodes)]⟩) y:=by
 unfold wrowS at H
 refine xfY Tryz.func46 fun W0 F=>?_
 refine xn [] fun b0_0=>?_
 refine bindG H fun y1_2 hy1_2 H=>?_
 refine xc [] [1] [0,0,0,0,0] (mconfF m m_b_fab m_b_trace m_a_c_init m_c_c_init m_a_nodes m_c_nodes m_r_nodes hy1_2) fun ⟨t1_2_a0,t1_2_c0⟩=>?_
 refine bindG H fun y1_4 hy1_4 H=>?_
 refine xc [] [] [] (phomeF t1_2_a0 t1_2_c0 hy1_4) fun _=>?_
 refine bindG H fun y1_5 hy1_5 H=>?_
 refine xc [] [0] [1,1,1,1,1] (mnodeF m m_b_fab m_b_trace m_a_c_init m_c_c_init m_a_nodes m_c_nodes m_r_nodes hy1_5) fun _=>?_
 refine optG H (fun hk1_5 H=>?_) fun k1_5 hk1_5 H=>?_
 · refine xw [300] 13 (v:=(nodeV m_r_nodes y1_5)) (v':=.pointer none) (by rw [hk1_5]; rfl) ?_
   exact (noneE H).elim
 · refine xw [300] 13 (v:=(nodeV m_r_nodes y1_5)) (v':=.pointer (some ⟨(nthT m_r_nodes k1_5).b,0,none⟩)) (by rw [hk1_5]; rfl) ?_
   refine xk [] [4] (st_len mc.nodes m_r_nodes) fun hl1_7_1=>?_
   refine chkG H fun q1_7_1 H=>?_
   refine xg [] [] [4] (gh_sfoc mc.nodes m_r_nodes k1_5 (nthT m_r_nodes k1_5) rfl (rngB hl1_7_1 (rngE hl1_7_1 q1_7_1))) fun _=>?_
   refine xg [] [] [0] (gh_open (NodeO (nthT m_r_nodes k1_5).b (nthS mc.nodes k1_5))) fun ⟨b_cache1,b_proc2,a_c_init3,c_c_init4,b_home5,a_deal_data6,c_deal_data7⟩=>?_
   refine bindG H fun y1_7 hy1_7 H=>?_
   refine xc [] [0] [0,0,0,0,0] (nrowF (nthT m_r_nodes k1_5).b b_cache1 b_proc2 a_c_init3 c_c_init4 b_home5 a_deal_data6 c_deal_data7 hy1_7) fun ⟨t1_7_a0,t1_7_c0⟩=>?_
   refine xn [] fun b1_11=>?_
   refine xg [0,0,3] [1] [1,1,1,1,1] (gh_shut (NodeO (nthT m_r_nodes k1_5).b (nthS mc.nodes k1_5)) (b_cache1,b_proc2,a_c_init3,c_c_init4,b_home5,a_deal_data6,c_deal_data7)) fun _=>?_
   refine xg [] [] [0,1] (gh_sunfs mc.nodes m_r_nodes k1_5 (nthT m_r_nodes k1_5) rfl (rngB hl1_7_1 (rngE hl1_7_1 q1_7_1))) fun _=>?_
   exact xrY (someE H) [] [2] [1] [1,1,1,1,1,0] (t1_7_a0,t1_7_c0)
def wfindS (mc:MachS) (node:Int) (line:Int):Option (Ent×Bool) :=
 (mnodeS mc node).bind fun y1_2=>(optM y1_2 (fun k1_2=>chk (0≤k1_2∧k1_2<(mc.nodes.length:Int)) ((cfindS ((nthS mc.nodes k1_2).cache) line).bind fun y4_5=>some (y4_5.1,y4_5.2))) (some ((⟨(0:Int),(0:Int),(0:Int),(0:Int),false,([]:List Int)⟩:Ent),false)))
theorem wfindF {mc:MachS} {node:Int} {line:Int} (m:Nat) (m_b_fab:Nat) (m_b_trace:Nat) (m_a_c_init:Option Addr) (m_c_c_init:Nat) (m_a_nodes:Option Addr) (m_c_nodes:Nat) (m_r_nodes:List PtrR) {y:Ent×Bool} (H:wfindS mc node line=some y):FnY Tryz.prog 47 [.pointer (some ⟨m,0,none⟩),.int .i64 node,.int .i64 line] ⟨[⟨m,#[.pointer (some ⟨m_b_fab,0,none⟩),.pointer (some ⟨m_b_trace,0,none⟩),.int .i64 mc.c.nodes,.int .i64 mc.c.lines,.int .i64 mc.c.words,.int .i64 mc.c.sets,.int .i64 mc.c.ways,.int .i64 mc.c.out,.int .i64 mc.c.inn,.slice m_a_c_init mc.c.init.length m_c_c_init,.slice m_a_nodes m_r_nodes.length m_c_nodes],70⟩],[(FabA m_b_fab mc.fab),(TraceA m_b_trace mc.trace),(ImmA m_a_c_init m_c_c_init mc.c.init),(ArrA m_a_nodes m_c_nodes m_r_nodes),(StA mc.nodes m_r_nodes)]⟩ (Z:=Option Addr×Nat) (fun y (za0,zc0)=>.tuple #[.agg #[.int .i64 y.1.fwd,.int .i64 y.1.back,.int .i64 y.1.line,.int .i64 y.1.used,.bool y.1.dirty,.slice za0 y.1.data.length zc0],.bool y.2]) (fun y (za0,zc0)=>⟨[⟨m,#[.pointer (some ⟨m_b_fab,0,none⟩),.pointer (some ⟨m_b_trace,0,none⟩),.int .i64 mc.c.nodes,.int .i64 mc.c.lines,.int .i64 mc.c.words,.int .i64 mc.c.sets,.int .i64 mc.c.ways,.int .i64 mc.c.out,.int .i64 mc.c.inn,.slice m_a_c_init mc.c.init.length m_c_c_init,.slice m_a_nodes m_r_nodes.length m_c_nodes],70⟩],[(ArrA za0 zc0 y.1.data),(FabA m_b_fab mc.fab),(TraceA m_b_trace mc.trace),(ImmA m_a_c_init m_c_c_init mc.c.init),(ArrA m_a_nodes m_c_nodes m_r_nodes),(StA mc.nodes m_r_nodes)]⟩) y:=by
 unfold wfindS at H
 refine xfY Tryz.func47 fun W0 F=>?_
 refine xn [] fun b0_0=>?_
 refine bindG H fun y1_2 hy1_2 H=>?_
 refine xc [] [1] [0,0,0,0,0] (mnodeF m m_b_fab m_b_trace m_a_c_init m_c_c_init m_a_nodes m_c_nodes m_r_nodes hy1_2) fun _=>?_
 refine optG H (fun hk1_2 H=>?_) fun k1_2 hk1_2 H=>?_
 · refine xw [300] 11 (v:=(nodeV m_r_nodes y1_2)) (v':=.pointer none) (by rw [hk1_2]; rfl) ?_
   refine xg [1,1] [] [] (gh_nil (α:=Int) none) fun _=>?_
   exact xrY (someE H) [] [1] [0] [0,0,0,0,0,0] (none,0)
 · refine xw [300] 11 (v:=(nodeV m_r_nodes y1_2)) (v':=.pointer (some ⟨(nthT m_r_nodes k1_2).b,0,none⟩)) (by rw [hk1_2]; rfl) ?_
   refine xk [0] [4] (st_len mc.nodes m_r_nodes) fun hl4_3_1=>?_
   refine chkG H fun q4_3_1 H=>?_
   refine xg [] [] [4] (gh_sfoc mc.nodes m_r_nodes k1_2 (nthT m_r_nodes k1_2) rfl (rngB hl4_3_1 (rngE hl4_3_1 q4_3_1))) fun _=>?_
   refine xg [] [] [0] (gh_open (NodeO (nthT m_r_nodes k1_2).b (nthS mc.nodes k1_2))) fun ⟨b_cache1,b_proc2,a_c_init3,c_c_init4,b_home5,a_deal_data6,c_deal_data7⟩=>?_
   refine xg [0] [] [0] (gh_open (CacheO b_cache1 ((nthS mc.nodes k1_2).cache))) fun ⟨a_l8,c_l9⟩=>?_
   refine bindG H fun y4_5 hy4_5 H=>?_
   refine xc [] [0] [0] (cfindF b_cache1 a_l8 c_l9 hy4_5) fun ⟨t4_5_a0,t4_5_c0⟩=>?_
   refine xg [3] [0] [1] (gh_shut (CacheO b_cache1 ((nthS mc.nodes k1_2).cache)) (a_l8,c_l9)) fun _=>?_
   refine xg [] [0] [0,1,1,1,1] (gh_shut (NodeO (nthT m_r_nodes k1_2).b (nthS mc.nodes k1_2)) (b_cache1,b_proc2,a_c_init3,c_c_init4,b_home5,a_deal_data6,c_deal_data7)) fun _=>?_
   refine xg [] [] [0,1] (gh_sunfs mc.nodes m_r_nodes k1_2 (nthT m_r_nodes k1_2) rfl (rngB hl4_3_1 (rngE hl4_3_1 q4_3_1))) fun _=>?_
   exact xrY (someE H) [] [1] [0] [1,1,1,1,1,0] (t4_5_a0,t4_5_c0)
def wwalkS_j0 (e0_6x:List Int):Option (List Int×Bool) :=
 some (e0_6x,true)
def wwalkS_l1 (mc:MachS) (line:Int) (k0:(List Int)→Option (List Int×Bool)):Nat→(List Int)→Int→Option (List Int×Bool)
 |0,_,_=>none
 |m+1,v1_6x,v1_7=>(bif !(decide (v1_7=((-1):Int))) then (wfindS mc v1_7 line).bind fun y6_3=>(bif !y6_3.2 then some (([]:List Int),false) else (scontS v1_6x v1_7).bind fun y7_5=>(bif y7_5 then some (([]:List Int),false) else chk ((v1_6x++([v1_7])).length≤1099511627776) (letP (v1_6x++([v1_7])) fun l9_3=>(wwalkS_l1 mc line k0 m) l9_3 y6_3.1.fwd))) else k0 v1_6x)
def wwalkS (mc:MachS) (line:Int):Option (List Int×Bool) :=
 (wisS mc line).bind fun y1_2=>(bif !y1_2 then some (([]:List Int),false) else (wrowS mc line).bind fun y4_2=>wwalkS_l1 mc line wwalkS_j0 (mc.nodes.length+2) ([]:List Int) y4_2.head)
theorem wwalkF {mc:MachS} {line:Int} (m:Nat) (m_b_fab:Nat) (m_b_trace:Nat) (m_a_c_init:Option Addr) (m_c_c_init:Nat) (m_a_nodes:Option Addr) (m_c_nodes:Nat) (m_r_nodes:List PtrR) {y:List Int×Bool} (H:wwalkS mc line=some y):FnY Tryz.prog 12 [.pointer (some ⟨m,0,none⟩),.int .i64 line] ⟨[⟨m,#[.pointer (some ⟨m_b_fab,0,none⟩),.pointer (some ⟨m_b_trace,0,none⟩),.int .i64 mc.c.nodes,.int .i64 mc.c.lines,.int .i64 mc.c.words,.int .i64 mc.c.sets,.int .i64 mc.c.ways,.int .i64 mc.c.out,.int .i64 mc.c.inn,.slice m_a_c_init mc.c.init.length m_c_c_init,.slice m_a_nodes m_r_nodes.length m_c_nodes],70⟩],[(FabA m_b_fab mc.fab),(TraceA m_b_trace mc.trace),(ImmA m_a_c_init m_c_c_init mc.c.init),(ArrA m_a_nodes m_c_nodes m_r_nodes),(StA mc.nodes m_r_nodes)]⟩ (Z:=Option Addr×Nat) (fun y (za0,zc0)=>.tuple #[.slice za0 y.1.length zc0,.bool y.2]) (fun y (za0,zc0)=>⟨[⟨m,#[.pointer (some ⟨m_b_fab,0,none⟩),.pointer (some ⟨m_b_trace,0,none⟩),.int .i64 mc.c.nodes,.int .i64 mc.c.lines,.int .i64 mc.c.words,.int .i64 mc.c.sets,.int .i64 mc.c.ways,.int .i64 mc.c.out,.int .i64 mc.c.inn,.slice m_a_c_init mc.c.init.length m_c_c_init,.slice m_a_nodes m_r_nodes.length m_c_nodes],70⟩],[(ArrA za0 zc0 y.1),(FabA m_b_fab mc.fab),(TraceA m_b_trace mc.trace),(ImmA m_a_c_init m_c_c_init mc.c.init),(ArrA m_a_nodes m_c_nodes m_r_nodes),(StA mc.nodes m_r_nodes)]⟩) y:=by
 unfold wwalkS at H
 refine xfY Tryz.func12 fun W0 F=>?_
 refine bindG H fun y1_2 hy1_2 H=>?_
 refine xc [] [0] [0,0,0,0,0] (wisF m m_b_fab m_b_trace m_a_c_init m_c_c_init m_a_nodes m_c_nodes m_r_nodes hy1_2) fun _=>?_
 refine xs [] H ?_ ?_
 · intro H
   refine xg [1] [] [] (gh_nil (α:=Int) none) fun _=>?_
   exact xrY (someE H) [] [] [0] [0,0,0,0,0,0] (none,0)
 · intro H
   refine xj [0,101] (ι:=List Int×Option Addr×Nat) (fun (e0_6x,e0_6a,e0_6c)=>⟨[(6,.slice e0_6a e0_6x.length e0_6c)],[⟨m,#[.pointer (some ⟨m_b_fab,0,none⟩),.pointer (some ⟨m_b_trace,0,none⟩),.int .i64 mc.c.nodes,.int .i64 mc.c.lines,.int .i64 mc.c.words,.int .i64 mc.c.sets,.int .i64 mc.c.ways,.int .i64 mc.c.out,.int .i64 mc.c.inn,.slice m_a_c_init mc.c.init.length m_c_c_init,.slice m_a_nodes m_r_nodes.length m_c_nodes],70⟩],[(ArrA e0_6a e0_6c e0_6x),(FabA m_b_fab mc.fab),(TraceA m_b_trace mc.trace),(ImmA m_a_c_init m_c_c_init mc.c.init),(ArrA m_a_nodes m_c_nodes m_r_nodes),(StA mc.nodes m_r_nodes)]⟩) (fun (e0_6x,e0_6a,e0_6c)=>wwalkS_j0 e0_6x=some y) ?_ ?_
   · rintro ⟨e0_6x,e0_6a,e0_6c⟩ H
     replace H:wwalkS_j0 e0_6x=some y:=H
     rw [wwalkS_j0] at H
     exact xrY (someE H) [] [] [0] [0,0,0,0,0,0] (e0_6a,e0_6c)
   · intro N0 hN0
     refine bindG H fun y4_2 hy4_2 H=>?_
     refine xc [] [0] [0,0,0,0,0] (wrowF m m_b_fab m_b_trace m_a_c_init m_c_c_init m_a_nodes m_c_nodes m_r_nodes hy4_2) fun ⟨t4_2_a0,t4_2_c0⟩=>?_
     refine xg [] [] [] (gh_nil (α:=Int) none) fun _=>?_
     refine xl [] (ι:=List Int×Int×Option Addr×Nat) (fun (v1_6x,v1_7,v1_6a,v1_6c)=>⟨[(0,.pointer (some ⟨m,0,none⟩)),(1,.int .i64 line),(6,.slice v1_6a v1_6x.length v1_6c),(7,.int .i64 v1_7)],[⟨m,#[.pointer (some ⟨m_b_fab,0,none⟩),.pointer (some ⟨m_b_trace,0,none⟩),.int .i64 mc.c.nodes,.int .i64 mc.c.lines,.int .i64 mc.c.words,.int .i64 mc.c.sets,.int .i64 mc.c.ways,.int .i64 mc.c.out,.int .i64 mc.c.inn,.slice m_a_c_init mc.c.init.length m_c_c_init,.slice m_a_nodes m_r_nodes.length m_c_nodes],70⟩],[(ArrA v1_6a v1_6c v1_6x),(FabA m_b_fab mc.fab),(TraceA m_b_trace mc.trace),(ImmA m_a_c_init m_c_c_init mc.c.init),(ArrA m_a_nodes m_c_nodes m_r_nodes),(StA mc.nodes m_r_nodes)]⟩) (fun m1 (v1_6x,v1_7,v1_6a,v1_6c)=>wwalkS_l1 mc line (wwalkS_j0) m1 v1_6x v1_7=some y) [0] [0,1,1,1,1,1] ((mc.nodes.length+2)) (([]:List Int),y4_2.head,none,0) H ?_
     rintro N1 (_ | m1) ⟨v1_6x,v1_7,v1_6a,v1_6c⟩ H hN1
     · exact (noneE H).elim
     replace H:wwalkS_l1 mc line (wwalkS_j0) (m1+1) v1_6x v1_7=some y:=H
     rw [wwalkS_l1] at H
     refine xs [] H ?_ ?_
     · intro H
       refine bindG H fun y6_3 hy6_3 H=>?_
       refine xc [1] [0] [1,1,1,1,1] (wfindF m m_b_fab m_b_trace m_a_c_init m_c_c_init m_a_nodes m_c_nodes m_r_nodes hy6_3) fun ⟨t6_3_a0,t6_3_c0⟩=>?_
       refine xn [] fun b6_7=>?_
       refine xs [0] H ?_ ?_
       · intro H
         refine xg [0,0,0,1,1] [] [] (gh_nil (α:=Int) none) fun _=>?_
         exact xrY (someE H) [] [] [1] [0,1,1,1,1,1] (none,0)
       · intro H
         refine bindG H fun y7_5 hy7_5 H=>?_
         refine xc [1,1,1] [] [6] (scontF v1_6a v1_6c (rA v1_6a v1_6c v1_6x) hy7_5) fun _=>?_
         refine xs [0] H ?_ ?_
         · intro H
           refine xg [1] [] [] (gh_nil (α:=Int) none) fun _=>?_
           exact xrY (someE H) [] [] [1] [0,2,2,2,2,2] (none,0)
         · intro H
           refine xn [0] fun b9_2=>?_
           refine xg [] [0] [7] (gh_one b9_2 3 (v1_7:Int) ()) fun _=>?_
           refine chkG H fun q9_3_1 H=>?_
           refine letG H fun l9_3 hl9_3 H=>?_
           refine xa [] [1,0] (a:=v1_6a) (l:=v1_6x) (zs:=l9_3) (cap:=v1_6c) (rA (some ⟨b9_2,0,none⟩) 1 ([v1_7])) hl9_3 (hl9_3▸q9_3_1) fun ⟨a9_3,c9_3⟩=>?_
           exact xe [0] _ [1] [0,2,2,2,2,2] (hN1 _ (l9_3,y6_3.1.fwd,a9_3,c9_3) (Nat.lt_succ_self _) H)
     · intro H
       exact xe [0] _ [0] [0,0,0,0,0,0] (hN0 (v1_6x,v1_6a,v1_6c) H)
def wownS (mc:MachS) (line:Int):Option (Int) :=
 (wisS mc line).bind fun y1_2=>(bif !y1_2 then some ((-1):Int) else (mconfS mc).bind fun y3_2=>(phomeS y3_2 line).bind fun y3_4=>(mnodeS mc y3_4).bind fun y3_5=>(optM y3_5 (fun k3_5=>chk (0≤k3_5∧k3_5<(mc.nodes.length:Int)) ((nownerS (nthS mc.nodes k3_5) line).bind fun y3_7=>some y3_7)) (none)))
theorem wownF {mc:MachS} {line:Int} (m:Nat) (m_b_fab:Nat) (m_b_trace:Nat) (m_a_c_init:Option Addr) (m_c_c_init:Nat) (m_a_nodes:Option Addr) (m_c_nodes:Nat) (m_r_nodes:List PtrR) {y:Int} (H:wownS mc line=some y):FnY Tryz.prog 57 [.pointer (some ⟨m,0,none⟩),.int .i64 line] ⟨[⟨m,#[.pointer (some ⟨m_b_fab,0,none⟩),.pointer (some ⟨m_b_trace,0,none⟩),.int .i64 mc.c.nodes,.int .i64 mc.c.lines,.int .i64 mc.c.words,.int .i64 mc.c.sets,.int .i64 mc.c.ways,.int .i64 mc.c.out,.int .i64 mc.c.inn,.slice m_a_c_init mc.c.init.length m_c_c_init,.slice m_a_nodes m_r_nodes.length m_c_nodes],70⟩],[(FabA m_b_fab mc.fab),(TraceA m_b_trace mc.trace),(ImmA m_a_c_init m_c_c_init mc.c.init),(ArrA m_a_nodes m_c_nodes m_r_nodes),(StA mc.nodes m_r_nodes)]⟩ (Z:=Unit) (fun y _=>.int .i64 y) (fun y _=>⟨[⟨m,#[.pointer (some ⟨m_b_fab,0,none⟩),.pointer (some ⟨m_b_trace,0,none⟩),.int .i64 mc.c.nodes,.int .i64 mc.c.lines,.int .i64 mc.c.words,.int .i64 mc.c.sets,.int .i64 mc.c.ways,.int .i64 mc.c.out,.int .i64 mc.c.inn,.slice m_a_c_init mc.c.init.length m_c_c_init,.slice m_a_nodes m_r_nodes.length m_c_nodes],70⟩],[(FabA m_b_fab mc.fab),(TraceA m_b_trace mc.trace),(ImmA m_a_c_init m_c_c_init mc.c.init),(ArrA m_a_nodes m_c_nodes m_r_nodes),(StA mc.nodes m_r_nodes)]⟩) y:=by
 unfold wownS at H
 refine xfY Tryz.func57 fun W0 F=>?_
 refine bindG H fun y1_2 hy1_2 H=>?_
 refine xc [] [0] [0,0,0,0,0] (wisF m m_b_fab m_b_trace m_a_c_init m_c_c_init m_a_nodes m_c_nodes m_r_nodes hy1_2) fun _=>?_
 refine xs [] H ?_ ?_
 · intro H
   exact xrY (someE H) [1] [] [0] [0,0,0,0,0] ()
 · intro H
   refine bindG H fun y3_2 hy3_2 H=>?_
   refine xc [0] [0] [0,0,0,0,0] (mconfF m m_b_fab m_b_trace m_a_c_init m_c_c_init m_a_nodes m_c_nodes m_r_nodes hy3_2) fun ⟨t3_2_a0,t3_2_c0⟩=>?_
   refine bindG H fun y3_4 hy3_4 H=>?_
   refine xc [] [] [] (phomeF t3_2_a0 t3_2_c0 hy3_4) fun _=>?_
   refine bindG H fun y3_5 hy3_5 H=>?_
   refine xc [] [0] [1,1,1,1,1] (mnodeF m m_b_fab m_b_trace m_a_c_init m_c_c_init m_a_nodes m_c_nodes m_r_nodes hy3_5) fun _=>?_
   refine optG H (fun hk3_5 H=>?_) fun k3_5 hk3_5 H=>?_
   · refine xw [300] 14 (v:=(nodeV m_r_nodes y3_5)) (v':=.pointer none) (by rw [hk3_5]; rfl) ?_
     exact (noneE H).elim
   · refine xw [300] 14 (v:=(nodeV m_r_nodes y3_5)) (v':=.pointer (some ⟨(nthT m_r_nodes k3_5).b,0,none⟩)) (by rw [hk3_5]; rfl) ?_
     refine xk [] [4] (st_len mc.nodes m_r_nodes) fun hl3_7_1=>?_
     refine chkG H fun q3_7_1 H=>?_
     refine xg [] [] [4] (gh_sfoc mc.nodes m_r_nodes k3_5 (nthT m_r_nodes k3_5) rfl (rngB hl3_7_1 (rngE hl3_7_1 q3_7_1))) fun _=>?_
     refine xg [] [] [0] (gh_open (NodeO (nthT m_r_nodes k3_5).b (nthS mc.nodes k3_5))) fun ⟨b_cache1,b_proc2,a_c_init3,c_c_init4,b_home5,a_deal_data6,c_deal_data7⟩=>?_
     refine bindG H fun y3_7 hy3_7 H=>?_
     refine xc [] [0] [0,0,0,0,0] (nownerF (nthT m_r_nodes k3_5).b b_cache1 b_proc2 a_c_init3 c_c_init4 b_home5 a_deal_data6 c_deal_data7 hy3_7) fun _=>?_
     refine xg [] [0] [0,0,0,0,0] (gh_shut (NodeO (nthT m_r_nodes k3_5).b (nthS mc.nodes k3_5)) (b_cache1,b_proc2,a_c_init3,c_c_init4,b_home5,a_deal_data6,c_deal_data7)) fun _=>?_
     refine xg [] [] [0,0] (gh_sunfs mc.nodes m_r_nodes k3_5 (nthT m_r_nodes k3_5) rfl (rngB hl3_7_1 (rngE hl3_7_1 q3_7_1))) fun _=>?_
     exact xrY (someE H) [] [] [0] [1,1,1,1,0] ()
def wlistS_j1 (mc:MachS) (line:Int) (e1_7x:List Ent):Option (Bool) :=
 (wrowS mc line).bind fun y17_2=>(wstateS y17_2 e1_7x).bind fun y17_4=>some y17_4
def wlistS_l2 (y3_2:List Int×Bool) (mc:MachS) (line:Int) (k1:(List Ent)→Option (Bool)):Nat→(List Ent)→Int→Int→Option (Bool)
 |0,_,_,_=>none
 |m+1,v2_7x,v2_8,v2_37=>(bif decide (v2_37<(y3_2.1.length:Int)) then chk (0≤v2_37∧v2_37<(y3_2.1.length:Int)) ((wfindS mc (nth y3_2.1 v2_37) line).bind fun y11_3=>(bif !(decide (y11_3.1.back=v2_8)) then some false else chk ((v2_7x++([y11_3.1])).length≤1099511627776) (letP (v2_7x++([y11_3.1])) fun l15_3=>chk (inR (v2_37+(1:Int))) ((wlistS_l2 y3_2 mc line k1 m) l15_3 (nth y3_2.1 v2_37) (v2_37+(1:Int)))))) else k1 v2_7x)
def wlistS_j0 (y3_2:List Int×Bool) (mc:MachS) (line:Int) (e0_34:Bool):Option (Bool) :=
 (bif e0_34 then some false else wlistS_l2 y3_2 mc line (wlistS_j1 mc line) (mc.nodes.length+2) ([]:List Ent) ((-1):Int) (0:Int))
def wlistS (mc:MachS) (line:Int):Option (Bool) :=
 (wisS mc line).bind fun y1_2=>(bif !y1_2 then some true else (wwalkS mc line).bind fun y3_2=>(bif !y3_2.2 then (wlistS_j0 y3_2 mc line) true else chk (y3_2.1.length≤1099511627776) (letP (isrt y3_2.1) fun y4_5=>(wcopS mc line).bind fun y4_8=>(seqS y4_5 y4_8).bind fun y4_9=>(wlistS_j0 y3_2 mc line) !y4_9)))
theorem wlistF {mc:MachS} {line:Int} (m:Nat) (m_b_fab:Nat) (m_b_trace:Nat) (m_a_c_init:Option Addr) (m_c_c_init:Nat) (m_a_nodes:Option Addr) (m_c_nodes:Nat) (m_r_nodes:List PtrR) {y:Bool} (H:wlistS mc line=some y):FnY Tryz.prog 13 [.pointer (some ⟨m,0,none⟩),.int .i64 line] ⟨[⟨m,#[.pointer (some ⟨m_b_fab,0,none⟩),.pointer (some ⟨m_b_trace,0,none⟩),.int .i64 mc.c.nodes,.int .i64 mc.c.lines,.int .i64 mc.c.words,.int .i64 mc.c.sets,.int .i64 mc.c.ways,.int .i64 mc.c.out,.int .i64 mc.c.inn,.slice m_a_c_init mc.c.init.length m_c_c_init,.slice m_a_nodes m_r_nodes.length m_c_nodes],70⟩],[(FabA m_b_fab mc.fab),(TraceA m_b_trace mc.trace),(ImmA m_a_c_init m_c_c_init mc.c.init),(ArrA m_a_nodes m_c_nodes m_r_nodes),(StA mc.nodes m_r_nodes)]⟩ (Z:=Unit) (fun y _=>.bool y) (fun y _=>⟨[⟨m,#[.pointer (some ⟨m_b_fab,0,none⟩),.pointer (some ⟨m_b_trace,0,none⟩),.int .i64 mc.c.nodes,.int .i64 mc.c.lines,.int .i64 mc.c.words,.int .i64 mc.c.sets,.int .i64 mc.c.ways,.int .i64 mc.c.out,.int .i64 mc.c.inn,.slice m_a_c_init mc.c.init.length m_c_c_init,.slice m_a_nodes m_r_nodes.length m_c_nodes],70⟩],[(FabA m_b_fab mc.fab),(TraceA m_b_trace mc.trace),(ImmA m_a_c_init m_c_c_init mc.c.init),(ArrA m_a_nodes m_c_nodes m_r_nodes),(StA mc.nodes m_r_nodes)]⟩) y:=by
 unfold wlistS at H
 refine xfY Tryz.func13 fun W0 F=>?_
 refine bindG H fun y1_2 hy1_2 H=>?_
 refine xc [] [0] [0,0,0,0,0] (wisF m m_b_fab m_b_trace m_a_c_init m_c_c_init m_a_nodes m_c_nodes m_r_nodes hy1_2) fun _=>?_
 refine xs [] H ?_ ?_
 · intro H
   exact xrY (someE H) [1] [] [0] [0,0,0,0,0] ()
 · intro H
   refine bindG H fun y3_2 hy3_2 H=>?_
   refine xc [0] [0] [0,0,0,0,0] (wwalkF m m_b_fab m_b_trace m_a_c_init m_c_c_init m_a_nodes m_c_nodes m_r_nodes hy3_2) fun ⟨t3_2_a0,t3_2_c0⟩=>?_
   refine xj [101] (ι:=Bool) (fun e0_34=>⟨[(0,.pointer (some ⟨m,0,none⟩)),(1,.int .i64 line),(5,.slice t3_2_a0 y3_2.1.length t3_2_c0),(34,.bool e0_34)],[⟨m,#[.pointer (some ⟨m_b_fab,0,none⟩),.pointer (some ⟨m_b_trace,0,none⟩),.int .i64 mc.c.nodes,.int .i64 mc.c.lines,.int .i64 mc.c.words,.int .i64 mc.c.sets,.int .i64 mc.c.ways,.int .i64 mc.c.out,.int .i64 mc.c.inn,.slice m_a_c_init mc.c.init.length m_c_c_init,.slice m_a_nodes m_r_nodes.length m_c_nodes],70⟩],[(ArrA t3_2_a0 t3_2_c0 y3_2.1),(FabA m_b_fab mc.fab),(TraceA m_b_trace mc.trace),(ImmA m_a_c_init m_c_c_init mc.c.init),(ArrA m_a_nodes m_c_nodes m_r_nodes),(StA mc.nodes m_r_nodes)]⟩) (fun e0_34=>wlistS_j0 y3_2 mc line e0_34=some y) ?_ ?_
   · rintro e0_34 H
     replace H:wlistS_j0 y3_2 mc line e0_34=some y:=H
     rw [wlistS_j0] at H
     refine xs [] H ?_ ?_
     · intro H
       exact xrY (someE H) [1] [] [0] [1,1,1,1,1] ()
     · intro H
       refine xj [0,102] (ι:=List Ent×Option Addr×Nat) (fun (e1_7x,e1_7a,e1_7c)=>⟨[(0,.pointer (some ⟨m,0,none⟩)),(1,.int .i64 line),(7,.slice e1_7a e1_7x.length e1_7c)],[⟨m,#[.pointer (some ⟨m_b_fab,0,none⟩),.pointer (some ⟨m_b_trace,0,none⟩),.int .i64 mc.c.nodes,.int .i64 mc.c.lines,.int .i64 mc.c.words,.int .i64 mc.c.sets,.int .i64 mc.c.ways,.int .i64 mc.c.out,.int .i64 mc.c.inn,.slice m_a_c_init mc.c.init.length m_c_c_init,.slice m_a_nodes m_r_nodes.length m_c_nodes],70⟩],[(ArrA e1_7a e1_7c e1_7x),(FabA m_b_fab mc.fab),(TraceA m_b_trace mc.trace),(ImmA m_a_c_init m_c_c_init mc.c.init),(ArrA m_a_nodes m_c_nodes m_r_nodes),(StA mc.nodes m_r_nodes)]⟩) (fun (e1_7x,e1_7a,e1_7c)=>wlistS_j1 mc line e1_7x=some y) ?_ ?_
       · rintro ⟨e1_7x,e1_7a,e1_7c⟩ H
         replace H:wlistS_j1 mc line e1_7x=some y:=H
         rw [wlistS_j1] at H
         refine bindG H fun y17_2 hy17_2 H=>?_
         refine xc [] [0] [1,1,1,1,1] (wrowF m m_b_fab m_b_trace m_a_c_init m_c_c_init m_a_nodes m_c_nodes m_r_nodes hy17_2) fun ⟨t17_2_a0,t17_2_c0⟩=>?_
         refine bindG H fun y17_4 hy17_4 H=>?_
         refine xc [] [] [0,5] (wstateF t17_2_a0 t17_2_c0 e1_7a e1_7c (rA t17_2_a0 t17_2_c0 y17_2.data) (rA e1_7a e1_7c e1_7x) hy17_4) fun _=>?_
         exact xrY (someE H) [] [] [0] [2,2,2,2,2] ()
       · intro N1 hN1
         refine xg [] [] [] (gh_nil (α:=Ent) none) fun _=>?_
         refine xl [] (ι:=List Ent×Int×Int×Option Addr×Nat) (fun (v2_7x,v2_8,v2_37,v2_7a,v2_7c)=>⟨[(0,.pointer (some ⟨m,0,none⟩)),(1,.int .i64 line),(7,.slice v2_7a v2_7x.length v2_7c),(8,.int .i64 v2_8),(35,.slice t3_2_a0 y3_2.1.length t3_2_c0),(36,.int .i64 y3_2.1.length),(37,.int .i64 v2_37)],[⟨m,#[.pointer (some ⟨m_b_fab,0,none⟩),.pointer (some ⟨m_b_trace,0,none⟩),.int .i64 mc.c.nodes,.int .i64 mc.c.lines,.int .i64 mc.c.words,.int .i64 mc.c.sets,.int .i64 mc.c.ways,.int .i64 mc.c.out,.int .i64 mc.c.inn,.slice m_a_c_init mc.c.init.length m_c_c_init,.slice m_a_nodes m_r_nodes.length m_c_nodes],70⟩],[(ArrA v2_7a v2_7c v2_7x),(ArrA t3_2_a0 t3_2_c0 y3_2.1),(FabA m_b_fab mc.fab),(TraceA m_b_trace mc.trace),(ImmA m_a_c_init m_c_c_init mc.c.init),(ArrA m_a_nodes m_c_nodes m_r_nodes),(StA mc.nodes m_r_nodes)]⟩) (fun m2 (v2_7x,v2_8,v2_37,v2_7a,v2_7c)=>wlistS_l2 y3_2 mc line (wlistS_j1 mc line) m2 v2_7x v2_8 v2_37=some y) [0] [0,0,0,0,0,0,0] ((mc.nodes.length+2)) (([]:List Ent),((-1):Int),(0:Int),none,0) H ?_
         rintro N2 (_ | m2) ⟨v2_7x,v2_8,v2_37,v2_7a,v2_7c⟩ H hN2
         · exact (noneE H).elim
         replace H:wlistS_l2 y3_2 mc line (wlistS_j1 mc line) (m2+1) v2_7x v2_8 v2_37=some y:=H
         rw [wlistS_l2] at H
         refine xs [] H ?_ ?_
         · intro H
           refine chkG H fun q10_0_1 H=>?_
           refine xi [1] 1 (rA t3_2_a0 t3_2_c0 y3_2.1) q10_0_1 fun b1 o1 e1=>?_
           refine xpl [] 1 (ol_ld (rA t3_2_a0 t3_2_c0 y3_2.1) e1 q10_0_1 0 (fun _=>rfl)) ?_
           refine bindG H fun y11_3 hy11_3 H=>?_
           refine xc [] [0] [2,2,2,2,2] (wfindF m m_b_fab m_b_trace m_a_c_init m_c_c_init m_a_nodes m_c_nodes m_r_nodes hy11_3) fun ⟨t11_3_a0,t11_3_c0⟩=>?_
           refine xn [] fun b11_7=>?_
           refine xs [0,0] H ?_ ?_
           · intro H
             exact xrY (someE H) [1] [] [1] [1,1,1,1,1] ()
           · intro H
             refine xn [0,0] fun b15_2=>?_
             refine xg [] [] [0] (gh_frz t11_3_a0 t11_3_c0 y11_3.1.data) fun _=>?_
             refine xg [] [] [0] (gh_dup t11_3_a0 t11_3_c0 y11_3.1.data) fun _=>?_
             refine xg [] [0] [0] (gh_one b15_2 42 y11_3.1 (t11_3_a0,t11_3_c0)) fun _=>?_
             refine chkG H fun q15_3_1 H=>?_
             refine letG H fun l15_3 hl15_3 H=>?_
             refine xa [] [7,0] (a:=v2_7a) (l:=v2_7x) (zs:=l15_3) (cap:=v2_7c) (rA (some ⟨b15_2,0,none⟩) 1 ([y11_3.1])) hl15_3 (hl15_3▸q15_3_1) fun ⟨a15_3,c15_3⟩=>?_
             refine chkG H fun q16_0_1 H=>?_
             refine xd [0] (ap q16_0_1 an) ?_
             exact xe [] _ [1] [0,7,2,2,2,2,2] (hN2 _ (l15_3,nth y3_2.1 v2_37,v2_37+(1:Int),a15_3,c15_3) (Nat.lt_succ_self _) H)
         · intro H
           exact xe [0] _ [0] [0,1,1,1,1,1] (hN1 (v2_7x,v2_7a,v2_7c) H)
   · intro N0 hN0
     refine xs [] H ?_ ?_
     · intro H
       exact xe [0,0,0,0,0,0,0,0,1] _ [0] [0,0,0,0,0,0] (hN0 (true) H)
     · intro H
       refine xc [1,1] [] [] (valsF t3_2_a0 y3_2.1.length t3_2_c0) fun b4_4=>?_
       refine chkG H fun q4_5_1 H=>?_
       refine letG H fun y4_5 hy4_5 H=>?_
       refine xc [1] [0] [0] (sortedV b4_4 t3_2_a0 t3_2_c0 y3_2.1 (rA t3_2_a0 t3_2_c0 y3_2.1) q4_5_1 ((srt_is _).trans hy4_5)) fun ⟨t4_5_a,t4_5_c⟩=>?_
       refine bindG H fun y4_8 hy4_8 H=>?_
       refine xc [1,1,1] [0] [2,2,2,2,2] (wcopF m m_b_fab m_b_trace m_a_c_init m_c_c_init m_a_nodes m_c_nodes m_r_nodes hy4_8) fun ⟨t4_8_a0,t4_8_c0⟩=>?_
       refine bindG H fun y4_9 hy4_9 H=>?_
       refine xc [1] [] [6,0] (seqF t4_5_a t4_5_c t4_8_a0 t4_8_c0 (rA t4_5_a t4_5_c y4_5) (rA t4_8_a0 t4_8_c0 y4_8) hy4_9) fun _=>?_
       exact xe [1,0] _ [0] [7,2,2,2,2,2] (hN0 (!y4_9) H)
def wrightS_j0 (mc:MachS) (line:Int) (words:List Int):Option (Bool) :=
 (wrowS mc line).bind fun y8_2=>(bif decide (y8_2.state=(2:Int)) then some true else (wownS mc line).bind fun y9_6=>(bif !(decide (y9_6=((-1):Int))) then some true else (seqS y8_2.data words).bind fun y9_13=>some y9_13))
def wrightS_l1 (y1_2:List Int) (mc:MachS) (line:Int) (words:List Int) (k0:Option (Bool)):Nat→Int→Option (Bool)
 |0,_=>none
 |m+1,v1_16=>(bif decide (v1_16<(y1_2.length:Int)) then chk (0≤v1_16∧v1_16<(y1_2.length:Int)) ((wfindS mc (nth y1_2 v1_16) line).bind fun y4_3=>(seqS y4_3.1.data words).bind fun y5_3=>(bif !y5_3 then some false else chk (inR (v1_16+(1:Int))) ((wrightS_l1 y1_2 mc line words k0 m) (v1_16+(1:Int))))) else k0)
def wrightS (mc:MachS) (line:Int) (words:List Int):Option (Bool) :=
 (wcopS mc line).bind fun y1_2=>wrightS_l1 y1_2 mc line words (wrightS_j0 mc line words) (mc.nodes.length+2) (0:Int)
theorem wrightF {mc:MachS} {line:Int} {words:List Int} {wordsA:Asn} (m:Nat) (m_b_fab:Nat) (m_b_trace:Nat) (m_a_c_init:Option Addr) (m_c_c_init:Nat) (m_a_nodes:Option Addr) (m_c_nodes:Nat) (m_r_nodes:List PtrR) (wordsa:Option Addr) (wordsc:Nat) (hwordsA:Rdb wordsA wordsa wordsc words) {y:Bool} (H:wrightS mc line words=some y):FnY Tryz.prog 102 [.pointer (some ⟨m,0,none⟩),.int .i64 line,.slice wordsa words.length wordsc] ⟨[⟨m,#[.pointer (some ⟨m_b_fab,0,none⟩),.pointer (some ⟨m_b_trace,0,none⟩),.int .i64 mc.c.nodes,.int .i64 mc.c.lines,.int .i64 mc.c.words,.int .i64 mc.c.sets,.int .i64 mc.c.ways,.int .i64 mc.c.out,.int .i64 mc.c.inn,.slice m_a_c_init mc.c.init.length m_c_c_init,.slice m_a_nodes m_r_nodes.length m_c_nodes],70⟩],[(FabA m_b_fab mc.fab),(TraceA m_b_trace mc.trace),(ImmA m_a_c_init m_c_c_init mc.c.init),(ArrA m_a_nodes m_c_nodes m_r_nodes),(StA mc.nodes m_r_nodes),wordsA]⟩ (Z:=Unit) (fun y _=>.bool y) (fun y _=>⟨[⟨m,#[.pointer (some ⟨m_b_fab,0,none⟩),.pointer (some ⟨m_b_trace,0,none⟩),.int .i64 mc.c.nodes,.int .i64 mc.c.lines,.int .i64 mc.c.words,.int .i64 mc.c.sets,.int .i64 mc.c.ways,.int .i64 mc.c.out,.int .i64 mc.c.inn,.slice m_a_c_init mc.c.init.length m_c_c_init,.slice m_a_nodes m_r_nodes.length m_c_nodes],70⟩],[(FabA m_b_fab mc.fab),(TraceA m_b_trace mc.trace),(ImmA m_a_c_init m_c_c_init mc.c.init),(ArrA m_a_nodes m_c_nodes m_r_nodes),(StA mc.nodes m_r_nodes),wordsA]⟩) y:=by
 unfold wrightS at H
 refine xfY Tryz.func102 fun W0 F=>?_
 refine xj [101] (ι:=Unit) (fun _=>⟨[(0,.pointer (some ⟨m,0,none⟩)),(1,.int .i64 line),(2,.slice wordsa words.length wordsc)],[⟨m,#[.pointer (some ⟨m_b_fab,0,none⟩),.pointer (some ⟨m_b_trace,0,none⟩),.int .i64 mc.c.nodes,.int .i64 mc.c.lines,.int .i64 mc.c.words,.int .i64 mc.c.sets,.int .i64 mc.c.ways,.int .i64 mc.c.out,.int .i64 mc.c.inn,.slice m_a_c_init mc.c.init.length m_c_c_init,.slice m_a_nodes m_r_nodes.length m_c_nodes],70⟩],[(FabA m_b_fab mc.fab),(TraceA m_b_trace mc.trace),(ImmA m_a_c_init m_c_c_init mc.c.init),(ArrA m_a_nodes m_c_nodes m_r_nodes),(StA mc.nodes m_r_nodes),wordsA]⟩) (fun _=>wrightS_j0 mc line words=some y) ?_ ?_
 · rintro _ H
   replace H:wrightS_j0 mc line words=some y:=H
   rw [wrightS_j0] at H
   refine bindG H fun y8_2 hy8_2 H=>?_
   refine xc [] [0] [0,0,0,0,0] (wrowF m m_b_fab m_b_trace m_a_c_init m_c_c_init m_a_nodes m_c_nodes m_r_nodes hy8_2) fun ⟨t8_2_a0,t8_2_c0⟩=>?_
   refine xn [] fun b8_3=>?_
   refine xs [0,0] H ?_ ?_
   · intro H
     exact xrY (someE H) [0,0,0,0,1,0,0,0,0,1] [] [1] [1,1,1,1,1,1] ()
   · intro H
     refine bindG H fun y9_6 hy9_6 H=>?_
     refine xc [1,1,1] [1] [1,1,1,1,1] (wownF m m_b_fab m_b_trace m_a_c_init m_c_c_init m_a_nodes m_c_nodes m_r_nodes hy9_6) fun _=>?_
     refine xs [1,0] H ?_ ?_
     · intro H
       exact xrY (someE H) [0,0,0,0,1] [] [0] [0,0,0,0,0,1] ()
     · intro H
       refine bindG H fun y9_13 hy9_13 H=>?_
       refine xc [1,1,1,1,1] [] [5,5] (seqF t8_2_a0 t8_2_c0 wordsa wordsc (rA t8_2_a0 t8_2_c0 y8_2.data) hwordsA hy9_13) fun _=>?_
       exact xrY (someE H) [0] [] [0] [2,2,2,2,2,1] ()
 · intro N0 hN0
   refine bindG H fun y1_2 hy1_2 H=>?_
   refine xc [] [0] [0,0,0,0,0] (wcopF m m_b_fab m_b_trace m_a_c_init m_c_c_init m_a_nodes m_c_nodes m_r_nodes hy1_2) fun ⟨t1_2_a0,t1_2_c0⟩=>?_
   refine xl [] (ι:=Int) (fun v1_16=>⟨[(0,.pointer (some ⟨m,0,none⟩)),(1,.int .i64 line),(2,.slice wordsa words.length wordsc),(14,.slice t1_2_a0 y1_2.length t1_2_c0),(15,.int .i64 y1_2.length),(16,.int .i64 v1_16)],[⟨m,#[.pointer (some ⟨m_b_fab,0,none⟩),.pointer (some ⟨m_b_trace,0,none⟩),.int .i64 mc.c.nodes,.int .i64 mc.c.lines,.int .i64 mc.c.words,.int .i64 mc.c.sets,.int .i64 mc.c.ways,.int .i64 mc.c.out,.int .i64 mc.c.inn,.slice m_a_c_init mc.c.init.length m_c_c_init,.slice m_a_nodes m_r_nodes.length m_c_nodes],70⟩],[(ArrA t1_2_a0 t1_2_c0 y1_2),(FabA m_b_fab mc.fab),(TraceA m_b_trace mc.trace),(ImmA m_a_c_init m_c_c_init mc.c.init),(ArrA m_a_nodes m_c_nodes m_r_nodes),(StA mc.nodes m_r_nodes),wordsA]⟩) (fun m1 v1_16=>wrightS_l1 y1_2 mc line words (wrightS_j0 mc line words) m1 v1_16=some y) [0] [0,0,0,0,0,0,0] ((mc.nodes.length+2)) ((0:Int)) H ?_
   rintro N1 (_ | m1) v1_16 H hN1
   · exact (noneE H).elim
   replace H:wrightS_l1 y1_2 mc line words (wrightS_j0 mc line words) (m1+1) v1_16=some y:=H
   rw [wrightS_l1] at H
   refine xs [] H ?_ ?_
   · intro H
     refine chkG H fun q3_0_1 H=>?_
     refine xi [1] 0 (rA t1_2_a0 t1_2_c0 y1_2) q3_0_1 fun b1 o1 e1=>?_
     refine xpl [] 0 (ol_ld (rA t1_2_a0 t1_2_c0 y1_2) e1 q3_0_1 0 (fun _=>rfl)) ?_
     refine bindG H fun y4_3 hy4_3 H=>?_
     refine xc [] [0] [1,1,1,1,1] (wfindF m m_b_fab m_b_trace m_a_c_init m_c_c_init m_a_nodes m_c_nodes m_r_nodes hy4_3) fun ⟨t4_3_a0,t4_3_c0⟩=>?_
     refine xn [] fun b4_7=>?_
     refine bindG H fun y5_3 hy5_3 H=>?_
     refine xc [0,0] [] [0,6] (seqF t4_3_a0 t4_3_c0 wordsa wordsc (rA t4_3_a0 t4_3_c0 y4_3.1.data) hwordsA hy5_3) fun _=>?_
     refine xs [] H ?_ ?_
     · intro H
       exact xrY (someE H) [1] [] [1] [2,2,2,2,2,1] ()
     · intro H
       refine chkG H fun q7_0_1 H=>?_
       refine xd [0,0] (ap q7_0_1 an) ?_
       exact xe [] _ [1] [7,2,2,2,2,2,1] (hN1 _ (v1_16+(1:Int)) (Nat.lt_succ_self _) H)
   · intro H
     exact xe [0] _ [0] [1,1,1,1,1,1] (hN0 () H)
def wvalS_j0:Option (Bool) :=
 some true
def wvalS_l1 (y1_1:CfgS) (y2_7:List Int) (mc:MachS) (k0:Option (Bool)):Nat→Int→Option (Bool)
 |0,_=>none
 |m+1,v1_25=>(bif decide (v1_25<y1_1.lines) then chk (inR (v1_25+(1:Int))) (chk (0≤(wr (v1_25*y1_1.words))∧(wr (v1_25*y1_1.words))≤(wr ((v1_25+(1:Int))*y1_1.words))∧(wr ((v1_25+(1:Int))*y1_1.words))≤(y2_7.length:Int)) (letP ((y2_7.drop ((wr (v1_25*y1_1.words))).toNat).take (((wr ((v1_25+(1:Int))*y1_1.words))).toNat - ((wr (v1_25*y1_1.words))).toNat)) fun l8_12=>(wrightS mc v1_25 l8_12).bind fun y8_13=>(bif !y8_13 then some false else chk (inR (v1_25+(1:Int))) ((wvalS_l1 y1_1 y2_7 mc k0 m) (v1_25+(1:Int)))))) else k0)
def wvalS (mc:MachS) (programs:List (List OpS)):Option (Bool) :=
 (mconfS mc).bind fun y1_1=>(trevS mc.trace).bind fun y2_6=>(aaftS y1_1 programs y2_6).bind fun y2_7=>(paddrsS y1_1).bind fun y3_3=>(bif !(decide ((y2_7.length:Int)=y3_3)) then some false else wvalS_l1 y1_1 y2_7 mc wvalS_j0 (mc.c.lines.toNat+1) (0:Int))
theorem wvalF {mc:MachS} {programs:List (List OpS)} {programsA:Asn} (m:Nat) (m_b_fab:Nat) (m_b_trace:Nat) (m_a_c_init:Option Addr) (m_c_c_init:Nat) (m_a_nodes:Option Addr) (m_c_nodes:Nat) (m_r_nodes:List PtrR) (programsa:Option Addr) (programsc:Nat) (hprogramsA:Rdb programsA programsa programsc programs) {y:Bool} (H:wvalS mc programs=some y):FnY Tryz.prog 58 [.pointer (some ⟨m,0,none⟩),.slice programsa programs.length programsc] ⟨[⟨m,#[.pointer (some ⟨m_b_fab,0,none⟩),.pointer (some ⟨m_b_trace,0,none⟩),.int .i64 mc.c.nodes,.int .i64 mc.c.lines,.int .i64 mc.c.words,.int .i64 mc.c.sets,.int .i64 mc.c.ways,.int .i64 mc.c.out,.int .i64 mc.c.inn,.slice m_a_c_init mc.c.init.length m_c_c_init,.slice m_a_nodes m_r_nodes.length m_c_nodes],70⟩],[(FabA m_b_fab mc.fab),(TraceA m_b_trace mc.trace),(ImmA m_a_c_init m_c_c_init mc.c.init),(ArrA m_a_nodes m_c_nodes m_r_nodes),(StA mc.nodes m_r_nodes),programsA]⟩ (Z:=Unit) (fun y _=>.bool y) (fun y _=>⟨[⟨m,#[.pointer (some ⟨m_b_fab,0,none⟩),.pointer (some ⟨m_b_trace,0,none⟩),.int .i64 mc.c.nodes,.int .i64 mc.c.lines,.int .i64 mc.c.words,.int .i64 mc.c.sets,.int .i64 mc.c.ways,.int .i64 mc.c.out,.int .i64 mc.c.inn,.slice m_a_c_init mc.c.init.length m_c_c_init,.slice m_a_nodes m_r_nodes.length m_c_nodes],70⟩],[(FabA m_b_fab mc.fab),(TraceA m_b_trace mc.trace),(ImmA m_a_c_init m_c_c_init mc.c.init),(ArrA m_a_nodes m_c_nodes m_r_nodes),(StA mc.nodes m_r_nodes),programsA]⟩) y:=by
 unfold wvalS at H
 refine xfY Tryz.func58 fun W0 F=>?_
 refine bindG H fun y1_1 hy1_1 H=>?_
 refine xc [] [0] [0,0,0,0,0] (mconfF m m_b_fab m_b_trace m_a_c_init m_c_c_init m_a_nodes m_c_nodes m_r_nodes hy1_1) fun ⟨t1_1_a0,t1_1_c0⟩=>?_
 refine xn [] fun b1_2=>?_
 refine xg [0,0,0,1,2,3,4,5,1,6] [] [2] (gh_open (TraceO m_b_trace mc.trace)) fun ⟨a_l1,c_l2⟩=>?_
 refine bindG H fun y2_6 hy2_6 H=>?_
 refine xc [] [0] [0] (trevF m_b_trace a_l1 c_l2 hy2_6) fun ⟨t2_6_a0,t2_6_c0⟩=>?_
 refine xg [7] [] [2] (gh_frz t1_1_a0 t1_1_c0 y1_1.init) fun _=>?_
 refine xg [] [] [0] (gh_dup t1_1_a0 t1_1_c0 y1_1.init) fun _=>?_
 refine bindG H fun y2_7 hy2_7 H=>?_
 refine xc [] [] [0,7,1] (aaftF t1_1_a0 t1_1_c0 programsa programsc t2_6_a0 t2_6_c0 hprogramsA (rA t2_6_a0 t2_6_c0 y2_6) hy2_7) fun ⟨t2_7_a0,t2_7_c0⟩=>?_
 refine bindG H fun y3_3 hy3_3 H=>?_
 refine xc [8,1] [] [] (paddrsF t1_1_a0 t1_1_c0 hy3_3) fun _=>?_
 refine xs [] H ?_ ?_
 · intro H
   refine xg [1] [0] [4] (gh_shut (TraceO m_b_trace mc.trace) (a_l1,c_l2)) fun _=>?_
   exact xrY (someE H) [] [] [1] [5,0,4,4,4,1] ()
 · intro H
   refine xj [0,100] (ι:=Unit) (fun _=>⟨[],[⟨m,#[.pointer (some ⟨m_b_fab,0,none⟩),.pointer (some ⟨m_b_trace,0,none⟩),.int .i64 mc.c.nodes,.int .i64 mc.c.lines,.int .i64 mc.c.words,.int .i64 mc.c.sets,.int .i64 mc.c.ways,.int .i64 mc.c.out,.int .i64 mc.c.inn,.slice m_a_c_init mc.c.init.length m_c_c_init,.slice m_a_nodes m_r_nodes.length m_c_nodes],70⟩],[(TraceA m_b_trace mc.trace),programsA,(FabA m_b_fab mc.fab),(ImmA m_a_c_init m_c_c_init mc.c.init),(ArrA m_a_nodes m_c_nodes m_r_nodes),(StA mc.nodes m_r_nodes)]⟩) (fun _=>wvalS_j0=some y) ?_ ?_
   · rintro _ H
     replace H:wvalS_j0=some y:=H
     rw [wvalS_j0] at H
     exact xrY (someE H) [] [] [0] [2,0,1,1,1,0] ()
   · intro N0 hN0
     refine xg [1] [0] [4] (gh_shut (TraceO m_b_trace mc.trace) (a_l1,c_l2)) fun _=>?_
     refine xl [] (ι:=Int) (fun v1_25=>⟨[(0,.pointer (some ⟨m,0,none⟩)),(5,.pointer (some ⟨b1_2,0,none⟩)),(6,.slice t2_7_a0 y2_7.length t2_7_c0),(24,.int .i64 y1_1.lines),(25,.int .i64 v1_25)],[⟨b1_2,#[.int .i64 y1_1.nodes,.int .i64 y1_1.lines,.int .i64 y1_1.words,.int .i64 y1_1.sets,.int .i64 y1_1.ways,.int .i64 y1_1.out,.int .i64 y1_1.inn,.slice t1_1_a0 y1_1.init.length t1_1_c0],25⟩,⟨m,#[.pointer (some ⟨m_b_fab,0,none⟩),.pointer (some ⟨m_b_trace,0,none⟩),.int .i64 mc.c.nodes,.int .i64 mc.c.lines,.int .i64 mc.c.words,.int .i64 mc.c.sets,.int .i64 mc.c.ways,.int .i64 mc.c.out,.int .i64 mc.c.inn,.slice m_a_c_init mc.c.init.length m_c_c_init,.slice m_a_nodes m_r_nodes.length m_c_nodes],70⟩],[(TraceA m_b_trace mc.trace),(ArrA t2_7_a0 t2_7_c0 y2_7),programsA,(ImmA t1_1_a0 t1_1_c0 y1_1.init),(FabA m_b_fab mc.fab),(ImmA m_a_c_init m_c_c_init mc.c.init),(ArrA m_a_nodes m_c_nodes m_r_nodes),(StA mc.nodes m_r_nodes)]⟩) (fun m1 v1_25=>wvalS_l1 y1_1 y2_7 mc (wvalS_j0) m1 v1_25=some y) [0,0] [0,0,0,1,1,1,1,1] ((mc.c.lines.toNat+1)) ((0:Int)) H ?_
     rintro N1 (_ | m1) v1_25 H hN1
     · exact (noneE H).elim
     replace H:wvalS_l1 y1_1 y2_7 mc (wvalS_j0) (m1+1) v1_25=some y:=H
     rw [wvalS_l1] at H
     refine xs [] H ?_ ?_
     · intro H
       refine chkG H fun q8_8_1 H=>?_
       refine chkG H fun q8_12_1 H=>?_
       refine letG H fun l8_12 hl8_12 H=>?_
       refine xd [1,0,1,0,0,1] (ap q8_8_1 an) ?_
       refine xsl [] 1 (rA t2_7_a0 t2_7_c0 y2_7) (mx:=(t2_7_c0:Int)) q8_12_1 (.inl rfl) hl8_12 fun a8_12 rl8_12=>?_
       refine bindG H fun y8_13 hy8_13 H=>?_
       refine xc [] [1] [4,0,3,3,3,0] (wrightF m m_b_fab m_b_trace m_a_c_init m_c_c_init m_a_nodes m_c_nodes m_r_nodes a8_12 (((t2_7_c0:Int)).toNat - ((wr (v1_25*y1_1.words))).toNat) rl8_12 hy8_13) fun _=>?_
       refine xs [] H ?_ ?_
       · intro H
         exact xrY (someE H) [1] [] [0] [0,0,0,0,0,1] ()
       · intro H
         refine chkG H fun q10_0_1 H=>?_
         refine xd [0,0] (ap q10_0_1 an) ?_
         exact xe [] _ [1,0] [1,4,4,4,0,0,0,0] (hN1 _ (v1_25+(1:Int)) (Nat.lt_succ_self _) H)
     · intro H
       exact xe [0] _ [1] [0,1,2,2,2,2] (hN0 () H)
def wsin1S (at_:Int) (moc:MachS) (lnv:Int):Option (Bool) :=
 (wfindS moc at_ lnv).bind fun y1_3=>some y1_3.1.dirty
theorem wsin1F {at_:Int} {moc:MachS} {lnv:Int} (m mo:Nat) (mo_b_fab:Nat) (mo_b_trace:Nat) (mo_a_c_init:Option Addr) (mo_c_c_init:Nat) (mo_a_nodes:Option Addr) (mo_c_nodes:Nat) (mo_r_nodes:List PtrR) (ln:Nat) {y:Bool} (H:wsin1S at_ moc lnv=some y):FnY Tryz.prog 99 [.int .i64 at_,.pointer (some ⟨m,0,none⟩),.pointer (some ⟨ln,0,none⟩)] ⟨[⟨m,#[.pointer (some ⟨mo,0,none⟩)],31⟩,⟨mo,#[.pointer (some ⟨mo_b_fab,0,none⟩),.pointer (some ⟨mo_b_trace,0,none⟩),.int .i64 moc.c.nodes,.int .i64 moc.c.lines,.int .i64 moc.c.words,.int .i64 moc.c.sets,.int .i64 moc.c.ways,.int .i64 moc.c.out,.int .i64 moc.c.inn,.slice mo_a_c_init moc.c.init.length mo_c_c_init,.slice mo_a_nodes mo_r_nodes.length mo_c_nodes],70⟩,⟨ln,#[.int .i64 lnv],3⟩],[(FabA mo_b_fab moc.fab),(TraceA mo_b_trace moc.trace),(ImmA mo_a_c_init mo_c_c_init moc.c.init),(ArrA mo_a_nodes mo_c_nodes mo_r_nodes),(StA moc.nodes mo_r_nodes)]⟩ (Z:=Unit) (fun y _=>.bool y) (fun y _=>⟨[⟨m,#[.pointer (some ⟨mo,0,none⟩)],31⟩,⟨mo,#[.pointer (some ⟨mo_b_fab,0,none⟩),.pointer (some ⟨mo_b_trace,0,none⟩),.int .i64 moc.c.nodes,.int .i64 moc.c.lines,.int .i64 moc.c.words,.int .i64 moc.c.sets,.int .i64 moc.c.ways,.int .i64 moc.c.out,.int .i64 moc.c.inn,.slice mo_a_c_init moc.c.init.length mo_c_c_init,.slice mo_a_nodes mo_r_nodes.length mo_c_nodes],70⟩,⟨ln,#[.int .i64 lnv],3⟩],[(FabA mo_b_fab moc.fab),(TraceA mo_b_trace moc.trace),(ImmA mo_a_c_init mo_c_c_init moc.c.init),(ArrA mo_a_nodes mo_c_nodes mo_r_nodes),(StA moc.nodes mo_r_nodes)]⟩) y:=by
 unfold wsin1S at H
 refine xfY Tryz.func99 fun W0 F=>?_
 refine bindG H fun y1_3 hy1_3 H=>?_
 refine xc [0,2] [1] [0,0,0,0,0] (wfindF mo mo_b_fab mo_b_trace mo_a_c_init mo_c_c_init mo_a_nodes mo_c_nodes mo_r_nodes hy1_3) fun ⟨t1_3_a0,t1_3_c0⟩=>?_
 refine xn [] fun b1_7=>?_
 exact xrY (someE H) [0,0] [] [2,1,1] [1,1,1,1,1] ()
def wiidxS_j0:Option (Int) :=
 some ((-1):Int)
def wiidxS_l1 (s:List Int) (moc:MachS) (lnv:Int) (k0:Option (Int)):Nat→Int→Option (Int)
 |0,_=>none
 |m+1,v1_8=>(bif decide (v1_8<(s.length:Int)) then chk (0≤v1_8∧v1_8<(s.length:Int)) ((wsin1S (nth s v1_8) moc lnv).bind fun y4_5=>(bif y4_5 then some v1_8 else chk (inR (v1_8+(1:Int))) ((wiidxS_l1 s moc lnv k0 m) (v1_8+(1:Int))))) else k0)
def wiidxS (s:List Int) (moc:MachS) (lnv:Int):Option (Int) :=
 wiidxS_l1 s moc lnv wiidxS_j0 (s.length+1) (0:Int)
theorem wiidxF {s:List Int} {sA:Asn} {moc:MachS} {lnv:Int} (sa:Option Addr) (sc:Nat) (m mo:Nat) (mo_b_fab:Nat) (mo_b_trace:Nat) (mo_a_c_init:Option Addr) (mo_c_c_init:Nat) (mo_a_nodes:Option Addr) (mo_c_nodes:Nat) (mo_r_nodes:List PtrR) (ln:Nat) (hsA:Rdb sA sa sc s) {y:Int} (H:wiidxS s moc lnv=some y):FnY Tryz.prog 133 [.slice sa s.length sc,.func (.func 99) #[] #[.pointer (some ⟨m,0,none⟩),.pointer (some ⟨ln,0,none⟩)]] ⟨[⟨m,#[.pointer (some ⟨mo,0,none⟩)],31⟩,⟨mo,#[.pointer (some ⟨mo_b_fab,0,none⟩),.pointer (some ⟨mo_b_trace,0,none⟩),.int .i64 moc.c.nodes,.int .i64 moc.c.lines,.int .i64 moc.c.words,.int .i64 moc.c.sets,.int .i64 moc.c.ways,.int .i64 moc.c.out,.int .i64 moc.c.inn,.slice mo_a_c_init moc.c.init.length mo_c_c_init,.slice mo_a_nodes mo_r_nodes.length mo_c_nodes],70⟩,⟨ln,#[.int .i64 lnv],3⟩],[sA,(FabA mo_b_fab moc.fab),(TraceA mo_b_trace moc.trace),(ImmA mo_a_c_init mo_c_c_init moc.c.init),(ArrA mo_a_nodes mo_c_nodes mo_r_nodes),(StA moc.nodes mo_r_nodes)]⟩ (Z:=Unit) (fun y _=>.int .i64 y) (fun y _=>⟨[⟨m,#[.pointer (some ⟨mo,0,none⟩)],31⟩,⟨mo,#[.pointer (some ⟨mo_b_fab,0,none⟩),.pointer (some ⟨mo_b_trace,0,none⟩),.int .i64 moc.c.nodes,.int .i64 moc.c.lines,.int .i64 moc.c.words,.int .i64 moc.c.sets,.int .i64 moc.c.ways,.int .i64 moc.c.out,.int .i64 moc.c.inn,.slice mo_a_c_init moc.c.init.length mo_c_c_init,.slice mo_a_nodes mo_r_nodes.length mo_c_nodes],70⟩,⟨ln,#[.int .i64 lnv],3⟩],[(FabA mo_b_fab moc.fab),(TraceA mo_b_trace moc.trace),(ImmA mo_a_c_init mo_c_c_init moc.c.init),(ArrA mo_a_nodes mo_c_nodes mo_r_nodes),(StA moc.nodes mo_r_nodes),sA]⟩) y:=by
 unfold wiidxS at H
 refine xfY Tryz.func133 fun W0 F=>?_
 refine xj [101] (ι:=Unit) (fun _=>⟨[],[⟨m,#[.pointer (some ⟨mo,0,none⟩)],31⟩,⟨mo,#[.pointer (some ⟨mo_b_fab,0,none⟩),.pointer (some ⟨mo_b_trace,0,none⟩),.int .i64 moc.c.nodes,.int .i64 moc.c.lines,.int .i64 moc.c.words,.int .i64 moc.c.sets,.int .i64 moc.c.ways,.int .i64 moc.c.out,.int .i64 moc.c.inn,.slice mo_a_c_init moc.c.init.length mo_c_c_init,.slice mo_a_nodes mo_r_nodes.length mo_c_nodes],70⟩,⟨ln,#[.int .i64 lnv],3⟩],[sA,(FabA mo_b_fab moc.fab),(TraceA mo_b_trace moc.trace),(ImmA mo_a_c_init mo_c_c_init moc.c.init),(ArrA mo_a_nodes mo_c_nodes mo_r_nodes),(StA moc.nodes mo_r_nodes)]⟩) (fun _=>wiidxS_j0=some y) ?_ ?_
 · rintro _ H
   replace H:wiidxS_j0=some y:=H
   rw [wiidxS_j0] at H
   exact xrY (someE H) [] [] [0,0,0] [1,1,1,1,1,0] ()
 · intro N0 hN0
   refine xl [] (ι:=Int) (fun v1_8=>⟨[(0,.slice sa s.length sc),(1,.func (.func 99) #[] #[.pointer (some ⟨m,0,none⟩),.pointer (some ⟨ln,0,none⟩)]),(7,.int .i64 s.length),(8,.int .i64 v1_8)],[⟨m,#[.pointer (some ⟨mo,0,none⟩)],31⟩,⟨mo,#[.pointer (some ⟨mo_b_fab,0,none⟩),.pointer (some ⟨mo_b_trace,0,none⟩),.int .i64 moc.c.nodes,.int .i64 moc.c.lines,.int .i64 moc.c.words,.int .i64 moc.c.sets,.int .i64 moc.c.ways,.int .i64 moc.c.out,.int .i64 moc.c.inn,.slice mo_a_c_init moc.c.init.length mo_c_c_init,.slice mo_a_nodes mo_r_nodes.length mo_c_nodes],70⟩,⟨ln,#[.int .i64 lnv],3⟩],[sA,(FabA mo_b_fab moc.fab),(TraceA mo_b_trace moc.trace),(ImmA mo_a_c_init mo_c_c_init moc.c.init),(ArrA mo_a_nodes mo_c_nodes mo_r_nodes),(StA moc.nodes mo_r_nodes)]⟩) (fun m1 v1_8=>wiidxS_l1 s moc lnv (wiidxS_j0) m1 v1_8=some y) [0,0,0] [0,0,0,0,0,0] ((s.length+1)) ((0:Int)) H ?_
   rintro N1 (_ | m1) v1_8 H hN1
   · exact (noneE H).elim
   replace H:wiidxS_l1 s moc lnv (wiidxS_j0) (m1+1) v1_8=some y:=H
   rw [wiidxS_l1] at H
   refine xs [] H ?_ ?_
   · intro H
     refine chkG H fun q4_3_1 H=>?_
     refine xi [1] 0 hsA q4_3_1 fun b1 o1 e1=>?_
     refine xpl [] 0 (ol_ld hsA e1 q4_3_1 0 (fun _=>rfl)) ?_
     refine bindG H fun y4_5 hy4_5 H=>?_
     refine xc [] [0,0,0] [1,1,1,1,1] (wsin1F m mo mo_b_fab mo_b_trace mo_a_c_init mo_c_c_init mo_a_nodes mo_c_nodes mo_r_nodes ln hy4_5) fun _=>?_
     refine xs [] H ?_ ?_
     · intro H
       exact xrY (someE H) [1] [] [0,0,0] [0,0,0,0,0,0] ()
     · intro H
       refine chkG H fun q6_0_1 H=>?_
       refine xd [0,0] (ap q6_0_1 an) ?_
       exact xe [] _ [0,0,0] [5,0,0,0,0,0] (hN1 _ (v1_8+(1:Int)) (Nat.lt_succ_self _) H)
   · intro H
     exact xe [0] _ [0,0,0] [0,0,0,0,0,0] (hN0 () H)
def wicofS (s:List Int) (moc:MachS) (lnv:Int):Option (Bool) :=
 (wiidxS s moc lnv).bind fun y1_2=>some (decide ((0:Int)≤y1_2))
theorem wicofF {s:List Int} {sA:Asn} {moc:MachS} {lnv:Int} (sa:Option Addr) (sc:Nat) (m mo:Nat) (mo_b_fab:Nat) (mo_b_trace:Nat) (mo_a_c_init:Option Addr) (mo_c_c_init:Nat) (mo_a_nodes:Option Addr) (mo_c_nodes:Nat) (mo_r_nodes:List PtrR) (ln:Nat) (hsA:Rdb sA sa sc s) {y:Bool} (H:wicofS s moc lnv=some y):FnY Tryz.prog 98 [.slice sa s.length sc,.func (.func 99) #[] #[.pointer (some ⟨m,0,none⟩),.pointer (some ⟨ln,0,none⟩)]] ⟨[⟨m,#[.pointer (some ⟨mo,0,none⟩)],31⟩,⟨mo,#[.pointer (some ⟨mo_b_fab,0,none⟩),.pointer (some ⟨mo_b_trace,0,none⟩),.int .i64 moc.c.nodes,.int .i64 moc.c.lines,.int .i64 moc.c.words,.int .i64 moc.c.sets,.int .i64 moc.c.ways,.int .i64 moc.c.out,.int .i64 moc.c.inn,.slice mo_a_c_init moc.c.init.length mo_c_c_init,.slice mo_a_nodes mo_r_nodes.length mo_c_nodes],70⟩,⟨ln,#[.int .i64 lnv],3⟩],[sA,(FabA mo_b_fab moc.fab),(TraceA mo_b_trace moc.trace),(ImmA mo_a_c_init mo_c_c_init moc.c.init),(ArrA mo_a_nodes mo_c_nodes mo_r_nodes),(StA moc.nodes mo_r_nodes)]⟩ (Z:=Unit) (fun y _=>.bool y) (fun y _=>⟨[⟨m,#[.pointer (some ⟨mo,0,none⟩)],31⟩,⟨mo,#[.pointer (some ⟨mo_b_fab,0,none⟩),.pointer (some ⟨mo_b_trace,0,none⟩),.int .i64 moc.c.nodes,.int .i64 moc.c.lines,.int .i64 moc.c.words,.int .i64 moc.c.sets,.int .i64 moc.c.ways,.int .i64 moc.c.out,.int .i64 moc.c.inn,.slice mo_a_c_init moc.c.init.length mo_c_c_init,.slice mo_a_nodes mo_r_nodes.length mo_c_nodes],70⟩,⟨ln,#[.int .i64 lnv],3⟩],[(FabA mo_b_fab moc.fab),(TraceA mo_b_trace moc.trace),(ImmA mo_a_c_init mo_c_c_init moc.c.init),(ArrA mo_a_nodes mo_c_nodes mo_r_nodes),(StA moc.nodes mo_r_nodes),sA]⟩) y:=by
 unfold wicofS at H
 refine xfY Tryz.func98 fun W0 F=>?_
 refine bindG H fun y1_2 hy1_2 H=>?_
 refine xc [] [0,0,0] [0,0,0,0,0,0] (wiidxF sa sc m mo mo_b_fab mo_b_trace mo_a_c_init mo_c_c_init mo_a_nodes mo_c_nodes mo_r_nodes ln hsA hy1_2) fun _=>?_
 exact xrY (someE H) [] [] [0,0,0] [0,0,0,0,0,0] ()
def wsinS (mc:MachS) (line:Int):Option (Bool) :=
 (wcopS mc line).bind fun y1_2=>(wicofS y1_2 mc line).bind fun y2_2=>(bif !y2_2 then some true else some (decide ((y1_2.length:Int)=(1:Int))))
theorem wsinF {mc:MachS} {line:Int} (m:Nat) (m_b_fab:Nat) (m_b_trace:Nat) (m_a_c_init:Option Addr) (m_c_c_init:Nat) (m_a_nodes:Option Addr) (m_c_nodes:Nat) (m_r_nodes:List PtrR) {y:Bool} (H:wsinS mc line=some y):FnY Tryz.prog 56 [.pointer (some ⟨m,0,none⟩),.int .i64 line] ⟨[⟨m,#[.pointer (some ⟨m_b_fab,0,none⟩),.pointer (some ⟨m_b_trace,0,none⟩),.int .i64 mc.c.nodes,.int .i64 mc.c.lines,.int .i64 mc.c.words,.int .i64 mc.c.sets,.int .i64 mc.c.ways,.int .i64 mc.c.out,.int .i64 mc.c.inn,.slice m_a_c_init mc.c.init.length m_c_c_init,.slice m_a_nodes m_r_nodes.length m_c_nodes],70⟩],[(FabA m_b_fab mc.fab),(TraceA m_b_trace mc.trace),(ImmA m_a_c_init m_c_c_init mc.c.init),(ArrA m_a_nodes m_c_nodes m_r_nodes),(StA mc.nodes m_r_nodes)]⟩ (Z:=Unit) (fun y _=>.bool y) (fun y _=>⟨[⟨m,#[.pointer (some ⟨m_b_fab,0,none⟩),.pointer (some ⟨m_b_trace,0,none⟩),.int .i64 mc.c.nodes,.int .i64 mc.c.lines,.int .i64 mc.c.words,.int .i64 mc.c.sets,.int .i64 mc.c.ways,.int .i64 mc.c.out,.int .i64 mc.c.inn,.slice m_a_c_init mc.c.init.length m_c_c_init,.slice m_a_nodes m_r_nodes.length m_c_nodes],70⟩],[(FabA m_b_fab mc.fab),(TraceA m_b_trace mc.trace),(ImmA m_a_c_init m_c_c_init mc.c.init),(ArrA m_a_nodes m_c_nodes m_r_nodes),(StA mc.nodes m_r_nodes)]⟩) y:=by
 unfold wsinS at H
 refine xfY Tryz.func56 fun W0 F=>?_
 refine xn [] fun b0_0=>?_
 refine xn [] fun b0_1=>?_
 refine bindG H fun y1_2 hy1_2 H=>?_
 refine xc [1,0] [2] [0,0,0,0,0] (wcopF m m_b_fab m_b_trace m_a_c_init m_c_c_init m_a_nodes m_c_nodes m_r_nodes hy1_2) fun ⟨t1_2_a0,t1_2_c0⟩=>?_
 refine bindG H fun y2_2 hy2_2 H=>?_
 refine xc [] [2,0,0] [0,0,0,0,0,0] (wicofF t1_2_a0 t1_2_c0 b0_0 m m_b_fab m_b_trace m_a_c_init m_c_c_init m_a_nodes m_c_nodes m_r_nodes b0_1 (rA t1_2_a0 t1_2_c0 y1_2) hy2_2) fun _=>?_
 refine xs [] H ?_ ?_
 · intro H
   exact xrY (someE H) [0,0,0,1] [] [1] [0,0,0,0,0] ()
 · intro H
   exact xrY (someE H) [1,1,1,0] [] [1] [0,0,0,0,0] ()
def wsndS_j1 (e1_4:Bool):Option (Bool) :=
 some e1_4
def wsndS_j0 (mc:MachS) (y1_1:CfgS) (programs:List (List OpS)):Option (Bool) :=
 (trevS mc.trace).bind fun y8_6=>(alegS y1_1 programs y8_6).bind fun y8_7=>(bif y8_7 then (wvalS mc programs).bind fun y8_11=>wsndS_j1 y8_11 else wsndS_j1 false)
def wsndS_l2 (y1_1:CfgS) (mc:MachS) (k0:Option (Bool)):Nat→Int→Option (Bool)
 |0,_=>none
 |m+1,v2_11=>(bif decide (v2_11<y1_1.lines) then (wsinS mc v2_11).bind fun y5_2=>(bif !y5_2 then some false else (wownS mc v2_11).bind fun y5_7=>(bif decide (y5_7=((-1):Int)) then (wlistS mc v2_11).bind fun y5_12=>(bif !y5_12 then some false else chk (inR (v2_11+(1:Int))) ((wsndS_l2 y1_1 mc k0 m) (v2_11+(1:Int)))) else chk (inR (v2_11+(1:Int))) ((wsndS_l2 y1_1 mc k0 m) (v2_11+(1:Int))))) else k0)
def wsndS (mc:MachS) (programs:List (List OpS)):Option (Bool) :=
 (mconfS mc).bind fun y1_1=>wsndS_l2 y1_1 mc (wsndS_j0 mc y1_1 programs) (mc.c.lines.toNat+1) (0:Int)
theorem wsndF {mc:MachS} {programs:List (List OpS)} {programsA:Asn} (m:Nat) (m_b_fab:Nat) (m_b_trace:Nat) (m_a_c_init:Option Addr) (m_c_c_init:Nat) (m_a_nodes:Option Addr) (m_c_nodes:Nat) (m_r_nodes:List PtrR) (programsa:Option Addr) (programsc:Nat) (hprogramsA:Rdb programsA programsa programsc programs) {y:Bool} (H:wsndS mc programs=some y):FnY Tryz.prog 18 [.pointer (some ⟨m,0,none⟩),.slice programsa programs.length programsc] ⟨[⟨m,#[.pointer (some ⟨m_b_fab,0,none⟩),.pointer (some ⟨m_b_trace,0,none⟩),.int .i64 mc.c.nodes,.int .i64 mc.c.lines,.int .i64 mc.c.words,.int .i64 mc.c.sets,.int .i64 mc.c.ways,.int .i64 mc.c.out,.int .i64 mc.c.inn,.slice m_a_c_init mc.c.init.length m_c_c_init,.slice m_a_nodes m_r_nodes.length m_c_nodes],70⟩],[(FabA m_b_fab mc.fab),(TraceA m_b_trace mc.trace),(ImmA m_a_c_init m_c_c_init mc.c.init),(ArrA m_a_nodes m_c_nodes m_r_nodes),(StA mc.nodes m_r_nodes),programsA]⟩ (Z:=Unit) (fun y _=>.bool y) (fun y _=>⟨[⟨m,#[.pointer (some ⟨m_b_fab,0,none⟩),.pointer (some ⟨m_b_trace,0,none⟩),.int .i64 mc.c.nodes,.int .i64 mc.c.lines,.int .i64 mc.c.words,.int .i64 mc.c.sets,.int .i64 mc.c.ways,.int .i64 mc.c.out,.int .i64 mc.c.inn,.slice m_a_c_init mc.c.init.length m_c_c_init,.slice m_a_nodes m_r_nodes.length m_c_nodes],70⟩],[(FabA m_b_fab mc.fab),(TraceA m_b_trace mc.trace),(ImmA m_a_c_init m_c_c_init mc.c.init),(ArrA m_a_nodes m_c_nodes m_r_nodes),(StA mc.nodes m_r_nodes),programsA]⟩) y:=by
 unfold wsndS at H
 refine xfY Tryz.func18 fun W0 F=>?_
 refine bindG H fun y1_1 hy1_1 H=>?_
 refine xc [] [0] [0,0,0,0,0] (mconfF m m_b_fab m_b_trace m_a_c_init m_c_c_init m_a_nodes m_c_nodes m_r_nodes hy1_1) fun ⟨t1_1_a0,t1_1_c0⟩=>?_
 refine xn [] fun b1_2=>?_
 refine xj [0,100] (ι:=Unit) (fun _=>⟨[(0,.pointer (some ⟨m,0,none⟩)),(1,.slice programsa programs.length programsc),(5,.pointer (some ⟨b1_2,0,none⟩))],[⟨b1_2,#[.int .i64 y1_1.nodes,.int .i64 y1_1.lines,.int .i64 y1_1.words,.int .i64 y1_1.sets,.int .i64 y1_1.ways,.int .i64 y1_1.out,.int .i64 y1_1.inn,.slice t1_1_a0 y1_1.init.length t1_1_c0],25⟩,⟨m,#[.pointer (some ⟨m_b_fab,0,none⟩),.pointer (some ⟨m_b_trace,0,none⟩),.int .i64 mc.c.nodes,.int .i64 mc.c.lines,.int .i64 mc.c.words,.int .i64 mc.c.sets,.int .i64 mc.c.ways,.int .i64 mc.c.out,.int .i64 mc.c.inn,.slice m_a_c_init mc.c.init.length m_c_c_init,.slice m_a_nodes m_r_nodes.length m_c_nodes],70⟩],[(ArrA t1_1_a0 t1_1_c0 y1_1.init),(FabA m_b_fab mc.fab),(TraceA m_b_trace mc.trace),(ImmA m_a_c_init m_c_c_init mc.c.init),(ArrA m_a_nodes m_c_nodes m_r_nodes),(StA mc.nodes m_r_nodes),programsA]⟩) (fun _=>wsndS_j0 mc y1_1 programs=some y) ?_ ?_
 · rintro _ H
   replace H:wsndS_j0 mc y1_1 programs=some y:=H
   rw [wsndS_j0] at H
   refine xj [100] (ι:=Bool) (fun e1_4=>⟨[(4,.bool e1_4)],[⟨m,#[.pointer (some ⟨m_b_fab,0,none⟩),.pointer (some ⟨m_b_trace,0,none⟩),.int .i64 mc.c.nodes,.int .i64 mc.c.lines,.int .i64 mc.c.words,.int .i64 mc.c.sets,.int .i64 mc.c.ways,.int .i64 mc.c.out,.int .i64 mc.c.inn,.slice m_a_c_init mc.c.init.length m_c_c_init,.slice m_a_nodes m_r_nodes.length m_c_nodes],70⟩],[(FabA m_b_fab mc.fab),(TraceA m_b_trace mc.trace),(ImmA m_a_c_init m_c_c_init mc.c.init),(ArrA m_a_nodes m_c_nodes m_r_nodes),(StA mc.nodes m_r_nodes),programsA]⟩) (fun e1_4=>wsndS_j1 e1_4=some y) ?_ ?_
   · rintro e1_4 H
     replace H:wsndS_j1 e1_4=some y:=H
     rw [wsndS_j1] at H
     exact xrY (someE H) [] [] [0] [0,0,0,0,0,0] ()
   · intro N1 hN1
     refine xg [0,0,1,2,3,4,5,1,6] [] [2] (gh_open (TraceO m_b_trace mc.trace)) fun ⟨a_l1,c_l2⟩=>?_
     refine bindG H fun y8_6 hy8_6 H=>?_
     refine xc [] [0] [0] (trevF m_b_trace a_l1 c_l2 hy8_6) fun ⟨t8_6_a0,t8_6_c0⟩=>?_
     refine xg [7] [] [2] (gh_frz t1_1_a0 t1_1_c0 y1_1.init) fun _=>?_
     refine xg [] [] [0] (gh_dup t1_1_a0 t1_1_c0 y1_1.init) fun _=>?_
     refine bindG H fun y8_7 hy8_7 H=>?_
     refine xc [] [] [0,7,1] (alegF t1_1_a0 t1_1_c0 programsa programsc t8_6_a0 t8_6_c0 hprogramsA (rA t8_6_a0 t8_6_c0 y8_6) hy8_7) fun _=>?_
     refine xs [8,9] H ?_ ?_
     · intro H
       refine xg [1,10,1,11,1] [0] [3] (gh_shut (TraceO m_b_trace mc.trace) (a_l1,c_l2)) fun _=>?_
       refine bindG H fun y8_11 hy8_11 H=>?_
       refine xc [] [1] [4,0,3,3,3,0] (wvalF m m_b_fab m_b_trace m_a_c_init m_c_c_init m_a_nodes m_c_nodes m_r_nodes programsa programsc hprogramsA hy8_11) fun _=>?_
       exact xe [12,1,13] _ [0] [0,0,0,0,0,0] (hN1 (y8_11) H)
     · intro H
       refine xg [0,10,0,11,0,12,0,13] [0] [3] (gh_shut (TraceO m_b_trace mc.trace) (a_l1,c_l2)) fun _=>?_
       exact xe [] _ [1] [4,0,3,3,3,0] (hN1 (false) H)
 · intro N0 hN0
   refine xl [0] (ι:=Int) (fun v2_11=>⟨[(0,.pointer (some ⟨m,0,none⟩)),(1,.slice programsa programs.length programsc),(5,.pointer (some ⟨b1_2,0,none⟩)),(10,.int .i64 y1_1.lines),(11,.int .i64 v2_11)],[⟨b1_2,#[.int .i64 y1_1.nodes,.int .i64 y1_1.lines,.int .i64 y1_1.words,.int .i64 y1_1.sets,.int .i64 y1_1.ways,.int .i64 y1_1.out,.int .i64 y1_1.inn,.slice t1_1_a0 y1_1.init.length t1_1_c0],25⟩,⟨m,#[.pointer (some ⟨m_b_fab,0,none⟩),.pointer (some ⟨m_b_trace,0,none⟩),.int .i64 mc.c.nodes,.int .i64 mc.c.lines,.int .i64 mc.c.words,.int .i64 mc.c.sets,.int .i64 mc.c.ways,.int .i64 mc.c.out,.int .i64 mc.c.inn,.slice m_a_c_init mc.c.init.length m_c_c_init,.slice m_a_nodes m_r_nodes.length m_c_nodes],70⟩],[(ArrA t1_1_a0 t1_1_c0 y1_1.init),(FabA m_b_fab mc.fab),(TraceA m_b_trace mc.trace),(ImmA m_a_c_init m_c_c_init mc.c.init),(ArrA m_a_nodes m_c_nodes m_r_nodes),(StA mc.nodes m_r_nodes),programsA]⟩) (fun m2 v2_11=>wsndS_l2 y1_1 mc (wsndS_j0 mc y1_1 programs) m2 v2_11=some y) [0,0] [0,0,0,0,0,0,0] ((mc.c.lines.toNat+1)) ((0:Int)) H ?_
   rintro N2 (_ | m2) v2_11 H hN2
   · exact (noneE H).elim
   replace H:wsndS_l2 y1_1 mc (wsndS_j0 mc y1_1 programs) (m2+1) v2_11=some y:=H
   rw [wsndS_l2] at H
   refine xs [] H ?_ ?_
   · intro H
     refine bindG H fun y5_2 hy5_2 H=>?_
     refine xc [1] [1] [1,1,1,1,1] (wsinF m m_b_fab m_b_trace m_a_c_init m_c_c_init m_a_nodes m_c_nodes m_r_nodes hy5_2) fun _=>?_
     refine xs [] H ?_ ?_
     · intro H
       exact xrY (someE H) [0,0,0,0,0,0,0,0,0,0,1,1] [] [0] [0,0,0,0,0,1] ()
     · intro H
       refine bindG H fun y5_7 hy5_7 H=>?_
       refine xc [1,1,1] [0] [0,0,0,0,0] (wownF m m_b_fab m_b_trace m_a_c_init m_c_c_init m_a_nodes m_c_nodes m_r_nodes hy5_7) fun _=>?_
       refine xs [1,1] H ?_ ?_
       · intro H
         refine bindG H fun y5_12 hy5_12 H=>?_
         refine xc [1,1,1] [0] [0,0,0,0,0] (wlistF m m_b_fab m_b_trace m_a_c_init m_c_c_init m_a_nodes m_c_nodes m_r_nodes hy5_12) fun _=>?_
         refine xs [1,1,1,0] H ?_ ?_
         · intro H
           exact xrY (someE H) [1] [] [0] [0,0,0,0,0,1] ()
         · intro H
           refine chkG H fun q7_0_1 H=>?_
           refine xd [0,0] (ap q7_0_1 an) ?_
           exact xe [] _ [1,0] [5,0,0,0,0,0,0] (hN2 _ (v2_11+(1:Int)) (Nat.lt_succ_self _) H)
       · intro H
         refine chkG H fun q7_0_2 H=>?_
         refine xd [0,0,0,0,1,0,0,0,0] (ap q7_0_2 an) ?_
         exact xe [] _ [1,0] [5,0,0,0,0,0,0] (hN2 _ (v2_11+(1:Int)) (Nat.lt_succ_self _) H)
   · intro H
     exact xe [0] _ [0,0] [0,0,0,0,0,0,0] (hN0 () H)
end
section
open Go Go.RowKit
def twakesS:Option (Bool) :=
 (mnewmS (⟨(2:Int),(1:Int),(1:Int),(1:Int),(1:Int),(1:Int),(1:Int),([]:List Int)⟩:CfgS) ([[(⟨(2:Int),(0:Int),(5:Int)⟩:OpS)],[(⟨(1:Int),(0:Int),(0:Int)⟩:OpS),(⟨(1:Int),(0:Int),(0:Int)⟩:OpS)]])).bind fun y3_4=>(bif decide (y3_4.2=(0:Int)) then (optM y3_4.1 (fun n4_3_1=>(rboundS (⟨(2:Int),(1:Int),(1:Int),(1:Int),(1:Int),(1:Int),(1:Int),([]:List Int)⟩:CfgS) ([[(⟨(2:Int),(0:Int),(5:Int)⟩:OpS)],[(⟨(1:Int),(0:Int),(0:Int)⟩:OpS),(⟨(1:Int),(0:Int),(0:Int)⟩:OpS)]])).bind fun y4_12=>(rfinS n4_3_1 y4_12 ([]:List Int)).bind fun y4_13=>(bif decide ((0:Int)<y4_13.1) then (mleftS y4_13.2).bind fun y4_18=>(bif decide (y4_18=(0:Int)) then (mnodeS y4_13.2 (1:Int)).bind fun y4_23=>(optM y4_23 (fun k4_23=>(mnodeS y4_13.2 (1:Int)).bind fun y4_28=>(optM y4_28 (fun k4_28=>chk (0≤k4_28∧k4_28<(y4_13.2.nodes.length:Int)) ((prvalS ((nthS y4_13.2.nodes k4_28).proc)).bind fun y4_32=>(bif decide ((y4_32.length:Int)=(2:Int)) then (wsndS y4_13.2 ([[(⟨(2:Int),(0:Int),(5:Int)⟩:OpS)],[(⟨(1:Int),(0:Int),(0:Int)⟩:OpS),(⟨(1:Int),(0:Int),(0:Int)⟩:OpS)]])).bind fun y4_41=>some y4_41 else some false))) (none))) (some false)) else some false) else some false)) (some false)) else some false)
theorem twakesF {y:Bool} (H:twakesS=some y):FnY Tryz.prog 19 [] ⟨[],[]⟩ (Z:=Unit) (fun y _=>.bool y) (fun y _=>⟨[],[]⟩) y:=by
 unfold twakesS at H
 refine xfY Tryz.func19 fun W0 F=>?_
 refine xn [] fun b1_1=>?_
 refine xn [0] fun b2_1=>?_
 refine xn [] fun b2_4=>?_
 refine xn [2] fun b3_3=>?_
 refine xg [] [] [] (gh_nil (α:=Int) none) fun _=>?_
 refine xg [] [] [] (gh_nilI (α:=Int) none 0) fun _=>?_
 refine xg [] [2] [2] (gh_one b2_1 29 (⟨(2:Int),(0:Int),(5:Int)⟩:OpS) ()) fun _=>?_
 refine xg [] [] [0] (gh_frz (some ⟨b2_1,0,none⟩) 1 ([(⟨(2:Int),(0:Int),(5:Int)⟩:OpS)])) fun _=>?_
 refine xg [] [] [0] (gh_dup (some ⟨b2_1,0,none⟩) 1 ([(⟨(2:Int),(0:Int),(5:Int)⟩:OpS)])) fun _=>?_
 refine xg [] [1] [] (gh_own b2_4 29 2 ([(⟨(1:Int),(0:Int),(0:Int)⟩:OpS),(⟨(1:Int),(0:Int),(0:Int)⟩:OpS)]:List OpS) [(),()] (fun _ _ _ _ _ _ _=>trivial)) fun _=>?_
 refine xg [] [] [0] (gh_frz (some ⟨b2_4,0,none⟩) 2 ([(⟨(1:Int),(0:Int),(0:Int)⟩:OpS),(⟨(1:Int),(0:Int),(0:Int)⟩:OpS)])) fun _=>?_
 refine xg [] [] [0] (gh_dup (some ⟨b2_4,0,none⟩) 2 ([(⟨(1:Int),(0:Int),(0:Int)⟩:OpS),(⟨(1:Int),(0:Int),(0:Int)⟩:OpS)])) fun _=>?_
 refine xg [] [0] [2,0] (gh_rows b3_3 30 2 ([[(⟨(2:Int),(0:Int),(5:Int)⟩:OpS)],[(⟨(1:Int),(0:Int),(0:Int)⟩:OpS),(⟨(1:Int),(0:Int),(0:Int)⟩:OpS)]]:List (List OpS)) [(some ⟨b2_1,0,none⟩,1),(some ⟨b2_4,0,none⟩,2)]) fun _=>?_
 refine bindG H fun y3_4 hy3_4 H=>?_
 refine xc [] [] [3,0] (mnewmF none 0 (some ⟨b3_3,0,none⟩) 2 (rA (some ⟨b3_3,0,none⟩) 2 ([[(⟨(2:Int),(0:Int),(5:Int)⟩:OpS)],[(⟨(1:Int),(0:Int),(0:Int)⟩:OpS),(⟨(1:Int),(0:Int),(0:Int)⟩:OpS)]])) hy3_4) fun t3_4_b0=>?_
 refine xs [] H ?_ ?_
 · intro H
   refine optG H (fun hn4_3_1 H=>?_) fun n4_3_1 hn4_3_1 H=>?_
   · refine xw [1,300] 4 (optV_n t3_4_b0 hn4_3_1) ?_
     refine xw [300] 23 (optV_n t3_4_b0 hn4_3_1) ?_
     exact xrY (someE H) [1,1,0,0,0,0,0,0,0,0,0,0,0,0,0,0,0,0,0,0,0,0,0,0,0,0,0,0,0,0,0,0,0,0] [] [] [] ()
   · refine xw [1,300] 4 (optV_s t3_4_b0 hn4_3_1) ?_
     refine xw [300] 23 (optV_s t3_4_b0 hn4_3_1) ?_
     refine xg [300] [] [0] (gh_opt (A:=MachA t3_4_b0) hn4_3_1) fun _=>?_
     refine xn [1,1,1,1,0,1,1,1] fun b4_11=>?_
     refine xg [1] [] [3] (gh_dup (some ⟨b2_1,0,none⟩) 1 ([(⟨(2:Int),(0:Int),(5:Int)⟩:OpS)])) fun _=>?_
     refine xg [] [] [4] (gh_dup (some ⟨b2_4,0,none⟩) 2 ([(⟨(1:Int),(0:Int),(0:Int)⟩:OpS),(⟨(1:Int),(0:Int),(0:Int)⟩:OpS)])) fun _=>?_
     refine xg [] [0] [2,0] (gh_rows b4_11 30 2 ([[(⟨(2:Int),(0:Int),(5:Int)⟩:OpS)],[(⟨(1:Int),(0:Int),(0:Int)⟩:OpS),(⟨(1:Int),(0:Int),(0:Int)⟩:OpS)]]:List (List OpS)) [(some ⟨b2_1,0,none⟩,1),(some ⟨b2_4,0,none⟩,2)]) fun _=>?_
     refine bindG H fun y4_12 hy4_12 H=>?_
     refine xc [] [] [0] (rboundF none 0 (some ⟨b4_11,0,none⟩) 2 (rA (some ⟨b4_11,0,none⟩) 2 ([[(⟨(2:Int),(0:Int),(5:Int)⟩:OpS)],[(⟨(1:Int),(0:Int),(0:Int)⟩:OpS),(⟨(1:Int),(0:Int),(0:Int)⟩:OpS)]])) hy4_12) fun _=>?_
     refine xg [1] [] [] (gh_nil (α:=Int) none) fun _=>?_
     refine bindG H fun y4_13 hy4_13 H=>?_
     refine xc [] [] [4,0] (rfinF t3_4_b0 none 0 (rA none 0 ([]:List Int)) hy4_13) fun _=>?_
     refine xs [1,1] H ?_ ?_
     · intro H
       refine xg [1,1] [] [0] (gh_open (MachO t3_4_b0 y4_13.2)) fun ⟨b_fab2,b_trace3,a_c_init4,c_c_init5,a_nodes6,c_nodes7,r_nodes8⟩=>?_
       refine bindG H fun y4_18 hy4_18 H=>?_
       refine xc [1] [0] [0,0,0,0,0] (mleftF t3_4_b0 b_fab2 b_trace3 a_c_init4 c_c_init5 a_nodes6 c_nodes7 r_nodes8 hy4_18) fun _=>?_
       refine xs [1,1] H ?_ ?_
       · intro H
         refine bindG H fun y4_23 hy4_23 H=>?_
         refine xc [1,1] [0] [0,0,0,0,0] (mnodeF t3_4_b0 b_fab2 b_trace3 a_c_init4 c_c_init5 a_nodes6 c_nodes7 r_nodes8 hy4_23) fun _=>?_
         refine optG H (fun hk4_23 H=>?_) fun k4_23 hk4_23 H=>?_
         · refine xw [300] 43 (v:=(nodeV r_nodes8 y4_23)) (v':=.pointer none) (by rw [hk4_23]; rfl) ?_
           exact xrY (someE H) [1,1,0,0,0,0,0,0,0,0,0,0,0,0,0,0,0] [] [] [] ()
         · refine xw [300] 43 (v:=(nodeV r_nodes8 y4_23)) (v':=.pointer (some ⟨(nthT r_nodes8 k4_23).b,0,none⟩)) (by rw [hk4_23]; rfl) ?_
           refine bindG H fun y4_28 hy4_28 H=>?_
           refine xc [1,1,1,1] [0] [0,0,0,0,0] (mnodeF t3_4_b0 b_fab2 b_trace3 a_c_init4 c_c_init5 a_nodes6 c_nodes7 r_nodes8 hy4_28) fun _=>?_
           refine optG H (fun hk4_28 H=>?_) fun k4_28 hk4_28 H=>?_
           · refine xw [300] 48 (v:=(nodeV r_nodes8 y4_28)) (v':=.pointer none) (by rw [hk4_28]; rfl) ?_
             exact (noneE H).elim
           · refine xw [300] 48 (v:=(nodeV r_nodes8 y4_28)) (v':=.pointer (some ⟨(nthT r_nodes8 k4_28).b,0,none⟩)) (by rw [hk4_28]; rfl) ?_
             refine xk [1,1,1] [4] (st_len y4_13.2.nodes r_nodes8) fun hl4_31_1=>?_
             refine chkG H fun q4_31_1 H=>?_
             refine xg [] [] [4] (gh_sfoc y4_13.2.nodes r_nodes8 k4_28 (nthT r_nodes8 k4_28) rfl (rngB hl4_31_1 (rngE hl4_31_1 q4_31_1))) fun _=>?_
             refine xg [1] [] [0] (gh_open (NodeO (nthT r_nodes8 k4_28).b (nthS y4_13.2.nodes k4_28))) fun ⟨b_cache9,b_proc10,a_c_init11,c_c_init12,b_home13,a_deal_data14,c_deal_data15⟩=>?_
             refine xg [1,0,1] [] [1] (gh_open (ProcO b_proc10 ((nthS y4_13.2.nodes k4_28).proc))) fun ⟨a_ops16,c_ops17,a_values18,c_values19⟩=>?_
             refine bindG H fun y4_32 hy4_32 H=>?_
             refine xc [1] [0] [0,0] (prvalF b_proc10 a_ops16 c_ops17 a_values18 c_values19 hy4_32) fun ⟨t4_32_a0,t4_32_c0⟩=>?_
             refine xs [1,1,1] H ?_ ?_
             · intro H
               refine xn [1,1,1,1] fun b4_40=>?_
               refine xg [1] [1] [1,1] (gh_shut (ProcO b_proc10 ((nthS y4_13.2.nodes k4_28).proc)) (a_ops16,c_ops17,a_values18,c_values19)) fun _=>?_
               refine xg [] [1] [2,0,1,1,1] (gh_shut (NodeO (nthT r_nodes8 k4_28).b (nthS y4_13.2.nodes k4_28)) (b_cache9,b_proc10,a_c_init11,c_c_init12,b_home13,a_deal_data14,c_deal_data15)) fun _=>?_
               refine xg [] [] [0,1] (gh_sunfs y4_13.2.nodes r_nodes8 k4_28 (nthT r_nodes8 k4_28) rfl (rngB hl4_31_1 (rngE hl4_31_1 q4_31_1))) fun _=>?_
               refine xg [] [] [9] (gh_dup (some ⟨b2_1,0,none⟩) 1 ([(⟨(2:Int),(0:Int),(5:Int)⟩:OpS)])) fun _=>?_
               refine xg [] [] [10] (gh_dup (some ⟨b2_4,0,none⟩) 2 ([(⟨(1:Int),(0:Int),(0:Int)⟩:OpS),(⟨(1:Int),(0:Int),(0:Int)⟩:OpS)])) fun _=>?_
               refine xg [] [0] [2,0] (gh_rows b4_40 30 2 ([[(⟨(2:Int),(0:Int),(5:Int)⟩:OpS)],[(⟨(1:Int),(0:Int),(0:Int)⟩:OpS),(⟨(1:Int),(0:Int),(0:Int)⟩:OpS)]]:List (List OpS)) [(some ⟨b2_1,0,none⟩,1),(some ⟨b2_4,0,none⟩,2)]) fun _=>?_
               refine bindG H fun y4_41 hy4_41 H=>?_
               refine xc [] [0] [5,5,5,5,3,0] (wsndF t3_4_b0 b_fab2 b_trace3 a_c_init4 c_c_init5 a_nodes6 c_nodes7 r_nodes8 (some ⟨b4_40,0,none⟩) 2 (rA (some ⟨b4_40,0,none⟩) 2 ([[(⟨(2:Int),(0:Int),(5:Int)⟩:OpS)],[(⟨(1:Int),(0:Int),(0:Int)⟩:OpS),(⟨(1:Int),(0:Int),(0:Int)⟩:OpS)]])) hy4_41) fun _=>?_
               exact xrY (someE H) [1] [] [] [] ()
             · intro H
               refine xg [0,0,0,0,0,0] [0] [1,1] (gh_shut (ProcO b_proc10 ((nthS y4_13.2.nodes k4_28).proc)) (a_ops16,c_ops17,a_values18,c_values19)) fun _=>?_
               refine xg [] [0] [2,0,1,1,1] (gh_shut (NodeO (nthT r_nodes8 k4_28).b (nthS y4_13.2.nodes k4_28)) (b_cache9,b_proc10,a_c_init11,c_c_init12,b_home13,a_deal_data14,c_deal_data15)) fun _=>?_
               refine xg [] [] [0,1] (gh_sunfs y4_13.2.nodes r_nodes8 k4_28 (nthT r_nodes8 k4_28) rfl (rngB hl4_31_1 (rngE hl4_31_1 q4_31_1))) fun _=>?_
               exact xrY (someE H) [] [] [] [] ()
       · intro H
         exact xrY (someE H) [0,0,0,0,0,0,0,0,0,0,0,0,0,0,0,0,0,0,0] [] [] [] ()
     · intro H
       exact xrY (someE H) [0,0,0,0,0,0,0,0,0,0,0,0,0,0,0,0,0,0,0,0,0,0,0] [] [] [] ()
 · intro H
   exact xrY (someE H) [0,0,0,0,0,0,0,0,0,0,0,0,0,0,0,0,0,0,0,0,0,0,0,0,0,0,0,0,0,0,0,0,0,0,0] [] [] [] ()
end
section
open Go
def ent0:Ent:=⟨0,0,0,0,false,[]⟩
def ix (L:Int):List Ent→Option Nat
 |[]=>none
 |e::r=>if e.line=L then some 0 else (ix L r).map (·+1)
def cf:List Ent→Int→Option Ent
 |[],_=>none
 |e::r,L=>if e.line=L then some e else cf r L
def rep:List Ent→Ent→List Ent
 |[],_=>[]
 |e::r,x=>if e.line=x.line then x::r else e::rep r x
def era:List Ent→Int→List Ent
 |[],_=>[]
 |e::r,L=>if e.line=L then r else e::era r L
theorem ix_some {L:Int}:∀ {l:List Ent} {i:Nat},ix L l=some i→i<l.length∧∃ e,l[i]?=some e∧e.line=L∧cf l L=some e∧(∀ x:Ent,x.line=L→l.set i x=rep l x)∧l.take i++l.drop (i+1)=era l L
 |[],_,h=>by cases h
 |e::r,i,h=>by
  unfold ix at h
  by_cases he:e.line=L
  · rw [if_pos he] at h
    obtain rfl:=Option.some.inj h
    exact ⟨by simp,e,rfl,he,by simp [cf,he],fun x hx=>by simp [rep,he,hx],by simp [era,he]⟩
  · rw [if_neg he] at h
    cases hr:ix L r with
    |none=>rw [hr] at h; cases h
    |some j =>
     rw [hr] at h
     obtain rfl:=Option.some.inj h
     obtain ⟨h1,x,h2,h3,h4,h5,h6⟩:=ix_some hr
     exact ⟨by simp; omega,x,by simpa using h2,h3,by simp [cf,he,h4],fun y hy=>by simp [rep,hy,he,h5 y hy],by simp [era,he,h6]⟩
theorem ix_none {L:Int}:∀ {l:List Ent},ix L l=none→cf l L=none
 |[],_=>rfl
 |e::r,h=>by
  unfold ix at h
  by_cases he:e.line=L
  · rw [if_pos he] at h; cases h
  · rw [if_neg he] at h
    cases hr:ix L r with
    |none=>simp [cf,he,ix_none hr]
    |some j=>rw [hr] at h; cases h
theorem nthT_at {α:Type} [Rw α] {l:List α} {i:Nat} {e:α} (h:l[i]?=some e):nthT l (i:Int)=e:=by
 unfold nthT
 rw [Int.toNat_natCast,List.getD_eq_getElem?_getD,h]
 rfl
theorem idx_l1 (s:List Ent) (L:Int) (hs:s.length≤1099511627776):∀ (rest pre:List Ent) (m:Nat),s=pre++rest→rest.length<m→cidxS_l1 s L cidxS_j0 m (pre.length:Int)=some (match ix L rest with | some j=>(((pre.length+j:Nat)):Int) | none=>-1)
 |_,_,0,_,h=>by omega
 |[],pre,m+1,h,_=>by
  have:s.length=pre.length:=by rw [h]; simp
  rw [cidxS_l1,this,decide_eq_false (by omega),cond_false]
  rfl
 |e::r,pre,m+1,h,hm=>by
  have hl:s.length=pre.length+(r.length+1):=by rw [h]; simp
  have hg:s[pre.length]?=some e:=by rw [h]; simp
  have ih:=idx_l1 s L hs r (pre++[e]) m (by rw [h]; simp) (by simp at hm; omega)
  rw [cidxS_l1,decide_eq_true (by omega),cond_true,chk_true (by omega)]
  dsimp only [letP,cat1S]
  rw [nthT_at hg,Option.bind_some]
  by_cases he:e.line=L
  · rw [decide_eq_true he,cond_true]
    simp [ix,he]
  · rw [decide_eq_false he,cond_false,chk_true (by unfold inR; omega)]
    rw [show (((pre++[e]).length:Nat):Int)=(pre.length:Int)+1 by simp] at ih
    rw [ih]
    cases hx:ix L r with
    |none=>simp [ix,he,hx]
    |some j=>simp only [ix,he,hx,if_false,Option.map_some,List.length_append,List.length_cons,List.length_nil]; congr 2; omega
theorem cat_eq {c:CacheS} {L:Int} (hs:c.l.length≤1099511627776):catS c L=some (match ix L c.l with | some j=>(j:Int) | none=>-1):=by
 unfold catS cidxS
 have h:=idx_l1 c.l L hs c.l [] (c.l.length+1) rfl (by omega)
 simp only [List.length_nil,Nat.zero_add] at h
 show (cidxS_l1 c.l L cidxS_j0 (c.l.length+1) 0).bind _=_
 rw [show (0:Int)=((0:Nat):Int) from rfl,h]
 rfl
def Shrt (c:CacheS):Prop:=c.l.length≤1099511627776∧∀ e∈c.l,e.data.length≤1099511627776
theorem clone_eq {e:Ent} (h:e.data.length≤1099511627776):ecloneS e=some e:=by
 unfold ecloneS cloneS
 rw [chk_true h]
 rfl
theorem cf_mem {L:Int} {e:Ent}:∀ {l:List Ent},cf l L=some e→e∈l∧e.line=L
 |[],h=>by cases h
 |x::r,h=>by
  unfold cf at h
  by_cases hx:x.line=L
  · rw [if_pos hx] at h; obtain rfl:=Option.some.inj h; exact ⟨by simp,hx⟩
  · rw [if_neg hx] at h; have:=cf_mem h; exact ⟨by simp [this.1],this.2⟩
theorem cfind_eq {c:CacheS} (h:Shrt c) (L:Int):cfindS c L=some (match cf c.l L with | some e=>(e,true) | none=>(ent0,false)):=by
 unfold cfindS
 rw [cat_eq h.1,Option.bind_some]
 cases hx:ix L c.l with
 |none=>rw [ix_none hx]; rfl
 |some j =>
  obtain ⟨h1,e,h2,h3,h4,-⟩:=ix_some hx
  rw [h4]
  simp only
  rw [decide_eq_false (by omega),cond_false,chk_true (by omega)]
  dsimp only [letP]
  rw [nthT_at h2,clone_eq (h.2 e (cf_mem h4).1)]
  rfl
def cnt (c:CacheS) (L:Int):Nat:=(c.l.filter fun e=>decide (e.line.tmod c.sets=L.tmod c.sets)).length
theorem set_l1 (c:CacheS) (L:Int) (hs:c.l.length≤1099511627776) (h0:0≤L) (h1:1≤c.sets):∀ (rest pre:List Ent) (m:Nat) (acc:List Ent),c.l=pre++rest→rest.length<m→acc.length≤pre.length →
 csetS_l1 c L csetS_j0 m acc (pre.length:Int)=some (acc++rest.filter fun e=>decide (e.line.tmod c.sets=L.tmod c.sets))
 |_,_,0,_,_,h,_=>by omega
 |[],pre,m+1,acc,h,_,_=>by
  have:c.l.length=pre.length:=by rw [h]; simp
  rw [csetS_l1,this,decide_eq_false (by omega),cond_false]
  simp [csetS_j0]
 |e::r,pre,m+1,acc,h,hm,ha=>by
  have hl:c.l.length=pre.length+(r.length+1):=by rw [h]; simp
  have hg:c.l[pre.length]?=some e:=by rw [h]; simp
  rw [csetS_l1,decide_eq_true (by omega),cond_true,chk_true (by omega)]
  dsimp only [letP]
  rw [nthT_at hg,decide_eq_true h0,cond_true,chk_true h1,chk_true h1]
  unfold csetS_j2
  have e1:(((pre++[e]).length:Nat):Int)=(pre.length:Int)+1:=by simp
  by_cases he:e.line.tmod c.sets=L.tmod c.sets
  · have ih:=set_l1 c L hs h0 h1 r (pre++[e]) m (acc++[e]) (by rw [h]; simp) (by simp at hm; omega) (by simp; omega)
    rw [e1] at ih
    rw [decide_eq_true he,cond_true,chk_true (by simp; omega)]
    dsimp only [letP]
    rw [chk_true (by unfold inR; omega),ih]
    simp [he]
  · have ih:=set_l1 c L hs h0 h1 r (pre++[e]) m acc (by rw [h]; simp) (by simp at hm; omega) (by simp; omega)
    rw [e1] at ih
    rw [decide_eq_false he,cond_false,chk_true (by unfold inR; omega),ih]
    simp [he]
theorem cset_eq {c:CacheS} {L:Int} (hs:c.l.length≤1099511627776) (h0:0≤L) (h1:1≤c.sets):csetS c L=some (c.l.filter fun e=>decide (e.line.tmod c.sets=L.tmod c.sets)):=by
 have h:=set_l1 c L hs h0 h1 c.l [] (c.l.length+1) [] rfl (by omega) (by simp)
 simpa [csetS] using h
theorem cfull_eq {c:CacheS} {L:Int} (hs:c.l.length≤1099511627776) (h0:0≤L) (h1:1≤c.sets):cfullS c L=some (match cf c.l L with | some _=>false | none=>decide (c.ways≤((cnt c L:Nat):Int))):=by
 unfold cfullS
 rw [cat_eq hs,Option.bind_some]
 cases hx:ix L c.l with
 |none=>rw [ix_none hx,cset_eq hs h0 h1]; rfl
 |some j =>
  obtain ⟨-,e,-,-,h4,-⟩:=ix_some hx
  rw [h4]
  simp only
  rw [decide_eq_false (by omega)]
  rfl
theorem setT_at {α:Type} [Rw α] (l:List α) (i:Nat) (e:α):setT l (i:Int) e=l.set i e:=by
 unfold setT; rw [Int.toNat_natCast]
theorem cput_there {c:CacheS} {e o:Ent} (h:Shrt c) (he:e.data.length≤1099511627776) (h0:0≤e.line) (ho:cf c.l e.line=some o):cputS c e=some (0,{ c with l:=rep c.l { e with used:=o.used } }):=by
 unfold cputS
 rw [clone_eq he,Option.bind_some,decide_eq_false (by omega),cond_false,cat_eq h.1,Option.bind_some]
 cases hx:ix e.line c.l with
 |none=>rw [ix_none hx] at ho; cases ho
 |some j =>
  obtain ⟨h1,x,h2,h3,h4,h5,-⟩:=ix_some hx
  rw [h4] at ho
  obtain rfl:=Option.some.inj ho
  simp only
  rw [decide_eq_true (by omega),cond_true,chk_true (by omega),chk_true (by omega)]
  dsimp only [letP]
  rw [nthT_at h2,setT_at,h5 ⟨e.fwd,e.back,e.line,x.used,e.dirty,e.data⟩ rfl]
theorem cput_new {c:CacheS} {e:Ent} (h:Shrt c) (he:e.data.length≤1099511627776) (h0:0≤e.line) (h1:1≤c.sets) (ho:cf c.l e.line=none) (hf:((cnt c e.line:Nat):Int)<c.ways) (hl:c.l.length+1≤1099511627776) :
 cputS c e=some (0,{ c with l:=c.l++[{ e with used:=wr (c.clock+1) }],clock:=wr (c.clock+1) }):=by
 unfold cputS
 rw [clone_eq he,Option.bind_some,decide_eq_false (by omega),cond_false,cat_eq h.1,Option.bind_some]
 cases hx:ix e.line c.l with
 |some j=>obtain ⟨-,x,-,-,h4,-⟩:=ix_some hx; rw [h4] at ho; cases ho
 |none =>
  simp only
  rw [decide_eq_false (by omega),cond_false,cfull_eq h.1 h0 h1,ho,Option.bind_some,decide_eq_false (by omega),cond_false,chk_true (by simp; omega)]
  rfl
theorem cdrop_there {c:CacheS} {L:Int} {o:Ent} (h:Shrt c) (ho:cf c.l L=some o) (hl:c.l.length≤1099511627776):cdropS c L=some (o,true,{ c with l:=era c.l L }):=by
 unfold cdropS
 rw [cfind_eq h,ho,Option.bind_some,cond_true,cat_eq h.1,Option.bind_some]
 cases hx:ix L c.l with
 |none=>rw [ix_none hx] at ho; cases ho
 |some j =>
  obtain ⟨h1,x,h2,h3,h4,h5,h6⟩:=ix_some hx
  simp only
  unfold delES
  rw [wr_in (by omega) (by omega),chk_true (by omega),decide_eq_false (by omega),cond_false,Option.bind_some]
  rw [Int.toNat_natCast,show ((j:Int)+1).toNat=j+1 by omega,h6]
theorem ctouch_there {c:CacheS} {L:Int} {o:Ent} (h:Shrt c) (ho:cf c.l L=some o):ctouchS c L=some (true,{ c with l:=rep c.l { o with used:=wr (c.clock+1) },clock:=wr (c.clock+1) }):=by
 unfold ctouchS
 rw [cat_eq h.1,Option.bind_some]
 cases hx:ix L c.l with
 |none=>rw [ix_none hx] at ho; cases ho
 |some j =>
  obtain ⟨h1,x,h2,h3,h4,h5,-⟩:=ix_some hx
  rw [h4] at ho
  obtain rfl:=Option.some.inj ho
  simp only
  rw [decide_eq_false (by omega),cond_false,chk_true (by omega)]
  dsimp only [letP]
  rw [nthT_at h2,setT_at,h5 _ (by simpa using h3)]
theorem min_l1 (s:List Ent) (hs:s.length≤1099511627776):∀ (rest pre:List Ent) (m:Nat) (e:Ent),s=pre++rest→rest.length<m→e∈s →
 ∃ x∈s,cminS_l1 s cminS_j0 m (pre.length:Int) e.fwd e.back e.line e.used e.dirty e.data=some x
 |_,_,0,_,_,h,_=>by omega
 |[],pre,m+1,e,h,_,he=>by
  have:s.length=pre.length:=by rw [h]; simp
  rw [cminS_l1,this,decide_eq_false (by omega),cond_false]
  exact ⟨e,he,rfl⟩
 |y::r,pre,m+1,e,h,hm,he=>by
  have hl:s.length=pre.length+(r.length+1):=by rw [h]; simp
  have hg:s[pre.length]?=some y:=by rw [h]; simp
  rw [cminS_l1,decide_eq_true (by omega),cond_true,chk_true (by omega)]
  dsimp only [letP,cvic1S]
  rw [nthT_at hg,Option.bind_some]
  have e1:(((pre++[y]).length:Nat):Int)=(pre.length:Int)+1:=by simp
  have ih:=fun x hx=>min_l1 s hs r (pre++[y]) m x (by rw [h]; simp) (by simp at hm; omega) hx
  rw [e1] at ih
  cases hd:decide (wr (y.used - e.used)<0) with
  |true =>
   rw [cond_true,chk_true (by omega),chk_true (by unfold inR; omega)]
   exact ih y (by rw [h]; simp)
  |false =>
   rw [cond_false,chk_true (by unfold inR; omega)]
   exact ih e he
theorem cvic_eq {c:CacheS} {L:Int} (hs:c.l.length≤1099511627776) (h0:0≤L) (h1:1≤c.sets) (hp:0<cnt c L):∃ v∈c.l,v.line.tmod c.sets=L.tmod c.sets∧cvicS c L=some (v.line,true):=by
 unfold cvicS
 rw [cset_eq hs h0 h1,Option.bind_some]
 have hp':0<(c.l.filter fun e=>decide (e.line.tmod c.sets=L.tmod c.sets)).length:=hp
 have hle:=List.length_filter_le (fun e:Ent=>decide (e.line.tmod c.sets=L.tmod c.sets)) c.l
 have hm:∀ x∈c.l.filter (fun e=>decide (e.line.tmod c.sets=L.tmod c.sets)),x∈c.l∧x.line.tmod c.sets=L.tmod c.sets:=fun x hx=>by simpa using List.mem_filter.1 hx
 generalize c.l.filter (fun e=>decide (e.line.tmod c.sets=L.tmod c.sets))=s at hp' hle hm
 rw [decide_eq_false (by omega),cond_false]
 unfold cminS
 rw [decide_eq_false (by omega),cond_false,chk_true (by omega)]
 cases s with
 |nil=>simp at hp'
 |cons e r =>
  dsimp only [letP]
  have hg:nthT (e::r) 0=e:=nthT_at (i:=0) rfl
  rw [hg]
  obtain ⟨x,hx,hq⟩:=min_l1 (e::r) (by omega) r [e] ((e::r).length+1) e rfl (by simp; omega) (by simp)
  have hq':cminS_l1 (e::r) cminS_j0 ((e::r).length+1) 1 e.fwd e.back e.line e.used e.dirty e.data=some x:=hq
  rw [hq',Option.bind_some]
  exact ⟨x,(hm x hx).1,(hm x hx).2,rfl⟩
theorem cf_rep {x:Ent} {L:Int}:∀ {l:List Ent},cf (rep l x) L=if L=x.line then (cf l L).map fun _=>x else cf l L
 |[]=>by simp [rep,cf]
 |e::r=>by
  have ih:=cf_rep (x:=x) (L:=L) (l:=r)
  unfold rep
  by_cases h1:e.line=x.line
  · rw [if_pos h1]
    by_cases h2:L=x.line
    · simp [cf,h2,h1]
    · have:¬ x.line=L:=fun h=>h2 h.symm
      simp [cf,h2,h1,this]
  · rw [if_neg h1]
    by_cases h2:e.line=L
    · have:¬ L=x.line:=fun h=>h1 (h2.trans h)
      simp [cf,h2,this]
    · simp [cf,h2,ih]
theorem cf_app {x:Ent} {L:Int}:∀ {l:List Ent},cf l x.line=none→cf (l++[x]) L=if L=x.line then some x else cf l L
 |[],_=>by simp [cf,eq_comm]
 |e::r,h=>by
  unfold cf at h
  by_cases h1:e.line=x.line
  · rw [if_pos h1] at h; cases h
  · rw [if_neg h1] at h
    have ih:=cf_app (L:=L) h
    by_cases h2:e.line=L
    · have:¬ L=x.line:=fun h=>h1 (h2.trans h)
      simp [cf,h2,this]
    · simp [cf,h2,ih]
theorem cf_not {L:Int}:∀ {l:List Ent},cf l L=none↔L∉l.map Ent.line
 |[]=>by simp [cf]
 |e::r=>by
  unfold cf
  by_cases h:e.line=L
  · simp [h]
  · have:¬ L=e.line:=fun x=>h x.symm
    simp [h,this,cf_not (l:=r)]
theorem cf_era {L L':Int}:∀ {l:List Ent},(l.map Ent.line).Nodup→cf (era l L) L'=if L'=L then none else cf l L'
 |[],_=>by simp [era,cf]
 |e::r,h=>by
  rw [List.map_cons,List.nodup_cons] at h
  have ih:=cf_era (L:=L) (L':=L') h.2
  unfold era
  by_cases h1:e.line=L
  · rw [if_pos h1]
    by_cases h2:L'=L
    · subst h2; simp; exact cf_not.2 (h1▸h.1)
    · have:¬ e.line=L':=fun x=>h2 (x.symm.trans h1)
      simp [cf,h2,this]
  · rw [if_neg h1]
    by_cases h2:e.line=L'
    · have:¬ L'=L:=fun x=>h1 (h2.trans x)
      simp [cf,h2,this]
    · simp [cf,h2,ih]
theorem rep_lines {x:Ent}:∀ {l:List Ent},(rep l x).map Ent.line=l.map Ent.line
 |[]=>rfl
 |e::r=>by
  unfold rep
  by_cases h:e.line=x.line
  · simp [h]
  · simp [h,rep_lines (l:=r)]
theorem rep_mem {x y:Ent}:∀ {l:List Ent},y∈rep l x→y=x∨y∈l
 |[],h=>by simp [rep] at h
 |e::r,h=>by
  unfold rep at h
  by_cases he:e.line=x.line
  · rw [if_pos he] at h
    rcases List.mem_cons.1 h with h | h
    · exact .inl h
    · exact .inr (by simp [h])
  · rw [if_neg he] at h
    rcases List.mem_cons.1 h with h | h
    · exact .inr (by simp [h])
    · rcases rep_mem h with h | h
      · exact .inl h
      · exact .inr (by simp [h])
theorem era_sub {L:Int}:∀ {l:List Ent},(era l L).Sublist l
 |[]=>.slnil
 |e::r=>by
  unfold era
  by_cases he:e.line=L
  · rw [if_pos he]; exact .cons _ (List.Sublist.refl _)
  · rw [if_neg he]; exact .cons_cons _ era_sub
theorem cf_some {L:Int}:∀ {l:List Ent} {e:Ent},e∈l→e.line=L→∃ x,cf l L=some x
 |x::r,e,h,hL=>by
  unfold cf
  by_cases h1:x.line=L
  · exact ⟨x,if_pos h1⟩
  · rw [if_neg h1]
    rcases List.mem_cons.1 h with rfl | h
    · exact absurd hL h1
    · exact cf_some h hL
end
section
open Go
section maps
variable {α:Type}
theorem mget_none {l:List (Int×α)} {k:Int}:mget l k=none↔k∉l.map Prod.fst:=by
 induction l with
 |nil=>simp [mget]
 |cons p r ih =>
  unfold mget
  by_cases h:k=p.1
  · simp [h]
  · rw [if_neg h,ih]; simp [h]
theorem mget_mdel {l:List (Int×α)} {k k':Int} (h:(l.map Prod.fst).Nodup):mget (mdel l k) k'=if k'=k then none else mget l k':=by
 induction l with
 |nil=>simp [mdel,mget]
 |cons p r ih =>
  rw [List.map_cons,List.nodup_cons] at h
  unfold mdel
  by_cases h1:k=p.1
  · rw [if_pos h1]
    by_cases h2:k'=k
    · rw [if_pos h2]; exact mget_none.2 (by rw [h2,h1]; exact h.1)
    · have:¬ k'=p.1:=fun x=>h2 (x.trans h1.symm)
      simp [mget,h2,this]
  · rw [if_neg h1]
    by_cases h2:k'=p.1
    · have:¬ k'=k:=fun x=>h1 (x.symm.trans h2)
      simp [mget,h2,this]
      intro x; exact absurd x.symm h1
    · simp [mget,h2,ih h.2]
theorem mset_keys {l:List (Int×α)} {k:Int} {v:α}:(mset l k v).map Prod.fst=if k∈l.map Prod.fst then l.map Prod.fst else l.map Prod.fst++[k]:=by
 induction l with
 |nil=>simp [mset]
 |cons p r ih =>
  unfold mset
  by_cases h:k=p.1
  · simp [h]
  · rw [if_neg h,List.map_cons,ih,List.map_cons]
    by_cases h2:k∈r.map Prod.fst
    · simp [h2]
    · simp only [List.mem_cons,h,h2,or_self,if_false,List.cons_append]
theorem mset_nodup {l:List (Int×α)} {k:Int} {v:α} (h:(l.map Prod.fst).Nodup):((mset l k v).map Prod.fst).Nodup:=by
 rw [mset_keys]
 by_cases h2:k∈l.map Prod.fst
 · rw [if_pos h2]; exact h
 · rw [if_neg h2,List.nodup_append]
   exact ⟨h,by simp,fun a ha b hb=>by simp at hb; subst hb; intro e; exact h2 (e▸ha)⟩
theorem mdel_sub {l:List (Int×α)} {k:Int}:(mdel l k).Sublist l:=by
 induction l with
 |nil=>exact .slnil
 |cons p r ih =>
  unfold mdel
  by_cases h:k=p.1
  · rw [if_pos h]; exact .cons _ (List.Sublist.refl _)
  · rw [if_neg h]; exact .cons_cons _ ih
theorem mdel_nodup {l:List (Int×α)} {k:Int} (h:(l.map Prod.fst).Nodup):((mdel l k).map Prod.fst).Nodup:=(mdel_sub.map Prod.fst).nodup h
theorem mset_mem {l:List (Int×α)} {k k':Int} {v:α} (h:k'∈(mset l k v).map Prod.fst):k'=k∨k'∈l.map Prod.fst:=by
 rw [mset_keys] at h
 by_cases h2:k∈l.map Prod.fst
 · rw [if_pos h2] at h; exact .inr h
 · rw [if_neg h2] at h; simpa [or_comm] using h
end maps
theorem wget_mset {α:Type} (l:List (Int×List α)) (k k':Int) (v:List α):wget (mset l k v) k'=if k'=k then v else wget l k':=by
 unfold wget
 rw [mget_mset]
 by_cases h:k'=k <;> simp [h]
theorem nodup_len:∀ (N:Nat) (l:List Int),l.Nodup→(∀ x∈l,0≤x∧x<(N:Int))→l.length≤N
 |0,l,_,h=>by
  cases l with
  |nil=>simp
  |cons x r=>have:=h x (by simp); omega
 |N+1,l,hn,h=>by
  have ih:=nodup_len N (l.erase (N:Int)) (hn.erase _) fun x hx=>by
   have h1:=(List.Nodup.mem_erase_iff hn).1 hx
   have h2:=h x h1.2
   have h3:=h1.1
   omega
  have h2:=List.length_erase (a:=(N:Int)) (l:=l)
  by_cases hm:(N:Int)∈l
  · rw [if_pos hm] at h2; omega
  · rw [if_neg hm] at h2; omega
structure TOk (t:TurnsS):Prop where
 ow:(t.owners.map Prod.fst).Nodup
 wt:(t.wait.map Prod.fst).Nodup
 rg:∀ L∈t.wait.map Prod.fst,0≤L∧L<8
theorem TOk.len {t:TurnsS} (h:TOk t):t.wait.length≤8:=by
 have:=nodup_len 8 _ h.wt (fun x hx=>by have:=h.rg x hx; omega)
 simpa using this
theorem TOk.keys {t:TurnsS} (h:TOk t):KeysOk t.wait:=by
 refine ⟨by have:=h.len; omega,h.wt,fun p hp=>?_⟩
 have:=h.rg p.1 (List.mem_map_of_mem hp)
 unfold inR
 omega
def isw (t:TurnsS) (L:Int):Bool:=!(mget t.owners L).isSome && decide (0<(wget t.wait L).length)
def rdy (t:TurnsS):List Int:=(isrt (t.wait.map Prod.fst)).filter (isw t)
theorem nth_at {l:List Int} {i:Nat} {e:Int} (h:l[i]?=some e):nth l (i:Int)=e:=by
 unfold nth
 rw [Int.toNat_natCast,List.getD_eq_getElem?_getD,h]
 rfl
theorem ready_l1 (t:TurnsS) (y:List Int) (hy:y.length≤64):∀ (rest pre:List Int) (m:Nat) (acc:List Int),y=pre++rest→rest.length<m→acc.length≤pre.length →
 treadyS_l1 y t treadyS_j0 m acc (pre.length:Int)=some (acc++rest.filter (isw t))
 |_,_,0,_,_,h,_=>by omega
 |[],pre,m+1,acc,h,_,_=>by
  have:y.length=pre.length:=by rw [h]; simp
  rw [treadyS_l1,this,decide_eq_false (by omega),cond_false]
  simp [treadyS_j0]
 |e::r,pre,m+1,acc,h,hm,ha=>by
  have hl:y.length=pre.length+(r.length+1):=by rw [h]; simp
  have hg:y[pre.length]?=some e:=by rw [h]; simp
  have e1:(((pre++[e]).length:Nat):Int)=(pre.length:Int)+1:=by simp
  have ih:=fun acc ha=>ready_l1 t y hy r (pre++[e]) m acc (by rw [h]; simp) (by simp at hm; omega) ha
  rw [e1] at ih
  rw [treadyS_l1,decide_eq_true (by omega),cond_true,chk_true (by omega),nth_at hg]
  dsimp only [letP,townedS,twaitS]
  rw [Option.bind_some]
  cases hw:(mget t.owners e).isSome with
  |true =>
   rw [Bool.not_true,cond_false,chk_true (by unfold inR; omega),ih acc (by simp; omega)]
   simp [isw,hw]
  |false =>
   rw [Bool.not_false,cond_true,Option.bind_some]
   by_cases h0:0<(wget t.wait e).length
   · rw [decide_eq_true (by omega),cond_true,chk_true (by simp; omega),chk_true (by unfold inR; omega),ih _ (by simp; omega)]
     simp [isw,hw,h0]
   · rw [decide_eq_false (by omega),cond_false,chk_true (by unfold inR; omega),ih acc (by simp; omega)]
     simp [isw,hw,h0]
theorem isrt_len (l:List Int):(isrt l).length=l.length:=(isrt_perm l).length_eq
theorem ready_eq {t:TurnsS} (h:TOk t):treadyS t=some (rdy t):=by
 unfold treadyS
 rw [chk_true h.keys]
 dsimp only [letP]
 have hl:(isrt (t.wait.map Prod.fst)).length≤64:=by rw [isrt_len,List.length_map]; have:=h.len; omega
 have:=ready_l1 t _ hl (isrt (t.wait.map Prod.fst)) [] (t.wait.length+1) [] rfl (by rw [isrt_len,List.length_map]; omega) (by simp)
 simpa [rdy] using this
theorem mem_rdy {t:TurnsS} {L:Int}:L∈rdy t↔mget t.owners L=none∧wget t.wait L≠[]:=by
 unfold rdy
 rw [List.mem_filter,(isrt_perm _).mem_iff]
 unfold isw
 constructor
 · intro h
   simp at h
   exact ⟨h.2.1,fun e=>by have:=h.2.2; rw [e] at this; simp at this⟩
 · intro ⟨h1,h2⟩
   refine ⟨?_,?_⟩
   · refine Classical.byContradiction fun h=>h2 ?_
     unfold wget
     rw [mget_none.2 h]
     rfl
   · rw [h1]
     cases hw:wget t.wait L with
     |nil=>exact absurd hw h2
     |cons a r=>simp
theorem pend_eq {h:HomeS} (ht:TOk h.turns):hpendS h=some (decide (rdy h.turns≠[])):=by
 unfold hpendS
 rw [ready_eq ht,Option.bind_some]
 cases rdy h.turns <;> simp
def grP (h:HomeS) (r:RowS) (L who id:Int):PktS:=⟨7,h.node,who,id,L,r.head,r.state,false,r.data⟩
theorem gr_eq {h:HomeS} {L who id:Int} {r:RowS} (hr:mget h.dir.rows L=some r) (hd:r.data.length≤1099511627776):hgrS h L who id=some (grP h r L who id):=by
 unfold hgrS mrowS
 dsimp only [letP]
 have:mgo h.dir.rows L=r:=by unfold mgo; rw [hr]; rfl
 rw [this]
 unfold cloneS
 rw [chk_true hd]
 rfl
theorem next_eq {t:TurnsS} {L:Int} {a:AskS} {rs:List AskS} (h1:mget t.owners L=none) (h2:wget t.wait L=a::rs):tnextS t L=some (a.who,a.id,true,⟨mset t.owners L a.who,mset t.wait L rs⟩):=by
 unfold tnextS townedS twaitS tnextS_j0
 rw [h1,h2]
 dsimp only [letP]
 have hn:nthT (a::rs) 0=a:=nthT_at (i:=0) rfl
 simp only [Option.bind_some,Option.isSome_none,cond_false,List.length_cons]
 rw [decide_eq_false (by omega),cond_false,chk_true (by omega),chk_true (by omega),hn]
 rfl
theorem grant_eq {h:HomeS} (ht:TOk h.turns) (hp:rdy h.turns≠[]) (hd:∀ L∈rdy h.turns,∃ r,mget h.dir.rows L=some r∧r.data.length≤1099511627776) :
 ∃ L a rs r,mget h.turns.owners L=none∧wget h.turns.wait L=a::rs∧mget h.dir.rows L=some r ∧
  hgrantS h=some (grP h r L a.who a.id,true,{ h with turns:=⟨mset h.turns.owners L a.who,mset h.turns.wait L rs⟩ }):=by
 cases hr:rdy h.turns with
 |nil=>exact absurd hr hp
 |cons L ls =>
  have hL:=mem_rdy.1 (show L∈rdy h.turns by rw [hr]; simp)
  cases hw:wget h.turns.wait L with
  |nil=>exact absurd hw hL.2
  |cons a rs =>
   obtain ⟨r,h1,h2⟩:=hd L (by rw [hr]; simp)
   refine ⟨L,a,rs,r,hL.1,hw,h1,?_⟩
   unfold hgrantS
   rw [ready_eq ht,Option.bind_some,hr,hgrantS_l1,decide_eq_true (by simp),cond_true,chk_true (by simp)]
   have e:nth (L::ls) 0=L:=rfl
   rw [e,next_eq hL.1 hw,Option.bind_some,cond_true,gr_eq (h:={ h with turns:=⟨mset h.turns.owners L a.who,mset h.turns.wait L rs⟩ }) h1 h2]
   rfl
structure ToHome (h:HomeS) (p:PktS):Prop where
 lg:PLegal p
 dst:p.dst=h.node
 src:p.src<h.c.nodes
 nn:1≤h.c.nodes
 hm:p.line.tmod h.c.nodes=h.node
 ln:p.line<h.c.lines
def pktZ:PktS:=⟨0,0,0,0,0,0,0,false,[]⟩
theorem han_j {h:HomeS} {p:PktS} (H:ToHome h p) (hk:p.kind=1∨p.kind=2):hhanS h p=hhanS_j2 h p false:=by
 unfold hhanS
 rw [legal_chk H.lg,Option.bind_some,decide_eq_true rfl,cond_true,decide_eq_true H.dst,cond_true,decide_eq_true H.src]
 unfold hhanS_j0
 have e:hhanS_j1 h p=hhanS_j2 h p false:=by
  unfold hhanS_j1 phomeS prestS
  have:=H.lg.2.2.2.2.1.1
  rw [decide_eq_false (by omega),cond_false,chk_true H.nn,Option.bind_some,Option.bind_some,H.hm,decide_eq_true rfl,Bool.not_true,cond_false,decide_eq_false (by have:=H.ln; omega)]
 rw [Bool.not_true,cond_false,e]
 rcases hk with hk | hk
 · rw [hk]; rfl
 · rw [hk]; rfl
theorem lock_wait {h:HomeS} {p:PktS} (H:ToHome h p) (hk:p.kind=1) (hw:mget h.turns.owners p.line≠none∨wget h.turns.wait p.line≠[]) (hl:(wget h.turns.wait p.line).length≤64) :
 hhanS h p=some (pktZ,false,0,{ h with turns:={ h.turns with wait:=mset h.turns.wait p.line (wget h.turns.wait p.line++[⟨p.src,p.id⟩]) } }):=by
 rw [han_j H (.inl hk)]
 have hs:=H.lg.1.1
 unfold hhanS_j2
 rw [cond_false,decide_eq_true hk,cond_true]
 have e:taskS h.turns p.line p.src p.id=some (false,{ h.turns with wait:=mset h.turns.wait p.line (wget h.turns.wait p.line++[⟨p.src,p.id⟩]) }):=by
  have e1:taskS_j0 h.turns p.line p.src p.id true=some (false,{ h.turns with wait:=mset h.turns.wait p.line (wget h.turns.wait p.line++[⟨p.src,p.id⟩]) }):=by
   unfold taskS_j0
   rw [cond_true,chk_true (by simp; omega)]
   rfl
  unfold taskS townedS twaitS
  rw [decide_eq_false (by omega),cond_false,Option.bind_some]
  cases ho:mget h.turns.owners p.line with
  |some o=>rw [Option.isSome_some,cond_true,e1]
  |none =>
   have hne:wget h.turns.wait p.line≠[]:=by
    rcases hw with hw | hw
    · exact absurd ho hw
    · exact hw
   have:0<(wget h.turns.wait p.line).length:=List.length_pos_iff.2 hne
   rw [Option.isSome_none,cond_false,Option.bind_some,decide_eq_true (by omega),e1]
 rw [e,Option.bind_some]
 rfl
theorem lock_got {h:HomeS} {p:PktS} {r:RowS} (H:ToHome h p) (hk:p.kind=1) (h1:mget h.turns.owners p.line=none) (h2:wget h.turns.wait p.line=[]) (hr:mget h.dir.rows p.line=some r) (hd:r.data.length≤1099511627776) :
 hhanS h p=some (grP h r p.line p.src p.id,true,0,{ h with turns:={ h.turns with owners:=mset h.turns.owners p.line p.src } }):=by
 rw [han_j H (.inl hk)]
 have hs:=H.lg.1.1
 unfold hhanS_j2
 rw [cond_false,decide_eq_true hk,cond_true]
 have e:taskS h.turns p.line p.src p.id=some (true,{ h.turns with owners:=mset h.turns.owners p.line p.src }):=by
  unfold taskS townedS twaitS taskS_j0
  rw [decide_eq_false (by omega),cond_false,Option.bind_some,h1,h2]
  rfl
 rw [e,Option.bind_some]
 simp only [Bool.not_true,cond_false]
 rw [gr_eq (h:={ h with turns:={ h.turns with owners:=mset h.turns.owners p.line p.src } }) hr hd]
 rfl
def rowTo (r:RowS) (p:PktS):RowS:=⟨p.state,p.ptr,if 0<(if p.flag then p.data else []).length then p.data else r.data⟩
theorem unlock_eq {h:HomeS} {p:PktS} {r:RowS} (H:ToHome h p) (hk:p.kind=2) (h1:mget h.turns.owners p.line=some p.src) (hr:mget h.dir.rows p.line=some r) (hc:h.dir.c=h.c) (hp:p.ptr<h.c.nodes) (hst:(p.ptr=-1↔p.state=0)) (hd:p.data=[]∨(p.data.length:Int)=h.c.words) :
 hhanS h p=some (⟨8,h.node,p.src,p.id,p.line,0,0,false,[]⟩,true,0,{ h with dir:={ h.dir with rows:=mset h.dir.rows p.line (rowTo r p) },turns:={ h.turns with owners:=mdel h.turns.owners p.line } }):=by
 rw [han_j H (.inr hk)]
 have hl:=H.lg
 obtain ⟨hs,-,-,-,-,h6,h7,h8,h9⟩:=hl
 unfold hhanS_j2
 rw [cond_false,decide_eq_false (by omega),cond_false]
 have e:hunS h p=some (0,{ h with dir:={ h.dir with rows:=mset h.dir.rows p.line (rowTo r p) },turns:={ h.turns with owners:=mdel h.turns.owners p.line } }):=by
  have hm:mgo h.turns.owners p.line=p.src:=by unfold mgo; rw [h1]; rfl
  have hj:∀ dt:List Int,dt=(if p.flag then p.data else [])→hunS_j0 h p dt=some (0,{ h with dir:={ h.dir with rows:=mset h.dir.rows p.line (rowTo r p) },turns:={ h.turns with owners:=mdel h.turns.owners p.line } }):=by
   intro dt hdt
   have hdl:dt=[]∨(dt.length:Int)=h.c.words:=by
    rw [hdt]
    split
    · exact hd
    · exact .inl rfl
   have hlen:dt.length≤4:=by
    rw [hdt]
    split
    · exact h8
    · simp
   unfold hunS_j0
   have e2:msetS h.dir p.line p.state p.ptr dt=some (0,{ h.dir with rows:=mset h.dir.rows p.line (rowTo r p) }):=by
    unfold msetS
    dsimp only [letP]
    have hmr:mgo h.dir.rows p.line=r:=by unfold mgo; rw [hr]; rfl
    rw [hr,hmr]
    have hj0:msetS_j0 dt h.dir p.line p.state p.ptr r=some (0,{ h.dir with rows:=mset h.dir.rows p.line (rowTo r p) }):=by
     unfold msetS_j0 rowTo
     rw [← hdt]
     by_cases hz:0<dt.length
     · have hpd:p.data=dt:=by
        rw [hdt] at hz ⊢
        split at hz
        · rename_i hf; rw [if_pos hf]
        · simp at hz
       rw [decide_eq_true (by omega),cond_true]
       unfold cloneS
       rw [chk_true (by omega),Option.bind_some,if_pos hz,hpd]
       rfl
     · rw [decide_eq_false (by omega),cond_false,if_neg hz]
       rfl
    rw [Option.isSome_some,Bool.not_true,cond_false,decide_eq_false (by omega),cond_false,decide_eq_false (by omega),cond_false,decide_eq_false (by omega),cond_false,decide_eq_false (show ¬ h.dir.c.nodes≤p.ptr by rw [hc]; omega)]
    unfold msetS_j1
    rw [cond_false]
    have hb:(decide (p.ptr=-1) == decide (p.state=0))=true:=by
     by_cases hz:p.state=0
     · rw [decide_eq_true hz,decide_eq_true (hst.2 hz)]; rfl
     · rw [decide_eq_false hz,decide_eq_false (fun x=>hz (hst.1 x))]; rfl
    rw [hb,Bool.not_true,cond_false]
    rcases hdl with hdl | hdl
    · rw [hdl,← hdl,hj0]
      subst hdl
      rfl
    · rw [decide_eq_true (show (dt.length:Int)=h.dir.c.words by rw [hc]; exact hdl),Bool.not_true,cond_false,hj0]
      cases decide ((dt.length:Int)=0) <;> rfl
   rw [e2,Option.bind_some]
   simp only [decide_true,Bool.not_true,cond_false]
   unfold trelS townedS
   rw [h1,Option.bind_some,Option.isSome_some,Bool.not_true,cond_false,hm,decide_eq_true rfl,Bool.not_true,cond_false]
   rfl
  unfold hunS townerS
  rw [h1,Option.isSome_some,cond_true,Option.bind_some,hm,decide_eq_true rfl,Bool.not_true,cond_false]
  cases hf:p.flag with
  |true=>rw [cond_true]; exact hj _ (by rw [hf]; rfl)
  |false=>rw [cond_false]; exact hj _ (by rw [hf]; rfl)
 rw [e,Option.bind_some]
 rfl
end
section
open Go
structure Cp where
 fwd:Int
 back:Int
 dirty:Bool
 data:List Int
def upd {β:Type} (f:Nat→β) (k:Nat) (v:β):Nat→β:=fun j=>if j=k then v else f j
theorem upd_eq {β:Type} (f:Nat→β) (k:Nat) (v:β):upd f k v k=v:=if_pos rfl
theorem upd_ne {β:Type} {f:Nat→β} {k j:Nat} {v:β} (h:j≠k):upd f k v j=f j:=if_neg h
def hd:List Nat→Int→Int
 |[],e=>e
 |x::_,_=>(x:Int)
def lst:List Nat→Int→Int
 |[],b=>b
 |x::xs,_=>lst xs (x:Int)
section
variable (c:Nat→Option Cp)
def Fw:List Nat→Int→Prop
 |[],_=>True
 |x::ys,e=>(∃ p,c x=some p∧p.fwd=hd ys e)∧Fw ys e
def Bk:Int→List Nat→Prop
 |_,[]=>True
 |b,x::ys=>(∃ p,c x=some p∧p.back=b)∧Bk (x:Int) ys
end
theorem hd_app:∀ (a b:List Nat) (e:Int),hd (a++b) e=hd a (hd b e)
 |[],_,_=>rfl
 |_::_,_,_=>rfl
theorem lst_app:∀ (a b:List Nat) (e:Int),lst (a++b) e=lst b (lst a e)
 |[],_,_=>rfl
 |x::a,b,e=>lst_app a b x
theorem lst_mem:∀ {a:List Nat} {e:Int},a≠[]→∃ x∈a,lst a e=(x:Int)
 |[],_,h=>absurd rfl h
 |[x],_,_=>⟨x,by simp,rfl⟩
 |x::y::a,e,_=>by
  obtain ⟨z,h1,h2⟩:=lst_mem (a:=y::a) (e:=(x:Int)) (by simp)
  exact ⟨z,by simp at h1; simp [h1],h2⟩
theorem hd_mem:∀ {a:List Nat} {e:Int},a≠[]→∃ x r,a=x::r∧hd a e=(x:Int)
 |[],_,h=>absurd rfl h
 |x::r,_,_=>⟨x,r,rfl,rfl⟩
theorem hd_neg {a:List Nat}:hd a (-1)=-1↔a=[]:=by
 cases a with
 |nil=>simp [hd]
 |cons x r=>simp [hd]
theorem lst_neg {a:List Nat}:lst a (-1)=-1↔a=[]:=by
 cases a with
 |nil=>simp [lst]
 |cons x r =>
  obtain ⟨y,-,h⟩:=lst_mem (a:=x::r) (e:=-1) (by simp)
  rw [h]
  simp
section
variable {c c':Nat→Option Cp}
theorem Fw_app:∀ {a b:List Nat} {e:Int},Fw c (a++b) e↔Fw c a (hd b e)∧Fw c b e
 |[],_,_=>by simp [Fw]
 |x::a,b,e=>by
  simp only [List.cons_append,Fw,Fw_app (a:=a),hd_app,and_assoc]
theorem Bk_app:∀ {a b:List Nat} {e:Int},Bk c e (a++b)↔Bk c e a∧Bk c (lst a e) b
 |[],_,_=>by simp [Bk,lst]
 |x::a,b,e=>by
  simp only [List.cons_append,Bk,Bk_app (a:=a),lst,and_assoc]
theorem Fw_con:∀ {a:List Nat} {e:Int},(∀ x∈a,∀ p,c x=some p→∃ q,c' x=some q∧q.fwd=p.fwd)→Fw c a e→Fw c' a e
 |[],_,_,_=>trivial
 |x::a,e,h,⟨⟨p,h1,h2⟩,h3⟩=>by
  obtain ⟨q,h4,h5⟩:=h x (by simp) p h1
  exact ⟨⟨q,h4,by rw [h5,h2]⟩,Fw_con (fun y hy=>h y (by simp [hy])) h3⟩
theorem Bk_con:∀ {a:List Nat} {e:Int},(∀ x∈a,∀ p,c x=some p→∃ q,c' x=some q∧q.back=p.back)→Bk c e a→Bk c' e a
 |[],_,_,_=>trivial
 |x::a,e,h,⟨⟨p,h1,h2⟩,h3⟩=>by
  obtain ⟨q,h4,h5⟩:=h x (by simp) p h1
  exact ⟨⟨q,h4,by rw [h5,h2]⟩,Bk_con (fun y hy=>h y (by simp [hy])) h3⟩
theorem Fw_upd {a:List Nat} {e:Int} {k:Nat} {v:Option Cp} (h:k∉a) (hf:Fw c a e):Fw (upd c k v) a e :=
 Fw_con (fun x hx p hp=>⟨p,by rw [upd_ne (by rintro rfl; exact h hx)]; exact hp,rfl⟩) hf
theorem Bk_upd {a:List Nat} {e:Int} {k:Nat} {v:Option Cp} (h:k∉a) (hf:Bk c e a):Bk (upd c k v) e a :=
 Bk_con (fun x hx p hp=>⟨p,by rw [upd_ne (by rintro rfl; exact h hx)]; exact hp,rfl⟩) hf
theorem Fw_set {a:List Nat} {e:Int} {k:Nat} {p q:Cp} (hp:c k=some p) (hq:q.fwd=p.fwd) (hf:Fw c a e):Fw (upd c k (some q)) a e :=
 Fw_con (fun x hx p' hp'=>by
  by_cases h:x=k
  · subst h
    rw [hp] at hp'
    obtain rfl:=Option.some.inj hp'
    exact ⟨q,upd_eq _ _ _,hq⟩
  · exact ⟨p',by rw [upd_ne h]; exact hp',rfl⟩) hf
theorem Bk_set {a:List Nat} {e:Int} {k:Nat} {p q:Cp} (hp:c k=some p) (hq:q.back=p.back) (hf:Bk c e a):Bk (upd c k (some q)) e a :=
 Bk_con (fun x hx p' hp'=>by
  by_cases h:x=k
  · subst h
    rw [hp] at hp'
    obtain rfl:=Option.some.inj hp'
    exact ⟨q,upd_eq _ _ _,hq⟩
  · exact ⟨p',by rw [upd_ne h]; exact hp',rfl⟩) hf
end
structure Norm (c:Nat→Option Cp) (r:RowS) (M:List Int) (xs:List Nat):Prop where
 nd:xs.Nodup
 ex:∀ k,c k≠none↔k∈xs
 dt:∀ k p,c k=some p→p.data=M
 fw:Fw c xs (-1)
 bk:Bk c (-1) xs
 rh:r.head=hd xs (-1)
 st:(r.state=0∧xs=[]∧r.data=M)∨(r.state=1∧xs≠[]∧(∀ k p,c k=some p→p.dirty=false)∧r.data=M)∨(r.state=2∧∃ x,xs=[x]∧∀ p,c x=some p→p.dirty=true)
structure Mid (c:Nat→Option Cp) (r:RowS) (M:List Int) (X:Nat) (fs bs:List Nat) (b:Int):Prop where
 nd:(fs++X::bs).Nodup
 ex:∀ k,c k≠none↔k∈fs++X::bs
 dt:∀ k p,c k=some p→p.data=M
 cl:∀ k p,c k=some p→p.dirty=false
 f1:Fw c fs (hd bs (-1))
 f2:Fw c bs (-1)
 b1:Bk c (-1) fs
 b2:Bk c b bs
 st:r.state=1
 rd:r.data=M
 rh:r.head=hd (fs++X::bs) (-1)
structure Pur (c:Nat→Option Cp) (M:List Int) (X:Nat) (d:DealS) (zs:List Nat):Prop where
 nd:zs.Nodup
 fw:Fw c zs (-1)
 e1:∀ k,c k≠none→k∈zs∨k=X
 e2:∀ k∈zs,c k≠none
 dt:∀ k p,c k=some p→p.data=M
 dr:∀ k p,c k=some p→p.dirty=true→k≠X∧∀ j,c j≠none→j=k
 dd:c X≠none→d.data=M
def rset (r:RowS) (d:DealS):RowS:=⟨d.state,d.head,if 0<d.data.length then d.data else r.data⟩
inductive Ph (c:Nat→Option Cp) (r:RowS) (M:List Int) (X:Nat) (d:DealS):Option PktS→Prop
 |gr (xs:List Nat) (p:PktS):d.step=1→p.kind=7→p.state=r.state→p.ptr=r.head→p.data=r.data→Norm c r M xs→Ph c r M X d (some p)
 |attq (xs:List Nat):d.kind=1→d.step=2→Norm c r M xs→xs≠[]→d.head=hd xs (-1)→c X=none→Ph c r M X d none
 |atta (xs:List Nat) (p:PktS):d.kind=1→d.step=2→p.kind=9→p.data=M→(p.flag=true∨r.data=M)→xs.Nodup→xs≠[]→(∀ k,c k≠none↔k∈xs)→(∀ k p,c k=some p→p.data=M)→(∀ k p,c k=some p→p.dirty=false) →
  Fw c xs (-1)→Bk c (X:Int) xs→d.head=hd xs (-1)→c X=none→Ph c r M X d (some p)
 |unl (xs:List Nat):d.step=6→Norm c (rset r d) M xs→(d.kind=3→c X=none)→Ph c r M X d none
 |purq (zs:List Nat):d.kind=2→d.step=3→Pur c M X d zs→zs≠[]→d.next=hd zs (-1)→hd zs (-1)≠(X:Int)→Ph c r M X d none
 |pura (zs:List Nat) (p:PktS):d.kind=2→d.step=3→p.kind=9→p.ptr=hd zs (-1)→p.data=M→Pur c M X d zs→(∀ k p,c k=some p→p.dirty=false)→Ph c r M X d (some p)
 |frq (fs bs:List Nat):d.kind=3→d.step=4→Norm c r M (fs++X::bs)→fs≠[]→d.head=lst fs (-1)→d.next=hd bs (-1)→d.told=r.head→Ph c r M X d none
 |fra (fs bs:List Nat) (p:PktS):d.kind=3→d.step=4→p.kind=8→Mid c r M X fs bs (X:Int)→fs≠[]→d.head=lst fs (-1)→d.next=hd bs (-1)→d.told=r.head→Ph c r M X d (some p)
 |beq (fs bs:List Nat):d.kind=3→d.step=5→Mid c r M X fs bs (X:Int)→bs≠[]→d.head=lst fs (-1)→d.next=hd bs (-1)→d.told=r.head→Ph c r M X d none
 |bea (fs bs:List Nat) (p:PktS):d.kind=3→d.step=5→p.kind=8→Mid c r M X fs bs (lst fs (-1))→bs≠[]→d.head=lst fs (-1)→d.next=hd bs (-1)→d.told=r.head→Ph c r M X d (some p)
section
variable {c:Nat→Option Cp} {r:RowS} {M:List Int} {X:Nat} {d:DealS} {p:PktS}
theorem none_of {k:Nat} (h:¬ c k≠none):c k=none:=Classical.byContradiction h
theorem Norm.push {xs:List Nat} {R:RowS} (h1:xs.Nodup) (h2:∀ k,c k≠none↔k∈xs) (h3:∀ k p,c k=some p→p.data=M) (h4:∀ k p,c k=some p→p.dirty=false) (h5:Fw c xs (-1)) (h6:Bk c (X:Int) xs) (h7:c X=none)
 (hs:R.state=1) (hh:R.head=(X:Int)) (hR:R.data=M) {q:Cp} (q1:q.fwd=hd xs (-1)) (q2:q.back=-1) (q3:q.dirty=false) (q4:q.data=M):Norm (upd c X (some q)) R M (X::xs):=by
 have hX:X∉xs:=fun h=>(h2 X).2 h h7
 refine ⟨List.nodup_cons.2 ⟨hX,h1⟩,fun k=>?_,fun k p hp=>?_,⟨⟨q,upd_eq _ _ _,q1⟩,Fw_upd hX h5⟩,⟨⟨q,upd_eq _ _ _,q2⟩,Bk_upd hX h6⟩,hh,.inr (.inl ⟨hs,by simp,fun k p hp=>?_,hR⟩)⟩
 · by_cases hk:k=X
   · subst hk; simp [upd_eq]
   · rw [upd_ne hk,h2 k]; simp [hk]
 · by_cases hk:k=X
   · subst hk; rw [upd_eq] at hp; obtain rfl:=Option.some.inj hp; exact q4
   · rw [upd_ne hk] at hp; exact h3 k p hp
 · by_cases hk:k=X
   · subst hk; rw [upd_eq] at hp; obtain rfl:=Option.some.inj hp; exact q3
   · rw [upd_ne hk] at hp; exact h4 k p hp
theorem Norm.alone {R:RowS} (h:∀ k,c k≠none→k=X) (hs:R.state=2) (hh:R.head=(X:Int)) {q:Cp} (q1:q.fwd=-1) (q2:q.back=-1) (q3:q.dirty=true) (q4:q.data=M):Norm (upd c X (some q)) R M [X]:=by
 have hn:∀ k,k≠X→c k=none:=fun k hk=>none_of fun x=>hk (h k x)
 refine ⟨by simp,fun k=>?_,fun k p hp=>?_,⟨⟨q,upd_eq _ _ _,q1⟩,trivial⟩,⟨⟨q,upd_eq _ _ _,q2⟩,trivial⟩,hh,.inr (.inr ⟨hs,X,rfl,fun p hp=>?_⟩)⟩
 · by_cases hk:k=X
   · subst hk; simp [upd_eq]
   · rw [upd_ne hk,hn k hk]; simp [hk]
 · by_cases hk:k=X
   · subst hk; rw [upd_eq] at hp; obtain rfl:=Option.some.inj hp; exact q4
   · rw [upd_ne hk,hn k hk] at hp; cases hp
 · rw [upd_eq] at hp; obtain rfl:=Option.some.inj hp; exact q3
theorem ph_att (H:Ph c r M X d (some p)) (h1:d.step=1) (hk:d.kind=1) (hX:c X=none) (hs:p.state≠0):Ph c r M X ⟨d.kind,d.line,d.id,2,p.state,p.ptr,p.data,d.next,p.ptr⟩ none:=by
 cases H with
 |gr xs _ a1 a2 a3 a4 a5 a6 =>
  refine .attq xs hk rfl a6 ?_ (a4.trans a6.rh) hX
  rintro rfl
  rcases a6.st with h | h | ⟨h,x,h2,-⟩
  · exact hs (a3.trans h.1)
  · exact h.2.1 rfl
  · cases h2
 |_=>omega
theorem ph_home (H:Ph c r M X d (some p)) (h1:d.step=1) (hk:d.kind=1) (hX:c X=none) (hs:p.state=0):Ph (upd c X (some ⟨-1,-1,false,p.data⟩)) r M X ⟨d.kind,d.line,d.id,6,1,(X:Int),[],d.next,p.ptr⟩ none:=by
 cases H with
 |gr xs _ a1 a2 a3 a4 a5 a6 =>
  have h0:xs=[]∧r.data=M:=by
   rcases a6.st with h | h | ⟨h,-⟩
   · exact ⟨h.2.1,h.2.2⟩
   · have:=h.1; omega
   · omega
  obtain ⟨rfl,hM⟩:=h0
  refine .unl [X] rfl (Norm.push (by simp) a6.ex a6.dt (fun k p hp=>?_) trivial trivial hX rfl rfl (by simpa [rset] using hM) rfl rfl rfl (a5.trans hM)) (fun h=>by simp at h; omega)
  have:=(a6.ex k).1 (by rw [hp]; simp)
  cases this
 |_=>omega
theorem ph_told (H:Ph c r M X d (some p)) (h1:d.step=2) (hW:0<M.length) (hk:d.kind=1):p.data=M∧Ph (upd c X (some ⟨d.head,-1,false,p.data⟩)) r M X ⟨d.kind,d.line,d.id,6,1,(X:Int),if p.flag then p.data else [],d.next,d.told⟩ none:=by
 cases H with
 |atta xs _ a1 a2 a3 a4 a5 b1 b2 b3 b4 b5 b6 b7 b8 b9 =>
  refine ⟨a4,.unl (X::xs) rfl (Norm.push b1 b3 b4 b5 b6 b7 b9 rfl rfl ?_ b8 rfl rfl a4) (fun h=>by simp at h; omega)⟩
  cases hf:p.flag with
  |true=>simp [rset,a4,hW]
  |false =>
   rw [hf] at a5
   simpa [rset] using a5
 |_=>omega
theorem walk_next {zs:List Nat} (hk:d.kind=2) (hp:Pur c M X d zs) (hz:zs≠[]) (hX:hd zs (-1)≠(X:Int)) {e:DealS} (e1:e.kind=d.kind) (e2:e.step=3) (e3:e.data=d.data) (e4:e.next=hd zs (-1)):Ph c r M X e none :=
 .purq zs (e1.trans hk) e2 ⟨hp.nd,hp.fw,hp.e1,hp.e2,hp.dt,hp.dr,fun h=>e3.trans (hp.dd h)⟩ hz e4 hX
theorem walk_tail {zs:List Nat} {q:Cp} (hp:Pur c M X d (X::zs)) (hq:c X=some q):Pur c M X d zs∧q.fwd=hd zs (-1):=by
 obtain ⟨⟨p,h1,h2⟩,h3⟩:=hp.fw
 rw [hq] at h1
 obtain rfl:=Option.some.inj h1
 have hn:=List.nodup_cons.1 hp.nd
 refine ⟨⟨hn.2,h3,fun k hk=>?_,fun k hk=>hp.e2 k (by simp [hk]),hp.dt,hp.dr,hp.dd⟩,h2⟩
 rcases hp.e1 k hk with h | h
 · rcases List.mem_cons.1 h with h | h
   · exact .inr h
   · exact .inl h
 · exact .inr h
theorem walk_done (hp:Pur c M X d []) {D:List Int} (hD:D=M) {e:DealS} (e1:e.kind=2) (e2:e.step=6) (e3:e.state=2) (e4:e.head=(X:Int)):Ph (upd c X (some ⟨-1,-1,true,D⟩)) r M X e none :=
 .unl [X] e2 (Norm.alone (fun k hk=>by simpa using hp.e1 k hk) (by simp [rset,e3]) (by simp [rset,e4]) rfl rfl rfl hD) (fun h=>by omega)
theorem pur_of_norm {xs:List Nat} (h:Norm c r M xs) (hc:∀ p,c X=some p→p.dirty=false) {e:DealS} (he:c X≠none→e.data=M):Pur c M X e xs:=by
 refine ⟨h.nd,h.fw,fun k hk=>.inl ((h.ex k).1 hk),fun k hk=>(h.ex k).2 hk,h.dt,fun k p hp hd=>?_,he⟩
 refine ⟨?_,fun j hj=>?_⟩
 · rintro rfl
   rw [hc p hp] at hd
   cases hd
 · rcases h.st with ⟨-,h2,-⟩ | ⟨-,-,h2,-⟩ | ⟨-,x,rfl,-⟩
   · subst h2
     have:=(h.ex k).1 (by rw [hp]; simp)
     cases this
   · rw [h2 k p hp] at hd; cases hd
   · have a:=(h.ex k).1 (by rw [hp]; simp)
     have b:=(h.ex j).1 hj
     simp at a b
     omega
theorem mid_out {fs bs:List Nat} (h:Mid c r M X fs bs (lst fs (-1))) (hne:fs++bs≠[]) {R:RowS} (hs:R.state=1) (hh:R.head=hd (fs++bs) (-1)) (hR:R.data=M):Norm (upd c X none) R M (fs++bs):=by
 have hn:=h.nd
 rw [List.nodup_append] at hn
 obtain ⟨n1,n2,n3⟩:=hn
 have n4:=List.nodup_cons.1 n2
 have hX:X∉fs++bs:=by
  intro hx
  rcases List.mem_append.1 hx with hx | hx
  · exact n3 X hx X (by simp) rfl
  · exact n4.1 hx
 have hne':∀ k p,upd c X none k=some p→k≠X∧c k=some p:=fun k p hp=>by
  by_cases hk:k=X
  · subst hk; rw [upd_eq] at hp; cases hp
  · rw [upd_ne hk] at hp; exact ⟨hk,hp⟩
 refine ⟨?_,fun k=>?_,fun k p hp=>h.dt k p (hne' k p hp).2,?_,?_,hh,.inr (.inl ⟨hs,hne,fun k p hp=>h.cl k p (hne' k p hp).2,hR⟩)⟩
 · rw [List.nodup_append]
   exact ⟨n1,n4.2,fun a ha b hb=>n3 a ha b (by simp [hb])⟩
 · by_cases hk:k=X
   · subst hk; simp only [upd_eq]; simpa using hX
   · rw [upd_ne hk,h.ex k]; simp [hk]
 · exact Fw_app.2 ⟨Fw_upd (fun x=>hX (by simp [x])) h.f1,Fw_upd (fun x=>hX (by simp [x])) h.f2⟩
 · exact Bk_app.2 ⟨Bk_upd (fun x=>hX (by simp [x])) h.b1,Bk_upd (fun x=>hX (by simp [x])) h.b2⟩
end
end
section
open Go
section
variable {c:Nat→Option Cp} {r:RowS} {M:List Int} {X:Nat} {d:DealS} {p:PktS}
def nxt (c:Nat→Option Cp) (X:Nat) (n:Int):Int:=if n=(X:Int) then (match c X with | some q=>q.fwd | none=>n) else n
theorem walk_ok {zs:List Nat} (hk:d.kind=2) (hp:Pur c M X d zs) (hn:d.next=hd zs (-1)) (hD:c X=none→zs=[]→d.data=M) :
 (nxt c X d.next≠-1→Ph c r M X ⟨d.kind,d.line,d.id,3,d.state,d.head,d.data,nxt c X d.next,d.told⟩ none) ∧
 (nxt c X d.next=-1→d.data=M∧Ph (upd c X (some ⟨-1,-1,true,d.data⟩)) r M X ⟨d.kind,d.line,d.id,6,2,(X:Int),[],nxt c X d.next,d.told⟩ none):=by
 cases zs with
 |nil =>
  have e:d.next=-1:=hn
  have e2:nxt c X d.next=-1:=by unfold nxt; rw [if_neg (by omega),e]
  have e3:d.data=M:=by
   by_cases hX:c X=none
   · exact hD hX rfl
   · exact hp.dd hX
  exact ⟨fun h=>absurd e2 h,fun _=>⟨e3,walk_done hp e3 hk rfl rfl rfl⟩⟩
 |cons z zs =>
  have e:d.next=(z:Int):=hn
  by_cases hz:z=X
  · subst hz
    cases hc:c z with
    |none=>exact absurd hc (hp.e2 z (by simp))
    |some q =>
     obtain ⟨h1,h2⟩:=walk_tail hp hc
     have e2:nxt c z d.next=hd zs (-1):=by unfold nxt; rw [if_pos e,hc]; exact h2
     rw [e2]
     have e3:d.data=M:=hp.dd (by rw [hc]; simp)
     refine ⟨fun h=>?_,fun h=>⟨e3,?_⟩⟩
     · have h3:zs≠[]:=fun x=>h (by rw [x]; rfl)
       refine walk_next hk h1 h3 ?_ rfl rfl rfl rfl
       obtain ⟨y,ys,h4,h5⟩:=hd_mem (e:=-1) h3
       rw [h5]
       have:=(List.nodup_cons.1 hp.nd).1
       rw [h4] at this
       simp at this
       omega
     · have h3:=hd_neg.1 h
       subst h3
       exact walk_done h1 e3 hk rfl rfl rfl
  · have e2:nxt c X d.next=(z:Int):=by unfold nxt; rw [if_neg (by omega)]; exact e
    rw [e2]
    refine ⟨fun _=>?_,fun h=>by omega⟩
    exact walk_next hk hp (by simp) (by simp [hd]; omega) rfl rfl rfl rfl
theorem ph_wlock (H:Ph c r M X d (some p)) (h1:d.step=1) (hk:d.kind=2) (hc:∀ q,c X=some q→q.dirty=false) {D:List Int} (hD:D=match c X with | some q=>q.data | none=>p.data) {e:DealS} (he:e=⟨d.kind,d.line,d.id,d.step,p.state,p.ptr,D,p.ptr,p.ptr⟩) :
 (nxt c X e.next≠-1→Ph c r M X ⟨e.kind,e.line,e.id,3,e.state,e.head,e.data,nxt c X e.next,e.told⟩ none) ∧
 (nxt c X e.next=-1→e.data=M∧Ph (upd c X (some ⟨-1,-1,true,e.data⟩)) r M X ⟨e.kind,e.line,e.id,6,2,(X:Int),[],nxt c X e.next,e.told⟩ none):=by
 subst he
 cases H with
 |gr xs _ a1 a2 a3 a4 a5 a6 =>
  refine walk_ok (zs:=xs) hk (pur_of_norm a6 hc ?_) (a4.trans a6.rh) ?_
  · intro h
    cases hX:c X with
    |none=>exact absurd hX h
    |some q=>rw [hX] at hD; exact hD.trans (a6.dt X q hX)
  · intro h hx
    subst hx
    rw [h] at hD
    refine hD.trans (a5.trans ?_)
    rcases a6.st with h | h | ⟨-,x,h,-⟩
    · exact h.2.2
    · exact absurd rfl h.2.1
    · cases h
 |_=>omega
theorem ph_wtold (H:Ph c r M X d (some p)) (h1:d.step=3) (hk:d.kind=2) {D:List Int} (hD:D=match c X with | some q=>d.data | none=>p.data) {e:DealS} (he:e=⟨d.kind,d.line,d.id,d.step,d.state,d.head,D,p.ptr,d.told⟩) :
 (nxt c X e.next≠-1→Ph c r M X ⟨e.kind,e.line,e.id,3,e.state,e.head,e.data,nxt c X e.next,e.told⟩ none) ∧
 (nxt c X e.next=-1→e.data=M∧Ph (upd c X (some ⟨-1,-1,true,e.data⟩)) r M X ⟨e.kind,e.line,e.id,6,2,(X:Int),[],nxt c X e.next,e.told⟩ none):=by
 subst he
 cases H with
 |pura zs _ a1 a2 a3 a4 a5 a6 a7 =>
  have hd:c X≠none→D=M:=fun h=>by
   cases hX:c X with
   |none=>exact absurd hX h
   |some q=>rw [hX] at hD; exact hD.trans (a6.dd h)
  refine walk_ok (zs:=zs) hk ⟨a6.nd,a6.fw,a6.e1,a6.e2,a6.dt,a6.dr,hd⟩ a4 ?_
  intro h _
  rw [h] at hD
  exact hD.trans a5
 |_=>omega
theorem norm_at {fs bs:List Nat} (h:Norm c r M (fs++X::bs)) {q:Cp} (hq:c X=some q):q.back=lst fs (-1)∧q.fwd=hd bs (-1):=by
 obtain ⟨-,⟨p1,e1,f1⟩,-⟩:=Fw_app.1 h.fw
 obtain ⟨-,⟨p2,e2,f2⟩,-⟩:=Bk_app.1 h.bk
 rw [hq] at e1 e2
 obtain rfl:=Option.some.inj e1
 obtain rfl:=Option.some.inj e2
 exact ⟨f2,f1⟩
theorem norm_long {fs bs:List Nat} (h:Norm c r M (fs++X::bs)) (hl:fs≠[]∨bs≠[]):r.state=1∧r.data=M∧∀ k p,c k=some p→p.dirty=false:=by
 rcases h.st with ⟨-,h2,-⟩ | ⟨h1,-,h2,h3⟩ | ⟨-,x,h2,-⟩
 · simp at h2
 · exact ⟨h1,h3,h2⟩
 · cases fs with
   |nil=>simp at h2; simp [h2] at hl
   |cons y ys=>simp at h2
theorem ph_rgone (H:Ph c r M X d (some p)) (h1:d.step=1) (hX:c X=none):Ph c r M X ⟨d.kind,d.line,d.id,6,p.state,p.ptr,[],d.next,p.ptr⟩ none:=by
 cases H with
 |gr xs _ a1 a2 a3 a4 a5 a6 =>
  refine .unl xs rfl ?_ fun _=>hX
  have:rset r ⟨d.kind,d.line,d.id,6,p.state,p.ptr,[],d.next,p.ptr⟩=r:=by
   unfold rset; rw [a3,a4]; rfl
  rw [this]; exact a6
 |_=>omega
theorem ph_ronly (H:Ph c r M X d (some p)) (h1:d.step=1) (hW:0<M.length) {q:Cp} (hX:c X=some q) (hb:q.back=-1) (hf:q.fwd=-1):Ph (upd c X none) r M X ⟨d.kind,d.line,d.id,6,0,-1,if q.dirty then q.data else [],d.next,p.ptr⟩ none:=by
 cases H with
 |gr xs _ a1 a2 a3 a4 a5 a6 =>
  obtain ⟨fs,bs,rfl⟩:=List.append_of_mem ((a6.ex X).1 (by rw [hX]; simp))
  obtain ⟨e1,e2⟩:=norm_at a6 hX
  have hfs:=lst_neg.1 (e1.symm.trans hb)
  have hbs:=hd_neg.1 (e2.symm.trans hf)
  subst hfs; subst hbs
  have hn:∀ k,upd c X none k=none:=fun k=>by
   by_cases hk:k=X
   · subst hk; rw [upd_eq]
   · rw [upd_ne hk]
     exact none_of fun x=>hk (by simpa using (a6.ex k).1 x)
  refine .unl [] rfl ⟨by simp,fun k=>by rw [hn k]; simp,fun k p hp=>(by rw [hn k] at hp; cases hp),trivial,trivial,rfl,.inl ⟨rfl,rfl,?_⟩⟩ fun _=>upd_eq _ _ _
  have hM:=a6.dt X q hX
  cases hd:q.dirty with
  |true=>simp [rset,hM,hW]
  |false =>
   simp [rset]
   rcases a6.st with ⟨-,h,-⟩ | ⟨-,-,-,h⟩ | ⟨-,x,h2,h3⟩
   · cases h
   · exact h
   · simp at h2
     subst h2
     rw [h3 q hX] at hd
     cases hd
 |_=>omega
theorem ph_rhead (H:Ph c r M X d (some p)) (h1:d.step=1) (hk:d.kind=3) {q:Cp} (hX:c X=some q) (hb:q.back=-1) (hf:q.fwd≠-1):Ph c r M X ⟨d.kind,d.line,d.id,5,p.state,-1,[],q.fwd,p.ptr⟩ none:=by
 cases H with
 |gr xs _ a1 a2 a3 a4 a5 a6 =>
  obtain ⟨fs,bs,rfl⟩:=List.append_of_mem ((a6.ex X).1 (by rw [hX]; simp))
  obtain ⟨e1,e2⟩:=norm_at a6 hX
  have hfs:=lst_neg.1 (e1.symm.trans hb)
  subst hfs
  have hbs:bs≠[]:=fun h=>hf (e2.trans (by rw [h]; rfl))
  obtain ⟨s1,s2,s3⟩:=norm_long a6 (.inr hbs)
  exact .beq [] bs hk rfl ⟨a6.nd,a6.ex,a6.dt,s3,trivial,a6.fw.2,trivial,a6.bk.2,s1,s2,a6.rh⟩ hbs rfl e2 a4
 |_=>omega
theorem ph_rfront (H:Ph c r M X d (some p)) (h1:d.step=1) (hk:d.kind=3) {q:Cp} (hX:c X=some q) (hb:q.back≠-1):Ph c r M X ⟨d.kind,d.line,d.id,4,p.state,q.back,[],q.fwd,p.ptr⟩ none:=by
 cases H with
 |gr xs _ a1 a2 a3 a4 a5 a6 =>
  obtain ⟨fs,bs,rfl⟩:=List.append_of_mem ((a6.ex X).1 (by rw [hX]; simp))
  obtain ⟨e1,e2⟩:=norm_at a6 hX
  exact .frq fs bs hk rfl a6 (fun h=>hb (e1.trans (by rw [h]; rfl))) e1 e2 a4
 |_=>omega
theorem ph_fout (H:Ph c r M X d (some p)) (h1:d.step=4) (hn:d.next=-1):Ph (upd c X none) r M X ⟨d.kind,d.line,d.id,6,1,d.told,[],d.next,d.told⟩ none:=by
 cases H with
 |fra fs bs _ a1 a2 a3 a4 a5 a6 a7 a8 =>
  have hbs:=hd_neg.1 (a7.symm.trans hn)
  subst hbs
  refine .unl (fs++[]) rfl (mid_out ⟨a4.nd,a4.ex,a4.dt,a4.cl,a4.f1,a4.f2,a4.b1,trivial,a4.st,a4.rd,a4.rh⟩ (by simpa using a5) rfl ?_ (by simpa [rset] using a4.rd)) fun _=>upd_eq _ _ _
  show d.told=_
  rw [a8,a4.rh,hd_app,hd_app]
  cases fs with
  |nil=>exact absurd rfl a5
  |cons x y=>rfl
 |_=>omega
theorem ph_fnext (H:Ph c r M X d (some p)) (h1:d.step=4) (hn:d.next≠-1):Ph c r M X ⟨d.kind,d.line,d.id,5,d.state,d.head,d.data,d.next,d.told⟩ none:=by
 cases H with
 |fra fs bs _ a1 a2 a3 a4 a5 a6 a7 a8=>exact .beq fs bs a1 rfl a4 (fun h=>hn (a7.trans (by rw [h]; rfl))) a6 a7 a8
 |_=>omega
theorem ph_bout (H:Ph c r M X d (some p)) (h1:d.step=5):Ph (upd c X none) r M X ⟨d.kind,d.line,d.id,6,1,if d.head=-1 then d.next else d.told,[],d.next,d.told⟩ none:=by
 cases H with
 |bea fs bs _ a1 a2 a3 a4 a5 a6 a7 a8 =>
  refine .unl (fs++bs) rfl (mid_out a4 (by simp [a5]) rfl ?_ (by simpa [rset] using a4.rd)) fun _=>upd_eq _ _ _
  show (if d.head=-1 then d.next else d.told)=_
  rw [a6,a7,a8,a4.rh]
  cases fs with
  |nil=>rw [if_pos (show lst [] (-1)=-1 from rfl)]; rfl
  |cons x y =>
   rw [if_neg (fun h=>by have:=lst_neg.1 h; simp at this)]
   rfl
 |_=>omega
theorem ph_sattach (H:Ph c r M X d none) (h1:d.step=2):∃ (x:Nat) (q:Cp),d.head=(x:Int)∧x≠X∧c x=some q∧∀ p:PktS,p.kind=9→p.data=q.data→p.flag=q.dirty→Ph (upd c x (some ⟨q.fwd,(X:Int),false,q.data⟩)) r M X d (some p):=by
 cases H with
 |attq xs a1 a2 a3 a4 a5 a6 =>
  obtain ⟨x,ys,rfl,e⟩:=hd_mem (e:=-1) a4
  have hx:c x≠none:=(a3.ex x).2 (by simp)
  cases hq:c x with
  |none=>exact absurd hq hx
  |some q =>
   have hxX:x≠X:=by rintro rfl; exact hx a6
   have hn:=List.nodup_cons.1 a3.nd
   have hoth:∀ k p,k≠x→c k=some p→p.dirty=false:=fun k p hk hp=>by
    rcases a3.st with ⟨-,h,-⟩ | ⟨-,-,h,-⟩ | ⟨-,z,h,-⟩
    · cases h
    · exact h k p hp
    · have:=(a3.ex k).1 (by rw [hp]; simp)
      rw [h] at this
      simp at h this
      omega
   refine ⟨x,q,a5.trans e,hxX,hq,fun p b1 b2 b3=>.atta (x::ys) p a1 a2 b1 (b2.trans (a3.dt x q hq)) ?_ a3.nd (by simp) (fun k=>?_) (fun k p hp=>?_) (fun k p hp=>?_) ?_ ⟨⟨_,upd_eq _ _ _,rfl⟩,?_⟩ a5 ?_⟩
   · rcases a3.st with ⟨-,h,-⟩ | ⟨-,-,-,h⟩ | ⟨-,z,h,h'⟩
     · cases h
     · exact .inr h
     · left
       simp at h
       obtain ⟨rfl,-⟩:=h
       rw [b3]
       exact h' q hq
   · by_cases hk:k=x
     · subst hk; simp [upd_eq]
     · rw [upd_ne hk,a3.ex k]
   · by_cases hk:k=x
     · subst hk; rw [upd_eq] at hp; obtain rfl:=Option.some.inj hp; exact a3.dt k q hq
     · rw [upd_ne hk] at hp; exact a3.dt k p hp
   · by_cases hk:k=x
     · subst hk; rw [upd_eq] at hp; obtain rfl:=Option.some.inj hp; rfl
     · rw [upd_ne hk] at hp; exact hoth k p hk hp
   · exact Fw_set hq rfl a3.fw
   · exact Bk_upd hn.1 a3.bk.2
   · rw [upd_ne (Ne.symm hxX)]; exact a6
 |_=>omega
theorem ph_spurge (H:Ph c r M X d none) (h1:d.step=3):∃ (x:Nat) (q:Cp),d.next=(x:Int)∧x≠X∧c x=some q∧∀ p:PktS,p.kind=9→p.data=q.data→p.ptr=q.fwd→Ph (upd c x none) r M X d (some p):=by
 cases H with
 |purq zs a1 a2 a3 a4 a5 a6 =>
  obtain ⟨x,ys,rfl,e⟩:=hd_mem (e:=-1) a4
  have hx:c x≠none:=a3.e2 x (by simp)
  cases hq:c x with
  |none=>exact absurd hq hx
  |some q =>
   have hxX:x≠X:=by rintro rfl; exact a6 rfl
   have hn:=List.nodup_cons.1 a3.nd
   obtain ⟨⟨q',e1,e2⟩,hfw⟩:=a3.fw
   rw [hq] at e1
   obtain rfl:=Option.some.inj e1
   have hne':∀ k p,upd c x none k=some p→k≠x∧c k=some p:=fun k p hp=>by
    by_cases hk:k=x
    · subst hk; rw [upd_eq] at hp; cases hp
    · rw [upd_ne hk] at hp; exact ⟨hk,hp⟩
   have hcl:∀ k p,upd c x none k=some p→p.dirty=false:=fun k p hp=>by
    obtain ⟨h1,h2⟩:=hne' k p hp
    cases hd:p.dirty with
    |false=>rfl
    |true=>exact absurd ((a3.dr k p h2 hd).2 x hx).symm h1
   refine ⟨x,q,a5.trans e,hxX,hq,fun p b1 b2 b3=>.pura ys p a1 a2 b1 (b3.trans e2) (b2.trans (a3.dt x q hq)) ⟨hn.2,Fw_upd hn.1 hfw,fun k hk=>?_,fun k hk=>?_,fun k p hp=>a3.dt k p (hne' k p hp).2,fun k p hp hd=>(by rw [hcl k p hp] at hd; cases hd),fun h=>?_⟩ hcl⟩
   · by_cases hkx:k=x
     · subst hkx; rw [upd_eq] at hk; exact absurd rfl hk
     · rw [upd_ne hkx] at hk
       rcases a3.e1 k hk with h | h
       · simp [hkx] at h; exact .inl h
       · exact .inr h
   · rw [upd_ne (by rintro rfl; exact hn.1 hk)]; exact a3.e2 k (by simp [hk])
   · rw [upd_ne (Ne.symm hxX)] at h; exact a3.dd h
 |_=>omega
theorem ph_sfront (H:Ph c r M X d none) (h1:d.step=4):∃ (x:Nat) (q:Cp),d.head=(x:Int)∧x≠X∧c x=some q∧∀ p:PktS,p.kind=8→Ph (upd c x (some ⟨d.next,q.back,q.dirty,q.data⟩)) r M X d (some p):=by
 cases H with
 |frq fs bs a1 a2 a3 a4 a5 a6 a7 =>
  obtain ⟨x,hx1,hx2⟩:=lst_mem (e:=-1) a4
  obtain ⟨s1,s2,s3⟩:=norm_long a3 (.inl a4)
  have hx:c x≠none:=(a3.ex x).2 (by simp [hx1])
  cases hq:c x with
  |none=>exact absurd hq hx
  |some q =>
   have hn:=a3.nd
   rw [List.nodup_append] at hn
   obtain ⟨n1,n2,n3⟩:=hn
   have hxX:x≠X:=n3 x hx1 X (by simp)
   have hxb:x∉bs:=fun h=>n3 x hx1 x (by simp [h]) rfl
   obtain ⟨w1,w2⟩:=Fw_app.1 a3.fw
   obtain ⟨v1,v2⟩:=Bk_app.1 a3.bk
   have hf:Fw (upd c x (some ⟨d.next,q.back,q.dirty,q.data⟩)) fs (hd bs (-1)):=by
    obtain ⟨gs,y,rfl⟩:∃ gs y,fs=gs++[y]:=⟨fs.dropLast,fs.getLast a4,(List.dropLast_concat_getLast a4).symm⟩
    have hy:y=x:=by
     rw [lst_app] at hx2
     have:(y:Int)=(x:Int):=hx2
     omega
    subst hy
    obtain ⟨u1,-⟩:=Fw_app.1 w1
    refine Fw_app.2 ⟨Fw_upd ?_ u1,⟨_,upd_eq _ _ _,a6⟩,trivial⟩
    intro hm
    rw [List.nodup_append] at n1
    exact n1.2.2 y hm y (by simp) rfl
   refine ⟨x,q,a5.trans hx2,hxX,hq,fun p b1=>.fra fs bs p a1 a2 b1 ⟨a3.nd,fun k=>?_,fun k p hp=>?_,fun k p hp=>?_,hf,Fw_upd hxb w2.2,Bk_set hq rfl v1,Bk_upd hxb v2.2,s1,s2,a3.rh⟩ a4 a5 a6 a7⟩
   · by_cases hk:k=x
     · subst hk; simp [upd_eq,hx1]
     · rw [upd_ne hk,a3.ex k]
   · by_cases hk:k=x
     · subst hk; rw [upd_eq] at hp; obtain rfl:=Option.some.inj hp; exact a3.dt k q hq
     · rw [upd_ne hk] at hp; exact a3.dt k p hp
   · by_cases hk:k=x
     · subst hk; rw [upd_eq] at hp; obtain rfl:=Option.some.inj hp; exact s3 k q hq
     · rw [upd_ne hk] at hp; exact s3 k p hp
 |_=>omega
theorem ph_sbehind (H:Ph c r M X d none) (h1:d.step=5):∃ (x:Nat) (q:Cp),d.next=(x:Int)∧x≠X∧c x=some q∧∀ p:PktS,p.kind=8→Ph (upd c x (some ⟨q.fwd,d.head,q.dirty,q.data⟩)) r M X d (some p):=by
 cases H with
 |beq fs bs a1 a2 a3 a4 a5 a6 a7 =>
  obtain ⟨x,ys,rfl,e⟩:=hd_mem (e:=-1) a4
  have hx:c x≠none:=(a3.ex x).2 (by simp)
  cases hq:c x with
  |none=>exact absurd hq hx
  |some q =>
   have hn:=a3.nd
   rw [List.nodup_append] at hn
   obtain ⟨n1,n2,n3⟩:=hn
   have n4:=List.nodup_cons.1 n2
   have hxX:x≠X:=fun h=>n4.1 (by rw [h]; simp)
   have hxf:x∉fs:=fun h=>n3 x h x (by simp) rfl
   have n5:=List.nodup_cons.1 n4.2
   refine ⟨x,q,a6.trans e,hxX,hq,fun p b1=>.bea fs (x::ys) p a1 a2 b1 ⟨a3.nd,fun k=>?_,fun k p hp=>?_,fun k p hp=>?_,Fw_upd hxf a3.f1,Fw_set hq rfl a3.f2,Bk_upd hxf a3.b1,⟨⟨_,upd_eq _ _ _,a5⟩,Bk_upd n5.1 a3.b2.2⟩,a3.st,a3.rd,a3.rh⟩ a4 a5 a6 a7⟩
   · by_cases hk:k=x
     · subst hk; simp [upd_eq]
     · rw [upd_ne hk,a3.ex k]
   · by_cases hk:k=x
     · subst hk; rw [upd_eq] at hp; obtain rfl:=Option.some.inj hp; exact a3.dt k q hq
     · rw [upd_ne hk] at hp; exact a3.dt k p hp
   · by_cases hk:k=x
     · subst hk; rw [upd_eq] at hp; obtain rfl:=Option.some.inj hp; exact a3.cl k q hq
     · rw [upd_ne hk] at hp; exact a3.cl k p hp
 |_=>omega
theorem ph_unlock (H:Ph c r M X d none) (h1:d.step=6):∃ xs,Norm c (rset r d) M xs:=by
 cases H with
 |unl xs a1 a2 a3=>exact ⟨xs,a2⟩
 |_=>omega
theorem norm_write {xs:List Nat} {k:Nat} {q:Cp} {D:List Int} (h:Norm c r M xs) (hq:c k=some q) (hd:q.dirty=true):Norm (upd c k (some ⟨q.fwd,q.back,true,D⟩)) r D xs:=by
 rcases h.st with ⟨-,h2,-⟩ | ⟨-,-,h2,-⟩ | ⟨s1,x,h2,h3⟩
 · subst h2
   have:=(h.ex k).1 (by rw [hq]; simp)
   cases this
 · rw [h2 k q hq] at hd; cases hd
 · subst h2
   have hk:k=x:=by simpa using (h.ex k).1 (by rw [hq]; simp)
   subst hk
   have hn:∀ j,j≠k→c j=none:=fun j hj=>none_of fun x=>hj (by simpa using (h.ex j).1 x)
   refine ⟨h.nd,fun j=>?_,fun j p hp=>?_,Fw_set hq rfl h.fw,Bk_set hq rfl h.bk,h.rh,.inr (.inr ⟨s1,k,rfl,fun p hp=>?_⟩)⟩
   · by_cases hj:j=k
     · subst hj; simp [upd_eq]
     · rw [upd_ne hj,h.ex j]
   · by_cases hj:j=k
     · subst hj; rw [upd_eq] at hp; obtain rfl:=Option.some.inj hp; rfl
     · rw [upd_ne hj,hn j hj] at hp; cases hp
   · rw [upd_eq] at hp; obtain rfl:=Option.some.inj hp; rfl
theorem ph_write {a:Option PktS} {k:Nat} {q:Cp} {D:List Int} (H:Ph c r M X d a) (hq:c k=some q) (hd:q.dirty=true) (hk:k≠X∨d.step=6):Ph (upd c k (some ⟨q.fwd,q.back,true,D⟩)) r D X d a:=by
 cases H with
 |gr xs p a1 a2 a3 a4 a5 a6=>exact .gr xs p a1 a2 a3 a4 a5 (norm_write a6 hq hd)
 |attq xs a1 a2 a3 a4 a5 a6 =>
  refine .attq xs a1 a2 (norm_write a3 hq hd) a4 a5 ?_
  rw [upd_ne (by rintro rfl; rw [hq] at a6; cases a6)]; exact a6
 |atta xs p a1 a2 a3 a4 a5 b1 b2 b3 b4 b5 b6 b7 b8 b9=>rw [b5 k q hq] at hd; cases hd
 |unl xs a1 a2 a3 =>
  refine .unl xs a1 (norm_write a2 hq hd) fun h=>?_
  have:=a3 h
  rw [upd_ne (by rintro rfl; rw [hq] at this; cases this)]; exact this
 |purq zs a1 a2 a3 a4 a5 a6 =>
  obtain ⟨d1,d2⟩:=a3.dr k q hq hd
  have hn:∀ j,j≠k→c j=none:=fun j hj=>none_of fun x=>hj (d2 j x)
  refine .purq zs a1 a2 ⟨a3.nd,Fw_set hq rfl a3.fw,fun j hj=>?_,fun j hj=>?_,fun j p hp=>?_,fun j p hp _=>?_,fun h=>?_⟩ a4 a5 a6
  · by_cases hj2:j=k
    · subst hj2; exact a3.e1 j (by rw [hq]; simp)
    · rw [upd_ne hj2] at hj; exact a3.e1 j hj
  · by_cases hj2:j=k
    · subst hj2; simp [upd_eq]
    · rw [upd_ne hj2]; exact a3.e2 j hj
  · by_cases hj2:j=k
    · subst hj2; rw [upd_eq] at hp; obtain rfl:=Option.some.inj hp; rfl
    · rw [upd_ne hj2,hn j hj2] at hp; cases hp
  · by_cases hj2:j=k
    · subst hj2
      refine ⟨d1,fun i hi=>?_⟩
      by_cases hi2:i=j
      · exact hi2
      · rw [upd_ne hi2] at hi; exact d2 i hi
    · rw [upd_ne hj2,hn j hj2] at hp; cases hp
  · rw [upd_ne (Ne.symm d1),hn X (Ne.symm d1)] at h; exact absurd rfl h
 |pura zs p a1 a2 a3 a4 a5 a6 a7=>rw [a7 k q hq] at hd; cases hd
 |frq fs bs a1 a2 a3 a4 a5 a6 a7=>exact .frq fs bs a1 a2 (norm_write a3 hq hd) a4 a5 a6 a7
 |fra fs bs p a1 a2 a3 a4 a5 a6 a7 a8=>rw [a4.cl k q hq] at hd; cases hd
 |beq fs bs a1 a2 a3 a4 a5 a6 a7=>rw [a3.cl k q hq] at hd; cases hd
 |bea fs bs p a1 a2 a3 a4 a5 a6 a7 a8=>rw [a4.cl k q hq] at hd; cases hd
theorem ph_data {a:Option PktS} {k:Nat} {q:Cp} (H:Ph c r M X d a) (hq:c k=some q):q.data=M:=by
 cases H with
 |gr xs p a1 a2 a3 a4 a5 a6=>exact a6.dt k q hq
 |attq xs a1 a2 a3 a4 a5 a6=>exact a3.dt k q hq
 |atta xs p a1 a2 a3 a4 a5 b1 b2 b3 b4 b5 b6 b7 b8 b9=>exact b4 k q hq
 |unl xs a1 a2 a3=>exact a2.dt k q hq
 |purq zs a1 a2 a3 a4 a5 a6=>exact a3.dt k q hq
 |pura zs p a1 a2 a3 a4 a5 a6 a7=>exact a6.dt k q hq
 |frq fs bs a1 a2 a3 a4 a5 a6 a7=>exact a3.dt k q hq
 |fra fs bs p a1 a2 a3 a4 a5 a6 a7 a8=>exact a4.dt k q hq
 |beq fs bs a1 a2 a3 a4 a5 a6 a7=>exact a3.dt k q hq
 |bea fs bs p a1 a2 a3 a4 a5 a6 a7 a8=>exact a4.dt k q hq
end
end
end Go.Proofs.YtcidmgkfaioceaaGreat
