/- Walks of the program's functions, and the plain laws of what they compute (part 4): Net, Star, Fab, Byt, Byh, Sea, Wir, Crs, Crw, Crp.
   Conditions: none. -/
import Derived.Laws.BytesArg
import Derived.Lib.AppendZeros
import Derived.Laws.BitsAllLaws
import Derived.Lib.Bytes
import Derived.Test.YtcidmgkfaioceaaGreatMBegins3
set_option linter.unusedVariables false
set_option linter.unusedSimpArgs false
set_option linter.unusedSectionVars false
set_option maxRecDepth 100000
set_option maxHeartbeats 4000000
namespace Go.Proofs.YtcidmgkfaioceaaGreat
section
open Go Go.RowKit
structure BoxS where
 l:List PktS
 room:Int
structure ProcS where
 ops:List OpS
 values:List Int
 begun:Bool
structure TraceS where
 l:List EventS
def QueueO (b:Nat) (c:BoxS):Option Addr×Nat→Rs:=fun (a_l,c_l)=>⟨[⟨b,#[.slice a_l c.l.length c_l,.int .i64 c.room],191⟩],[(ArrA a_l c_l c.l)]⟩
abbrev QueueA (b:Nat) (c:BoxS):Asn:=ObA (QueueO b c)
def PoolO (b:Nat) (c:BoxS):Option Addr×Nat→Rs:=fun (a_l,c_l)=>⟨[⟨b,#[.slice a_l c.l.length c_l,.int .i64 c.room],189⟩],[(ArrA a_l c_l c.l)]⟩
abbrev PoolA (b:Nat) (c:BoxS):Asn:=ObA (PoolO b c)
def ProcO (b:Nat) (c:ProcS):Option Addr×Nat×Option Addr×Nat→Rs:=fun (a_ops,c_ops,a_values,c_values)=>⟨[⟨b,#[.slice a_ops c.ops.length c_ops,.slice a_values c.values.length c_values,.bool c.begun],121⟩],[(ArrA a_ops c_ops c.ops),(ArrA a_values c_values c.values)]⟩
abbrev ProcA (b:Nat) (c:ProcS):Asn:=ObA (ProcO b c)
def TraceO (b:Nat) (c:TraceS):Option Addr×Nat→Rs:=fun (a_l,c_l)=>⟨[⟨b,#[.slice a_l c.l.length c_l],148⟩],[(ArrA a_l c_l c.l)]⟩
abbrev TraceA (b:Nat) (c:TraceS):Asn:=ObA (TraceO b c)
def quownS (p:PktS):Option (PktS) :=
 (cloneS p.data).bind fun y1_2=>some (⟨p.kind,p.src,p.dst,p.id,p.line,p.ptr,p.state,p.flag,y1_2⟩:PktS)
theorem quownF {p:PktS} {p0A:Asn} (p0a:Option Addr) (p0c:Nat) (hp0A:Rdb p0A p0a p0c p.data) {y:PktS} (H:quownS p=some y):FnY Tryz.prog 140 [.agg #[.int .i64 p.kind,.int .i64 p.src,.int .i64 p.dst,.int .i64 p.id,.int .i64 p.line,.int .i64 p.ptr,.int .i64 p.state,.bool p.flag,.slice p0a p.data.length p0c]] ⟨[],[p0A]⟩ (Z:=Option Addr×Nat) (fun y (za0,zc0)=>.agg #[.int .i64 y.kind,.int .i64 y.src,.int .i64 y.dst,.int .i64 y.id,.int .i64 y.line,.int .i64 y.ptr,.int .i64 y.state,.bool y.flag,.slice za0 y.data.length zc0]) (fun y (za0,zc0)=>⟨[],[(ArrA za0 zc0 y.data),p0A]⟩) y:=by
 unfold quownS at H
 refine xfY Tryz.func140 fun W0 F=>?_
 refine xn [] fun b0_0=>?_
 refine xn [] fun b0_1=>?_
 refine bindG H fun y1_2 hy1_2 H=>?_
 refine xc [1] [] [0] (cloneF p0a p0c hp0A hy1_2) fun ⟨t1_2_a0,t1_2_c0⟩=>?_
 exact xrY (someE H) [1,1,0] [0] [] [0,0] (t1_2_a0,t1_2_c0)
def qunewS (room:Int):Option (BoxS) :=
 letP (if (0:Int)<room then room else (0:Int)) fun u1_1=>some ({ l:=([]:List PktS),room:=u1_1 }:BoxS)
theorem qunewF {room:Int} {y:BoxS} (H:qunewS room=some y):FnY Tryz.prog 83 [.int .i64 room] ⟨[],[]⟩ (Z:=Nat) (fun y (zb0:Nat)=>.pointer (some ⟨zb0,0,none⟩)) (fun y (zb0:Nat)=>⟨[],[(QueueA zb0 y)]⟩) y:=by
 unfold qunewS at H
 refine xfY Tryz.func83 fun W0 F=>?_
 refine letG H fun u1_1 hu1_1 H=>?_
 refine xw [304] 4 (congrArg (Value.int .i64) hu1_1) ?_
 refine xn [] fun b1_3=>?_
 refine xg [] [] [] (gh_nil (α:=PktS) none) fun _=>?_
 refine xg [] [0] [0] (gh_shut (QueueO b1_3 ({ l:=([]:List PktS),room:=u1_1 }:BoxS)) (none,0)) fun _=>?_
 exact xrY (someE H) [] [] [] [0] (b1_3)
def qulenS (tc:BoxS):Option (Int) :=
 some (tc.l.length:Int)
theorem qulenF {tc:BoxS} (t:Nat) (t_a_l:Option Addr) (t_c_l:Nat) {y:Int} (H:qulenS tc=some y):FnY Tryz.prog 67 [.pointer (some ⟨t,0,none⟩)] ⟨[⟨t,#[.slice t_a_l tc.l.length t_c_l,.int .i64 tc.room],191⟩],[(ArrA t_a_l t_c_l tc.l)]⟩ (Z:=Unit) (fun y _=>.int .i64 y) (fun y _=>⟨[⟨t,#[.slice t_a_l tc.l.length t_c_l,.int .i64 tc.room],191⟩],[(ArrA t_a_l t_c_l tc.l)]⟩) y:=by
 unfold qulenS at H
 refine xfY Tryz.func67 fun W0 F=>?_
 exact xrY (someE H) [0] [] [0] [0] ()
def quroomS (tc:BoxS):Option (Int) :=
 letP (wr (tc.room - (tc.l.length:Int))) fun u1_9=>some u1_9
theorem quroomF {tc:BoxS} (t:Nat) (t_a_l:Option Addr) (t_c_l:Nat) {y:Int} (H:quroomS tc=some y):FnY Tryz.prog 139 [.pointer (some ⟨t,0,none⟩)] ⟨[⟨t,#[.slice t_a_l tc.l.length t_c_l,.int .i64 tc.room],191⟩],[(ArrA t_a_l t_c_l tc.l)]⟩ (Z:=Unit) (fun y _=>.int .i64 y) (fun y _=>⟨[⟨t,#[.slice t_a_l tc.l.length t_c_l,.int .i64 tc.room],191⟩],[(ArrA t_a_l t_c_l tc.l)]⟩) y:=by
 unfold quroomS at H
 refine xfY Tryz.func139 fun W0 F=>?_
 refine letG H fun u1_9 hu1_9 H=>?_
 refine xw [0,1,2,3,0,4,5,6,7,0,8,9,1] 12 (congrArg (Value.int .i64) hu1_9) ?_
 exact xrY (someE H) [10] [] [0] [0] ()
def quputS (tc:BoxS) (p:PktS):Option (Int×BoxS) :=
 (quroomS tc).bind fun y1_1=>(bif decide (y1_1=(0:Int)) then some ((5:Int),tc) else (quownS p).bind fun y3_6=>chk ((tc.l++([y3_6])).length≤1099511627776) (letP (tc.l++([y3_6])) fun l3_8=>some ((0:Int),({ tc with l:=l3_8 }:BoxS))))
theorem quputF {tc:BoxS} {p:PktS} {p0A:Asn} (t:Nat) (p0a:Option Addr) (p0c:Nat) (hp0A:Rdb p0A p0a p0c p.data) {y:Int×BoxS} (H:quputS tc p=some y):FnY Tryz.prog 107 [.pointer (some ⟨t,0,none⟩),.agg #[.int .i64 p.kind,.int .i64 p.src,.int .i64 p.dst,.int .i64 p.id,.int .i64 p.line,.int .i64 p.ptr,.int .i64 p.state,.bool p.flag,.slice p0a p.data.length p0c]] ⟨[],[(QueueA t tc),p0A]⟩ (Z:=Unit) (fun y _=>.int .i64 y.1) (fun y _=>⟨[],[(QueueA t y.2),p0A]⟩) y:=by
 unfold quputS at H
 refine xfY Tryz.func107 fun W0 F=>?_
 refine xn [] fun b0_0=>?_
 refine xg [] [] [0] (gh_open (QueueO t tc)) fun ⟨a_l1,c_l2⟩=>?_
 refine bindG H fun y1_1 hy1_1 H=>?_
 refine xc [] [0] [0] (quroomF t a_l1 c_l2 hy1_1) fun _=>?_
 refine xs [] H ?_ ?_
 · intro H
   refine xg [1] [0] [0] (gh_shut (QueueO t tc) (a_l1,c_l2)) fun _=>?_
   exact xrY (someE H) [] [] [] [0,0] ()
 · intro H
   refine bindG H fun y3_6 hy3_6 H=>?_
   refine xc [0,0,1,2,3,4,0,5,1,6] [] [1] (quownF p0a p0c hp0A hy3_6) fun ⟨t3_6_a0,t3_6_c0⟩=>?_
   refine xn [7] fun b3_7=>?_
   refine xg [8] [] [0] (gh_frz t3_6_a0 t3_6_c0 y3_6.data) fun _=>?_
   refine xg [] [] [0] (gh_dup t3_6_a0 t3_6_c0 y3_6.data) fun _=>?_
   refine xg [] [0] [0] (gh_one b3_7 176 y3_6 (t3_6_a0,t3_6_c0)) fun _=>?_
   refine chkG H fun q3_8_1 H=>?_
   refine letG H fun l3_8 hl3_8 H=>?_
   refine xa [] [3,0] (a:=a_l1) (l:=tc.l) (zs:=l3_8) (cap:=c_l2) (rA (some ⟨b3_7,0,none⟩) 1 ([y3_6])) hl3_8 (hl3_8▸q3_8_1) fun ⟨a3_8,c3_8⟩=>?_
   refine xg [9,10,11,0] [0] [0] (gh_shut (QueueO t ({ tc with l:=l3_8 }:BoxS)) (a3_8,c3_8)) fun _=>?_
   exact xrY (someE H) [] [] [] [0,2] ()
def qupeekS (tc:BoxS):Option (PktS×Bool) :=
 (bif decide ((tc.l.length:Int)=(0:Int)) then some ((⟨(0:Int),(0:Int),(0:Int),(0:Int),(0:Int),(0:Int),(0:Int),false,([]:List Int)⟩:PktS),false) else chk (0≤(0:Int)∧(0:Int)<(tc.l.length:Int)) (letP (nthT tc.l (0:Int)) fun x3_5=>(quownS x3_5).bind fun y3_6=>some (y3_6,true)))
theorem qupeekF {tc:BoxS} (t:Nat) (t_a_l:Option Addr) (t_c_l:Nat) {y:PktS×Bool} (H:qupeekS tc=some y):FnY Tryz.prog 236 [.pointer (some ⟨t,0,none⟩)] ⟨[⟨t,#[.slice t_a_l tc.l.length t_c_l,.int .i64 tc.room],191⟩],[(ArrA t_a_l t_c_l tc.l)]⟩ (Z:=Option Addr×Nat) (fun y (za0,zc0)=>.tuple #[.agg #[.int .i64 y.1.kind,.int .i64 y.1.src,.int .i64 y.1.dst,.int .i64 y.1.id,.int .i64 y.1.line,.int .i64 y.1.ptr,.int .i64 y.1.state,.bool y.1.flag,.slice za0 y.1.data.length zc0],.bool y.2]) (fun y (za0,zc0)=>⟨[⟨t,#[.slice t_a_l tc.l.length t_c_l,.int .i64 tc.room],191⟩],[(ArrA za0 zc0 y.1.data),(ArrA t_a_l t_c_l tc.l)]⟩) y:=by
 unfold qupeekS at H
 refine xfY Tryz.func236 fun W0 F=>?_
 refine xn [] fun b0_0=>?_
 refine xs [1] H ?_ ?_
 · intro H
   refine xg [1,0] [] [] (gh_nil (α:=Int) none) fun _=>?_
   exact xrY (someE H) [] [0] [1] [0,0] (none,0)
 · intro H
   refine chkG H fun q3_4_1 H=>?_
   refine xi [0,1] 0 (rA t_a_l t_c_l tc.l) q3_4_1 fun b1 o1 e1=>?_
   refine letG H fun x3_5 hx3_5 H=>?_
   refine xo [] [] [0] (oc_ldN (rA t_a_l t_c_l tc.l) e1 q3_4_1 hx3_5 0 9) fun z3_5_1=>?_
   refine bindG H fun y3_6 hy3_6 H=>?_
   refine xc [] [] [0] (quownF z3_5_1.1 z3_5_1.2 (rI z3_5_1.1 z3_5_1.2 x3_5.data) hy3_6) fun ⟨t3_6_a0,t3_6_c0⟩=>?_
   exact xrY (someE H) [0] [0] [1] [0,1] (t3_6_a0,t3_6_c0)
def qutakeS (tc:BoxS):Option (PktS×Bool×BoxS) :=
 (qupeekS tc).bind fun y1_1=>(bif y1_1.2 then (delPS tc.l (0:Int) (1:Int)).bind fun y3_5=>some (y1_1.1,y1_1.2,({ tc with l:=y3_5 }:BoxS)) else some (y1_1.1,y1_1.2,tc))
theorem qutakeF {tc:BoxS} (t:Nat) {y:PktS×Bool×BoxS} (H:qutakeS tc=some y):FnY Tryz.prog 217 [.pointer (some ⟨t,0,none⟩)] ⟨[],[(QueueA t tc)]⟩ (Z:=Option Addr×Nat) (fun y (za0,zc0)=>.tuple #[.agg #[.int .i64 y.1.kind,.int .i64 y.1.src,.int .i64 y.1.dst,.int .i64 y.1.id,.int .i64 y.1.line,.int .i64 y.1.ptr,.int .i64 y.1.state,.bool y.1.flag,.slice za0 y.1.data.length zc0],.bool y.2.1]) (fun y (za0,zc0)=>⟨[],[(ArrA za0 zc0 y.1.data),(QueueA t y.2.2)]⟩) y:=by
 unfold qutakeS at H
 refine xfY Tryz.func217 fun W0 F=>?_
 refine xn [] fun b0_0=>?_
 refine xg [] [] [0] (gh_open (QueueO t tc)) fun ⟨a_l1,c_l2⟩=>?_
 refine bindG H fun y1_1 hy1_1 H=>?_
 refine xc [] [0] [0] (qupeekF t a_l1 c_l2 hy1_1) fun ⟨t1_1_a0,t1_1_c0⟩=>?_
 refine xn [] fun b1_5=>?_
 refine xs [0] H ?_ ?_
 · intro H
   refine bindG H fun y3_5 hy3_5 H=>?_
   refine xc [1,1] [] [1] (delPF a_l1 c_l2 hy3_5) fun ⟨t3_5_a0,t3_5_c0⟩=>?_
   refine xg [1,0,2] [1] [0] (gh_shut (QueueO t ({ tc with l:=y3_5 }:BoxS)) (t3_5_a0,t3_5_c0)) fun _=>?_
   exact xrY (someE H) [] [1] [] [1,0] (t1_1_a0,t1_1_c0)
 · intro H
   refine xg [0,0,2] [1] [1] (gh_shut (QueueO t tc) (a_l1,c_l2)) fun _=>?_
   exact xrY (someE H) [] [1] [] [1,0] (t1_1_a0,t1_1_c0)
def poownS (p:PktS):Option (PktS) :=
 (cloneS p.data).bind fun y1_2=>some (⟨p.kind,p.src,p.dst,p.id,p.line,p.ptr,p.state,p.flag,y1_2⟩:PktS)
theorem poownF {p:PktS} {p0A:Asn} (p0a:Option Addr) (p0c:Nat) (hp0A:Rdb p0A p0a p0c p.data) {y:PktS} (H:poownS p=some y):FnY Tryz.prog 176 [.agg #[.int .i64 p.kind,.int .i64 p.src,.int .i64 p.dst,.int .i64 p.id,.int .i64 p.line,.int .i64 p.ptr,.int .i64 p.state,.bool p.flag,.slice p0a p.data.length p0c]] ⟨[],[p0A]⟩ (Z:=Option Addr×Nat) (fun y (za0,zc0)=>.agg #[.int .i64 y.kind,.int .i64 y.src,.int .i64 y.dst,.int .i64 y.id,.int .i64 y.line,.int .i64 y.ptr,.int .i64 y.state,.bool y.flag,.slice za0 y.data.length zc0]) (fun y (za0,zc0)=>⟨[],[(ArrA za0 zc0 y.data),p0A]⟩) y:=by
 unfold poownS at H
 refine xfY Tryz.func176 fun W0 F=>?_
 refine xn [] fun b0_0=>?_
 refine xn [] fun b0_1=>?_
 refine bindG H fun y1_2 hy1_2 H=>?_
 refine xc [1] [] [0] (cloneF p0a p0c hp0A hy1_2) fun ⟨t1_2_a0,t1_2_c0⟩=>?_
 exact xrY (someE H) [1,1,0] [0] [] [0,0] (t1_2_a0,t1_2_c0)
def ponewS (room:Int):Option (BoxS) :=
 letP (if (0:Int)<room then room else (0:Int)) fun u1_1=>some ({ l:=([]:List PktS),room:=u1_1 }:BoxS)
theorem ponewF {room:Int} {y:BoxS} (H:ponewS room=some y):FnY Tryz.prog 82 [.int .i64 room] ⟨[],[]⟩ (Z:=Nat) (fun y (zb0:Nat)=>.pointer (some ⟨zb0,0,none⟩)) (fun y (zb0:Nat)=>⟨[],[(PoolA zb0 y)]⟩) y:=by
 unfold ponewS at H
 refine xfY Tryz.func82 fun W0 F=>?_
 refine letG H fun u1_1 hu1_1 H=>?_
 refine xw [304] 4 (congrArg (Value.int .i64) hu1_1) ?_
 refine xn [] fun b1_3=>?_
 refine xg [] [] [] (gh_nil (α:=PktS) none) fun _=>?_
 refine xg [] [0] [0] (gh_shut (PoolO b1_3 ({ l:=([]:List PktS),room:=u1_1 }:BoxS)) (none,0)) fun _=>?_
 exact xrY (someE H) [] [] [] [0] (b1_3)
def polenS (tc:BoxS):Option (Int) :=
 some (tc.l.length:Int)
theorem polenF {tc:BoxS} (t:Nat) (t_a_l:Option Addr) (t_c_l:Nat) {y:Int} (H:polenS tc=some y):FnY Tryz.prog 65 [.pointer (some ⟨t,0,none⟩)] ⟨[⟨t,#[.slice t_a_l tc.l.length t_c_l,.int .i64 tc.room],189⟩],[(ArrA t_a_l t_c_l tc.l)]⟩ (Z:=Unit) (fun y _=>.int .i64 y) (fun y _=>⟨[⟨t,#[.slice t_a_l tc.l.length t_c_l,.int .i64 tc.room],189⟩],[(ArrA t_a_l t_c_l tc.l)]⟩) y:=by
 unfold polenS at H
 refine xfY Tryz.func65 fun W0 F=>?_
 exact xrY (someE H) [0] [] [0] [0] ()
def poroomS (tc:BoxS):Option (Int) :=
 letP (wr (tc.room - (tc.l.length:Int))) fun u1_9=>some u1_9
theorem poroomF {tc:BoxS} (t:Nat) (t_a_l:Option Addr) (t_c_l:Nat) {y:Int} (H:poroomS tc=some y):FnY Tryz.prog 196 [.pointer (some ⟨t,0,none⟩)] ⟨[⟨t,#[.slice t_a_l tc.l.length t_c_l,.int .i64 tc.room],189⟩],[(ArrA t_a_l t_c_l tc.l)]⟩ (Z:=Unit) (fun y _=>.int .i64 y) (fun y _=>⟨[⟨t,#[.slice t_a_l tc.l.length t_c_l,.int .i64 tc.room],189⟩],[(ArrA t_a_l t_c_l tc.l)]⟩) y:=by
 unfold poroomS at H
 refine xfY Tryz.func196 fun W0 F=>?_
 refine letG H fun u1_9 hu1_9 H=>?_
 refine xw [0,1,2,3,0,4,5,6,7,0,8,9,1] 12 (congrArg (Value.int .i64) hu1_9) ?_
 exact xrY (someE H) [10] [] [0] [0] ()
def poputS (tc:BoxS) (p:PktS):Option (Int×BoxS) :=
 (poroomS tc).bind fun y1_1=>(bif decide (y1_1=(0:Int)) then some ((5:Int),tc) else (poownS p).bind fun y3_6=>chk ((tc.l++([y3_6])).length≤1099511627776) (letP (tc.l++([y3_6])) fun l3_8=>some ((0:Int),({ tc with l:=l3_8 }:BoxS))))
theorem poputF {tc:BoxS} {p:PktS} {p0A:Asn} (t:Nat) (p0a:Option Addr) (p0c:Nat) (hp0A:Rdb p0A p0a p0c p.data) {y:Int×BoxS} (H:poputS tc p=some y):FnY Tryz.prog 199 [.pointer (some ⟨t,0,none⟩),.agg #[.int .i64 p.kind,.int .i64 p.src,.int .i64 p.dst,.int .i64 p.id,.int .i64 p.line,.int .i64 p.ptr,.int .i64 p.state,.bool p.flag,.slice p0a p.data.length p0c]] ⟨[],[(PoolA t tc),p0A]⟩ (Z:=Unit) (fun y _=>.int .i64 y.1) (fun y _=>⟨[],[(PoolA t y.2),p0A]⟩) y:=by
 unfold poputS at H
 refine xfY Tryz.func199 fun W0 F=>?_
 refine xn [] fun b0_0=>?_
 refine xg [] [] [0] (gh_open (PoolO t tc)) fun ⟨a_l1,c_l2⟩=>?_
 refine bindG H fun y1_1 hy1_1 H=>?_
 refine xc [] [0] [0] (poroomF t a_l1 c_l2 hy1_1) fun _=>?_
 refine xs [] H ?_ ?_
 · intro H
   refine xg [1] [0] [0] (gh_shut (PoolO t tc) (a_l1,c_l2)) fun _=>?_
   exact xrY (someE H) [] [] [] [0,0] ()
 · intro H
   refine bindG H fun y3_6 hy3_6 H=>?_
   refine xc [0,0,1,2,3,4,0,5,1,6] [] [1] (poownF p0a p0c hp0A hy3_6) fun ⟨t3_6_a0,t3_6_c0⟩=>?_
   refine xn [7] fun b3_7=>?_
   refine xg [8] [] [0] (gh_frz t3_6_a0 t3_6_c0 y3_6.data) fun _=>?_
   refine xg [] [] [0] (gh_dup t3_6_a0 t3_6_c0 y3_6.data) fun _=>?_
   refine xg [] [0] [0] (gh_one b3_7 176 y3_6 (t3_6_a0,t3_6_c0)) fun _=>?_
   refine chkG H fun q3_8_1 H=>?_
   refine letG H fun l3_8 hl3_8 H=>?_
   refine xa [] [3,0] (a:=a_l1) (l:=tc.l) (zs:=l3_8) (cap:=c_l2) (rA (some ⟨b3_7,0,none⟩) 1 ([y3_6])) hl3_8 (hl3_8▸q3_8_1) fun ⟨a3_8,c3_8⟩=>?_
   refine xg [9,10,11,0] [0] [0] (gh_shut (PoolO t ({ tc with l:=l3_8 }:BoxS)) (a3_8,c3_8)) fun _=>?_
   exact xrY (someE H) [] [] [] [0,2] ()
def pogetS_j0 (at_:Int) (tc:BoxS) (e0_16:Bool):Option (PktS×Bool) :=
 (bif e0_16 then some ((⟨(0:Int),(0:Int),(0:Int),(0:Int),(0:Int),(0:Int),(0:Int),false,([]:List Int)⟩:PktS),false) else chk (0≤at_∧at_<(tc.l.length:Int)) (letP (nthT tc.l at_) fun x3_6=>(poownS x3_6).bind fun y3_7=>some (y3_7,true)))
def pogetS (tc:BoxS) (at_:Int):Option (PktS×Bool) :=
 (bif decide (at_<(0:Int)) then (pogetS_j0 at_ tc) true else (pogetS_j0 at_ tc) (decide ((tc.l.length:Int)≤at_)))
theorem pogetF {tc:BoxS} {at_:Int} (t:Nat) (t_a_l:Option Addr) (t_c_l:Nat) {y:PktS×Bool} (H:pogetS tc at_=some y):FnY Tryz.prog 135 [.pointer (some ⟨t,0,none⟩),.int .i64 at_] ⟨[⟨t,#[.slice t_a_l tc.l.length t_c_l,.int .i64 tc.room],189⟩],[(ArrA t_a_l t_c_l tc.l)]⟩ (Z:=Option Addr×Nat) (fun y (za0,zc0)=>.tuple #[.agg #[.int .i64 y.1.kind,.int .i64 y.1.src,.int .i64 y.1.dst,.int .i64 y.1.id,.int .i64 y.1.line,.int .i64 y.1.ptr,.int .i64 y.1.state,.bool y.1.flag,.slice za0 y.1.data.length zc0],.bool y.2]) (fun y (za0,zc0)=>⟨[⟨t,#[.slice t_a_l tc.l.length t_c_l,.int .i64 tc.room],189⟩],[(ArrA za0 zc0 y.1.data),(ArrA t_a_l t_c_l tc.l)]⟩) y:=by
 unfold pogetS at H
 refine xfY Tryz.func135 fun W0 F=>?_
 refine xn [] fun b0_0=>?_
 refine xj [101] (ι:=Bool) (fun e0_16=>⟨[(0,.pointer (some ⟨t,0,none⟩)),(1,.int .i64 at_),(4,.pointer (some ⟨b0_0,0,none⟩)),(16,.bool e0_16)],[⟨b0_0,#[.int .i64 (0),.int .i64 (0),.int .i64 (0),.int .i64 (0),.int .i64 (0),.int .i64 (0),.int .i64 (0),.bool false,.slice none 0 0],176⟩,⟨t,#[.slice t_a_l tc.l.length t_c_l,.int .i64 tc.room],189⟩],[(ArrA t_a_l t_c_l tc.l)]⟩) (fun e0_16=>pogetS_j0 at_ tc e0_16=some y) ?_ ?_
 · rintro e0_16 H
   replace H:pogetS_j0 at_ tc e0_16=some y:=H
   rw [pogetS_j0] at H
   refine xs [] H ?_ ?_
   · intro H
     refine xg [1,0] [] [] (gh_nil (α:=Int) none) fun _=>?_
     exact xrY (someE H) [] [0] [1] [0,0] (none,0)
   · intro H
     refine chkG H fun q3_5_1 H=>?_
     refine xi [0,1] 0 (rA t_a_l t_c_l tc.l) q3_5_1 fun b1 o1 e1=>?_
     refine letG H fun x3_6 hx3_6 H=>?_
     refine xo [] [] [0] (oc_ldN (rA t_a_l t_c_l tc.l) e1 q3_5_1 hx3_6 0 9) fun z3_6_1=>?_
     refine bindG H fun y3_7 hy3_7 H=>?_
     refine xc [] [] [0] (poownF z3_6_1.1 z3_6_1.2 (rI z3_6_1.1 z3_6_1.2 x3_6.data) hy3_7) fun ⟨t3_7_a0,t3_7_c0⟩=>?_
     exact xrY (someE H) [0] [0] [1] [0,1] (t3_7_a0,t3_7_c0)
 · intro N0 hN0
   refine xs [] H ?_ ?_
   · intro H
     exact xe [0,0,0,0,0,0,0,1] _ [0,0] [0] (hN0 (true) H)
   · intro H
     exact xe [1,1,1,1,1,1,1,1,0] _ [0,0] [0] (hN0 (decide ((tc.l.length:Int)≤at_)) H)
def poremS (tc:BoxS) (at_:Int):Option (PktS×Bool×BoxS) :=
 (pogetS tc at_).bind fun y1_2=>(bif y1_2.2 then (delPS tc.l at_ (wr (at_+(1:Int)))).bind fun y3_8=>some (y1_2.1,y1_2.2,({ tc with l:=y3_8 }:BoxS)) else some (y1_2.1,y1_2.2,tc))
theorem poremF {tc:BoxS} {at_:Int} (t:Nat) {y:PktS×Bool×BoxS} (H:poremS tc at_=some y):FnY Tryz.prog 109 [.pointer (some ⟨t,0,none⟩),.int .i64 at_] ⟨[],[(PoolA t tc)]⟩ (Z:=Option Addr×Nat) (fun y (za0,zc0)=>.tuple #[.agg #[.int .i64 y.1.kind,.int .i64 y.1.src,.int .i64 y.1.dst,.int .i64 y.1.id,.int .i64 y.1.line,.int .i64 y.1.ptr,.int .i64 y.1.state,.bool y.1.flag,.slice za0 y.1.data.length zc0],.bool y.2.1]) (fun y (za0,zc0)=>⟨[],[(ArrA za0 zc0 y.1.data),(PoolA t y.2.2)]⟩) y:=by
 unfold poremS at H
 refine xfY Tryz.func109 fun W0 F=>?_
 refine xn [] fun b0_0=>?_
 refine xg [] [] [0] (gh_open (PoolO t tc)) fun ⟨a_l1,c_l2⟩=>?_
 refine bindG H fun y1_2 hy1_2 H=>?_
 refine xc [] [0] [0] (pogetF t a_l1 c_l2 hy1_2) fun ⟨t1_2_a0,t1_2_c0⟩=>?_
 refine xn [] fun b1_6=>?_
 refine xs [0] H ?_ ?_
 · intro H
   refine bindG H fun y3_8 hy3_8 H=>?_
   refine xc [1,1,1] [] [1] (delPF a_l1 c_l2 hy3_8) fun ⟨t3_8_a0,t3_8_c0⟩=>?_
   refine xg [1,0,2] [1] [0] (gh_shut (PoolO t ({ tc with l:=y3_8 }:BoxS)) (t3_8_a0,t3_8_c0)) fun _=>?_
   exact xrY (someE H) [] [1] [] [1,0] (t1_2_a0,t1_2_c0)
 · intro H
   refine xg [0,0,2] [1] [1] (gh_shut (PoolO t tc) (a_l1,c_l2)) fun _=>?_
   exact xrY (someE H) [] [1] [] [1,0] (t1_2_a0,t1_2_c0)
def prnewS (ops:List OpS):Option (ProcS) :=
 (cloneOS ops).bind fun y1_1=>some ({ ops:=y1_1,values:=([]:List Int),begun:=false }:ProcS)
theorem prnewF {ops:List OpS} {opsA:Asn} (opsa:Option Addr) (opsc:Nat) (hopsA:Rdb opsA opsa opsc ops) {y:ProcS} (H:prnewS ops=some y):FnY Tryz.prog 85 [.slice opsa ops.length opsc] ⟨[],[opsA]⟩ (Z:=Nat) (fun y (zb0:Nat)=>.pointer (some ⟨zb0,0,none⟩)) (fun y (zb0:Nat)=>⟨[],[(ProcA zb0 y),opsA]⟩) y:=by
 unfold prnewS at H
 refine xfY Tryz.func85 fun W0 F=>?_
 refine bindG H fun y1_1 hy1_1 H=>?_
 refine xc [] [] [0] (cloneOF opsa opsc hopsA hy1_1) fun ⟨t1_1_a0,t1_1_c0⟩=>?_
 refine xn [] fun b1_3=>?_
 refine xg [] [] [] (gh_nil (α:=Int) none) fun _=>?_
 refine xg [] [0] [1,0] (gh_shut (ProcO b1_3 ({ ops:=y1_1,values:=([]:List Int),begun:=false }:ProcS)) (t1_1_a0,t1_1_c0,none,0)) fun _=>?_
 exact xrY (someE H) [] [] [] [0,0] (b1_3)
def prleftS (tc:ProcS):Option (Int) :=
 letP (wr ((tc.ops.length:Int) - (tc.values.length:Int))) fun u1_10=>some u1_10
theorem prleftF {tc:ProcS} (t:Nat) (t_a_ops:Option Addr) (t_c_ops:Nat) (t_a_values:Option Addr) (t_c_values:Nat) {y:Int} (H:prleftS tc=some y):FnY Tryz.prog 59 [.pointer (some ⟨t,0,none⟩)] ⟨[⟨t,#[.slice t_a_ops tc.ops.length t_c_ops,.slice t_a_values tc.values.length t_c_values,.bool tc.begun],121⟩],[(ArrA t_a_ops t_c_ops tc.ops),(ArrA t_a_values t_c_values tc.values)]⟩ (Z:=Unit) (fun y _=>.int .i64 y) (fun y _=>⟨[⟨t,#[.slice t_a_ops tc.ops.length t_c_ops,.slice t_a_values tc.values.length t_c_values,.bool tc.begun],121⟩],[(ArrA t_a_ops t_c_ops tc.ops),(ArrA t_a_values t_c_values tc.values)]⟩) y:=by
 unfold prleftS at H
 refine xfY Tryz.func59 fun W0 F=>?_
 refine letG H fun u1_10 hu1_10 H=>?_
 refine xw [0,1,2,3,0,4,5,6,7,8,0,9,10,1] 13 (congrArg (Value.int .i64) hu1_10) ?_
 exact xrY (someE H) [11] [] [0] [0,0] ()
def prcurS (tc:ProcS):Option (OpS×Int×Bool) :=
 (prleftS tc).bind fun y1_1=>(bif decide (y1_1=(0:Int)) then some ((⟨(0:Int),(0:Int),(0:Int)⟩:OpS),(0:Int),false) else chk (0≤(tc.values.length:Int)∧(tc.values.length:Int)<(tc.ops.length:Int)) (some ((nthT tc.ops (tc.values.length:Int)),(tc.values.length:Int),true)))
theorem prcurF {tc:ProcS} (t:Nat) (t_a_ops:Option Addr) (t_c_ops:Nat) (t_a_values:Option Addr) (t_c_values:Nat) {y:OpS×Int×Bool} (H:prcurS tc=some y):FnY Tryz.prog 144 [.pointer (some ⟨t,0,none⟩)] ⟨[⟨t,#[.slice t_a_ops tc.ops.length t_c_ops,.slice t_a_values tc.values.length t_c_values,.bool tc.begun],121⟩],[(ArrA t_a_ops t_c_ops tc.ops),(ArrA t_a_values t_c_values tc.values)]⟩ (Z:=Unit) (fun y _=>.tuple #[.agg #[.int .i64 y.1.kind,.int .i64 y.1.addr,.int .i64 y.1.value],.int .i64 y.2.1,.bool y.2.2]) (fun y _=>⟨[⟨t,#[.slice t_a_ops tc.ops.length t_c_ops,.slice t_a_values tc.values.length t_c_values,.bool tc.begun],121⟩],[(ArrA t_a_ops t_c_ops tc.ops),(ArrA t_a_values t_c_values tc.values)]⟩) y:=by
 unfold prcurS at H
 refine xfY Tryz.func144 fun W0 F=>?_
 refine xn [] fun b0_0=>?_
 refine bindG H fun y1_1 hy1_1 H=>?_
 refine xc [] [1] [0,0] (prleftF t t_a_ops t_c_ops t_a_values t_c_values hy1_1) fun _=>?_
 refine xs [] H ?_ ?_
 · intro H
   exact xrY (someE H) [1,1] [1] [0] [0,0] ()
 · intro H
   refine chkG H fun q3_9_1 H=>?_
   refine xi [0,0,1,2,3,0,4,5,6,7,0,8,9] 0 (rA t_a_ops t_c_ops tc.ops) q3_9_1 fun b1 o1 e1=>?_
   refine xpl [10] 0 (ol_ldN (rA t_a_ops t_c_ops tc.ops) e1 q3_9_1 0 3 (fun _=>rfl)) ?_
   exact xrY (someE H) [11,12,13,14,0,15,16,1,17,18] [1] [0] [0,0] ()
def prbegunS (tc:ProcS):Option (Bool) :=
 some tc.begun
theorem prbegunF {tc:ProcS} (t:Nat) (t_a_ops:Option Addr) (t_c_ops:Nat) (t_a_values:Option Addr) (t_c_values:Nat) {y:Bool} (H:prbegunS tc=some y):FnY Tryz.prog 63 [.pointer (some ⟨t,0,none⟩)] ⟨[⟨t,#[.slice t_a_ops tc.ops.length t_c_ops,.slice t_a_values tc.values.length t_c_values,.bool tc.begun],121⟩],[(ArrA t_a_ops t_c_ops tc.ops),(ArrA t_a_values t_c_values tc.values)]⟩ (Z:=Unit) (fun y _=>.bool y) (fun y _=>⟨[⟨t,#[.slice t_a_ops tc.ops.length t_c_ops,.slice t_a_values tc.values.length t_c_values,.bool tc.begun],121⟩],[(ArrA t_a_ops t_c_ops tc.ops),(ArrA t_a_values t_c_values tc.values)]⟩) y:=by
 unfold prbegunS at H
 refine xfY Tryz.func63 fun W0 F=>?_
 exact xrY (someE H) [0] [] [0] [0,0] ()
def prbeginS (tc:ProcS):Option (Int×ProcS) :=
 (bif tc.begun then some ((6:Int),tc) else (prleftS tc).bind fun y1_6=>(bif decide (y1_6=(0:Int)) then some ((6:Int),tc) else some ((0:Int),({ tc with begun:=true }:ProcS))))
theorem prbeginF {tc:ProcS} (t:Nat) {y:Int×ProcS} (H:prbeginS tc=some y):FnY Tryz.prog 154 [.pointer (some ⟨t,0,none⟩)] ⟨[],[(ProcA t tc)]⟩ (Z:=Unit) (fun y _=>.int .i64 y.1) (fun y _=>⟨[],[(ProcA t y.2)]⟩) y:=by
 unfold prbeginS at H
 refine xfY Tryz.func154 fun W0 F=>?_
 refine xg [] [] [0] (gh_open (ProcO t tc)) fun ⟨a_ops1,c_ops2,a_values3,c_values4⟩=>?_
 refine xs [0] H ?_ ?_
 · intro H
   refine xg [0,0,0,1,1] [0] [0,0] (gh_shut (ProcO t tc) (a_ops1,c_ops2,a_values3,c_values4)) fun _=>?_
   exact xrY (someE H) [] [] [] [0] ()
 · intro H
   refine bindG H fun y1_6 hy1_6 H=>?_
   refine xc [1,1] [0] [0,0] (prleftF t a_ops1 c_ops2 a_values3 c_values4 hy1_6) fun _=>?_
   refine xs [1,0] H ?_ ?_
   · intro H
     refine xg [1] [0] [0,0] (gh_shut (ProcO t tc) (a_ops1,c_ops2,a_values3,c_values4)) fun _=>?_
     exact xrY (someE H) [] [] [] [0] ()
   · intro H
     refine xg [0,0] [0] [0,0] (gh_shut (ProcO t ({ tc with begun:=true }:ProcS)) (a_ops1,c_ops2,a_values3,c_values4)) fun _=>?_
     exact xrY (someE H) [] [] [] [0] ()
def prendS (tc:ProcS) (value:Int):Option (Int×ProcS) :=
 (bif !tc.begun then some ((6:Int),tc) else chk ((tc.values++([value])).length≤1099511627776) (letP (tc.values++([value])) fun l3_8=>some ((0:Int),({ tc with values:=l3_8,begun:=false }:ProcS))))
theorem prendF {tc:ProcS} {value:Int} (t:Nat) {y:Int×ProcS} (H:prendS tc value=some y):FnY Tryz.prog 190 [.pointer (some ⟨t,0,none⟩),.int .i64 value] ⟨[],[(ProcA t tc)]⟩ (Z:=Unit) (fun y _=>.int .i64 y.1) (fun y _=>⟨[],[(ProcA t y.2)]⟩) y:=by
 unfold prendS at H
 refine xfY Tryz.func190 fun W0 F=>?_
 refine xg [] [] [0] (gh_open (ProcO t tc)) fun ⟨a_ops1,c_ops2,a_values3,c_values4⟩=>?_
 refine xs [0] H ?_ ?_
 · intro H
   refine xg [1] [0] [0,0] (gh_shut (ProcO t tc) (a_ops1,c_ops2,a_values3,c_values4)) fun _=>?_
   exact xrY (someE H) [] [] [] [0] ()
 · intro H
   refine xn [0,0] fun b3_7=>?_
   refine xg [] [0] [2] (gh_one b3_7 3 (value:Int) ()) fun _=>?_
   refine chkG H fun q3_8_1 H=>?_
   refine letG H fun l3_8 hl3_8 H=>?_
   refine xa [] [2,0] (a:=a_values3) (l:=tc.values) (zs:=l3_8) (cap:=c_values4) (rA (some ⟨b3_7,0,none⟩) 1 ([value])) hl3_8 (hl3_8▸q3_8_1) fun ⟨a3_8,c3_8⟩=>?_
   refine xg [0,0] [0] [2,0] (gh_shut (ProcO t ({ tc with values:=l3_8,begun:=false }:ProcS)) (a_ops1,c_ops2,a3_8,c3_8)) fun _=>?_
   exact xrY (someE H) [] [] [] [0] ()
def prvalS (tc:ProcS):Option (List Int) :=
 (cloneS tc.values).bind fun y1_4=>some y1_4
theorem prvalF {tc:ProcS} (t:Nat) (t_a_ops:Option Addr) (t_c_ops:Nat) (t_a_values:Option Addr) (t_c_values:Nat) {y:List Int} (H:prvalS tc=some y):FnY Tryz.prog 17 [.pointer (some ⟨t,0,none⟩)] ⟨[⟨t,#[.slice t_a_ops tc.ops.length t_c_ops,.slice t_a_values tc.values.length t_c_values,.bool tc.begun],121⟩],[(ArrA t_a_ops t_c_ops tc.ops),(ArrA t_a_values t_c_values tc.values)]⟩ (Z:=Option Addr×Nat) (fun y (za0,zc0)=>.slice za0 y.length zc0) (fun y (za0,zc0)=>⟨[⟨t,#[.slice t_a_ops tc.ops.length t_c_ops,.slice t_a_values tc.values.length t_c_values,.bool tc.begun],121⟩],[(ArrA za0 zc0 y),(ArrA t_a_ops t_c_ops tc.ops),(ArrA t_a_values t_c_values tc.values)]⟩) y:=by
 unfold prvalS at H
 refine xfY Tryz.func17 fun W0 F=>?_
 refine bindG H fun y1_4 hy1_4 H=>?_
 refine xc [0] [] [1] (cloneF t_a_values t_c_values (rA t_a_values t_c_values tc.values) hy1_4) fun ⟨t1_4_a0,t1_4_c0⟩=>?_
 exact xrY (someE H) [] [] [0] [0,1,0] (t1_4_a0,t1_4_c0)
def trnewS:Option (TraceS) :=
 some ({ l:=([]:List EventS) }:TraceS)
theorem trnewF {y:TraceS} (H:trnewS=some y):FnY Tryz.prog 41 [] ⟨[],[]⟩ (Z:=Nat) (fun y (zb0:Nat)=>.pointer (some ⟨zb0,0,none⟩)) (fun y (zb0:Nat)=>⟨[],[(TraceA zb0 y)]⟩) y:=by
 unfold trnewS at H
 refine xfY Tryz.func41 fun W0 F=>?_
 refine xn [] fun b1_1=>?_
 refine xg [] [] [] (gh_nil (α:=EventS) none) fun _=>?_
 refine xg [] [0] [0] (gh_shut (TraceO b1_1 ({ l:=([]:List EventS) }:TraceS)) (none,0)) fun _=>?_
 exact xrY (someE H) [] [] [] [0] (b1_1)
def trbeginS (tc:TraceS) (node:Int) (index:Int):Option (TraceS) :=
 chk ((tc.l++([(⟨node,index,false,(0:Int)⟩:EventS)])).length≤1099511627776) (letP (tc.l++([(⟨node,index,false,(0:Int)⟩:EventS)])) fun l0_9=>some ({ l:=l0_9 }:TraceS))
theorem trbeginF {tc:TraceS} {node:Int} {index:Int} (t:Nat) {y:TraceS} (H:trbeginS tc node index=some y):FnY Tryz.prog 155 [.pointer (some ⟨t,0,none⟩),.int .i64 node,.int .i64 index] ⟨[],[(TraceA t tc)]⟩ (Z:=Unit) (fun y _=>.tuple #[]) (fun y _=>⟨[],[(TraceA t y)]⟩) y:=by
 unfold trbeginS at H
 refine xfY Tryz.func155 fun W0 F=>?_
 refine xg [] [] [0] (gh_open (TraceO t tc)) fun ⟨a_l1,c_l2⟩=>?_
 refine xn [0] fun b0_8=>?_
 refine xg [] [0] [1] (gh_one b0_8 95 (⟨node,index,false,(0:Int)⟩:EventS) ()) fun _=>?_
 refine chkG H fun q0_9_1 H=>?_
 refine letG H fun l0_9 hl0_9 H=>?_
 refine xa [] [1,0] (a:=a_l1) (l:=tc.l) (zs:=l0_9) (cap:=c_l2) (rA (some ⟨b0_8,0,none⟩) 1 ([(⟨node,index,false,(0:Int)⟩:EventS)])) hl0_9 (hl0_9▸q0_9_1) fun ⟨a0_9,c0_9⟩=>?_
 refine xg [0] [0] [0] (gh_shut (TraceO t ({ l:=l0_9 }:TraceS)) (a0_9,c0_9)) fun _=>?_
 exact xrY (someE H) [] [] [] [0] ()
def trendS (tc:TraceS) (node:Int) (index:Int) (value:Int):Option (TraceS) :=
 chk ((tc.l++([(⟨node,index,true,value⟩:EventS)])).length≤1099511627776) (letP (tc.l++([(⟨node,index,true,value⟩:EventS)])) fun l0_10=>some ({ l:=l0_10 }:TraceS))
theorem trendF {tc:TraceS} {node:Int} {index:Int} {value:Int} (t:Nat) {y:TraceS} (H:trendS tc node index value=some y):FnY Tryz.prog 191 [.pointer (some ⟨t,0,none⟩),.int .i64 node,.int .i64 index,.int .i64 value] ⟨[],[(TraceA t tc)]⟩ (Z:=Unit) (fun y _=>.tuple #[]) (fun y _=>⟨[],[(TraceA t y)]⟩) y:=by
 unfold trendS at H
 refine xfY Tryz.func191 fun W0 F=>?_
 refine xg [] [] [0] (gh_open (TraceO t tc)) fun ⟨a_l1,c_l2⟩=>?_
 refine xn [0] fun b0_9=>?_
 refine xg [] [0] [1] (gh_one b0_9 95 (⟨node,index,true,value⟩:EventS) ()) fun _=>?_
 refine chkG H fun q0_10_1 H=>?_
 refine letG H fun l0_10 hl0_10 H=>?_
 refine xa [] [1,0] (a:=a_l1) (l:=tc.l) (zs:=l0_10) (cap:=c_l2) (rA (some ⟨b0_9,0,none⟩) 1 ([(⟨node,index,true,value⟩:EventS)])) hl0_10 (hl0_10▸q0_10_1) fun ⟨a0_10,c0_10⟩=>?_
 refine xg [0] [0] [0] (gh_shut (TraceO t ({ l:=l0_10 }:TraceS)) (a0_10,c0_10)) fun _=>?_
 exact xrY (someE H) [] [] [] [0] ()
def trevS (tc:TraceS):Option (List EventS) :=
 (cloneES tc.l).bind fun y1_4=>some y1_4
theorem trevF {tc:TraceS} (t:Nat) (t_a_l:Option Addr) (t_c_l:Nat) {y:List EventS} (H:trevS tc=some y):FnY Tryz.prog 30 [.pointer (some ⟨t,0,none⟩)] ⟨[⟨t,#[.slice t_a_l tc.l.length t_c_l],148⟩],[(ArrA t_a_l t_c_l tc.l)]⟩ (Z:=Option Addr×Nat) (fun y (za0,zc0)=>.slice za0 y.length zc0) (fun y (za0,zc0)=>⟨[⟨t,#[.slice t_a_l tc.l.length t_c_l],148⟩],[(ArrA za0 zc0 y),(ArrA t_a_l t_c_l tc.l)]⟩) y:=by
 unfold trevS at H
 refine xfY Tryz.func30 fun W0 F=>?_
 refine bindG H fun y1_4 hy1_4 H=>?_
 refine xc [0] [] [0] (cloneEF t_a_l t_c_l (rA t_a_l t_c_l tc.l) hy1_4) fun ⟨t1_4_a0,t1_4_c0⟩=>?_
 exact xrY (someE H) [] [] [0] [0,0] (t1_4_a0,t1_4_c0)
end
section
open Go Go.RowKit
class So (α:Type) where
 X:Type
 asn:α→X→List Asn
 d:α
 x0:X
structure PtrR where
 b:Nat
structure AskR where
 p:Nat
 q:Nat
structure PortR where
 rp:Nat
 rq:Nat
 ap:Nat
 aq:Nat
instance rwPtrR:Rw PtrR:=⟨Unit,1,fun x _=>[blk x.b],fun _ _=>Asn.pure True,⟨0⟩,fun _ _=>rfl,fun _ _=>rfl,fun _ _ _ _ _ h=>h⟩
instance rwAskR:Rw AskR:=⟨Unit,2,fun x _=>[blk x.p,blk x.q],fun _ _=>Asn.pure True,⟨0,0⟩,fun _ _=>rfl,fun _ _=>rfl,fun _ _ _ _ _ h=>h⟩
instance rwPortR:Rw PortR:=⟨Unit,4,fun x _=>[blk x.rp,blk x.rq,blk x.ap,blk x.aq],fun _ _=>Asn.pure True,⟨0,0,0,0⟩,fun _ _=>rfl,fun _ _=>rfl,fun _ _ _ _ _ h=>h⟩
def asks:List PortR→List AskR
 |[]=>[]
 |p::r=>⟨p.rp,p.rq⟩::⟨p.ap,p.aq⟩::asks r
theorem asks_len:∀ {r:List PortR},(asks r).length=2*r.length
 |[]=>rfl
 |p::r=>by simp only [asks,List.length_cons,asks_len (r:=r)]; omega
theorem asks_half {r:List PortR} {n:Nat} (h:(asks r).length=n):r.length=n / 2:=by rw [asks_len] at h; omega
theorem asks_snoc:∀ (r:List PortR) (p:PortR),asks r++[⟨p.rp,p.rq⟩]++[⟨p.ap,p.aq⟩]=asks (r++[p])
 |[],p=>rfl
 |q::r,p=>by simp only [asks,List.cons_append,← asks_snoc r p]
theorem asks_get:∀ (r:List PortR) (n:Nat),(asks r)[2*n]?=r[n]?.map (fun p=>⟨p.rp,p.rq⟩)∧(asks r)[2*n+1]?=r[n]?.map (fun p=>⟨p.ap,p.aq⟩)
 |[],n=>by simp [asks]
 |p::r,0=>by simp [asks]
 |p::r,n+1=>by
  have:=asks_get r n
  simp only [asks,show 2*(n+1)=2*n+1+1 by omega,List.getElem?_cons_succ]
  exact this
theorem asks_req {r:List PortR} {i:Int} (h:0≤i∧i<(r.length:Int)):nthT (asks r) (2*i)=⟨(nthT r i).rp,(nthT r i).rq⟩:=by
 have h1:=(asks_get r i.toNat).1
 rw [nthT_get h] at h1
 unfold nthT
 rw [show (2*i).toNat=2*i.toNat by omega,List.getD_eq_getElem?_getD,h1]; rfl
theorem asks_ans {r:List PortR} {i:Int} (h:0≤i∧i<(r.length:Int)):nthT (asks r) (2*i+1)=⟨(nthT r i).ap,(nthT r i).aq⟩:=by
 have h1:=(asks_get r i.toNat).2
 rw [nthT_get h] at h1
 unfold nthT
 rw [show (2*i+1).toNat=2*i.toNat+1 by omega,List.getD_eq_getElem?_getD,h1]; rfl
section rng
variable {β:Type} {xs:List β} {n:Nat} {i:Int}
theorem rngE (h:xs.length=n) (q:0≤i∧i<(n:Int)):0≤i∧i<(xs.length:Int):=by omega
theorem rngB (h:xs.length=n) (q:0≤i∧i<(xs.length:Int)):0≤i∧i<(n:Int):=by omega
theorem rng_req {r:List PortR} (h:(asks r).length=n) (q:0≤i∧i<(r.length:Int)):0≤2*i∧2*i<(n:Int):=by rw [asks_len] at h; omega
theorem rng_ans {r:List PortR} (h:(asks r).length=n) (q:0≤i∧i<(r.length:Int)):0≤2*i+1∧2*i+1<(n:Int):=by rw [asks_len] at h; omega
theorem apG {e:β} (h:xs.length=n) (q:n+1≤1099511627776):(xs++[e]).length≤1099511627776:=by simp; omega
end rng
variable {α:Type} [So α]
def sAll:List α→List (So.X α)→List Asn
 |v::l,x::xs=>So.asn v x++sAll l xs
 |_,_=>[]
def sBut:Nat→List α→List (So.X α)→List Asn
 |0,_::l,_::xs=>sAll l xs
 |n+1,v::l,x::xs=>So.asn v x++sBut n l xs
 |_,_,_=>[]
def nthS (l:List α) (i:Int):α:=l.getD i.toNat So.d
def setS (l:List α) (i:Int) (v:α):List α:=l.set i.toNat v
def StA (l:List α) (xs:List (So.X α)):Asn:=.star (.pure (xs.length=l.length)::sAll l xs)
def SHA (l:List α) (xs:List (So.X α)) (i:Int):Asn:=.star (.pure (xs.length=l.length)::sBut i.toNat l xs)
section
variable {W0 w:World} {Γ:List Asn} {l:List α} {xs:List (So.X α)} {i:Int}
theorem s_but:∀ {n:Nat} {l:List α} {xs:List (So.X α)} {v:α} {x:So.X α} {Γ:List Asn},l[n]?=some v→xs[n]?=some x→(Sat W0 (sAll l xs++Γ) w↔Sat W0 (So.asn v x++(sBut n l xs++Γ)) w)
 |_,[],_,_,_,_,h,_=>by simp at h
 |_,_::_,[],_,_,_,_,h=>by simp at h
 |0,v0::l,x0::xs,v,x,Γ,h1,h2=>by
  simp only [List.getElem?_cons_zero,Option.some.injEq] at h1 h2
  subst h1; subst h2
  simp [sAll,sBut,List.append_assoc]
 |n+1,v0::l,x0::xs,v,x,Γ,h1,h2=>by
  simp only [List.getElem?_cons_succ] at h1 h2
  have ih:∀ Γ,_:=fun Γ=>s_but (Γ:=Γ) h1 h2
  constructor
  · intro h
    have h3:Sat W0 (So.asn v0 x0++(sAll l xs++Γ)) w:=by simpa [sAll,List.append_assoc] using h
    have h4:=(ih _).1 (Sat.swap h3)
    have h5:Sat W0 ((So.asn v x++sBut n l xs)++(So.asn v0 x0++Γ)) w:=by simpa [List.append_assoc] using h4
    have h6:=Sat.swap h5
    have h7:Sat W0 (So.asn v0 x0++(So.asn v x++(sBut n l xs++Γ))) w:=by simpa [List.append_assoc] using h6
    simpa [sBut,List.append_assoc] using Sat.swap h7
  · intro h
    have h3:Sat W0 (So.asn v x++(So.asn v0 x0++(sBut n l xs++Γ))) w:=by simpa [sBut,List.append_assoc] using h
    have h4:=Sat.swap h3
    have h5:Sat W0 ((So.asn v0 x0)++((So.asn v x++sBut n l xs)++Γ)) w:=by simpa [List.append_assoc] using h4
    have h6:=Sat.swap h5
    have h7:Sat W0 (So.asn v x++(sBut n l xs++(So.asn v0 x0++Γ))) w:=by simpa [List.append_assoc] using h6
    have h8:=(ih _).2 h7
    simpa [sAll,List.append_assoc] using Sat.swap h8
theorem sBut_set:∀ {n:Nat} {l:List α} {xs:List (So.X α)} {v:α},sBut n (l.set n v) xs=sBut n l xs
 |_,[],_,_=>by simp [sBut]
 |0,_::_,[],_=>by simp [sBut]
 |n+1,_::_,[],_=>by simp [sBut]
 |0,_::_,_::_,_=>by simp [sBut]
 |n+1,v0::l,x0::xs,v=>by simp only [List.set_cons_succ,sBut]; rw [sBut_set]
theorem nthS_get (h:0≤i∧i<(l.length:Int)):l[i.toNat]?=some (nthS l i):=by
 have:i.toNat<l.length:=by omega
 simp [nthS,this]
theorem StA.of (h:Sat W0 (StA l xs::Γ) w):xs.length=l.length∧Sat W0 (sAll l xs++Γ) w:=h.star_of.pure_of
theorem StA.mk (h1:xs.length=l.length) (h:Sat W0 (sAll l xs++Γ) w):Sat W0 (StA l xs::Γ) w:=Sat.star_mk (Sat.pure_mk h1 h)
theorem SHA.of (h:Sat W0 (SHA l xs i::Γ) w):xs.length=l.length∧Sat W0 (sBut i.toNat l xs++Γ) w:=h.star_of.pure_of
theorem SHA.mk (h1:xs.length=l.length) (h:Sat W0 (sBut i.toNat l xs++Γ) w):Sat W0 (SHA l xs i::Γ) w:=Sat.star_mk (Sat.pure_mk h1 h)
theorem st_len (l:List α) (xs:List (So.X α)):∀ (W0:World) (Γ:List Asn) (w:World),Sat W0 ([StA l xs]++Γ) w→xs.length=l.length:=fun _ _ _ hw=>(StA.of hw).1
theorem gh_sfoc [Rw (So.X α)] (l:List α) (xs:List (So.X α)) (i:Int) (x:So.X α) (hx:nthT xs i=x) (hb:0≤i∧i<(l.length:Int)):Gh ⟨[],[StA l xs]⟩ fun _:Unit=>⟨[],So.asn (nthS l i) x++[SHA l xs i]⟩:=by
 intro W0 Γ w hw
 obtain ⟨h1,h2⟩:=StA.of (show Sat W0 (StA l xs::Γ) w from hw)
 have hb2:0≤i∧i<(xs.length:Int):=by omega
 have hg:=nthT_get hb2
 rw [hx] at hg
 refine ⟨(),?_⟩
 have h3:=(s_but (nthS_get hb) hg).1 h2
 have h4:=SHA.mk (i:=i) h1 (Sat.swap h3)
 have h5:Sat W0 ([SHA l xs i]++(So.asn (nthS l i) x++Γ)) w:=h4
 have h6:=Sat.swap h5
 unfold Rs.all
 simpa [owns,List.append_assoc] using h6
theorem gh_sunf [Rw (So.X α)] (l:List α) (xs:List (So.X α)) (i:Int) (x:So.X α) (v:α) (hx:nthT xs i=x) (hb:0≤i∧i<(l.length:Int)) {l':List α} (hl:setS l i v=l'):Gh ⟨[],So.asn v x++[SHA l xs i]⟩ fun _:Unit=>⟨[],[StA l' xs]⟩:=by
 subst hl
 intro W0 Γ w hw
 have h0:Sat W0 (So.asn v x++([SHA l xs i]++Γ)) w:=by
  unfold Rs.all at hw
  simpa [owns,List.append_assoc] using hw
 obtain ⟨h1,h2⟩:=SHA.of (Sat.swap h0)
 have hb2:0≤i∧i<(xs.length:Int):=by omega
 have hg:=nthT_get hb2
 rw [hx] at hg
 have hlt:i.toNat<l.length:=by omega
 have e1:(setS l i v)[i.toNat]?=some v:=by simp [setS,hlt]
 refine ⟨(),StA.mk (by simp [setS,h1]) ((s_but e1 hg).2 ?_)⟩
 rw [setS,sBut_set]
 exact Sat.swap h2
theorem set_nthS (hb:0≤i∧i<(l.length:Int)):setS l i (nthS l i)=l:=by
 unfold setS
 apply List.ext_getElem?
 intro n
 rw [List.getElem?_set]
 split
 · rename_i h; subst h
   rw [nthS_get hb]; simp; omega
 · rfl
theorem gh_sunfs [Rw (So.X α)] (l:List α) (xs:List (So.X α)) (i:Int) (x:So.X α) (hx:nthT xs i=x) (hb:0≤i∧i<(l.length:Int)):Gh ⟨[],So.asn (nthS l i) x++[SHA l xs i]⟩ fun _:Unit=>⟨[],[StA l xs]⟩:=gh_sunf l xs i x (nthS l i) hx hb (set_nthS hb)
theorem gh_snil:Gh ⟨[],[]⟩ fun _:Unit=>⟨[],[StA ([]:List α) []]⟩:=by
 intro W0 Γ w hw
 exact ⟨(),StA.mk rfl hw⟩
theorem sAll_snoc:∀ {l:List α} {xs:List (So.X α)} {v:α} {x:So.X α},xs.length=l.length→sAll (l++[v]) (xs++[x])=sAll l xs++So.asn v x
 |[],[],v,x,_=>by simp [sAll]
 |[],_::_,_,_,h=>by simp at h
 |_::_,[],_,_,h=>by simp at h
 |u::l,y::xs,v,x,h=>by simp only [List.cons_append,sAll,List.append_assoc]; rw [sAll_snoc (by simpa using h)]
theorem gh_ssnoc (l:List α) (xs:List (So.X α)) (v:α) (x:So.X α):Gh ⟨[],So.asn v x++[StA l xs]⟩ fun _:Unit=>⟨[],[StA (l++[v]) (xs++[x])]⟩:=by
 intro W0 Γ w hw
 have h0:Sat W0 (So.asn v x++([StA l xs]++Γ)) w:=by
  unfold Rs.all at hw
  simpa [owns,List.append_assoc] using hw
 obtain ⟨h1,h2⟩:=StA.of (Sat.swap h0)
 refine ⟨(),StA.mk (by simp [h1]) ?_⟩
 rw [sAll_snoc h1]
 simpa [List.append_assoc] using h2
theorem gh_sre {l l':List α} {xs xs':List (So.X α)} (h1:l=l') (h2:xs=xs'):Gh ⟨[],[StA l xs]⟩ fun _:Unit=>⟨[],[StA l' xs']⟩:=by
 subst h1; subst h2; exact fun _ _ _ hw=>⟨(),hw⟩
end
end
section
open Go Go.RowKit
structure ChanS where
 pool:BoxS
 queue:BoxS
structure FabS where
 cs:List ChanS
structure FabVS where
 rs:List PortR
instance:So ChanS:=⟨AskR,fun c x=>[PoolA x.p c.pool,QueueA x.q c.queue],⟨⟨[],0⟩,⟨[],0⟩⟩,⟨0,0⟩⟩
instance:Rw (So.X ChanS):=rwAskR
def FabO (b:Nat) (c:FabS):Option Addr×Nat×List PortR→Rs:=fun (a_cs,c_cs,r_cs)=>⟨[⟨b,#[.slice a_cs r_cs.length c_cs],137⟩],[(ArrA a_cs c_cs r_cs),(StA c.cs (asks r_cs))]⟩
abbrev FabA (b:Nat) (c:FabS):Asn:=ObA (FabO b c)
def fisS (fc:FabS) (node:Int):Option (Bool) :=
 (bif decide ((0:Int)≤node) then some (decide (node<(((fc.cs.length / 2):Nat):Int))) else some false)
theorem fisF {fc:FabS} {node:Int} (f:Nat) (f_a_cs:Option Addr) (f_c_cs:Nat) (f_r_cs:List PortR) {y:Bool} (H:fisS fc node=some y):FnY Tryz.prog 66 [.pointer (some ⟨f,0,none⟩),.int .i64 node] ⟨[⟨f,#[.slice f_a_cs f_r_cs.length f_c_cs],137⟩],[(ArrA f_a_cs f_c_cs f_r_cs),(StA fc.cs (asks f_r_cs))]⟩ (Z:=Unit) (fun y _=>.bool y) (fun y _=>⟨[⟨f,#[.slice f_a_cs f_r_cs.length f_c_cs],137⟩],[(ArrA f_a_cs f_c_cs f_r_cs),(StA fc.cs (asks f_r_cs))]⟩) y:=by
 unfold fisS at H
 refine xfY Tryz.func66 fun W0 F=>?_
 refine xs [] H ?_ ?_
 · intro H
   refine xk [1,1,1,1,1,0,1] [1] (st_len fc.cs (asks f_r_cs)) fun hl1_8_1=>?_
   refine xw [300] 13 (congrArg (fun n:Nat=>Value.int .i64 n) (asks_half hl1_8_1)) ?_
   exact xrY (someE H) [1,1] [] [0] [0,0] ()
 · intro H
   exact xrY (someE H) [0,0,0,0,0,0,0,0] [] [0] [0,0] ()
def poolsVS_j0 (e0_3x:List AskR):Option (List AskR) :=
 some e0_3x
def poolsVS_l1 (fc:FabVS) (k0:(List AskR)→Option (List AskR)):Nat→(List AskR)→Int→Option (List AskR)
 |0,_,_=>none
 |m+1,v1_3x,v1_11=>(bif decide (v1_11<(fc.rs.length:Int)) then chk (0≤v1_11∧v1_11<(fc.rs.length:Int)) (letP (nthT fc.rs v1_11) fun x4_1=>chk ((v1_3x++([(⟨x4_1.rp,x4_1.rq⟩:AskR),(⟨x4_1.ap,x4_1.aq⟩:AskR)])).length≤1099511627776) (letP (v1_3x++([(⟨x4_1.rp,x4_1.rq⟩:AskR),(⟨x4_1.ap,x4_1.aq⟩:AskR)])) fun l5_6=>chk (inR (v1_11+(1:Int))) ((poolsVS_l1 fc k0 m) l5_6 (v1_11+(1:Int))))) else k0 v1_3x)
def poolsVS (fc:FabVS):Option (List AskR) :=
 poolsVS_l1 fc poolsVS_j0 (fc.rs.length+1) ([]:List AskR) (0:Int)
theorem poolsVF {fc:FabVS} (f:Nat) (f_a_rs:Option Addr) (f_c_rs:Nat) {y:List AskR} (H:poolsVS fc=some y):FnY Tryz.prog 64 [.pointer (some ⟨f,0,none⟩)] ⟨[⟨f,#[.slice f_a_rs fc.rs.length f_c_rs],137⟩],[(ArrA f_a_rs f_c_rs fc.rs)]⟩ (Z:=Option Addr×Nat) (fun y (za0,zc0)=>.slice za0 y.length zc0) (fun y (za0,zc0)=>⟨[⟨f,#[.slice f_a_rs fc.rs.length f_c_rs],137⟩],[(ArrA za0 zc0 y),(ArrA f_a_rs f_c_rs fc.rs)]⟩) y:=by
 unfold poolsVS at H
 refine xfY Tryz.func64 fun W0 F=>?_
 refine xj [102] (ι:=List AskR×Option Addr×Nat) (fun (e0_3x,e0_3a,e0_3c)=>⟨[(3,.slice e0_3a e0_3x.length e0_3c)],[⟨f,#[.slice f_a_rs fc.rs.length f_c_rs],137⟩],[(ArrA e0_3a e0_3c e0_3x),(ArrA f_a_rs f_c_rs fc.rs)]⟩) (fun (e0_3x,e0_3a,e0_3c)=>poolsVS_j0 e0_3x=some y) ?_ ?_
 · rintro ⟨e0_3x,e0_3a,e0_3c⟩ H
   replace H:poolsVS_j0 e0_3x=some y:=H
   rw [poolsVS_j0] at H
   exact xrY (someE H) [] [] [0] [0,0] (e0_3a,e0_3c)
 · intro N0 hN0
   refine xg [0] [] [] (gh_nil (α:=AskR) none) fun _=>?_
   refine xl [] (ι:=List AskR×Int×Option Addr×Nat) (fun (v1_3x,v1_11,v1_3a,v1_3c)=>⟨[(3,.slice v1_3a v1_3x.length v1_3c),(9,.slice f_a_rs fc.rs.length f_c_rs),(10,.int .i64 fc.rs.length),(11,.int .i64 v1_11)],[⟨f,#[.slice f_a_rs fc.rs.length f_c_rs],137⟩],[(ArrA v1_3a v1_3c v1_3x),(ArrA f_a_rs f_c_rs fc.rs)]⟩) (fun m1 (v1_3x,v1_11,v1_3a,v1_3c)=>poolsVS_l1 fc (poolsVS_j0) m1 v1_3x v1_11=some y) [0] [0,0] ((fc.rs.length+1)) (([]:List AskR),(0:Int),none,0) H ?_
   rintro N1 (_ | m1) ⟨v1_3x,v1_11,v1_3a,v1_3c⟩ H hN1
   · exact (noneE H).elim
   replace H:poolsVS_l1 fc (poolsVS_j0) (m1+1) v1_3x v1_11=some y:=H
   rw [poolsVS_l1] at H
   refine xs [] H ?_ ?_
   · intro H
     refine chkG H fun q4_0_1 H=>?_
     refine xi [1] 1 (rA f_a_rs f_c_rs fc.rs) q4_0_1 fun b1 o1 e1=>?_
     refine letG H fun x4_1 hx4_1 H=>?_
     refine xo [] [] [1] (oc_ldN (rA f_a_rs f_c_rs fc.rs) e1 q4_0_1 hx4_1 0 4) fun _=>?_
     refine xn [] fun b4_2=>?_
     refine xn [0,0,0] fun b5_5=>?_
     refine xg [] [0] [] (gh_own b5_5 132 2 ([(⟨x4_1.rp,x4_1.rq⟩:AskR),(⟨x4_1.ap,x4_1.aq⟩:AskR)]:List AskR) [(),()] (fun _ _ _ _ _ _ _=>trivial)) fun _=>?_
     refine chkG H fun q5_6_1 H=>?_
     refine letG H fun l5_6 hl5_6 H=>?_
     refine xa [] [3,0] (a:=v1_3a) (l:=v1_3x) (zs:=l5_6) (cap:=v1_3c) (rA (some ⟨b5_5,0,none⟩) 2 ([(⟨x4_1.rp,x4_1.rq⟩:AskR),(⟨x4_1.ap,x4_1.aq⟩:AskR)])) hl5_6 (hl5_6▸q5_6_1) fun ⟨a5_6,c5_6⟩=>?_
     refine chkG H fun q6_0_1 H=>?_
     refine xd [0] (ap q6_0_1 an) ?_
     exact xe [] _ [1] [0,2] (hN1 _ (l5_6,v1_11+(1:Int),a5_6,c5_6) (Nat.lt_succ_self _) H)
   · intro H
     exact xe [0] _ [0] [0,0] (hN0 (v1_3x,v1_3a,v1_3c) H)
theorem pools_loop (r:List PortR) (hr:(asks r).length≤1099511627776):∀ (rest done:List PortR) (m:Nat),r=done++rest→rest.length<m→poolsVS_l1 ⟨r⟩ poolsVS_j0 m (asks done) (done.length:Int)=some (asks r)
 |_,_,0,_,h=>by omega
 |[],done,m+1,h,_=>by
  rw [poolsVS_l1]
  have e:done=r:=by rw [h]; simp
  subst e
  simp [poolsVS_j0]
 |p::rest,done,m+1,h,hm=>by
  have hl:done.length<r.length:=by rw [h]; simp
  have h2:=hr
  rw [asks_len] at h2
  have e1:nthT r (done.length:Int)=p:=by simp [nthT,h]
  have e2:asks done++[⟨p.rp,p.rq⟩,⟨p.ap,p.aq⟩]=asks (done++[p]):=by rw [← asks_snoc]; simp
  have e3:(((done++[p]).length:Nat):Int)=(done.length:Int)+1:=by simp
  have ih:=pools_loop r hr rest (done++[p]) m (by rw [h]; simp) (by simp at hm; omega)
  rw [e3] at ih
  rw [poolsVS_l1]
  dsimp only [letP]
  rw [decide_eq_true (by omega:(done.length:Int)<(r.length:Int)),cond_true,chk_true (by constructor <;> omega)]
  rw [e1,e2,chk_true (by rw [asks_len,List.length_append]; simp; omega),chk_true (by unfold inR; omega)]
  exact ih
theorem poolsG (f:Nat) (a:Option Addr) (c:Nat) (r:List PortR) {n:Nat} (hl:(asks r).length=n) (hr:n≤1099511627776):Fn Tryz.prog 64 [.pointer (some ⟨f,0,none⟩)] ⟨[⟨f,#[.slice a r.length c],137⟩],[(ArrA a c r)]⟩ (Z:=Option Addr×Nat) (fun z=>.slice z.1 (List.length (asks r)) z.2) (fun z=>⟨[⟨f,#[.slice a r.length c],137⟩],[(ArrA z.1 z.2 (asks r)),(ArrA a c r)]⟩) :=
 poolsVF (fc:=⟨r⟩) f a c (y:=asks r) (pools_loop r (by rw [hl]; exact hr) r [] (r.length+1) rfl (Nat.lt_succ_self _))
def askV (xs:List AskR) (o:Option Int):Value:=match o with | none=>.agg #[.pointer none,.pointer none] | some i=>.agg #[blk (nthT xs i).p,blk (nthT xs i).q]
def psortS (p:PortR) (request:Bool):Option (AskR) :=
 (bif request then some (⟨p.rp,p.rq⟩:AskR) else some (⟨p.ap,p.aq⟩:AskR))
theorem psortF {p:PortR} {request:Bool} {y:AskR} (H:psortS p request=some y):FnY Tryz.prog 105 [.agg #[.pointer (some ⟨p.rp,0,none⟩),.pointer (some ⟨p.rq,0,none⟩),.pointer (some ⟨p.ap,0,none⟩),.pointer (some ⟨p.aq,0,none⟩)],.bool request] ⟨[],[]⟩ (Z:=Unit) (fun y _=>.agg #[.pointer (some ⟨y.p,0,none⟩),.pointer (some ⟨y.q,0,none⟩)]) (fun y _=>⟨[],[]⟩) y:=by
 unfold psortS at H
 refine xfY Tryz.func105 fun W0 F=>?_
 refine xn [] fun b0_0=>?_
 refine xn [] fun b0_1=>?_
 refine xs [] H ?_ ?_
 · intro H
   exact xrY (someE H) [1,1,0] [0] [] [] ()
 · intro H
   exact xrY (someE H) [0,1,0] [0] [] [] ()
theorem psort_t (p:PortR):Fq Tryz.prog 105 [.agg #[blk p.rp,blk p.rq,blk p.ap,blk p.aq],.bool true] (.agg #[blk p.rp,blk p.rq]):=Fn.quiet (psortF (p:=p) (request:=true) (y:=⟨p.rp,p.rq⟩) rfl)
theorem psort_f (p:PortR):Fq Tryz.prog 105 [.agg #[blk p.rp,blk p.rq,blk p.ap,blk p.aq],.bool false] (.agg #[blk p.ap,blk p.aq]):=Fn.quiet (psortF (p:=p) (request:=false) (y:=⟨p.ap,p.aq⟩) rfl)
def ffindS_j0:Option (Option Int×Int×Bool) :=
 some (none,(0:Int),false)
def ffindS_j2 (v1_12:Int) (v1_1:Int) (fc:FabS) (r1:Int→Int→Option (Option Int×Int×Bool)) (e2_24:Bool):Option (Option Int×Int×Bool) :=
 (bif e2_24 then some ((some v1_12),v1_1,true) else (polenS ((nthS fc.cs v1_12).pool)).bind fun y6_3=>chk (inR (v1_12+(1:Int))) (r1 (wr (v1_1 - y6_3)) (v1_12+(1:Int))))
def ffindS_l1 (fc:FabS) (k0:Option (Option Int×Int×Bool)):Nat→Int→Int→Option (Option Int×Int×Bool)
 |0,_,_=>none
 |m+1,v1_1,v1_12=>(bif decide (v1_12<(fc.cs.length:Int)) then chk (0≤v1_12∧v1_12<(fc.cs.length:Int)) ((bif decide ((0:Int)≤v1_1) then (polenS ((nthS fc.cs v1_12).pool)).bind fun y4_6=>(ffindS_j2 v1_12 v1_1 fc (ffindS_l1 fc k0 m)) (decide (v1_1<y4_6)) else (ffindS_j2 v1_12 v1_1 fc (ffindS_l1 fc k0 m)) false)) else k0)
def ffindS (fc:FabS) (at_:Int):Option (Option Int×Int×Bool) :=
 chk (fc.cs.length≤1099511627776) (ffindS_l1 fc ffindS_j0 (fc.cs.length+1) at_ (0:Int))
theorem ffindF {fc:FabS} {at_:Int} (f:Nat) (f_a_cs:Option Addr) (f_c_cs:Nat) (f_r_cs:List PortR) {y:Option Int×Int×Bool} (H:ffindS fc at_=some y):FnY Tryz.prog 108 [.pointer (some ⟨f,0,none⟩),.int .i64 at_] ⟨[⟨f,#[.slice f_a_cs f_r_cs.length f_c_cs],137⟩],[(ArrA f_a_cs f_c_cs f_r_cs),(StA fc.cs (asks f_r_cs))]⟩ (Z:=Unit) (fun y _=>.tuple #[(askV (asks f_r_cs) y.1),.int .i64 y.2.1,.bool y.2.2]) (fun y _=>⟨[⟨f,#[.slice f_a_cs f_r_cs.length f_c_cs],137⟩],[(ArrA f_a_cs f_c_cs f_r_cs),(StA fc.cs (asks f_r_cs))]⟩) y:=by
 unfold ffindS at H
 refine xfY Tryz.func108 fun W0 F=>?_
 refine xn [] fun b0_0=>?_
 refine xj [100] (ι:=Unit) (fun _=>⟨[(4,.pointer (some ⟨b0_0,0,none⟩))],[⟨f,#[.slice f_a_cs f_r_cs.length f_c_cs],137⟩,⟨b0_0,#[.pointer none,.pointer none],132⟩],[(ArrA f_a_cs f_c_cs f_r_cs),(StA fc.cs (asks f_r_cs))]⟩) (fun _=>ffindS_j0=some y) ?_ ?_
 · rintro _ H
   replace H:ffindS_j0=some y:=H
   rw [ffindS_j0] at H
   exact xrY (someE H) [1] [1] [0] [0,0] ()
 · intro N0 hN0
   refine xk [] [1] (st_len fc.cs (asks f_r_cs)) fun hl1_1_1=>?_
   refine chkG H fun q1_1_1 H=>?_
   refine xc [] [1] [0] (poolsG f f_a_cs f_c_cs f_r_cs hl1_1_1 q1_1_1) fun ⟨t1_1_a,t1_1_c⟩=>?_
   refine xk [] [2] (st_len fc.cs (asks f_r_cs)) fun hl1_2_1=>?_
   refine xw [300] 11 (congrArg (fun n:Nat=>Value.int .i64 n) hl1_2_1) ?_
   refine xl [] (ι:=Int×Int) (fun (v1_1,v1_12)=>⟨[(1,.int .i64 v1_1),(4,.pointer (some ⟨b0_0,0,none⟩)),(10,.slice t1_1_a (List.length (asks f_r_cs)) t1_1_c),(11,.int .i64 fc.cs.length),(12,.int .i64 v1_12)],[⟨f,#[.slice f_a_cs f_r_cs.length f_c_cs],137⟩,⟨b0_0,#[.pointer none,.pointer none],132⟩],[(ArrA t1_1_a t1_1_c (asks f_r_cs)),(ArrA f_a_cs f_c_cs f_r_cs),(StA fc.cs (asks f_r_cs))]⟩) (fun m1 (v1_1,v1_12)=>ffindS_l1 fc (ffindS_j0) m1 v1_1 v1_12=some y) [0,0] [0,0,0] ((fc.cs.length+1)) (at_,(0:Int)) H ?_
   rintro N1 (_ | m1) ⟨v1_1,v1_12⟩ H hN1
   · exact (noneE H).elim
   replace H:ffindS_l1 fc (ffindS_j0) (m1+1) v1_1 v1_12=some y:=H
   rw [ffindS_l1] at H
   refine xs [] H ?_ ?_
   · intro H
     refine xk [1] [2] (st_len fc.cs (asks f_r_cs)) fun hl3_0_1=>?_
     refine chkG H fun q3_0_1 H=>?_
     refine xi [] 0 (rA t1_1_a t1_1_c (asks f_r_cs)) (rngE hl3_0_1 q3_0_1) fun b1 o1 e1=>?_
     refine xo [] [] [0] (oc_ldN (rA t1_1_a t1_1_c (asks f_r_cs)) e1 (rngE hl3_0_1 q3_0_1) rfl 0 2) fun _=>?_
     refine xn [] fun b3_2=>?_
     refine xj [0,101] (ι:=Bool) (fun e2_24=>⟨[(1,.int .i64 v1_1),(4,.pointer (some ⟨b0_0,0,none⟩)),(8,.pointer (some ⟨b3_2,0,none⟩)),(10,.slice t1_1_a (List.length (asks f_r_cs)) t1_1_c),(11,.int .i64 fc.cs.length),(12,.int .i64 v1_12),(24,.bool e2_24)],[⟨b3_2,#[.pointer (some ⟨(nthT (asks f_r_cs) v1_12).p,0,none⟩),.pointer (some ⟨(nthT (asks f_r_cs) v1_12).q,0,none⟩)],132⟩,⟨f,#[.slice f_a_cs f_r_cs.length f_c_cs],137⟩,⟨b0_0,#[.pointer none,.pointer none],132⟩],[(StA fc.cs (asks f_r_cs)),(ArrA t1_1_a t1_1_c (asks f_r_cs)),(ArrA f_a_cs f_c_cs f_r_cs)]⟩) (fun e2_24=>ffindS_j2 v1_12 v1_1 fc (ffindS_l1 fc (ffindS_j0) m1) e2_24=some y) ?_ ?_
     · rintro e2_24 H
       replace H:ffindS_j2 v1_12 v1_1 fc (ffindS_l1 fc (ffindS_j0) m1) e2_24=some y:=H
       rw [ffindS_j2] at H
       refine xs [] H ?_ ?_
       · intro H
         exact xrY (someE H) [1,0,2] [2] [1] [2,0] ()
       · intro H
         refine xk [0,0] [0] (st_len fc.cs (asks f_r_cs)) fun hl6_3_1=>?_
         refine xg [] [] [0] (gh_sfoc fc.cs (asks f_r_cs) v1_12 (nthT (asks f_r_cs) v1_12) rfl (rngB hl6_3_1 (rngE hl3_0_1 q3_0_1))) fun _=>?_
         refine xg [] [] [0] (gh_open (PoolO (nthT (asks f_r_cs) v1_12).p ((nthS fc.cs v1_12).pool))) fun ⟨a_l1,c_l2⟩=>?_
         refine bindG H fun y6_3 hy6_3 H=>?_
         refine xc [] [0] [0] (polenF (nthT (asks f_r_cs) v1_12).p a_l1 c_l2 hy6_3) fun _=>?_
         refine chkG H fun q7_0_1 H=>?_
         refine xd [1,0] (ap q7_0_1 an) ?_
         refine xg [] [0] [0] (gh_shut (PoolO (nthT (asks f_r_cs) v1_12).p ((nthS fc.cs v1_12).pool)) (a_l1,c_l2)) fun _=>?_
         refine xg [] [] [0,0,0] (gh_sunfs fc.cs (asks f_r_cs) v1_12 (nthT (asks f_r_cs) v1_12) rfl (rngB hl6_3_1 (rngE hl3_0_1 q3_0_1))) fun _=>?_
         exact xe [] _ [1,1] [1,1,0] (hN1 _ (wr (v1_1 - y6_3),v1_12+(1:Int)) (Nat.lt_succ_self _) H)
     · intro N2 hN2
       refine xs [] H ?_ ?_
       · intro H
         refine xk [1,1,1,0,1] [3] (st_len fc.cs (asks f_r_cs)) fun hl4_6_1=>?_
         refine xg [] [] [3] (gh_sfoc fc.cs (asks f_r_cs) v1_12 (nthT (asks f_r_cs) v1_12) rfl (rngB hl4_6_1 (rngE hl3_0_1 q3_0_1))) fun _=>?_
         refine xg [1] [] [0] (gh_open (PoolO (nthT (asks f_r_cs) v1_12).p ((nthS fc.cs v1_12).pool))) fun ⟨a_l3,c_l4⟩=>?_
         refine bindG H fun y4_6 hy4_6 H=>?_
         refine xc [1] [0] [0] (polenF (nthT (asks f_r_cs) v1_12).p a_l3 c_l4 hy4_6) fun _=>?_
         refine xg [1,1] [0] [0] (gh_shut (PoolO (nthT (asks f_r_cs) v1_12).p ((nthS fc.cs v1_12).pool)) (a_l3,c_l4)) fun _=>?_
         refine xg [] [] [0,0,0] (gh_sunfs fc.cs (asks f_r_cs) v1_12 (nthT (asks f_r_cs) v1_12) rfl (rngB hl4_6_1 (rngE hl3_0_1 q3_0_1))) fun _=>?_
         exact xe [] _ [0,0,0] [0,1,1] (hN2 (decide (v1_1<y4_6)) H)
       · intro H
         exact xe [0,0,0,0,0,0] _ [0,0,0] [3,1,1] (hN2 (false) H)
   · intro H
     exact xe [0] _ [0,0] [1,1] (hN0 () H)
def fpktS (fc:FabS) (at_:Int):Option (PktS×Bool) :=
 (ffindS fc at_).bind fun y1_2=>(optM y1_2.1 (fun k1_2=>(bif !y1_2.2.2 then some ((⟨(0:Int),(0:Int),(0:Int),(0:Int),(0:Int),(0:Int),(0:Int),false,([]:List Int)⟩:PktS),false) else (bif decide (at_<(0:Int)) then some ((⟨(0:Int),(0:Int),(0:Int),(0:Int),(0:Int),(0:Int),(0:Int),false,([]:List Int)⟩:PktS),false) else chk (0≤k1_2∧k1_2<(fc.cs.length:Int)) ((pogetS ((nthS fc.cs k1_2).pool) y1_2.2.1).bind fun y4_3=>some (y4_3.1,y4_3.2))))) ((bif !y1_2.2.2 then some ((⟨(0:Int),(0:Int),(0:Int),(0:Int),(0:Int),(0:Int),(0:Int),false,([]:List Int)⟩:PktS),false) else (bif decide (at_<(0:Int)) then some ((⟨(0:Int),(0:Int),(0:Int),(0:Int),(0:Int),(0:Int),(0:Int),false,([]:List Int)⟩:PktS),false) else none))))
theorem fpktF {fc:FabS} {at_:Int} (f:Nat) (f_a_cs:Option Addr) (f_c_cs:Nat) (f_r_cs:List PortR) {y:PktS×Bool} (H:fpktS fc at_=some y):FnY Tryz.prog 103 [.pointer (some ⟨f,0,none⟩),.int .i64 at_] ⟨[⟨f,#[.slice f_a_cs f_r_cs.length f_c_cs],137⟩],[(ArrA f_a_cs f_c_cs f_r_cs),(StA fc.cs (asks f_r_cs))]⟩ (Z:=Option Addr×Nat) (fun y (za0,zc0)=>.tuple #[.agg #[.int .i64 y.1.kind,.int .i64 y.1.src,.int .i64 y.1.dst,.int .i64 y.1.id,.int .i64 y.1.line,.int .i64 y.1.ptr,.int .i64 y.1.state,.bool y.1.flag,.slice za0 y.1.data.length zc0],.bool y.2]) (fun y (za0,zc0)=>⟨[⟨f,#[.slice f_a_cs f_r_cs.length f_c_cs],137⟩],[(ArrA za0 zc0 y.1.data),(ArrA f_a_cs f_c_cs f_r_cs),(StA fc.cs (asks f_r_cs))]⟩) y:=by
 unfold fpktS at H
 refine xfY Tryz.func103 fun W0 F=>?_
 refine xn [] fun b0_0=>?_
 refine bindG H fun y1_2 hy1_2 H=>?_
 refine xc [] [1] [0,0] (ffindF f f_a_cs f_c_cs f_r_cs hy1_2) fun _=>?_
 refine optG H (fun hk1_2 H=>?_) fun k1_2 hk1_2 H=>?_
 · refine xw [300] 12 (v:=.tuple #[(askV (asks f_r_cs) y1_2.1),.int .i64 y1_2.2.1,.bool y1_2.2.2]) (v':=.tuple #[.agg #[.pointer none,.pointer none],.int .i64 y1_2.2.1,.bool y1_2.2.2]) (by rw [hk1_2]; rfl) ?_
   refine xn [] fun b1_7=>?_
   refine xs [0] H ?_ ?_
   · intro H
     refine xg [0,0,1,1,2] [] [] (gh_nil (α:=Int) none) fun _=>?_
     exact xrY (someE H) [] [2] [1] [0,0,0] (none,0)
   · intro H
     refine xs [1,1,0] H ?_ ?_
     · intro H
       refine xg [1,2] [] [] (gh_nil (α:=Int) none) fun _=>?_
       exact xrY (someE H) [] [2] [1] [0,0,0] (none,0)
     · intro H
       exact (noneE H).elim
 · refine xw [300] 12 (v:=.tuple #[(askV (asks f_r_cs) y1_2.1),.int .i64 y1_2.2.1,.bool y1_2.2.2]) (v':=.tuple #[.agg #[.pointer (some ⟨(nthT (asks f_r_cs) k1_2).p,0,none⟩),.pointer (some ⟨(nthT (asks f_r_cs) k1_2).q,0,none⟩)],.int .i64 y1_2.2.1,.bool y1_2.2.2]) (by rw [hk1_2]; rfl) ?_
   refine xn [] fun b1_7=>?_
   refine xs [0] H ?_ ?_
   · intro H
     refine xg [0,0,1,1,2] [] [] (gh_nil (α:=Int) none) fun _=>?_
     exact xrY (someE H) [] [2] [1] [0,0,0] (none,0)
   · intro H
     refine xs [1,1,0] H ?_ ?_
     · intro H
       refine xg [1,2] [] [] (gh_nil (α:=Int) none) fun _=>?_
       exact xrY (someE H) [] [2] [1] [0,0,0] (none,0)
     · intro H
       refine xk [0,0] [1] (st_len fc.cs (asks f_r_cs)) fun hl4_3_1=>?_
       refine chkG H fun q4_3_1 H=>?_
       refine xg [] [] [1] (gh_sfoc fc.cs (asks f_r_cs) k1_2 (nthT (asks f_r_cs) k1_2) rfl (rngB hl4_3_1 (rngE hl4_3_1 q4_3_1))) fun _=>?_
       refine xg [] [] [0] (gh_open (PoolO (nthT (asks f_r_cs) k1_2).p ((nthS fc.cs k1_2).pool))) fun ⟨a_l1,c_l2⟩=>?_
       refine bindG H fun y4_3 hy4_3 H=>?_
       refine xc [] [0] [0] (pogetF (nthT (asks f_r_cs) k1_2).p a_l1 c_l2 hy4_3) fun ⟨t4_3_a0,t4_3_c0⟩=>?_
       refine xg [3] [0] [1] (gh_shut (PoolO (nthT (asks f_r_cs) k1_2).p ((nthS fc.cs k1_2).pool)) (a_l1,c_l2)) fun _=>?_
       refine xg [] [] [0,1,1] (gh_sunfs fc.cs (asks f_r_cs) k1_2 (nthT (asks f_r_cs) k1_2) rfl (rngB hl4_3_1 (rngE hl4_3_1 q4_3_1))) fun _=>?_
       exact xrY (someE H) [] [2] [1] [1,1,0] (t4_3_a0,t4_3_c0)
def fwaitS (fc:FabS) (node:Int):Option (Int×Int) :=
 (fisS fc node).bind fun y1_2=>(bif !y1_2 then some ((0:Int),(0:Int)) else chk (0≤node∧node<(((fc.cs.length / 2):Nat):Int)) (chk (0≤node∧node<(((fc.cs.length / 2):Nat):Int)) ((qulenS ((nthS fc.cs (2*node)).queue)).bind fun y3_9=>(qulenS ((nthS fc.cs (2*node+1)).queue)).bind fun y3_19=>some (y3_9,y3_19))))
theorem fwaitF {fc:FabS} {node:Int} (f:Nat) (f_a_cs:Option Addr) (f_c_cs:Nat) (f_r_cs:List PortR) {y:Int×Int} (H:fwaitS fc node=some y):FnY Tryz.prog 24 [.pointer (some ⟨f,0,none⟩),.int .i64 node] ⟨[⟨f,#[.slice f_a_cs f_r_cs.length f_c_cs],137⟩],[(ArrA f_a_cs f_c_cs f_r_cs),(StA fc.cs (asks f_r_cs))]⟩ (Z:=Unit) (fun y _=>.tuple #[.int .i64 y.1,.int .i64 y.2]) (fun y _=>⟨[⟨f,#[.slice f_a_cs f_r_cs.length f_c_cs],137⟩],[(ArrA f_a_cs f_c_cs f_r_cs),(StA fc.cs (asks f_r_cs))]⟩) y:=by
 unfold fwaitS at H
 refine xfY Tryz.func24 fun W0 F=>?_
 refine bindG H fun y1_2 hy1_2 H=>?_
 refine xc [] [0] [0,0] (fisF f f_a_cs f_c_cs f_r_cs hy1_2) fun _=>?_
 refine xs [] H ?_ ?_
 · intro H
   exact xrY (someE H) [1] [] [0] [0,0] ()
 · intro H
   refine xk [0,0,1,2,3,0,4,5] [1] (st_len fc.cs (asks f_r_cs)) fun hl3_5_1=>?_
   refine chkG H fun q3_5_1 H=>?_
   refine xi [] 0 (rA f_a_cs f_c_cs f_r_cs) (rngE (asks_half hl3_5_1) q3_5_1) fun b1 o1 e1=>?_
   refine xpl [6,7,8] 0 (ol_ld (rA f_a_cs f_c_cs f_r_cs) e1 (rngE (asks_half hl3_5_1) q3_5_1) 1 (fun _=>rfl)) ?_
   refine xk [10,11,12,13,0,14,15] [1] (st_len fc.cs (asks f_r_cs)) fun hl3_15_1=>?_
   refine chkG H fun q3_15_1 H=>?_
   refine xi [] 0 (rA f_a_cs f_c_cs f_r_cs) (rngE (asks_half hl3_15_1) q3_15_1) fun b2 o2 e2=>?_
   refine xpl [16,17,18] 0 (ol_ld (rA f_a_cs f_c_cs f_r_cs) e2 (rngE (asks_half hl3_15_1) q3_15_1) 3 (fun _=>rfl)) ?_
   refine xk [9] [1] (st_len fc.cs (asks f_r_cs)) fun hl3_9_1=>?_
   refine xg [] [] [1] (gh_sfoc fc.cs (asks f_r_cs) (2*node) (⟨(nthT f_r_cs node).rp,(nthT f_r_cs node).rq⟩) (asks_req (rngE (asks_half hl3_15_1) q3_15_1)) (rng_req hl3_9_1 (rngE (asks_half hl3_15_1) q3_15_1))) fun _=>?_
   refine xg [] [] [1] (gh_open (QueueO (nthT f_r_cs node).rq ((nthS fc.cs (2*node)).queue))) fun ⟨a_l1,c_l2⟩=>?_
   refine bindG H fun y3_9 hy3_9 H=>?_
   refine xc [] [0] [0] (qulenF (nthT f_r_cs node).rq a_l1 c_l2 hy3_9) fun _=>?_
   refine xg [19] [0] [0] (gh_shut (QueueO (nthT f_r_cs node).rq ((nthS fc.cs (2*node)).queue)) (a_l1,c_l2)) fun _=>?_
   refine xg [] [] [1,0,0] (gh_sunfs fc.cs (asks f_r_cs) (2*node) (⟨(nthT f_r_cs node).rp,(nthT f_r_cs node).rq⟩) (asks_req (rngE (asks_half hl3_15_1) q3_15_1)) (rng_req hl3_9_1 (rngE (asks_half hl3_15_1) q3_15_1))) fun _=>?_
   refine xk [] [0] (st_len fc.cs (asks f_r_cs)) fun hl3_19_1=>?_
   refine xg [] [] [0] (gh_sfoc fc.cs (asks f_r_cs) (2*node+1) (⟨(nthT f_r_cs node).ap,(nthT f_r_cs node).aq⟩) (asks_ans (rngE (asks_half hl3_15_1) q3_15_1)) (rng_ans hl3_19_1 (rngE (asks_half hl3_15_1) q3_15_1))) fun _=>?_
   refine xg [] [] [1] (gh_open (QueueO (nthT f_r_cs node).aq ((nthS fc.cs (2*node+1)).queue))) fun ⟨a_l3,c_l4⟩=>?_
   refine bindG H fun y3_19 hy3_19 H=>?_
   refine xc [] [0] [0] (qulenF (nthT f_r_cs node).aq a_l3 c_l4 hy3_19) fun _=>?_
   refine xg [20,21] [0] [0] (gh_shut (QueueO (nthT f_r_cs node).aq ((nthS fc.cs (2*node+1)).queue)) (a_l3,c_l4)) fun _=>?_
   refine xg [] [] [1,0,0] (gh_sunfs fc.cs (asks f_r_cs) (2*node+1) (⟨(nthT f_r_cs node).ap,(nthT f_r_cs node).aq⟩) (asks_ans (rngE (asks_half hl3_15_1) q3_15_1)) (rng_ans hl3_19_1 (rngE (asks_half hl3_15_1) q3_15_1))) fun _=>?_
   exact xrY (someE H) [] [] [0] [1,0] ()
def froomS (fc:FabS) (node:Int) (request:Bool):Option (Int) :=
 (fisS fc node).bind fun y1_2=>(bif !y1_2 then some (0:Int) else chk (0≤node∧node<(((fc.cs.length / 2):Nat):Int)) ((bif request then (poroomS ((nthS fc.cs (2*node)).pool)).bind fun y3_10=>some y3_10 else (poroomS ((nthS fc.cs (2*node+1)).pool)).bind fun y3_10=>some y3_10)))
theorem froomF {fc:FabS} {node:Int} {request:Bool} (f:Nat) (f_a_cs:Option Addr) (f_c_cs:Nat) (f_r_cs:List PortR) {y:Int} (H:froomS fc node request=some y):FnY Tryz.prog 149 [.pointer (some ⟨f,0,none⟩),.int .i64 node,.bool request] ⟨[⟨f,#[.slice f_a_cs f_r_cs.length f_c_cs],137⟩],[(ArrA f_a_cs f_c_cs f_r_cs),(StA fc.cs (asks f_r_cs))]⟩ (Z:=Unit) (fun y _=>.int .i64 y) (fun y _=>⟨[⟨f,#[.slice f_a_cs f_r_cs.length f_c_cs],137⟩],[(ArrA f_a_cs f_c_cs f_r_cs),(StA fc.cs (asks f_r_cs))]⟩) y:=by
 unfold froomS at H
 refine xfY Tryz.func149 fun W0 F=>?_
 refine bindG H fun y1_2 hy1_2 H=>?_
 refine xc [] [0] [0,0] (fisF f f_a_cs f_c_cs f_r_cs hy1_2) fun _=>?_
 refine xs [] H ?_ ?_
 · intro H
   exact xrY (someE H) [1] [] [0] [0,0] ()
 · intro H
   refine xk [0,0] [1] (st_len fc.cs (asks f_r_cs)) fun hl3_5_1=>?_
   refine chkG H fun q3_5_1 H=>?_
   refine xi [] 0 (rA f_a_cs f_c_cs f_r_cs) (rngE (asks_half hl3_5_1) q3_5_1) fun b1 o1 e1=>?_
   refine xo [] [] [0] (oc_ldN (rA f_a_cs f_c_cs f_r_cs) e1 (rngE (asks_half hl3_5_1) q3_5_1) rfl 0 4) fun _=>?_
   refine xsd [] 18 H ?_ ?_
   · intro H
     refine xq [] (psort_t (nthT f_r_cs node)) ?_
     refine xk [] [2] (st_len fc.cs (asks f_r_cs)) fun hl3_10_1=>?_
     refine xg [] [] [2] (gh_sfoc fc.cs (asks f_r_cs) (2*node) (⟨(nthT f_r_cs node).rp,(nthT f_r_cs node).rq⟩) (asks_req (rngE (asks_half hl3_5_1) q3_5_1)) (rng_req hl3_10_1 (rngE (asks_half hl3_5_1) q3_5_1))) fun _=>?_
     refine xg [] [] [0] (gh_open (PoolO (nthT f_r_cs node).rp ((nthS fc.cs (2*node)).pool))) fun ⟨a_l1,c_l2⟩=>?_
     refine bindG H fun y3_10 hy3_10 H=>?_
     refine xc [] [0] [0] (poroomF (nthT f_r_cs node).rp a_l1 c_l2 hy3_10) fun _=>?_
     refine xg [] [0] [0] (gh_shut (PoolO (nthT f_r_cs node).rp ((nthS fc.cs (2*node)).pool)) (a_l1,c_l2)) fun _=>?_
     refine xg [] [] [0,0,0] (gh_sunfs fc.cs (asks f_r_cs) (2*node) (⟨(nthT f_r_cs node).rp,(nthT f_r_cs node).rq⟩) (asks_req (rngE (asks_half hl3_5_1) q3_5_1)) (rng_req hl3_10_1 (rngE (asks_half hl3_5_1) q3_5_1))) fun _=>?_
     exact xrY (someE H) [] [] [0] [2,0] ()
   · intro H
     refine xq [] (psort_f (nthT f_r_cs node)) ?_
     refine xk [] [2] (st_len fc.cs (asks f_r_cs)) fun hl3_10_2=>?_
     refine xg [] [] [2] (gh_sfoc fc.cs (asks f_r_cs) (2*node+1) (⟨(nthT f_r_cs node).ap,(nthT f_r_cs node).aq⟩) (asks_ans (rngE (asks_half hl3_5_1) q3_5_1)) (rng_ans hl3_10_2 (rngE (asks_half hl3_5_1) q3_5_1))) fun _=>?_
     refine xg [] [] [0] (gh_open (PoolO (nthT f_r_cs node).ap ((nthS fc.cs (2*node+1)).pool))) fun ⟨a_l3,c_l4⟩=>?_
     refine bindG H fun y3_10 hy3_10 H=>?_
     refine xc [] [0] [0] (poroomF (nthT f_r_cs node).ap a_l3 c_l4 hy3_10) fun _=>?_
     refine xg [] [0] [0] (gh_shut (PoolO (nthT f_r_cs node).ap ((nthS fc.cs (2*node+1)).pool)) (a_l3,c_l4)) fun _=>?_
     refine xg [] [] [0,0,0] (gh_sunfs fc.cs (asks f_r_cs) (2*node+1) (⟨(nthT f_r_cs node).ap,(nthT f_r_cs node).aq⟩) (asks_ans (rngE (asks_half hl3_5_1) q3_5_1)) (rng_ans hl3_10_2 (rngE (asks_half hl3_5_1) q3_5_1))) fun _=>?_
     exact xrY (someE H) [] [] [0] [2,0] ()
def fsendS_j1 (e1_f:FabS) (y3_14:Int×BoxS):Option (Int×FabS) :=
 some (y3_14.1,e1_f)
def fsendS_j0 (fc:FabS) (p:PktS) (e0_21:Bool):Option (Int×FabS) :=
 (bif e0_21 then some ((1:Int),fc) else chk (0≤p.src∧p.src<(((fc.cs.length / 2):Nat):Int)) ((preqS p.kind).bind fun y3_10=>(bif y3_10 then (poputS ((nthS fc.cs (2*p.src)).pool) p).bind fun y3_14=>fsendS_j1 ({ cs:=(setS fc.cs (2*p.src) (⟨y3_14.2,(nthS fc.cs (2*p.src)).queue⟩:ChanS)) }:FabS) y3_14 else (poputS ((nthS fc.cs (2*p.src+1)).pool) p).bind fun y3_14=>fsendS_j1 ({ cs:=(setS fc.cs (2*p.src+1) (⟨y3_14.2,(nthS fc.cs (2*p.src+1)).queue⟩:ChanS)) }:FabS) y3_14)))
def fsendS (fc:FabS) (p:PktS):Option (Int×FabS) :=
 (pchkS p).bind fun y1_1=>(bif !(decide (y1_1=(0:Int))) then (fsendS_j0 fc p) true else (fisS fc p.src).bind fun y1_7=>(bif !y1_7 then (fsendS_j0 fc p) true else (fisS fc p.dst).bind fun y1_14=>(fsendS_j0 fc p) !y1_14))
theorem fsendF {fc:FabS} {p:PktS} {p0A:Asn} (f:Nat) (p0a:Option Addr) (p0c:Nat) (hp0A:Rdb p0A p0a p0c p.data) {y:Int×FabS} (H:fsendS fc p=some y):FnY Tryz.prog 151 [.pointer (some ⟨f,0,none⟩),.agg #[.int .i64 p.kind,.int .i64 p.src,.int .i64 p.dst,.int .i64 p.id,.int .i64 p.line,.int .i64 p.ptr,.int .i64 p.state,.bool p.flag,.slice p0a p.data.length p0c]] ⟨[],[(FabA f fc),p0A]⟩ (Z:=Unit) (fun y _=>.int .i64 y.1) (fun y _=>⟨[],[(FabA f y.2),p0A]⟩) y:=by
 unfold fsendS at H
 refine xfY Tryz.func151 fun W0 F=>?_
 refine xn [] fun b0_0=>?_
 refine xj [101] (ι:=Bool) (fun e0_21=>⟨[(0,.pointer (some ⟨f,0,none⟩)),(3,.pointer (some ⟨b0_0,0,none⟩)),(21,.bool e0_21)],[⟨b0_0,#[.int .i64 p.kind,.int .i64 p.src,.int .i64 p.dst,.int .i64 p.id,.int .i64 p.line,.int .i64 p.ptr,.int .i64 p.state,.bool p.flag,.slice p0a p.data.length p0c],176⟩],[(FabA f fc),p0A]⟩) (fun e0_21=>fsendS_j0 fc p e0_21=some y) ?_ ?_
 · rintro e0_21 H
   replace H:fsendS_j0 fc p e0_21=some y:=H
   rw [fsendS_j0] at H
   refine xs [] H ?_ ?_
   · intro H
     exact xrY (someE H) [1] [] [] [0,0] ()
   · intro H
     refine xj [0,100] (ι:=FabS×(Int×BoxS)) (fun (e1_f,y3_14)=>⟨[(4,.int .i64 y3_14.1)],[],[(FabA f e1_f),p0A]⟩) (fun (e1_f,y3_14)=>fsendS_j1 e1_f y3_14=some y) ?_ ?_
     · rintro ⟨e1_f,y3_14⟩ H
       replace H:fsendS_j1 e1_f y3_14=some y:=H
       rw [fsendS_j1] at H
       exact xrY (someE H) [] [] [] [0,0] ()
     · intro N1 hN1
       refine xg [0,1,2,3] [] [0] (gh_open (FabO f fc)) fun ⟨a_cs1,c_cs2,r_cs3⟩=>?_
       refine xk [0,4,5,1,6] [1] (st_len fc.cs (asks r_cs3)) fun hl3_6_1=>?_
       refine chkG H fun q3_6_1 H=>?_
       refine xi [] 0 (rA a_cs1 c_cs2 r_cs3) (rngE (asks_half hl3_6_1) q3_6_1) fun b1 o1 e1=>?_
       refine xpl [7] 0 (ol_ldN (rA a_cs1 c_cs2 r_cs3) e1 (rngE (asks_half hl3_6_1) q3_6_1) 0 4 (fun _=>rfl)) ?_
       refine bindG H fun y3_10 hy3_10 H=>?_
       refine xq [8,9,1,10] (preq_fq hy3_10) ?_
       refine xsd [11] 32 H ?_ ?_
       · intro H
         refine xq [] (psort_t (nthT r_cs3 p.src)) ?_
         refine xk [12,13,1,14] [1] (st_len fc.cs (asks r_cs3)) fun hl3_14_1=>?_
         refine xg [] [] [1] (gh_sfoc fc.cs (asks r_cs3) (2*p.src) (⟨(nthT r_cs3 p.src).rp,(nthT r_cs3 p.src).rq⟩) (asks_req (rngE (asks_half hl3_6_1) q3_6_1)) (rng_req hl3_14_1 (rngE (asks_half hl3_6_1) q3_6_1))) fun _=>?_
         refine bindG H fun y3_14 hy3_14 H=>?_
         refine xc [] [] [0,3] (poputF (nthT r_cs3 p.src).rp p0a p0c hp0A hy3_14) fun _=>?_
         refine xg [15] [] [0,1,1] (gh_sunf fc.cs (asks r_cs3) (2*p.src) (⟨(nthT r_cs3 p.src).rp,(nthT r_cs3 p.src).rq⟩) (⟨y3_14.2,(nthS fc.cs (2*p.src)).queue⟩:ChanS) (asks_req (rngE (asks_half hl3_6_1) q3_6_1)) (rng_req hl3_14_1 (rngE (asks_half hl3_6_1) q3_6_1)) rfl) fun _=>?_
         refine xg [] [0] [2,0] (gh_shut (FabO f ({ cs:=(setS fc.cs (2*p.src) (⟨y3_14.2,(nthS fc.cs (2*p.src)).queue⟩:ChanS)) }:FabS)) (a_cs1,c_cs2,r_cs3)) fun _=>?_
         exact xe [] _ [] [0,0] (hN1 (({ cs:=(setS fc.cs (2*p.src) (⟨y3_14.2,(nthS fc.cs (2*p.src)).queue⟩:ChanS)) }:FabS),y3_14) H)
       · intro H
         refine xq [] (psort_f (nthT r_cs3 p.src)) ?_
         refine xk [12,13,1,14] [1] (st_len fc.cs (asks r_cs3)) fun hl3_14_2=>?_
         refine xg [] [] [1] (gh_sfoc fc.cs (asks r_cs3) (2*p.src+1) (⟨(nthT r_cs3 p.src).ap,(nthT r_cs3 p.src).aq⟩) (asks_ans (rngE (asks_half hl3_6_1) q3_6_1)) (rng_ans hl3_14_2 (rngE (asks_half hl3_6_1) q3_6_1))) fun _=>?_
         refine bindG H fun y3_14 hy3_14 H=>?_
         refine xc [] [] [0,3] (poputF (nthT r_cs3 p.src).ap p0a p0c hp0A hy3_14) fun _=>?_
         refine xg [15] [] [0,1,1] (gh_sunf fc.cs (asks r_cs3) (2*p.src+1) (⟨(nthT r_cs3 p.src).ap,(nthT r_cs3 p.src).aq⟩) (⟨y3_14.2,(nthS fc.cs (2*p.src+1)).queue⟩:ChanS) (asks_ans (rngE (asks_half hl3_6_1) q3_6_1)) (rng_ans hl3_14_2 (rngE (asks_half hl3_6_1) q3_6_1)) rfl) fun _=>?_
         refine xg [] [0] [2,0] (gh_shut (FabO f ({ cs:=(setS fc.cs (2*p.src+1) (⟨y3_14.2,(nthS fc.cs (2*p.src+1)).queue⟩:ChanS)) }:FabS)) (a_cs1,c_cs2,r_cs3)) fun _=>?_
         exact xe [] _ [] [0,0] (hN1 (({ cs:=(setS fc.cs (2*p.src+1) (⟨y3_14.2,(nthS fc.cs (2*p.src+1)).queue⟩:ChanS)) }:FabS),y3_14) H)
 · intro N0 hN0
   refine bindG H fun y1_1 hy1_1 H=>?_
   refine xc [0] [] [] (pchkF p0a p0c hy1_1) fun _=>?_
   refine xs [] H ?_ ?_
   · intro H
     exact xe [0,0,0,0,0,1,0,0,0,0,0,1] _ [0] [0,0] (hN0 (true) H)
   · intro H
     refine xg [1,1,1,0,1] [] [0] (gh_open (FabO f fc)) fun ⟨a_cs4,c_cs5,r_cs6⟩=>?_
     refine bindG H fun y1_7 hy1_7 H=>?_
     refine xc [1] [0] [0,0] (fisF f a_cs4 c_cs5 r_cs6 hy1_7) fun _=>?_
     refine xs [1,0] H ?_ ?_
     · intro H
       refine xg [0,0,0,0,0,1] [0] [0,0] (gh_shut (FabO f fc) (a_cs4,c_cs5,r_cs6)) fun _=>?_
       exact xe [] _ [0] [0,0] (hN0 (true) H)
     · intro H
       refine bindG H fun y1_14 hy1_14 H=>?_
       refine xc [1,1,1,1,1] [0] [0,0] (fisF f a_cs4 c_cs5 r_cs6 hy1_14) fun _=>?_
       refine xg [1,0] [0] [0,0] (gh_shut (FabO f fc) (a_cs4,c_cs5,r_cs6)) fun _=>?_
       exact xe [] _ [0] [0,0] (hN0 (!y1_14) H)
def ftakeS (fc:FabS) (node:Int) (request:Bool):Option (PktS×Bool×FabS) :=
 (fisS fc node).bind fun y1_2=>(bif !y1_2 then some ((⟨(0:Int),(0:Int),(0:Int),(0:Int),(0:Int),(0:Int),(0:Int),false,([]:List Int)⟩:PktS),false,fc) else chk (0≤node∧node<(((fc.cs.length / 2):Nat):Int)) ((bif request then (qutakeS ((nthS fc.cs (2*node)).queue)).bind fun y3_10=>some (y3_10.1,y3_10.2.1,({ cs:=(setS fc.cs (2*node) (⟨(nthS fc.cs (2*node)).pool,y3_10.2.2⟩:ChanS)) }:FabS)) else (qutakeS ((nthS fc.cs (2*node+1)).queue)).bind fun y3_10=>some (y3_10.1,y3_10.2.1,({ cs:=(setS fc.cs (2*node+1) (⟨(nthS fc.cs (2*node+1)).pool,y3_10.2.2⟩:ChanS)) }:FabS)))))
theorem ftakeF {fc:FabS} {node:Int} {request:Bool} (f:Nat) {y:PktS×Bool×FabS} (H:ftakeS fc node request=some y):FnY Tryz.prog 186 [.pointer (some ⟨f,0,none⟩),.int .i64 node,.bool request] ⟨[],[(FabA f fc)]⟩ (Z:=Option Addr×Nat) (fun y (za0,zc0)=>.tuple #[.agg #[.int .i64 y.1.kind,.int .i64 y.1.src,.int .i64 y.1.dst,.int .i64 y.1.id,.int .i64 y.1.line,.int .i64 y.1.ptr,.int .i64 y.1.state,.bool y.1.flag,.slice za0 y.1.data.length zc0],.bool y.2.1]) (fun y (za0,zc0)=>⟨[],[(ArrA za0 zc0 y.1.data),(FabA f y.2.2)]⟩) y:=by
 unfold ftakeS at H
 refine xfY Tryz.func186 fun W0 F=>?_
 refine xn [] fun b0_0=>?_
 refine xg [] [] [0] (gh_open (FabO f fc)) fun ⟨a_cs1,c_cs2,r_cs3⟩=>?_
 refine bindG H fun y1_2 hy1_2 H=>?_
 refine xc [] [0] [0,0] (fisF f a_cs1 c_cs2 r_cs3 hy1_2) fun _=>?_
 refine xs [] H ?_ ?_
 · intro H
   refine xg [1,1] [] [] (gh_nil (α:=Int) none) fun _=>?_
   refine xg [] [0] [1,1] (gh_shut (FabO f fc) (a_cs1,c_cs2,r_cs3)) fun _=>?_
   exact xrY (someE H) [] [0] [] [1,0] (none,0)
 · intro H
   refine xk [0,0] [1] (st_len fc.cs (asks r_cs3)) fun hl3_5_1=>?_
   refine chkG H fun q3_5_1 H=>?_
   refine xi [] 0 (rA a_cs1 c_cs2 r_cs3) (rngE (asks_half hl3_5_1) q3_5_1) fun b1 o1 e1=>?_
   refine xo [] [] [0] (oc_ldN (rA a_cs1 c_cs2 r_cs3) e1 (rngE (asks_half hl3_5_1) q3_5_1) rfl 0 4) fun _=>?_
   refine xsd [] 20 H ?_ ?_
   · intro H
     refine xq [] (psort_t (nthT r_cs3 node)) ?_
     refine xk [] [2] (st_len fc.cs (asks r_cs3)) fun hl3_10_1=>?_
     refine xg [] [] [2] (gh_sfoc fc.cs (asks r_cs3) (2*node) (⟨(nthT r_cs3 node).rp,(nthT r_cs3 node).rq⟩) (asks_req (rngE (asks_half hl3_5_1) q3_5_1)) (rng_req hl3_10_1 (rngE (asks_half hl3_5_1) q3_5_1))) fun _=>?_
     refine bindG H fun y3_10 hy3_10 H=>?_
     refine xc [] [] [1] (qutakeF (nthT r_cs3 node).rq hy3_10) fun ⟨t3_10_a0,t3_10_c0⟩=>?_
     refine xg [1] [] [2,1,1] (gh_sunf fc.cs (asks r_cs3) (2*node) (⟨(nthT r_cs3 node).rp,(nthT r_cs3 node).rq⟩) (⟨(nthS fc.cs (2*node)).pool,y3_10.2.2⟩:ChanS) (asks_req (rngE (asks_half hl3_5_1) q3_5_1)) (rng_req hl3_10_1 (rngE (asks_half hl3_5_1) q3_5_1)) rfl) fun _=>?_
     refine xg [] [0] [3,0] (gh_shut (FabO f ({ cs:=(setS fc.cs (2*node) (⟨(nthS fc.cs (2*node)).pool,y3_10.2.2⟩:ChanS)) }:FabS)) (a_cs1,c_cs2,r_cs3)) fun _=>?_
     exact xrY (someE H) [] [0] [] [1,0] (t3_10_a0,t3_10_c0)
   · intro H
     refine xq [] (psort_f (nthT r_cs3 node)) ?_
     refine xk [] [2] (st_len fc.cs (asks r_cs3)) fun hl3_10_2=>?_
     refine xg [] [] [2] (gh_sfoc fc.cs (asks r_cs3) (2*node+1) (⟨(nthT r_cs3 node).ap,(nthT r_cs3 node).aq⟩) (asks_ans (rngE (asks_half hl3_5_1) q3_5_1)) (rng_ans hl3_10_2 (rngE (asks_half hl3_5_1) q3_5_1))) fun _=>?_
     refine bindG H fun y3_10 hy3_10 H=>?_
     refine xc [] [] [1] (qutakeF (nthT r_cs3 node).aq hy3_10) fun ⟨t3_10_a0,t3_10_c0⟩=>?_
     refine xg [1] [] [2,1,1] (gh_sunf fc.cs (asks r_cs3) (2*node+1) (⟨(nthT r_cs3 node).ap,(nthT r_cs3 node).aq⟩) (⟨(nthS fc.cs (2*node+1)).pool,y3_10.2.2⟩:ChanS) (asks_ans (rngE (asks_half hl3_5_1) q3_5_1)) (rng_ans hl3_10_2 (rngE (asks_half hl3_5_1) q3_5_1)) rfl) fun _=>?_
     refine xg [] [0] [3,0] (gh_shut (FabO f ({ cs:=(setS fc.cs (2*node+1) (⟨(nthS fc.cs (2*node+1)).pool,y3_10.2.2⟩:ChanS)) }:FabS)) (a_cs1,c_cs2,r_cs3)) fun _=>?_
     exact xrY (someE H) [] [0] [] [1,0] (t3_10_a0,t3_10_c0)
def freqS (fc:FabS) (node:Int):Option (PktS×Bool×FabS) :=
 (ftakeS fc node true).bind fun y1_2=>some (y1_2.1,y1_2.2.1,y1_2.2.2)
theorem freqF {fc:FabS} {node:Int} (f:Nat) {y:PktS×Bool×FabS} (H:freqS fc node=some y):FnY Tryz.prog 152 [.pointer (some ⟨f,0,none⟩),.int .i64 node] ⟨[],[(FabA f fc)]⟩ (Z:=Option Addr×Nat) (fun y (za0,zc0)=>.tuple #[.agg #[.int .i64 y.1.kind,.int .i64 y.1.src,.int .i64 y.1.dst,.int .i64 y.1.id,.int .i64 y.1.line,.int .i64 y.1.ptr,.int .i64 y.1.state,.bool y.1.flag,.slice za0 y.1.data.length zc0],.bool y.2.1]) (fun y (za0,zc0)=>⟨[],[(ArrA za0 zc0 y.1.data),(FabA f y.2.2)]⟩) y:=by
 unfold freqS at H
 refine xfY Tryz.func152 fun W0 F=>?_
 refine xn [] fun b0_0=>?_
 refine bindG H fun y1_2 hy1_2 H=>?_
 refine xc [] [] [0] (ftakeF f hy1_2) fun ⟨t1_2_a0,t1_2_c0⟩=>?_
 exact xrY (someE H) [0] [0] [] [0,0] (t1_2_a0,t1_2_c0)
def frepS (fc:FabS) (node:Int):Option (PktS×Bool×FabS) :=
 (ftakeS fc node false).bind fun y1_2=>some (y1_2.1,y1_2.2.1,y1_2.2.2)
theorem frepF {fc:FabS} {node:Int} (f:Nat) {y:PktS×Bool×FabS} (H:frepS fc node=some y):FnY Tryz.prog 142 [.pointer (some ⟨f,0,none⟩),.int .i64 node] ⟨[],[(FabA f fc)]⟩ (Z:=Option Addr×Nat) (fun y (za0,zc0)=>.tuple #[.agg #[.int .i64 y.1.kind,.int .i64 y.1.src,.int .i64 y.1.dst,.int .i64 y.1.id,.int .i64 y.1.line,.int .i64 y.1.ptr,.int .i64 y.1.state,.bool y.1.flag,.slice za0 y.1.data.length zc0],.bool y.2.1]) (fun y (za0,zc0)=>⟨[],[(ArrA za0 zc0 y.1.data),(FabA f y.2.2)]⟩) y:=by
 unfold frepS at H
 refine xfY Tryz.func142 fun W0 F=>?_
 refine xn [] fun b0_0=>?_
 refine bindG H fun y1_2 hy1_2 H=>?_
 refine xc [] [] [0] (ftakeF f hy1_2) fun ⟨t1_2_a0,t1_2_c0⟩=>?_
 exact xrY (someE H) [0] [0] [] [0,0] (t1_2_a0,t1_2_c0)
def funderS_j0 (e0_3:Int):Option (Int) :=
 some e0_3
def funderS_l1 (fc:FabS) (k0:Int→Option (Int)):Nat→Int→Int→Option (Int)
 |0,_,_=>none
 |m+1,v1_3,v1_9=>(bif decide (v1_9<(fc.cs.length:Int)) then chk (0≤v1_9∧v1_9<(fc.cs.length:Int)) ((polenS ((nthS fc.cs v1_9).pool)).bind fun y5_3=>chk (inR (v1_9+(1:Int))) ((funderS_l1 fc k0 m) (wr (v1_3+y5_3)) (v1_9+(1:Int)))) else k0 v1_3)
def funderS (fc:FabS):Option (Int) :=
 chk (fc.cs.length≤1099511627776) (funderS_l1 fc funderS_j0 (fc.cs.length+1) (0:Int) (0:Int))
theorem funderF {fc:FabS} (f:Nat) (f_a_cs:Option Addr) (f_c_cs:Nat) (f_r_cs:List PortR) {y:Int} (H:funderS fc=some y):FnY Tryz.prog 23 [.pointer (some ⟨f,0,none⟩)] ⟨[⟨f,#[.slice f_a_cs f_r_cs.length f_c_cs],137⟩],[(ArrA f_a_cs f_c_cs f_r_cs),(StA fc.cs (asks f_r_cs))]⟩ (Z:=Unit) (fun y _=>.int .i64 y) (fun y _=>⟨[⟨f,#[.slice f_a_cs f_r_cs.length f_c_cs],137⟩],[(ArrA f_a_cs f_c_cs f_r_cs),(StA fc.cs (asks f_r_cs))]⟩) y:=by
 unfold funderS at H
 refine xfY Tryz.func23 fun W0 F=>?_
 refine xj [102] (ι:=Int) (fun e0_3=>⟨[(3,.int .i64 e0_3)],[⟨f,#[.slice f_a_cs f_r_cs.length f_c_cs],137⟩],[(ArrA f_a_cs f_c_cs f_r_cs),(StA fc.cs (asks f_r_cs))]⟩) (fun e0_3=>funderS_j0 e0_3=some y) ?_ ?_
 · rintro e0_3 H
   replace H:funderS_j0 e0_3=some y:=H
   rw [funderS_j0] at H
   exact xrY (someE H) [] [] [0] [0,0] ()
 · intro N0 hN0
   refine xk [] [1] (st_len fc.cs (asks f_r_cs)) fun hl2_1_1=>?_
   refine chkG H fun q2_1_1 H=>?_
   refine xc [] [0] [0] (poolsG f f_a_cs f_c_cs f_r_cs hl2_1_1 q2_1_1) fun ⟨t2_1_a,t2_1_c⟩=>?_
   refine xk [] [2] (st_len fc.cs (asks f_r_cs)) fun hl2_2_1=>?_
   refine xw [300] 8 (congrArg (fun n:Nat=>Value.int .i64 n) hl2_2_1) ?_
   refine xl [] (ι:=Int×Int) (fun (v1_3,v1_9)=>⟨[(3,.int .i64 v1_3),(7,.slice t2_1_a (List.length (asks f_r_cs)) t2_1_c),(8,.int .i64 fc.cs.length),(9,.int .i64 v1_9)],[⟨f,#[.slice f_a_cs f_r_cs.length f_c_cs],137⟩],[(ArrA t2_1_a t2_1_c (asks f_r_cs)),(ArrA f_a_cs f_c_cs f_r_cs),(StA fc.cs (asks f_r_cs))]⟩) (fun m1 (v1_3,v1_9)=>funderS_l1 fc (funderS_j0) m1 v1_3 v1_9=some y) [0] [0,0,0] ((fc.cs.length+1)) ((0:Int),(0:Int)) H ?_
   rintro N1 (_ | m1) ⟨v1_3,v1_9⟩ H hN1
   · exact (noneE H).elim
   replace H:funderS_l1 fc (funderS_j0) (m1+1) v1_3 v1_9=some y:=H
   rw [funderS_l1] at H
   refine xs [] H ?_ ?_
   · intro H
     refine xk [1] [2] (st_len fc.cs (asks f_r_cs)) fun hl4_0_1=>?_
     refine chkG H fun q4_0_1 H=>?_
     refine xi [] 0 (rA t2_1_a t2_1_c (asks f_r_cs)) (rngE hl4_0_1 q4_0_1) fun b1 o1 e1=>?_
     refine xo [] [] [0] (oc_ldN (rA t2_1_a t2_1_c (asks f_r_cs)) e1 (rngE hl4_0_1 q4_0_1) rfl 0 2) fun _=>?_
     refine xn [] fun b4_2=>?_
     refine xk [0,0] [3] (st_len fc.cs (asks f_r_cs)) fun hl5_3_1=>?_
     refine xg [] [] [3] (gh_sfoc fc.cs (asks f_r_cs) v1_9 (nthT (asks f_r_cs) v1_9) rfl (rngB hl5_3_1 (rngE hl4_0_1 q4_0_1))) fun _=>?_
     refine xg [] [] [0] (gh_open (PoolO (nthT (asks f_r_cs) v1_9).p ((nthS fc.cs v1_9).pool))) fun ⟨a_l1,c_l2⟩=>?_
     refine bindG H fun y5_3 hy5_3 H=>?_
     refine xc [] [0] [0] (polenF (nthT (asks f_r_cs) v1_9).p a_l1 c_l2 hy5_3) fun _=>?_
     refine chkG H fun q6_0_1 H=>?_
     refine xd [1,0] (ap q6_0_1 an) ?_
     refine xg [] [0] [0] (gh_shut (PoolO (nthT (asks f_r_cs) v1_9).p ((nthS fc.cs v1_9).pool)) (a_l1,c_l2)) fun _=>?_
     refine xg [] [] [0,0,0] (gh_sunfs fc.cs (asks f_r_cs) v1_9 (nthT (asks f_r_cs) v1_9) rfl (rngB hl5_3_1 (rngE hl4_0_1 q4_0_1))) fun _=>?_
     exact xe [] _ [1] [2,2,0] (hN1 _ (wr (v1_3+y5_3),v1_9+(1:Int)) (Nat.lt_succ_self _) H)
   · intro H
     exact xe [0] _ [0] [1,1] (hN0 (v1_3) H)
end
section
open Go Go.RowKit
def pflagS (is_:Bool):Option (Int) :=
 (bif is_ then some (1:Int) else some (0:Int))
theorem pflagF {is_:Bool} {y:Int} (H:pflagS is_=some y):FnY Tryz.prog 178 [.bool is_] ⟨[],[]⟩ (Z:=Unit) (fun y _=>.int .u8 y) (fun y _=>⟨[],[]⟩) y:=by
 unfold pflagS at H
 refine xfY Tryz.func178 fun W0 F=>?_
 refine xs [] H ?_ ?_
 · intro H
   exact xrY (someE H) [1] [] [] [] ()
 · intro H
   exact xrY (someE H) [0] [] [] [] ()
def pwordS_j0 (e0_3x:List U8):Option (List U8) :=
 some e0_3x
def pwordS_l1 (n:Int) (k0:(List U8)→Option (List U8)):Nat→(List U8)→Int→Option (List U8)
 |0,_,_=>none
 |m+1,v1_3x,v1_4=>(bif decide ((0:Int)≤v1_4) then chk (0≤v1_4) (letP (shrI .i64 n v1_4) fun u5_3=>chk ((v1_3x++([IntKind.wrap .u8 u5_3]:List U8)).length≤1099511627776) (letP (v1_3x++([IntKind.wrap .u8 u5_3]:List U8)) fun l5_6=>chk (inR (v1_4 - (8:Int))) ((pwordS_l1 n k0 m) l5_6 (v1_4 - (8:Int))))) else k0 v1_3x)
def pwordS (n:Int):Option (List U8) :=
 pwordS_l1 n pwordS_j0 9 ([]:List U8) (56:Int)
theorem pwordF {n:Int} {y:List U8} (H:pwordS n=some y):FnY Tryz.prog 179 [.int .i64 n] ⟨[],[]⟩ (Z:=Option Addr×Nat) (fun y (za0,zc0)=>.slice za0 y.length zc0) (fun y (za0,zc0)=>⟨[],[(ArrA za0 zc0 y)]⟩) y:=by
 unfold pwordS at H
 refine xfY Tryz.func179 fun W0 F=>?_
 refine xj [102] (ι:=List U8×Option Addr×Nat) (fun (e0_3x,e0_3a,e0_3c)=>⟨[(3,.slice e0_3a e0_3x.length e0_3c)],[],[(ArrA e0_3a e0_3c e0_3x)]⟩) (fun (e0_3x,e0_3a,e0_3c)=>pwordS_j0 e0_3x=some y) ?_ ?_
 · rintro ⟨e0_3x,e0_3a,e0_3c⟩ H
   replace H:pwordS_j0 e0_3x=some y:=H
   rw [pwordS_j0] at H
   exact xrY (someE H) [] [] [] [0] (e0_3a,e0_3c)
 · intro N0 hN0
   refine xg [] [] [] (gh_nil (α:=U8) none) fun _=>?_
   refine xl [] (ι:=List U8×Int×Option Addr×Nat) (fun (v1_3x,v1_4,v1_3a,v1_3c)=>⟨[(0,.int .i64 n),(3,.slice v1_3a v1_3x.length v1_3c),(4,.int .i64 v1_4)],[],[(ArrA v1_3a v1_3c v1_3x)]⟩) (fun m1 (v1_3x,v1_4,v1_3a,v1_3c)=>pwordS_l1 n (pwordS_j0) m1 v1_3x v1_4=some y) [] [0] (9) (([]:List U8),(56:Int),none,0) H ?_
   rintro N1 (_ | m1) ⟨v1_3x,v1_4,v1_3a,v1_3c⟩ H hN1
   · exact (noneE H).elim
   replace H:pwordS_l1 n (pwordS_j0) (m1+1) v1_3x v1_4=some y:=H
   rw [pwordS_l1] at H
   refine xs [] H ?_ ?_
   · intro H
     refine chkG H fun q5_3_1 H=>?_
     refine letG H fun u5_3 hu5_3 H=>?_
     refine xp [1] (hu5_3▸ov_shr (k:=.i64) (yk:=.i64) (a:=n) (n:=v1_4) q5_3_1) ?_
     refine xn [] fun b5_5=>?_
     refine xg [] [0] [1] (gh_one (α:=U8) b5_5 5 (IntKind.wrap .u8 u5_3) ()) fun _=>?_
     refine chkG H fun q5_6_1 H=>?_
     refine letG H fun l5_6 hl5_6 H=>?_
     refine xa [] [1,0] (a:=v1_3a) (l:=v1_3x) (zs:=l5_6) (cap:=v1_3c) (rA (some ⟨b5_5,0,none⟩) 1 ([IntKind.wrap .u8 u5_3]:List U8)) hl5_6 (hl5_6▸q5_6_1) fun ⟨a5_6,c5_6⟩=>?_
     refine chkG H fun q4_1_1 H=>?_
     refine xd [0] (ap q4_1_1 an) ?_
     exact xe [] _ [] [0] (hN1 _ (l5_6,v1_4 - (8:Int),a5_6,c5_6) (Nat.lt_succ_self _) H)
   · intro H
     exact xe [0] _ [] [0] (hN0 (v1_3x,v1_3a,v1_3c) H)
def pnumS_j0 (e0_3:Int):Option (Int) :=
 some (wr e0_3)
def pnumS_l1 (b:List U8) (k0:Int→Option (Int)):Nat→Int→Int→Option (Int)
 |0,_,_=>none
 |m+1,v1_3,v1_8=>(bif decide (v1_8<(b.length:Int)) then chk (0≤v1_8∧v1_8<(b.length:Int)) (letP (bor .u64 (shlI .u64 v1_3 (8:Int)) (IntKind.wrap .u64 (nthB b v1_8))) fun u5_4=>chk (inR (v1_8+(1:Int))) ((pnumS_l1 b k0 m) u5_4 (v1_8+(1:Int)))) else k0 v1_3)
def pnumS (b:List U8):Option (Int) :=
 pnumS_l1 b pnumS_j0 (b.length+1) (0:Int) (0:Int)
theorem pnumF {b:List U8} {bA:Asn} (ba:Option Addr) (bc:Nat) (hbA:Rdb bA ba bc b) {y:Int} (H:pnumS b=some y):FnY Tryz.prog 183 [.slice ba b.length bc] ⟨[],[bA]⟩ (Z:=Unit) (fun y _=>.int .i64 y) (fun y _=>⟨[],[bA]⟩) y:=by
 unfold pnumS at H
 refine xfY Tryz.func183 fun W0 F=>?_
 refine xj [102] (ι:=Int) (fun e0_3=>⟨[(3,.int .u64 e0_3)],[],[bA]⟩) (fun e0_3=>pnumS_j0 e0_3=some y) ?_ ?_
 · rintro e0_3 H
   replace H:pnumS_j0 e0_3=some y:=H
   rw [pnumS_j0] at H
   exact xrY (someE H) [] [] [] [0] ()
 · intro N0 hN0
   refine xl [] (ι:=Int×Int) (fun (v1_3,v1_8)=>⟨[(3,.int .u64 v1_3),(6,.slice ba b.length bc),(7,.int .i64 b.length),(8,.int .i64 v1_8)],[],[bA]⟩) (fun m1 (v1_3,v1_8)=>pnumS_l1 b (pnumS_j0) m1 v1_3 v1_8=some y) [] [0] ((b.length+1)) ((0:Int),(0:Int)) H ?_
   rintro N1 (_ | m1) ⟨v1_3,v1_8⟩ H hN1
   · exact (noneE H).elim
   replace H:pnumS_l1 b (pnumS_j0) (m1+1) v1_3 v1_8=some y:=H
   rw [pnumS_l1] at H
   refine xs [] H ?_ ?_
   · intro H
     refine chkG H fun q4_0_1 H=>?_
     refine xi [1] 0 hbA q4_0_1 fun b1 o1 e1=>?_
     refine xpl [] 0 (ol_ld hbA e1 q4_0_1 0 (fun _=>rfl)) ?_
     refine letG H fun u5_4 hu5_4 H=>?_
     refine xw [307] 16 (congrArg (Value.int .u64) hu5_4) ?_
     refine chkG H fun q6_0_1 H=>?_
     refine xd [0] (ap q6_0_1 an) ?_
     exact xe [] _ [] [0] (hN1 _ (u5_4,v1_8+(1:Int)) (Nat.lt_succ_self _) H)
   · intro H
     exact xe [0] _ [] [0] (hN0 (v1_3) H)
def csumS_j0 (e0_3:Int):Option (Int) :=
 some e0_3
def csumS_j2 (v1_9:Int) (r1:Int→Int→Option (Int)) (e2_3:Int):Option (Int) :=
 chk (inR (v1_9+(1:Int))) (r1 e2_3 (v1_9+(1:Int)))
def csumS_l3 (k2:Int→Option (Int)):Nat→Int→Int→Option (Int)
 |0,_,_=>none
 |m+1,v3_3,v3_18=>(bif decide (v3_18<(8:Int)) then letP (IntKind.wrap .u16 ((shrI .u16 v3_3 (15:Int))*(4129:Int))) fun u9_3=>letP (bxor .u16 (shlI .u16 v3_3 (1:Int)) u9_3) fun u9_4=>chk (inR (v3_18+(1:Int))) ((csumS_l3 k2 m) u9_4 (v3_18+(1:Int))) else k2 v3_3)
def csumS_l1 (b:List U8) (k0:Int→Option (Int)):Nat→Int→Int→Option (Int)
 |0,_,_=>none
 |m+1,v1_3,v1_9=>(bif decide (v1_9<(b.length:Int)) then chk (0≤v1_9∧v1_9<(b.length:Int)) (letP (shlI .u16 (IntKind.wrap .u16 (nthB b v1_9)) (8:Int)) fun u5_3=>csumS_l3 (csumS_j2 v1_9 (csumS_l1 b k0 m)) 9 (bxor .u16 v1_3 u5_3) (0:Int)) else k0 v1_3)
def csumS (b:List U8):Option (Int) :=
 csumS_l1 b csumS_j0 (b.length+1) (65535:Int) (0:Int)
theorem csumF {b:List U8} {bA:Asn} (ba:Option Addr) (bc:Nat) (hbA:Rdb bA ba bc b) {y:Int} (H:csumS b=some y):FnY Tryz.prog 214 [.slice ba b.length bc] ⟨[],[bA]⟩ (Z:=Unit) (fun y _=>.int .u16 y) (fun y _=>⟨[],[bA]⟩) y:=by
 unfold csumS at H
 refine xfY Tryz.func214 fun W0 F=>?_
 refine xj [102] (ι:=Int) (fun e0_3=>⟨[(3,.int .u16 e0_3)],[],[bA]⟩) (fun e0_3=>csumS_j0 e0_3=some y) ?_ ?_
 · rintro e0_3 H
   replace H:csumS_j0 e0_3=some y:=H
   rw [csumS_j0] at H
   exact xrY (someE H) [] [] [] [0] ()
 · intro N0 hN0
   refine xl [] (ι:=Int×Int) (fun (v1_3,v1_9)=>⟨[(3,.int .u16 v1_3),(7,.slice ba b.length bc),(8,.int .i64 b.length),(9,.int .i64 v1_9)],[],[bA]⟩) (fun m1 (v1_3,v1_9)=>csumS_l1 b (csumS_j0) m1 v1_3 v1_9=some y) [] [0] ((b.length+1)) ((65535:Int),(0:Int)) H ?_
   rintro N1 (_ | m1) ⟨v1_3,v1_9⟩ H hN1
   · exact (noneE H).elim
   replace H:csumS_l1 b (csumS_j0) (m1+1) v1_3 v1_9=some y:=H
   rw [csumS_l1] at H
   refine xs [] H ?_ ?_
   · intro H
     refine xj [1,100] (ι:=Int) (fun e2_3=>⟨[(3,.int .u16 e2_3),(7,.slice ba b.length bc),(8,.int .i64 b.length),(9,.int .i64 v1_9)],[],[bA]⟩) (fun e2_3=>csumS_j2 v1_9 (csumS_l1 b (csumS_j0) m1) e2_3=some y) ?_ ?_
     · rintro e2_3 H
       replace H:csumS_j2 v1_9 (csumS_l1 b (csumS_j0) m1) e2_3=some y:=H
       rw [csumS_j2] at H
       refine chkG H fun q11_0_1 H=>?_
       refine xd [0] (ap q11_0_1 an) ?_
       exact xe [] _ [] [0] (hN1 _ (e2_3,v1_9+(1:Int)) (Nat.lt_succ_self _) H)
     · intro N2 hN2
       refine chkG H fun q4_0_1 H=>?_
       refine xi [] 0 hbA q4_0_1 fun b1 o1 e1=>?_
       refine xpl [] 0 (ol_ld hbA e1 q4_0_1 0 (fun _=>rfl)) ?_
       refine letG H fun u5_3 hu5_3 H=>?_
       refine xw [306] 16 (congrArg (Value.int .u16) hu5_3) ?_
       refine xl [] (ι:=Int×Int) (fun (v3_3,v3_18)=>⟨[(3,.int .u16 v3_3),(7,.slice ba b.length bc),(8,.int .i64 b.length),(9,.int .i64 v1_9),(18,.int .i64 v3_18)],[],[bA]⟩) (fun m3 (v3_3,v3_18)=>csumS_l3 (csumS_j2 v1_9 (csumS_l1 b (csumS_j0) m1)) m3 v3_3 v3_18=some y) [] [0] (9) (bxor .u16 v1_3 u5_3,(0:Int)) H ?_
       rintro N3 (_ | m3) ⟨v3_3,v3_18⟩ H hN3
       · exact (noneE H).elim
       replace H:csumS_l3 (csumS_j2 v1_9 (csumS_l1 b (csumS_j0) m1)) (m3+1) v3_3 v3_18=some y:=H
       rw [csumS_l3] at H
       refine xs [] H ?_ ?_
       · intro H
         refine letG H fun u9_3 hu9_3 H=>?_
         refine xw [1,1,300] 25 (congrArg (Value.int .u16) hu9_3) ?_
         refine letG H fun u9_4 hu9_4 H=>?_
         refine xw [301] 26 (congrArg (Value.int .u16) hu9_4) ?_
         refine chkG H fun q10_0_1 H=>?_
         refine xd [0] (ap q10_0_1 an) ?_
         exact xe [] _ [] [0] (hN3 _ (u9_4,v3_18+(1:Int)) (Nat.lt_succ_self _) H)
       · intro H
         exact xe [0] _ [] [0] (hN2 (v3_3) H)
   · intro H
     exact xe [0] _ [] [0] (hN0 (v1_3) H)
def cspoilS_j0 (e0_7x:List U8):Option (List U8) :=
 some e0_7x
def cspoilS_j2 (v1_14:Int) (r1:(List U8)→Int→Int→Option (List U8)) (v1_13:Int) (e2_7x:List U8):Option (List U8) :=
 chk (inR (v1_14+(1:Int))) (r1 e2_7x v1_13 (v1_14+(1:Int)))
def cspoilS_j3 (k2:(List U8)→Option (List U8)) (v1_7x:List U8) (v1_14:Int) (mask:Int) (bit:Int) (e3_26:Bool):Option (List U8) :=
 (bif e3_26 then k2 v1_7x else chk (0≤v1_14∧v1_14<(v1_7x.length:Int)) (letP (shlI .u32 (IntKind.wrap .u32 mask) (8:Int)) fun u7_8=>letP (wr ((wr (((8:Int)*v1_14) - bit))+(8:Int))) fun u7_10=>chk (0≤u7_10) (letP (shlI .u32 u7_8 u7_10) fun u7_11=>letP (bxor .u8 (nthB v1_7x v1_14) (IntKind.wrap .u8 (shrI .u32 u7_11 (24:Int)))) fun u7_14=>chk (0≤v1_14∧v1_14<(v1_7x.length:Int)) (letP (setT v1_7x v1_14 u7_14) fun l7_16=>k2 l7_16))))
def cspoilS_l1 (bit:Int) (mask:Int) (k0:(List U8)→Option (List U8)):Nat→(List U8)→Int→Int→Option (List U8)
 |0,_,_,_=>none
 |m+1,v1_7x,v1_13,v1_14=>(bif decide (v1_14<v1_13) then chk (inR ((8:Int)*v1_14)) ((bif decide ((wr (((8:Int)*v1_14) - bit))≤((-8):Int)) then (cspoilS_j3 (cspoilS_j2 v1_14 (cspoilS_l1 bit mask k0 m) v1_13) v1_7x v1_14 mask bit) true else (cspoilS_j3 (cspoilS_j2 v1_14 (cspoilS_l1 bit mask k0 m) v1_13) v1_7x v1_14 mask bit) (decide ((16:Int)≤(wr (((8:Int)*v1_14) - bit)))))) else k0 v1_7x)
def cspoilS (b:List U8) (bit:Int) (mask:Int):Option (List U8) :=
 (cloneBS b).bind fun y1_1=>cspoilS_l1 bit mask cspoilS_j0 (b.length+1) y1_1 (y1_1.length:Int) (0:Int)
theorem cspoilF {b:List U8} {bA:Asn} {bit:Int} {mask:Int} (ba:Option Addr) (bc:Nat) (hbA:Rdb bA ba bc b) {y:List U8} (H:cspoilS b bit mask=some y):FnY Tryz.prog 138 [.slice ba b.length bc,.int .i64 bit,.int .u16 mask] ⟨[],[bA]⟩ (Z:=Option Addr×Nat) (fun y (za0,zc0)=>.slice za0 y.length zc0) (fun y (za0,zc0)=>⟨[],[(ArrA za0 zc0 y),bA]⟩) y:=by
 unfold cspoilS at H
 refine xfY Tryz.func138 fun W0 F=>?_
 refine bindG H fun y1_1 hy1_1 H=>?_
 refine xc [] [] [0] (cloneBF ba bc hbA hy1_1) fun ⟨t1_1_a0,t1_1_c0⟩=>?_
 refine xj [100] (ι:=List U8×Option Addr×Nat) (fun (e0_7x,e0_7a,e0_7c)=>⟨[(7,.slice e0_7a e0_7x.length e0_7c)],[],[(ArrA e0_7a e0_7c e0_7x),bA]⟩) (fun (e0_7x,e0_7a,e0_7c)=>cspoilS_j0 e0_7x=some y) ?_ ?_
 · rintro ⟨e0_7x,e0_7a,e0_7c⟩ H
   replace H:cspoilS_j0 e0_7x=some y:=H
   rw [cspoilS_j0] at H
   exact xrY (someE H) [] [] [] [0,0] (e0_7a,e0_7c)
 · intro N0 hN0
   refine xl [] (ι:=List U8×Int×Int×Option Addr×Nat) (fun (v1_7x,v1_13,v1_14,v1_7a,v1_7c)=>⟨[(1,.int .i64 bit),(2,.int .u16 mask),(7,.slice v1_7a v1_7x.length v1_7c),(13,.int .i64 v1_13),(14,.int .i64 v1_14)],[],[(ArrA v1_7a v1_7c v1_7x),bA]⟩) (fun m1 (v1_7x,v1_13,v1_14,v1_7a,v1_7c)=>cspoilS_l1 bit mask (cspoilS_j0) m1 v1_7x v1_13 v1_14=some y) [] [0,0] ((b.length+1)) (y1_1,(y1_1.length:Int),(0:Int),t1_1_a0,t1_1_c0) H ?_
   rintro N1 (_ | m1) ⟨v1_7x,v1_13,v1_14,v1_7a,v1_7c⟩ H hN1
   · exact (noneE H).elim
   replace H:cspoilS_l1 bit mask (cspoilS_j0) (m1+1) v1_7x v1_13 v1_14=some y:=H
   rw [cspoilS_l1] at H
   refine xs [] H ?_ ?_
   · intro H
     refine xj [1,100] (ι:=List U8×Option Addr×Nat) (fun (e2_7x,e2_7a,e2_7c)=>⟨[(1,.int .i64 bit),(2,.int .u16 mask),(7,.slice e2_7a e2_7x.length e2_7c),(13,.int .i64 v1_13),(14,.int .i64 v1_14)],[],[(ArrA e2_7a e2_7c e2_7x),bA]⟩) (fun (e2_7x,e2_7a,e2_7c)=>cspoilS_j2 v1_14 (cspoilS_l1 bit mask (cspoilS_j0) m1) v1_13 e2_7x=some y) ?_ ?_
     · rintro ⟨e2_7x,e2_7a,e2_7c⟩ H
       replace H:cspoilS_j2 v1_14 (cspoilS_l1 bit mask (cspoilS_j0) m1) v1_13 e2_7x=some y:=H
       rw [cspoilS_j2] at H
       refine chkG H fun q8_0_1 H=>?_
       refine xd [0] (ap q8_0_1 an) ?_
       exact xe [] _ [] [0,0] (hN1 _ (e2_7x,v1_13,v1_14+(1:Int),e2_7a,e2_7c) (Nat.lt_succ_self _) H)
     · intro N2 hN2
       refine chkG H fun q5_1_1 H=>?_
       refine xd [0,1,101] (ap q5_1_1 an) ?_
       refine xj [100] (ι:=Bool) (fun e3_26=>⟨[(1,.int .i64 bit),(2,.int .u16 mask),(7,.slice v1_7a v1_7x.length v1_7c),(8,.int .i64 v1_14),(9,.int .i64 (wr (((8:Int)*v1_14) - bit))),(13,.int .i64 v1_13),(14,.int .i64 v1_14),(26,.bool e3_26)],[],[(ArrA v1_7a v1_7c v1_7x),bA]⟩) (fun e3_26=>cspoilS_j3 (cspoilS_j2 v1_14 (cspoilS_l1 bit mask (cspoilS_j0) m1) v1_13) v1_7x v1_14 mask bit e3_26=some y) ?_ ?_
       · rintro e3_26 H
         replace H:cspoilS_j3 (cspoilS_j2 v1_14 (cspoilS_l1 bit mask (cspoilS_j0) m1) v1_13) v1_7x v1_14 mask bit e3_26=some y:=H
         rw [cspoilS_j3] at H
         refine xs [] H ?_ ?_
         · intro H
           exact xe [1] _ [] [0,0] (hN2 (v1_7x,v1_7a,v1_7c) H)
         · intro H
           refine chkG H fun q7_4_1 H=>?_
           refine xi [0,0,1,2,3,4] 0 (rA v1_7a v1_7c v1_7x) q7_4_1 fun b1 o1 e1=>?_
           refine xpl [5] 0 (ol_ld (rA v1_7a v1_7c v1_7x) e1 q7_4_1 0 (fun _=>rfl)) ?_
           refine letG H fun u7_8 hu7_8 H=>?_
           refine xw [6,7,8] 35 (congrArg (Value.int .u32) hu7_8) ?_
           refine letG H fun u7_10 hu7_10 H=>?_
           refine xw [9,10,1] 37 (congrArg (Value.int .i64) hu7_10) ?_
           refine chkG H fun q7_11_1 H=>?_
           refine letG H fun u7_11 hu7_11 H=>?_
           refine xp [11] (hu7_11▸ov_shl (k:=.u32) (yk:=.i64) (a:=u7_8) (n:=u7_10) q7_11_1) ?_
           refine letG H fun u7_14 hu7_14 H=>?_
           refine xw [12,13,14] 41 (congrArg (Value.int .u8) hu7_14) ?_
           refine chkG H fun q7_15_1 H=>?_
           refine xi [15] 0 (rA v1_7a v1_7c v1_7x) q7_15_1 fun b2 o2 e2=>?_
           refine letG H fun l7_16 hl7_16 H=>?_
           refine xo [16] [] [0,2] (oc_st (α:=U8) (cap:=v1_7c) (e:=u7_14) () e2 q7_15_1 hl7_16) fun _=>?_
           refine xw [] 7 (congrArg (fun n:Nat=>(.slice v1_7a n v1_7c:Value)) (set_len hl7_16)) ?_
           refine xw [] 27 (congrArg (fun n:Nat=>(.slice v1_7a n v1_7c:Value)) (set_len hl7_16)) ?_
           refine xw [] 29 (congrArg (fun n:Nat=>(.slice v1_7a n v1_7c:Value)) (set_len hl7_16)) ?_
           exact xe [] _ [] [0,0] (hN2 (l7_16,v1_7a,v1_7c) H)
       · intro N3 hN3
         refine xs [] H ?_ ?_
         · intro H
           exact xe [0,0,1] _ [] [0,0] (hN3 (true) H)
         · intro H
           exact xe [1,1,0] _ [] [0,0] (hN3 (decide ((16:Int)≤(wr (((8:Int)*v1_14) - bit)))) H)
   · intro H
     exact xe [0] _ [] [0,0] (hN0 (v1_7x,v1_7a,v1_7c) H)
end
section
open Go Go.RowKit
theorem gh_sub {α:Type} [Rw α] {a a':Option Addr} {cap cap':Nat} {l l':List α} (h:Rdb (ImmA a cap l) a' cap' l'):Gh ⟨[],[ImmA a cap l]⟩ fun _:Unit=>⟨[],[ImmA a' cap' l',ImmA a cap l]⟩:=by
 intro W0 Γ w hw
 refine ⟨(),?_⟩
 have h1:Sat W0 (ImmA a cap l::Γ) w:=hw
 exact h1.imp fun S I q=>by
  obtain ⟨S1,S2,p1,p2,p3,p4,p5⟩:=q
  have p4':(ImmA a cap l).holds (fun _=>False) I _:=p4
  obtain ⟨r1,xs,r2,r3,r4,r5⟩:=h.rd _ _ _ p4'
  refine ⟨fun _=>False,S,fun _ h=>h.elim,fun _ h=>h,fun _ h _=>h,⟨r1,xs,r2,⟨r3,?_⟩,r5⟩,S1,S2,p1,p2,p3,p4,p5⟩
  rcases r4 with r4 | ⟨b,off,c,T,fr,e1,e2,e3,e4⟩
  · exact .inl r4
  · exact .inr ⟨b,off,c,T,fr,e1,e2.elim (fun h=>h.elim) id,e3,e4⟩
theorem ol_str {P:Program} {A:Asn} {a:Option Addr} {cap:Nat} {l:List U8} (hA:Rdb A a cap l) (src e dst:TypeId) (hs:P.underlying src=some (.slice e)) (he:P.underlying e=some (.int .u8)) (hd:P.underlying dst=some .string) :
 Ol P (convert src dst (.slice a l.length cap) >>= fun v=>pure (Next.value v)) A (.string (strOfNums l)):=by
 intro W0 Γ w hw
 refine run_seq ?_ rfl
 obtain ⟨xs,q1,h⟩:=Sat.read hA hw
 obtain ⟨S,I,⟨S1,S2,p1,p2,p3,⟨p4,p5,p6,p7⟩,p8⟩,r⟩:=h
 rcases p6 with p6 | ⟨b,off,cc,T,fr,e1,_,e3,e4⟩
 · have h0:=rowsOf_len q1
   rw [p6] at h0
   obtain rfl:l=[]:=List.eq_nil_of_length_eq_zero h0.symm
   show (convert src dst (.slice a 0 cap)).run P w=.ok (.string ByteArray.empty) w
   rw [run_convert_bytes_string w src dst e _ 0 cap hs he hd]
   cases a <;> simp [Conv.bytesToString,loadCells] <;> rfl
 · rw [e1]
   refine run_convert_bytes_arg (P:=P) w src e hs he b off l.length cap l rfl (fun i hi=>?_) dst hd
   rw [cell_of e3]
   have hg:l[i]?=some l[i]:=List.getElem?_eq_getElem hi
   obtain ⟨x,hx⟩:=getX q1 hg
   have hrow:=rowsOf_get hg hx
   have h1:=flatten_get (i:=i) (j:=0) (k:=Rw.k U8) rowsOf_k hrow (v:=.int .u8 l[i]) rfl
   have h2:=e4 _ _ h1
   have e5:i*Rw.k U8+0=i:=by show i*1+0=i; omega
   rw [e5] at h2
   rw [h2]
   have hgd:∀ (m:List Int) (i:Nat) (hi:i<m.length),m[i]=m.getD i 0:=by intro m i h; simp [List.getD_eq_getElem?_getD,h]
   exact congrArg (fun n=>some (Value.int .u8 n)) (hgd l i hi)
theorem bifS' (t:Bool):(bif t then some true else some false)=some t:=by cases t <;> rfl
def oneOf (P:Program) (e:TypeId):Bool :=
 match P.info? e with
 |some i=>(match i.zero with | some z=>Nat.beq z.cells.size 1 | none=>false) && Nat.beq i.size 1 && Nat.ble i.bytes 128
 |none=>false
theorem oneOf_some {P:Program} {e:TypeId} (h:oneOf P e=true):∃ i z,P.info? e=some i∧i.zero=some z∧z.cells.size=1∧i.size=1∧i.bytes≤128:=by
 unfold oneOf at h
 split at h
 · rename_i i hi
   simp only [Bool.and_eq_true] at h
   obtain ⟨⟨h1,h2⟩,h3⟩:=h
   split at h1
   · rename_i z hz
     exact ⟨i,z,hi,hz,Nat.eq_of_beq_eq_true h1,Nat.eq_of_beq_eq_true h2,Nat.le_of_ble_eq_true h3⟩
   · cases h1
 · cases h
theorem oc_zeros {P:Program} (t tn ty e:Nat) (kn:IntKind) (ht:P.underlying t=some (.slice e)) (htn:P.underlying tn=some (.int kn)) {n:Int} (h0:0<n) (hn:n≤1099511627776) (hok:oneOf P e=true:=by kernel_rfl) :
 Oc P (Builtin.append_ #[t,tn] ty #[.slice none 0 0,.int .i64 n] >>= fun v=>pure (Next.value v)) ⟨[],[]⟩ (fun z:Option Addr×Nat=>.slice z.1 n.toNat z.2) (fun z=>⟨[],[ArrA z.1 z.2 ([]:List U8)]⟩):=by
 obtain ⟨i,z,hi,hz,hzs,hs,hb⟩:=oneOf_some hok
 intro W0 Γ w hw
 have hm:(n.toNat:Int)=n:=by omega
 have hw0:Sat W0 Γ w:=hw
 have hrun:=Lib.run_append_nil_zeros (P:=P) w t tn ty e i z .i64 kn ht htn hi hz n.toNat (by omega) (by omega) (by omega) (by have:=Nat.mul_le_mul (show n.toNat≤1099511627776 by omega) hb; omega)
 rw [hm] at hrun
 refine ⟨(some ⟨w.heap.size,0,none⟩,grownCap w n.toNat 0 e),_,_,run_seq hrun rfl,.inl rfl,?_⟩
 have h9:=(hw0.drew).alloc (.cells (Builtin.zeroCells z.cells n.toNat++Builtin.zeroCells z.cells (grownCap w n.toNat 0 e - n.toNat)) e)
 have hge:=grownCap_ge w n.toNat 0 e
 refine Sat.head_imp (A:=Asn.own w.heap.size (.cells (Builtin.zeroCells z.cells n.toNat++Builtin.zeroCells z.cells (grownCap w n.toNat 0 e - n.toNat)) e)) (B:=ArrA (some ⟨w.heap.size,0,none⟩) (grownCap w n.toNat 0 e) ([]:List U8)) (fun S I h ⟨k1,k2⟩=>⟨[],rfl,⟨fun r hr=>by simp [rowsOf] at hr,.inr ⟨w.heap.size,0,_,e,rfl,k1,k2,by simp [rowsOf],?_,fun j v hj=>by simp [rowsOf] at hj⟩⟩,fun i a x h=>by simp at h⟩) h9
 simp only [Array.size_append,size_zeroCells,hzs]
 show 0+grownCap w n.toNat 0 e*1≤_
 omega
theorem ov_sl {P:Program} (t E:Nat) (ht:P.underlying t=some (.slice E)) {a:Option Addr} {m c:Nat} {n:Int} (h0:0≤n) (hn:n≤c) (hok:(P.info? E).isSome=true:=by kernel_rfl) :
 Ov P (Instr.sliceAt t (.slice a m c) none (some (.int .i64 n)) none >>= fun v=>pure (Next.value v)) (.slice a n.toNat c):=by
 intro w
 obtain ⟨info,hi⟩:=Option.isSome_iff_exists.1 hok
 have h:=slice_at (P:=P) (e:=[]) (t:=t) (E:=E) (a:=a) (m:=m) (c:=c) (sz:=info.size) (lo:=0) (hi:=n.toNat) (mx:=c) (o:=bare (.slice t (.const (.slice a m c)) none (some (.const (.int .i64 n))) none) 0) none (some (.int .i64 n)) none info (fun _=>rfl) ht hi rfl (.inl ⟨rfl,rfl⟩) (.inr ⟨n,rfl,by omega⟩) (.inl ⟨rfl,rfl⟩) (by omega) (by omega) (by omega) w
 refine h.trans ?_
 have e:(if c=0 then a else a.map (·.add (0*info.size)))=a:=by
  split
  · rfl
  · cases a with
    |none=>rfl
    |some x=>simp [Addr.add]
 rw [e]
 simp
theorem growF {n:Int} (h0:0≤n) (hn:n≤1099511627776):FnY Tryz.prog 235 [.slice none 0 0,.int .i64 n] ⟨[],[]⟩ (Z:=Option Addr×Nat) (fun _ z=>.slice z.1 0 z.2) (fun _ z=>⟨[],[ArrA z.1 z.2 ([]:List U8)]⟩) ():=by
 refine xfY Tryz.func235 fun W0 F=>?_
 refine xs [] (bifS' (decide (n<0))) ?_ ?_
 · intro H
   have h1:n<0:=by simpa using H
   omega
 · intro _
   refine xw [0,1,1,300] 14 (congrArg (Value.int .i64) (show wr (n - wr (((0:Nat):Int) - ((0:Nat):Int)))=n by rw [show wr (((0:Nat):Int) - ((0:Nat):Int))=0 by rfl,wr_in (by omega) (by omega)]; omega)) ?_
   refine xs [] (bifS' (decide (0<n))) ?_ ?_
   · intro H
     have h1:0<n:=by simpa using H
     refine xp [1] (ov_sl (a:=none) (m:=0) (c:=0) (n:=((0:Nat):Int)) 222 5 Tryz.underlying222 (by omega) (by omega)) ?_
     refine xo [] [] [] (oc_zeros 222 3 222 5 .i64 Tryz.underlying222 Tryz.underlying3 h1 hn) fun ⟨a,c⟩=>?_
     refine xp [] (ov_sl (a:=a) (m:=n.toNat) (c:=c) (n:=((0:Nat):Int)) 222 5 Tryz.underlying222 (by omega) (by omega)) ?_
     exact xrY rfl [] [] [] [0] (a,c)
   · intro _
     refine xg [0] [] [] (gh_nil (α:=U8) none) fun _=>?_
     exact xrY rfl [] [] [] [0] (none,0)
def bEqS (a b:List U8):Option Bool:=some ((strOfNums a).toList == (strOfNums b).toList)
theorem bEqF {a b:List U8} {aA bA:Asn} (aa:Option Addr) (ac:Nat) (ba:Option Addr) (bc:Nat) (haA:Rdb aA aa ac a) (hbA:Rdb bA ba bc b) {y:Bool} (H:bEqS a b=some y):FnY Tryz.prog 184 [.slice aa a.length ac,.slice ba b.length bc] ⟨[],[aA,bA]⟩ (Z:=Unit) (fun y _=>.bool y) (fun y _=>⟨[],[aA,bA]⟩) y:=by
 unfold bEqS at H
 refine xfY Tryz.func184 fun W0 F=>?_
 refine xpl [303] 0 (ol_str haA 222 5 9 Tryz.underlying222 Tryz.underlying5 Tryz.underlying9) ?_
 refine xpl [301] 1 (ol_str hbA 222 5 9 Tryz.underlying222 Tryz.underlying5 Tryz.underlying9) ?_
 exact xrY (someE H) [] [] [] [0,0] ()
theorem ov_slG {P:Program} (t E:Nat) (ht:P.underlying t=some (.slice E)) {a:Option Addr} {m c:Nat} (lo hi mx:Option Int) (lo' hi' mx':Nat) (h1:lo.getD 0=(lo':Nat)) (h2:hi.getD (m:Int)=(hi':Nat)) (h3:mx.getD (c:Int)=(mx':Nat)) (hh:hi=none→mx=none)
 (h4:lo'≤hi') (h5:hi'≤mx') (h6:mx'≤c) (hok:oneOf P E=true:=by kernel_rfl) :
 Ov P (Instr.sliceAt t (.slice a m c) (lo.map (.int .i64)) (hi.map (.int .i64)) (mx.map (.int .i64)) >>= fun v=>pure (Next.value v)) (.slice (if mx'=lo' then a else a.map (·.add (lo'*1))) (hi' - lo') (mx' - lo')):=by
 intro w
 obtain ⟨info,z,hi0,_,_,hs,_⟩:=oneOf_some hok
 refine Eq.trans ?_ (slice_at (P:=P) (e:=[]) (t:=t) (E:=E) (a:=a) (m:=m) (c:=c) (sz:=1) (lo:=lo') (hi:=hi') (mx:=mx') (o:=bare (.slice t (.const (.slice a m c)) (lo.map fun n=>.const (.int .i64 n)) (hi.map fun n=>.const (.int .i64 n)) (mx.map fun n=>.const (.int .i64 n))) 0) (lo.map (.int .i64)) (hi.map (.int .i64)) (mx.map (.int .i64)) info (fun _=>?_) ht hi0 hs ?_ ?_ ?_ h4 h5 h6 w)
 · cases lo <;> cases hi <;> cases mx <;> rfl
 · cases lo <;> cases hi <;> cases mx <;> rfl
 · cases lo with
   |none=>exact .inl ⟨rfl,by simp at h1; omega⟩
   |some x=>exact .inr ⟨x,rfl,h1⟩
 · cases hi with
   |none=>exact .inl ⟨rfl,by simp at h2; omega,by rw [hh rfl]; rfl⟩
   |some x=>exact .inr ⟨x,rfl,h2⟩
 · cases mx with
   |none=>exact .inl ⟨rfl,by simp at h3; omega⟩
   |some x=>exact .inr ⟨x,rfl,h3⟩
def chA (a:Option Addr) (k:Nat):Option Addr:=a.map (·.add (8*k*1))
theorem rdb_ch {X:Asn} {a:Option Addr} {c N k:Nat} {l:List U8} (hX:Rdb X a c l) (hl:l.length=8*N) (hk:k<N):Rdb X (chA a k) 8 ((l.drop (8*k)).take 8):=by
 have h:=rdb_part (lo:=8*k) (hi:=8*k+8) (mx:=8*k+8) (l':=(l.drop (8*k)).take 8) hX (by decide) (by omega) (by omega) (by omega) (by rw [show 8*k+8 - 8*k=8 by omega])
 rw [if_neg (by omega),show 8*k+8 - 8*k=8 by omega] at h
 exact h
theorem chunkIt (b1 b2:Nat) (a:Option Addr) (c N:Nat) (l:List U8) {X:Asn} (hX:Rdb X a c l) (hl:l.length=8*N) (hc:l.length≤c) (hn:l.length≤1099511627776):ItFn Tryz.prog 216 [.pointer (some ⟨b1,0,none⟩),.pointer (some ⟨b2,0,none⟩)] ⟨[⟨b1,#[.slice a l.length c],222⟩,⟨b2,#[.int .i64 8],3⟩],[X]⟩ (fun i=>[.slice (chA a i) 8 8]) N:=by
 refine xfI Tryz.func216 fun W0 F y Ω hY=>?_
 refine xl [] (ι:=Nat) (fun k=>⟨[(0,.func (.yield y) #[] #[]),(1,.pointer (some ⟨b1,0,none⟩)),(2,.pointer (some ⟨b2,0,none⟩)),(4,.int .i64 ((8*k:Nat):Int))],[⟨b1,#[.slice a l.length c],222⟩,⟨b2,#[.int .i64 8],3⟩],[Ω k,X]⟩) (fun m k=>k≤N∧N<m+k) [0,0] [0,0] (N+1) 0 ⟨by omega,by omega⟩ ?_
 rintro N1 m k ⟨h1,h2⟩ hN
 refine xs [0] (bifS' (decide (((8*k:Nat):Int)<(l.length:Int)))) ?_ ?_
 · intro H
   have hk:k<N:=by
    have:((8*k:Nat):Int)<(l.length:Int):=by simpa using H
    omega
   refine xp [1,0,1,1,0,2,3] (ov_slG (a:=a) 222 5 Tryz.underlying222 (some ((8*k:Nat):Int)) none none (8*k) l.length c rfl rfl rfl (fun _=>rfl) (by omega) hc (Nat.le_refl _)) ?_
   refine xw [4,5] 18 (v':=.int .i64 8) (congrArg (Value.int .i64) (show (if (((l.length - 8*k:Nat)):Int)<8 then (((l.length - 8*k:Nat)):Int) else 8)=8 by rw [if_neg (by omega)])) ?_
   refine xd [6,0,0,0] (ap (show inR (((8*k:Nat):Int)+8) by unfold inR; omega) (ap (show inR (((8*k:Nat):Int)+8) by unfold inR; omega) an)) ?_
   refine xp [] (ov_slG (a:=a) (m:=l.length) (c:=c) 222 5 Tryz.underlying222 (some ((8*k:Nat):Int)) (some (((8*k:Nat):Int)+8)) (some (((8*k:Nat):Int)+8)) (8*k) (8*k+8) (8*k+8) rfl rfl rfl (fun h=>by cases h) (by omega) (Nat.le_refl _) (by omega)) ?_
   refine xw [300] 28 (v:=.slice (if 8*k+8=8*k then a else a.map (·.add (8*k*1))) (8*k+8 - 8*k) (8*k+8 - 8*k)) (v':=.slice (chA a k) 8 8) (by rw [if_neg (by omega),show 8*k+8 - 8*k=8 by omega]; rfl) ?_
   refine xy hY k hk [] [0,0] [0,0] ?_
   refine xd [0,1,0] (ap (show inR (((8*k:Nat):Int)+8) by unfold inR; omega) an) ?_
   refine xw [300] 4 (congrArg (Value.int .i64) (show ((8*k:Nat):Int)+8=((8*(k+1):Nat):Int) by omega)) ?_
   exact xe [] _ [0,0] [0,0] (hN (m - 1) (k+1) (by omega) ⟨by omega,by omega⟩)
 · intro H
   have h3:k=N:=by
    have:¬ ((8*k:Nat):Int)<(l.length:Int):=by simpa using H
    omega
   subst h3
   exact xr [0] [] [0,0] [0,0] ()
theorem chunkF (a:Option Addr) (m c:Nat):Fn Tryz.prog 182 [.slice a m c,.int .i64 8] ⟨[],[]⟩ (Z:=Nat×Nat) (fun z=>.func (.func 216) #[] #[.pointer (some ⟨z.1,0,none⟩),.pointer (some ⟨z.2,0,none⟩)]) (fun z=>⟨[⟨z.1,#[.slice a m c],222⟩,⟨z.2,#[.int .i64 8],3⟩],[]⟩):=by
 refine xf Tryz.func182 fun W0 F=>?_
 refine xn [] fun b1=>?_
 refine xn [] fun b2=>?_
 exact xr [0,0] [] [1,0] [] (b1,b2)
end
section
open Go Go.RowKit
def concS_j1 (e1_6x:List U8):Option (List U8) :=
 some e1_6x
def concS_l2 (s:List (List U8)) (k1:(List U8)→Option (List U8)):Nat→(List U8)→Int→Option (List U8)
 |0,_,_=>none
 |m+1,v2_6x,v2_27=>(bif decide (v2_27<(s.length:Int)) then chk (0≤v2_27∧v2_27<(s.length:Int)) (letP (nthT s v2_27) fun x12_1=>chk ((v2_6x++x12_1).length≤1099511627776) (letP (v2_6x++x12_1) fun l13_2=>chk (inR (v2_27+(1:Int))) ((concS_l2 s k1 m) l13_2 (v2_27+(1:Int))))) else k1 v2_6x)
def concS_j0 (s:List (List U8)) (e0_3:Int):Option (List U8) :=
 chk (0≤e0_3∧e0_3≤1099511627776) (concS_l2 s concS_j1 (s.length+1) ([]:List U8) (0:Int))
def concS_l3 (s:List (List U8)) (k0:Int→Option (List U8)):Nat→Int→Int→Option (List U8)
 |0,_,_=>none
 |m+1,v3_3,v3_11=>(bif decide (v3_11<(s.length:Int)) then chk (0≤v3_11∧v3_11<(s.length:Int)) (letP (nthT s v3_11) fun x4_1=>letP (wr (v3_3+(x4_1.length:Int))) fun u5_3=>(bif decide (u5_3<(0:Int)) then none else chk (inR (v3_11+(1:Int))) ((concS_l3 s k0 m) u5_3 (v3_11+(1:Int))))) else k0 v3_3)
def concS (s:List (List U8)):Option (List U8) :=
 concS_l3 s (concS_j0 s) (s.length+1) (0:Int) (0:Int)
theorem concF {s:List (List U8)} {sA:Asn} (sa:Option Addr) (sc:Nat) (hsA:Rdb sA sa sc s) {y:List U8} (H:concS s=some y):FnY Tryz.prog 215 [.slice sa s.length sc] ⟨[],[sA]⟩ (Z:=Option Addr×Nat) (fun y (za0,zc0)=>.slice za0 y.length zc0) (fun y (za0,zc0)=>⟨[],[(ArrA za0 zc0 y),sA]⟩) y:=by
 unfold concS at H
 refine xfY Tryz.func215 fun W0 F=>?_
 refine xj [102] (ι:=Int) (fun e0_3=>⟨[(0,.slice sa s.length sc),(3,.int .i64 e0_3)],[],[sA]⟩) (fun e0_3=>concS_j0 s e0_3=some y) ?_ ?_
 · rintro e0_3 H
   replace H:concS_j0 s e0_3=some y:=H
   rw [concS_j0] at H
   refine chkG H fun q9_1_1 H=>?_
   refine xc [] [] [] (growF q9_1_1.1 q9_1_1.2) fun ⟨t9_1_a,t9_1_c⟩=>?_
   refine xj [100] (ι:=List U8×Option Addr×Nat) (fun (e1_6x,e1_6a,e1_6c)=>⟨[(6,.slice e1_6a e1_6x.length e1_6c)],[],[(ArrA e1_6a e1_6c e1_6x),sA]⟩) (fun (e1_6x,e1_6a,e1_6c)=>concS_j1 e1_6x=some y) ?_ ?_
   · rintro ⟨e1_6x,e1_6a,e1_6c⟩ H
     replace H:concS_j1 e1_6x=some y:=H
     rw [concS_j1] at H
     exact xrY (someE H) [] [] [] [0,0] (e1_6a,e1_6c)
   · intro N1 hN1
     refine xl [] (ι:=List U8×Int×Option Addr×Nat) (fun (v2_6x,v2_27,v2_6a,v2_6c)=>⟨[(6,.slice v2_6a v2_6x.length v2_6c),(25,.slice sa s.length sc),(26,.int .i64 s.length),(27,.int .i64 v2_27)],[],[(ArrA v2_6a v2_6c v2_6x),sA]⟩) (fun m2 (v2_6x,v2_27,v2_6a,v2_6c)=>concS_l2 s (concS_j1) m2 v2_6x v2_27=some y) [] [0,0] ((s.length+1)) (([]:List U8),(0:Int),t9_1_a,t9_1_c) H ?_
     rintro N2 (_ | m2) ⟨v2_6x,v2_27,v2_6a,v2_6c⟩ H hN2
     · exact (noneE H).elim
     replace H:concS_l2 s (concS_j1) (m2+1) v2_6x v2_27=some y:=H
     rw [concS_l2] at H
     refine xs [] H ?_ ?_
     · intro H
       refine chkG H fun q12_0_1 H=>?_
       refine xi [1] 1 hsA q12_0_1 fun b1 o1 e1=>?_
       refine letG H fun x12_1 hx12_1 H=>?_
       refine xo [] [] [1] (oc_ld hsA e1 q12_0_1 hx12_1 0) fun z12_1_1=>?_
       refine chkG H fun q13_2_1 H=>?_
       refine letG H fun l13_2 hl13_2 H=>?_
       refine xa [] [2,0] (a:=v2_6a) (l:=v2_6x) (zs:=l13_2) (cap:=v2_6c) (rI z12_1_1.1 z12_1_1.2 x12_1) hl13_2 (hl13_2▸q13_2_1) fun ⟨a13_2,c13_2⟩=>?_
       refine chkG H fun q14_0_1 H=>?_
       refine xd [0] (ap q14_0_1 an) ?_
       exact xe [] _ [] [0,1] (hN2 _ (l13_2,v2_27+(1:Int),a13_2,c13_2) (Nat.lt_succ_self _) H)
     · intro H
       exact xe [0] _ [] [0,0] (hN1 (v2_6x,v2_6a,v2_6c) H)
 · intro N0 hN0
   refine xl [] (ι:=Int×Int) (fun (v3_3,v3_11)=>⟨[(0,.slice sa s.length sc),(3,.int .i64 v3_3),(9,.slice sa s.length sc),(10,.int .i64 s.length),(11,.int .i64 v3_11)],[],[sA]⟩) (fun m3 (v3_3,v3_11)=>concS_l3 s (concS_j0 s) m3 v3_3 v3_11=some y) [] [0] ((s.length+1)) ((0:Int),(0:Int)) H ?_
   rintro N3 (_ | m3) ⟨v3_3,v3_11⟩ H hN3
   · exact (noneE H).elim
   replace H:concS_l3 s (concS_j0 s) (m3+1) v3_3 v3_11=some y:=H
   rw [concS_l3] at H
   refine xs [] H ?_ ?_
   · intro H
     refine chkG H fun q4_0_1 H=>?_
     refine xi [1] 0 hsA q4_0_1 fun b2 o2 e2=>?_
     refine letG H fun x4_1 hx4_1 H=>?_
     refine xo [] [] [0] (oc_ld hsA e2 q4_0_1 hx4_1 0) fun z4_1_1=>?_
     refine letG H fun u5_3 hu5_3 H=>?_
     refine xw [1,300] 18 (congrArg (Value.int .i64) hu5_3) ?_
     refine xs [] H ?_ ?_
     · intro H
       exact (noneE H).elim
     · intro H
       refine chkG H fun q8_0_1 H=>?_
       refine xd [0,0] (ap q8_0_1 an) ?_
       exact xe [] _ [] [1] (hN3 _ (u5_3,v3_11+(1:Int)) (Nat.lt_succ_self _) H)
   · intro H
     exact xe [0] _ [] [0] (hN0 (v3_3) H)
def csealS (b:List U8):Option (List U8) :=
 (csumS b).bind fun y1_1=>(concS ([b,([IntKind.wrap .u8 (shrI .u16 y1_1 (8:Int)),IntKind.wrap .u8 y1_1]:List U8)])).bind fun y2_8=>some y2_8
theorem csealF {b:List U8} (ba:Option Addr) (bc:Nat) {y:List U8} (H:csealS b=some y):FnY Tryz.prog 180 [.slice ba b.length bc] ⟨[],[(ImmA ba bc b)]⟩ (Z:=Option Addr×Nat) (fun y (za0,zc0)=>.slice za0 y.length zc0) (fun y (za0,zc0)=>⟨[],[(ArrA za0 zc0 y)]⟩) y:=by
 unfold csealS at H
 refine xfY Tryz.func180 fun W0 F=>?_
 refine bindG H fun y1_1 hy1_1 H=>?_
 refine xc [] [] [0] (csumF ba bc (rI ba bc b) hy1_1) fun _=>?_
 refine xn [] fun b2_6=>?_
 refine xn [] fun b2_7=>?_
 refine xg [] [] [0] (gh_dup ba bc b) fun _=>?_
 refine xg [] [1] [] (gh_own b2_6 5 2 ([IntKind.wrap .u8 (shrI .u16 y1_1 (8:Int)),IntKind.wrap .u8 y1_1]:List U8) [(),()] (fun _ _ _ _ _ _ _=>trivial)) fun _=>?_
 refine xg [] [] [0] (gh_frz (some ⟨b2_6,0,none⟩) 2 ([IntKind.wrap .u8 (shrI .u16 y1_1 (8:Int)),IntKind.wrap .u8 y1_1]:List U8)) fun _=>?_
 refine xg [] [] [0] (gh_dup (some ⟨b2_6,0,none⟩) 2 ([IntKind.wrap .u8 (shrI .u16 y1_1 (8:Int)),IntKind.wrap .u8 y1_1]:List U8)) fun _=>?_
 refine xg [] [0] [2,0] (gh_rows b2_7 222 2 ([b,([IntKind.wrap .u8 (shrI .u16 y1_1 (8:Int)),IntKind.wrap .u8 y1_1]:List U8)]:List (List U8)) [(ba,bc),(some ⟨b2_6,0,none⟩,2)]) fun _=>?_
 refine bindG H fun y2_8 hy2_8 H=>?_
 refine xc [] [] [0] (concF (some ⟨b2_7,0,none⟩) 2 (rA (some ⟨b2_7,0,none⟩) 2 ([b,([IntKind.wrap .u8 (shrI .u16 y1_1 (8:Int)),IntKind.wrap .u8 y1_1]:List U8)])) hy2_8) fun ⟨t2_8_a0,t2_8_c0⟩=>?_
 exact xrY (someE H) [] [] [] [0] (t2_8_a0,t2_8_c0)
def copenS (b:List U8):Option (List U8×Bool) :=
 letP (wr ((b.length:Int) - (2:Int))) fun u1_2=>(bif decide (u1_2<(0:Int)) then some (([]:List U8),false) else chk (0≤(0:Int)∧(0:Int)≤u1_2∧u1_2≤(b.length:Int)) (letP ((b.drop ((0:Int)).toNat).take ((u1_2).toNat - ((0:Int)).toNat)) fun l2_5=>(csealS l2_5).bind fun y2_6=>(bEqS y2_6 b).bind fun y2_8=>(bif !y2_8 then some (([]:List U8),false) else chk (0≤(0:Int)∧(0:Int)≤u1_2∧u1_2≤(b.length:Int)) (letP ((b.drop ((0:Int)).toNat).take ((u1_2).toNat - ((0:Int)).toNat)) fun l4_2=>(cloneBS l4_2).bind fun y4_3=>some (y4_3,true)))))
theorem copenF {b:List U8} (ba:Option Addr) (bc:Nat) {y:List U8×Bool} (H:copenS b=some y):FnY Tryz.prog 181 [.slice ba b.length bc] ⟨[],[(ImmA ba bc b)]⟩ (Z:=Option Addr×Nat) (fun y (za0,zc0)=>.tuple #[.slice za0 y.1.length zc0,.bool y.2]) (fun y (za0,zc0)=>⟨[],[(ImmA za0 zc0 y.1)]⟩) y:=by
 unfold copenS at H
 refine xfY Tryz.func181 fun W0 F=>?_
 refine letG H fun u1_2 hu1_2 H=>?_
 refine xw [1,300] 7 (congrArg (Value.int .i64) hu1_2) ?_
 refine xs [] H ?_ ?_
 · intro H
   refine xg [0,0,0,0,0,0,0,1,1] [] [] (gh_nilI (α:=U8) none 0) fun _=>?_
   exact xrY (someE H) [] [] [] [0] (none,0)
 · intro H
   refine chkG H fun q2_5_1 H=>?_
   refine letG H fun l2_5 hl2_5 H=>?_
   refine xsl [1,1,1] 0 (rI ba bc b) (mx:=(bc:Int)) q2_5_1 (.inl rfl) hl2_5 fun a2_5 rl2_5=>?_
   refine xg [1] [] [0] (gh_sub rl2_5) fun _=>?_
   refine xg [] [] [0] (gh_dup a2_5 (((bc:Int)).toNat - ((0:Int)).toNat) l2_5) fun _=>?_
   refine bindG H fun y2_6 hy2_6 H=>?_
   refine xc [] [] [0] (csealF a2_5 (((bc:Int)).toNat - ((0:Int)).toNat) hy2_6) fun ⟨t2_6_a0,t2_6_c0⟩=>?_
   refine bindG H fun y2_8 hy2_8 H=>?_
   refine xc [1,1] [] [0,1] (bEqF t2_6_a0 t2_6_c0 ba bc (rA t2_6_a0 t2_6_c0 y2_6) (rI ba bc b) hy2_8) fun _=>?_
   refine xs [1,0] H ?_ ?_
   · intro H
     refine xg [1] [] [] (gh_nilI (α:=U8) none 0) fun _=>?_
     exact xrY (someE H) [] [] [] [0] (none,0)
   · intro H
     refine chkG H fun q4_2_1 H=>?_
     refine letG H fun l4_2 hl4_2 H=>?_
     refine xsl [0] 1 (rI ba bc b) (mx:=(bc:Int)) q4_2_1 (.inl rfl) hl4_2 fun a4_2 rl4_2=>?_
     refine bindG H fun y4_3 hy4_3 H=>?_
     refine xc [] [] [1] (cloneBF a4_2 (((bc:Int)).toNat - ((0:Int)).toNat) rl4_2 hy4_3) fun ⟨t4_3_a0,t4_3_c0⟩=>?_
     refine xg [] [] [0] (gh_frz t4_3_a0 t4_3_c0 y4_3) fun _=>?_
     refine xg [] [] [0] (gh_dup t4_3_a0 t4_3_c0 y4_3) fun _=>?_
     exact xrY (someE H) [] [] [] [0] (t4_3_a0,t4_3_c0)
def ppackS_j0 (e0_5x:List U8):Option (List U8×Int) :=
 (csealS e0_5x).bind fun y10_1=>some (y10_1,(0:Int))
def ppackS_l1 (p:PktS) (k0:(List U8)→Option (List U8×Int)):Nat→(List U8)→Int→Option (List U8×Int)
 |0,_,_=>none
 |m+1,v1_5x,v1_50=>(bif decide (v1_50<(p.data.length:Int)) then chk (0≤v1_50∧v1_50<(p.data.length:Int)) ((pwordS (nth p.data v1_50)).bind fun y8_2=>chk ((v1_5x++y8_2).length≤1099511627776) (letP (v1_5x++y8_2) fun l8_3=>chk (inR (v1_50+(1:Int))) ((ppackS_l1 p k0 m) l8_3 (v1_50+(1:Int))))) else k0 v1_5x)
def ppackS (p:PktS):Option (List U8×Int) :=
 (pchkS p).bind fun y1_1=>(bif !(decide (y1_1=(0:Int))) then some (([]:List U8),y1_1) else (pflagS p.flag).bind fun y4_28=>ppackS_l1 p ppackS_j0 (p.data.length+1) ([IntKind.wrap .u8 p.kind,IntKind.wrap .u8 p.src,IntKind.wrap .u8 p.dst,IntKind.wrap .u8 (shrI .i64 p.id (8:Int)),IntKind.wrap .u8 p.id,IntKind.wrap .u8 p.line,IntKind.wrap .u8 (wr (p.ptr+(1:Int))),IntKind.wrap .u8 p.state,y4_28,IntKind.wrap .u8 (p.data.length:Int)]:List U8) (0:Int))
theorem ppackF {p:PktS} {p0A:Asn} (p0a:Option Addr) (p0c:Nat) (hp0A:Rdb p0A p0a p0c p.data) {y:List U8×Int} (H:ppackS p=some y):FnY Tryz.prog 136 [.agg #[.int .i64 p.kind,.int .i64 p.src,.int .i64 p.dst,.int .i64 p.id,.int .i64 p.line,.int .i64 p.ptr,.int .i64 p.state,.bool p.flag,.slice p0a p.data.length p0c]] ⟨[],[p0A]⟩ (Z:=Option Addr×Nat) (fun y (za0,zc0)=>.tuple #[.slice za0 y.1.length zc0,.int .i64 y.2]) (fun y (za0,zc0)=>⟨[],[(ArrA za0 zc0 y.1),p0A]⟩) y:=by
 unfold ppackS at H
 refine xfY Tryz.func136 fun W0 F=>?_
 refine xn [] fun b0_0=>?_
 refine bindG H fun y1_1 hy1_1 H=>?_
 refine xc [0] [] [] (pchkF p0a p0c hy1_1) fun _=>?_
 refine xs [] H ?_ ?_
 · intro H
   refine xg [1] [] [] (gh_nil (α:=U8) none) fun _=>?_
   exact xrY (someE H) [] [] [] [0,0] (none,0)
 · intro H
   refine bindG H fun y4_28 hy4_28 H=>?_
   refine xc [0,0,1,0,2,3,4,0,5,6,7,0,8,9,10,0,11,12,13,14,0,15,16,17,0,18,19,20,0,21,1,22,23,24,0,25,26,27,0,29,30,0,31,32,28] [] [] (pflagF hy4_28) fun _=>?_
   refine xn [33] fun b4_33=>?_
   refine xj [34,100] (ι:=List U8×Option Addr×Nat) (fun (e0_5x,e0_5a,e0_5c)=>⟨[(5,.slice e0_5a e0_5x.length e0_5c)],[],[(ArrA e0_5a e0_5c e0_5x),p0A]⟩) (fun (e0_5x,e0_5a,e0_5c)=>ppackS_j0 e0_5x=some y) ?_ ?_
   · rintro ⟨e0_5x,e0_5a,e0_5c⟩ H
     replace H:ppackS_j0 e0_5x=some y:=H
     rw [ppackS_j0] at H
     refine xg [] [] [0] (gh_frz e0_5a e0_5c e0_5x) fun _=>?_
     refine xg [] [] [0] (gh_dup e0_5a e0_5c e0_5x) fun _=>?_
     refine bindG H fun y10_1 hy10_1 H=>?_
     refine xc [] [] [0] (csealF e0_5a e0_5c hy10_1) fun ⟨t10_1_a0,t10_1_c0⟩=>?_
     exact xrY (someE H) [] [] [] [0,1] (t10_1_a0,t10_1_c0)
   · intro N0 hN0
     refine xg [1] [0] [] (gh_own b4_33 5 10 ([IntKind.wrap .u8 p.kind,IntKind.wrap .u8 p.src,IntKind.wrap .u8 p.dst,IntKind.wrap .u8 (shrI .i64 p.id (8:Int)),IntKind.wrap .u8 p.id,IntKind.wrap .u8 p.line,IntKind.wrap .u8 (wr (p.ptr+(1:Int))),IntKind.wrap .u8 p.state,y4_28,IntKind.wrap .u8 (p.data.length:Int)]:List U8) [(),(),(),(),(),(),(),(),(),()] (fun _ _ _ _ _ _ _=>trivial)) fun _=>?_
     refine xl [] (ι:=List U8×Int×Option Addr×Nat) (fun (v1_5x,v1_50,v1_5a,v1_5c)=>⟨[(5,.slice v1_5a v1_5x.length v1_5c),(48,.slice p0a p.data.length p0c),(49,.int .i64 p.data.length),(50,.int .i64 v1_50)],[],[(ArrA v1_5a v1_5c v1_5x),p0A]⟩) (fun m1 (v1_5x,v1_50,v1_5a,v1_5c)=>ppackS_l1 p (ppackS_j0) m1 v1_5x v1_50=some y) [] [0,0] ((p.data.length+1)) (([IntKind.wrap .u8 p.kind,IntKind.wrap .u8 p.src,IntKind.wrap .u8 p.dst,IntKind.wrap .u8 (shrI .i64 p.id (8:Int)),IntKind.wrap .u8 p.id,IntKind.wrap .u8 p.line,IntKind.wrap .u8 (wr (p.ptr+(1:Int))),IntKind.wrap .u8 p.state,y4_28,IntKind.wrap .u8 (p.data.length:Int)]:List U8),(0:Int),some ⟨b4_33,0,none⟩,10) H ?_
     rintro N1 (_ | m1) ⟨v1_5x,v1_50,v1_5a,v1_5c⟩ H hN1
     · exact (noneE H).elim
     replace H:ppackS_l1 p (ppackS_j0) (m1+1) v1_5x v1_50=some y:=H
     rw [ppackS_l1] at H
     refine xs [] H ?_ ?_
     · intro H
       refine chkG H fun q7_0_1 H=>?_
       refine xi [1] 1 hp0A q7_0_1 fun b1 o1 e1=>?_
       refine xpl [] 1 (ol_ld hp0A e1 q7_0_1 0 (fun _=>rfl)) ?_
       refine bindG H fun y8_2 hy8_2 H=>?_
       refine xc [] [] [] (pwordF hy8_2) fun ⟨t8_2_a0,t8_2_c0⟩=>?_
       refine chkG H fun q8_3_1 H=>?_
       refine letG H fun l8_3 hl8_3 H=>?_
       refine xa [] [1,0] (a:=v1_5a) (l:=v1_5x) (zs:=l8_3) (cap:=v1_5c) (rA t8_2_a0 t8_2_c0 y8_2) hl8_3 (hl8_3▸q8_3_1) fun ⟨a8_3,c8_3⟩=>?_
       refine chkG H fun q9_0_1 H=>?_
       refine xd [0] (ap q9_0_1 an) ?_
       exact xe [] _ [] [0,1] (hN1 _ (l8_3,v1_50+(1:Int),a8_3,c8_3) (Nat.lt_succ_self _) H)
     · intro H
       exact xe [0] _ [] [0,0] (hN0 (v1_5x,v1_5a,v1_5c) H)
end
section
open Go Go.RowKit
def numsTo (l:List U8) (n:Nat):List Int:=(List.range n).map fun k=>(pnumS ((l.drop (8*k)).take 8)).getD 0
def NumsOk (l:List U8):Prop:=l.length % 8=0∧l.length≤1099511627776∧∀ k,k<l.length / 8→(pnumS ((l.drop (8*k)).take 8)).isSome=true
instance (l:List U8):Decidable (NumsOk l):=by unfold NumsOk; infer_instance
theorem nums_len {l:List U8} (h:NumsOk l):l.length=8*(l.length / 8):=by have:=h.1; omega
theorem nums_get {l:List U8} (h:NumsOk l) {k:Nat} (hk:k<l.length / 8):pnumS ((l.drop (8*k)).take 8)=some ((pnumS ((l.drop (8*k)).take 8)).getD 0):=by
 obtain ⟨x,hx⟩:=Option.isSome_iff_exists.1 (h.2.2 k hk)
 rw [hx]; rfl
theorem nums_snoc (l:List U8) (k:Nat):numsTo l k++[(pnumS ((l.drop (8*k)).take 8)).getD 0]=numsTo l (k+1):=by simp [numsTo,List.range_succ]
theorem nums_one {l:List U8} (h:NumsOk l) {k:Nat} (hk:k<l.length / 8):(8:Nat)=List.length ((l.drop (8*k)).take 8):=by simp; omega
theorem nums_le {l:List U8} (h:NumsOk l) {k:Nat} (hk:k<l.length / 8):(numsTo l (k+1)).length≤1099511627776:=by have:=h.2.1; simp [numsTo]; omega
def punpS_j0 (y1_1:List U8×Bool) (b:List U8) (e0_32:Bool):Option (PktS×Int) :=
 (bif e0_32 then some ((⟨(0:Int),(0:Int),(0:Int),(0:Int),(0:Int),(0:Int),(0:Int),false,([]:List Int)⟩:PktS),(2:Int)) else chk (0≤(0:Int)∧(0:Int)<(y1_1.1.length:Int)) (chk (0≤(1:Int)∧(1:Int)<(y1_1.1.length:Int)) (chk (0≤(2:Int)∧(2:Int)<(y1_1.1.length:Int)) (chk (0≤(3:Int)∧(3:Int)<(y1_1.1.length:Int)) (letP (shlI .i64 (wr (nthB y1_1.1 (3:Int))) (8:Int)) fun u4_16=>chk (0≤(4:Int)∧(4:Int)<(y1_1.1.length:Int)) (letP (bor .i64 u4_16 (wr (nthB y1_1.1 (4:Int)))) fun u4_21=>chk (0≤(5:Int)∧(5:Int)<(y1_1.1.length:Int)) (chk (0≤(6:Int)∧(6:Int)<(y1_1.1.length:Int)) (letP (wr ((wr (nthB y1_1.1 (6:Int))) - (1:Int))) fun u4_30=>chk (0≤(7:Int)∧(7:Int)<(y1_1.1.length:Int)) (chk (0≤(8:Int)∧(8:Int)<(y1_1.1.length:Int)) (chk (0≤(10:Int)∧(10:Int)≤(y1_1.1.length:Int)∧(y1_1.1.length:Int)≤(y1_1.1.length:Int)) (letP ((y1_1.1.drop ((10:Int)).toNat).take (((y1_1.1.length:Int)).toNat - ((10:Int)).toNat)) fun l5_1=>chk (NumsOk l5_1) ((ppackS (⟨wr (nthB y1_1.1 (0:Int)),wr (nthB y1_1.1 (1:Int)),wr (nthB y1_1.1 (2:Int)),u4_21,wr (nthB y1_1.1 (5:Int)),u4_30,wr (nthB y1_1.1 (7:Int)),decide ((nthB y1_1.1 (8:Int))=(1:Int)),(numsTo l5_1 (l5_1.length / 8))⟩:PktS)).bind fun y8_1=>(bif !(decide (y8_1.2=(0:Int))) then some ((⟨(0:Int),(0:Int),(0:Int),(0:Int),(0:Int),(0:Int),(0:Int),false,([]:List Int)⟩:PktS),(2:Int)) else (bEqS y8_1.1 b).bind fun y9_5=>(bif !y9_5 then some ((⟨(0:Int),(0:Int),(0:Int),(0:Int),(0:Int),(0:Int),(0:Int),false,([]:List Int)⟩:PktS),(2:Int)) else some ((⟨wr (nthB y1_1.1 (0:Int)),wr (nthB y1_1.1 (1:Int)),wr (nthB y1_1.1 (2:Int)),u4_21,wr (nthB y1_1.1 (5:Int)),u4_30,wr (nthB y1_1.1 (7:Int)),decide ((nthB y1_1.1 (8:Int))=(1:Int)),(numsTo l5_1 (l5_1.length / 8))⟩:PktS),(0:Int))))))))))))))))
def punpS (b:List U8):Option (PktS×Int) :=
 (copenS b).bind fun y1_1=>(bif !y1_1.2 then (punpS_j0 y1_1 b) true else (bif decide ((y1_1.1.length:Int)<(10:Int)) then (punpS_j0 y1_1 b) true else chk (0≤(9:Int)∧(9:Int)<(y1_1.1.length:Int)) (letP (wr ((8:Int)*(wr (nthB y1_1.1 (9:Int))))) fun u2_14=>(punpS_j0 y1_1 b) (!(decide ((y1_1.1.length:Int)=(wr ((10:Int)+u2_14))))))))
theorem punpF {b:List U8} (ba:Option Addr) (bc:Nat) {y:PktS×Int} (H:punpS b=some y):FnY Tryz.prog 137 [.slice ba b.length bc] ⟨[],[(ImmA ba bc b)]⟩ (Z:=Option Addr×Nat) (fun y (za0,zc0)=>.tuple #[.agg #[.int .i64 y.1.kind,.int .i64 y.1.src,.int .i64 y.1.dst,.int .i64 y.1.id,.int .i64 y.1.line,.int .i64 y.1.ptr,.int .i64 y.1.state,.bool y.1.flag,.slice za0 y.1.data.length zc0],.int .i64 y.2]) (fun y (za0,zc0)=>⟨[],[(ArrA za0 zc0 y.1.data)]⟩) y:=by
 unfold punpS at H
 refine xfM Tryz.func137 fun W0 F=>?_
 refine xn [] fun b0_0=>?_
 refine xg [] [] [0] (gh_dup ba bc b) fun _=>?_
 refine bindG H fun y1_1 hy1_1 H=>?_
 refine xc [] [] [0] (copenF ba bc hy1_1) fun ⟨t1_1_a0,t1_1_c0⟩=>?_
 refine xj [101] (ι:=Bool) (fun e0_32=>⟨[(0,.slice ba b.length bc),(2,.pointer (some ⟨b0_0,0,none⟩)),(4,.slice t1_1_a0 y1_1.1.length t1_1_c0),(32,.bool e0_32)],[⟨b0_0,#[.int .i64 (0),.int .i64 (0),.int .i64 (0),.int .i64 (0),.int .i64 (0),.int .i64 (0),.int .i64 (0),.bool false,.slice none 0 0],176⟩],[(ImmA t1_1_a0 t1_1_c0 y1_1.1),(ImmA ba bc b)]⟩) (fun e0_32=>punpS_j0 y1_1 b e0_32=some y) ?_ ?_
 · rintro e0_32 H
   replace H:punpS_j0 y1_1 b e0_32=some y:=H
   rw [punpS_j0] at H
   refine xs [] H ?_ ?_
   · intro H
     refine xg [1,0] [] [] (gh_nil (α:=Int) none) fun _=>?_
     exact xrM0 (someE H) [] [0] [] [0] (none,0)
   · intro H
     refine chkG H fun q4_1_1 H=>?_
     refine xi [0,0,1] 0 (rI t1_1_a0 t1_1_c0 y1_1.1) q4_1_1 fun b1 o1 e1=>?_
     refine xpl [2] 0 (ol_ld (rI t1_1_a0 t1_1_c0 y1_1.1) e1 q4_1_1 0 (fun _=>rfl)) ?_
     refine chkG H fun q4_5_1 H=>?_
     refine xi [3,4,5] 0 (rI t1_1_a0 t1_1_c0 y1_1.1) q4_5_1 fun b2 o2 e2=>?_
     refine xpl [6] 0 (ol_ld (rI t1_1_a0 t1_1_c0 y1_1.1) e2 q4_5_1 0 (fun _=>rfl)) ?_
     refine chkG H fun q4_9_1 H=>?_
     refine xi [7,8,9] 0 (rI t1_1_a0 t1_1_c0 y1_1.1) q4_9_1 fun b3 o3 e3=>?_
     refine xpl [10] 0 (ol_ld (rI t1_1_a0 t1_1_c0 y1_1.1) e3 q4_9_1 0 (fun _=>rfl)) ?_
     refine chkG H fun q4_13_1 H=>?_
     refine xi [11,12,13] 0 (rI t1_1_a0 t1_1_c0 y1_1.1) q4_13_1 fun b4 o4 e4=>?_
     refine xpl [14] 0 (ol_ld (rI t1_1_a0 t1_1_c0 y1_1.1) e4 q4_13_1 0 (fun _=>rfl)) ?_
     refine letG H fun u4_16 hu4_16 H=>?_
     refine xw [15,16] 50 (congrArg (Value.int .i64) hu4_16) ?_
     refine chkG H fun q4_18_1 H=>?_
     refine xi [17,18] 0 (rI t1_1_a0 t1_1_c0 y1_1.1) q4_18_1 fun b5 o5 e5=>?_
     refine xpl [19] 0 (ol_ld (rI t1_1_a0 t1_1_c0 y1_1.1) e5 q4_18_1 0 (fun _=>rfl)) ?_
     refine letG H fun u4_21 hu4_21 H=>?_
     refine xw [20,21] 55 (congrArg (Value.int .i64) hu4_21) ?_
     refine chkG H fun q4_23_1 H=>?_
     refine xi [22,23] 0 (rI t1_1_a0 t1_1_c0 y1_1.1) q4_23_1 fun b6 o6 e6=>?_
     refine xpl [24] 0 (ol_ld (rI t1_1_a0 t1_1_c0 y1_1.1) e6 q4_23_1 0 (fun _=>rfl)) ?_
     refine chkG H fun q4_27_1 H=>?_
     refine xi [25,26,27] 0 (rI t1_1_a0 t1_1_c0 y1_1.1) q4_27_1 fun b7 o7 e7=>?_
     refine xpl [28] 0 (ol_ld (rI t1_1_a0 t1_1_c0 y1_1.1) e7 q4_27_1 0 (fun _=>rfl)) ?_
     refine letG H fun u4_30 hu4_30 H=>?_
     refine xw [29,30,1] 64 (congrArg (Value.int .i64) hu4_30) ?_
     refine chkG H fun q4_32_1 H=>?_
     refine xi [31,32] 0 (rI t1_1_a0 t1_1_c0 y1_1.1) q4_32_1 fun b8 o8 e8=>?_
     refine xpl [33] 0 (ol_ld (rI t1_1_a0 t1_1_c0 y1_1.1) e8 q4_32_1 0 (fun _=>rfl)) ?_
     refine chkG H fun q4_36_1 H=>?_
     refine xi [34,35,36] 0 (rI t1_1_a0 t1_1_c0 y1_1.1) q4_36_1 fun b9 o9 e9=>?_
     refine xpl [37] 0 (ol_ld (rI t1_1_a0 t1_1_c0 y1_1.1) e9 q4_36_1 0 (fun _=>rfl)) ?_
     refine xn [38,39,40] fun b4_40=>?_
     refine chkG H fun q5_1_1 H=>?_
     refine letG H fun l5_1 hl5_1 H=>?_
     refine xsl [41,0] 0 (rI t1_1_a0 t1_1_c0 y1_1.1) (mx:=(t1_1_c0:Int)) q5_1_1 (.inl rfl) hl5_1 fun a5_1 rl5_1=>?_
     refine xc [] [] [] (chunkF a5_1 l5_1.length (((t1_1_c0:Int)).toNat - ((10:Int)).toNat)) fun ⟨b5_2_1,b5_2_2⟩=>?_
     refine chkG H fun q5_2_1 H=>?_
     refine xg [] [] [0] (gh_dup t1_1_a0 t1_1_c0 y1_1.1) fun _=>?_
     refine xk [] [0] (cap_of rl5_1) fun hc1=>?_
     refine xg [] [] [] (gh_nil (α:=Int) none) fun _=>?_
     refine xrgM [] [0,0] [1] [0,0] [0,0,0] (fun i=>.slice (chA a5_1 i) 8 8) 77 (chunkIt b5_2_1 b5_2_2 a5_1 (((t1_1_c0:Int)).toNat - ((10:Int)).toNat) (l5_1.length / 8) l5_1 rl5_1 (nums_len q5_2_1) hc1 q5_2_1.2.1) [(6,.pointer (some ⟨b4_40,0,none⟩))] (fun i=>[(7,.slice (chA a5_1 i) 8 8),(6,.pointer (some ⟨b4_40,0,none⟩))]) (fun i (z:Option Addr×Nat)=>⟨[⟨b4_40,#[.int .i64 (wr (nthB y1_1.1 (0:Int))),.int .i64 (wr (nthB y1_1.1 (1:Int))),.int .i64 (wr (nthB y1_1.1 (2:Int))),.int .i64 u4_21,.int .i64 (wr (nthB y1_1.1 (5:Int))),.int .i64 u4_30,.int .i64 (wr (nthB y1_1.1 (7:Int))),.bool (decide ((nthB y1_1.1 (8:Int))=(1:Int))),.slice z.1 (List.length (numsTo l5_1 i)) z.2],176⟩,⟨b0_0,#[.int .i64 (0),.int .i64 (0),.int .i64 (0),.int .i64 (0),.int .i64 (0),.int .i64 (0),.int .i64 (0),.bool false,.slice none 0 0],176⟩],[(ArrA z.1 z.2 (numsTo l5_1 i)),(ImmA t1_1_a0 t1_1_c0 y1_1.1),(ImmA ba bc b)]⟩) (none,0) ?_ ?_ ?_ (fun _ _=>rfl)
     · intro yl F N1 i z hi hN
       exact xe [] ⟨[(7,.slice (chA a5_1 i) 8 8),(6,.pointer (some ⟨b4_40,0,none⟩))],[⟨b4_40,#[.int .i64 (wr (nthB y1_1.1 (0:Int))),.int .i64 (wr (nthB y1_1.1 (1:Int))),.int .i64 (wr (nthB y1_1.1 (2:Int))),.int .i64 u4_21,.int .i64 (wr (nthB y1_1.1 (5:Int))),.int .i64 u4_30,.int .i64 (wr (nthB y1_1.1 (7:Int))),.bool (decide ((nthB y1_1.1 (8:Int))=(1:Int))),.slice z.1 (List.length (numsTo l5_1 i)) z.2],176⟩,⟨b0_0,#[.int .i64 (0),.int .i64 (0),.int .i64 (0),.int .i64 (0),.int .i64 (0),.int .i64 (0),.int .i64 (0),.bool false,.slice none 0 0],176⟩],[(ArrA z.1 z.2 (numsTo l5_1 i)),(ImmA t1_1_a0 t1_1_c0 y1_1.1),(ImmA ba bc b)]⟩ [0,0] [0,0,0] fun a w h=>hN a w h.1 h.2
     · rintro yl F N1 i ⟨za,zc⟩ hi hN
       refine xw [0,1,0,2] 80 (congrArg (fun n:Nat=>(.slice (chA a5_1 i) n 8:Value)) (nums_one q5_2_1 hi)) ?_
       refine xc [3] [] [1] (pnumF (chA a5_1 i) 8 (rdb_ch rl5_1 (nums_len q5_2_1) hi) (nums_get q5_2_1 hi)) fun _=>?_
       refine xn [4] fun bn=>?_
       refine xg [] [0] [] (gh_own bn 3 1 ([((pnumS ((List.drop (8*i) l5_1).take 8)).getD 0)]:List Int) [()] (fun _ _ _ _ _ _ _=>trivial)) fun _=>?_
       refine xa [5] [2,0] (a:=za) (l:=numsTo l5_1 i) (zs:=numsTo l5_1 (i+1)) (cap:=zc) (rA (some ⟨bn,0,none⟩) 1 ([((pnumS ((List.drop (8*i) l5_1).take 8)).getD 0)]:List Int)) (nums_snoc l5_1 i) (nums_le q5_2_1 hi) fun ⟨a2,c2⟩=>?_
       exact xe [6,7,0] ⟨[],[⟨b4_40,#[.int .i64 (wr (nthB y1_1.1 (0:Int))),.int .i64 (wr (nthB y1_1.1 (1:Int))),.int .i64 (wr (nthB y1_1.1 (2:Int))),.int .i64 u4_21,.int .i64 (wr (nthB y1_1.1 (5:Int))),.int .i64 u4_30,.int .i64 (wr (nthB y1_1.1 (7:Int))),.bool (decide ((nthB y1_1.1 (8:Int))=(1:Int))),.slice a2 (List.length (numsTo l5_1 (i+1))) c2],176⟩,⟨b0_0,#[.int .i64 (0),.int .i64 (0),.int .i64 (0),.int .i64 (0),.int .i64 (0),.int .i64 (0),.int .i64 (0),.bool false,.slice none 0 0],176⟩],[(ArrA a2 c2 (numsTo l5_1 (i+1))),(ImmA t1_1_a0 t1_1_c0 y1_1.1),(ImmA ba bc b)]⟩ [0,0] [0,1,1] fun a w h=>hN (a2,c2) a w h.2
     · rintro ⟨za1,zc1⟩ D1
       refine bindG H fun y8_1 hy8_1 H=>?_
       refine xc [2] [] [2] (ppackF za1 zc1 (rA za1 zc1 (numsTo l5_1 (l5_1.length / 8))) hy8_1) fun ⟨t8_1_a0,t8_1_c0⟩=>?_
       refine xs [] H ?_ ?_
       · intro H
         refine xg [0,0,0,0,1,1,3] [] [] (gh_nil (α:=Int) none) fun _=>?_
         exact xrM (someE H) [] [3] [] [1] 3 (none,0)
       · intro H
         refine bindG H fun y9_5 hy9_5 H=>?_
         refine xc [1,1,1] [] [0,4] (bEqF t8_1_a0 t8_1_c0 ba bc (rA t8_1_a0 t8_1_c0 y8_1.1) (rI ba bc b) hy9_5) fun _=>?_
         refine xs [1,0] H ?_ ?_
         · intro H
           refine xg [1,3] [] [] (gh_nil (α:=Int) none) fun _=>?_
           exact xrM (someE H) [] [3] [] [1] 4 (none,0)
         · intro H
           exact xrM (someE H) [0,2,3] [3] [] [3] 3 (za1,zc1)
 · intro N0 hN0
   refine xs [] H ?_ ?_
   · intro H
     exact xe [0,0,0,1,0,0,0,0,0,0,0,0,0,1] _ [0] [0,0] (hN0 (true) H)
   · intro H
     refine xs [1,1,1,0] H ?_ ?_
     · intro H
       exact xe [0,0,0,0,0,0,0,0,0,1] _ [0] [0,0] (hN0 (true) H)
     · intro H
       refine chkG H fun q2_11_1 H=>?_
       refine xi [1,1,1,1] 0 (rI t1_1_a0 t1_1_c0 y1_1.1) q2_11_1 fun b10 o10 e10=>?_
       refine xpl [1] 0 (ol_ld (rI t1_1_a0 t1_1_c0 y1_1.1) e10 q2_11_1 0 (fun _=>rfl)) ?_
       refine letG H fun u2_14 hu2_14 H=>?_
       refine xw [1,1,1,300] 29 (congrArg (Value.int .i64) hu2_14) ?_
       exact xe [1,1,1,0] _ [0] [0,0] (hN0 (!(decide ((y1_1.1.length:Int)=(wr ((10:Int)+u2_14))))) H)
def wireS (p:PktS) (bit:Int) (mask:Int):Option (PktS×Int) :=
 (ppackS p).bind fun y1_1=>(bif !(decide (y1_1.2=(0:Int))) then some ((⟨(0:Int),(0:Int),(0:Int),(0:Int),(0:Int),(0:Int),(0:Int),false,([]:List Int)⟩:PktS),(2:Int)) else (cspoilS y1_1.1 bit mask).bind fun y4_3=>(punpS y4_3).bind fun y4_4=>some (y4_4.1,y4_4.2))
theorem wireF {p:PktS} {p0A:Asn} {bit:Int} {mask:Int} (p0a:Option Addr) (p0c:Nat) (hp0A:Rdb p0A p0a p0c p.data) {y:PktS×Int} (H:wireS p bit mask=some y):FnY Tryz.prog 104 [.agg #[.int .i64 p.kind,.int .i64 p.src,.int .i64 p.dst,.int .i64 p.id,.int .i64 p.line,.int .i64 p.ptr,.int .i64 p.state,.bool p.flag,.slice p0a p.data.length p0c],.int .i64 bit,.int .u16 mask] ⟨[],[p0A]⟩ (Z:=Option Addr×Nat) (fun y (za0,zc0)=>.tuple #[.agg #[.int .i64 y.1.kind,.int .i64 y.1.src,.int .i64 y.1.dst,.int .i64 y.1.id,.int .i64 y.1.line,.int .i64 y.1.ptr,.int .i64 y.1.state,.bool y.1.flag,.slice za0 y.1.data.length zc0],.int .i64 y.2]) (fun y (za0,zc0)=>⟨[],[(ArrA za0 zc0 y.1.data),p0A]⟩) y:=by
 unfold wireS at H
 refine xfY Tryz.func104 fun W0 F=>?_
 refine xn [] fun b0_0=>?_
 refine xn [] fun b0_1=>?_
 refine bindG H fun y1_1 hy1_1 H=>?_
 refine xc [1] [] [0] (ppackF p0a p0c hp0A hy1_1) fun ⟨t1_1_a0,t1_1_c0⟩=>?_
 refine xs [] H ?_ ?_
 · intro H
   refine xg [1,0] [] [] (gh_nil (α:=Int) none) fun _=>?_
   exact xrY (someE H) [] [0] [] [0,1] (none,0)
 · intro H
   refine bindG H fun y4_3 hy4_3 H=>?_
   refine xc [0] [] [0] (cspoilF t1_1_a0 t1_1_c0 (rA t1_1_a0 t1_1_c0 y1_1.1) hy4_3) fun ⟨t4_3_a0,t4_3_c0⟩=>?_
   refine xg [] [] [0] (gh_frz t4_3_a0 t4_3_c0 y4_3) fun _=>?_
   refine xg [] [] [0] (gh_dup t4_3_a0 t4_3_c0 y4_3) fun _=>?_
   refine bindG H fun y4_4 hy4_4 H=>?_
   refine xc [] [] [0] (punpF t4_3_a0 t4_3_c0 hy4_4) fun ⟨t4_4_a0,t4_4_c0⟩=>?_
   exact xrY (someE H) [0] [0] [] [0,2] (t4_4_a0,t4_4_c0)
end
section
open Go
theorem w16 (n:Int):IntKind.u16.wrap n=n % 65536:=by simp [IntKind.wrap,IntKind.bits,IntKind.signed]
theorem w8 (n:Int):IntKind.u8.wrap n=n % 256:=by simp [IntKind.wrap,IntKind.bits,IntKind.signed]
theorem w32 (n:Int):IntKind.u32.wrap n=n % 4294967296:=by simp [IntKind.wrap,IntKind.bits,IntKind.signed]
theorem ofInt_toNat (k:Nat) (s:BitVec k):BitVec.ofInt k (s.toNat:Int)=s:=by
 apply BitVec.eq_of_toNat_eq
 simp [BitVec.toNat_ofInt]
theorem bx16 (x y:Int):bxor .u16 x y=(((BitVec.ofInt 16 x ^^^ BitVec.ofInt 16 y).toNat:Nat):Int):=by
 unfold bxor
 show IntKind.u16.wrap (((BitVec.ofInt 16 x ^^^ BitVec.ofInt 16 y).toNat:Nat):Int)=_
 rw [w16]
 have:=(BitVec.ofInt 16 x ^^^ BitVec.ofInt 16 y).isLt
 omega
theorem bx8 (x y:Int):bxor .u8 x y=(((BitVec.ofInt 8 x ^^^ BitVec.ofInt 8 y).toNat:Nat):Int):=by
 unfold bxor
 show IntKind.u8.wrap (((BitVec.ofInt 8 x ^^^ BitVec.ofInt 8 y).toNat:Nat):Int)=_
 rw [w8]
 have:=(BitVec.ofInt 8 x ^^^ BitVec.ofInt 8 y).isLt
 omega
theorem step16 (s:B16):bxor .u16 (shlI .u16 (s.toNat:Int) 1) (IntKind.u16.wrap (shrI .u16 (s.toNat:Int) 15*4129))=(((cR s).toNat:Nat):Int):=by
 rw [bx16]
 congr 2
 unfold cR
 have hs:=s.isLt
 congr 1
 · unfold shlI
   show BitVec.ofInt 16 (IntKind.u16.wrap ((s.toNat:Int)*2 ^ 1))=_
   rw [w16]
   apply BitVec.eq_of_toNat_eq
   simp [BitVec.toNat_ofInt,BitVec.toNat_shiftLeft,Nat.shiftLeft_eq]
   omega
 · unfold shrI
   show BitVec.ofInt 16 (IntKind.u16.wrap ((s.toNat:Int).fdiv (2 ^ 15)*4129))=_
   rw [w16,BitVec.msb_eq_decide]
   have e:(s.toNat:Int).fdiv (2 ^ 15)=((s.toNat / 32768:Nat):Int):=by
    rw [Int.fdiv_eq_ediv_of_nonneg _ (by decide)]
    norm_cast
   rw [e]
   rcases Nat.lt_or_ge s.toNat 32768 with h | h
   · have:s.toNat / 32768=0:=by omega
     rw [this]
     simp [show ¬ 32768≤s.toNat by omega]
   · have:s.toNat / 32768=1:=by omega
     rw [this]
     simp [h]
def cF (s:B16) (c:Int):B16:=cRn 8 (s ^^^ (BitVec.ofInt 16 c <<< 8))
theorem sum_l3 (k:Int→Option Int):∀ (n:Nat) (i:Nat) (m:Nat) (s:B16),i+n=8→n<m→csumS_l3 k m (s.toNat:Int) (i:Int)=k (((cRn n s).toNat:Nat):Int)
 |_,_,0,_,_,h=>by omega
 |0,i,m+1,s,h,_=>by
  obtain rfl:i=8:=by omega
  rw [csumS_l3]
  rfl
 |n+1,i,m+1,s,h,hm=>by
  rw [csumS_l3]
  dsimp only [letP]
  rw [decide_eq_true (by omega:(i:Int)<8),cond_true,step16,chk_true (by unfold inR; omega)]
  have ih:=sum_l3 k n (i+1) m (cR s) (by omega) (by omega)
  rw [show ((i+1:Nat):Int)=(i:Int)+1 by omega] at ih
  exact ih
theorem first16 (c:Int) (s:B16):bxor .u16 (s.toNat:Int) (shlI .u16 (IntKind.u16.wrap c) 8)=(((s ^^^ (BitVec.ofInt 16 c <<< 8)).toNat:Nat):Int):=by
 rw [bx16,ofInt_toNat]
 congr 3
 unfold shlI
 show BitVec.ofInt 16 (IntKind.u16.wrap (IntKind.u16.wrap c*2 ^ 8))=_
 rw [w16,w16]
 apply BitVec.eq_of_toNat_eq
 simp [BitVec.toNat_ofInt,BitVec.toNat_shiftLeft,Nat.shiftLeft_eq]
 omega
theorem nthB_get (b:List U8) {i:Nat} (hi:i<b.length):nthB b (i:Int)=b[i]:=by
 have hg:∀ (m:List Int) (d:Int) (h:i<m.length),m.getD i d=m[i]:=by intro m d h; simp [List.getD_eq_getElem?_getD,h]
 exact hg b _ hi
theorem sum_l1 (b:List U8) (hb:b.length≤1099511627776) (k:Int→Option Int):∀ (n:Nat) (i:Nat) (m:Nat) (s:B16),i+n=b.length→n<m→csumS_l1 b k m (s.toNat:Int) (i:Int)=k ((((b.drop i).foldl cF s).toNat:Nat):Int)
 |_,_,0,_,_,h=>by omega
 |0,i,m+1,s,h,_=>by
  rw [csumS_l1,decide_eq_false (by omega:¬ (i:Int)<(b.length:Int)),cond_false,List.drop_eq_nil_of_le (by omega)]
  rfl
 |n+1,i,m+1,s,h,hm=>by
  have hi:i<b.length:=by omega
  rw [csumS_l1]
  dsimp only [letP]
  rw [decide_eq_true (by omega:(i:Int)<(b.length:Int)),cond_true,chk_true (by omega),first16]
  have h3:=sum_l3 (csumS_j2 (i:Int) (csumS_l1 b k m)) 8 0 9 (s ^^^ (BitVec.ofInt 16 (nthB b (i:Int)) <<< 8)) (by omega) (by omega)
  refine h3.trans ?_
  unfold csumS_j2
  rw [chk_true (by unfold inR; omega)]
  have ih:=sum_l1 b hb k n (i+1) m (cF s (nthB b (i:Int))) (by omega) (by omega)
  rw [show ((i+1:Nat):Int)=(i:Int)+1 by omega] at ih
  refine ih.trans ?_
  rw [List.drop_eq_getElem_cons hi]
  have:nthB b (i:Int)=b[i]:=nthB_get b hi
  rw [this]
  rfl
theorem csum_eq (b:List U8) (hb:b.length≤1099511627776):csumS b=some (((b.foldl cF 0xffff#16).toNat:Nat):Int):=by
 have h:=sum_l1 b hb csumS_j0 b.length 0 (b.length+1) 0xffff#16 (by omega) (by omega)
 unfold csumS
 exact h
def bits8 (c:Int):List Bool:=[7,6,5,4,3,2,1,0].map fun j=>(BitVec.ofInt 8 c).getLsbD j
theorem valL8 (x:BitVec 8):valL ([7,6,5,4,3,2,1,0].map fun j=>x.getLsbD j)=x.zeroExtend 16 <<< 8:=by
 revert x
 decide
theorem ofInt_8_16 (c:Int):(BitVec.ofInt 8 c).zeroExtend 16 <<< 8=BitVec.ofInt 16 c <<< 8:=by
 apply BitVec.eq_of_toNat_eq
 simp [BitVec.toNat_ofInt,BitVec.toNat_shiftLeft,Nat.shiftLeft_eq]
 omega
theorem cF_bits (s:B16) (c:Int):cF s c=(bits8 c).foldl cG s:=by
 rw [cG_absorb _ _ (by simp [bits8])]
 unfold cF
 congr 2
 unfold bits8
 rw [valL8,ofInt_8_16]
def bitsB (b:List U8):List Bool:=b.flatMap bits8
theorem cF_fold (b:List U8):∀ s,b.foldl cF s=(bitsB b).foldl cG s:=by
 induction b with
 |nil=>intro s; rfl
 |cons c b ih =>
  intro s
  show b.foldl cF (cF s c)=_
  rw [ih]
  refine (congrArg (fun t=>(bitsB b).foldl cG t) (cF_bits s c)).trans ?_
  show _=(bitsB (c::b)).foldl cG s
  rw [show bitsB (c::b)=bits8 c++bitsB b from rfl,List.foldl_append]
end
section
open Go
def errB (y mask:Int):Int:=IntKind.u8.wrap (shrI .u32 (shlI .u32 (shlI .u32 (IntKind.u32.wrap mask) 8) (y+8)) 24)
def sp1 (c:U8) (y mask:Int):U8:=if y≤-8∨16≤y then c else bxor .u8 c (errB y mask)
def spG (bit mask:Int):List U8→Nat→List U8
 |[],_=>[]
 |c::b,i=>sp1 c (8*(i:Int) - bit) mask::spG bit mask b (i+1)
theorem spG_len (bit mask:Int):∀ (b:List U8) (i:Nat),(spG bit mask b i).length=b.length
 |[],_=>rfl
 |c::b,i=>by unfold spG; show (spG bit mask b (i+1)).length+1=b.length+1; rw [spG_len bit mask b]
theorem spoil_l1 (bit mask:Int) (h0:-65536<bit) (h1:bit<65536) (n:Nat) (hn:n≤65536) (k:List U8→Option (List U8)):∀ (b pre:List U8) (m:Nat),pre.length+b.length=n→b.length<m →
 cspoilS_l1 bit mask k m (pre++b) (n:Int) (pre.length:Int)=k (pre++spG bit mask b pre.length)
 |_,_,0,_,h=>by omega
 |[],pre,m+1,h,_=>by
  simp only [List.length_nil,Nat.add_zero] at h
  rw [cspoilS_l1,decide_eq_false (by omega:¬ (pre.length:Int)<(n:Int)),cond_false]
  rfl
 |c::b,pre,m+1,h,hm=>by
  simp only [List.length_cons] at h hm
  have hlen:(pre++c::b).length=n:=by simp; omega
  rw [cspoilS_l1,decide_eq_true (by omega:(pre.length:Int)<(n:Int)),cond_true,chk_true (by unfold inR; omega)]
  have hw:wr (8*(pre.length:Int) - bit)=8*(pre.length:Int) - bit:=wr_in (by omega) (by omega)
  rw [hw]
  have hnth:nthB (pre++c::b) (pre.length:Int)=c:=by
   have:=nthB_get (pre++c::b) (i:=pre.length) (by simp)
   rw [this]
   simp
   rfl
  have go:∀ d:U8,cspoilS_j2 (pre.length:Int) (cspoilS_l1 bit mask k m) (n:Int) (pre++d::b)=k (pre++d::spG bit mask b (pre.length+1)):=by
   intro d
   unfold cspoilS_j2
   rw [chk_true (by unfold inR; omega)]
   have ih:=spoil_l1 bit mask h0 h1 n hn k b (pre++[d]) m (by simp; omega) (by omega)
   rw [show (((pre++[d]).length:Nat):Int)=(pre.length:Int)+1 by simp] at ih
   rw [show (pre++[d]).length=pre.length+1 by simp] at ih
   simpa using ih
  have j3:∀ e:Bool,e=decide (8*(pre.length:Int) - bit≤-8∨16≤8*(pre.length:Int) - bit)→cspoilS_j3 (cspoilS_j2 (pre.length:Int) (cspoilS_l1 bit mask k m) (n:Int)) (pre++c::b) (pre.length:Int) mask bit e=k (pre++spG bit mask (c::b) pre.length):=by
   intro e he
   unfold cspoilS_j3
   by_cases hd:8*(pre.length:Int) - bit≤-8∨16≤8*(pre.length:Int) - bit
   · rw [he,decide_eq_true hd,cond_true,go c]
     have:sp1 c (8*(pre.length:Int) - bit) mask=c:=if_pos hd
     rw [show spG bit mask (c::b) pre.length=sp1 c (8*(pre.length:Int) - bit) mask::spG bit mask b (pre.length+1) from rfl,this]
   · rw [he,decide_eq_false hd,cond_false]
     dsimp only [letP]
     rw [hw,wr_in (by omega) (by omega),chk_true (by rw [hlen]; omega),chk_true (by omega),chk_true (by rw [hlen]; omega),hnth]
     have hs:setT (pre++c::b) (pre.length:Int) (sp1 c (8*(pre.length:Int) - bit) mask)=pre++sp1 c (8*(pre.length:Int) - bit) mask::b:=by
      unfold setT
      rw [Int.toNat_natCast,List.set_append_right _ _ (Nat.le_refl _)]
      simp
     have he2:sp1 c (8*(pre.length:Int) - bit) mask=bxor .u8 c (IntKind.u8.wrap (shrI .u32 (shlI .u32 (shlI .u32 (IntKind.u32.wrap mask) 8) (8*(pre.length:Int) - bit+8)) 24)):=by
      unfold sp1 errB
      exact if_neg hd
     rw [he2] at hs
     refine (congrArg (cspoilS_j2 (pre.length:Int) (cspoilS_l1 bit mask k m) (n:Int)) hs).trans ?_
     exact (go _).trans (congrArg (fun d:U8=>k (pre++d::spG bit mask b (pre.length+1))) he2.symm)
  by_cases hd:8*(pre.length:Int) - bit≤-8
  · rw [decide_eq_true hd,cond_true]
    exact j3 true (by simp [hd])
  · rw [decide_eq_false hd,cond_false]
    exact j3 _ (by simp [hd])
theorem spoil_eq {b:List U8} {bit mask:Int} (h0:-65536<bit) (h1:bit<65536) (hn:b.length≤65536):cspoilS b bit mask=some (spG bit mask b 0):=by
 unfold cspoilS cloneBS
 rw [chk_true (by omega)]
 exact spoil_l1 bit mask h0 h1 b.length hn cspoilS_j0 b [] (b.length+1) (by simp) (by omega)
def ebit (q mask:Int):Bool:=decide (0≤q∧q<16) && mask.toNat.testBit (15 - q).toNat
theorem err_bit {y mask:Int} (hy:¬ (y≤-8∨16≤y)) (h0:0≤mask) (h1:mask<65536) {j:Nat} (hj:j<8):(BitVec.ofInt 8 (errB y mask)).getLsbD (7 - j)=ebit (y+(j:Int)) mask:=by
 obtain ⟨M,rfl⟩:∃ M:Nat,mask=(M:Int):=⟨mask.toNat,by omega⟩
 have hM:M<2 ^ 16:=by omega
 obtain ⟨z,hz⟩:∃ z:Nat,y+8=(z:Int):=⟨(y+8).toNat,by omega⟩
 have hz2:0<z∧z<24:=by omega
 have e1:errB y (M:Int)=(((M*2 ^ (z+8)) % 2 ^ 32 / 2 ^ 24 % 256:Nat):Int):=by
  unfold errB shrI shlI
  rw [hz]
  show IntKind.u8.wrap (Int.fdiv (IntKind.u32.wrap (IntKind.u32.wrap (IntKind.u32.wrap (M:Int)*2 ^ (min 8 32))*2 ^ (min z 32))) (2 ^ (min 24 32)))=_
  rw [w8,w32,w32,w32,Nat.min_eq_left (show z≤32 by omega),show (2:Int) ^ (min 8 32)=256 by rfl]
  rw [Int.emod_eq_of_lt (a:=(M:Int)) (by omega) (by omega),Int.emod_eq_of_lt (a:=(M:Int)*256) (by omega) (by omega),Int.fdiv_eq_ediv_of_nonneg _ (by decide)]
  have:(M:Int)*256*2 ^ z=((M*2 ^ (z+8):Nat):Int):=by
   push_cast
   rw [show z+8=8+z by omega,Int.pow_add]
   simp [Int.mul_assoc]
  rw [this]
  generalize M*2 ^ (z+8)=A
  rw [Int.natCast_emod,Int.natCast_ediv,Int.natCast_emod]
  rfl
 rw [e1]
 have e2:∀ (x:Nat) (k:Nat),k<8→(BitVec.ofInt 8 ((x % 256:Nat):Int)).getLsbD k=(x % 256).testBit k:=by
  intro x k hk
  rw [BitVec.ofInt_natCast,BitVec.getLsbD_ofNat]
  simp [hk]
 rw [e2 _ _ (by omega),show (256:Nat)=2 ^ 8 by rfl,Nat.testBit_mod_two_pow,Nat.testBit_div_two_pow,Nat.testBit_mod_two_pow,Nat.testBit_mul_two_pow]
 rw [decide_eq_true (show 7 - j<8 by omega),decide_eq_true (show 7 - j+24<32 by omega)]
 simp only [Bool.true_and]
 unfold ebit
 rw [Int.toNat_natCast]
 by_cases hq:0≤y+(j:Int)∧y+(j:Int)<16
 · rw [decide_eq_true hq,decide_eq_true (show z+8≤7 - j+24 by omega),show 7 - j+24 - (z+8)=(15 - (y+(j:Int))).toNat by omega]
 · rw [decide_eq_false hq,Bool.false_and]
   by_cases hl:y+(j:Int)<0
   · rw [Nat.testBit_lt_two_pow (i:=7 - j+24 - (z+8)) (Nat.lt_of_lt_of_le hM (Nat.pow_le_pow_right (by decide) (by omega))),Bool.and_false]
   · rw [decide_eq_false (show ¬ z+8≤7 - j+24 by omega),Bool.false_and]
def eb8 (y mask:Int):List Bool:=[0,1,2,3,4,5,6,7].map fun j:Nat=>ebit (y+(j:Int)) mask
theorem ofInt_bxor (c e:Int):BitVec.ofInt 8 (bxor .u8 c e)=BitVec.ofInt 8 c ^^^ BitVec.ofInt 8 e:=by
 rw [bx8,ofInt_toNat]
theorem sp1_bits (c:U8) {y mask:Int} (h0:0≤mask) (h1:mask<65536):bits8 (sp1 c y mask)=List.zipWith (· ^^ ·) (bits8 c) (eb8 y mask):=by
 by_cases hd:y≤-8∨16≤y
 · have e0:sp1 c y mask=c:=if_pos hd
   have e1:∀ j:Nat,j<8→ebit (y+(j:Int)) mask=false:=by
    intro j hj
    unfold ebit
    rw [decide_eq_false (by omega),Bool.false_and]
   rw [e0]
   unfold eb8
   simp only [List.map_cons,List.map_nil]
   rw [e1 0 (by omega),e1 1 (by omega),e1 2 (by omega),e1 3 (by omega),e1 4 (by omega),e1 5 (by omega),e1 6 (by omega),e1 7 (by omega)]
   unfold bits8
   simp
 · have e0:sp1 c y mask=bxor .u8 c (errB y mask):=if_neg hd
   rw [e0]
   have hb:∀ j:Nat,j<8→(BitVec.ofInt 8 (bxor .u8 c (errB y mask))).getLsbD (7 - j)=((BitVec.ofInt 8 c).getLsbD (7 - j) ^^ ebit (y+(j:Int)) mask):=by
    intro j hj
    refine (congrArg (fun v:BitVec 8=>v.getLsbD (7 - j)) (ofInt_bxor c (errB y mask))).trans ?_
    rw [BitVec.getLsbD_xor,err_bit hd h0 h1 hj]
   unfold bits8 eb8
   simp only [List.map_cons,List.map_nil,List.zipWith_cons_cons,List.zipWith_nil_right]
   rw [← hb 0 (by omega),← hb 1 (by omega),← hb 2 (by omega),← hb 3 (by omega),← hb 4 (by omega),← hb 5 (by omega),← hb 6 (by omega),← hb 7 (by omega)]
def ebR (bit mask:Int) (i n:Nat):List Bool:=(List.range (8*n)).map fun p:Nat=>ebit (8*(i:Int)+(p:Int) - bit) mask
theorem ebR_succ (bit mask:Int) (i n:Nat):ebR bit mask i (n+1)=eb8 (8*(i:Int) - bit) mask++ebR bit mask (i+1) n:=by
 unfold ebR eb8
 rw [show 8*(n+1)=8+8*n by omega,List.range_add,List.map_append,List.map_map]
 congr 1
 · rw [show List.range 8=[0,1,2,3,4,5,6,7] by rfl]
   refine List.map_congr_left fun p _=>?_
   congr 1; omega
 · refine List.map_congr_left fun p _=>?_
   show ebit (8*(i:Int)+((8+p:Nat):Int) - bit) mask=_
   congr 1; omega
theorem bits8_len (c:Int):(bits8 c).length=8:=by simp [bits8]
theorem eb8_len (y mask:Int):(eb8 y mask).length=8:=by simp [eb8]
theorem bitsB_cons (c:U8) (b:List U8):bitsB (c::b)=bits8 c++bitsB b:=rfl
theorem bitsB_len:∀ b:List U8,(bitsB b).length=8*b.length
 |[]=>rfl
 |c::b=>by rw [bitsB_cons,List.length_append]; have h1:=bits8_len c; have h2:=bitsB_len b; show _=8*(b.length+1); omega
theorem ebR_len (bit mask:Int) (i n:Nat):(ebR bit mask i n).length=8*n:=by simp [ebR]
theorem spG_bits {bit mask:Int} (h0:0≤mask) (h1:mask<65536):∀ (b:List U8) (i:Nat),bitsB (spG bit mask b i)=List.zipWith (· ^^ ·) (bitsB b) (ebR bit mask i b.length)
 |[],i=>rfl
 |c::b,i=>by
  rw [show spG bit mask (c::b) i=sp1 c (8*(i:Int) - bit) mask::spG bit mask b (i+1) from rfl,bitsB_cons,bitsB_cons,sp1_bits c h0 h1,spG_bits h0 h1 b (i+1)]
  show _=List.zipWith (· ^^ ·) (bits8 c++bitsB b) (ebR bit mask i (b.length+1))
  rw [ebR_succ,List.zipWith_append ((bits8_len c).trans (eb8_len _ _).symm)]
def hits (n:Nat) (bit mask:Int):Bool:=(ebR bit mask 0 n).any id
theorem burst_found {b:List U8} {bit mask:Int} (h0:0≤mask) (h1:mask<65536) (s:B16) (hx:(bitsB b).foldl cG s=0#16) (hy:(bitsB (spG bit mask b 0)).foldl cG s=0#16):hits b.length bit mask=false:=by
 rw [spG_bits h0 h1] at hy
 have h2:=cG_fold_xor (bitsB b) (ebR bit mask 0 b.length) (by rw [bitsB_len,ebR_len]) s 0#16
 rw [BitVec.xor_zero,hy,hx] at h2
 have h3:(ebR bit mask 0 b.length).foldl cG 0#16=0#16:=by simpa using h2.symm
 have h4:=cG_burst2 (L:=ebR bit mask 0 b.length) bit.toNat (fun p hp hq=>by
  rw [ebR_len] at hp
  unfold ebR
  rw [List.getElem?_map,List.getElem?_range hp]
  simp only [Option.map_some,Option.some.injEq]
  unfold ebit
  rw [decide_eq_false (by omega),Bool.false_and]) h3
 unfold hits
 rw [List.any_eq_false]
 intro x hx
 simpa using h4 x hx
def BytesOk (b:List U8):Prop:=∀ c:Int,List.Mem (α:=Int) c b→0≤c∧c<256
theorem bits8_inj {c d:Int} (h:bits8 c=bits8 d):BitVec.ofInt 8 c=BitVec.ofInt 8 d:=by
 unfold bits8 at h
 simp only [List.map_cons,List.map_nil,List.cons.injEq,and_true] at h
 obtain ⟨h7,h6,h5,h4,h3,h2,h1,h0⟩:=h
 apply BitVec.eq_of_getLsbD_eq
 intro i hi
 match i,hi with
 |0,_=>exact h0
 |1,_=>exact h1
 |2,_=>exact h2
 |3,_=>exact h3
 |4,_=>exact h4
 |5,_=>exact h5
 |6,_=>exact h6
 |7,_=>exact h7
theorem byte_back {c:Int} (h:0≤c∧c<256):(((BitVec.ofInt 8 c).toNat:Nat):Int)=c:=by
 simp [BitVec.toNat_ofInt]
 omega
theorem zip_false (x:List Bool):∀ e:List Bool,x.length=e.length→e.any id=false→List.zipWith (· ^^ ·) x e=x:=by
 induction x with
 |nil=>intro e h _; rfl
 |cons a x ih =>
  intro e h he
  cases e with
  |nil=>simp at h
  |cons b e =>
   simp only [List.any_cons,id,Bool.or_eq_false_iff] at he
   simp only [List.zipWith_cons_cons,he.1,Bool.xor_false]
   rw [ih e (by simpa using h) he.2]
theorem no_hitG {bit mask:Int} (h0:0≤mask) (h1:mask<65536):∀ (b:List U8) (i:Nat),BytesOk b→(ebR bit mask i b.length).any id=false→spG bit mask b i=b
 |[],_,_,_=>rfl
 |c::b,i,hr,h=>by
  rw [show (c::b:List U8).length=b.length+1 from rfl,ebR_succ,List.any_append,Bool.or_eq_false_iff] at h
  have ih:=no_hitG h0 h1 b (i+1) (fun d hd=>hr d (List.Mem.tail _ hd)) h.2
  have hc:sp1 c (8*(i:Int) - bit) mask=c:=by
   by_cases hd:8*(i:Int) - bit≤-8∨16≤8*(i:Int) - bit
   · exact if_pos hd
   · have e0:sp1 c (8*(i:Int) - bit) mask=bxor .u8 c (errB (8*(i:Int) - bit) mask):=if_neg hd
     have e1:=(sp1_bits c (y:=8*(i:Int) - bit) h0 h1).trans (zip_false _ _ ((bits8_len c).trans (eb8_len _ _).symm) h.1)
     have e2:=bits8_inj e1
     rw [e0] at e2 ⊢
     have e3:=ofInt_bxor c (errB (8*(i:Int) - bit) mask)
     have e4:=bx8 c (errB (8*(i:Int) - bit) mask)
     refine e4.trans ?_
     rw [← e3]
     refine (congrArg (fun v:BitVec 8=>(v.toNat:Int)) e2).trans ?_
     exact byte_back (hr c (List.Mem.head _))
  rw [show spG bit mask (c::b) i=sp1 c (8*(i:Int) - bit) mask::spG bit mask b (i+1) from rfl,hc,ih]
theorem no_hit {b:List U8} {bit mask:Int} (h0:0≤mask) (h1:mask<65536) (hr:BytesOk b) (h:hits b.length bit mask=false):spG bit mask b 0=b:=no_hitG h0 h1 b 0 hr h
end
section
open Go
theorem conc2 (b t:List U8) (h:b.length+t.length≤65536):concS [b,t]=some (b++t):=by
 have l3:∀ (k:Int→Option (List U8)),concS_l3 [b,t] k 3 0 0=k ((b.length+t.length:Nat):Int):=by
  intro k
  rw [concS_l3]
  dsimp only [letP]
  rw [show decide ((0:Int)<((([b,t]:List (List U8)).length:Nat):Int))=true from rfl,cond_true,chk_true (by show (0:Int)≤0∧(0:Int)<2; decide)]
  rw [show nthT ([b,t]:List (List U8)) 0=b from rfl,wr_in (by omega) (by omega),decide_eq_false (by omega),cond_false,chk_true (by decide)]
  rw [concS_l3]
  dsimp only [letP]
  rw [show decide ((0:Int)+1<((([b,t]:List (List U8)).length:Nat):Int))=true from rfl,cond_true,chk_true (by show (0:Int)≤0+1∧(0:Int)+1<2; decide)]
  rw [show nthT ([b,t]:List (List U8)) (0+1)=t from rfl,wr_in (by omega) (by omega),decide_eq_false (by omega),cond_false,chk_true (by decide)]
  rw [concS_l3]
  rw [show decide ((0:Int)+1+1<((([b,t]:List (List U8)).length:Nat):Int))=false from rfl,cond_false]
  congr 1; omega
 have l2:∀ (k:List U8→Option (List U8)),concS_l2 [b,t] k 3 [] 0=k (b++t):=by
  intro k
  rw [concS_l2]
  dsimp only [letP]
  rw [show decide ((0:Int)<((([b,t]:List (List U8)).length:Nat):Int))=true from rfl,cond_true,chk_true (by show (0:Int)≤0∧(0:Int)<2; decide)]
  rw [show nthT ([b,t]:List (List U8)) 0=b from rfl,chk_true (by simp; omega),chk_true (by decide)]
  rw [concS_l2]
  dsimp only [letP]
  rw [show decide ((0:Int)+1<((([b,t]:List (List U8)).length:Nat):Int))=true from rfl,cond_true,chk_true (by show (0:Int)≤0+1∧(0:Int)+1<2; decide)]
  rw [show nthT ([b,t]:List (List U8)) (0+1)=t from rfl,chk_true (by simp; omega),chk_true (by decide)]
  rw [concS_l2]
  rw [show decide ((0:Int)+1+1<((([b,t]:List (List U8)).length:Nat):Int))=false from rfl,cond_false]
  simp
 unfold concS
 show concS_l3 [b,t] (concS_j0 [b,t]) 3 0 0=_
 rw [l3]
 unfold concS_j0
 rw [chk_true (by omega)]
 show concS_l2 [b,t] concS_j1 3 [] 0=_
 rw [l2]
 rfl
def crcB (b:List U8):B16:=b.foldl cF 0xffff#16
def hiB (s:B16):U8:=((s.toNat / 256:Nat):Int)
def loB (s:B16):U8:=((s.toNat % 256:Nat):Int)
def sealL (b:List U8):List U8:=b++[hiB (crcB b),loB (crcB b)]
theorem sealL_len (b:List U8):(sealL b).length=b.length+2:=by simp [sealL]
theorem seal_eq {b:List U8} (hb:b.length≤60000):csealS b=some (sealL b):=by
 unfold csealS
 rw [csum_eq b (by omega)]
 show (concS [b,[IntKind.wrap .u8 (shrI .u16 (((crcB b).toNat:Nat):Int) 8),IntKind.wrap .u8 (((crcB b).toNat:Nat):Int)]]).bind _=_
 have hs:=(crcB b).isLt
 have e1:IntKind.u8.wrap (shrI .u16 (((crcB b).toNat:Nat):Int) 8)=hiB (crcB b):=by
  rw [w8]
  unfold shrI hiB
  show (Int.fdiv (((crcB b).toNat:Nat):Int) (2 ^ (min 8 16))) % 256=_
  rw [Int.fdiv_eq_ediv_of_nonneg _ (by decide),show (2:Int) ^ (min 8 16)=256 by rfl]
  omega
 have e2:IntKind.u8.wrap (((crcB b).toNat:Nat):Int)=loB (crcB b):=by
  rw [w8]
  unfold loB
  omega
 rw [e1,e2]
 have:=conc2 b [hiB (crcB b),loB (crcB b)] (by simp; omega)
 refine (congrArg (fun o:Option (List U8)=>o.bind fun y=>some y) this).trans ?_
 rfl
theorem cR8_low (x:BitVec 8):cRn 8 (x.zeroExtend 16)=x.zeroExtend 16 <<< 8:=by
 revert x; decide
theorem cF_seal (s:B16):cF (cF s (hiB s)) (loB s)=0#16:=by
 have hs:=s.isLt
 have e1:s ^^^ (BitVec.ofInt 16 (hiB s) <<< 8)=(BitVec.ofNat 8 s.toNat).zeroExtend 16:=by
  have h1:BitVec.ofInt 16 (hiB s) <<< 8=(s >>> 8) <<< 8:=by
   apply BitVec.eq_of_toNat_eq
   unfold hiB
   simp [BitVec.toNat_ofInt,BitVec.toNat_shiftLeft,Nat.shiftLeft_eq,BitVec.toNat_ushiftRight,Nat.shiftRight_eq_div_pow]
   omega
  refine (congrArg (fun v=>s ^^^ v) h1).trans ?_
  apply BitVec.eq_of_getLsbD_eq
  intro i hi
  simp [BitVec.getLsbD_xor,BitVec.getLsbD_shiftLeft,BitVec.getLsbD_ushiftRight,BitVec.getLsbD_setWidth,BitVec.getLsbD_ofNat]
  rcases Nat.lt_or_ge i 8 with h8 | h8
  · simp [hi,h8,BitVec.getLsbD]
  · simp [hi,show ¬ i<8 by omega,show 8+(i - 8)=i by omega]
 have e2:BitVec.ofInt 16 (loB s) <<< 8=(BitVec.ofNat 8 s.toNat).zeroExtend 16 <<< 8:=by
  apply BitVec.eq_of_toNat_eq
  unfold loB
  simp [BitVec.toNat_ofInt,BitVec.toNat_shiftLeft,Nat.shiftLeft_eq]
  omega
 have e3:cF s (hiB s)=(BitVec.ofNat 8 s.toNat).zeroExtend 16 <<< 8:=(congrArg (cRn 8) e1).trans (cR8_low _)
 show cRn 8 (cF s (hiB s) ^^^ BitVec.ofInt 16 (loB s) <<< 8)=0#16
 refine (congrArg (cRn 8) (show cF s (hiB s) ^^^ BitVec.ofInt 16 (loB s) <<< 8=0#16 from ?_)).trans (cRn_zero 8)
 refine (congrArg (fun v=>cF s (hiB s) ^^^ v) e2).trans ?_
 refine (congrArg (fun v=>v ^^^ ((BitVec.ofNat 8 s.toNat).zeroExtend 16 <<< 8)) e3).trans ?_
 exact BitVec.xor_self
theorem cF_app (b t:List Int) (s:B16):(b++t).foldl cF s=t.foldl cF (b.foldl cF s):=List.foldl_append ..
theorem seal_sum (b:List U8):(bitsB (sealL b)).foldl cG 0xffff#16=0#16:=by
 rw [← cF_fold]
 unfold sealL
 exact (cF_app b [hiB (crcB b),loB (crcB b)] _).trans (cF_seal (crcB b))
theorem bEq_true (a:List U8):bEqS a a=some true:=by simp [bEqS]
theorem bytesOf_inj:∀ {a b:List Int},(∀ c∈a,0≤c∧c<256)→(∀ c∈b,0≤c∧c<256)→Lib.bytesOf a=Lib.bytesOf b→a=b
 |[],[],_,_,_=>rfl
 |[],_::_,_,_,h=>by simp [Lib.bytesOf] at h
 |_::_,[],_,_,h=>by simp [Lib.bytesOf] at h
 |x::a,y::b,ha,hb,h=>by
  simp only [Lib.bytesOf,List.map_cons,List.cons.injEq] at h
  have h1:=ha x (by simp)
  have h2:=hb y (by simp)
  have e:x=y:=by
   have:=congrArg UInt8.toNat h.1
   simp at this
   omega
  rw [e,bytesOf_inj (fun c hc=>ha c (by simp [hc])) (fun c hc=>hb c (by simp [hc])) h.2]
theorem bEq_eq {a b:List U8} (ha:BytesOk a) (hb:BytesOk b) (h:bEqS a b=some true):a=b:=by
 unfold bEqS at h
 simp only [Option.some.injEq,beq_iff_eq] at h
 have h2:Lib.bytesOf a=Lib.bytesOf b:=(Lib.strOfNums_toList a).symm.trans (h.trans (Lib.strOfNums_toList b))
 exact bytesOf_inj (a:=a) (b:=b) ha hb h2
theorem bEq_ne {a b:List U8} (ha:BytesOk a) (hb:BytesOk b) (h:a≠b):bEqS a b=some false:=by
 cases e:((strOfNums a).toList == (strOfNums b).toList) with
 |true=>exact absurd (bEq_eq ha hb (by unfold bEqS; rw [e])) h
 |false=>unfold bEqS; rw [e]
theorem BytesOk.app {a b:List U8} (ha:BytesOk a) (hb:BytesOk b):BytesOk (a++b):=fun c hc=>by
 have:c∈((a:List Int)++(b:List Int)):=hc
 rcases List.mem_append.1 this with h | h
 · exact ha c h
 · exact hb c h
theorem BytesOk.take {a:List U8} (ha:BytesOk a) (n:Nat):BytesOk (a.take n):=fun c hc=>ha c (List.mem_of_mem_take (l:=(a:List Int)) (i:=n) hc)
theorem sealL_ok {b:List U8} (hb:BytesOk b):BytesOk (sealL b):=hb.app fun c hc=>by
 have hs:=(crcB b).isLt
 have:c∈([((((crcB b).toNat / 256:Nat):Nat):Int),((((crcB b).toNat % 256:Nat):Nat):Int)]:List Int):=hc
 simp at this
 omega
theorem open_seal {b:List U8} (hl:b.length≤60000):copenS (sealL b)=some (b,true):=by
 unfold copenS
 dsimp only [letP]
 have e:=sealL_len b
 have hw:wr ((((sealL b).length:Nat):Int) - 2)=(b.length:Int):=by rw [e]; rw [wr_in] <;> omega
 rw [hw,decide_eq_false (by omega),cond_false,chk_true (by omega)]
 have ht:((sealL b).drop (0:Int).toNat).take ((b.length:Int).toNat - (0:Int).toNat)=b:=by
  show ((sealL b).drop 0).take _=b
  simp [sealL]
 rw [ht,seal_eq hl,Option.bind_some,bEq_true,Option.bind_some,Bool.not_true,cond_false,chk_true (by omega)]
 unfold cloneBS
 rw [chk_true (by omega)]
 rfl
theorem open_spoilt {b:List U8} (hb:BytesOk b) (hl:b.length≤60000) {bit mask:Int} (h0:0≤mask) (h1:mask<65536) (hh:hits (b.length+2) bit mask=true):copenS (spG bit mask (sealL b) 0)=some ([],false):=by
 have hlen:(spG bit mask (sealL b) 0).length=b.length+2:=by rw [spG_len,sealL_len]
 generalize hy:spG bit mask (sealL b) 0=y at hlen
 have hyb:BytesOk y:=by
  rw [← hy]
  have g:∀ (l:List U8) (i:Nat),BytesOk l→BytesOk (spG bit mask l i):=by
   intro l
   induction l with
   |nil=>intro i _ c hc; cases hc
   |cons d l ih =>
    intro i hd c hc
    have hc2:List.Mem (α:=Int) c (sp1 d (8*(i:Int) - bit) mask::spG bit mask l (i+1)):=hc
    cases hc2 with
    |head =>
     by_cases hq:8*(i:Int) - bit≤-8∨16≤8*(i:Int) - bit
     · have:sp1 d (8*(i:Int) - bit) mask=d:=if_pos hq
       rw [this]
       exact hd _ (List.Mem.head _)
     · have:sp1 d (8*(i:Int) - bit) mask=bxor .u8 d (errB (8*(i:Int) - bit) mask):=if_neg hq
       rw [this]
       have e4:=bx8 d (errB (8*(i:Int) - bit) mask)
       have:=(BitVec.ofInt 8 d ^^^ BitVec.ofInt 8 (errB (8*(i:Int) - bit) mask)).isLt
       rw [e4]
       omega
    |tail _ h=>exact ih (i+1) (fun c hc=>hd c (List.Mem.tail _ hc)) c h
  exact g _ _ (sealL_ok hb)
 unfold copenS
 dsimp only [letP]
 have hw:wr ((y.length:Int) - 2)=(b.length:Int):=by rw [hlen]; rw [wr_in] <;> omega
 rw [hw,decide_eq_false (by omega),cond_false,chk_true (by omega)]
 have ht:(y.drop (0:Int).toNat).take ((b.length:Int).toNat - (0:Int).toNat)=y.take b.length:=by
  show (y.drop 0).take _=_
  simp
 rw [ht,seal_eq (by simp; omega),Option.bind_some]
 have hne:sealL (y.take b.length)≠y:=by
  intro he
  have h2:=seal_sum (y.take b.length)
  rw [he,← hy] at h2
  have h3:=burst_found (b:=sealL b) h0 h1 0xffff#16 (seal_sum b) h2
  rw [sealL_len,hh] at h3
  cases h3
 rw [bEq_ne (sealL_ok (hyb.take _)) hyb hne]
 rfl
end
end Go.Proofs.YtcidmgkfaioceaaGreat
