/- Walks of the program's functions, and the plain laws of what they compute (part 6): Nod, Opp, Mac, Wat, Ply, Rnd, Wab.
   Conditions: none. -/
import Derived.Test.YtcidmgkfaioceaaGreatMBegins5
set_option linter.unusedVariables false
set_option linter.unusedSimpArgs false
set_option linter.unusedSectionVars false
set_option maxRecDepth 100000
set_option maxHeartbeats 4000000
namespace Go.Proofs.YtcidmgkfaioceaaGreat
section
open Go Go.RowKit
structure NodeS where
 cache:CacheS
 proc:ProcS
 c:CfgS
 id:Int
 home:HomeS
 deal:DealS
 next:Int
def NodeO (b:Nat) (c:NodeS):Nat×Nat×Option Addr×Nat×Nat×Option Addr×Nat→Rs:=fun (b_cache,b_proc,a_c_init,c_c_init,b_home,a_deal_data,c_deal_data)=>⟨[⟨b,#[.pointer (some ⟨b_cache,0,none⟩),.pointer (some ⟨b_proc,0,none⟩),.int .i64 c.c.nodes,.int .i64 c.c.lines,.int .i64 c.c.words,.int .i64 c.c.sets,.int .i64 c.c.ways,.int .i64 c.c.out,.int .i64 c.c.inn,.slice a_c_init c.c.init.length c_c_init,.int .i64 c.id,.pointer (some ⟨b_home,0,none⟩),.int .i64 c.deal.kind,.int .i64 c.deal.line,.int .i64 c.deal.id,.int .i64 c.deal.step,.int .i64 c.deal.state,.int .i64 c.deal.head,.slice a_deal_data c.deal.data.length c_deal_data,.int .i64 c.deal.next,.int .i64 c.deal.told,.int .i64 c.next],55⟩],[(CacheA b_cache c.cache),(ProcA b_proc c.proc),(ImmA a_c_init c_c_init c.c.init),(HomeA b_home c.home),(ImmA a_deal_data c_deal_data c.deal.data)]⟩
abbrev NodeA (b:Nat) (c:NodeS):Asn:=ObA (NodeO b c)
def nnewS (c:CfgS) (id:Int) (ops:List OpS):Option (NodeS) :=
 (cnewS c.sets c.ways).bind fun y1_4=>(prnewS ops).bind fun y1_6=>(hnewS c id).bind fun y1_11=>some ({ cache:=y1_4,proc:=y1_6,c:=c,id:=id,home:=y1_11,deal:=(⟨0,0,0,0,0,0,([]:List Int),0,0⟩:DealS),next:=0 }:NodeS)
theorem nnewF {c:CfgS} {id:Int} {ops:List OpS} {opsA:Asn} (c0a:Option Addr) (c0c:Nat) (opsa:Option Addr) (opsc:Nat) (hopsA:Rdb opsA opsa opsc ops) {y:NodeS} (H:nnewS c id ops=some y):FnY Tryz.prog 42 [.agg #[.int .i64 c.nodes,.int .i64 c.lines,.int .i64 c.words,.int .i64 c.sets,.int .i64 c.ways,.int .i64 c.out,.int .i64 c.inn,.slice c0a c.init.length c0c],.int .i64 id,.slice opsa ops.length opsc] ⟨[],[(ImmA c0a c0c c.init),opsA]⟩ (Z:=Nat) (fun y (zb0:Nat)=>.pointer (some ⟨zb0,0,none⟩)) (fun y (zb0:Nat)=>⟨[],[(NodeA zb0 y),opsA]⟩) y:=by
 unfold nnewS at H
 refine xfY Tryz.func42 fun W0 F=>?_
 refine xn [] fun b0_0=>?_
 refine bindG H fun y1_4 hy1_4 H=>?_
 refine xc [0,1,0,2,3,0,5,7,0,8,9,0,10,4] [] [] (cnewF hy1_4) fun t1_4_b0=>?_
 refine bindG H fun y1_6 hy1_6 H=>?_
 refine xc [6] [] [2] (prnewF opsa opsc hopsA hy1_6) fun t1_6_b0=>?_
 refine xg [11] [] [3] (gh_dup c0a c0c c.init) fun _=>?_
 refine bindG H fun y1_11 hy1_11 H=>?_
 refine xc [] [] [0] (hnewF c0a c0c hy1_11) fun t1_11_b0=>?_
 refine xn [12,13,14] fun b1_14=>?_
 refine xg [15] [] [1] (gh_dup c0a c0c c.init) fun _=>?_
 refine xg [] [] [] (gh_nilI (α:=Int) none 0) fun _=>?_
 refine xg [] [] [0] (gh_dup none 0 ([]:List Int)) fun _=>?_
 refine xg [] [0] [7,5,2,3,0] (gh_shut (NodeO b1_14 ({ cache:=y1_4,proc:=y1_6,c:=c,id:=id,home:=y1_11,deal:=(⟨0,0,0,0,0,0,([]:List Int),0,0⟩:DealS),next:=0 }:NodeS)) (t1_4_b0,t1_6_b0,c0a,c0c,t1_11_b0,none,0)) fun _=>?_
 exact xrY (someE H) [] [] [] [0,2] (b1_14)
def ndealS (nc:NodeS):Option (DealS×Bool) :=
 (bif decide (nc.deal.step=(0:Int)) then some ((⟨(0:Int),(0:Int),(0:Int),(0:Int),(0:Int),(0:Int),([]:List Int),(0:Int),(0:Int)⟩:DealS),false) else chk ((nc.deal.data).length≤1099511627776) (letP (nc.deal.data) fun l4_2=>some ((⟨nc.deal.kind,nc.deal.line,nc.deal.id,nc.deal.step,nc.deal.state,nc.deal.head,l4_2,nc.deal.next,nc.deal.told⟩:DealS),true)))
theorem ndealF {nc:NodeS} (n:Nat) (n_b_cache:Nat) (n_b_proc:Nat) (n_a_c_init:Option Addr) (n_c_c_init:Nat) (n_b_home:Nat) (n_a_deal_data:Option Addr) (n_c_deal_data:Nat) {y:DealS×Bool} (H:ndealS nc=some y):FnY Tryz.prog 62 [.pointer (some ⟨n,0,none⟩)] ⟨[⟨n,#[.pointer (some ⟨n_b_cache,0,none⟩),.pointer (some ⟨n_b_proc,0,none⟩),.int .i64 nc.c.nodes,.int .i64 nc.c.lines,.int .i64 nc.c.words,.int .i64 nc.c.sets,.int .i64 nc.c.ways,.int .i64 nc.c.out,.int .i64 nc.c.inn,.slice n_a_c_init nc.c.init.length n_c_c_init,.int .i64 nc.id,.pointer (some ⟨n_b_home,0,none⟩),.int .i64 nc.deal.kind,.int .i64 nc.deal.line,.int .i64 nc.deal.id,.int .i64 nc.deal.step,.int .i64 nc.deal.state,.int .i64 nc.deal.head,.slice n_a_deal_data nc.deal.data.length n_c_deal_data,.int .i64 nc.deal.next,.int .i64 nc.deal.told,.int .i64 nc.next],55⟩],[(CacheA n_b_cache nc.cache),(ProcA n_b_proc nc.proc),(ImmA n_a_c_init n_c_c_init nc.c.init),(HomeA n_b_home nc.home),(ImmA n_a_deal_data n_c_deal_data nc.deal.data)]⟩ (Z:=Option Addr×Nat) (fun y (za0,zc0)=>.tuple #[.agg #[.int .i64 y.1.kind,.int .i64 y.1.line,.int .i64 y.1.id,.int .i64 y.1.step,.int .i64 y.1.state,.int .i64 y.1.head,.slice za0 y.1.data.length zc0,.int .i64 y.1.next,.int .i64 y.1.told],.bool y.2]) (fun y (za0,zc0)=>⟨[⟨n,#[.pointer (some ⟨n_b_cache,0,none⟩),.pointer (some ⟨n_b_proc,0,none⟩),.int .i64 nc.c.nodes,.int .i64 nc.c.lines,.int .i64 nc.c.words,.int .i64 nc.c.sets,.int .i64 nc.c.ways,.int .i64 nc.c.out,.int .i64 nc.c.inn,.slice n_a_c_init nc.c.init.length n_c_c_init,.int .i64 nc.id,.pointer (some ⟨n_b_home,0,none⟩),.int .i64 nc.deal.kind,.int .i64 nc.deal.line,.int .i64 nc.deal.id,.int .i64 nc.deal.step,.int .i64 nc.deal.state,.int .i64 nc.deal.head,.slice n_a_deal_data nc.deal.data.length n_c_deal_data,.int .i64 nc.deal.next,.int .i64 nc.deal.told,.int .i64 nc.next],55⟩],[(ArrA za0 zc0 y.1.data),(CacheA n_b_cache nc.cache),(ProcA n_b_proc nc.proc),(ImmA n_a_c_init n_c_c_init nc.c.init),(HomeA n_b_home nc.home),(ImmA n_a_deal_data n_c_deal_data nc.deal.data)]⟩) y:=by
 unfold ndealS at H
 refine xfY Tryz.func62 fun W0 F=>?_
 refine xn [] fun b0_0=>?_
 refine xs [1] H ?_ ?_
 · intro H
   refine xg [1,0] [] [] (gh_nil (α:=Int) none) fun _=>?_
   exact xrY (someE H) [] [0] [1] [0,0,0,0,0,0] (none,0)
 · intro H
   refine xn [0,1] fun b3_4=>?_
   refine xg [0,0] [] [] (gh_nil (α:=Int) none) fun _=>?_
   refine chkG H fun q4_2_1 H=>?_
   refine letG H fun l4_2 hl4_2 H=>?_
   refine xa [] [0,4] (a:=none) (l:=([]:List Int)) (zs:=l4_2) (cap:=0) (rI n_a_deal_data n_c_deal_data nc.deal.data) hl4_2 (hl4_2▸q4_2_1) fun ⟨a4_2,c4_2⟩=>?_
   exact xrY (someE H) [0,0,1] [1] [2] [0,1,1,1,1,0] (a4_2,c4_2)
def nrowS (nc:NodeS) (line:Int):Option (RowS×Bool) :=
 (mrowS nc.home.dir line).bind fun y1_9=>some (y1_9.1,y1_9.2)
theorem nrowF {nc:NodeS} {line:Int} (n:Nat) (n_b_cache:Nat) (n_b_proc:Nat) (n_a_c_init:Option Addr) (n_c_c_init:Nat) (n_b_home:Nat) (n_a_deal_data:Option Addr) (n_c_deal_data:Nat) {y:RowS×Bool} (H:nrowS nc line=some y):FnY Tryz.prog 31 [.pointer (some ⟨n,0,none⟩),.int .i64 line] ⟨[⟨n,#[.pointer (some ⟨n_b_cache,0,none⟩),.pointer (some ⟨n_b_proc,0,none⟩),.int .i64 nc.c.nodes,.int .i64 nc.c.lines,.int .i64 nc.c.words,.int .i64 nc.c.sets,.int .i64 nc.c.ways,.int .i64 nc.c.out,.int .i64 nc.c.inn,.slice n_a_c_init nc.c.init.length n_c_c_init,.int .i64 nc.id,.pointer (some ⟨n_b_home,0,none⟩),.int .i64 nc.deal.kind,.int .i64 nc.deal.line,.int .i64 nc.deal.id,.int .i64 nc.deal.step,.int .i64 nc.deal.state,.int .i64 nc.deal.head,.slice n_a_deal_data nc.deal.data.length n_c_deal_data,.int .i64 nc.deal.next,.int .i64 nc.deal.told,.int .i64 nc.next],55⟩],[(CacheA n_b_cache nc.cache),(ProcA n_b_proc nc.proc),(ImmA n_a_c_init n_c_c_init nc.c.init),(HomeA n_b_home nc.home),(ImmA n_a_deal_data n_c_deal_data nc.deal.data)]⟩ (Z:=Option Addr×Nat) (fun y (za0,zc0)=>.tuple #[.agg #[.int .i64 y.1.state,.int .i64 y.1.head,.slice za0 y.1.data.length zc0],.bool y.2]) (fun y (za0,zc0)=>⟨[⟨n,#[.pointer (some ⟨n_b_cache,0,none⟩),.pointer (some ⟨n_b_proc,0,none⟩),.int .i64 nc.c.nodes,.int .i64 nc.c.lines,.int .i64 nc.c.words,.int .i64 nc.c.sets,.int .i64 nc.c.ways,.int .i64 nc.c.out,.int .i64 nc.c.inn,.slice n_a_c_init nc.c.init.length n_c_c_init,.int .i64 nc.id,.pointer (some ⟨n_b_home,0,none⟩),.int .i64 nc.deal.kind,.int .i64 nc.deal.line,.int .i64 nc.deal.id,.int .i64 nc.deal.step,.int .i64 nc.deal.state,.int .i64 nc.deal.head,.slice n_a_deal_data nc.deal.data.length n_c_deal_data,.int .i64 nc.deal.next,.int .i64 nc.deal.told,.int .i64 nc.next],55⟩],[(ArrA za0 zc0 y.1.data),(CacheA n_b_cache nc.cache),(ProcA n_b_proc nc.proc),(ImmA n_a_c_init n_c_c_init nc.c.init),(HomeA n_b_home nc.home),(ImmA n_a_deal_data n_c_deal_data nc.deal.data)]⟩) y:=by
 unfold nrowS at H
 refine xfY Tryz.func31 fun W0 F=>?_
 refine xn [] fun b0_0=>?_
 refine xg [1] [] [3] (gh_open (HomeO n_b_home nc.home)) fun ⟨b_dir1,b_turns2,a_c_init3,c_c_init4⟩=>?_
 refine xg [0] [] [0] (gh_open (DirO b_dir1 nc.home.dir)) fun ⟨a_c_init5,c_c_init6,b_rows7⟩=>?_
 refine bindG H fun y1_9 hy1_9 H=>?_
 refine xc [] [0] [0,0] (mrowF b_dir1 a_c_init5 c_c_init6 b_rows7 hy1_9) fun ⟨t1_9_a0,t1_9_c0⟩=>?_
 refine xg [2] [0] [1,1] (gh_shut (DirO b_dir1 nc.home.dir) (a_c_init5,c_c_init6,b_rows7)) fun _=>?_
 refine xg [] [0] [0,1,1] (gh_shut (HomeO n_b_home nc.home) (b_dir1,b_turns2,a_c_init3,c_c_init4)) fun _=>?_
 exact xrY (someE H) [] [0] [1] [1,1,1,1,0,0] (t1_9_a0,t1_9_c0)
def nownerS (nc:NodeS) (line:Int):Option (Int) :=
 (townerS nc.home.turns line).bind fun y1_9=>some y1_9
theorem nownerF {nc:NodeS} {line:Int} (n:Nat) (n_b_cache:Nat) (n_b_proc:Nat) (n_a_c_init:Option Addr) (n_c_c_init:Nat) (n_b_home:Nat) (n_a_deal_data:Option Addr) (n_c_deal_data:Nat) {y:Int} (H:nownerS nc line=some y):FnY Tryz.prog 100 [.pointer (some ⟨n,0,none⟩),.int .i64 line] ⟨[⟨n,#[.pointer (some ⟨n_b_cache,0,none⟩),.pointer (some ⟨n_b_proc,0,none⟩),.int .i64 nc.c.nodes,.int .i64 nc.c.lines,.int .i64 nc.c.words,.int .i64 nc.c.sets,.int .i64 nc.c.ways,.int .i64 nc.c.out,.int .i64 nc.c.inn,.slice n_a_c_init nc.c.init.length n_c_c_init,.int .i64 nc.id,.pointer (some ⟨n_b_home,0,none⟩),.int .i64 nc.deal.kind,.int .i64 nc.deal.line,.int .i64 nc.deal.id,.int .i64 nc.deal.step,.int .i64 nc.deal.state,.int .i64 nc.deal.head,.slice n_a_deal_data nc.deal.data.length n_c_deal_data,.int .i64 nc.deal.next,.int .i64 nc.deal.told,.int .i64 nc.next],55⟩],[(CacheA n_b_cache nc.cache),(ProcA n_b_proc nc.proc),(ImmA n_a_c_init n_c_c_init nc.c.init),(HomeA n_b_home nc.home),(ImmA n_a_deal_data n_c_deal_data nc.deal.data)]⟩ (Z:=Unit) (fun y _=>.int .i64 y) (fun y _=>⟨[⟨n,#[.pointer (some ⟨n_b_cache,0,none⟩),.pointer (some ⟨n_b_proc,0,none⟩),.int .i64 nc.c.nodes,.int .i64 nc.c.lines,.int .i64 nc.c.words,.int .i64 nc.c.sets,.int .i64 nc.c.ways,.int .i64 nc.c.out,.int .i64 nc.c.inn,.slice n_a_c_init nc.c.init.length n_c_c_init,.int .i64 nc.id,.pointer (some ⟨n_b_home,0,none⟩),.int .i64 nc.deal.kind,.int .i64 nc.deal.line,.int .i64 nc.deal.id,.int .i64 nc.deal.step,.int .i64 nc.deal.state,.int .i64 nc.deal.head,.slice n_a_deal_data nc.deal.data.length n_c_deal_data,.int .i64 nc.deal.next,.int .i64 nc.deal.told,.int .i64 nc.next],55⟩],[(CacheA n_b_cache nc.cache),(ProcA n_b_proc nc.proc),(ImmA n_a_c_init n_c_c_init nc.c.init),(HomeA n_b_home nc.home),(ImmA n_a_deal_data n_c_deal_data nc.deal.data)]⟩) y:=by
 unfold nownerS at H
 refine xfY Tryz.func100 fun W0 F=>?_
 refine xg [0] [] [3] (gh_open (HomeO n_b_home nc.home)) fun ⟨b_dir1,b_turns2,a_c_init3,c_c_init4⟩=>?_
 refine xg [0] [] [1] (gh_open (TurnsO b_turns2 nc.home.turns)) fun ⟨b_owners5,b_wait6⟩=>?_
 refine bindG H fun y1_9 hy1_9 H=>?_
 refine xc [] [0] [0,0] (townerF b_turns2 b_owners5 b_wait6 hy1_9) fun _=>?_
 refine xg [] [0] [0,0] (gh_shut (TurnsO b_turns2 nc.home.turns) (b_owners5,b_wait6)) fun _=>?_
 refine xg [] [0] [1,0,0] (gh_shut (HomeO n_b_home nc.home) (b_dir1,b_turns2,a_c_init3,c_c_init4)) fun _=>?_
 exact xrY (someE H) [] [] [0] [1,1,1,0,0] ()
def nafterS (nc:NodeS) (p:PktS):Option (DealS×Bool×NodeS) :=
 (bif decide (nc.deal.kind=(1:Int)) then (anextS nc.deal nc.id nc.cache p).bind fun y3_13=>some (y3_13.1,y3_13.2.1,({ nc with cache:=y3_13.2.2 }:NodeS)) else (bif decide (nc.deal.kind=(2:Int)) then (unextS nc.deal nc.id nc.cache p).bind fun y5_13=>some (y5_13.1,y5_13.2.1,({ nc with cache:=y5_13.2.2 }:NodeS)) else (bif decide (nc.deal.kind=(3:Int)) then (onextS nc.deal nc.id nc.cache p).bind fun y7_13=>some (y7_13.1,y7_13.2.1,({ nc with cache:=y7_13.2.2 }:NodeS)) else some ((⟨(0:Int),(0:Int),(0:Int),(0:Int),(0:Int),(0:Int),([]:List Int),(0:Int),(0:Int)⟩:DealS),false,nc))))
theorem nafterF {nc:NodeS} {p:PktS} (n:Nat) (p0a:Option Addr) (p0c:Nat) {y:DealS×Bool×NodeS} (H:nafterS nc p=some y):FnY Tryz.prog 143 [.pointer (some ⟨n,0,none⟩),.agg #[.int .i64 p.kind,.int .i64 p.src,.int .i64 p.dst,.int .i64 p.id,.int .i64 p.line,.int .i64 p.ptr,.int .i64 p.state,.bool p.flag,.slice p0a p.data.length p0c]] ⟨[],[(NodeA n nc),(ImmA p0a p0c p.data)]⟩ (Z:=Option Addr×Nat) (fun y (za0,zc0)=>.tuple #[.agg #[.int .i64 y.1.kind,.int .i64 y.1.line,.int .i64 y.1.id,.int .i64 y.1.step,.int .i64 y.1.state,.int .i64 y.1.head,.slice za0 y.1.data.length zc0,.int .i64 y.1.next,.int .i64 y.1.told],.bool y.2.1]) (fun y (za0,zc0)=>⟨[],[(ImmA za0 zc0 y.1.data),(NodeA n y.2.2)]⟩) y:=by
 unfold nafterS at H
 refine xfY Tryz.func143 fun W0 F=>?_
 refine xn [] fun b0_0=>?_
 refine xn [] fun b0_1=>?_
 refine xg [] [] [0] (gh_open (NodeO n nc)) fun ⟨b_cache1,b_proc2,a_c_init3,c_c_init4,b_home5,a_deal_data6,c_deal_data7⟩=>?_
 refine xs [0] H ?_ ?_
 · intro H
   refine xg [1,0,1,2,3,0,4,5,6,7,0,8,9,10,11,0,12,2,13] [] [4] (gh_dup a_deal_data6 c_deal_data7 nc.deal.data) fun _=>?_
   refine bindG H fun y3_13 hy3_13 H=>?_
   refine xc [] [] [0,1,4] (anextF a_deal_data6 c_deal_data7 b_cache1 p0a p0c (rI p0a p0c p.data) hy3_13) fun ⟨t3_13_a0,t3_13_c0⟩=>?_
   refine xg [14,15,16,1,17] [] [0] (gh_dup t3_13_a0 t3_13_c0 y3_13.1.data) fun _=>?_
   refine xg [] [0] [2,4,4,4,3] (gh_shut (NodeO n ({ nc with cache:=y3_13.2.2 }:NodeS)) (b_cache1,b_proc2,a_c_init3,c_c_init4,b_home5,a_deal_data6,c_deal_data7)) fun _=>?_
   exact xrY (someE H) [] [0] [] [1,0] (t3_13_a0,t3_13_c0)
 · intro H
   refine xs [0] H ?_ ?_
   · intro H
     refine xg [1,0,1,2,3,0,4,5,6,7,0,8,9,10,11,0,12,2,13] [] [4] (gh_dup a_deal_data6 c_deal_data7 nc.deal.data) fun _=>?_
     refine bindG H fun y5_13 hy5_13 H=>?_
     refine xc [] [] [0,1,4] (unextF a_deal_data6 c_deal_data7 b_cache1 p0a p0c (rI p0a p0c p.data) hy5_13) fun ⟨t5_13_a0,t5_13_c0⟩=>?_
     refine xg [14,15,16,1,17] [] [0] (gh_dup t5_13_a0 t5_13_c0 y5_13.1.data) fun _=>?_
     refine xg [] [0] [2,4,4,4,3] (gh_shut (NodeO n ({ nc with cache:=y5_13.2.2 }:NodeS)) (b_cache1,b_proc2,a_c_init3,c_c_init4,b_home5,a_deal_data6,c_deal_data7)) fun _=>?_
     exact xrY (someE H) [] [0] [] [1,0] (t5_13_a0,t5_13_c0)
   · intro H
     refine xs [0] H ?_ ?_
     · intro H
       refine xg [1,0,1,2,3,0,4,5,6,7,0,8,9,10,11,0,12,2,13] [] [4] (gh_dup a_deal_data6 c_deal_data7 nc.deal.data) fun _=>?_
       refine bindG H fun y7_13 hy7_13 H=>?_
       refine xc [] [] [0,1,4] (onextF a_deal_data6 c_deal_data7 b_cache1 p0a p0c (rI p0a p0c p.data) hy7_13) fun ⟨t7_13_a0,t7_13_c0⟩=>?_
       refine xg [14,15,16,1,17] [] [0] (gh_dup t7_13_a0 t7_13_c0 y7_13.1.data) fun _=>?_
       refine xg [] [0] [2,4,4,4,3] (gh_shut (NodeO n ({ nc with cache:=y7_13.2.2 }:NodeS)) (b_cache1,b_proc2,a_c_init3,c_c_init4,b_home5,a_deal_data6,c_deal_data7)) fun _=>?_
       exact xrY (someE H) [] [0] [] [1,0] (t7_13_a0,t7_13_c0)
     · intro H
       refine xg [0,1] [] [] (gh_nilI (α:=Int) none 0) fun _=>?_
       refine xg [] [0] [1,1,1,1,1] (gh_shut (NodeO n nc) (b_cache1,b_proc2,a_c_init3,c_c_init4,b_home5,a_deal_data6,c_deal_data7)) fun _=>?_
       exact xrY (someE H) [] [0] [] [1,0] (none,0)
def nendS (nc:NodeS) (tc:TraceS) (value:Int):Option (NodeS×TraceS) :=
 (prcurS nc.proc).bind fun y0_4=>(prendS nc.proc value).bind fun y1_5=>(trendS tc nc.id y0_4.2.1 value).bind fun y2_7=>some (({ nc with proc:=y1_5.2 }:NodeS),y2_7)
theorem nendF {nc:NodeS} {tc:TraceS} {value:Int} (n:Nat) (t:Nat) {y:NodeS×TraceS} (H:nendS nc tc value=some y):FnY Tryz.prog 145 [.pointer (some ⟨n,0,none⟩),.pointer (some ⟨t,0,none⟩),.int .i64 value] ⟨[],[(NodeA n nc),(TraceA t tc)]⟩ (Z:=Unit) (fun y _=>.tuple #[]) (fun y _=>⟨[],[(NodeA n y.1),(TraceA t y.2)]⟩) y:=by
 unfold nendS at H
 refine xfY Tryz.func145 fun W0 F=>?_
 refine xg [] [] [0] (gh_open (NodeO n nc)) fun ⟨b_cache1,b_proc2,a_c_init3,c_c_init4,b_home5,a_deal_data6,c_deal_data7⟩=>?_
 refine xg [0] [] [1] (gh_open (ProcO b_proc2 nc.proc)) fun ⟨a_ops8,c_ops9,a_values10,c_values11⟩=>?_
 refine bindG H fun y0_4 hy0_4 H=>?_
 refine xc [] [0] [0,0] (prcurF b_proc2 a_ops8 c_ops9 a_values10 c_values11 hy0_4) fun _=>?_
 refine xn [] fun b0_9=>?_
 refine xg [0,2] [1] [0,0] (gh_shut (ProcO b_proc2 nc.proc) (a_ops8,c_ops9,a_values10,c_values11)) fun _=>?_
 refine bindG H fun y1_5 hy1_5 H=>?_
 refine xc [] [] [0] (prendF b_proc2 hy1_5) fun _=>?_
 refine bindG H fun y2_7 hy2_7 H=>?_
 refine xc [1] [] [5] (trendF t hy2_7) fun _=>?_
 refine xg [] [1] [2,1,1,1,1] (gh_shut (NodeO n ({ nc with proc:=y1_5.2 }:NodeS)) (b_cache1,b_proc2,a_c_init3,c_c_init4,b_home5,a_deal_data6,c_deal_data7)) fun _=>?_
 exact xrY (someE H) [] [] [] [0,0] ()
def neffS_j0 (nc:NodeS) (y0_4:OpS×Int×Bool) (tc:TraceS) (y3_2:Int) (e0_b2_9_0:Int) (e0_b2_9_1:Int) (e0_b2_9_2:Int) (e0_b2_9_3:Int) (e0_b2_9_4:Bool) (e0_b2_9_5x:List Int):Option (NodeS×TraceS) :=
 (cputS nc.cache (⟨e0_b2_9_0,e0_b2_9_1,e0_b2_9_2,e0_b2_9_3,e0_b2_9_4,e0_b2_9_5x⟩:Ent)).bind fun y9_5=>(bif decide (y0_4.1.kind=(2:Int)) then (nendS ({ nc with cache:=y9_5.2 }:NodeS) tc (0:Int)).bind fun y12_3=>some (y12_3.1,y12_3.2) else (nendS ({ nc with cache:=y9_5.2 }:NodeS) tc y3_2).bind fun y12_3=>some (y12_3.1,y12_3.2))
def neffS (nc:NodeS) (tc:TraceS):Option (NodeS×TraceS) :=
 (prcurS nc.proc).bind fun y0_4=>(plineS nc.c y0_4.1.addr).bind fun y1_6=>(cfindS nc.cache y1_6.1).bind fun y2_5=>(ewordS y2_5.1 y1_6.2).bind fun y3_2=>(bif decide (y0_4.1.kind=(2:Int)) then (ewriteS y2_5.1 y1_6.2 y0_4.1.value).bind fun y6_3=>(neffS_j0 nc y0_4 tc y3_2) y6_3.2.fwd y6_3.2.back y6_3.2.line y6_3.2.used y6_3.2.dirty y6_3.2.data else (bif decide (y0_4.1.kind=(3:Int)) then (ewriteS y2_5.1 y1_6.2 (wr (y3_2+y0_4.1.value))).bind fun y8_5=>(neffS_j0 nc y0_4 tc y3_2) y8_5.2.fwd y8_5.2.back y8_5.2.line y8_5.2.used y8_5.2.dirty y8_5.2.data else (neffS_j0 nc y0_4 tc y3_2) y2_5.1.fwd y2_5.1.back y2_5.1.line y2_5.1.used y2_5.1.dirty y2_5.1.data))
theorem neffF {nc:NodeS} {tc:TraceS} (n:Nat) (t:Nat) {y:NodeS×TraceS} (H:neffS nc tc=some y):FnY Tryz.prog 146 [.pointer (some ⟨n,0,none⟩),.pointer (some ⟨t,0,none⟩)] ⟨[],[(NodeA n nc),(TraceA t tc)]⟩ (Z:=Unit) (fun y _=>.tuple #[]) (fun y _=>⟨[],[(NodeA n y.1),(TraceA t y.2)]⟩) y:=by
 unfold neffS at H
 refine xfY Tryz.func146 fun W0 F=>?_
 refine xg [] [] [0] (gh_open (NodeO n nc)) fun ⟨b_cache1,b_proc2,a_c_init3,c_c_init4,b_home5,a_deal_data6,c_deal_data7⟩=>?_
 refine xg [0] [] [1] (gh_open (ProcO b_proc2 nc.proc)) fun ⟨a_ops8,c_ops9,a_values10,c_values11⟩=>?_
 refine bindG H fun y0_4 hy0_4 H=>?_
 refine xc [] [0] [0,0] (prcurF b_proc2 a_ops8 c_ops9 a_values10 c_values11 hy0_4) fun _=>?_
 refine xn [] fun b0_9=>?_
 refine bindG H fun y1_6 hy1_6 H=>?_
 refine xc [0,0,1,2,3,2,4,5,0,6] [] [] (plineF a_c_init3 c_c_init4 hy1_6) fun _=>?_
 refine xg [7,8,9,10,11,2] [] [2] (gh_open (CacheO b_cache1 nc.cache)) fun ⟨a_l12,c_l13⟩=>?_
 refine bindG H fun y2_5 hy2_5 H=>?_
 refine xc [] [0] [0] (cfindF b_cache1 a_l12 c_l13 hy2_5) fun ⟨t2_5_a0,t2_5_c0⟩=>?_
 refine xn [] fun b2_9=>?_
 refine bindG H fun y3_2 hy3_2 H=>?_
 refine xc [0,0] [] [0] (ewordF t2_5_a0 t2_5_c0 (rA t2_5_a0 t2_5_c0 y2_5.1.data) hy3_2) fun _=>?_
 refine xj [100] (ι:=Int×Int×Int×Int×Bool×List Int×Option Addr×Nat) (fun (e0_b2_9_0,e0_b2_9_1,e0_b2_9_2,e0_b2_9_3,e0_b2_9_4,e0_b2_9_5x,e0_b2_9_5a,e0_b2_9_5c)=>⟨[(0,.pointer (some ⟨n,0,none⟩)),(1,.pointer (some ⟨t,0,none⟩)),(4,.pointer (some ⟨b0_9,0,none⟩)),(9,.pointer (some ⟨b2_9,0,none⟩)),(11,.int .i64 y3_2)],[⟨b2_9,#[.int .i64 e0_b2_9_0,.int .i64 e0_b2_9_1,.int .i64 e0_b2_9_2,.int .i64 e0_b2_9_3,.bool e0_b2_9_4,.slice e0_b2_9_5a e0_b2_9_5x.length e0_b2_9_5c],42⟩,⟨b_cache1,#[.slice a_l12 nc.cache.l.length c_l13,.int .i64 nc.cache.sets,.int .i64 nc.cache.ways,.int .i64 nc.cache.clock],117⟩,⟨b0_9,#[.int .i64 y0_4.1.kind,.int .i64 y0_4.1.addr,.int .i64 y0_4.1.value],29⟩,⟨b_proc2,#[.slice a_ops8 nc.proc.ops.length c_ops9,.slice a_values10 nc.proc.values.length c_values11,.bool nc.proc.begun],121⟩,⟨n,#[.pointer (some ⟨b_cache1,0,none⟩),.pointer (some ⟨b_proc2,0,none⟩),.int .i64 nc.c.nodes,.int .i64 nc.c.lines,.int .i64 nc.c.words,.int .i64 nc.c.sets,.int .i64 nc.c.ways,.int .i64 nc.c.out,.int .i64 nc.c.inn,.slice a_c_init3 nc.c.init.length c_c_init4,.int .i64 nc.id,.pointer (some ⟨b_home5,0,none⟩),.int .i64 nc.deal.kind,.int .i64 nc.deal.line,.int .i64 nc.deal.id,.int .i64 nc.deal.step,.int .i64 nc.deal.state,.int .i64 nc.deal.head,.slice a_deal_data6 nc.deal.data.length c_deal_data7,.int .i64 nc.deal.next,.int .i64 nc.deal.told,.int .i64 nc.next],55⟩],[(ImmA e0_b2_9_5a e0_b2_9_5c e0_b2_9_5x),(ArrA a_l12 c_l13 nc.cache.l),(ArrA a_ops8 c_ops9 nc.proc.ops),(ArrA a_values10 c_values11 nc.proc.values),(ImmA a_c_init3 c_c_init4 nc.c.init),(HomeA b_home5 nc.home),(ImmA a_deal_data6 c_deal_data7 nc.deal.data),(TraceA t tc)]⟩) (fun (e0_b2_9_0,e0_b2_9_1,e0_b2_9_2,e0_b2_9_3,e0_b2_9_4,e0_b2_9_5x,e0_b2_9_5a,e0_b2_9_5c)=>neffS_j0 nc y0_4 tc y3_2 e0_b2_9_0 e0_b2_9_1 e0_b2_9_2 e0_b2_9_3 e0_b2_9_4 e0_b2_9_5x=some y) ?_ ?_
 · rintro ⟨e0_b2_9_0,e0_b2_9_1,e0_b2_9_2,e0_b2_9_3,e0_b2_9_4,e0_b2_9_5x,e0_b2_9_5a,e0_b2_9_5c⟩ H
   replace H:neffS_j0 nc y0_4 tc y3_2 e0_b2_9_0 e0_b2_9_1 e0_b2_9_2 e0_b2_9_3 e0_b2_9_4 e0_b2_9_5x=some y:=H
   rw [neffS_j0] at H
   refine xg [0,1,2,3,4,4,0,5] [1] [1] (gh_shut (CacheO b_cache1 nc.cache) (a_l12,c_l13)) fun _=>?_
   refine bindG H fun y9_5 hy9_5 H=>?_
   refine xc [] [] [0,0] (cputF b_cache1 e0_b2_9_5a e0_b2_9_5c (rI e0_b2_9_5a e0_b2_9_5c e0_b2_9_5x) hy9_5) fun _=>?_
   refine xs [1] H ?_ ?_
   · intro H
     refine xg [1] [2] [2,2] (gh_shut (ProcO b_proc2 nc.proc) (a_ops8,c_ops9,a_values10,c_values11)) fun _=>?_
     refine xg [] [2] [1,0,1,1,1] (gh_shut (NodeO n ({ nc with cache:=y9_5.2 }:NodeS)) (b_cache1,b_proc2,a_c_init3,c_c_init4,b_home5,a_deal_data6,c_deal_data7)) fun _=>?_
     refine bindG H fun y12_3 hy12_3 H=>?_
     refine xc [] [] [0,1] (nendF n t hy12_3) fun _=>?_
     exact xrY (someE H) [] [] [] [0,0] ()
   · intro H
     refine xg [0] [2] [2,2] (gh_shut (ProcO b_proc2 nc.proc) (a_ops8,c_ops9,a_values10,c_values11)) fun _=>?_
     refine xg [] [2] [1,0,1,1,1] (gh_shut (NodeO n ({ nc with cache:=y9_5.2 }:NodeS)) (b_cache1,b_proc2,a_c_init3,c_c_init4,b_home5,a_deal_data6,c_deal_data7)) fun _=>?_
     refine bindG H fun y12_3 hy12_3 H=>?_
     refine xc [] [] [0,1] (nendF n t hy12_3) fun _=>?_
     exact xrY (someE H) [] [] [] [0,0] ()
 · intro N0 hN0
   refine xs [2] H ?_ ?_
   · intro H
     refine xg [1,2] [] [0] (gh_frz t2_5_a0 t2_5_c0 y2_5.1.data) fun _=>?_
     refine xg [] [] [0] (gh_dup t2_5_a0 t2_5_c0 y2_5.1.data) fun _=>?_
     refine bindG H fun y6_3 hy6_3 H=>?_
     refine xc [] [0] [0] (ewriteF b2_9 t2_5_a0 t2_5_c0 hy6_3) fun ⟨t6_3_a0,t6_3_c0⟩=>?_
     exact xe [] _ [0,0,0,0,0] [0,1,1,1,1,1,1,1] (hN0 (y6_3.2.fwd,y6_3.2.back,y6_3.2.line,y6_3.2.used,y6_3.2.dirty,y6_3.2.data,t6_3_a0,t6_3_c0) H)
   · intro H
     refine xs [0] H ?_ ?_
     · intro H
       refine xg [1,2,1] [] [0] (gh_frz t2_5_a0 t2_5_c0 y2_5.1.data) fun _=>?_
       refine xg [] [] [0] (gh_dup t2_5_a0 t2_5_c0 y2_5.1.data) fun _=>?_
       refine bindG H fun y8_5 hy8_5 H=>?_
       refine xc [] [0] [0] (ewriteF b2_9 t2_5_a0 t2_5_c0 hy8_5) fun ⟨t8_5_a0,t8_5_c0⟩=>?_
       exact xe [] _ [0,0,0,0,0] [0,1,1,1,1,1,1,1] (hN0 (y8_5.2.fwd,y8_5.2.back,y8_5.2.line,y8_5.2.used,y8_5.2.dirty,y8_5.2.data,t8_5_a0,t8_5_c0) H)
     · intro H
       refine xg [0] [] [0] (gh_frz t2_5_a0 t2_5_c0 y2_5.1.data) fun _=>?_
       exact xe [] _ [0,0,0,0,0] [0,0,0,0,0,0,0,0] (hN0 (y2_5.1.fwd,y2_5.1.back,y2_5.1.line,y2_5.1.used,y2_5.1.dirty,y2_5.1.data,t2_5_a0,t2_5_c0) H)
def naskS (nc:NodeS) (fc:FabS):Option (NodeS×FabS) :=
 (phomeS nc.c nc.deal.line).bind fun y0_18=>(daskS nc.deal nc.id y0_18).bind fun y0_19=>(fsendS fc y0_19).bind fun y0_20=>some (nc,y0_20.2)
theorem naskF {nc:NodeS} {fc:FabS} (n:Nat) (f:Nat) {y:NodeS×FabS} (H:naskS nc fc=some y):FnY Tryz.prog 147 [.pointer (some ⟨n,0,none⟩),.pointer (some ⟨f,0,none⟩)] ⟨[],[(NodeA n nc),(FabA f fc)]⟩ (Z:=Unit) (fun y _=>.tuple #[]) (fun y _=>⟨[],[(NodeA n y.1),(FabA f y.2)]⟩) y:=by
 unfold naskS at H
 refine xfY Tryz.func147 fun W0 F=>?_
 refine xg [0,1,2,3,4] [] [0] (gh_open (NodeO n nc)) fun ⟨b_cache1,b_proc2,a_c_init3,c_c_init4,b_home5,a_deal_data6,c_deal_data7⟩=>?_
 refine bindG H fun y0_18 hy0_18 H=>?_
 refine xc [0,5,6,7,8,0,9,10,11,12,0,13,14,15,16,17,0,18] [] [] (phomeF a_c_init3 c_c_init4 hy0_18) fun _=>?_
 refine bindG H fun y0_19 hy0_19 H=>?_
 refine xc [19] [] [4] (daskF a_deal_data6 c_deal_data7 (rI a_deal_data6 c_deal_data7 nc.deal.data) hy0_19) fun ⟨t0_19_a0,t0_19_c0⟩=>?_
 refine bindG H fun y0_20 hy0_20 H=>?_
 refine xc [20] [] [6,0] (fsendF f t0_19_a0 t0_19_c0 (rA t0_19_a0 t0_19_c0 y0_19.data) hy0_20) fun _=>?_
 refine xg [] [0] [3,3,3,3,2] (gh_shut (NodeO n nc) (b_cache1,b_proc2,a_c_init3,c_c_init4,b_home5,a_deal_data6,c_deal_data7)) fun _=>?_
 exact xrY (someE H) [] [] [] [0,0] ()
def nansS_j0 (y4_2:DealS×Bool×NodeS) (tc:TraceS) (y1_5:PktS×Bool×FabS) (e0_46:Bool):Option (Bool×NodeS×FabS×TraceS) :=
 (bif e0_46 then (nendS ({ y4_2.2.2 with deal:=y4_2.1 }:NodeS) tc (0:Int)).bind fun y10_2=>some (true,y10_2.1,y1_5.2.2,y10_2.2) else (bif decide (y4_2.1.step=(0:Int)) then some (true,({ y4_2.2.2 with deal:=y4_2.1 }:NodeS),y1_5.2.2,tc) else (bif decide (y4_2.1.step=(6:Int)) then (bif !(decide (y4_2.1.kind=(3:Int))) then (neffS ({ y4_2.2.2 with deal:=y4_2.1 }:NodeS) tc).bind fun y15_2=>(naskS y15_2.1 y1_5.2.2).bind fun y16_2=>some (true,y16_2.1,y16_2.2,y15_2.2) else (naskS ({ y4_2.2.2 with deal:=y4_2.1 }:NodeS) y1_5.2.2).bind fun y16_2=>some (true,y16_2.1,y16_2.2,tc)) else (naskS ({ y4_2.2.2 with deal:=y4_2.1 }:NodeS) y1_5.2.2).bind fun y16_2=>some (true,y16_2.1,y16_2.2,tc))))
def nansS (nc:NodeS) (fc:FabS) (tc:TraceS):Option (Bool×NodeS×FabS×TraceS) :=
 (frepS fc nc.id).bind fun y1_5=>(bif !y1_5.2.1 then some (false,nc,y1_5.2.2,tc) else (nafterS nc y1_5.1).bind fun y4_2=>(bif !y4_2.2.1 then some (true,y4_2.2.2,y1_5.2.2,tc) else (prcurS y4_2.2.2.proc).bind fun y8_4=>(bif decide (y4_2.1.step=(0:Int)) then (bif decide (y4_2.1.kind=(3:Int)) then (nansS_j0 y4_2 tc y1_5) (decide (y8_4.1.kind=(4:Int))) else (nansS_j0 y4_2 tc y1_5) false) else (nansS_j0 y4_2 tc y1_5) false)))
theorem nansF {nc:NodeS} {fc:FabS} {tc:TraceS} (n:Nat) (f:Nat) (t:Nat) {y:Bool×NodeS×FabS×TraceS} (H:nansS nc fc tc=some y):FnY Tryz.prog 110 [.pointer (some ⟨n,0,none⟩),.pointer (some ⟨f,0,none⟩),.pointer (some ⟨t,0,none⟩)] ⟨[],[(NodeA n nc),(FabA f fc),(TraceA t tc)]⟩ (Z:=Unit) (fun y _=>.bool y.1) (fun y _=>⟨[],[(NodeA n y.2.1),(FabA f y.2.2.1),(TraceA t y.2.2.2)]⟩) y:=by
 unfold nansS at H
 refine xfY Tryz.func110 fun W0 F=>?_
 refine xg [] [] [0] (gh_open (NodeO n nc)) fun ⟨b_cache1,b_proc2,a_c_init3,c_c_init4,b_home5,a_deal_data6,c_deal_data7⟩=>?_
 refine bindG H fun y1_5 hy1_5 H=>?_
 refine xc [0] [] [5] (frepF f hy1_5) fun ⟨t1_5_a0,t1_5_c0⟩=>?_
 refine xn [] fun b1_9=>?_
 refine xs [0] H ?_ ?_
 · intro H
   refine xg [1] [1] [2,2,2,2,2] (gh_shut (NodeO n nc) (b_cache1,b_proc2,a_c_init3,c_c_init4,b_home5,a_deal_data6,c_deal_data7)) fun _=>?_
   exact xrY (someE H) [] [] [] [0,1,1] ()
 · intro H
   refine xg [0,0] [1] [2,2,2,2,2] (gh_shut (NodeO n nc) (b_cache1,b_proc2,a_c_init3,c_c_init4,b_home5,a_deal_data6,c_deal_data7)) fun _=>?_
   refine xg [] [] [1] (gh_frz t1_5_a0 t1_5_c0 y1_5.1.data) fun _=>?_
   refine xg [] [] [0] (gh_dup t1_5_a0 t1_5_c0 y1_5.1.data) fun _=>?_
   refine bindG H fun y4_2 hy4_2 H=>?_
   refine xc [] [] [2,0] (nafterF n t1_5_a0 t1_5_c0 hy4_2) fun ⟨t4_2_a0,t4_2_c0⟩=>?_
   refine xn [] fun b4_6=>?_
   refine xs [0] H ?_ ?_
   · intro H
     exact xrY (someE H) [1] [] [] [1,2,2] ()
   · intro H
     refine xg [0,0] [] [1] (gh_open (NodeO n y4_2.2.2)) fun ⟨b_cache8,b_proc9,a_c_init10,c_c_init11,b_home12,a_deal_data13,c_deal_data14⟩=>?_
     refine xg [0,0] [] [1] (gh_open (ProcO b_proc9 y4_2.2.2.proc)) fun ⟨a_ops15,c_ops16,a_values17,c_values18⟩=>?_
     refine bindG H fun y8_4 hy8_4 H=>?_
     refine xc [] [0] [0,0] (prcurF b_proc9 a_ops15 c_ops16 a_values17 c_values18 hy8_4) fun _=>?_
     refine xn [] fun b8_9=>?_
     refine xj [0,101] (ι:=Bool) (fun e0_46=>⟨[(0,.pointer (some ⟨n,0,none⟩)),(1,.pointer (some ⟨f,0,none⟩)),(2,.pointer (some ⟨t,0,none⟩)),(9,.pointer (some ⟨b4_6,0,none⟩)),(46,.bool e0_46)],[⟨b_proc9,#[.slice a_ops15 y4_2.2.2.proc.ops.length c_ops16,.slice a_values17 y4_2.2.2.proc.values.length c_values18,.bool y4_2.2.2.proc.begun],121⟩,⟨n,#[.pointer (some ⟨b_cache8,0,none⟩),.pointer (some ⟨b_proc9,0,none⟩),.int .i64 y4_2.2.2.c.nodes,.int .i64 y4_2.2.2.c.lines,.int .i64 y4_2.2.2.c.words,.int .i64 y4_2.2.2.c.sets,.int .i64 y4_2.2.2.c.ways,.int .i64 y4_2.2.2.c.out,.int .i64 y4_2.2.2.c.inn,.slice a_c_init10 y4_2.2.2.c.init.length c_c_init11,.int .i64 y4_2.2.2.id,.pointer (some ⟨b_home12,0,none⟩),.int .i64 y4_2.1.kind,.int .i64 y4_2.1.line,.int .i64 y4_2.1.id,.int .i64 y4_2.1.step,.int .i64 y4_2.1.state,.int .i64 y4_2.1.head,.slice t4_2_a0 y4_2.1.data.length t4_2_c0,.int .i64 y4_2.1.next,.int .i64 y4_2.1.told,.int .i64 y4_2.2.2.next],55⟩,⟨b4_6,#[.int .i64 y4_2.1.kind,.int .i64 y4_2.1.line,.int .i64 y4_2.1.id,.int .i64 y4_2.1.step,.int .i64 y4_2.1.state,.int .i64 y4_2.1.head,.slice t4_2_a0 y4_2.1.data.length t4_2_c0,.int .i64 y4_2.1.next,.int .i64 y4_2.1.told],53⟩],[(ArrA a_ops15 c_ops16 y4_2.2.2.proc.ops),(ArrA a_values17 c_values18 y4_2.2.2.proc.values),(CacheA b_cache8 y4_2.2.2.cache),(ImmA a_c_init10 c_c_init11 y4_2.2.2.c.init),(HomeA b_home12 y4_2.2.2.home),(ImmA t4_2_a0 t4_2_c0 y4_2.1.data),(FabA f y1_5.2.2),(TraceA t tc)]⟩) (fun e0_46=>nansS_j0 y4_2 tc y1_5 e0_46=some y) ?_ ?_
     · rintro e0_46 H
       replace H:nansS_j0 y4_2 tc y1_5 e0_46=some y:=H
       rw [nansS_j0] at H
       refine xs [] H ?_ ?_
       · intro H
         refine xg [1] [0] [0,0] (gh_shut (ProcO b_proc9 y4_2.2.2.proc) (a_ops15,c_ops16,a_values17,c_values18)) fun _=>?_
         refine xg [] [] [4] (gh_dup t4_2_a0 t4_2_c0 y4_2.1.data) fun _=>?_
         refine xg [] [0] [3,2,2,2,0] (gh_shut (NodeO n ({ y4_2.2.2 with deal:=y4_2.1 }:NodeS)) (b_cache8,b_proc9,a_c_init10,c_c_init11,b_home12,t4_2_a0,t4_2_c0)) fun _=>?_
         refine bindG H fun y10_2 hy10_2 H=>?_
         refine xc [] [] [0,2] (nendF n t hy10_2) fun _=>?_
         exact xrY (someE H) [] [] [] [0,2,0] ()
       · intro H
         refine xs [0,2] H ?_ ?_
         · intro H
           refine xg [1] [0] [0,0] (gh_shut (ProcO b_proc9 y4_2.2.2.proc) (a_ops15,c_ops16,a_values17,c_values18)) fun _=>?_
           refine xg [] [] [4] (gh_dup t4_2_a0 t4_2_c0 y4_2.1.data) fun _=>?_
           refine xg [] [0] [3,2,2,2,0] (gh_shut (NodeO n ({ y4_2.2.2 with deal:=y4_2.1 }:NodeS)) (b_cache8,b_proc9,a_c_init10,c_c_init11,b_home12,t4_2_a0,t4_2_c0)) fun _=>?_
           exact xrY (someE H) [] [] [] [0,1,1] ()
         · intro H
           refine xs [0,2] H ?_ ?_
           · intro H
             refine xs [1,1,2,1,1] H ?_ ?_
             · intro H
               refine xg [1] [0] [0,0] (gh_shut (ProcO b_proc9 y4_2.2.2.proc) (a_ops15,c_ops16,a_values17,c_values18)) fun _=>?_
               refine xg [] [] [4] (gh_dup t4_2_a0 t4_2_c0 y4_2.1.data) fun _=>?_
               refine xg [] [0] [3,2,2,2,0] (gh_shut (NodeO n ({ y4_2.2.2 with deal:=y4_2.1 }:NodeS)) (b_cache8,b_proc9,a_c_init10,c_c_init11,b_home12,t4_2_a0,t4_2_c0)) fun _=>?_
               refine bindG H fun y15_2 hy15_2 H=>?_
               refine xc [] [] [0,2] (neffF n t hy15_2) fun _=>?_
               refine bindG H fun y16_2 hy16_2 H=>?_
               refine xc [] [] [0,2] (naskF n f hy16_2) fun _=>?_
               exact xrY (someE H) [] [] [] [0,0,0] ()
             · intro H
               refine xg [0] [0] [0,0] (gh_shut (ProcO b_proc9 y4_2.2.2.proc) (a_ops15,c_ops16,a_values17,c_values18)) fun _=>?_
               refine xg [] [] [4] (gh_dup t4_2_a0 t4_2_c0 y4_2.1.data) fun _=>?_
               refine xg [] [0] [3,2,2,2,0] (gh_shut (NodeO n ({ y4_2.2.2 with deal:=y4_2.1 }:NodeS)) (b_cache8,b_proc9,a_c_init10,c_c_init11,b_home12,t4_2_a0,t4_2_c0)) fun _=>?_
               refine bindG H fun y16_2 hy16_2 H=>?_
               refine xc [] [] [0,1] (naskF n f hy16_2) fun _=>?_
               exact xrY (someE H) [] [] [] [0,0,1] ()
           · intro H
             refine xg [0,0,0,0,0] [0] [0,0] (gh_shut (ProcO b_proc9 y4_2.2.2.proc) (a_ops15,c_ops16,a_values17,c_values18)) fun _=>?_
             refine xg [] [] [4] (gh_dup t4_2_a0 t4_2_c0 y4_2.1.data) fun _=>?_
             refine xg [] [0] [3,2,2,2,0] (gh_shut (NodeO n ({ y4_2.2.2 with deal:=y4_2.1 }:NodeS)) (b_cache8,b_proc9,a_c_init10,c_c_init11,b_home12,t4_2_a0,t4_2_c0)) fun _=>?_
             refine bindG H fun y16_2 hy16_2 H=>?_
             refine xc [] [] [0,1] (naskF n f hy16_2) fun _=>?_
             exact xrY (someE H) [] [] [] [0,0,1] ()
     · intro N0 hN0
       refine xs [3] H ?_ ?_
       · intro H
         refine xs [1,1,3,1,1] H ?_ ?_
         · intro H
           exact xe [1,1,0,1,1] _ [1,1,1] [0,0,0,0,0,1,2,2] (hN0 (decide (y8_4.1.kind=(4:Int))) H)
         · intro H
           exact xe [0,0,0,0] _ [1,1,1] [0,0,0,0,0,1,2,2] (hN0 (false) H)
       · intro H
         exact xe [0,0,0,0,0,0,0,0] _ [1,1,1] [0,0,0,0,0,1,2,2] (hN0 (false) H)
def ngrS_j0 (nc:NodeS) (fc:FabS) (e0_22:Bool):Option (Bool×NodeS×FabS) :=
 (bif e0_22 then some (false,nc,fc) else (hgrantS nc.home).bind fun y3_5=>(fsendS fc y3_5.1).bind fun y4_2=>some (true,({ nc with home:=y3_5.2.2 }:NodeS),y4_2.2))
def ngrS (nc:NodeS) (fc:FabS):Option (Bool×NodeS×FabS) :=
 (hpendS nc.home).bind fun y1_5=>(bif !y1_5 then (ngrS_j0 nc fc) true else (froomS fc nc.id false).bind fun y1_13=>(ngrS_j0 nc fc) (decide (y1_13=(0:Int))))
theorem ngrF {nc:NodeS} {fc:FabS} (n:Nat) (f:Nat) {y:Bool×NodeS×FabS} (H:ngrS nc fc=some y):FnY Tryz.prog 111 [.pointer (some ⟨n,0,none⟩),.pointer (some ⟨f,0,none⟩)] ⟨[],[(NodeA n nc),(FabA f fc)]⟩ (Z:=Unit) (fun y _=>.bool y.1) (fun y _=>⟨[],[(NodeA n y.2.1),(FabA f y.2.2)]⟩) y:=by
 unfold ngrS at H
 refine xfY Tryz.func111 fun W0 F=>?_
 refine xj [102] (ι:=Bool) (fun e0_22=>⟨[(0,.pointer (some ⟨n,0,none⟩)),(1,.pointer (some ⟨f,0,none⟩)),(22,.bool e0_22)],[],[(NodeA n nc),(FabA f fc)]⟩) (fun e0_22=>ngrS_j0 nc fc e0_22=some y) ?_ ?_
 · rintro e0_22 H
   replace H:ngrS_j0 nc fc e0_22=some y:=H
   rw [ngrS_j0] at H
   refine xs [] H ?_ ?_
   · intro H
     exact xrY (someE H) [1] [] [] [0,0] ()
   · intro H
     refine xg [0] [] [0] (gh_open (NodeO n nc)) fun ⟨b_cache1,b_proc2,a_c_init3,c_c_init4,b_home5,a_deal_data6,c_deal_data7⟩=>?_
     refine bindG H fun y3_5 hy3_5 H=>?_
     refine xc [0] [] [3] (hgrantF b_home5 hy3_5) fun ⟨t3_5_a0,t3_5_c0⟩=>?_
     refine xn [] fun b3_9=>?_
     refine bindG H fun y4_2 hy4_2 H=>?_
     refine xc [0,0] [] [6,0] (fsendF f t3_5_a0 t3_5_c0 (rA t3_5_a0 t3_5_c0 y3_5.1.data) hy4_2) fun _=>?_
     refine xg [] [1] [3,3,3,2,2] (gh_shut (NodeO n ({ nc with home:=y3_5.2.2 }:NodeS)) (b_cache1,b_proc2,a_c_init3,c_c_init4,b_home5,a_deal_data6,c_deal_data7)) fun _=>?_
     exact xrY (someE H) [] [] [] [0,0] ()
 · intro N0 hN0
   refine xg [] [] [0] (gh_open (NodeO n nc)) fun ⟨b_cache8,b_proc9,a_c_init10,c_c_init11,b_home12,a_deal_data13,c_deal_data14⟩=>?_
   refine xg [0] [] [3] (gh_open (HomeO b_home12 nc.home)) fun ⟨b_dir15,b_turns16,a_c_init17,c_c_init18⟩=>?_
   refine bindG H fun y1_5 hy1_5 H=>?_
   refine xc [] [0] [0,0,0] (hpendF b_home12 b_dir15 b_turns16 a_c_init17 c_c_init18 hy1_5) fun _=>?_
   refine xs [] H ?_ ?_
   · intro H
     refine xg [0,0,0,0,0,0,0,1] [0] [0,0,0] (gh_shut (HomeO b_home12 nc.home) (b_dir15,b_turns16,a_c_init17,c_c_init18)) fun _=>?_
     refine xg [] [0] [1,1,1,0,0] (gh_shut (NodeO n nc) (b_cache8,b_proc9,a_c_init10,c_c_init11,b_home12,a_deal_data13,c_deal_data14)) fun _=>?_
     exact xe [] _ [] [0,0] (hN0 (true) H)
   · intro H
     refine xg [1,1,1,1,1,1,1] [] [7] (gh_open (FabO f fc)) fun ⟨a_cs19,c_cs20,r_cs21⟩=>?_
     refine bindG H fun y1_13 hy1_13 H=>?_
     refine xc [1] [0] [0,0] (froomF f a_cs19 c_cs20 r_cs21 hy1_13) fun _=>?_
     refine xg [1,0] [1] [2,2,2] (gh_shut (HomeO b_home12 nc.home) (b_dir15,b_turns16,a_c_init17,c_c_init18)) fun _=>?_
     refine xg [] [1] [3,3,3,0,2] (gh_shut (NodeO n nc) (b_cache8,b_proc9,a_c_init10,c_c_init11,b_home12,a_deal_data13,c_deal_data14)) fun _=>?_
     refine xg [] [0] [1,1] (gh_shut (FabO f fc) (a_cs19,c_cs20,r_cs21)) fun _=>?_
     exact xe [] _ [] [1,0] (hN0 (decide (y1_13=(0:Int))) H)
def nserS_j2 (e1_n:NodeS) (e2_5:Bool) (e2_b0_1_0:Int) (e2_b0_1_1:Int) (e2_b0_1_2:Int) (e2_b0_1_3:Int) (e2_b0_1_4:Int) (e2_b0_1_5:Int) (e2_b0_1_6:Int) (e2_b0_1_7:Bool) (e2_b0_1_8x:List Int):Option (PktS×Bool×NodeS) :=
 some ((⟨e2_b0_1_0,e2_b0_1_1,e2_b0_1_2,e2_b0_1_3,e2_b0_1_4,e2_b0_1_5,e2_b0_1_6,e2_b0_1_7,e2_b0_1_8x⟩:PktS),e2_5,e1_n)
def nserS_j1 (e1_n:NodeS) (y2_6:PktS×Bool×Int×HomeS):Option (PktS×Bool×NodeS) :=
 (bif y2_6.2.1 then (nserS_j2 e1_n) (decide (y2_6.2.2.1=(0:Int))) y2_6.1.kind y2_6.1.src y2_6.1.dst y2_6.1.id y2_6.1.line y2_6.1.ptr y2_6.1.state y2_6.1.flag y2_6.1.data else (nserS_j2 e1_n) false y2_6.1.kind y2_6.1.src y2_6.1.dst y2_6.1.id y2_6.1.line y2_6.1.ptr y2_6.1.state y2_6.1.flag y2_6.1.data)
def nserS_j3 (e3_n:NodeS) (y4_5:PktS×Int×CacheS):Option (PktS×Bool×NodeS) :=
 some (y4_5.1,decide (y4_5.2.1=(0:Int)),e3_n)
def nserS_j0 (nc:NodeS) (p:PktS) (e0_18:Bool):Option (PktS×Bool×NodeS) :=
 (bif e0_18 then (hhanS nc.home p).bind fun y2_6=>nserS_j1 ({ nc with home:=y2_6.2.2.2 }:NodeS) y2_6 else (shanS nc.cache p).bind fun y4_5=>nserS_j3 ({ nc with cache:=y4_5.2.2 }:NodeS) y4_5)
def nserS (nc:NodeS) (p:PktS):Option (PktS×Bool×NodeS) :=
 (bif decide (p.kind=(1:Int)) then (nserS_j0 nc p) true else (nserS_j0 nc p) (decide (p.kind=(2:Int))))
theorem nserF {nc:NodeS} {p:PktS} (n:Nat) (p0a:Option Addr) (p0c:Nat) {y:PktS×Bool×NodeS} (H:nserS nc p=some y):FnY Tryz.prog 153 [.pointer (some ⟨n,0,none⟩),.agg #[.int .i64 p.kind,.int .i64 p.src,.int .i64 p.dst,.int .i64 p.id,.int .i64 p.line,.int .i64 p.ptr,.int .i64 p.state,.bool p.flag,.slice p0a p.data.length p0c]] ⟨[],[(NodeA n nc),(ImmA p0a p0c p.data)]⟩ (Z:=Option Addr×Nat) (fun y (za0,zc0)=>.tuple #[.agg #[.int .i64 y.1.kind,.int .i64 y.1.src,.int .i64 y.1.dst,.int .i64 y.1.id,.int .i64 y.1.line,.int .i64 y.1.ptr,.int .i64 y.1.state,.bool y.1.flag,.slice za0 y.1.data.length zc0],.bool y.2.1]) (fun y (za0,zc0)=>⟨[],[(ImmA za0 zc0 y.1.data),(NodeA n y.2.2)]⟩) y:=by
 unfold nserS at H
 refine xfY Tryz.func153 fun W0 F=>?_
 refine xn [] fun b0_0=>?_
 refine xn [] fun b0_1=>?_
 refine xj [101] (ι:=Bool) (fun e0_18=>⟨[(0,.pointer (some ⟨n,0,none⟩)),(3,.pointer (some ⟨b0_0,0,none⟩)),(4,.pointer (some ⟨b0_1,0,none⟩)),(18,.bool e0_18)],[⟨b0_1,#[.int .i64 (0),.int .i64 (0),.int .i64 (0),.int .i64 (0),.int .i64 (0),.int .i64 (0),.int .i64 (0),.bool false,.slice none 0 0],176⟩,⟨b0_0,#[.int .i64 p.kind,.int .i64 p.src,.int .i64 p.dst,.int .i64 p.id,.int .i64 p.line,.int .i64 p.ptr,.int .i64 p.state,.bool p.flag,.slice p0a p.data.length p0c],176⟩],[(NodeA n nc),(ImmA p0a p0c p.data)]⟩) (fun e0_18=>nserS_j0 nc p e0_18=some y) ?_ ?_
 · rintro e0_18 H
   replace H:nserS_j0 nc p e0_18=some y:=H
   rw [nserS_j0] at H
   refine xs [] H ?_ ?_
   · intro H
     refine xj [1,100] (ι:=NodeS×(PktS×Bool×Int×HomeS)×Nat×Option Addr×Nat) (fun (e1_n,y2_6,b2_11,t2_6_a0,t2_6_c0)=>⟨[(4,.pointer (some ⟨b0_1,0,none⟩)),(6,.pointer (some ⟨b2_11,0,none⟩)),(7,.bool y2_6.2.1),(8,.int .i64 y2_6.2.2.1)],[⟨b2_11,#[.int .i64 y2_6.1.kind,.int .i64 y2_6.1.src,.int .i64 y2_6.1.dst,.int .i64 y2_6.1.id,.int .i64 y2_6.1.line,.int .i64 y2_6.1.ptr,.int .i64 y2_6.1.state,.bool y2_6.1.flag,.slice t2_6_a0 y2_6.1.data.length t2_6_c0],176⟩,⟨b0_1,#[.int .i64 (0),.int .i64 (0),.int .i64 (0),.int .i64 (0),.int .i64 (0),.int .i64 (0),.int .i64 (0),.bool false,.slice none 0 0],176⟩],[(NodeA n e1_n),(ArrA t2_6_a0 t2_6_c0 y2_6.1.data)]⟩) (fun (e1_n,y2_6,b2_11,t2_6_a0,t2_6_c0)=>nserS_j1 e1_n y2_6=some y) ?_ ?_
     · rintro ⟨e1_n,y2_6,b2_11,t2_6_a0,t2_6_c0⟩ H
       replace H:nserS_j1 e1_n y2_6=some y:=H
       rw [nserS_j1] at H
       refine xj [100] (ι:=Bool×Int×Int×Int×Int×Int×Int×Int×Bool×List Int×Option Addr×Nat) (fun (e2_5,e2_b0_1_0,e2_b0_1_1,e2_b0_1_2,e2_b0_1_3,e2_b0_1_4,e2_b0_1_5,e2_b0_1_6,e2_b0_1_7,e2_b0_1_8x,e2_b0_1_8a,e2_b0_1_8c)=>⟨[(4,.pointer (some ⟨b0_1,0,none⟩)),(5,.bool e2_5)],[⟨b0_1,#[.int .i64 e2_b0_1_0,.int .i64 e2_b0_1_1,.int .i64 e2_b0_1_2,.int .i64 e2_b0_1_3,.int .i64 e2_b0_1_4,.int .i64 e2_b0_1_5,.int .i64 e2_b0_1_6,.bool e2_b0_1_7,.slice e2_b0_1_8a e2_b0_1_8x.length e2_b0_1_8c],176⟩],[(ArrA e2_b0_1_8a e2_b0_1_8c e2_b0_1_8x),(NodeA n e1_n)]⟩) (fun (e2_5,e2_b0_1_0,e2_b0_1_1,e2_b0_1_2,e2_b0_1_3,e2_b0_1_4,e2_b0_1_5,e2_b0_1_6,e2_b0_1_7,e2_b0_1_8x,e2_b0_1_8a,e2_b0_1_8c)=>nserS_j2 e1_n e2_5 e2_b0_1_0 e2_b0_1_1 e2_b0_1_2 e2_b0_1_3 e2_b0_1_4 e2_b0_1_5 e2_b0_1_6 e2_b0_1_7 e2_b0_1_8x=some y) ?_ ?_
       · rintro ⟨e2_5,e2_b0_1_0,e2_b0_1_1,e2_b0_1_2,e2_b0_1_3,e2_b0_1_4,e2_b0_1_5,e2_b0_1_6,e2_b0_1_7,e2_b0_1_8x,e2_b0_1_8a,e2_b0_1_8c⟩ H
         replace H:nserS_j2 e1_n e2_5 e2_b0_1_0 e2_b0_1_1 e2_b0_1_2 e2_b0_1_3 e2_b0_1_4 e2_b0_1_5 e2_b0_1_6 e2_b0_1_7 e2_b0_1_8x=some y:=H
         rw [nserS_j2] at H
         refine xg [] [] [0] (gh_frz e2_b0_1_8a e2_b0_1_8c e2_b0_1_8x) fun _=>?_
         refine xg [] [] [0] (gh_dup e2_b0_1_8a e2_b0_1_8c e2_b0_1_8x) fun _=>?_
         exact xrY (someE H) [] [0] [] [0,1] (e2_b0_1_8a,e2_b0_1_8c)
       · intro N2 hN2
         refine xs [0] H ?_ ?_
         · intro H
           exact xe [1,1,1,1] _ [1] [1,0] (hN2 (decide (y2_6.2.2.1=(0:Int)),y2_6.1.kind,y2_6.1.src,y2_6.1.dst,y2_6.1.id,y2_6.1.line,y2_6.1.ptr,y2_6.1.state,y2_6.1.flag,y2_6.1.data,t2_6_a0,t2_6_c0) H)
         · intro H
           exact xe [0,0,0,1] _ [1] [1,0] (hN2 (false,y2_6.1.kind,y2_6.1.src,y2_6.1.dst,y2_6.1.id,y2_6.1.line,y2_6.1.ptr,y2_6.1.state,y2_6.1.flag,y2_6.1.data,t2_6_a0,t2_6_c0) H)
     · intro N1 hN1
       refine xg [0,1,2,3,4] [] [0] (gh_open (NodeO n nc)) fun ⟨b_cache1,b_proc2,a_c_init3,c_c_init4,b_home5,a_deal_data6,c_deal_data7⟩=>?_
       refine bindG H fun y2_6 hy2_6 H=>?_
       refine xtn [0,5,2] [6,11] ⟨?_,?_,trivial⟩
       · refine xg [] [] [5] (gh_dup p0a p0c p.data) fun _=>?_
         refine xc [] [] [5,0] (hhanF b_home5 p0a p0c hy2_6) fun ⟨t2_6_a0,t2_6_c0⟩=>?_
         refine xn [7,8,9,10,11] fun b2_11=>?_
         refine xg [12,0,13,14] [1] [3,3,3,1,2] (gh_shut (NodeO n ({ nc with home:=y2_6.2.2.2 }:NodeS)) (b_cache1,b_proc2,a_c_init3,c_c_init4,b_home5,a_deal_data6,c_deal_data7)) fun _=>?_
         exact xe [] _ [0,0] [0,0] (hN1 (({ nc with home:=y2_6.2.2.2 }:NodeS),y2_6,b2_11,t2_6_a0,t2_6_c0) H)
       · refine xn [] fun b2_11=>?_
         refine xg [6] [] [5] (gh_dup p0a p0c p.data) fun _=>?_
         refine xc [] [] [5,0] (hhanF b_home5 p0a p0c hy2_6) fun ⟨t2_6_a0,t2_6_c0⟩=>?_
         refine xg [7,8,9,10,12,0,13,14] [1] [3,3,3,1,2] (gh_shut (NodeO n ({ nc with home:=y2_6.2.2.2 }:NodeS)) (b_cache1,b_proc2,a_c_init3,c_c_init4,b_home5,a_deal_data6,c_deal_data7)) fun _=>?_
         exact xe [] _ [0,0] [0,0] (hN1 (({ nc with home:=y2_6.2.2.2 }:NodeS),y2_6,b2_11,t2_6_a0,t2_6_c0) H)
   · intro H
     refine xj [0,100] (ι:=NodeS×(PktS×Int×CacheS)×Nat×Option Addr×Nat) (fun (e3_n,y4_5,b4_9,t4_5_a0,t4_5_c0)=>⟨[(4,.pointer (some ⟨b0_1,0,none⟩)),(9,.pointer (some ⟨b4_9,0,none⟩)),(10,.int .i64 y4_5.2.1)],[⟨b4_9,#[.int .i64 y4_5.1.kind,.int .i64 y4_5.1.src,.int .i64 y4_5.1.dst,.int .i64 y4_5.1.id,.int .i64 y4_5.1.line,.int .i64 y4_5.1.ptr,.int .i64 y4_5.1.state,.bool y4_5.1.flag,.slice t4_5_a0 y4_5.1.data.length t4_5_c0],176⟩,⟨b0_1,#[.int .i64 (0),.int .i64 (0),.int .i64 (0),.int .i64 (0),.int .i64 (0),.int .i64 (0),.int .i64 (0),.bool false,.slice none 0 0],176⟩],[(NodeA n e3_n),(ImmA t4_5_a0 t4_5_c0 y4_5.1.data)]⟩) (fun (e3_n,y4_5,b4_9,t4_5_a0,t4_5_c0)=>nserS_j3 e3_n y4_5=some y) ?_ ?_
     · rintro ⟨e3_n,y4_5,b4_9,t4_5_a0,t4_5_c0⟩ H
       replace H:nserS_j3 e3_n y4_5=some y:=H
       rw [nserS_j3] at H
       refine xg [0,1] [] [1] (gh_dup t4_5_a0 t4_5_c0 y4_5.1.data) fun _=>?_
       exact xrY (someE H) [] [1] [] [0,1] (t4_5_a0,t4_5_c0)
     · intro N3 hN3
       refine xg [0,1,2,3] [] [0] (gh_open (NodeO n nc)) fun ⟨b_cache8,b_proc9,a_c_init10,c_c_init11,b_home12,a_deal_data13,c_deal_data14⟩=>?_
       refine bindG H fun y4_5 hy4_5 H=>?_
       refine xtn [0,4,2] [5,9] ⟨?_,?_,trivial⟩
       · refine xg [] [] [5] (gh_dup p0a p0c p.data) fun _=>?_
         refine xc [] [] [2,0] (shanF b_cache8 p0a p0c hy4_5) fun ⟨t4_5_a0,t4_5_c0⟩=>?_
         refine xn [6,7,8,9] fun b4_9=>?_
         refine xg [10,0,11] [1] [1,2,2,2,2] (gh_shut (NodeO n ({ nc with cache:=y4_5.2.2 }:NodeS)) (b_cache8,b_proc9,a_c_init10,c_c_init11,b_home12,a_deal_data13,c_deal_data14)) fun _=>?_
         exact xe [] _ [0,0] [0,0] (hN3 (({ nc with cache:=y4_5.2.2 }:NodeS),y4_5,b4_9,t4_5_a0,t4_5_c0) H)
       · refine xn [] fun b4_9=>?_
         refine xg [5] [] [5] (gh_dup p0a p0c p.data) fun _=>?_
         refine xc [] [] [2,0] (shanF b_cache8 p0a p0c hy4_5) fun ⟨t4_5_a0,t4_5_c0⟩=>?_
         refine xg [6,7,8,10,0,11] [1] [1,2,2,2,2] (gh_shut (NodeO n ({ nc with cache:=y4_5.2.2 }:NodeS)) (b_cache8,b_proc9,a_c_init10,c_c_init11,b_home12,a_deal_data13,c_deal_data14)) fun _=>?_
         exact xe [] _ [0,0] [0,0] (hN3 (({ nc with cache:=y4_5.2.2 }:NodeS),y4_5,b4_9,t4_5_a0,t4_5_c0) H)
 · intro N0 hN0
   refine xs [1] H ?_ ?_
   · intro H
     exact xe [0,0,0,1] _ [0,0] [0,0] (hN0 (true) H)
   · intro H
     exact xe [1,1,1,1,0] _ [0,0] [0,0] (hN0 (decide (p.kind=(2:Int))) H)
def nreqS (nc:NodeS) (fc:FabS):Option (Bool×NodeS×FabS) :=
 (froomS fc nc.id false).bind fun y1_5=>(bif decide (y1_5=(0:Int)) then some (false,nc,fc) else (freqS fc nc.id).bind fun y3_5=>(bif !y3_5.2.1 then some (false,nc,y3_5.2.2) else (nserS nc y3_5.1).bind fun y6_2=>(bif y6_2.2.1 then (fsendS y3_5.2.2 y6_2.1).bind fun y8_2=>some (true,y6_2.2.2,y8_2.2) else some (true,y6_2.2.2,y3_5.2.2))))
theorem nreqF {nc:NodeS} {fc:FabS} (n:Nat) (f:Nat) {y:Bool×NodeS×FabS} (H:nreqS nc fc=some y):FnY Tryz.prog 112 [.pointer (some ⟨n,0,none⟩),.pointer (some ⟨f,0,none⟩)] ⟨[],[(NodeA n nc),(FabA f fc)]⟩ (Z:=Unit) (fun y _=>.bool y.1) (fun y _=>⟨[],[(NodeA n y.2.1),(FabA f y.2.2)]⟩) y:=by
 unfold nreqS at H
 refine xfY Tryz.func112 fun W0 F=>?_
 refine xg [] [] [0] (gh_open (NodeO n nc)) fun ⟨b_cache1,b_proc2,a_c_init3,c_c_init4,b_home5,a_deal_data6,c_deal_data7⟩=>?_
 refine xg [0] [] [5] (gh_open (FabO f fc)) fun ⟨a_cs8,c_cs9,r_cs10⟩=>?_
 refine bindG H fun y1_5 hy1_5 H=>?_
 refine xc [] [0] [0,0] (froomF f a_cs8 c_cs9 r_cs10 hy1_5) fun _=>?_
 refine xs [] H ?_ ?_
 · intro H
   refine xg [1] [1] [2,2,2,2,2] (gh_shut (NodeO n nc) (b_cache1,b_proc2,a_c_init3,c_c_init4,b_home5,a_deal_data6,c_deal_data7)) fun _=>?_
   refine xg [] [0] [1,1] (gh_shut (FabO f fc) (a_cs8,c_cs9,r_cs10)) fun _=>?_
   exact xrY (someE H) [] [] [] [1,0] ()
 · intro H
   refine xg [0,1] [0] [0,0] (gh_shut (FabO f fc) (a_cs8,c_cs9,r_cs10)) fun _=>?_
   refine bindG H fun y3_5 hy3_5 H=>?_
   refine xc [] [] [0] (freqF f hy3_5) fun ⟨t3_5_a0,t3_5_c0⟩=>?_
   refine xn [] fun b3_9=>?_
   refine xs [0] H ?_ ?_
   · intro H
     refine xg [1] [1] [2,2,2,2,2] (gh_shut (NodeO n nc) (b_cache1,b_proc2,a_c_init3,c_c_init4,b_home5,a_deal_data6,c_deal_data7)) fun _=>?_
     exact xrY (someE H) [] [] [] [0,1] ()
   · intro H
     refine xg [0,0] [1] [2,2,2,2,2] (gh_shut (NodeO n nc) (b_cache1,b_proc2,a_c_init3,c_c_init4,b_home5,a_deal_data6,c_deal_data7)) fun _=>?_
     refine xg [] [] [1] (gh_frz t3_5_a0 t3_5_c0 y3_5.1.data) fun _=>?_
     refine xg [] [] [0] (gh_dup t3_5_a0 t3_5_c0 y3_5.1.data) fun _=>?_
     refine bindG H fun y6_2 hy6_2 H=>?_
     refine xc [] [] [2,0] (nserF n t3_5_a0 t3_5_c0 hy6_2) fun ⟨t6_2_a0,t6_2_c0⟩=>?_
     refine xn [] fun b6_6=>?_
     refine xs [0] H ?_ ?_
     · intro H
       refine bindG H fun y8_2 hy8_2 H=>?_
       refine xc [1,0] [] [3,0] (fsendF f t6_2_a0 t6_2_c0 (rI t6_2_a0 t6_2_c0 y6_2.1.data) hy8_2) fun _=>?_
       exact xrY (someE H) [] [] [] [2,0] ()
     · intro H
       exact xrY (someE H) [0] [] [] [1,2] ()
def nbegS (nc:NodeS) (fc:FabS) (kind:Int) (line:Int):Option (NodeS×FabS) :=
 (dbeginS kind line nc.next).bind fun y0_7=>letP ((wr (nc.next+(1:Int))).tmod (4096:Int)) fun u1_6=>(naskS ({ nc with deal:=y0_7,next:=u1_6 }:NodeS) fc).bind fun y2_2=>some (y2_2.1,y2_2.2)
theorem nbegF {nc:NodeS} {fc:FabS} {kind:Int} {line:Int} (n:Nat) (f:Nat) {y:NodeS×FabS} (H:nbegS nc fc kind line=some y):FnY Tryz.prog 156 [.pointer (some ⟨n,0,none⟩),.pointer (some ⟨f,0,none⟩),.int .i64 kind,.int .i64 line] ⟨[],[(NodeA n nc),(FabA f fc)]⟩ (Z:=Unit) (fun y _=>.tuple #[]) (fun y _=>⟨[],[(NodeA n y.1),(FabA f y.2)]⟩) y:=by
 unfold nbegS at H
 refine xfY Tryz.func156 fun W0 F=>?_
 refine xg [] [] [0] (gh_open (NodeO n nc)) fun ⟨b_cache1,b_proc2,a_c_init3,c_c_init4,b_home5,a_deal_data6,c_deal_data7⟩=>?_
 refine bindG H fun y0_7 hy0_7 H=>?_
 refine xc [0] [] [] (dbeginF hy0_7) fun ⟨t0_7_a0,t0_7_c0⟩=>?_
 refine letG H fun u1_6 hu1_6 H=>?_
 refine xw [0,0,1,301] 24 (congrArg (Value.int .i64) hu1_6) ?_
 refine xg [0] [] [0] (gh_frz t0_7_a0 t0_7_c0 y0_7.data) fun _=>?_
 refine xg [] [0] [1,1,1,1,0] (gh_shut (NodeO n ({ nc with deal:=y0_7,next:=u1_6 }:NodeS)) (b_cache1,b_proc2,a_c_init3,c_c_init4,b_home5,t0_7_a0,t0_7_c0)) fun _=>?_
 refine bindG H fun y2_2 hy2_2 H=>?_
 refine xc [] [] [0,1] (naskF n f hy2_2) fun _=>?_
 exact xrY (someE H) [] [] [] [0,0] ()
def nworkS_j3 (nc:NodeS) (y7_6:Int×Int) (e1_b_proc2:ProcS) (e1_t:TraceS) (fc:FabS) (y1_4:OpS×Int×Bool) (e3_95:Bool):Option (Bool×NodeS×FabS×TraceS) :=
 (bif e3_95 then (ctouchS nc.cache y7_6.1).bind fun y15_5=>(neffS ({ nc with cache:=y15_5.2,proc:=e1_b_proc2 }:NodeS) e1_t).bind fun y16_2=>some (true,y16_2.1,fc,y16_2.2) else (cfullS nc.cache y7_6.1).bind fun y17_5=>(bif y17_5 then (cvicS nc.cache y7_6.1).bind fun y18_5=>(nbegS ({ nc with proc:=e1_b_proc2 }:NodeS) fc (3:Int) y18_5.1).bind fun y19_3=>some (true,y19_3.1,y19_3.2,e1_t) else (bif decide (y1_4.1.kind=(1:Int)) then (nbegS ({ nc with proc:=e1_b_proc2 }:NodeS) fc (1:Int) y7_6.1).bind fun y21_3=>some (true,y21_3.1,y21_3.2,e1_t) else (nbegS ({ nc with proc:=e1_b_proc2 }:NodeS) fc (2:Int) y7_6.1).bind fun y9_3=>some (true,y9_3.1,y9_3.2,e1_t))))
def nworkS_j2 (nc:NodeS) (e1_b_proc2:ProcS) (e1_t:TraceS) (fc:FabS) (y1_4:OpS×Int×Bool) (y7_6:Int×Int) (y8_5:Ent×Bool) (e2_76:Bool):Option (Bool×NodeS×FabS×TraceS) :=
 (bif e2_76 then (nendS ({ nc with proc:=e1_b_proc2 }:NodeS) e1_t (0:Int)).bind fun y11_2=>some (true,y11_2.1,fc,y11_2.2) else (bif decide (y1_4.1.kind=(4:Int)) then (nbegS ({ nc with proc:=e1_b_proc2 }:NodeS) fc (3:Int) y7_6.1).bind fun y13_3=>some (true,y13_3.1,y13_3.2,e1_t) else (bif y8_5.2 then (bif decide (y1_4.1.kind=(1:Int)) then (nworkS_j3 nc y7_6 e1_b_proc2 e1_t fc y1_4) true else (nworkS_j3 nc y7_6 e1_b_proc2 e1_t fc y1_4) y8_5.1.dirty) else (nworkS_j3 nc y7_6 e1_b_proc2 e1_t fc y1_4) false)))
def nworkS_j1 (nc:NodeS) (y1_4:OpS×Int×Bool) (fc:FabS) (e1_t:TraceS) (e1_b_proc2:ProcS):Option (Bool×NodeS×FabS×TraceS) :=
 (plineS nc.c y1_4.1.addr).bind fun y7_6=>(cfindS nc.cache y7_6.1).bind fun y8_5=>(bif decide (y1_4.1.kind=(4:Int)) then (nworkS_j2 nc e1_b_proc2 e1_t fc y1_4 y7_6 y8_5) !y8_5.2 else (nworkS_j2 nc e1_b_proc2 e1_t fc y1_4 y7_6 y8_5) false)
def nworkS_j0 (nc:NodeS) (fc:FabS) (tc:TraceS) (y1_4:OpS×Int×Bool) (e0_34:Bool):Option (Bool×NodeS×FabS×TraceS) :=
 (bif e0_34 then some (false,nc,fc,tc) else (prbegunS nc.proc).bind fun y4_4=>(bif !y4_4 then (prbeginS nc.proc).bind fun y5_4=>(trbeginS tc nc.id y1_4.2.1).bind fun y6_6=>(nworkS_j1 nc y1_4 fc) y6_6 y5_4.2 else (nworkS_j1 nc y1_4 fc) tc nc.proc))
def nworkS (nc:NodeS) (fc:FabS) (tc:TraceS):Option (Bool×NodeS×FabS×TraceS) :=
 (prcurS nc.proc).bind fun y1_4=>(bif !y1_4.2.2 then (nworkS_j0 nc fc tc y1_4) true else (nworkS_j0 nc fc tc y1_4) (!(decide (nc.deal.step=(0:Int)))))
theorem nworkF {nc:NodeS} {fc:FabS} {tc:TraceS} (n:Nat) (f:Nat) (t:Nat) {y:Bool×NodeS×FabS×TraceS} (H:nworkS nc fc tc=some y):FnY Tryz.prog 113 [.pointer (some ⟨n,0,none⟩),.pointer (some ⟨f,0,none⟩),.pointer (some ⟨t,0,none⟩)] ⟨[],[(NodeA n nc),(FabA f fc),(TraceA t tc)]⟩ (Z:=Unit) (fun y _=>.bool y.1) (fun y _=>⟨[],[(NodeA n y.2.1),(FabA f y.2.2.1),(TraceA t y.2.2.2)]⟩) y:=by
 unfold nworkS at H
 refine xfY Tryz.func113 fun W0 F=>?_
 refine xg [] [] [0] (gh_open (NodeO n nc)) fun ⟨b_cache1,b_proc2,a_c_init3,c_c_init4,b_home5,a_deal_data6,c_deal_data7⟩=>?_
 refine xg [0] [] [1] (gh_open (ProcO b_proc2 nc.proc)) fun ⟨a_ops8,c_ops9,a_values10,c_values11⟩=>?_
 refine bindG H fun y1_4 hy1_4 H=>?_
 refine xc [] [0] [0,0] (prcurF b_proc2 a_ops8 c_ops9 a_values10 c_values11 hy1_4) fun _=>?_
 refine xn [] fun b1_9=>?_
 refine xj [0,101] (ι:=Bool) (fun e0_34=>⟨[(0,.pointer (some ⟨n,0,none⟩)),(1,.pointer (some ⟨f,0,none⟩)),(2,.pointer (some ⟨t,0,none⟩)),(7,.pointer (some ⟨b1_9,0,none⟩)),(8,.int .i64 y1_4.2.1),(34,.bool e0_34)],[⟨b1_9,#[.int .i64 y1_4.1.kind,.int .i64 y1_4.1.addr,.int .i64 y1_4.1.value],29⟩,⟨b_proc2,#[.slice a_ops8 nc.proc.ops.length c_ops9,.slice a_values10 nc.proc.values.length c_values11,.bool nc.proc.begun],121⟩,⟨n,#[.pointer (some ⟨b_cache1,0,none⟩),.pointer (some ⟨b_proc2,0,none⟩),.int .i64 nc.c.nodes,.int .i64 nc.c.lines,.int .i64 nc.c.words,.int .i64 nc.c.sets,.int .i64 nc.c.ways,.int .i64 nc.c.out,.int .i64 nc.c.inn,.slice a_c_init3 nc.c.init.length c_c_init4,.int .i64 nc.id,.pointer (some ⟨b_home5,0,none⟩),.int .i64 nc.deal.kind,.int .i64 nc.deal.line,.int .i64 nc.deal.id,.int .i64 nc.deal.step,.int .i64 nc.deal.state,.int .i64 nc.deal.head,.slice a_deal_data6 nc.deal.data.length c_deal_data7,.int .i64 nc.deal.next,.int .i64 nc.deal.told,.int .i64 nc.next],55⟩],[(ArrA a_ops8 c_ops9 nc.proc.ops),(ArrA a_values10 c_values11 nc.proc.values),(CacheA b_cache1 nc.cache),(ImmA a_c_init3 c_c_init4 nc.c.init),(HomeA b_home5 nc.home),(ImmA a_deal_data6 c_deal_data7 nc.deal.data),(FabA f fc),(TraceA t tc)]⟩) (fun e0_34=>nworkS_j0 nc fc tc y1_4 e0_34=some y) ?_ ?_
 · rintro e0_34 H
   replace H:nworkS_j0 nc fc tc y1_4 e0_34=some y:=H
   rw [nworkS_j0] at H
   refine xs [] H ?_ ?_
   · intro H
     refine xg [1] [1] [0,0] (gh_shut (ProcO b_proc2 nc.proc) (a_ops8,c_ops9,a_values10,c_values11)) fun _=>?_
     refine xg [] [1] [1,0,0,0,0] (gh_shut (NodeO n nc) (b_cache1,b_proc2,a_c_init3,c_c_init4,b_home5,a_deal_data6,c_deal_data7)) fun _=>?_
     exact xrY (someE H) [] [] [] [0,0,0] ()
   · intro H
     refine xj [0,100] (ι:=TraceS×ProcS) (fun (e1_t,e1_b_proc2)=>⟨[(0,.pointer (some ⟨n,0,none⟩)),(1,.pointer (some ⟨f,0,none⟩)),(2,.pointer (some ⟨t,0,none⟩)),(7,.pointer (some ⟨b1_9,0,none⟩))],[⟨b1_9,#[.int .i64 y1_4.1.kind,.int .i64 y1_4.1.addr,.int .i64 y1_4.1.value],29⟩,⟨n,#[.pointer (some ⟨b_cache1,0,none⟩),.pointer (some ⟨b_proc2,0,none⟩),.int .i64 nc.c.nodes,.int .i64 nc.c.lines,.int .i64 nc.c.words,.int .i64 nc.c.sets,.int .i64 nc.c.ways,.int .i64 nc.c.out,.int .i64 nc.c.inn,.slice a_c_init3 nc.c.init.length c_c_init4,.int .i64 nc.id,.pointer (some ⟨b_home5,0,none⟩),.int .i64 nc.deal.kind,.int .i64 nc.deal.line,.int .i64 nc.deal.id,.int .i64 nc.deal.step,.int .i64 nc.deal.state,.int .i64 nc.deal.head,.slice a_deal_data6 nc.deal.data.length c_deal_data7,.int .i64 nc.deal.next,.int .i64 nc.deal.told,.int .i64 nc.next],55⟩],[(TraceA t e1_t),(ProcA b_proc2 e1_b_proc2),(CacheA b_cache1 nc.cache),(ImmA a_c_init3 c_c_init4 nc.c.init),(HomeA b_home5 nc.home),(ImmA a_deal_data6 c_deal_data7 nc.deal.data),(FabA f fc)]⟩) (fun (e1_t,e1_b_proc2)=>nworkS_j1 nc y1_4 fc e1_t e1_b_proc2=some y) ?_ ?_
     · rintro ⟨e1_t,e1_b_proc2⟩ H
       replace H:nworkS_j1 nc y1_4 fc e1_t e1_b_proc2=some y:=H
       rw [nworkS_j1] at H
       refine bindG H fun y7_6 hy7_6 H=>?_
       refine xc [0,1,2,3,1,4,5,0,6] [] [] (plineF a_c_init3 c_c_init4 hy7_6) fun _=>?_
       refine xg [7,8,9,10,11,1] [] [2] (gh_open (CacheO b_cache1 nc.cache)) fun ⟨a_l12,c_l13⟩=>?_
       refine bindG H fun y8_5 hy8_5 H=>?_
       refine xc [] [0] [0] (cfindF b_cache1 a_l12 c_l13 hy8_5) fun ⟨t8_5_a0,t8_5_c0⟩=>?_
       refine xn [] fun b8_9=>?_
       refine xj [0,101] (ι:=Bool) (fun e2_76=>⟨[(0,.pointer (some ⟨n,0,none⟩)),(1,.pointer (some ⟨f,0,none⟩)),(2,.pointer (some ⟨t,0,none⟩)),(7,.pointer (some ⟨b1_9,0,none⟩)),(10,.int .i64 y7_6.1),(12,.pointer (some ⟨b8_9,0,none⟩)),(13,.bool y8_5.2),(76,.bool e2_76)],[⟨b8_9,#[.int .i64 y8_5.1.fwd,.int .i64 y8_5.1.back,.int .i64 y8_5.1.line,.int .i64 y8_5.1.used,.bool y8_5.1.dirty,.slice t8_5_a0 y8_5.1.data.length t8_5_c0],42⟩,⟨b_cache1,#[.slice a_l12 nc.cache.l.length c_l13,.int .i64 nc.cache.sets,.int .i64 nc.cache.ways,.int .i64 nc.cache.clock],117⟩,⟨b1_9,#[.int .i64 y1_4.1.kind,.int .i64 y1_4.1.addr,.int .i64 y1_4.1.value],29⟩,⟨n,#[.pointer (some ⟨b_cache1,0,none⟩),.pointer (some ⟨b_proc2,0,none⟩),.int .i64 nc.c.nodes,.int .i64 nc.c.lines,.int .i64 nc.c.words,.int .i64 nc.c.sets,.int .i64 nc.c.ways,.int .i64 nc.c.out,.int .i64 nc.c.inn,.slice a_c_init3 nc.c.init.length c_c_init4,.int .i64 nc.id,.pointer (some ⟨b_home5,0,none⟩),.int .i64 nc.deal.kind,.int .i64 nc.deal.line,.int .i64 nc.deal.id,.int .i64 nc.deal.step,.int .i64 nc.deal.state,.int .i64 nc.deal.head,.slice a_deal_data6 nc.deal.data.length c_deal_data7,.int .i64 nc.deal.next,.int .i64 nc.deal.told,.int .i64 nc.next],55⟩],[(ArrA t8_5_a0 t8_5_c0 y8_5.1.data),(ArrA a_l12 c_l13 nc.cache.l),(TraceA t e1_t),(ProcA b_proc2 e1_b_proc2),(ImmA a_c_init3 c_c_init4 nc.c.init),(HomeA b_home5 nc.home),(ImmA a_deal_data6 c_deal_data7 nc.deal.data),(FabA f fc)]⟩) (fun e2_76=>nworkS_j2 nc e1_b_proc2 e1_t fc y1_4 y7_6 y8_5 e2_76=some y) ?_ ?_
       · rintro e2_76 H
         replace H:nworkS_j2 nc e1_b_proc2 e1_t fc y1_4 y7_6 y8_5 e2_76=some y:=H
         rw [nworkS_j2] at H
         refine xs [] H ?_ ?_
         · intro H
           refine xg [1] [1] [1] (gh_shut (CacheO b_cache1 nc.cache) (a_l12,c_l13)) fun _=>?_
           refine xg [] [2] [0,2,2,2,2] (gh_shut (NodeO n ({ nc with proc:=e1_b_proc2 }:NodeS)) (b_cache1,b_proc2,a_c_init3,c_c_init4,b_home5,a_deal_data6,c_deal_data7)) fun _=>?_
           refine bindG H fun y11_2 hy11_2 H=>?_
           refine xc [] [] [0,1] (nendF n t hy11_2) fun _=>?_
           exact xrY (someE H) [] [] [] [0,2,0] ()
         · intro H
           refine xs [0,2] H ?_ ?_
           · intro H
             refine xg [1] [1] [1] (gh_shut (CacheO b_cache1 nc.cache) (a_l12,c_l13)) fun _=>?_
             refine xg [] [2] [0,2,2,2,2] (gh_shut (NodeO n ({ nc with proc:=e1_b_proc2 }:NodeS)) (b_cache1,b_proc2,a_c_init3,c_c_init4,b_home5,a_deal_data6,c_deal_data7)) fun _=>?_
             refine bindG H fun y13_3 hy13_3 H=>?_
             refine xc [] [] [0,2] (nbegF n f hy13_3) fun _=>?_
             exact xrY (someE H) [] [] [] [0,0,1] ()
           · intro H
             refine xj [0,100] (ι:=Bool) (fun e3_95=>⟨[(0,.pointer (some ⟨n,0,none⟩)),(1,.pointer (some ⟨f,0,none⟩)),(2,.pointer (some ⟨t,0,none⟩)),(7,.pointer (some ⟨b1_9,0,none⟩)),(10,.int .i64 y7_6.1),(95,.bool e3_95)],[⟨b_cache1,#[.slice a_l12 nc.cache.l.length c_l13,.int .i64 nc.cache.sets,.int .i64 nc.cache.ways,.int .i64 nc.cache.clock],117⟩,⟨b1_9,#[.int .i64 y1_4.1.kind,.int .i64 y1_4.1.addr,.int .i64 y1_4.1.value],29⟩,⟨n,#[.pointer (some ⟨b_cache1,0,none⟩),.pointer (some ⟨b_proc2,0,none⟩),.int .i64 nc.c.nodes,.int .i64 nc.c.lines,.int .i64 nc.c.words,.int .i64 nc.c.sets,.int .i64 nc.c.ways,.int .i64 nc.c.out,.int .i64 nc.c.inn,.slice a_c_init3 nc.c.init.length c_c_init4,.int .i64 nc.id,.pointer (some ⟨b_home5,0,none⟩),.int .i64 nc.deal.kind,.int .i64 nc.deal.line,.int .i64 nc.deal.id,.int .i64 nc.deal.step,.int .i64 nc.deal.state,.int .i64 nc.deal.head,.slice a_deal_data6 nc.deal.data.length c_deal_data7,.int .i64 nc.deal.next,.int .i64 nc.deal.told,.int .i64 nc.next],55⟩],[(ArrA a_l12 c_l13 nc.cache.l),(TraceA t e1_t),(ProcA b_proc2 e1_b_proc2),(ImmA a_c_init3 c_c_init4 nc.c.init),(HomeA b_home5 nc.home),(ImmA a_deal_data6 c_deal_data7 nc.deal.data),(FabA f fc)]⟩) (fun e3_95=>nworkS_j3 nc y7_6 e1_b_proc2 e1_t fc y1_4 e3_95=some y) ?_ ?_
             · rintro e3_95 H
               replace H:nworkS_j3 nc y7_6 e1_b_proc2 e1_t fc y1_4 e3_95=some y:=H
               rw [nworkS_j3] at H
               refine xs [] H ?_ ?_
               · intro H
                 refine xg [1,2] [0] [0] (gh_shut (CacheO b_cache1 nc.cache) (a_l12,c_l13)) fun _=>?_
                 refine bindG H fun y15_5 hy15_5 H=>?_
                 refine xc [] [] [0] (ctouchF b_cache1 hy15_5) fun _=>?_
                 refine xg [] [1] [0,1,1,1,1] (gh_shut (NodeO n ({ nc with cache:=y15_5.2,proc:=e1_b_proc2 }:NodeS)) (b_cache1,b_proc2,a_c_init3,c_c_init4,b_home5,a_deal_data6,c_deal_data7)) fun _=>?_
                 refine bindG H fun y16_2 hy16_2 H=>?_
                 refine xc [] [] [0,0] (neffF n t hy16_2) fun _=>?_
                 exact xrY (someE H) [] [] [] [0,1,0] ()
               · intro H
                 refine bindG H fun y17_5 hy17_5 H=>?_
                 refine xc [0,2] [0] [0] (cfullF b_cache1 a_l12 c_l13 hy17_5) fun _=>?_
                 refine xs [] H ?_ ?_
                 · intro H
                   refine bindG H fun y18_5 hy18_5 H=>?_
                   refine xc [1,2] [0] [0] (cvicF b_cache1 a_l12 c_l13 hy18_5) fun _=>?_
                   refine xg [] [0] [0] (gh_shut (CacheO b_cache1 nc.cache) (a_l12,c_l13)) fun _=>?_
                   refine xg [] [1] [0,1,1,1,1] (gh_shut (NodeO n ({ nc with proc:=e1_b_proc2 }:NodeS)) (b_cache1,b_proc2,a_c_init3,c_c_init4,b_home5,a_deal_data6,c_deal_data7)) fun _=>?_
                   refine bindG H fun y19_3 hy19_3 H=>?_
                   refine xc [] [] [0,1] (nbegF n f hy19_3) fun _=>?_
                   exact xrY (someE H) [] [] [] [0,0,0] ()
                 · intro H
                   refine xs [0,1] H ?_ ?_
                   · intro H
                     refine xg [1] [0] [0] (gh_shut (CacheO b_cache1 nc.cache) (a_l12,c_l13)) fun _=>?_
                     refine xg [] [1] [0,1,1,1,1] (gh_shut (NodeO n ({ nc with proc:=e1_b_proc2 }:NodeS)) (b_cache1,b_proc2,a_c_init3,c_c_init4,b_home5,a_deal_data6,c_deal_data7)) fun _=>?_
                     refine bindG H fun y21_3 hy21_3 H=>?_
                     refine xc [] [] [0,1] (nbegF n f hy21_3) fun _=>?_
                     exact xrY (someE H) [] [] [] [0,0,0] ()
                   · intro H
                     refine xg [0] [0] [0] (gh_shut (CacheO b_cache1 nc.cache) (a_l12,c_l13)) fun _=>?_
                     refine xg [] [1] [0,1,1,1,1] (gh_shut (NodeO n ({ nc with proc:=e1_b_proc2 }:NodeS)) (b_cache1,b_proc2,a_c_init3,c_c_init4,b_home5,a_deal_data6,c_deal_data7)) fun _=>?_
                     refine bindG H fun y9_3 hy9_3 H=>?_
                     refine xc [] [] [0,1] (nbegF n f hy9_3) fun _=>?_
                     exact xrY (someE H) [] [] [] [0,0,0] ()
             · intro N3 hN3
               refine xs [] H ?_ ?_
               · intro H
                 refine xs [1,1,2,1,1] H ?_ ?_
                 · intro H
                   exact xe [0,0,1,1,1] _ [1,1,1] [1,1,1,1,1,1,1] (hN3 (true) H)
                 · intro H
                   exact xe [1,1,0,1,0,1] _ [1,1,1] [1,1,1,1,1,1,1] (hN3 (y8_5.1.dirty) H)
               · intro H
                 exact xe [0,0,0,0,0,0,0,0] _ [1,1,1] [1,1,1,1,1,1,1] (hN3 (false) H)
       · intro N2 hN2
         refine xs [2] H ?_ ?_
         · intro H
           exact xe [1,1,1] _ [0,0,0,0] [0,0,0,0,0,0,0,0] (hN2 (!y8_5.2) H)
         · intro H
           exact xe [0,0,0] _ [0,0,0,0] [0,0,0,0,0,0,0,0] (hN2 (false) H)
     · intro N1 hN1
       refine bindG H fun y4_4 hy4_4 H=>?_
       refine xc [2] [1] [0,0] (prbegunF b_proc2 a_ops8 c_ops9 a_values10 c_values11 hy4_4) fun _=>?_
       refine xs [] H ?_ ?_
       · intro H
         refine xg [1,2] [0] [0,0] (gh_shut (ProcO b_proc2 nc.proc) (a_ops8,c_ops9,a_values10,c_values11)) fun _=>?_
         refine bindG H fun y5_4 hy5_4 H=>?_
         refine xc [] [] [0] (prbeginF b_proc2 hy5_4) fun _=>?_
         refine bindG H fun y6_6 hy6_6 H=>?_
         refine xc [1] [] [6] (trbeginF t hy6_6) fun _=>?_
         exact xe [] _ [0,0] [0,0,0,0,0,0,0] (hN1 (y6_6,y5_4.2) H)
       · intro H
         refine xg [0] [0] [0,0] (gh_shut (ProcO b_proc2 nc.proc) (a_ops8,c_ops9,a_values10,c_values11)) fun _=>?_
         exact xe [] _ [0,0] [6,0,0,0,0,0,0] (hN1 (tc,nc.proc) H)
 · intro N0 hN0
   refine xs [] H ?_ ?_
   · intro H
     exact xe [0,0,0,0,0,0,1] _ [0,0,0] [0,0,0,0,0,0,0,0] (hN0 (true) H)
   · intro H
     exact xe [1,1,1,1,1,2,1,0] _ [0,0,0] [0,0,0,0,0,0,0,0] (hN0 (!(decide (nc.deal.step=(0:Int)))) H)
def nstepS (nc:NodeS) (fc:FabS) (tc:TraceS):Option (Int×NodeS×FabS×TraceS) :=
 (nansS nc fc tc).bind fun y1_3=>(bif y1_3.1 then some ((1:Int),y1_3.2.1,y1_3.2.2.1,y1_3.2.2.2) else (ngrS y1_3.2.1 y1_3.2.2.1).bind fun y3_2=>(bif y3_2.1 then some ((2:Int),y3_2.2.1,y3_2.2.2,y1_3.2.2.2) else (nreqS y3_2.2.1 y3_2.2.2).bind fun y5_2=>(bif y5_2.1 then some ((3:Int),y5_2.2.1,y5_2.2.2,y1_3.2.2.2) else (nworkS y5_2.2.1 y5_2.2.2 y1_3.2.2.2).bind fun y7_3=>(bif y7_3.1 then some ((4:Int),y7_3.2.1,y7_3.2.2.1,y7_3.2.2.2) else some ((0:Int),y7_3.2.1,y7_3.2.2.1,y7_3.2.2.2)))))
theorem nstepF {nc:NodeS} {fc:FabS} {tc:TraceS} (n:Nat) (f:Nat) (t:Nat) {y:Int×NodeS×FabS×TraceS} (H:nstepS nc fc tc=some y):FnY Tryz.prog 61 [.pointer (some ⟨n,0,none⟩),.pointer (some ⟨f,0,none⟩),.pointer (some ⟨t,0,none⟩)] ⟨[],[(NodeA n nc),(FabA f fc),(TraceA t tc)]⟩ (Z:=Unit) (fun y _=>.int .i64 y.1) (fun y _=>⟨[],[(NodeA n y.2.1),(FabA f y.2.2.1),(TraceA t y.2.2.2)]⟩) y:=by
 unfold nstepS at H
 refine xfY Tryz.func61 fun W0 F=>?_
 refine bindG H fun y1_3 hy1_3 H=>?_
 refine xc [] [] [0,0,0] (nansF n f t hy1_3) fun _=>?_
 refine xs [] H ?_ ?_
 · intro H
   exact xrY (someE H) [1] [] [] [0,0,0] ()
 · intro H
   refine bindG H fun y3_2 hy3_2 H=>?_
   refine xc [0] [] [0,0] (ngrF n f hy3_2) fun _=>?_
   refine xs [] H ?_ ?_
   · intro H
     exact xrY (someE H) [1] [] [] [0,0,0] ()
   · intro H
     refine bindG H fun y5_2 hy5_2 H=>?_
     refine xc [0] [] [0,0] (nreqF n f hy5_2) fun _=>?_
     refine xs [] H ?_ ?_
     · intro H
       exact xrY (someE H) [1] [] [] [0,0,0] ()
     · intro H
       refine bindG H fun y7_3 hy7_3 H=>?_
       refine xc [0] [] [0,0,0] (nworkF n f t hy7_3) fun _=>?_
       refine xs [] H ?_ ?_
       · intro H
         exact xrY (someE H) [1] [] [] [0,0,0] ()
       · intro H
         exact xrY (someE H) [0] [] [] [0,0,0] ()
end
section
open Go Go.RowKit
def pops11S (o:OpS) (cfv:CfgS):Option (Bool) :=
 (prightS cfv o).bind fun y1_2=>some !y1_2
theorem pops11F {o:OpS} {cfv:CfgS} (cf:Nat) (cf0a:Option Addr) (cf0c:Nat) {y:Bool} (H:pops11S o cfv=some y):FnY Tryz.prog 80 [.agg #[.int .i64 o.kind,.int .i64 o.addr,.int .i64 o.value],.pointer (some ⟨cf,0,none⟩)] ⟨[⟨cf,#[.int .i64 cfv.nodes,.int .i64 cfv.lines,.int .i64 cfv.words,.int .i64 cfv.sets,.int .i64 cfv.ways,.int .i64 cfv.out,.int .i64 cfv.inn,.slice cf0a cfv.init.length cf0c],25⟩],[]⟩ (Z:=Unit) (fun y _=>.bool y) (fun y _=>⟨[⟨cf,#[.int .i64 cfv.nodes,.int .i64 cfv.lines,.int .i64 cfv.words,.int .i64 cfv.sets,.int .i64 cfv.ways,.int .i64 cfv.out,.int .i64 cfv.inn,.slice cf0a cfv.init.length cf0c],25⟩],[]⟩) y:=by
 unfold pops11S at H
 refine xfY Tryz.func80 fun W0 F=>?_
 refine xn [] fun b0_0=>?_
 refine bindG H fun y1_2 hy1_2 H=>?_
 refine xc [1,0] [] [] (prightF cf0a cf0c hy1_2) fun _=>?_
 exact xrY (someE H) [] [] [1] [] ()
def oidxS_j0:Option (Int) :=
 some ((-1):Int)
def oidxS_l1 (s:List OpS) (cfv:CfgS) (k0:Option (Int)):Nat→Int→Option (Int)
 |0,_=>none
 |m+1,v1_8=>(bif decide (v1_8<(s.length:Int)) then chk (0≤v1_8∧v1_8<(s.length:Int)) (letP (nthT s v1_8) fun x4_4=>(pops11S x4_4 cfv).bind fun y4_5=>(bif y4_5 then some v1_8 else chk (inR (v1_8+(1:Int))) ((oidxS_l1 s cfv k0 m) (v1_8+(1:Int))))) else k0)
def oidxS (s:List OpS) (cfv:CfgS):Option (Int) :=
 oidxS_l1 s cfv oidxS_j0 (s.length+1) (0:Int)
theorem oidxF {s:List OpS} {sA:Asn} {cfv:CfgS} (sa:Option Addr) (sc:Nat) (cf:Nat) (cf0a:Option Addr) (cf0c:Nat) (hsA:Rdb sA sa sc s) {y:Int} (H:oidxS s cfv=some y):FnY Tryz.prog 123 [.slice sa s.length sc,.func (.func 80) #[] #[.pointer (some ⟨cf,0,none⟩)]] ⟨[⟨cf,#[.int .i64 cfv.nodes,.int .i64 cfv.lines,.int .i64 cfv.words,.int .i64 cfv.sets,.int .i64 cfv.ways,.int .i64 cfv.out,.int .i64 cfv.inn,.slice cf0a cfv.init.length cf0c],25⟩],[sA]⟩ (Z:=Unit) (fun y _=>.int .i64 y) (fun y _=>⟨[⟨cf,#[.int .i64 cfv.nodes,.int .i64 cfv.lines,.int .i64 cfv.words,.int .i64 cfv.sets,.int .i64 cfv.ways,.int .i64 cfv.out,.int .i64 cfv.inn,.slice cf0a cfv.init.length cf0c],25⟩],[sA]⟩) y:=by
 unfold oidxS at H
 refine xfY Tryz.func123 fun W0 F=>?_
 refine xj [101] (ι:=Unit) (fun _=>⟨[],[⟨cf,#[.int .i64 cfv.nodes,.int .i64 cfv.lines,.int .i64 cfv.words,.int .i64 cfv.sets,.int .i64 cfv.ways,.int .i64 cfv.out,.int .i64 cfv.inn,.slice cf0a cfv.init.length cf0c],25⟩],[sA]⟩) (fun _=>oidxS_j0=some y) ?_ ?_
 · rintro _ H
   replace H:oidxS_j0=some y:=H
   rw [oidxS_j0] at H
   exact xrY (someE H) [] [] [0] [0] ()
 · intro N0 hN0
   refine xl [] (ι:=Int) (fun v1_8=>⟨[(0,.slice sa s.length sc),(1,.func (.func 80) #[] #[.pointer (some ⟨cf,0,none⟩)]),(7,.int .i64 s.length),(8,.int .i64 v1_8)],[⟨cf,#[.int .i64 cfv.nodes,.int .i64 cfv.lines,.int .i64 cfv.words,.int .i64 cfv.sets,.int .i64 cfv.ways,.int .i64 cfv.out,.int .i64 cfv.inn,.slice cf0a cfv.init.length cf0c],25⟩],[sA]⟩) (fun m1 v1_8=>oidxS_l1 s cfv (oidxS_j0) m1 v1_8=some y) [0] [0] ((s.length+1)) ((0:Int)) H ?_
   rintro N1 (_ | m1) v1_8 H hN1
   · exact (noneE H).elim
   replace H:oidxS_l1 s cfv (oidxS_j0) (m1+1) v1_8=some y:=H
   rw [oidxS_l1] at H
   refine xs [] H ?_ ?_
   · intro H
     refine chkG H fun q4_3_1 H=>?_
     refine xi [1] 0 hsA q4_3_1 fun b1 o1 e1=>?_
     refine letG H fun x4_4 hx4_4 H=>?_
     refine xo [] [] [0] (oc_ldN hsA e1 q4_3_1 hx4_4 0 3) fun _=>?_
     refine bindG H fun y4_5 hy4_5 H=>?_
     refine xc [] [0] [] (pops11F cf cf0a cf0c hy4_5) fun _=>?_
     refine xs [] H ?_ ?_
     · intro H
       exact xrY (someE H) [1] [] [0] [1] ()
     · intro H
       refine chkG H fun q6_0_1 H=>?_
       refine xd [0,0] (ap q6_0_1 an) ?_
       exact xe [] _ [0] [1] (hN1 _ (v1_8+(1:Int)) (Nat.lt_succ_self _) H)
   · intro H
     exact xe [0] _ [0] [0] (hN0 () H)
def ocontS (s:List OpS) (cfv:CfgS):Option (Bool) :=
 (oidxS s cfv).bind fun y1_2=>some (decide ((0:Int)≤y1_2))
theorem ocontF {s:List OpS} {sA:Asn} {cfv:CfgS} (sa:Option Addr) (sc:Nat) (cf:Nat) (cf0a:Option Addr) (cf0c:Nat) (hsA:Rdb sA sa sc s) {y:Bool} (H:ocontS s cfv=some y):FnY Tryz.prog 79 [.slice sa s.length sc,.func (.func 80) #[] #[.pointer (some ⟨cf,0,none⟩)]] ⟨[⟨cf,#[.int .i64 cfv.nodes,.int .i64 cfv.lines,.int .i64 cfv.words,.int .i64 cfv.sets,.int .i64 cfv.ways,.int .i64 cfv.out,.int .i64 cfv.inn,.slice cf0a cfv.init.length cf0c],25⟩],[sA]⟩ (Z:=Unit) (fun y _=>.bool y) (fun y _=>⟨[⟨cf,#[.int .i64 cfv.nodes,.int .i64 cfv.lines,.int .i64 cfv.words,.int .i64 cfv.sets,.int .i64 cfv.ways,.int .i64 cfv.out,.int .i64 cfv.inn,.slice cf0a cfv.init.length cf0c],25⟩],[sA]⟩) y:=by
 unfold ocontS at H
 refine xfY Tryz.func79 fun W0 F=>?_
 refine bindG H fun y1_2 hy1_2 H=>?_
 refine xc [] [0] [0] (oidxF sa sc cf cf0a cf0c hsA hy1_2) fun _=>?_
 exact xrY (someE H) [] [] [0] [0] ()
def pops1S (l:List OpS) (cfv:CfgS):Option (Bool) :=
 (bif decide ((24:Int)<(l.length:Int)) then some true else (ocontS l cfv).bind fun y1_6=>some y1_6)
theorem pops1F {l:List OpS} {lA:Asn} {cfv:CfgS} (la:Option Addr) (lc:Nat) (cf:Nat) (cf0a:Option Addr) (cf0c:Nat) (hlA:Rdb lA la lc l) {y:Bool} (H:pops1S l cfv=some y):FnY Tryz.prog 78 [.slice la l.length lc,.pointer (some ⟨cf,0,none⟩)] ⟨[⟨cf,#[.int .i64 cfv.nodes,.int .i64 cfv.lines,.int .i64 cfv.words,.int .i64 cfv.sets,.int .i64 cfv.ways,.int .i64 cfv.out,.int .i64 cfv.inn,.slice cf0a cfv.init.length cf0c],25⟩],[lA]⟩ (Z:=Unit) (fun y _=>.bool y) (fun y _=>⟨[⟨cf,#[.int .i64 cfv.nodes,.int .i64 cfv.lines,.int .i64 cfv.words,.int .i64 cfv.sets,.int .i64 cfv.ways,.int .i64 cfv.out,.int .i64 cfv.inn,.slice cf0a cfv.init.length cf0c],25⟩],[lA]⟩) y:=by
 unfold pops1S at H
 refine xfY Tryz.func78 fun W0 F=>?_
 refine xs [] H ?_ ?_
 · intro H
   exact xrY (someE H) [0,0,0,1] [] [0] [0] ()
 · intro H
   refine bindG H fun y1_6 hy1_6 H=>?_
   refine xc [1,1,1] [0] [0] (ocontF la lc cf cf0a cf0c hlA hy1_6) fun _=>?_
   exact xrY (someE H) [0] [] [0] [0] ()
def lidxS_j0:Option (Int) :=
 some ((-1):Int)
def lidxS_l1 (s:List (List OpS)) (cfv:CfgS) (k0:Option (Int)):Nat→Int→Option (Int)
 |0,_=>none
 |m+1,v1_8=>(bif decide (v1_8<(s.length:Int)) then chk (0≤v1_8∧v1_8<(s.length:Int)) (letP (nthT s v1_8) fun x4_4=>(pops1S x4_4 cfv).bind fun y4_5=>(bif y4_5 then some v1_8 else chk (inR (v1_8+(1:Int))) ((lidxS_l1 s cfv k0 m) (v1_8+(1:Int))))) else k0)
def lidxS (s:List (List OpS)) (cfv:CfgS):Option (Int) :=
 lidxS_l1 s cfv lidxS_j0 (s.length+1) (0:Int)
theorem lidxF {s:List (List OpS)} {sA:Asn} {cfv:CfgS} (sa:Option Addr) (sc:Nat) (cf:Nat) (cf0a:Option Addr) (cf0c:Nat) (hsA:Rdb sA sa sc s) {y:Int} (H:lidxS s cfv=some y):FnY Tryz.prog 122 [.slice sa s.length sc,.func (.func 78) #[] #[.pointer (some ⟨cf,0,none⟩)]] ⟨[⟨cf,#[.int .i64 cfv.nodes,.int .i64 cfv.lines,.int .i64 cfv.words,.int .i64 cfv.sets,.int .i64 cfv.ways,.int .i64 cfv.out,.int .i64 cfv.inn,.slice cf0a cfv.init.length cf0c],25⟩],[sA]⟩ (Z:=Unit) (fun y _=>.int .i64 y) (fun y _=>⟨[⟨cf,#[.int .i64 cfv.nodes,.int .i64 cfv.lines,.int .i64 cfv.words,.int .i64 cfv.sets,.int .i64 cfv.ways,.int .i64 cfv.out,.int .i64 cfv.inn,.slice cf0a cfv.init.length cf0c],25⟩],[sA]⟩) y:=by
 unfold lidxS at H
 refine xfY Tryz.func122 fun W0 F=>?_
 refine xj [101] (ι:=Unit) (fun _=>⟨[],[⟨cf,#[.int .i64 cfv.nodes,.int .i64 cfv.lines,.int .i64 cfv.words,.int .i64 cfv.sets,.int .i64 cfv.ways,.int .i64 cfv.out,.int .i64 cfv.inn,.slice cf0a cfv.init.length cf0c],25⟩],[sA]⟩) (fun _=>lidxS_j0=some y) ?_ ?_
 · rintro _ H
   replace H:lidxS_j0=some y:=H
   rw [lidxS_j0] at H
   exact xrY (someE H) [] [] [0] [0] ()
 · intro N0 hN0
   refine xl [] (ι:=Int) (fun v1_8=>⟨[(0,.slice sa s.length sc),(1,.func (.func 78) #[] #[.pointer (some ⟨cf,0,none⟩)]),(7,.int .i64 s.length),(8,.int .i64 v1_8)],[⟨cf,#[.int .i64 cfv.nodes,.int .i64 cfv.lines,.int .i64 cfv.words,.int .i64 cfv.sets,.int .i64 cfv.ways,.int .i64 cfv.out,.int .i64 cfv.inn,.slice cf0a cfv.init.length cf0c],25⟩],[sA]⟩) (fun m1 v1_8=>lidxS_l1 s cfv (lidxS_j0) m1 v1_8=some y) [0] [0] ((s.length+1)) ((0:Int)) H ?_
   rintro N1 (_ | m1) v1_8 H hN1
   · exact (noneE H).elim
   replace H:lidxS_l1 s cfv (lidxS_j0) (m1+1) v1_8=some y:=H
   rw [lidxS_l1] at H
   refine xs [] H ?_ ?_
   · intro H
     refine chkG H fun q4_3_1 H=>?_
     refine xi [1] 0 hsA q4_3_1 fun b1 o1 e1=>?_
     refine letG H fun x4_4 hx4_4 H=>?_
     refine xo [] [] [0] (oc_ld hsA e1 q4_3_1 hx4_4 0) fun z4_4_1=>?_
     refine bindG H fun y4_5 hy4_5 H=>?_
     refine xc [] [0] [0] (pops1F z4_4_1.1 z4_4_1.2 cf cf0a cf0c (rI z4_4_1.1 z4_4_1.2 x4_4) hy4_5) fun _=>?_
     refine xs [] H ?_ ?_
     · intro H
       exact xrY (someE H) [1] [] [0] [1] ()
     · intro H
       refine chkG H fun q6_0_1 H=>?_
       refine xd [0,0] (ap q6_0_1 an) ?_
       exact xe [] _ [0] [1] (hN1 _ (v1_8+(1:Int)) (Nat.lt_succ_self _) H)
   · intro H
     exact xe [0] _ [0] [0] (hN0 () H)
def lcontS (s:List (List OpS)) (cfv:CfgS):Option (Bool) :=
 (lidxS s cfv).bind fun y1_2=>some (decide ((0:Int)≤y1_2))
theorem lcontF {s:List (List OpS)} {sA:Asn} {cfv:CfgS} (sa:Option Addr) (sc:Nat) (cf:Nat) (cf0a:Option Addr) (cf0c:Nat) (hsA:Rdb sA sa sc s) {y:Bool} (H:lcontS s cfv=some y):FnY Tryz.prog 77 [.slice sa s.length sc,.func (.func 78) #[] #[.pointer (some ⟨cf,0,none⟩)]] ⟨[⟨cf,#[.int .i64 cfv.nodes,.int .i64 cfv.lines,.int .i64 cfv.words,.int .i64 cfv.sets,.int .i64 cfv.ways,.int .i64 cfv.out,.int .i64 cfv.inn,.slice cf0a cfv.init.length cf0c],25⟩],[sA]⟩ (Z:=Unit) (fun y _=>.bool y) (fun y _=>⟨[⟨cf,#[.int .i64 cfv.nodes,.int .i64 cfv.lines,.int .i64 cfv.words,.int .i64 cfv.sets,.int .i64 cfv.ways,.int .i64 cfv.out,.int .i64 cfv.inn,.slice cf0a cfv.init.length cf0c],25⟩],[sA]⟩) y:=by
 unfold lcontS at H
 refine xfY Tryz.func77 fun W0 F=>?_
 refine bindG H fun y1_2 hy1_2 H=>?_
 refine xc [] [0] [0] (lidxF sa sc cf cf0a cf0c hsA hy1_2) fun _=>?_
 exact xrY (someE H) [] [] [0] [0] ()
def popsS (c:CfgS) (ps:List (List OpS)):Option (Int) :=
 (lcontS ps c).bind fun y1_2=>(bif y1_2 then some (1:Int) else (bif !(decide ((ps.length:Int)=c.nodes)) then some (1:Int) else some (0:Int)))
theorem popsF {c:CfgS} {ps:List (List OpS)} {psA:Asn} (c0a:Option Addr) (c0c:Nat) (psa:Option Addr) (psc:Nat) (hpsA:Rdb psA psa psc ps) {y:Int} (H:popsS c ps=some y):FnY Tryz.prog 38 [.agg #[.int .i64 c.nodes,.int .i64 c.lines,.int .i64 c.words,.int .i64 c.sets,.int .i64 c.ways,.int .i64 c.out,.int .i64 c.inn,.slice c0a c.init.length c0c],.slice psa ps.length psc] ⟨[],[psA]⟩ (Z:=Unit) (fun y _=>.int .i64 y) (fun y _=>⟨[],[psA]⟩) y:=by
 unfold popsS at H
 refine xfY Tryz.func38 fun W0 F=>?_
 refine xn [] fun b0_0=>?_
 refine bindG H fun y1_2 hy1_2 H=>?_
 refine xc [] [0] [0] (lcontF psa psc b0_0 c0a c0c hpsA hy1_2) fun _=>?_
 refine xs [] H ?_ ?_
 · intro H
   exact xrY (someE H) [0,0,0,0,0,1,1] [] [] [0] ()
 · intro H
   refine xs [1,1,1,1,0,1,0] H ?_ ?_
   · intro H
     exact xrY (someE H) [1] [] [] [0] ()
   · intro H
     exact xrY (someE H) [0] [] [] [0] ()
end
section
open Go Go.RowKit
structure MachS where
 fab:FabS
 trace:TraceS
 c:CfgS
 nodes:List NodeS
def cfg0:CfgS:=⟨0,0,0,0,0,0,0,[]⟩
def node0:NodeS:=⟨⟨[],0,0,0⟩,⟨[],[],false⟩,cfg0,0,⟨⟨cfg0,[]⟩,⟨[],[]⟩,cfg0,0⟩,⟨0,0,0,0,0,0,[],0,0⟩,0⟩
instance:So NodeS:=⟨PtrR,fun n x=>[NodeA x.b n],node0,⟨0⟩⟩
instance:Rw (So.X NodeS):=rwPtrR
def nodeV (xs:List PtrR) (o:Option Int):Value:=match o with | none=>.pointer none | some i=>blk (nthT xs i).b
def MachO (b:Nat) (c:MachS):Nat×Nat×Option Addr×Nat×Option Addr×Nat×List PtrR→Rs:=fun (b_fab,b_trace,a_c_init,c_c_init,a_nodes,c_nodes,r_nodes)=>⟨[⟨b,#[.pointer (some ⟨b_fab,0,none⟩),.pointer (some ⟨b_trace,0,none⟩),.int .i64 c.c.nodes,.int .i64 c.c.lines,.int .i64 c.c.words,.int .i64 c.c.sets,.int .i64 c.c.ways,.int .i64 c.c.out,.int .i64 c.c.inn,.slice a_c_init c.c.init.length c_c_init,.slice a_nodes r_nodes.length c_nodes],70⟩],[(FabA b_fab c.fab),(TraceA b_trace c.trace),(ImmA a_c_init c_c_init c.c.init),(ArrA a_nodes c_nodes r_nodes),(StA c.nodes r_nodes)]⟩
abbrev MachA (b:Nat) (c:MachS):Asn:=ObA (MachO b c)
def mconfS (mc:MachS):Option (CfgS) :=
 (cloneS mc.c.init).bind fun y2_2=>some (⟨mc.c.nodes,mc.c.lines,mc.c.words,mc.c.sets,mc.c.ways,mc.c.out,mc.c.inn,y2_2⟩:CfgS)
theorem mconfF {mc:MachS} (m:Nat) (m_b_fab:Nat) (m_b_trace:Nat) (m_a_c_init:Option Addr) (m_c_c_init:Nat) (m_a_nodes:Option Addr) (m_c_nodes:Nat) (m_r_nodes:List PtrR) {y:CfgS} (H:mconfS mc=some y):FnY Tryz.prog 36 [.pointer (some ⟨m,0,none⟩)] ⟨[⟨m,#[.pointer (some ⟨m_b_fab,0,none⟩),.pointer (some ⟨m_b_trace,0,none⟩),.int .i64 mc.c.nodes,.int .i64 mc.c.lines,.int .i64 mc.c.words,.int .i64 mc.c.sets,.int .i64 mc.c.ways,.int .i64 mc.c.out,.int .i64 mc.c.inn,.slice m_a_c_init mc.c.init.length m_c_c_init,.slice m_a_nodes m_r_nodes.length m_c_nodes],70⟩],[(FabA m_b_fab mc.fab),(TraceA m_b_trace mc.trace),(ImmA m_a_c_init m_c_c_init mc.c.init),(ArrA m_a_nodes m_c_nodes m_r_nodes),(StA mc.nodes m_r_nodes)]⟩ (Z:=Option Addr×Nat) (fun y (za0,zc0)=>.agg #[.int .i64 y.nodes,.int .i64 y.lines,.int .i64 y.words,.int .i64 y.sets,.int .i64 y.ways,.int .i64 y.out,.int .i64 y.inn,.slice za0 y.init.length zc0]) (fun y (za0,zc0)=>⟨[⟨m,#[.pointer (some ⟨m_b_fab,0,none⟩),.pointer (some ⟨m_b_trace,0,none⟩),.int .i64 mc.c.nodes,.int .i64 mc.c.lines,.int .i64 mc.c.words,.int .i64 mc.c.sets,.int .i64 mc.c.ways,.int .i64 mc.c.out,.int .i64 mc.c.inn,.slice m_a_c_init mc.c.init.length m_c_c_init,.slice m_a_nodes m_r_nodes.length m_c_nodes],70⟩],[(ArrA za0 zc0 y.init),(FabA m_b_fab mc.fab),(TraceA m_b_trace mc.trace),(ImmA m_a_c_init m_c_c_init mc.c.init),(ArrA m_a_nodes m_c_nodes m_r_nodes),(StA mc.nodes m_r_nodes)]⟩) y:=by
 unfold mconfS at H
 refine xfY Tryz.func36 fun W0 F=>?_
 refine xn [] fun b0_0=>?_
 refine xn [1] fun b1_4=>?_
 refine bindG H fun y2_2 hy2_2 H=>?_
 refine xc [0,0] [] [2] (cloneF m_a_c_init m_c_c_init (rI m_a_c_init m_c_c_init mc.c.init) hy2_2) fun ⟨t2_2_a0,t2_2_c0⟩=>?_
 exact xrY (someE H) [0,0,1] [1] [2] [0,1,1,0,0,0] (t2_2_a0,t2_2_c0)
def mnodeS (mc:MachS) (at_:Int):Option (Option Int) :=
 (bif decide (at_<(0:Int)) then some none else (bif decide ((mc.nodes.length:Int)≤at_) then some none else chk (0≤at_∧at_<(mc.nodes.length:Int)) (some (some at_))))
theorem mnodeF {mc:MachS} {at_:Int} (m:Nat) (m_b_fab:Nat) (m_b_trace:Nat) (m_a_c_init:Option Addr) (m_c_c_init:Nat) (m_a_nodes:Option Addr) (m_c_nodes:Nat) (m_r_nodes:List PtrR) {y:Option Int} (H:mnodeS mc at_=some y):FnY Tryz.prog 14 [.pointer (some ⟨m,0,none⟩),.int .i64 at_] ⟨[⟨m,#[.pointer (some ⟨m_b_fab,0,none⟩),.pointer (some ⟨m_b_trace,0,none⟩),.int .i64 mc.c.nodes,.int .i64 mc.c.lines,.int .i64 mc.c.words,.int .i64 mc.c.sets,.int .i64 mc.c.ways,.int .i64 mc.c.out,.int .i64 mc.c.inn,.slice m_a_c_init mc.c.init.length m_c_c_init,.slice m_a_nodes m_r_nodes.length m_c_nodes],70⟩],[(FabA m_b_fab mc.fab),(TraceA m_b_trace mc.trace),(ImmA m_a_c_init m_c_c_init mc.c.init),(ArrA m_a_nodes m_c_nodes m_r_nodes),(StA mc.nodes m_r_nodes)]⟩ (Z:=Unit) (fun y _=>(nodeV m_r_nodes y)) (fun y _=>⟨[⟨m,#[.pointer (some ⟨m_b_fab,0,none⟩),.pointer (some ⟨m_b_trace,0,none⟩),.int .i64 mc.c.nodes,.int .i64 mc.c.lines,.int .i64 mc.c.words,.int .i64 mc.c.sets,.int .i64 mc.c.ways,.int .i64 mc.c.out,.int .i64 mc.c.inn,.slice m_a_c_init mc.c.init.length m_c_c_init,.slice m_a_nodes m_r_nodes.length m_c_nodes],70⟩],[(FabA m_b_fab mc.fab),(TraceA m_b_trace mc.trace),(ImmA m_a_c_init m_c_c_init mc.c.init),(ArrA m_a_nodes m_c_nodes m_r_nodes),(StA mc.nodes m_r_nodes)]⟩) y:=by
 unfold mnodeS at H
 refine xfY Tryz.func14 fun W0 F=>?_
 refine xs [] H ?_ ?_
 · intro H
   exact xrY (someE H) [0,0,0,0,0,0,0,1,1] [] [0] [0,0,0,0,0] ()
 · intro H
   refine xk [1,1,1,1,1,0,1] [4] (st_len mc.nodes m_r_nodes) fun hl1_8_1=>?_
   refine xw [300] 13 (congrArg (fun n:Nat=>Value.int .i64 n) hl1_8_1) ?_
   refine xs [1,0] H ?_ ?_
   · intro H
     exact xrY (someE H) [1] [] [0] [0,0,0,0,0] ()
   · intro H
     refine xk [0,0] [4] (st_len mc.nodes m_r_nodes) fun hl3_5_1=>?_
     refine chkG H fun q3_5_1 H=>?_
     refine xi [] 3 (rA m_a_nodes m_c_nodes m_r_nodes) (rngE hl3_5_1 q3_5_1) fun b1 o1 e1=>?_
     refine xpl [] 3 (ol_ld (rA m_a_nodes m_c_nodes m_r_nodes) e1 (rngE hl3_5_1 q3_5_1) 0 (fun _=>rfl)) ?_
     exact xrY (someE H) [] [] [0] [0,0,0,0,0] ()
def mleftS_j0 (e0_3:Int):Option (Int) :=
 some e0_3
def mleftS_l1 (mc:MachS) (k0:Int→Option (Int)):Nat→Int→Int→Option (Int)
 |0,_,_=>none
 |m+1,v1_3,v1_11=>(bif decide (v1_11<(mc.nodes.length:Int)) then chk (0≤v1_11∧v1_11<(mc.nodes.length:Int)) ((prleftS ((nthS mc.nodes v1_11).proc)).bind fun y5_5=>chk (inR (v1_11+(1:Int))) ((mleftS_l1 mc k0 m) (wr (v1_3+y5_5)) (v1_11+(1:Int)))) else k0 v1_3)
def mleftS (mc:MachS):Option (Int) :=
 mleftS_l1 mc mleftS_j0 (mc.nodes.length+1) (0:Int) (0:Int)
theorem mleftF {mc:MachS} (m:Nat) (m_b_fab:Nat) (m_b_trace:Nat) (m_a_c_init:Option Addr) (m_c_c_init:Nat) (m_a_nodes:Option Addr) (m_c_nodes:Nat) (m_r_nodes:List PtrR) {y:Int} (H:mleftS mc=some y):FnY Tryz.prog 20 [.pointer (some ⟨m,0,none⟩)] ⟨[⟨m,#[.pointer (some ⟨m_b_fab,0,none⟩),.pointer (some ⟨m_b_trace,0,none⟩),.int .i64 mc.c.nodes,.int .i64 mc.c.lines,.int .i64 mc.c.words,.int .i64 mc.c.sets,.int .i64 mc.c.ways,.int .i64 mc.c.out,.int .i64 mc.c.inn,.slice m_a_c_init mc.c.init.length m_c_c_init,.slice m_a_nodes m_r_nodes.length m_c_nodes],70⟩],[(FabA m_b_fab mc.fab),(TraceA m_b_trace mc.trace),(ImmA m_a_c_init m_c_c_init mc.c.init),(ArrA m_a_nodes m_c_nodes m_r_nodes),(StA mc.nodes m_r_nodes)]⟩ (Z:=Unit) (fun y _=>.int .i64 y) (fun y _=>⟨[⟨m,#[.pointer (some ⟨m_b_fab,0,none⟩),.pointer (some ⟨m_b_trace,0,none⟩),.int .i64 mc.c.nodes,.int .i64 mc.c.lines,.int .i64 mc.c.words,.int .i64 mc.c.sets,.int .i64 mc.c.ways,.int .i64 mc.c.out,.int .i64 mc.c.inn,.slice m_a_c_init mc.c.init.length m_c_c_init,.slice m_a_nodes m_r_nodes.length m_c_nodes],70⟩],[(FabA m_b_fab mc.fab),(TraceA m_b_trace mc.trace),(ImmA m_a_c_init m_c_c_init mc.c.init),(ArrA m_a_nodes m_c_nodes m_r_nodes),(StA mc.nodes m_r_nodes)]⟩) y:=by
 unfold mleftS at H
 refine xfY Tryz.func20 fun W0 F=>?_
 refine xj [102] (ι:=Int) (fun e0_3=>⟨[(3,.int .i64 e0_3)],[⟨m,#[.pointer (some ⟨m_b_fab,0,none⟩),.pointer (some ⟨m_b_trace,0,none⟩),.int .i64 mc.c.nodes,.int .i64 mc.c.lines,.int .i64 mc.c.words,.int .i64 mc.c.sets,.int .i64 mc.c.ways,.int .i64 mc.c.out,.int .i64 mc.c.inn,.slice m_a_c_init mc.c.init.length m_c_c_init,.slice m_a_nodes m_r_nodes.length m_c_nodes],70⟩],[(FabA m_b_fab mc.fab),(TraceA m_b_trace mc.trace),(ImmA m_a_c_init m_c_c_init mc.c.init),(ArrA m_a_nodes m_c_nodes m_r_nodes),(StA mc.nodes m_r_nodes)]⟩) (fun e0_3=>mleftS_j0 e0_3=some y) ?_ ?_
 · rintro e0_3 H
   replace H:mleftS_j0 e0_3=some y:=H
   rw [mleftS_j0] at H
   exact xrY (someE H) [] [] [0] [0,0,0,0,0] ()
 · intro N0 hN0
   refine xk [0] [4] (st_len mc.nodes m_r_nodes) fun hl2_4_1=>?_
   refine xw [300] 10 (congrArg (fun n:Nat=>Value.int .i64 n) hl2_4_1) ?_
   refine xl [] (ι:=Int×Int) (fun (v1_3,v1_11)=>⟨[(3,.int .i64 v1_3),(9,.slice m_a_nodes m_r_nodes.length m_c_nodes),(10,.int .i64 mc.nodes.length),(11,.int .i64 v1_11)],[⟨m,#[.pointer (some ⟨m_b_fab,0,none⟩),.pointer (some ⟨m_b_trace,0,none⟩),.int .i64 mc.c.nodes,.int .i64 mc.c.lines,.int .i64 mc.c.words,.int .i64 mc.c.sets,.int .i64 mc.c.ways,.int .i64 mc.c.out,.int .i64 mc.c.inn,.slice m_a_c_init mc.c.init.length m_c_c_init,.slice m_a_nodes m_r_nodes.length m_c_nodes],70⟩],[(FabA m_b_fab mc.fab),(TraceA m_b_trace mc.trace),(ImmA m_a_c_init m_c_c_init mc.c.init),(ArrA m_a_nodes m_c_nodes m_r_nodes),(StA mc.nodes m_r_nodes)]⟩) (fun m1 (v1_3,v1_11)=>mleftS_l1 mc (mleftS_j0) m1 v1_3 v1_11=some y) [0] [0,0,0,0,0] ((mc.nodes.length+1)) ((0:Int),(0:Int)) H ?_
   rintro N1 (_ | m1) ⟨v1_3,v1_11⟩ H hN1
   · exact (noneE H).elim
   replace H:mleftS_l1 mc (mleftS_j0) (m1+1) v1_3 v1_11=some y:=H
   rw [mleftS_l1] at H
   refine xs [] H ?_ ?_
   · intro H
     refine xk [1] [4] (st_len mc.nodes m_r_nodes) fun hl4_0_1=>?_
     refine chkG H fun q4_0_1 H=>?_
     refine xi [] 3 (rA m_a_nodes m_c_nodes m_r_nodes) (rngE hl4_0_1 q4_0_1) fun b1 o1 e1=>?_
     refine xpl [] 3 (ol_ld (rA m_a_nodes m_c_nodes m_r_nodes) e1 (rngE hl4_0_1 q4_0_1) 0 (fun _=>rfl)) ?_
     refine xk [] [4] (st_len mc.nodes m_r_nodes) fun hl5_4_1=>?_
     refine xg [] [] [4] (gh_sfoc mc.nodes m_r_nodes v1_11 (nthT m_r_nodes v1_11) rfl (rngB hl5_4_1 (rngE hl4_0_1 q4_0_1))) fun _=>?_
     refine xg [] [] [0] (gh_open (NodeO (nthT m_r_nodes v1_11).b (nthS mc.nodes v1_11))) fun ⟨b_cache1,b_proc2,a_c_init3,c_c_init4,b_home5,a_deal_data6,c_deal_data7⟩=>?_
     refine xg [0] [] [1] (gh_open (ProcO b_proc2 ((nthS mc.nodes v1_11).proc))) fun ⟨a_ops8,c_ops9,a_values10,c_values11⟩=>?_
     refine bindG H fun y5_5 hy5_5 H=>?_
     refine xc [] [0] [0,0] (prleftF b_proc2 a_ops8 c_ops9 a_values10 c_values11 hy5_5) fun _=>?_
     refine chkG H fun q6_0_1 H=>?_
     refine xd [1,0] (ap q6_0_1 an) ?_
     refine xg [] [0] [0,0] (gh_shut (ProcO b_proc2 ((nthS mc.nodes v1_11).proc)) (a_ops8,c_ops9,a_values10,c_values11)) fun _=>?_
     refine xg [] [0] [1,0,0,0,0] (gh_shut (NodeO (nthT m_r_nodes v1_11).b (nthS mc.nodes v1_11)) (b_cache1,b_proc2,a_c_init3,c_c_init4,b_home5,a_deal_data6,c_deal_data7)) fun _=>?_
     refine xg [] [] [0,0] (gh_sunfs mc.nodes m_r_nodes v1_11 (nthT m_r_nodes v1_11) rfl (rngB hl5_4_1 (rngE hl4_0_1 q4_0_1))) fun _=>?_
     exact xe [] _ [0] [1,1,1,1,0] (hN1 _ (wr (v1_3+y5_5),v1_11+(1:Int)) (Nat.lt_succ_self _) H)
   · intro H
     exact xe [0] _ [0] [0,0,0,0,0] (hN0 (v1_3) H)
def mquietS_j0 (mc:MachS):Option (Bool) :=
 (funderS mc.fab).bind fun y9_4=>some (decide (y9_4=(0:Int)))
def mquietS_l1 (mc:MachS) (k0:Option (Bool)):Nat→Int→Option (Bool)
 |0,_=>none
 |m+1,v1_14=>(bif decide (v1_14<(mc.nodes.length:Int)) then chk (0≤v1_14∧v1_14<(mc.nodes.length:Int)) ((ndealS (nthS mc.nodes v1_14)).bind fun y4_1=>(fwaitS mc.fab v1_14).bind fun y5_5=>(bif y4_1.2 then some false else (prbegunS ((nthS mc.nodes v1_14).proc)).bind fun y6_6=>(bif y6_6 then some false else (bif decide ((0:Int)<(wr (y5_5.1+y5_5.2))) then some false else chk (inR (v1_14+(1:Int))) ((mquietS_l1 mc k0 m) (v1_14+(1:Int))))))) else k0)
def mquietS (mc:MachS):Option (Bool) :=
 mquietS_l1 mc (mquietS_j0 mc) (mc.nodes.length+1) (0:Int)
theorem mquietF {mc:MachS} (m:Nat) (m_b_fab:Nat) (m_b_trace:Nat) (m_a_c_init:Option Addr) (m_c_c_init:Nat) (m_a_nodes:Option Addr) (m_c_nodes:Nat) (m_r_nodes:List PtrR) {y:Bool} (H:mquietS mc=some y):FnY Tryz.prog 22 [.pointer (some ⟨m,0,none⟩)] ⟨[⟨m,#[.pointer (some ⟨m_b_fab,0,none⟩),.pointer (some ⟨m_b_trace,0,none⟩),.int .i64 mc.c.nodes,.int .i64 mc.c.lines,.int .i64 mc.c.words,.int .i64 mc.c.sets,.int .i64 mc.c.ways,.int .i64 mc.c.out,.int .i64 mc.c.inn,.slice m_a_c_init mc.c.init.length m_c_c_init,.slice m_a_nodes m_r_nodes.length m_c_nodes],70⟩],[(FabA m_b_fab mc.fab),(TraceA m_b_trace mc.trace),(ImmA m_a_c_init m_c_c_init mc.c.init),(ArrA m_a_nodes m_c_nodes m_r_nodes),(StA mc.nodes m_r_nodes)]⟩ (Z:=Unit) (fun y _=>.bool y) (fun y _=>⟨[⟨m,#[.pointer (some ⟨m_b_fab,0,none⟩),.pointer (some ⟨m_b_trace,0,none⟩),.int .i64 mc.c.nodes,.int .i64 mc.c.lines,.int .i64 mc.c.words,.int .i64 mc.c.sets,.int .i64 mc.c.ways,.int .i64 mc.c.out,.int .i64 mc.c.inn,.slice m_a_c_init mc.c.init.length m_c_c_init,.slice m_a_nodes m_r_nodes.length m_c_nodes],70⟩],[(FabA m_b_fab mc.fab),(TraceA m_b_trace mc.trace),(ImmA m_a_c_init m_c_c_init mc.c.init),(ArrA m_a_nodes m_c_nodes m_r_nodes),(StA mc.nodes m_r_nodes)]⟩) y:=by
 unfold mquietS at H
 refine xfY Tryz.func22 fun W0 F=>?_
 refine xj [101] (ι:=Unit) (fun _=>⟨[(0,.pointer (some ⟨m,0,none⟩))],[⟨m,#[.pointer (some ⟨m_b_fab,0,none⟩),.pointer (some ⟨m_b_trace,0,none⟩),.int .i64 mc.c.nodes,.int .i64 mc.c.lines,.int .i64 mc.c.words,.int .i64 mc.c.sets,.int .i64 mc.c.ways,.int .i64 mc.c.out,.int .i64 mc.c.inn,.slice m_a_c_init mc.c.init.length m_c_c_init,.slice m_a_nodes m_r_nodes.length m_c_nodes],70⟩],[(FabA m_b_fab mc.fab),(TraceA m_b_trace mc.trace),(ImmA m_a_c_init m_c_c_init mc.c.init),(ArrA m_a_nodes m_c_nodes m_r_nodes),(StA mc.nodes m_r_nodes)]⟩) (fun _=>mquietS_j0 mc=some y) ?_ ?_
 · rintro _ H
   replace H:mquietS_j0 mc=some y:=H
   rw [mquietS_j0] at H
   refine xg [0] [] [0] (gh_open (FabO m_b_fab mc.fab)) fun ⟨a_cs1,c_cs2,r_cs3⟩=>?_
   refine bindG H fun y9_4 hy9_4 H=>?_
   refine xc [] [0] [0,0] (funderF m_b_fab a_cs1 c_cs2 r_cs3 hy9_4) fun _=>?_
   refine xg [] [0] [0,0] (gh_shut (FabO m_b_fab mc.fab) (a_cs1,c_cs2,r_cs3)) fun _=>?_
   exact xrY (someE H) [] [] [0] [0,0,0,0,0] ()
 · intro N0 hN0
   refine xk [0] [4] (st_len mc.nodes m_r_nodes) fun hl1_4_1=>?_
   refine xw [300] 13 (congrArg (fun n:Nat=>Value.int .i64 n) hl1_4_1) ?_
   refine xl [] (ι:=Int) (fun v1_14=>⟨[(0,.pointer (some ⟨m,0,none⟩)),(12,.slice m_a_nodes m_r_nodes.length m_c_nodes),(13,.int .i64 mc.nodes.length),(14,.int .i64 v1_14)],[⟨m,#[.pointer (some ⟨m_b_fab,0,none⟩),.pointer (some ⟨m_b_trace,0,none⟩),.int .i64 mc.c.nodes,.int .i64 mc.c.lines,.int .i64 mc.c.words,.int .i64 mc.c.sets,.int .i64 mc.c.ways,.int .i64 mc.c.out,.int .i64 mc.c.inn,.slice m_a_c_init mc.c.init.length m_c_c_init,.slice m_a_nodes m_r_nodes.length m_c_nodes],70⟩],[(FabA m_b_fab mc.fab),(TraceA m_b_trace mc.trace),(ImmA m_a_c_init m_c_c_init mc.c.init),(ArrA m_a_nodes m_c_nodes m_r_nodes),(StA mc.nodes m_r_nodes)]⟩) (fun m1 v1_14=>mquietS_l1 mc (mquietS_j0 mc) m1 v1_14=some y) [0] [0,0,0,0,0] ((mc.nodes.length+1)) ((0:Int)) H ?_
   rintro N1 (_ | m1) v1_14 H hN1
   · exact (noneE H).elim
   replace H:mquietS_l1 mc (mquietS_j0 mc) (m1+1) v1_14=some y:=H
   rw [mquietS_l1] at H
   refine xs [] H ?_ ?_
   · intro H
     refine xk [1] [4] (st_len mc.nodes m_r_nodes) fun hl3_1_1=>?_
     refine chkG H fun q3_1_1 H=>?_
     refine xi [] 3 (rA m_a_nodes m_c_nodes m_r_nodes) (rngE hl3_1_1 q3_1_1) fun b1 o1 e1=>?_
     refine xpl [] 3 (ol_ld (rA m_a_nodes m_c_nodes m_r_nodes) e1 (rngE hl3_1_1 q3_1_1) 0 (fun _=>rfl)) ?_
     refine xk [] [4] (st_len mc.nodes m_r_nodes) fun hl4_1_1=>?_
     refine xg [] [] [4] (gh_sfoc mc.nodes m_r_nodes v1_14 (nthT m_r_nodes v1_14) rfl (rngB hl4_1_1 (rngE hl3_1_1 q3_1_1))) fun _=>?_
     refine xg [] [] [0] (gh_open (NodeO (nthT m_r_nodes v1_14).b (nthS mc.nodes v1_14))) fun ⟨b_cache4,b_proc5,a_c_init6,c_c_init7,b_home8,a_deal_data9,c_deal_data10⟩=>?_
     refine bindG H fun y4_1 hy4_1 H=>?_
     refine xc [] [0] [0,0,0,0,0] (ndealF (nthT m_r_nodes v1_14).b b_cache4 b_proc5 a_c_init6 c_c_init7 b_home8 a_deal_data9 c_deal_data10 hy4_1) fun ⟨t4_1_a0,t4_1_c0⟩=>?_
     refine xn [] fun b4_5=>?_
     refine xg [0,2] [] [7] (gh_open (FabO m_b_fab mc.fab)) fun ⟨a_cs11,c_cs12,r_cs13⟩=>?_
     refine bindG H fun y5_5 hy5_5 H=>?_
     refine xc [] [0] [0,0] (fwaitF m_b_fab a_cs11 c_cs12 r_cs13 hy5_5) fun _=>?_
     refine xs [] H ?_ ?_
     · intro H
       refine xg [0,0,0,0,0,1,0,0,0,0,1,1] [2] [3,3,3,3,3] (gh_shut (NodeO (nthT m_r_nodes v1_14).b (nthS mc.nodes v1_14)) (b_cache4,b_proc5,a_c_init6,c_c_init7,b_home8,a_deal_data9,c_deal_data10)) fun _=>?_
       refine xg [] [] [0,3] (gh_sunfs mc.nodes m_r_nodes v1_14 (nthT m_r_nodes v1_14) rfl (rngB hl4_1_1 (rngE hl3_1_1 q3_1_1))) fun _=>?_
       refine xg [] [0] [1,1] (gh_shut (FabO m_b_fab mc.fab) (a_cs11,c_cs12,r_cs13)) fun _=>?_
       exact xrY (someE H) [] [] [1] [0,2,2,2,0] ()
     · intro H
       refine xg [1,1,1,1,2,1] [] [4] (gh_open (ProcO b_proc5 ((nthS mc.nodes v1_14).proc))) fun ⟨a_ops14,c_ops15,a_values16,c_values17⟩=>?_
       refine bindG H fun y6_6 hy6_6 H=>?_
       refine xc [1] [0] [0,0] (prbegunF b_proc5 a_ops14 c_ops15 a_values16 c_values17 hy6_6) fun _=>?_
       refine xs [0] H ?_ ?_
       · intro H
         refine xg [0,0,0,0,1,1] [0] [0,0] (gh_shut (ProcO b_proc5 ((nthS mc.nodes v1_14).proc)) (a_ops14,c_ops15,a_values16,c_values17)) fun _=>?_
         refine xg [] [2] [4,0,3,3,3] (gh_shut (NodeO (nthT m_r_nodes v1_14).b (nthS mc.nodes v1_14)) (b_cache4,b_proc5,a_c_init6,c_c_init7,b_home8,a_deal_data9,c_deal_data10)) fun _=>?_
         refine xg [] [] [0,3] (gh_sunfs mc.nodes m_r_nodes v1_14 (nthT m_r_nodes v1_14) rfl (rngB hl4_1_1 (rngE hl3_1_1 q3_1_1))) fun _=>?_
         refine xg [] [0] [1,1] (gh_shut (FabO m_b_fab mc.fab) (a_cs11,c_cs12,r_cs13)) fun _=>?_
         exact xrY (someE H) [] [] [1] [0,2,2,2,0] ()
       · intro H
         refine xs [1,1,1,1,1,0] H ?_ ?_
         · intro H
           refine xg [1] [0] [0,0] (gh_shut (ProcO b_proc5 ((nthS mc.nodes v1_14).proc)) (a_ops14,c_ops15,a_values16,c_values17)) fun _=>?_
           refine xg [] [2] [4,0,3,3,3] (gh_shut (NodeO (nthT m_r_nodes v1_14).b (nthS mc.nodes v1_14)) (b_cache4,b_proc5,a_c_init6,c_c_init7,b_home8,a_deal_data9,c_deal_data10)) fun _=>?_
           refine xg [] [] [0,3] (gh_sunfs mc.nodes m_r_nodes v1_14 (nthT m_r_nodes v1_14) rfl (rngB hl4_1_1 (rngE hl3_1_1 q3_1_1))) fun _=>?_
           refine xg [] [0] [1,1] (gh_shut (FabO m_b_fab mc.fab) (a_cs11,c_cs12,r_cs13)) fun _=>?_
           exact xrY (someE H) [] [] [1] [0,2,2,2,0] ()
         · intro H
           refine chkG H fun q8_0_1 H=>?_
           refine xd [0,0] (ap q8_0_1 an) ?_
           refine xg [] [0] [0,0] (gh_shut (ProcO b_proc5 ((nthS mc.nodes v1_14).proc)) (a_ops14,c_ops15,a_values16,c_values17)) fun _=>?_
           refine xg [] [2] [4,0,3,3,3] (gh_shut (NodeO (nthT m_r_nodes v1_14).b (nthS mc.nodes v1_14)) (b_cache4,b_proc5,a_c_init6,c_c_init7,b_home8,a_deal_data9,c_deal_data10)) fun _=>?_
           refine xg [] [] [0,3] (gh_sunfs mc.nodes m_r_nodes v1_14 (nthT m_r_nodes v1_14) rfl (rngB hl4_1_1 (rngE hl3_1_1 q3_1_1))) fun _=>?_
           refine xg [] [0] [1,1] (gh_shut (FabO m_b_fab mc.fab) (a_cs11,c_cs12,r_cs13)) fun _=>?_
           exact xe [] _ [1] [0,2,2,2,0] (hN1 _ (v1_14+(1:Int)) (Nat.lt_succ_self _) H)
   · intro H
     exact xe [0] _ [0] [0,0,0,0,0] (hN0 () H)
def mdoS (mc:MachS) (p:PickS):Option (Bool×MachS) :=
 (bif p.deliver then (fdelS mc.fab p.at_ p.bit p.mask).bind fun y2_10=>some (decide (y2_10.1=(0:Int)),({ mc with fab:=y2_10.2 }:MachS)) else (mnodeS mc p.at_).bind fun y3_3=>(optM y3_3 (fun k3_3=>chk (0≤k3_3∧k3_3<(mc.nodes.length:Int)) ((nstepS (nthS mc.nodes k3_3) mc.fab mc.trace).bind fun y4_12=>some (!(decide (y4_12.1=(0:Int))),({ mc with fab:=y4_12.2.2.1,trace:=y4_12.2.2.2,nodes:=(setS mc.nodes k3_3 y4_12.2.1) }:MachS)))) (some (false,mc))))
theorem mdoF {mc:MachS} {p:PickS} (m:Nat) {y:Bool×MachS} (H:mdoS mc p=some y):FnY Tryz.prog 21 [.pointer (some ⟨m,0,none⟩),.agg #[.bool p.deliver,.int .i64 p.at_,.int .i64 p.bit,.int .u16 p.mask]] ⟨[],[(MachA m mc)]⟩ (Z:=Unit) (fun y _=>.bool y.1) (fun y _=>⟨[],[(MachA m y.2)]⟩) y:=by
 unfold mdoS at H
 refine xfY Tryz.func21 fun W0 F=>?_
 refine xn [] fun b0_0=>?_
 refine xs [0] H ?_ ?_
 · intro H
   refine xg [1,0,1,2,3] [] [0] (gh_open (MachO m mc)) fun ⟨b_fab1,b_trace2,a_c_init3,c_c_init4,a_nodes5,c_nodes6,r_nodes7⟩=>?_
   refine bindG H fun y2_10 hy2_10 H=>?_
   refine xc [0,4,5,1,6,7,1,8,9,1,10] [] [0] (fdelF b_fab1 hy2_10) fun _=>?_
   refine xg [11,12] [0] [0,0,0,0,0] (gh_shut (MachO m ({ mc with fab:=y2_10.2 }:MachS)) (b_fab1,b_trace2,a_c_init3,c_c_init4,a_nodes5,c_nodes6,r_nodes7)) fun _=>?_
   exact xrY (someE H) [] [] [] [0] ()
 · intro H
   refine xg [0,0] [] [0] (gh_open (MachO m mc)) fun ⟨b_fab8,b_trace9,a_c_init10,c_c_init11,a_nodes12,c_nodes13,r_nodes14⟩=>?_
   refine bindG H fun y3_3 hy3_3 H=>?_
   refine xc [] [0] [0,0,0,0,0] (mnodeF m b_fab8 b_trace9 a_c_init10 c_c_init11 a_nodes12 c_nodes13 r_nodes14 hy3_3) fun _=>?_
   refine optG H (fun hk3_3 H=>?_) fun k3_3 hk3_3 H=>?_
   · refine xw [300] 23 (v:=(nodeV r_nodes14 y3_3)) (v':=.pointer none) (by rw [hk3_3]; rfl) ?_
     refine xg [0,1,2,3,0,4,0,5,0,6,0,7,0,8,0,9,0,10,0,11,0,12,0,13,0,14,0,15] [0] [0,0,0,0,0] (gh_shut (MachO m mc) (b_fab8,b_trace9,a_c_init10,c_c_init11,a_nodes12,c_nodes13,r_nodes14)) fun _=>?_
     exact xrY (someE H) [] [] [] [0] ()
   · refine xw [300] 23 (v:=(nodeV r_nodes14 y3_3)) (v':=.pointer (some ⟨(nthT r_nodes14 k3_3).b,0,none⟩)) (by rw [hk3_3]; rfl) ?_
     refine xk [0,1,2,3,1,4,1,5,1,6,1,7,1,0,8,1,9,1,10,1,11,1,0,12,1] [4] (st_len mc.nodes r_nodes14) fun hl4_12_1=>?_
     refine chkG H fun q4_12_1 H=>?_
     refine xg [] [] [4] (gh_sfoc mc.nodes r_nodes14 k3_3 (nthT r_nodes14 k3_3) rfl (rngB hl4_12_1 (rngE hl4_12_1 q4_12_1))) fun _=>?_
     refine bindG H fun y4_12 hy4_12 H=>?_
     refine xc [1] [] [0,1,1] (nstepF (nthT r_nodes14 k3_3).b b_fab8 b_trace9 hy4_12) fun _=>?_
     refine xg [13,1,14,1,15] [] [0,2] (gh_sunf mc.nodes r_nodes14 k3_3 (nthT r_nodes14 k3_3) y4_12.2.1 rfl (rngB hl4_12_1 (rngE hl4_12_1 q4_12_1)) rfl) fun _=>?_
     refine xg [] [0] [1,1,1,1,0] (gh_shut (MachO m ({ mc with fab:=y4_12.2.2.1,trace:=y4_12.2.2.2,nodes:=(setS mc.nodes k3_3 y4_12.2.1) }:MachS)) (b_fab8,b_trace9,a_c_init10,c_c_init11,a_nodes12,c_nodes13,r_nodes14)) fun _=>?_
     exact xrY (someE H) [] [] [] [0] ()
def mnewmS_j0 (e0_b8_5:MachS):Option (Option MachS×Int) :=
 some ((some e0_b8_5),(0:Int))
def mnewmS_l1 (programs:List (List OpS)) (c:CfgS) (y7_2:List Int) (k0:MachS→Option (Option MachS×Int)):Nat→Int→MachS→Option (Option MachS×Int)
 |0,_,_=>none
 |m+1,v1_34,v1_b8_5=>(bif decide (v1_34<(programs.length:Int)) then chk (0≤v1_34∧v1_34<(programs.length:Int)) (letP (nthT programs v1_34) fun x11_2=>(nnewS (⟨c.nodes,c.lines,c.words,c.sets,c.ways,c.out,c.inn,y7_2⟩:CfgS) v1_34 x11_2).bind fun y12_8=>chk (v1_b8_5.nodes.length+1≤1099511627776) (chk (inR (v1_34+(1:Int))) ((mnewmS_l1 programs c y7_2 k0 m) (v1_34+(1:Int)) ({ v1_b8_5 with nodes:=(v1_b8_5.nodes++[y12_8]) }:MachS)))) else k0 v1_b8_5)
def mnewmS (c:CfgS) (programs:List (List OpS)):Option (Option MachS×Int) :=
 (pcheckS c).bind fun y1_1=>(bif !(decide (y1_1=(0:Int))) then some (none,y1_1) else (popsS c programs).bind fun y4_2=>(bif !(decide (y4_2=(0:Int))) then some (none,y4_2) else (cloneS c.init).bind fun y7_2=>(fnewS (⟨c.nodes,c.lines,c.words,c.sets,c.ways,c.out,c.inn,y7_2⟩:CfgS)).bind fun y8_1=>(trnewS).bind fun y8_2=>mnewmS_l1 programs c y7_2 mnewmS_j0 (programs.length+1) (0:Int) ({ fab:=y8_1,trace:=y8_2,c:=(⟨c.nodes,c.lines,c.words,c.sets,c.ways,c.out,c.inn,y7_2⟩:CfgS),nodes:=([]:List NodeS) }:MachS)))
theorem mnewmF {c:CfgS} {programs:List (List OpS)} {programsA:Asn} (c0a:Option Addr) (c0c:Nat) (programsa:Option Addr) (programsc:Nat) (hprogramsA:Rdb programsA programsa programsc programs) {y:Option MachS×Int} (H:mnewmS c programs=some y):FnY Tryz.prog 10 [.agg #[.int .i64 c.nodes,.int .i64 c.lines,.int .i64 c.words,.int .i64 c.sets,.int .i64 c.ways,.int .i64 c.out,.int .i64 c.inn,.slice c0a c.init.length c0c],.slice programsa programs.length programsc] ⟨[],[(ImmA c0a c0c c.init),programsA]⟩ (Z:=Nat) (fun y (zb0:Nat)=>.tuple #[(optV y.1 zb0),.int .i64 y.2]) (fun y (zb0:Nat)=>⟨[],[(optA (MachA zb0) y.1),programsA]⟩) y:=by
 unfold mnewmS at H
 refine xfY Tryz.func10 fun W0 F=>?_
 refine xn [] fun b0_0=>?_
 refine bindG H fun y1_1 hy1_1 H=>?_
 refine xc [0] [] [] (pcheckF c0a c0c hy1_1) fun _=>?_
 refine xs [] H ?_ ?_
 · intro H
   exact xrY (someE H) [1] [] [] [52,1] (0)
 · intro H
   refine bindG H fun y4_2 hy4_2 H=>?_
   refine xc [0,0] [] [1] (popsF c0a c0c programsa programsc hprogramsA hy4_2) fun _=>?_
   refine xs [] H ?_ ?_
   · intro H
     exact xrY (someE H) [1] [] [] [52,0] (0)
   · intro H
     refine bindG H fun y7_2 hy7_2 H=>?_
     refine xc [0,0] [] [1] (cloneF c0a c0c (rI c0a c0c c.init) hy7_2) fun ⟨t7_2_a0,t7_2_c0⟩=>?_
     refine bindG H fun y8_1 hy8_1 H=>?_
     refine xc [0,0,0,3,0,1] [] [] (fnewF t7_2_a0 t7_2_c0 hy8_1) fun t8_1_b0=>?_
     refine bindG H fun y8_2 hy8_2 H=>?_
     refine xc [2] [] [] (trnewF hy8_2) fun t8_2_b0=>?_
     refine xn [4,5] fun b8_5=>?_
     refine xj [6,100] (ι:=MachS) (fun e0_b8_5=>⟨[(8,.pointer (some ⟨b8_5,0,none⟩))],[],[(MachA b8_5 e0_b8_5),programsA]⟩) (fun e0_b8_5=>mnewmS_j0 e0_b8_5=some y) ?_ ?_
     · rintro e0_b8_5 H
       replace H:mnewmS_j0 e0_b8_5=some y:=H
       rw [mnewmS_j0] at H
       exact xrY (someE H) [] [] [] [0,0] (b8_5)
     · intro N0 hN0
       refine xg [] [] [2] (gh_frz t7_2_a0 t7_2_c0 y7_2) fun _=>?_
       refine xg [] [] [0] (gh_dup t7_2_a0 t7_2_c0 y7_2) fun _=>?_
       refine xg [] [] [] (gh_nil (α:=PtrR) none) fun _=>?_
       refine xg [] [] [] (gh_snil (α:=NodeS)) fun _=>?_
       refine xg [] [0] [5,4,2,1,0] (gh_shut (MachO b8_5 ({ fab:=y8_1,trace:=y8_2,c:=(⟨c.nodes,c.lines,c.words,c.sets,c.ways,c.out,c.inn,y7_2⟩:CfgS),nodes:=([]:List NodeS) }:MachS)) (t8_1_b0,t8_2_b0,t7_2_a0,t7_2_c0,none,0,([]:List PtrR))) fun _=>?_
       refine xl [] (ι:=Int×MachS) (fun (v1_34,v1_b8_5)=>⟨[(2,.pointer (some ⟨b0_0,0,none⟩)),(8,.pointer (some ⟨b8_5,0,none⟩)),(32,.slice programsa programs.length programsc),(33,.int .i64 programs.length),(34,.int .i64 v1_34)],[⟨b0_0,#[.int .i64 c.nodes,.int .i64 c.lines,.int .i64 c.words,.int .i64 c.sets,.int .i64 c.ways,.int .i64 c.out,.int .i64 c.inn,.slice t7_2_a0 y7_2.length t7_2_c0],25⟩],[(MachA b8_5 v1_b8_5),(ImmA t7_2_a0 t7_2_c0 y7_2),programsA]⟩) (fun m1 (v1_34,v1_b8_5)=>mnewmS_l1 programs c y7_2 (mnewmS_j0) m1 v1_34 v1_b8_5=some y) [0] [0,0,1] ((programs.length+1)) ((0:Int),({ fab:=y8_1,trace:=y8_2,c:=(⟨c.nodes,c.lines,c.words,c.sets,c.ways,c.out,c.inn,y7_2⟩:CfgS),nodes:=([]:List NodeS) }:MachS)) H ?_
       rintro N1 (_ | m1) ⟨v1_34,v1_b8_5⟩ H hN1
       · exact (noneE H).elim
       replace H:mnewmS_l1 programs c y7_2 (mnewmS_j0) (m1+1) v1_34 v1_b8_5=some y:=H
       rw [mnewmS_l1] at H
       refine xs [] H ?_ ?_
       · intro H
         refine chkG H fun q11_1_1 H=>?_
         refine xi [1] 2 hprogramsA q11_1_1 fun b1 o1 e1=>?_
         refine letG H fun x11_2 hx11_2 H=>?_
         refine xo [] [] [2] (oc_ld hprogramsA e1 q11_1_1 hx11_2 0) fun z11_2_1=>?_
         refine xg [0,1,2,3,4] [] [2] (gh_open (MachO b8_5 v1_b8_5)) fun ⟨b_fab1,b_trace2,a_c_init3,c_c_init4,a_nodes5,c_nodes6,r_nodes7⟩=>?_
         refine xg [0,5,1,6,7,8] [] [7] (gh_dup t7_2_a0 t7_2_c0 y7_2) fun _=>?_
         refine bindG H fun y12_8 hy12_8 H=>?_
         refine xc [] [] [0,6] (nnewF t7_2_a0 t7_2_c0 z11_2_1.1 z11_2_1.2 (rI z11_2_1.1 z11_2_1.2 x11_2) hy12_8) fun t12_8_b0=>?_
         refine xn [9] fun b12_9=>?_
         refine xg [10] [0] [9] (gh_one b12_9 44 (⟨t12_8_b0⟩:PtrR) ()) fun _=>?_
         refine xk [] [8] (st_len v1_b8_5.nodes r_nodes7) fun hl12_10_1=>?_
         refine chkG H fun q12_10_1 H=>?_
         refine xa [] [7,0] (a:=a_nodes5) (l:=r_nodes7) (zs:=(r_nodes7++[(⟨t12_8_b0⟩:PtrR)])) (cap:=c_nodes6) (rA (some ⟨b12_9,0,none⟩) 1 ([(⟨t12_8_b0⟩:PtrR)])) rfl (apG (e:=(⟨t12_8_b0⟩:PtrR)) hl12_10_1 q12_10_1) fun ⟨a12_10,c12_10⟩=>?_
         refine xg [] [] [2,7] (gh_ssnoc v1_b8_5.nodes r_nodes7 y12_8 (⟨t12_8_b0⟩:PtrR)) fun _=>?_
         refine chkG H fun q13_0_1 H=>?_
         refine xd [11,12,13,0,0] (ap q13_0_1 an) ?_
         refine xg [] [0] [5,5,5,1,0] (gh_shut (MachO b8_5 ({ v1_b8_5 with nodes:=(v1_b8_5.nodes++[y12_8]) }:MachS)) (b_fab1,b_trace2,a_c_init3,c_c_init4,a12_10,c12_10,(r_nodes7++[(⟨t12_8_b0⟩:PtrR)]))) fun _=>?_
         exact xe [] _ [0] [0,2,2] (hN1 _ (v1_34+(1:Int),({ v1_b8_5 with nodes:=(v1_b8_5.nodes++[y12_8]) }:MachS)) (Nat.lt_succ_self _) H)
       · intro H
         exact xe [0] _ [] [0,1] (hN0 (v1_b8_5) H)
def roverS (mc:MachS):Option (Bool) :=
 (mquietS mc).bind fun y1_1=>(bif y1_1 then (mleftS mc).bind fun y1_4=>some (decide (y1_4=(0:Int))) else some false)
theorem roverF {mc:MachS} (m:Nat) (m_b_fab:Nat) (m_b_trace:Nat) (m_a_c_init:Option Addr) (m_c_c_init:Nat) (m_a_nodes:Option Addr) (m_c_nodes:Nat) (m_r_nodes:List PtrR) {y:Bool} (H:roverS mc=some y):FnY Tryz.prog 87 [.pointer (some ⟨m,0,none⟩)] ⟨[⟨m,#[.pointer (some ⟨m_b_fab,0,none⟩),.pointer (some ⟨m_b_trace,0,none⟩),.int .i64 mc.c.nodes,.int .i64 mc.c.lines,.int .i64 mc.c.words,.int .i64 mc.c.sets,.int .i64 mc.c.ways,.int .i64 mc.c.out,.int .i64 mc.c.inn,.slice m_a_c_init mc.c.init.length m_c_c_init,.slice m_a_nodes m_r_nodes.length m_c_nodes],70⟩],[(FabA m_b_fab mc.fab),(TraceA m_b_trace mc.trace),(ImmA m_a_c_init m_c_c_init mc.c.init),(ArrA m_a_nodes m_c_nodes m_r_nodes),(StA mc.nodes m_r_nodes)]⟩ (Z:=Unit) (fun y _=>.bool y) (fun y _=>⟨[⟨m,#[.pointer (some ⟨m_b_fab,0,none⟩),.pointer (some ⟨m_b_trace,0,none⟩),.int .i64 mc.c.nodes,.int .i64 mc.c.lines,.int .i64 mc.c.words,.int .i64 mc.c.sets,.int .i64 mc.c.ways,.int .i64 mc.c.out,.int .i64 mc.c.inn,.slice m_a_c_init mc.c.init.length m_c_c_init,.slice m_a_nodes m_r_nodes.length m_c_nodes],70⟩],[(FabA m_b_fab mc.fab),(TraceA m_b_trace mc.trace),(ImmA m_a_c_init m_c_c_init mc.c.init),(ArrA m_a_nodes m_c_nodes m_r_nodes),(StA mc.nodes m_r_nodes)]⟩) y:=by
 unfold roverS at H
 refine xfY Tryz.func87 fun W0 F=>?_
 refine bindG H fun y1_1 hy1_1 H=>?_
 refine xc [] [0] [0,0,0,0,0] (mquietF m m_b_fab m_b_trace m_a_c_init m_c_c_init m_a_nodes m_c_nodes m_r_nodes hy1_1) fun _=>?_
 refine xs [] H ?_ ?_
 · intro H
   refine bindG H fun y1_4 hy1_4 H=>?_
   refine xc [1,1] [0] [0,0,0,0,0] (mleftF m m_b_fab m_b_trace m_a_c_init m_c_c_init m_a_nodes m_c_nodes m_r_nodes hy1_4) fun _=>?_
   exact xrY (someE H) [1,1] [] [0] [0,0,0,0,0] ()
 · intro H
   exact xrY (someE H) [0,0,0,0] [] [0] [0,0,0,0,0] ()
end
section
open Go Go.RowKit
def sidxS_j0:Option (Int) :=
 some ((-1):Int)
def sidxS_l1 (s:List Int) (v:Int) (k0:Option (Int)):Nat→Int→Option (Int)
 |0,_=>none
 |m+1,v1_8=>(bif decide (v1_8<(s.length:Int)) then chk (0≤v1_8∧v1_8<(s.length:Int)) ((bif decide (v=(nth s v1_8)) then some v1_8 else chk (inR (v1_8+(1:Int))) ((sidxS_l1 s v k0 m) (v1_8+(1:Int))))) else k0)
def sidxS (s:List Int) (v:Int):Option (Int) :=
 sidxS_l1 s v sidxS_j0 (s.length+1) (0:Int)
theorem sidxF {s:List Int} {sA:Asn} {v:Int} (sa:Option Addr) (sc:Nat) (hsA:Rdb sA sa sc s) {y:Int} (H:sidxS s v=some y):FnY Tryz.prog 90 [.slice sa s.length sc,.int .i64 v] ⟨[],[sA]⟩ (Z:=Unit) (fun y _=>.int .i64 y) (fun y _=>⟨[],[sA]⟩) y:=by
 unfold sidxS at H
 refine xfY Tryz.func90 fun W0 F=>?_
 refine xj [101] (ι:=Unit) (fun _=>⟨[],[],[sA]⟩) (fun _=>sidxS_j0=some y) ?_ ?_
 · rintro _ H
   replace H:sidxS_j0=some y:=H
   rw [sidxS_j0] at H
   exact xrY (someE H) [] [] [] [0] ()
 · intro N0 hN0
   refine xl [] (ι:=Int) (fun v1_8=>⟨[(0,.slice sa s.length sc),(1,.int .i64 v),(7,.int .i64 s.length),(8,.int .i64 v1_8)],[],[sA]⟩) (fun m1 v1_8=>sidxS_l1 s v (sidxS_j0) m1 v1_8=some y) [] [0] ((s.length+1)) ((0:Int)) H ?_
   rintro N1 (_ | m1) v1_8 H hN1
   · exact (noneE H).elim
   replace H:sidxS_l1 s v (sidxS_j0) (m1+1) v1_8=some y:=H
   rw [sidxS_l1] at H
   refine xs [] H ?_ ?_
   · intro H
     refine chkG H fun q4_3_1 H=>?_
     refine xi [1] 0 hsA q4_3_1 fun b1 o1 e1=>?_
     refine xpl [] 0 (ol_ld hsA e1 q4_3_1 0 (fun _=>rfl)) ?_
     refine xs [] H ?_ ?_
     · intro H
       exact xrY (someE H) [1] [] [] [0] ()
     · intro H
       refine chkG H fun q6_0_1 H=>?_
       refine xd [0,0] (ap q6_0_1 an) ?_
       exact xe [] _ [] [0] (hN1 _ (v1_8+(1:Int)) (Nat.lt_succ_self _) H)
   · intro H
     exact xe [0] _ [] [0] (hN0 () H)
def scontS (s:List Int) (v:Int):Option (Bool) :=
 (sidxS s v).bind fun y1_2=>some (decide ((0:Int)≤y1_2))
theorem scontF {s:List Int} {sA:Asn} {v:Int} (sa:Option Addr) (sc:Nat) (hsA:Rdb sA sa sc s) {y:Bool} (H:scontS s v=some y):FnY Tryz.prog 48 [.slice sa s.length sc,.int .i64 v] ⟨[],[sA]⟩ (Z:=Unit) (fun y _=>.bool y) (fun y _=>⟨[],[sA]⟩) y:=by
 unfold scontS at H
 refine xfY Tryz.func48 fun W0 F=>?_
 refine bindG H fun y1_2 hy1_2 H=>?_
 refine xc [] [] [0] (sidxF sa sc hsA hy1_2) fun _=>?_
 exact xrY (someE H) [] [] [] [0] ()
def seqS_j0:Option (Bool) :=
 some true
def seqS_l1 (a:List Int) (b:List Int) (k0:Option (Bool)):Nat→Int→Option (Bool)
 |0,_=>none
 |m+1,v1_13=>(bif decide (v1_13<(a.length:Int)) then chk (0≤v1_13∧v1_13<(a.length:Int)) (chk (0≤v1_13∧v1_13<(b.length:Int)) ((bif !(decide ((nth a v1_13)=(nth b v1_13))) then some false else chk (inR (v1_13+(1:Int))) ((seqS_l1 a b k0 m) (v1_13+(1:Int)))))) else k0)
def seqS (a:List Int) (b:List Int):Option (Bool) :=
 (bif !(decide ((a.length:Int)=(b.length:Int))) then some false else seqS_l1 a b seqS_j0 (a.length+1) (0:Int))
theorem seqF {a:List Int} {aA:Asn} {b:List Int} {bA:Asn} (aa:Option Addr) (ac:Nat) (ba:Option Addr) (bc:Nat) (haA:Rdb aA aa ac a) (hbA:Rdb bA ba bc b) {y:Bool} (H:seqS a b=some y):FnY Tryz.prog 49 [.slice aa a.length ac,.slice ba b.length bc] ⟨[],[aA,bA]⟩ (Z:=Unit) (fun y _=>.bool y) (fun y _=>⟨[],[aA,bA]⟩) y:=by
 unfold seqS at H
 refine xfY Tryz.func49 fun W0 F=>?_
 refine xs [] H ?_ ?_
 · intro H
   exact xrY (someE H) [1] [] [] [0,0] ()
 · intro H
   refine xj [0,100] (ι:=Unit) (fun _=>⟨[],[],[aA,bA]⟩) (fun _=>seqS_j0=some y) ?_ ?_
   · rintro _ H
     replace H:seqS_j0=some y:=H
     rw [seqS_j0] at H
     exact xrY (someE H) [] [] [] [0,0] ()
   · intro N0 hN0
     refine xl [] (ι:=Int) (fun v1_13=>⟨[(0,.slice aa a.length ac),(1,.slice ba b.length bc),(12,.int .i64 a.length),(13,.int .i64 v1_13)],[],[aA,bA]⟩) (fun m1 v1_13=>seqS_l1 a b (seqS_j0) m1 v1_13=some y) [] [0,0] ((a.length+1)) ((0:Int)) H ?_
     rintro N1 (_ | m1) v1_13 H hN1
     · exact (noneE H).elim
     replace H:seqS_l1 a b (seqS_j0) (m1+1) v1_13=some y:=H
     rw [seqS_l1] at H
     refine xs [] H ?_ ?_
     · intro H
       refine chkG H fun q6_2_1 H=>?_
       refine xi [1,0,1,2] 0 haA q6_2_1 fun b1 o1 e1=>?_
       refine xpl [3] 0 (ol_ld haA e1 q6_2_1 0 (fun _=>rfl)) ?_
       refine chkG H fun q6_6_1 H=>?_
       refine xi [4,5,6] 1 hbA q6_6_1 fun b2 o2 e2=>?_
       refine xpl [7] 1 (ol_ld hbA e2 q6_6_1 0 (fun _=>rfl)) ?_
       refine xs [8] H ?_ ?_
       · intro H
         exact xrY (someE H) [1] [] [] [0,0] ()
       · intro H
         refine chkG H fun q8_0_1 H=>?_
         refine xd [0,0] (ap q8_0_1 an) ?_
         exact xe [] _ [] [0,0] (hN1 _ (v1_13+(1:Int)) (Nat.lt_succ_self _) H)
     · intro H
       exact xe [0] _ [] [0,0] (hN0 () H)
def rboundS_j0 (c:CfgS) (e0_5:Int):Option (Int) :=
 chk (inR (e0_5+(1:Int))) (chk (inR ((40:Int)*(e0_5+(1:Int)))) (letP (wr (((40:Int)*(e0_5+(1:Int)))*(wr (c.nodes+(6:Int))))) fun u7_6=>some u7_6))
def rboundS_l1 (programs:List (List OpS)) (k0:Int→Option (Int)):Nat→Int→Int→Option (Int)
 |0,_,_=>none
 |m+1,v1_5,v1_10=>(bif decide (v1_10<(programs.length:Int)) then chk (0≤v1_10∧v1_10<(programs.length:Int)) (letP (nthT programs v1_10) fun x4_1=>letP (wr (v1_5+(x4_1.length:Int))) fun u5_3=>chk (inR (v1_10+(1:Int))) ((rboundS_l1 programs k0 m) u5_3 (v1_10+(1:Int)))) else k0 v1_5)
def rboundS (c:CfgS) (programs:List (List OpS)):Option (Int) :=
 rboundS_l1 programs (rboundS_j0 c) (programs.length+1) (0:Int) (0:Int)
theorem rboundF {c:CfgS} {programs:List (List OpS)} {programsA:Asn} (c0a:Option Addr) (c0c:Nat) (programsa:Option Addr) (programsc:Nat) (hprogramsA:Rdb programsA programsa programsc programs) {y:Int} (H:rboundS c programs=some y):FnY Tryz.prog 43 [.agg #[.int .i64 c.nodes,.int .i64 c.lines,.int .i64 c.words,.int .i64 c.sets,.int .i64 c.ways,.int .i64 c.out,.int .i64 c.inn,.slice c0a c.init.length c0c],.slice programsa programs.length programsc] ⟨[],[programsA]⟩ (Z:=Unit) (fun y _=>.int .i64 y) (fun y _=>⟨[],[programsA]⟩) y:=by
 unfold rboundS at H
 refine xfY Tryz.func43 fun W0 F=>?_
 refine xn [] fun b0_0=>?_
 refine xj [101] (ι:=Int) (fun e0_5=>⟨[(2,.pointer (some ⟨b0_0,0,none⟩)),(5,.int .i64 e0_5)],[⟨b0_0,#[.int .i64 c.nodes,.int .i64 c.lines,.int .i64 c.words,.int .i64 c.sets,.int .i64 c.ways,.int .i64 c.out,.int .i64 c.inn,.slice c0a c.init.length c0c],25⟩],[programsA]⟩) (fun e0_5=>rboundS_j0 c e0_5=some y) ?_ ?_
 · rintro e0_5 H
   replace H:rboundS_j0 c e0_5=some y:=H
   rw [rboundS_j0] at H
   refine chkG H fun q7_1_1 H=>?_
   refine chkG H fun q7_2_1 H=>?_
   refine letG H fun u7_6 hu7_6 H=>?_
   refine xd [0,0,0,1,1,300] (ap q7_1_1 (ap q7_2_1 an)) ?_
   refine xw [300] 25 (congrArg (Value.int .i64) hu7_6) ?_
   exact xrY (someE H) [] [] [] [0] ()
 · intro N0 hN0
   refine xl [] (ι:=Int×Int) (fun (v1_5,v1_10)=>⟨[(2,.pointer (some ⟨b0_0,0,none⟩)),(5,.int .i64 v1_5),(8,.slice programsa programs.length programsc),(9,.int .i64 programs.length),(10,.int .i64 v1_10)],[⟨b0_0,#[.int .i64 c.nodes,.int .i64 c.lines,.int .i64 c.words,.int .i64 c.sets,.int .i64 c.ways,.int .i64 c.out,.int .i64 c.inn,.slice c0a c.init.length c0c],25⟩],[programsA]⟩) (fun m1 (v1_5,v1_10)=>rboundS_l1 programs (rboundS_j0 c) m1 v1_5 v1_10=some y) [0] [0] ((programs.length+1)) ((0:Int),(0:Int)) H ?_
   rintro N1 (_ | m1) ⟨v1_5,v1_10⟩ H hN1
   · exact (noneE H).elim
   replace H:rboundS_l1 programs (rboundS_j0 c) (m1+1) v1_5 v1_10=some y:=H
   rw [rboundS_l1] at H
   refine xs [] H ?_ ?_
   · intro H
     refine chkG H fun q4_0_1 H=>?_
     refine xi [1] 0 hprogramsA q4_0_1 fun b1 o1 e1=>?_
     refine letG H fun x4_1 hx4_1 H=>?_
     refine xo [] [] [0] (oc_ld hprogramsA e1 q4_0_1 hx4_1 0) fun z4_1_1=>?_
     refine letG H fun u5_3 hu5_3 H=>?_
     refine xw [1,300] 17 (congrArg (Value.int .i64) hu5_3) ?_
     refine chkG H fun q6_0_1 H=>?_
     refine xd [0] (ap q6_0_1 an) ?_
     exact xe [] _ [0] [1] (hN1 _ (u5_3,v1_10+(1:Int)) (Nat.lt_succ_self _) H)
   · intro H
     exact xe [0] _ [0] [0] (hN0 (v1_5) H)
def wst1S (e:Ent) (rw_v:RowS):Option (Bool) :=
 (bif e.dirty then some true else (seqS e.data rw_v.data).bind fun y1_7=>some !y1_7)
theorem wst1F {e:Ent} {e0A:Asn} {rw_v:RowS} {rw_0A:Asn} (e0a:Option Addr) (e0c:Nat) (rw_:Nat) (rw_0a:Option Addr) (rw_0c:Nat) (he0A:Rdb e0A e0a e0c e.data) (hrw_0A:Rdb rw_0A rw_0a rw_0c rw_v.data) {y:Bool} (H:wst1S e rw_v=some y):FnY Tryz.prog 95 [.agg #[.int .i64 e.fwd,.int .i64 e.back,.int .i64 e.line,.int .i64 e.used,.bool e.dirty,.slice e0a e.data.length e0c],.pointer (some ⟨rw_,0,none⟩)] ⟨[⟨rw_,#[.int .i64 rw_v.state,.int .i64 rw_v.head,.slice rw_0a rw_v.data.length rw_0c],86⟩],[e0A,rw_0A]⟩ (Z:=Unit) (fun y _=>.bool y) (fun y _=>⟨[⟨rw_,#[.int .i64 rw_v.state,.int .i64 rw_v.head,.slice rw_0a rw_v.data.length rw_0c],86⟩],[e0A,rw_0A]⟩) y:=by
 unfold wst1S at H
 refine xfY Tryz.func95 fun W0 F=>?_
 refine xn [] fun b0_0=>?_
 refine xs [0] H ?_ ?_
 · intro H
   exact xrY (someE H) [0,0,0,0,0,0,1] [] [1] [0,0] ()
 · intro H
   refine bindG H fun y1_7 hy1_7 H=>?_
   refine xc [1,1,0,1,1,1,1] [] [0,0] (seqF e0a e0c rw_0a rw_0c he0A hrw_0A hy1_7) fun _=>?_
   exact xrY (someE H) [1,0] [] [1] [0,0] ()
end
section
open Go Go.RowKit
def patS (l:List Int) (i:Int):Option (Int) :=
 (bif decide (i<(l.length:Int)) then chk (0≤i∧i<(l.length:Int)) (some (nth l i)) else some (0:Int))
theorem patF {l:List Int} {lA:Asn} {i:Int} (la:Option Addr) (lc:Nat) (hlA:Rdb lA la lc l) {y:Int} (H:patS l i=some y):FnY Tryz.prog 69 [.slice la l.length lc,.int .i64 i] ⟨[],[lA]⟩ (Z:=Unit) (fun y _=>.int .i64 y) (fun y _=>⟨[],[lA]⟩) y:=by
 unfold patS at H
 refine xfY Tryz.func69 fun W0 F=>?_
 refine xs [] H ?_ ?_
 · intro H
   refine chkG H fun q2_2_1 H=>?_
   refine xi [1] 0 hlA q2_2_1 fun b1 o1 e1=>?_
   refine xpl [] 0 (ol_ld hlA e1 q2_2_1 0 (fun _=>rfl)) ?_
   exact xrY (someE H) [] [] [] [0] ()
 · intro H
   exact xrY (someE H) [0] [] [] [0] ()
def pconfS (s:SetupS):Option (CfgS) :=
 (withinS s.nodes (4:Int)).bind fun y1_2=>(withinS s.lines (4:Int)).bind fun y1_6=>(withinS s.words (2:Int)).bind fun y1_10=>(withinS s.sets (2:Int)).bind fun y1_14=>(withinS s.ways (2:Int)).bind fun y1_18=>(withinS s.out (3:Int)).bind fun y1_22=>(withinS s.inn (3:Int)).bind fun y1_26=>letP (wr ((wr ((1:Int)+y1_6))*(wr ((1:Int)+y1_10)))) fun u2_6=>(cutS s.init u2_6).bind fun y2_7=>some (⟨wr ((1:Int)+y1_2),wr ((1:Int)+y1_6),wr ((1:Int)+y1_10),wr ((1:Int)+y1_14),wr ((1:Int)+y1_18),wr ((1:Int)+y1_22),wr ((1:Int)+y1_26),y2_7⟩:CfgS)
theorem pconfF {s:SetupS} {s0A:Asn} {s1A:Asn} {s2A:Asn} {s3A:Asn} {s4A:Asn} (s0a:Option Addr) (s0c:Nat) (s1a:Option Addr) (s1c:Nat) (s2a:Option Addr) (s2c:Nat) (s3a:Option Addr) (s3c:Nat) (s4a:Option Addr) (s4c:Nat) (hs0A:Rdb s0A s0a s0c s.init) (hs1A:Rdb s1A s1a s1c s.who) (hs2A:Rdb s2A s2a s2c s.kinds) (hs3A:Rdb s3A s3a s3c s.addrs) (hs4A:Rdb s4A s4a s4c s.values) {y:CfgS} (H:pconfS s=some y):FnY Tryz.prog 25 [.agg #[.int .i64 s.nodes,.int .i64 s.lines,.int .i64 s.words,.int .i64 s.sets,.int .i64 s.ways,.int .i64 s.out,.int .i64 s.inn,.slice s0a s.init.length s0c,.slice s1a s.who.length s1c,.slice s2a s.kinds.length s2c,.slice s3a s.addrs.length s3c,.slice s4a s.values.length s4c]] ⟨[],[s0A,s1A,s2A,s3A,s4A]⟩ (Z:=Option Addr×Nat) (fun y (za0,zc0)=>.agg #[.int .i64 y.nodes,.int .i64 y.lines,.int .i64 y.words,.int .i64 y.sets,.int .i64 y.ways,.int .i64 y.out,.int .i64 y.inn,.slice za0 y.init.length zc0]) (fun y (za0,zc0)=>⟨[],[(ArrA za0 zc0 y.init),s0A,s1A,s2A,s3A,s4A]⟩) y:=by
 unfold pconfS at H
 refine xfY Tryz.func25 fun W0 F=>?_
 refine xn [] fun b0_0=>?_
 refine xn [] fun b0_1=>?_
 refine bindG H fun y1_2 hy1_2 H=>?_
 refine xq [0,1,1,2] (within_fq hy1_2) ?_
 refine bindG H fun y1_6 hy1_6 H=>?_
 refine xq [3,1,4,5,1,6] (within_fq hy1_6) ?_
 refine bindG H fun y1_10 hy1_10 H=>?_
 refine xq [7,1,8,9,1,10] (within_fq hy1_10) ?_
 refine bindG H fun y1_14 hy1_14 H=>?_
 refine xq [11,1,12,13,1,14] (within_fq hy1_14) ?_
 refine bindG H fun y1_18 hy1_18 H=>?_
 refine xq [15,1,16,17,1,18] (within_fq hy1_18) ?_
 refine bindG H fun y1_22 hy1_22 H=>?_
 refine xq [19,1,20,21,1,22] (within_fq hy1_22) ?_
 refine bindG H fun y1_26 hy1_26 H=>?_
 refine xq [23,1,24,25,1,26] (within_fq hy1_26) ?_
 refine xn [27,1,28,29] fun b1_29=>?_
 refine letG H fun u2_6 hu2_6 H=>?_
 refine xw [30,0,2,0,0,1,300] 39 (congrArg (Value.int .i64) hu2_6) ?_
 refine bindG H fun y2_7 hy2_7 H=>?_
 refine xc [] [] [0] (cutF s0a s0c hs0A hy2_7) fun ⟨t2_7_a0,t2_7_c0⟩=>?_
 exact xrY (someE H) [0,0,1] [1] [] [0,0,0,0,0,0] (t2_7_a0,t2_7_c0)
def ppickS_j0 (y5_3:Int) (e0_b5_5_2:Int) (e0_b5_5_3:Int):Option (PickS) :=
 some (⟨true,y5_3,e0_b5_5_2,e0_b5_5_3⟩:PickS)
def ppickS (x:ChoiceS) (nodes:Int) (under:Int):Option (PickS) :=
 (bif decide ((x.do_.tmod (23:Int))=(22:Int)) then some (⟨decide ((x.bit.tmod (2:Int))=(0:Int)),x.at_,x.bit,x.mask⟩:PickS) else (withinS x.do_ (2:Int)).bind fun y3_2=>(bif decide (y3_2=(0:Int)) then (withinS x.at_ nodes).bind fun y4_3=>some (⟨false,y4_3,(0:Int),(0:Int)⟩:PickS) else (withinS x.at_ under).bind fun y5_3=>(bif decide ((x.do_.tmod (7:Int))=(6:Int)) then (withinS x.bit (120:Int)).bind fun y7_2=>(ppickS_j0 y5_3) y7_2 x.mask else (ppickS_j0 y5_3) (0:Int) (0:Int))))
theorem ppickF {x:ChoiceS} {nodes:Int} {under:Int} {y:PickS} (H:ppickS x nodes under=some y):FnY Tryz.prog 70 [.agg #[.int .i64 x.do_,.int .i64 x.at_,.int .i64 x.bit,.int .u16 x.mask],.int .i64 nodes,.int .i64 under] ⟨[],[]⟩ (Z:=Unit) (fun y _=>.agg #[.bool y.deliver,.int .i64 y.at_,.int .i64 y.bit,.int .u16 y.mask]) (fun y _=>⟨[],[]⟩) y:=by
 unfold ppickS at H
 refine xfY Tryz.func70 fun W0 F=>?_
 refine xn [] fun b0_0=>?_
 refine xn [] fun b0_1=>?_
 refine xs [1] H ?_ ?_
 · intro H
   exact xrY (someE H) [1,1,1,1,1,0] [0] [] [] ()
 · intro H
   refine bindG H fun y3_2 hy3_2 H=>?_
   refine xq [0,1] (within_fq hy3_2) ?_
   refine xs [] H ?_ ?_
   · intro H
     refine bindG H fun y4_3 hy4_3 H=>?_
     refine xq [1,1] (within_fq hy4_3) ?_
     exact xrY (someE H) [0] [0] [] [] ()
   · intro H
     refine bindG H fun y5_3 hy5_3 H=>?_
     refine xq [0,1] (within_fq hy5_3) ?_
     refine xn [] fun b5_5=>?_
     refine xj [0,100] (ι:=Int×Int) (fun (e0_b5_5_2,e0_b5_5_3)=>⟨[(6,.pointer (some ⟨b0_1,0,none⟩)),(7,.pointer (some ⟨b5_5,0,none⟩))],[⟨b5_5,#[.bool true,.int .i64 y5_3,.int .i64 e0_b5_5_2,.int .u16 e0_b5_5_3],65⟩,⟨b0_1,#[.bool false,.int .i64 (0),.int .i64 (0),.int .u16 (0)],65⟩],[]⟩) (fun (e0_b5_5_2,e0_b5_5_3)=>ppickS_j0 y5_3 e0_b5_5_2 e0_b5_5_3=some y) ?_ ?_
     · rintro ⟨e0_b5_5_2,e0_b5_5_3⟩ H
       replace H:ppickS_j0 y5_3 e0_b5_5_2 e0_b5_5_3=some y:=H
       rw [ppickS_j0] at H
       exact xrY (someE H) [0,1] [1] [] [] ()
     · intro N0 hN0
       refine xs [2] H ?_ ?_
       · intro H
         refine bindG H fun y7_2 hy7_2 H=>?_
         refine xq [1,0,1,2,2] (within_fq hy7_2) ?_
         exact xe [3,4,2,5,6,0,7,8,0] _ [0,0] [] (hN0 (y7_2,x.mask) H)
       · intro H
         exact xe [0] _ [0,0] [] (hN0 ((0:Int),(0:Int)) H)
def pprogS_j0 (e0_6x:List (List OpS)):Option (List (List OpS)) :=
 some e0_6x
def pprogS_j3 (v1_7:Int) (r1:(List (List OpS))→Int→Option (List (List OpS))) (e3_6x:List (List OpS)):Option (List (List OpS)) :=
 chk (inR (v1_7+(1:Int))) (r1 e3_6x (v1_7+(1:Int)))
def pprogS_j5 (v1_7:Int) (s:SetupS) (y1_1:CfgS) (v1_6x:List (List OpS)) (y6_5:Int) (y6_17:Int) (k3:(List (List OpS))→Option (List (List OpS))) (e5_b6_19_2:Int):Option (List (List OpS)) :=
 chk (0≤v1_7∧v1_7<(s.who.length:Int)) ((withinS (nth s.who v1_7) y1_1.nodes).bind fun y9_7=>chk (0≤y9_7∧y9_7<(v1_6x.length:Int)) ((bif decide ((((List.length (nthR v1_6x y9_7)):Nat):Int)<(24:Int)) then chk (0≤y9_7∧y9_7<(v1_6x.length:Int)) (chk (((nthR v1_6x y9_7)++([(⟨nth ([(1:Int),(2:Int),(3:Int),(1:Int),(2:Int),(1:Int),(4:Int)]) y6_5,y6_17,e5_b6_19_2⟩:OpS)])).length≤1099511627776) (letP ((nthR v1_6x y9_7)++([(⟨nth ([(1:Int),(2:Int),(3:Int),(1:Int),(2:Int),(1:Int),(4:Int)]) y6_5,y6_17,e5_b6_19_2⟩:OpS)])) fun l11_8=>chk (0≤y9_7∧y9_7<(v1_6x.length:Int)) (letP (setR v1_6x y9_7 l11_8) fun l11_10=>k3 l11_10))) else k3 v1_6x)))
def pprogS_j4 (s:SetupS) (v1_7:Int) (y1_1:CfgS) (v1_6x:List (List OpS)) (k3:(List (List OpS))→Option (List (List OpS))) (y6_17:Int) (y6_5:Int):Option (List (List OpS)) :=
 (bif decide ((nth ([(1:Int),(2:Int),(3:Int),(1:Int),(2:Int),(1:Int),(4:Int)]) y6_5)=(2:Int)) then (patS s.values v1_7).bind fun y8_3=>(pprogS_j5 v1_7 s y1_1 v1_6x y6_5 y6_17 k3) y8_3 else (bif decide ((nth ([(1:Int),(2:Int),(3:Int),(1:Int),(2:Int),(1:Int),(4:Int)]) y6_5)=(3:Int)) then (patS s.values v1_7).bind fun y8_3=>(pprogS_j5 v1_7 s y1_1 v1_6x y6_5 y6_17 k3) y8_3 else (pprogS_j5 v1_7 s y1_1 v1_6x y6_5 y6_17 k3) (0:Int)))
def pprogS_j2 (s:SetupS) (v1_7:Int) (y1_1:CfgS) (v1_6x:List (List OpS)) (r1:(List (List OpS))→Int→Option (List (List OpS))) (k0:(List (List OpS))→Option (List (List OpS))) (e2_24:Bool):Option (List (List OpS)) :=
 (bif e2_24 then (patS s.kinds v1_7).bind fun y6_4=>(withinS y6_4 (7:Int)).bind fun y6_5=>chk (0≤y6_5∧y6_5<((([(1:Int),(2:Int),(3:Int),(1:Int),(2:Int),(1:Int),(4:Int)]).length:Nat):Int)) ((patS s.addrs v1_7).bind fun y6_11=>(withinS y6_11 (wr (y1_1.lines*y1_1.words))).bind fun y6_17=>(pprogS_j4 s v1_7 y1_1 v1_6x (pprogS_j3 v1_7 r1)) y6_17 y6_5) else k0 v1_6x)
def pprogS_l1 (s:SetupS) (y1_1:CfgS) (k0:(List (List OpS))→Option (List (List OpS))) (most:Int):Nat→(List (List OpS))→Int→Option (List (List OpS))
 |0,_,_=>none
 |m+1,v1_6x,v1_7=>(bif decide (v1_7<(s.who.length:Int)) then (pprogS_j2 s v1_7 y1_1 v1_6x (pprogS_l1 s y1_1 k0 most m) k0) (decide (v1_7<most)) else (pprogS_j2 s v1_7 y1_1 v1_6x (pprogS_l1 s y1_1 k0 most m) k0) false)
def pprogS (s:SetupS) (most:Int):Option (List (List OpS)) :=
 (pconfS s).bind fun y1_1=>chk (0≤y1_1.nodes∧y1_1.nodes≤1099511627776) (letP (List.replicate (y1_1.nodes).toNat ([]:List OpS)) fun l2_2=>pprogS_l1 s y1_1 pprogS_j0 most 64 l2_2 (0:Int))
theorem pprogF {s:SetupS} {s0A:Asn} {s1A:Asn} {s2A:Asn} {s3A:Asn} {s4A:Asn} {most:Int} (s0a:Option Addr) (s0c:Nat) (s1a:Option Addr) (s1c:Nat) (s2a:Option Addr) (s2c:Nat) (s3a:Option Addr) (s3c:Nat) (s4a:Option Addr) (s4c:Nat) (hs0A:Rdb s0A s0a s0c s.init) (hs1A:Rdb s1A s1a s1c s.who) (hs2A:Rdb s2A s2a s2c s.kinds) (hs3A:Rdb s3A s3a s3c s.addrs) (hs4A:Rdb s4A s4a s4c s.values) {y:List (List OpS)} (H:pprogS s most=some y):FnY Tryz.prog 26 [.agg #[.int .i64 s.nodes,.int .i64 s.lines,.int .i64 s.words,.int .i64 s.sets,.int .i64 s.ways,.int .i64 s.out,.int .i64 s.inn,.slice s0a s.init.length s0c,.slice s1a s.who.length s1c,.slice s2a s.kinds.length s2c,.slice s3a s.addrs.length s3c,.slice s4a s.values.length s4c],.int .i64 most] ⟨[],[s0A,s1A,s2A,s3A,s4A]⟩ (Z:=Option Addr×Nat) (fun y (za0,zc0)=>.slice za0 y.length zc0) (fun y (za0,zc0)=>⟨[],[(ArrA za0 zc0 y),s0A,s1A,s2A,s3A,s4A]⟩) y:=by
 unfold pprogS at H
 refine xfY Tryz.func26 fun W0 F=>?_
 refine xn [] fun b0_0=>?_
 refine bindG H fun y1_1 hy1_1 H=>?_
 refine xc [0] [] [0,0,0,0,0] (pconfF s0a s0c s1a s1c s2a s2c s3a s3c s4a s4c hs0A hs1A hs2A hs3A hs4A hy1_1) fun ⟨t1_1_a0,t1_1_c0⟩=>?_
 refine xn [] fun b1_2=>?_
 refine chkG H fun q2_2_1 H=>?_
 refine letG H fun l2_2 hl2_2 H=>?_
 refine xmkO (α:=List OpS) [0,0] q2_2_1 hl2_2 roList_d fun b2_2=>?_
 refine xj [100] (ι:=List (List OpS)×Option Addr×Nat) (fun (e0_6x,e0_6a,e0_6c)=>⟨[(6,.slice e0_6a e0_6x.length e0_6c)],[],[(ArrO e0_6a e0_6c e0_6x),s0A,s1A,s2A,s3A,s4A]⟩) (fun (e0_6x,e0_6a,e0_6c)=>pprogS_j0 e0_6x=some y) ?_ ?_
 · rintro ⟨e0_6x,e0_6a,e0_6c⟩ H
   replace H:pprogS_j0 e0_6x=some y:=H
   rw [pprogS_j0] at H
   refine xg [] [] [0] (gh_frzO e0_6a e0_6c e0_6x) fun _=>?_
   exact xrY (someE H) [] [] [] [0,0,0,0,0,0] (e0_6a,e0_6c)
 · intro N0 hN0
   refine xl [] (ι:=List (List OpS)×Int×Option Addr×Nat) (fun (v1_6x,v1_7,v1_6a,v1_6c)=>⟨[(1,.int .i64 most),(2,.pointer (some ⟨b0_0,0,none⟩)),(5,.pointer (some ⟨b1_2,0,none⟩)),(6,.slice v1_6a v1_6x.length v1_6c),(7,.int .i64 v1_7)],[⟨b1_2,#[.int .i64 y1_1.nodes,.int .i64 y1_1.lines,.int .i64 y1_1.words,.int .i64 y1_1.sets,.int .i64 y1_1.ways,.int .i64 y1_1.out,.int .i64 y1_1.inn,.slice t1_1_a0 y1_1.init.length t1_1_c0],25⟩,⟨b0_0,#[.int .i64 s.nodes,.int .i64 s.lines,.int .i64 s.words,.int .i64 s.sets,.int .i64 s.ways,.int .i64 s.out,.int .i64 s.inn,.slice s0a s.init.length s0c,.slice s1a s.who.length s1c,.slice s2a s.kinds.length s2c,.slice s3a s.addrs.length s3c,.slice s4a s.values.length s4c],75⟩],[(ArrO v1_6a v1_6c v1_6x),(ArrA t1_1_a0 t1_1_c0 y1_1.init),s0A,s1A,s2A,s3A,s4A]⟩) (fun m1 (v1_6x,v1_7,v1_6a,v1_6c)=>pprogS_l1 s y1_1 (pprogS_j0) most m1 v1_6x v1_7=some y) [0,0] [0,0,0,0,0,0,0] (64) (l2_2,(0:Int),some ⟨b2_2,0,none⟩,(y1_1.nodes).toNat) H ?_
   rintro N1 (_ | m1) ⟨v1_6x,v1_7,v1_6a,v1_6c⟩ H hN1
   · exact (noneE H).elim
   replace H:pprogS_l1 s y1_1 (pprogS_j0) most (m1+1) v1_6x v1_7=some y:=H
   rw [pprogS_l1] at H
   refine xj [101] (ι:=Bool) (fun e2_24=>⟨[(1,.int .i64 most),(2,.pointer (some ⟨b0_0,0,none⟩)),(5,.pointer (some ⟨b1_2,0,none⟩)),(6,.slice v1_6a v1_6x.length v1_6c),(7,.int .i64 v1_7),(24,.bool e2_24)],[⟨b1_2,#[.int .i64 y1_1.nodes,.int .i64 y1_1.lines,.int .i64 y1_1.words,.int .i64 y1_1.sets,.int .i64 y1_1.ways,.int .i64 y1_1.out,.int .i64 y1_1.inn,.slice t1_1_a0 y1_1.init.length t1_1_c0],25⟩,⟨b0_0,#[.int .i64 s.nodes,.int .i64 s.lines,.int .i64 s.words,.int .i64 s.sets,.int .i64 s.ways,.int .i64 s.out,.int .i64 s.inn,.slice s0a s.init.length s0c,.slice s1a s.who.length s1c,.slice s2a s.kinds.length s2c,.slice s3a s.addrs.length s3c,.slice s4a s.values.length s4c],75⟩],[(ArrO v1_6a v1_6c v1_6x),(ArrA t1_1_a0 t1_1_c0 y1_1.init),s0A,s1A,s2A,s3A,s4A]⟩) (fun e2_24=>pprogS_j2 s v1_7 y1_1 v1_6x (pprogS_l1 s y1_1 (pprogS_j0) most m1) (pprogS_j0) e2_24=some y) ?_ ?_
   · rintro e2_24 H
     replace H:pprogS_j2 s v1_7 y1_1 v1_6x (pprogS_l1 s y1_1 (pprogS_j0) most m1) (pprogS_j0) e2_24=some y:=H
     rw [pprogS_j2] at H
     refine xs [] H ?_ ?_
     · intro H
       refine xj [1,100] (ι:=List (List OpS)×Option Addr×Nat) (fun (e3_6x,e3_6a,e3_6c)=>⟨[(1,.int .i64 most),(2,.pointer (some ⟨b0_0,0,none⟩)),(5,.pointer (some ⟨b1_2,0,none⟩)),(6,.slice e3_6a e3_6x.length e3_6c),(7,.int .i64 v1_7)],[⟨b1_2,#[.int .i64 y1_1.nodes,.int .i64 y1_1.lines,.int .i64 y1_1.words,.int .i64 y1_1.sets,.int .i64 y1_1.ways,.int .i64 y1_1.out,.int .i64 y1_1.inn,.slice t1_1_a0 y1_1.init.length t1_1_c0],25⟩,⟨b0_0,#[.int .i64 s.nodes,.int .i64 s.lines,.int .i64 s.words,.int .i64 s.sets,.int .i64 s.ways,.int .i64 s.out,.int .i64 s.inn,.slice s0a s.init.length s0c,.slice s1a s.who.length s1c,.slice s2a s.kinds.length s2c,.slice s3a s.addrs.length s3c,.slice s4a s.values.length s4c],75⟩],[(ArrO e3_6a e3_6c e3_6x),s4A,s3A,s2A,(ArrA t1_1_a0 t1_1_c0 y1_1.init),s0A,s1A]⟩) (fun (e3_6x,e3_6a,e3_6c)=>pprogS_j3 v1_7 (pprogS_l1 s y1_1 (pprogS_j0) most m1) e3_6x=some y) ?_ ?_
       · rintro ⟨e3_6x,e3_6a,e3_6c⟩ H
         replace H:pprogS_j3 v1_7 (pprogS_l1 s y1_1 (pprogS_j0) most m1) e3_6x=some y:=H
         rw [pprogS_j3] at H
         refine chkG H fun q5_1_1 H=>?_
         refine xd [0] (ap q5_1_1 an) ?_
         exact xe [] _ [0,0] [0,3,3,3,2,1,0] (hN1 _ (e3_6x,v1_7+(1:Int),e3_6a,e3_6c) (Nat.lt_succ_self _) H)
       · intro N3 hN3
         refine xj [100] (ι:=Int×Int×Nat) (fun (y6_17,y6_5,b6_19)=>⟨[(1,.int .i64 most),(2,.pointer (some ⟨b0_0,0,none⟩)),(5,.pointer (some ⟨b1_2,0,none⟩)),(6,.slice v1_6a v1_6x.length v1_6c),(7,.int .i64 v1_7),(8,.pointer (some ⟨b6_19,0,none⟩))],[⟨b6_19,#[.int .i64 (nth ([(1:Int),(2:Int),(3:Int),(1:Int),(2:Int),(1:Int),(4:Int)]) y6_5),.int .i64 y6_17,.int .i64 (0)],29⟩,⟨b1_2,#[.int .i64 y1_1.nodes,.int .i64 y1_1.lines,.int .i64 y1_1.words,.int .i64 y1_1.sets,.int .i64 y1_1.ways,.int .i64 y1_1.out,.int .i64 y1_1.inn,.slice t1_1_a0 y1_1.init.length t1_1_c0],25⟩,⟨b0_0,#[.int .i64 s.nodes,.int .i64 s.lines,.int .i64 s.words,.int .i64 s.sets,.int .i64 s.ways,.int .i64 s.out,.int .i64 s.inn,.slice s0a s.init.length s0c,.slice s1a s.who.length s1c,.slice s2a s.kinds.length s2c,.slice s3a s.addrs.length s3c,.slice s4a s.values.length s4c],75⟩],[s3A,s2A,(ArrO v1_6a v1_6c v1_6x),(ArrA t1_1_a0 t1_1_c0 y1_1.init),s0A,s1A,s4A]⟩) (fun (y6_17,y6_5,b6_19)=>pprogS_j4 s v1_7 y1_1 v1_6x (pprogS_j3 v1_7 (pprogS_l1 s y1_1 (pprogS_j0) most m1)) y6_17 y6_5=some y) ?_ ?_
         · rintro ⟨y6_17,y6_5,b6_19⟩ H
           replace H:pprogS_j4 s v1_7 y1_1 v1_6x (pprogS_j3 v1_7 (pprogS_l1 s y1_1 (pprogS_j0) most m1)) y6_17 y6_5=some y:=H
           rw [pprogS_j4] at H
           refine xj [100] (ι:=Int) (fun e5_b6_19_2=>⟨[(1,.int .i64 most),(2,.pointer (some ⟨b0_0,0,none⟩)),(5,.pointer (some ⟨b1_2,0,none⟩)),(6,.slice v1_6a v1_6x.length v1_6c),(7,.int .i64 v1_7),(8,.pointer (some ⟨b6_19,0,none⟩))],[⟨b6_19,#[.int .i64 (nth ([(1:Int),(2:Int),(3:Int),(1:Int),(2:Int),(1:Int),(4:Int)]) y6_5),.int .i64 y6_17,.int .i64 e5_b6_19_2],29⟩,⟨b1_2,#[.int .i64 y1_1.nodes,.int .i64 y1_1.lines,.int .i64 y1_1.words,.int .i64 y1_1.sets,.int .i64 y1_1.ways,.int .i64 y1_1.out,.int .i64 y1_1.inn,.slice t1_1_a0 y1_1.init.length t1_1_c0],25⟩,⟨b0_0,#[.int .i64 s.nodes,.int .i64 s.lines,.int .i64 s.words,.int .i64 s.sets,.int .i64 s.ways,.int .i64 s.out,.int .i64 s.inn,.slice s0a s.init.length s0c,.slice s1a s.who.length s1c,.slice s2a s.kinds.length s2c,.slice s3a s.addrs.length s3c,.slice s4a s.values.length s4c],75⟩],[s4A,s3A,s2A,(ArrO v1_6a v1_6c v1_6x),(ArrA t1_1_a0 t1_1_c0 y1_1.init),s0A,s1A]⟩) (fun e5_b6_19_2=>pprogS_j5 v1_7 s y1_1 v1_6x y6_5 y6_17 (pprogS_j3 v1_7 (pprogS_l1 s y1_1 (pprogS_j0) most m1)) e5_b6_19_2=some y) ?_ ?_
           · rintro e5_b6_19_2 H
             replace H:pprogS_j5 v1_7 s y1_1 v1_6x y6_5 y6_17 (pprogS_j3 v1_7 (pprogS_l1 s y1_1 (pprogS_j0) most m1)) e5_b6_19_2=some y:=H
             rw [pprogS_j5] at H
             refine chkG H fun q9_3_1 H=>?_
             refine xi [0,1,2,2,3] 6 hs1A q9_3_1 fun b1 o1 e1=>?_
             refine xpl [4] 6 (ol_ld hs1A e1 q9_3_1 0 (fun _=>rfl)) ?_
             refine bindG H fun y9_7 hy9_7 H=>?_
             refine xq [5,6,1,7] (within_fq hy9_7) ?_
             refine chkG H fun q10_2_1 H=>?_
             refine xg [8] [] [3] (gh_foc v1_6a v1_6c v1_6x y9_7 q10_2_1) fun ⟨wa1,wc1⟩=>?_
             refine xiG (K:=1) [] 1 (ix_hol v1_6a v1_6c v1_6x y9_7 (wa1,wc1) q10_2_1) q10_2_1 fun b2 o2 e2=>?_
             refine xpl [] 1 (ol_hld v1_6a v1_6c v1_6x y9_7 (wa1,wc1) e2 q10_2_1 0 rfl) ?_
             refine xs [] H ?_ ?_
             · intro H
               refine chkG H fun q11_4_1 H=>?_
               refine xiG (K:=1) [1,0,1,2,3,4] 1 (ix_hol v1_6a v1_6c v1_6x y9_7 (wa1,wc1) q11_4_1) q11_4_1 fun b3 o3 e3=>?_
               refine xpl [5] 1 (ol_hld v1_6a v1_6c v1_6x y9_7 (wa1,wc1) e3 q10_2_1 0 rfl) ?_
               refine xn [6,0,7] fun b11_7=>?_
               refine xg [8] [0] [8] (gh_one b11_7 29 (⟨nth ([(1:Int),(2:Int),(3:Int),(1:Int),(2:Int),(1:Int),(4:Int)]) y6_5,y6_17,e5_b6_19_2⟩:OpS) ()) fun _=>?_
               refine chkG H fun q11_8_1 H=>?_
               refine letG H fun l11_8 hl11_8 H=>?_
               refine xa [] [1,0] (a:=wa1) (l:=(nthR v1_6x y9_7)) (zs:=l11_8) (cap:=wc1) (rA (some ⟨b11_7,0,none⟩) 1 ([(⟨nth ([(1:Int),(2:Int),(3:Int),(1:Int),(2:Int),(1:Int),(4:Int)]) y6_5,y6_17,e5_b6_19_2⟩:OpS)])) hl11_8 (hl11_8▸q11_8_1) fun ⟨a11_8,c11_8⟩=>?_
               refine chkG H fun q11_9_1 H=>?_
               refine xiG (K:=1) [9] 2 (ix_hol v1_6a v1_6c v1_6x y9_7 (wa1,wc1) q11_9_1) q11_9_1 fun b4 o4 e4=>?_
               refine letG H fun l11_10 hl11_10 H=>?_
               refine xo [10] [] [0,1] (oc_hst v1_6a v1_6c v1_6x y9_7 (wa1,wc1) l11_8 (a11_8,c11_8) e4 q10_2_1 hl11_10) fun _=>?_
               refine xw [] 6 (congrArg (fun n:Nat=>(.slice v1_6a n v1_6c:Value)) (setR_len hl11_10)) ?_
               refine xw [] 73 (congrArg (fun n:Nat=>(.slice v1_6a n v1_6c:Value)) (setR_len hl11_10)) ?_
               refine xw [] 75 (congrArg (fun n:Nat=>(.slice v1_6a n v1_6c:Value)) (setR_len hl11_10)) ?_
               exact xe [] _ [1,1] [0,1,1,1,1,1,1] (hN3 (l11_10,v1_6a,v1_6c) H)
             · intro H
               refine xg [0] [] [0,0] (gh_unfs v1_6a v1_6c v1_6x y9_7 (wa1,wc1) q10_2_1) fun _=>?_
               exact xe [] _ [1,1] [0,0,0,0,0,0,0] (hN3 (v1_6x,v1_6a,v1_6c) H)
           · intro N5 hN5
             refine xs [0] H ?_ ?_
             · intro H
               refine bindG H fun y8_3 hy8_3 H=>?_
               refine xc [0,0,0,1,1,2] [] [6] (patF s4a s4c hs4A hy8_3) fun _=>?_
               exact xe [0] _ [0,0,0] [0,0,0,0,0,0,0] (hN5 (y8_3) H)
             · intro H
               refine xs [1,1,0,1,0] H ?_ ?_
               · intro H
                 refine bindG H fun y8_3 hy8_3 H=>?_
                 refine xc [1,2] [] [6] (patF s4a s4c hs4A hy8_3) fun _=>?_
                 exact xe [0] _ [0,0,0] [0,0,0,0,0,0,0] (hN5 (y8_3) H)
               · intro H
                 exact xe [0] _ [0,0,0] [6,0,0,0,0,0,0] (hN5 ((0:Int)) H)
         · intro N4 hN4
           refine bindG H fun y6_4 hy6_4 H=>?_
           refine bindG H fun y6_5 hy6_5 H=>?_
           refine chkG H fun q6_6_1 H=>?_
           refine bindG H fun y6_11 hy6_11 H=>?_
           refine bindG H fun y6_17 hy6_17 H=>?_
           refine xtn [1,2,1,3,8,9,1,10,12,13,0,14,15,0,16,1] [0,4,19] ⟨?_,?_,?_,trivial⟩
           · refine xn [] fun b6_0=>?_
             refine xtn [] [4,19] ⟨?_,?_,trivial⟩
             · refine xc [] [] [4] (patF s2a s2c hs2A hy6_4) fun _=>?_
               refine xq [5] (within_fq hy6_5) ?_
               refine xg [6] [0] [] (gh_own b6_0 3 7 ([(1:Int),(2:Int),(3:Int),(1:Int),(2:Int),(1:Int),(4:Int)]:List Int) [(),(),(),(),(),(),()] (fun _ _ _ _ _ _ _=>trivial)) fun _=>?_
               refine xi [] 0 (rA (some ⟨b6_0,0,none⟩) 7 ([(1:Int),(2:Int),(3:Int),(1:Int),(2:Int),(1:Int),(4:Int)])) q6_6_1 fun b5 o5 e5=>?_
               refine xpl [7] 0 (ol_ld (rA (some ⟨b6_0,0,none⟩) 7 ([(1:Int),(2:Int),(3:Int),(1:Int),(2:Int),(1:Int),(4:Int)])) e5 q6_6_1 0 (fun _=>rfl)) ?_
               refine xtn [] [11,19] ⟨?_,?_,trivial⟩
               · refine xc [] [] [6] (patF s3a s3c hs3A hy6_11) fun _=>?_
                 refine xq [17] (within_fq hy6_17) ?_
                 refine xn [18,19] fun b6_19=>?_
                 exact xe [20,0] _ [0,0,0] [0,1,1,1,1,1,1] (hN4 (y6_17,y6_5,b6_19) H)
               · refine xn [] fun b6_19=>?_
                 refine xc [11] [] [6] (patF s3a s3c hs3A hy6_11) fun _=>?_
                 refine xq [17] (within_fq hy6_17) ?_
                 exact xe [18,20,0] _ [0,0,0] [0,1,1,1,1,1,1] (hN4 (y6_17,y6_5,b6_19) H)
             · refine xn [] fun b6_19=>?_
               refine xc [4] [] [4] (patF s2a s2c hs2A hy6_4) fun _=>?_
               refine xq [5] (within_fq hy6_5) ?_
               refine xg [6] [1] [] (gh_own b6_0 3 7 ([(1:Int),(2:Int),(3:Int),(1:Int),(2:Int),(1:Int),(4:Int)]:List Int) [(),(),(),(),(),(),()] (fun _ _ _ _ _ _ _=>trivial)) fun _=>?_
               refine xi [] 0 (rA (some ⟨b6_0,0,none⟩) 7 ([(1:Int),(2:Int),(3:Int),(1:Int),(2:Int),(1:Int),(4:Int)])) q6_6_1 fun b5 o5 e5=>?_
               refine xpl [7] 0 (ol_ld (rA (some ⟨b6_0,0,none⟩) 7 ([(1:Int),(2:Int),(3:Int),(1:Int),(2:Int),(1:Int),(4:Int)])) e5 q6_6_1 0 (fun _=>rfl)) ?_
               refine xc [11] [] [6] (patF s3a s3c hs3A hy6_11) fun _=>?_
               refine xq [17] (within_fq hy6_17) ?_
               exact xe [18,20,0] _ [0,0,0] [0,1,1,1,1,1,1] (hN4 (y6_17,y6_5,b6_19) H)
           · refine xc [] [] [4] (patF s2a s2c hs2A hy6_4) fun _=>?_
             refine xq [5] (within_fq hy6_5) ?_
             refine xtn [] [0,11,19] ⟨?_,?_,?_,trivial⟩
             · refine xn [] fun b6_0=>?_
               refine xg [6] [0] [] (gh_own b6_0 3 7 ([(1:Int),(2:Int),(3:Int),(1:Int),(2:Int),(1:Int),(4:Int)]:List Int) [(),(),(),(),(),(),()] (fun _ _ _ _ _ _ _=>trivial)) fun _=>?_
               refine xi [] 0 (rA (some ⟨b6_0,0,none⟩) 7 ([(1:Int),(2:Int),(3:Int),(1:Int),(2:Int),(1:Int),(4:Int)])) q6_6_1 fun b5 o5 e5=>?_
               refine xpl [7] 0 (ol_ld (rA (some ⟨b6_0,0,none⟩) 7 ([(1:Int),(2:Int),(3:Int),(1:Int),(2:Int),(1:Int),(4:Int)])) e5 q6_6_1 0 (fun _=>rfl)) ?_
               refine xtn [] [11,19] ⟨?_,?_,trivial⟩
               · refine xc [] [] [6] (patF s3a s3c hs3A hy6_11) fun _=>?_
                 refine xq [17] (within_fq hy6_17) ?_
                 refine xn [18,19] fun b6_19=>?_
                 exact xe [20,0] _ [0,0,0] [0,1,1,1,1,1,1] (hN4 (y6_17,y6_5,b6_19) H)
               · refine xn [] fun b6_19=>?_
                 refine xc [11] [] [6] (patF s3a s3c hs3A hy6_11) fun _=>?_
                 refine xq [17] (within_fq hy6_17) ?_
                 exact xe [18,20,0] _ [0,0,0] [0,1,1,1,1,1,1] (hN4 (y6_17,y6_5,b6_19) H)
             · refine xc [] [] [5] (patF s3a s3c hs3A hy6_11) fun _=>?_
               refine xq [17] (within_fq hy6_17) ?_
               refine xtn [] [0,19] ⟨?_,?_,trivial⟩
               · refine xn [] fun b6_0=>?_
                 refine xg [6] [0] [] (gh_own b6_0 3 7 ([(1:Int),(2:Int),(3:Int),(1:Int),(2:Int),(1:Int),(4:Int)]:List Int) [(),(),(),(),(),(),()] (fun _ _ _ _ _ _ _=>trivial)) fun _=>?_
                 refine xi [] 0 (rA (some ⟨b6_0,0,none⟩) 7 ([(1:Int),(2:Int),(3:Int),(1:Int),(2:Int),(1:Int),(4:Int)])) q6_6_1 fun b5 o5 e5=>?_
                 refine xpl [7] 0 (ol_ld (rA (some ⟨b6_0,0,none⟩) 7 ([(1:Int),(2:Int),(3:Int),(1:Int),(2:Int),(1:Int),(4:Int)])) e5 q6_6_1 0 (fun _=>rfl)) ?_
                 refine xn [18,19] fun b6_19=>?_
                 exact xe [20,0] _ [0,0,0] [1,1,1,1,1,1,1] (hN4 (y6_17,y6_5,b6_19) H)
               · refine xn [] fun b6_19=>?_
                 refine xn [0] fun b6_0=>?_
                 refine xg [6] [0] [] (gh_own b6_0 3 7 ([(1:Int),(2:Int),(3:Int),(1:Int),(2:Int),(1:Int),(4:Int)]:List Int) [(),(),(),(),(),(),()] (fun _ _ _ _ _ _ _=>trivial)) fun _=>?_
                 refine xi [] 0 (rA (some ⟨b6_0,0,none⟩) 7 ([(1:Int),(2:Int),(3:Int),(1:Int),(2:Int),(1:Int),(4:Int)])) q6_6_1 fun b5 o5 e5=>?_
                 refine xpl [7] 0 (ol_ld (rA (some ⟨b6_0,0,none⟩) 7 ([(1:Int),(2:Int),(3:Int),(1:Int),(2:Int),(1:Int),(4:Int)])) e5 q6_6_1 0 (fun _=>rfl)) ?_
                 exact xe [18,20,0] _ [0,0,0] [1,1,1,1,1,1,1] (hN4 (y6_17,y6_5,b6_19) H)
             · refine xn [] fun b6_19=>?_
               refine xtn [] [0,11] ⟨?_,?_,trivial⟩
               · refine xn [] fun b6_0=>?_
                 refine xg [6] [0] [] (gh_own b6_0 3 7 ([(1:Int),(2:Int),(3:Int),(1:Int),(2:Int),(1:Int),(4:Int)]:List Int) [(),(),(),(),(),(),()] (fun _ _ _ _ _ _ _=>trivial)) fun _=>?_
                 refine xi [] 0 (rA (some ⟨b6_0,0,none⟩) 7 ([(1:Int),(2:Int),(3:Int),(1:Int),(2:Int),(1:Int),(4:Int)])) q6_6_1 fun b5 o5 e5=>?_
                 refine xpl [7] 0 (ol_ld (rA (some ⟨b6_0,0,none⟩) 7 ([(1:Int),(2:Int),(3:Int),(1:Int),(2:Int),(1:Int),(4:Int)])) e5 q6_6_1 0 (fun _=>rfl)) ?_
                 refine xc [11] [] [6] (patF s3a s3c hs3A hy6_11) fun _=>?_
                 refine xq [17] (within_fq hy6_17) ?_
                 exact xe [18,20,0] _ [0,0,0] [0,1,1,1,1,1,1] (hN4 (y6_17,y6_5,b6_19) H)
               · refine xc [] [] [5] (patF s3a s3c hs3A hy6_11) fun _=>?_
                 refine xq [17] (within_fq hy6_17) ?_
                 refine xn [0] fun b6_0=>?_
                 refine xg [6] [0] [] (gh_own b6_0 3 7 ([(1:Int),(2:Int),(3:Int),(1:Int),(2:Int),(1:Int),(4:Int)]:List Int) [(),(),(),(),(),(),()] (fun _ _ _ _ _ _ _=>trivial)) fun _=>?_
                 refine xi [] 0 (rA (some ⟨b6_0,0,none⟩) 7 ([(1:Int),(2:Int),(3:Int),(1:Int),(2:Int),(1:Int),(4:Int)])) q6_6_1 fun b5 o5 e5=>?_
                 refine xpl [7] 0 (ol_ld (rA (some ⟨b6_0,0,none⟩) 7 ([(1:Int),(2:Int),(3:Int),(1:Int),(2:Int),(1:Int),(4:Int)])) e5 q6_6_1 0 (fun _=>rfl)) ?_
                 exact xe [18,20,0] _ [0,0,0] [1,1,1,1,1,1,1] (hN4 (y6_17,y6_5,b6_19) H)
           · refine xn [] fun b6_19=>?_
             refine xtn [] [0,4] ⟨?_,?_,trivial⟩
             · refine xn [] fun b6_0=>?_
               refine xc [4] [] [4] (patF s2a s2c hs2A hy6_4) fun _=>?_
               refine xq [5] (within_fq hy6_5) ?_
               refine xg [6] [0] [] (gh_own b6_0 3 7 ([(1:Int),(2:Int),(3:Int),(1:Int),(2:Int),(1:Int),(4:Int)]:List Int) [(),(),(),(),(),(),()] (fun _ _ _ _ _ _ _=>trivial)) fun _=>?_
               refine xi [] 0 (rA (some ⟨b6_0,0,none⟩) 7 ([(1:Int),(2:Int),(3:Int),(1:Int),(2:Int),(1:Int),(4:Int)])) q6_6_1 fun b5 o5 e5=>?_
               refine xpl [7] 0 (ol_ld (rA (some ⟨b6_0,0,none⟩) 7 ([(1:Int),(2:Int),(3:Int),(1:Int),(2:Int),(1:Int),(4:Int)])) e5 q6_6_1 0 (fun _=>rfl)) ?_
               refine xc [11] [] [6] (patF s3a s3c hs3A hy6_11) fun _=>?_
               refine xq [17] (within_fq hy6_17) ?_
               exact xe [18,20,0] _ [0,0,0] [0,1,1,1,1,1,1] (hN4 (y6_17,y6_5,b6_19) H)
             · refine xc [] [] [4] (patF s2a s2c hs2A hy6_4) fun _=>?_
               refine xq [5] (within_fq hy6_5) ?_
               refine xtn [] [0,11] ⟨?_,?_,trivial⟩
               · refine xn [] fun b6_0=>?_
                 refine xg [6] [0] [] (gh_own b6_0 3 7 ([(1:Int),(2:Int),(3:Int),(1:Int),(2:Int),(1:Int),(4:Int)]:List Int) [(),(),(),(),(),(),()] (fun _ _ _ _ _ _ _=>trivial)) fun _=>?_
                 refine xi [] 0 (rA (some ⟨b6_0,0,none⟩) 7 ([(1:Int),(2:Int),(3:Int),(1:Int),(2:Int),(1:Int),(4:Int)])) q6_6_1 fun b5 o5 e5=>?_
                 refine xpl [7] 0 (ol_ld (rA (some ⟨b6_0,0,none⟩) 7 ([(1:Int),(2:Int),(3:Int),(1:Int),(2:Int),(1:Int),(4:Int)])) e5 q6_6_1 0 (fun _=>rfl)) ?_
                 refine xc [11] [] [6] (patF s3a s3c hs3A hy6_11) fun _=>?_
                 refine xq [17] (within_fq hy6_17) ?_
                 exact xe [18,20,0] _ [0,0,0] [0,1,1,1,1,1,1] (hN4 (y6_17,y6_5,b6_19) H)
               · refine xc [] [] [5] (patF s3a s3c hs3A hy6_11) fun _=>?_
                 refine xq [17] (within_fq hy6_17) ?_
                 refine xn [0] fun b6_0=>?_
                 refine xg [6] [0] [] (gh_own b6_0 3 7 ([(1:Int),(2:Int),(3:Int),(1:Int),(2:Int),(1:Int),(4:Int)]:List Int) [(),(),(),(),(),(),()] (fun _ _ _ _ _ _ _=>trivial)) fun _=>?_
                 refine xi [] 0 (rA (some ⟨b6_0,0,none⟩) 7 ([(1:Int),(2:Int),(3:Int),(1:Int),(2:Int),(1:Int),(4:Int)])) q6_6_1 fun b5 o5 e5=>?_
                 refine xpl [7] 0 (ol_ld (rA (some ⟨b6_0,0,none⟩) 7 ([(1:Int),(2:Int),(3:Int),(1:Int),(2:Int),(1:Int),(4:Int)])) e5 q6_6_1 0 (fun _=>rfl)) ?_
                 exact xe [18,20,0] _ [0,0,0] [1,1,1,1,1,1,1] (hN4 (y6_17,y6_5,b6_19) H)
     · intro H
       exact xe [0] _ [] [0,1,1,1,1,1] (hN0 (v1_6x,v1_6a,v1_6c) H)
   · intro N2 hN2
     refine xs [1] H ?_ ?_
     · intro H
       exact xe [1,1,1,1] _ [0,0] [0,0,0,0,0,0,0] (hN2 (decide (v1_7<most)) H)
     · intro H
       exact xe [0,0,0,0] _ [0,0] [0,0,0,0,0,0,0] (hN2 (false) H)
end
section
open Go Go.RowKit
def rdoS (p:PickS) (mc:MachS) (dv:Int):Option (MachS×Int) :=
 (mdoS mc p).bind fun y1_2=>(bif y1_2.1 then some (y1_2.2,wr (dv+(1:Int))) else some (y1_2.2,dv))
theorem rdoF {p:PickS} {mc:MachS} {dv:Int} (m mo:Nat) (d:Nat) {y:MachS×Int} (H:rdoS p mc dv=some y):FnY Tryz.prog 128 [.agg #[.bool p.deliver,.int .i64 p.at_,.int .i64 p.bit,.int .u16 p.mask],.pointer (some ⟨m,0,none⟩),.pointer (some ⟨d,0,none⟩)] ⟨[⟨m,#[.pointer (some ⟨mo,0,none⟩)],31⟩,⟨d,#[.int .i64 dv],3⟩],[(MachA mo mc)]⟩ (Z:=Unit) (fun y _=>.tuple #[]) (fun y _=>⟨[⟨m,#[.pointer (some ⟨mo,0,none⟩)],31⟩,⟨d,#[.int .i64 y.2],3⟩],[(MachA mo y.1)]⟩) y:=by
 unfold rdoS at H
 refine xfY Tryz.func128 fun W0 F=>?_
 refine xn [] fun b0_0=>?_
 refine bindG H fun y1_2 hy1_2 H=>?_
 refine xc [1,0] [] [0] (mdoF mo hy1_2) fun _=>?_
 refine xs [] H ?_ ?_
 · intro H
   exact xrY (someE H) [1,2,1,2] [] [1,1] [0] ()
 · intro H
   exact xrY (someE H) [0] [] [1,1] [0] ()
def rroundS_j1 (e1_b1_0_0:Int) (e1_m:MachS):Option (Int×MachS) :=
 some (e1_b1_0_0,e1_m)
def rroundS_l2 (k1:Int→MachS→Option (Int×MachS)):Nat→Int→Int→MachS→Option (Int×MachS)
 |0,_,_,_=>none
 |m+1,v2_9,v2_b1_0_0,v2_m=>(bif decide ((0:Int)≤v2_9) then (rdoS (⟨true,v2_9,(0:Int),(0:Int)⟩:PickS) v2_m v2_b1_0_0).bind fun y13_3=>chk (inR (v2_9 - (1:Int))) ((rroundS_l2 k1 m) (v2_9 - (1:Int)) y13_3.2 y13_3.1) else k1 v2_b1_0_0 v2_m)
def rroundS_j0 (e0_b1_0_0:Int) (e0_m:MachS):Option (Int×MachS) :=
 (funderS e0_m.fab).bind fun y10_4=>rroundS_l2 rroundS_j1 4096 (wr (y10_4 - (1:Int))) e0_b1_0_0 e0_m
def rroundS_l3 (y3_1:CfgS) (u4_4:Int) (k0:Int→MachS→Option (Int×MachS)):Nat→Int→Int→MachS→Option (Int×MachS)
 |0,_,_,_=>none
 |m+1,v3_22,v3_b1_0_0,v3_m=>(bif decide (v3_22<y3_1.nodes) then chk (1≤y3_1.nodes) (letP ((wr ((u4_4.tmod y3_1.nodes)+v3_22)).tmod y3_1.nodes) fun u8_5=>(rdoS (⟨false,u8_5,(0:Int),(0:Int)⟩:PickS) v3_m v3_b1_0_0).bind fun y8_7=>chk (inR (v3_22+(1:Int))) ((rroundS_l3 y3_1 u4_4 k0 m) (v3_22+(1:Int)) y8_7.2 y8_7.1)) else k0 v3_b1_0_0 v3_m)
def rroundS (mc:MachS) (first:Int):Option (Int×MachS) :=
 (mconfS mc).bind fun y3_1=>chk (1≤y3_1.nodes) (letP (wr ((first.tmod y3_1.nodes)+y3_1.nodes)) fun u4_4=>chk (1≤y3_1.nodes) (rroundS_l3 y3_1 u4_4 rroundS_j0 4096 (0:Int) (0:Int) mc))
theorem rroundF {mc:MachS} {first:Int} (m:Nat) {y:Int×MachS} (H:rroundS mc first=some y):FnY Tryz.prog 88 [.pointer (some ⟨m,0,none⟩),.int .i64 first] ⟨[],[(MachA m mc)]⟩ (Z:=Unit) (fun y _=>.int .i64 y.1) (fun y _=>⟨[],[(MachA m y.2)]⟩) y:=by
 unfold rroundS at H
 refine xfY Tryz.func88 fun W0 F=>?_
 refine xn [] fun b0_0=>?_
 refine xn [] fun b1_0=>?_
 refine xg [0,1] [] [0] (gh_open (MachO m mc)) fun ⟨b_fab1,b_trace2,a_c_init3,c_c_init4,a_nodes5,c_nodes6,r_nodes7⟩=>?_
 refine bindG H fun y3_1 hy3_1 H=>?_
 refine xc [] [0] [0,0,0,0,0] (mconfF m b_fab1 b_trace2 a_c_init3 c_c_init4 a_nodes5 c_nodes6 r_nodes7 hy3_1) fun ⟨t3_1_a0,t3_1_c0⟩=>?_
 refine chkG H fun q4_2_1 H=>?_
 refine xp [] (ov_rem (a:=first) (b:=y3_1.nodes) q4_2_1) ?_
 refine letG H fun u4_4 hu4_4 H=>?_
 refine xw [1,300] 18 (congrArg (Value.int .i64) hu4_4) ?_
 refine chkG H fun q4_6_1 H=>?_
 refine xp [] (ov_rem (a:=u4_4) (b:=y3_1.nodes) q4_6_1) ?_
 refine xj [100] (ι:=Int×MachS) (fun (e0_b1_0_0,e0_m)=>⟨[(2,.pointer (some ⟨b0_0,0,none⟩)),(5,.pointer (some ⟨b1_0,0,none⟩)),(6,.func (.func 128) #[] #[.pointer (some ⟨b0_0,0,none⟩),.pointer (some ⟨b1_0,0,none⟩)])],[⟨b1_0,#[.int .i64 e0_b1_0_0],3⟩,⟨b0_0,#[.pointer (some ⟨m,0,none⟩)],31⟩],[(MachA m e0_m)]⟩) (fun (e0_b1_0_0,e0_m)=>rroundS_j0 e0_b1_0_0 e0_m=some y) ?_ ?_
 · rintro ⟨e0_b1_0_0,e0_m⟩ H
   replace H:rroundS_j0 e0_b1_0_0 e0_m=some y:=H
   rw [rroundS_j0] at H
   refine xj [100] (ι:=Int×MachS) (fun (e1_b1_0_0,e1_m)=>⟨[(5,.pointer (some ⟨b1_0,0,none⟩))],[⟨b1_0,#[.int .i64 e1_b1_0_0],3⟩],[(MachA m e1_m)]⟩) (fun (e1_b1_0_0,e1_m)=>rroundS_j1 e1_b1_0_0 e1_m=some y) ?_ ?_
   · rintro ⟨e1_b1_0_0,e1_m⟩ H
     replace H:rroundS_j1 e1_b1_0_0 e1_m=some y:=H
     rw [rroundS_j1] at H
     exact xrY (someE H) [0] [] [] [0] ()
   · intro N1 hN1
     refine xg [1] [] [0] (gh_open (MachO m e0_m)) fun ⟨b_fab8,b_trace9,a_c_init10,c_c_init11,a_nodes12,c_nodes13,r_nodes14⟩=>?_
     refine xg [0] [] [0] (gh_open (FabO b_fab8 e0_m.fab)) fun ⟨a_cs15,c_cs16,r_cs17⟩=>?_
     refine bindG H fun y10_4 hy10_4 H=>?_
     refine xc [] [0] [0,0] (funderF b_fab8 a_cs15 c_cs16 r_cs17 hy10_4) fun _=>?_
     refine xg [1] [0] [0,0] (gh_shut (FabO b_fab8 e0_m.fab) (a_cs15,c_cs16,r_cs17)) fun _=>?_
     refine xg [] [0] [0,0,0,0,0] (gh_shut (MachO m e0_m) (b_fab8,b_trace9,a_c_init10,c_c_init11,a_nodes12,c_nodes13,r_nodes14)) fun _=>?_
     refine xl [] (ι:=Int×Int×MachS) (fun (v2_9,v2_b1_0_0,v2_m)=>⟨[(5,.pointer (some ⟨b1_0,0,none⟩)),(6,.func (.func 128) #[] #[.pointer (some ⟨b0_0,0,none⟩),.pointer (some ⟨b1_0,0,none⟩)]),(9,.int .i64 v2_9)],[⟨b1_0,#[.int .i64 v2_b1_0_0],3⟩,⟨b0_0,#[.pointer (some ⟨m,0,none⟩)],31⟩],[(MachA m v2_m)]⟩) (fun m2 (v2_9,v2_b1_0_0,v2_m)=>rroundS_l2 (rroundS_j1) m2 v2_9 v2_b1_0_0 v2_m=some y) [0,0] [0] (4096) (wr (y10_4 - (1:Int)),e0_b1_0_0,e0_m) H ?_
     rintro N2 (_ | m2) ⟨v2_9,v2_b1_0_0,v2_m⟩ H hN2
     · exact (noneE H).elim
     replace H:rroundS_l2 (rroundS_j1) (m2+1) v2_9 v2_b1_0_0 v2_m=some y:=H
     rw [rroundS_l2] at H
     refine xs [] H ?_ ?_
     · intro H
       refine bindG H fun y13_3 hy13_3 H=>?_
       refine xc [1] [1,0] [0] (rdoF b0_0 m b1_0 hy13_3) fun _=>?_
       refine chkG H fun q12_1_1 H=>?_
       refine xd [0] (ap q12_1_1 an) ?_
       exact xe [] _ [1,0] [0] (hN2 _ (v2_9 - (1:Int),y13_3.2,y13_3.1) (Nat.lt_succ_self _) H)
     · intro H
       exact xe [0] _ [0] [0] (hN1 (v2_b1_0_0,v2_m) H)
 · intro N0 hN0
   refine xg [] [0] [1,1,1,1,1] (gh_shut (MachO m mc) (b_fab1,b_trace2,a_c_init3,c_c_init4,a_nodes5,c_nodes6,r_nodes7)) fun _=>?_
   refine xl [] (ι:=Int×Int×MachS) (fun (v3_22,v3_b1_0_0,v3_m)=>⟨[(1,.int .i64 (u4_4.tmod y3_1.nodes)),(2,.pointer (some ⟨b0_0,0,none⟩)),(5,.pointer (some ⟨b1_0,0,none⟩)),(6,.func (.func 128) #[] #[.pointer (some ⟨b0_0,0,none⟩),.pointer (some ⟨b1_0,0,none⟩)]),(7,.int .i64 y3_1.nodes),(21,.int .i64 y3_1.nodes),(22,.int .i64 v3_22)],[⟨b1_0,#[.int .i64 v3_b1_0_0],3⟩,⟨b0_0,#[.pointer (some ⟨m,0,none⟩)],31⟩],[(MachA m v3_m)]⟩) (fun m3 (v3_22,v3_b1_0_0,v3_m)=>rroundS_l3 y3_1 u4_4 (rroundS_j0) m3 v3_22 v3_b1_0_0 v3_m=some y) [0,0] [0] (4096) ((0:Int),(0:Int),mc) H ?_
   rintro N3 (_ | m3) ⟨v3_22,v3_b1_0_0,v3_m⟩ H hN3
   · exact (noneE H).elim
   replace H:rroundS_l3 y3_1 u4_4 (rroundS_j0) (m3+1) v3_22 v3_b1_0_0 v3_m=some y:=H
   rw [rroundS_l3] at H
   refine xs [] H ?_ ?_
   · intro H
     refine chkG H fun q8_5_1 H=>?_
     refine xp [1,1] (ov_rem (a:=(wr ((u4_4.tmod y3_1.nodes)+v3_22))) (b:=y3_1.nodes) q8_5_1) ?_
     refine letG H fun u8_5 hu8_5 H=>?_
     refine xw [300] 30 (congrArg (Value.int .i64) hu8_5) ?_
     refine bindG H fun y8_7 hy8_7 H=>?_
     refine xc [] [1,0] [0] (rdoF b0_0 m b1_0 hy8_7) fun _=>?_
     refine chkG H fun q9_0_1 H=>?_
     refine xd [0] (ap q9_0_1 an) ?_
     exact xe [] _ [1,0] [0] (hN3 _ (v3_22+(1:Int),y8_7.2,y8_7.1) (Nat.lt_succ_self _) H)
   · intro H
     exact xe [0] _ [0,0] [0] (hN0 (v3_b1_0_0,v3_m) H)
def rfinS_j0 (e0_7:Int) (e0_m:MachS):Option (Int×MachS) :=
 some (e0_7,e0_m)
def rfinS_j2 (v1_7:Int) (firsts:List Int) (v1_m:MachS) (r1:Int→MachS→Option (Int×MachS)) (k0:Int→MachS→Option (Int×MachS)) (e2_16:Bool):Option (Int×MachS) :=
 (bif e2_16 then (bif decide (v1_7<(firsts.length:Int)) then chk (0≤v1_7∧v1_7<(firsts.length:Int)) ((rroundS v1_m (nth firsts v1_7)).bind fun y6_2=>chk (inR (v1_7+(1:Int))) (r1 (v1_7+(1:Int)) y6_2.2)) else (rroundS v1_m (0:Int)).bind fun y6_2=>chk (inR (v1_7+(1:Int))) (r1 (v1_7+(1:Int)) y6_2.2)) else k0 v1_7 v1_m)
def rfinS_l1 (most:Int) (firsts:List Int) (k0:Int→MachS→Option (Int×MachS)):Nat→Int→MachS→Option (Int×MachS)
 |0,_,_=>none
 |m+1,v1_7,v1_m=>(bif decide (v1_7<most) then (roverS v1_m).bind fun y2_5=>(rfinS_j2 v1_7 firsts v1_m (rfinS_l1 most firsts k0 m) k0) !y2_5 else (rfinS_j2 v1_7 firsts v1_m (rfinS_l1 most firsts k0 m) k0) false)
def rfinS (mc:MachS) (most:Int) (firsts:List Int):Option (Int×MachS) :=
 rfinS_l1 most firsts rfinS_j0 (most.toNat+1) (0:Int) mc
theorem rfinF {mc:MachS} {most:Int} {firsts:List Int} {firstsA:Asn} (m:Nat) (firstsa:Option Addr) (firstsc:Nat) (hfirstsA:Rdb firstsA firstsa firstsc firsts) {y:Int×MachS} (H:rfinS mc most firsts=some y):FnY Tryz.prog 44 [.pointer (some ⟨m,0,none⟩),.int .i64 most,.slice firstsa firsts.length firstsc] ⟨[],[(MachA m mc),firstsA]⟩ (Z:=Unit) (fun y _=>.int .i64 y.1) (fun y _=>⟨[],[(MachA m y.2),firstsA]⟩) y:=by
 unfold rfinS at H
 refine xfY Tryz.func44 fun W0 F=>?_
 refine xj [102] (ι:=Int×MachS) (fun (e0_7,e0_m)=>⟨[(7,.int .i64 e0_7)],[],[(MachA m e0_m),firstsA]⟩) (fun (e0_7,e0_m)=>rfinS_j0 e0_7 e0_m=some y) ?_ ?_
 · rintro ⟨e0_7,e0_m⟩ H
   replace H:rfinS_j0 e0_7 e0_m=some y:=H
   rw [rfinS_j0] at H
   exact xrY (someE H) [] [] [] [0,0] ()
 · intro N0 hN0
   refine xl [] (ι:=Int×MachS) (fun (v1_7,v1_m)=>⟨[(0,.pointer (some ⟨m,0,none⟩)),(1,.int .i64 most),(2,.slice firstsa firsts.length firstsc),(7,.int .i64 v1_7)],[],[(MachA m v1_m),firstsA]⟩) (fun m1 (v1_7,v1_m)=>rfinS_l1 most firsts (rfinS_j0) m1 v1_7 v1_m=some y) [] [0,0] ((most.toNat+1)) ((0:Int),mc) H ?_
   rintro N1 (_ | m1) ⟨v1_7,v1_m⟩ H hN1
   · exact (noneE H).elim
   replace H:rfinS_l1 most firsts (rfinS_j0) (m1+1) v1_7 v1_m=some y:=H
   rw [rfinS_l1] at H
   refine xj [101] (ι:=Bool) (fun e2_16=>⟨[(0,.pointer (some ⟨m,0,none⟩)),(1,.int .i64 most),(2,.slice firstsa firsts.length firstsc),(7,.int .i64 v1_7),(16,.bool e2_16)],[],[(MachA m v1_m),firstsA]⟩) (fun e2_16=>rfinS_j2 v1_7 firsts v1_m (rfinS_l1 most firsts (rfinS_j0) m1) (rfinS_j0) e2_16=some y) ?_ ?_
   · rintro e2_16 H
     replace H:rfinS_j2 v1_7 firsts v1_m (rfinS_l1 most firsts (rfinS_j0) m1) (rfinS_j0) e2_16=some y:=H
     rw [rfinS_j2] at H
     refine xs [] H ?_ ?_
     · intro H
       refine xs [1] H ?_ ?_
       · intro H
         refine chkG H fun q5_2_1 H=>?_
         refine xi [1] 1 hfirstsA q5_2_1 fun b1 o1 e1=>?_
         refine xpl [] 1 (ol_ld hfirstsA e1 q5_2_1 0 (fun _=>rfl)) ?_
         refine bindG H fun y6_2 hy6_2 H=>?_
         refine xc [] [] [0] (rroundF m hy6_2) fun _=>?_
         refine chkG H fun q7_1_1 H=>?_
         refine xd [0] (ap q7_1_1 an) ?_
         exact xe [] _ [] [0,0] (hN1 _ (v1_7+(1:Int),y6_2.2) (Nat.lt_succ_self _) H)
       · intro H
         refine bindG H fun y6_2 hy6_2 H=>?_
         refine xc [0] [] [0] (rroundF m hy6_2) fun _=>?_
         refine chkG H fun q7_1_2 H=>?_
         refine xd [0] (ap q7_1_2 an) ?_
         exact xe [] _ [] [0,0] (hN1 _ (v1_7+(1:Int),y6_2.2) (Nat.lt_succ_self _) H)
     · intro H
       exact xe [0] _ [] [0,0] (hN0 (v1_7,v1_m) H)
   · intro N2 hN2
     refine xs [] H ?_ ?_
     · intro H
       refine xg [1,1] [] [0] (gh_open (MachO m v1_m)) fun ⟨b_fab1,b_trace2,a_c_init3,c_c_init4,a_nodes5,c_nodes6,r_nodes7⟩=>?_
       refine bindG H fun y2_5 hy2_5 H=>?_
       refine xc [1] [0] [0,0,0,0,0] (roverF m b_fab1 b_trace2 a_c_init3 c_c_init4 a_nodes5 c_nodes6 r_nodes7 hy2_5) fun _=>?_
       refine xg [1,1] [0] [0,0,0,0,0] (gh_shut (MachO m v1_m) (b_fab1,b_trace2,a_c_init3,c_c_init4,a_nodes5,c_nodes6,r_nodes7)) fun _=>?_
       exact xe [] _ [] [0,0] (hN2 (!y2_5) H)
     · intro H
       exact xe [0,0,0,0] _ [] [0,0] (hN2 (false) H)
def trunS_j1 (v0_6:Int) (l:List ChoiceS) (v0_m:MachS) (r0:Int→MachS→Option (MachS)) (e1_15:Bool):Option (MachS) :=
 (bif e1_15 then chk (0≤v0_6∧v0_6<(l.length:Int)) ((mconfS v0_m).bind fun y3_6=>(funderS v0_m.fab).bind fun y3_12=>(ppickS (nthT l v0_6) y3_6.nodes y3_12).bind fun y3_13=>(mdoS v0_m y3_13).bind fun y3_14=>chk (inR (v0_6+(1:Int))) (r0 (v0_6+(1:Int)) y3_14.2)) else some v0_m)
def trunS_l0 (l:List ChoiceS) (most:Int):Nat→Int→MachS→Option (MachS)
 |0,_,_=>none
 |m+1,v0_6,v0_m=>(bif decide (v0_6<(l.length:Int)) then (trunS_j1 v0_6 l v0_m (trunS_l0 l most m)) (decide (v0_6<most)) else (trunS_j1 v0_6 l v0_m (trunS_l0 l most m)) false)
def trunS (mc:MachS) (l:List ChoiceS) (most:Int):Option (MachS) :=
 trunS_l0 l most (l.length+1) (0:Int) mc
theorem trunF {mc:MachS} {l:List ChoiceS} {lA:Asn} {most:Int} (m:Nat) (la:Option Addr) (lc:Nat) (hlA:Rdb lA la lc l) {y:MachS} (H:trunS mc l most=some y):FnY Tryz.prog 27 [.pointer (some ⟨m,0,none⟩),.slice la l.length lc,.int .i64 most] ⟨[],[(MachA m mc),lA]⟩ (Z:=Unit) (fun y _=>.tuple #[]) (fun y _=>⟨[],[(MachA m y),lA]⟩) y:=by
 unfold trunS at H
 refine xfY Tryz.func27 fun W0 F=>?_
 refine xl [] (ι:=Int×MachS) (fun (v0_6,v0_m)=>⟨[(0,.pointer (some ⟨m,0,none⟩)),(1,.slice la l.length lc),(2,.int .i64 most),(6,.int .i64 v0_6)],[],[(MachA m v0_m),lA]⟩) (fun m0 (v0_6,v0_m)=>trunS_l0 l most m0 v0_6 v0_m=some y) [] [0,0] ((l.length+1)) ((0:Int),mc) H ?_
 rintro N0 (_ | m0) ⟨v0_6,v0_m⟩ H hN0
 · exact (noneE H).elim
 replace H:trunS_l0 l most (m0+1) v0_6 v0_m=some y:=H
 rw [trunS_l0] at H
 refine xj [101] (ι:=Bool) (fun e1_15=>⟨[(0,.pointer (some ⟨m,0,none⟩)),(1,.slice la l.length lc),(2,.int .i64 most),(6,.int .i64 v0_6),(15,.bool e1_15)],[],[(MachA m v0_m),lA]⟩) (fun e1_15=>trunS_j1 v0_6 l v0_m (trunS_l0 l most m0) e1_15=some y) ?_ ?_
 · rintro e1_15 H
   replace H:trunS_j1 v0_6 l v0_m (trunS_l0 l most m0) e1_15=some y:=H
   rw [trunS_j1] at H
   refine xs [] H ?_ ?_
   · intro H
     refine chkG H fun q3_3_1 H=>?_
     refine xi [1,0,1,2,3] 1 hlA q3_3_1 fun b1 o1 e1=>?_
     refine xpl [4] 1 (ol_ldN hlA e1 q3_3_1 0 4 (fun _=>rfl)) ?_
     refine xg [5,8,9,10,11] [] [0] (gh_open (MachO m v0_m)) fun ⟨b_fab1,b_trace2,a_c_init3,c_c_init4,a_nodes5,c_nodes6,r_nodes7⟩=>?_
     refine bindG H fun y3_6 hy3_6 H=>?_
     refine xc [0,6] [0] [0,0,0,0,0] (mconfF m b_fab1 b_trace2 a_c_init3 c_c_init4 a_nodes5 c_nodes6 r_nodes7 hy3_6) fun ⟨t3_6_a0,t3_6_c0⟩=>?_
     refine xg [7,12] [] [1] (gh_open (FabO b_fab1 v0_m.fab)) fun ⟨a_cs8,c_cs9,r_cs10⟩=>?_
     refine bindG H fun y3_12 hy3_12 H=>?_
     refine xc [] [0] [0,0] (funderF b_fab1 a_cs8 c_cs9 r_cs10 hy3_12) fun _=>?_
     refine bindG H fun y3_13 hy3_13 H=>?_
     refine xc [13] [] [] (ppickF hy3_13) fun _=>?_
     refine xg [14] [0] [0,0] (gh_shut (FabO b_fab1 v0_m.fab) (a_cs8,c_cs9,r_cs10)) fun _=>?_
     refine xg [] [0] [0,1,1,1,1] (gh_shut (MachO m v0_m) (b_fab1,b_trace2,a_c_init3,c_c_init4,a_nodes5,c_nodes6,r_nodes7)) fun _=>?_
     refine bindG H fun y3_14 hy3_14 H=>?_
     refine xc [] [] [0] (mdoF m hy3_14) fun _=>?_
     refine chkG H fun q2_1_1 H=>?_
     refine xd [0] (ap q2_1_1 an) ?_
     exact xe [] _ [] [0,1] (hN0 _ (v0_6+(1:Int),y3_14.2) (Nat.lt_succ_self _) H)
   · intro H
     exact xrY (someE H) [0] [] [] [0,0] ()
 · intro N1 hN1
   refine xs [] H ?_ ?_
   · intro H
     exact xe [1,1,1,1] _ [] [0,0] (hN1 (decide (v0_6<most)) H)
   · intro H
     exact xe [0,0,0,0] _ [] [0,0] (hN1 (false) H)
end
section
open Go Go.RowKit
def wstidxS_j0:Option (Int) :=
 some ((-1):Int)
def wstidxS_l1 (s:List Ent) (rw_v:RowS) (k0:Option (Int)):Nat→Int→Option (Int)
 |0,_=>none
 |m+1,v1_8=>(bif decide (v1_8<(s.length:Int)) then chk (0≤v1_8∧v1_8<(s.length:Int)) (letP (nthT s v1_8) fun x4_4=>(wst1S x4_4 rw_v).bind fun y4_5=>(bif y4_5 then some v1_8 else chk (inR (v1_8+(1:Int))) ((wstidxS_l1 s rw_v k0 m) (v1_8+(1:Int))))) else k0)
def wstidxS (s:List Ent) (rw_v:RowS):Option (Int) :=
 wstidxS_l1 s rw_v wstidxS_j0 (s.length+1) (0:Int)
theorem wstidxF {s:List Ent} {sA:Asn} {rw_v:RowS} {rw_0A:Asn} (sa:Option Addr) (sc:Nat) (rw_:Nat) (rw_0a:Option Addr) (rw_0c:Nat) (hsA:Rdb sA sa sc s) (hrw_0A:Rdb rw_0A rw_0a rw_0c rw_v.data) {y:Int} (H:wstidxS s rw_v=some y):FnY Tryz.prog 96 [.slice sa s.length sc,.func (.func 95) #[] #[.pointer (some ⟨rw_,0,none⟩)]] ⟨[⟨rw_,#[.int .i64 rw_v.state,.int .i64 rw_v.head,.slice rw_0a rw_v.data.length rw_0c],86⟩],[sA,rw_0A]⟩ (Z:=Unit) (fun y _=>.int .i64 y) (fun y _=>⟨[⟨rw_,#[.int .i64 rw_v.state,.int .i64 rw_v.head,.slice rw_0a rw_v.data.length rw_0c],86⟩],[sA,rw_0A]⟩) y:=by
 unfold wstidxS at H
 refine xfY Tryz.func96 fun W0 F=>?_
 refine xj [101] (ι:=Unit) (fun _=>⟨[],[⟨rw_,#[.int .i64 rw_v.state,.int .i64 rw_v.head,.slice rw_0a rw_v.data.length rw_0c],86⟩],[sA,rw_0A]⟩) (fun _=>wstidxS_j0=some y) ?_ ?_
 · rintro _ H
   replace H:wstidxS_j0=some y:=H
   rw [wstidxS_j0] at H
   exact xrY (someE H) [] [] [0] [0,0] ()
 · intro N0 hN0
   refine xl [] (ι:=Int) (fun v1_8=>⟨[(0,.slice sa s.length sc),(1,.func (.func 95) #[] #[.pointer (some ⟨rw_,0,none⟩)]),(7,.int .i64 s.length),(8,.int .i64 v1_8)],[⟨rw_,#[.int .i64 rw_v.state,.int .i64 rw_v.head,.slice rw_0a rw_v.data.length rw_0c],86⟩],[sA,rw_0A]⟩) (fun m1 v1_8=>wstidxS_l1 s rw_v (wstidxS_j0) m1 v1_8=some y) [0] [0,0] ((s.length+1)) ((0:Int)) H ?_
   rintro N1 (_ | m1) v1_8 H hN1
   · exact (noneE H).elim
   replace H:wstidxS_l1 s rw_v (wstidxS_j0) (m1+1) v1_8=some y:=H
   rw [wstidxS_l1] at H
   refine xs [] H ?_ ?_
   · intro H
     refine chkG H fun q4_3_1 H=>?_
     refine xi [1] 0 hsA q4_3_1 fun b1 o1 e1=>?_
     refine letG H fun x4_4 hx4_4 H=>?_
     refine xo [] [] [0] (oc_ldN hsA e1 q4_3_1 hx4_4 0 6) fun z4_4_1=>?_
     refine bindG H fun y4_5 hy4_5 H=>?_
     refine xc [] [0] [0,1] (wst1F z4_4_1.1 z4_4_1.2 rw_ rw_0a rw_0c (rI z4_4_1.1 z4_4_1.2 x4_4.data) hrw_0A hy4_5) fun _=>?_
     refine xs [] H ?_ ?_
     · intro H
       exact xrY (someE H) [1] [] [0] [2,1] ()
     · intro H
       refine chkG H fun q6_0_1 H=>?_
       refine xd [0,0] (ap q6_0_1 an) ?_
       exact xe [] _ [0] [2,1] (hN1 _ (v1_8+(1:Int)) (Nat.lt_succ_self _) H)
   · intro H
     exact xe [0] _ [0] [0,0] (hN0 () H)
def wstcofS (s:List Ent) (rw_v:RowS):Option (Bool) :=
 (wstidxS s rw_v).bind fun y1_2=>some (decide ((0:Int)≤y1_2))
theorem wstcofF {s:List Ent} {sA:Asn} {rw_v:RowS} {rw_0A:Asn} (sa:Option Addr) (sc:Nat) (rw_:Nat) (rw_0a:Option Addr) (rw_0c:Nat) (hsA:Rdb sA sa sc s) (hrw_0A:Rdb rw_0A rw_0a rw_0c rw_v.data) {y:Bool} (H:wstcofS s rw_v=some y):FnY Tryz.prog 94 [.slice sa s.length sc,.func (.func 95) #[] #[.pointer (some ⟨rw_,0,none⟩)]] ⟨[⟨rw_,#[.int .i64 rw_v.state,.int .i64 rw_v.head,.slice rw_0a rw_v.data.length rw_0c],86⟩],[sA,rw_0A]⟩ (Z:=Unit) (fun y _=>.bool y) (fun y _=>⟨[⟨rw_,#[.int .i64 rw_v.state,.int .i64 rw_v.head,.slice rw_0a rw_v.data.length rw_0c],86⟩],[sA,rw_0A]⟩) y:=by
 unfold wstcofS at H
 refine xfY Tryz.func94 fun W0 F=>?_
 refine bindG H fun y1_2 hy1_2 H=>?_
 refine xc [] [0] [0,0] (wstidxF sa sc rw_ rw_0a rw_0c hsA hrw_0A hy1_2) fun _=>?_
 exact xrY (someE H) [] [] [0] [0,0] ()
def wstateS (r:RowS) (l:List Ent):Option (Bool) :=
 (bif decide (r.state=(0:Int)) then some (decide ((l.length:Int)=(0:Int))) else (bif decide (r.state=(1:Int)) then (bif decide ((0:Int)<(l.length:Int)) then (wstcofS l r).bind fun y5_6=>some !y5_6 else some false) else (bif decide ((l.length:Int)=(1:Int)) then chk (0≤(0:Int)∧(0:Int)<(l.length:Int)) (some ((nthT l (0:Int)).dirty)) else some false)))
theorem wstateF {r:RowS} {r0A:Asn} {l:List Ent} {lA:Asn} (r0a:Option Addr) (r0c:Nat) (la:Option Addr) (lc:Nat) (hr0A:Rdb r0A r0a r0c r.data) (hlA:Rdb lA la lc l) {y:Bool} (H:wstateS r l=some y):FnY Tryz.prog 52 [.agg #[.int .i64 r.state,.int .i64 r.head,.slice r0a r.data.length r0c],.slice la l.length lc] ⟨[],[r0A,lA]⟩ (Z:=Unit) (fun y _=>.bool y) (fun y _=>⟨[],[r0A,lA]⟩) y:=by
 unfold wstateS at H
 refine xfY Tryz.func52 fun W0 F=>?_
 refine xn [] fun b0_0=>?_
 refine xs [0] H ?_ ?_
 · intro H
   exact xrY (someE H) [1] [] [] [0,0] ()
 · intro H
   refine xs [0] H ?_ ?_
   · intro H
     refine xs [1] H ?_ ?_
     · intro H
       refine bindG H fun y5_6 hy5_6 H=>?_
       refine xc [1,1,1] [0] [1,0] (wstcofF la lc b0_0 r0a r0c hlA hr0A hy5_6) fun _=>?_
       exact xrY (someE H) [1,1] [] [] [1,0] ()
     · intro H
       exact xrY (someE H) [0,0,0,0,0] [] [] [0,0] ()
   · intro H
     refine xs [0] H ?_ ?_
     · intro H
       refine chkG H fun q6_5_1 H=>?_
       refine xi [1,1] 1 hlA q6_5_1 fun b1 o1 e1=>?_
       refine xpl [1,1] 1 (ol_ld hlA e1 q6_5_1 4 (fun _=>rfl)) ?_
       exact xrY (someE H) [1] [] [] [0,0] ()
     · intro H
       exact xrY (someE H) [0,0,0,0,0] [] [] [0,0] ()
end
end Go.Proofs.YtcidmgkfaioceaaGreat
