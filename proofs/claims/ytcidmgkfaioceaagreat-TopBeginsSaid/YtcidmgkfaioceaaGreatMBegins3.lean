/- Walks of the program's functions, and the plain laws of what they compute (part 3): Cpy, Pla, Ent, Pac, Trn, Mem, Hom, Rng, LayS, SrtT, Val, Srt, Rdy, Crb, Dls.
   Conditions: none. -/
import Derived.RangeFuncLeaves
import Derived.RangeFuncRecord
import Derived.RangeFuncSeq
import Derived.Shelf.SlGeneric
import Derived.Shelf.SlIterI.Sorted
import Derived.Shelf.SortM.Plain
import Derived.Shelf.SortM.SortNone
import Derived.Ground.GgzProg
import Derived.Ground.SlgmProg
import Derived.Sort.Row
import Derived.Sort.Grow
import Derived.Lib.SlKeysI
import Derived.Test.YtcidmgkfaioceaaGreatMBegins2
set_option linter.unusedVariables false
set_option linter.unusedSimpArgs false
set_option linter.unusedSectionVars false
set_option maxRecDepth 100000
set_option maxHeartbeats 4000000
namespace Go.Proofs.YtcidmgkfaioceaaGreat
section
open Go Go.RowKit
def cpI (xs ys:List Int):List Int:=ys.take xs.length++xs.drop ys.length
theorem cp_len {xs ys zs:List Int} (h:cpI xs ys=zs):xs.length=zs.length:=by rw [← h]; simp [cpI]; omega
section
variable {P:Program} {W0 w:World} {Γ:List Asn} {t t2:TypeId}
theorem ints_nil:∀ {xs:List Int},ints xs=[]→xs=[]
 |[],_=>rfl
 |_::_,h=>by simp [ints] at h
theorem run_copy {E c1 c2:Nat} {tr:TypeId} {a a2:Option Addr} {xs ys zs:List Int} (info:TypeInfo) (ht:P.underlying t=some (.slice E)) (hi:P.info? E=some info) (hk:info.size=1) (h0:Sat W0 (IntsA a c1 xs::Γ) w)
 (hr:∀ j v,(ints ys).flatten[j]?=some v→∃ p,a2=some p∧w.cell? (p.add j)=some v) (hzs:cpI xs ys=zs) :
 ∃ w',(Builtin.copy_ #[t,t2] tr #[.slice a xs.length c1,.slice a2 ys.length c2]).run P w=.ok (.int .i64 ((min ys.length xs.length:Nat):Int)) w'∧Sat W0 (IntsA a c1 zs::Γ) w':=by
 subst hzs
 generalize hn:Nat.min ys.length xs.length=m
 have hm:m≤ys.length∧m≤xs.length:=by rw [← hn]; exact ⟨Nat.min_le_left ..,Nat.min_le_right ..⟩
 have hfl:(ints (ys.take m)).flatten.length=m*1:=by rw [ints_flatten]; simp; omega
 have hf:=run_firstCells (P:=P) (w:=w) (a:=a2) (rows:=ints (ys.take m)) 1 m c2 hfl (fun j v hj=>hr j v (by
  rw [ints_flatten,List.getElem?_map] at hj ⊢
  rw [List.getElem?_take] at hj
  split at hj
  · exact hj
  · simp at hj))
 have hz:ys.take xs.length++xs.drop ys.length=ys.take m++xs.drop m:=by
  rcases Nat.le_total ys.length xs.length with h | h
  · have:m=ys.length:=by rw [← hn]; exact Nat.min_eq_left h
    rw [this,List.take_of_length_le h,List.take_of_length_le (Nat.le_refl _)]
  · have:m=xs.length:=by rw [← hn]; exact Nat.min_eq_right h
    rw [this,List.drop_of_length_le h,List.drop_of_length_le (Nat.le_refl _)]
 unfold cpI
 rw [hz]
 have hrest:=h0
 obtain ⟨S,I,⟨S1,S2,h1,h2,h3,⟨h4,h5⟩,h6⟩,d1,d2,d3,d4,d5⟩:=h0
 have hlast:(ints (ys.take m++xs.drop m)).length=xs.length:=by simp; omega
 rcases h5 with ⟨e1,rfl⟩ | ⟨b,off,c,T,rfl,q2,q3,q4,q5,q6⟩
 · have:xs=[]:=ints_nil e1
   subst this
   have hm0:m=0:=by simpa using hm.2
   subst hm0
   refine ⟨w,?_,?_⟩
   · simp only [List.take_zero,ints,List.map_nil,List.flatten_nil,Nat.zero_mul] at hf
     have hff:(Builtin.firstCells 1 0 (.slice a2 ys.length c2)).run P w=.ok #[] w:=by
      cases a2 with
      |none=>rfl
      |some p=>rfl
     unfold Builtin.copy_
     simp [run_underlying ht,Builtin.lenOf,Go.sizeOf,typeInfo,hi,hk,hff,goInt]
     cases a <;> simp [storeCells]
   · simp only [List.take_zero,List.nil_append,List.drop_zero]
     exact hrest
 · have hlen:(ints xs).length=xs.length:=ints_length xs
   rw [hlen] at q4
   have hsz:off+0+(ints (ys.take m)).flatten.length≤c.size:=by rw [hfl]; simp at q5; omega
   obtain ⟨w',r1,r2,r3,r4,r5,r6,r7⟩:=run_storeCells (P:=P) (off:=off) (ints (ys.take m)).flatten 0 w c q3 hsz (ints_one _)
   have hne:∀ d,d≠b→w'.heap[d]?=w.heap[d]?:=r4
   have hnot:∀ d,S2 d∨I d→d≠b:=by
    rintro d hd rfl
    exact hd.elim (h3 d q2) (d1 d (h1 d q2))
   refine ⟨w',?_,S,I,⟨S1,S2,h1,h2,h3,⟨ints_rows _,.inr ⟨b,off,_,T,rfl,q2,r2,by rw [hlast]; omega,?_,?_⟩⟩,h6.loc fun d hd=>hne d (hnot d hd)⟩,d1,fun d hd=>r3▸d2 d hd,fun d hd=>r3▸d3 d hd,d4,?_⟩
   · have hn':min ys.length xs.length=m:=hn
     unfold Builtin.copy_
     have hfe:Builtin.firstCells 1 m (.slice a2 ys.length c2)=Builtin.firstCells 1 m (.slice a2 m c2):=by cases a2 <;> rfl
     simp [run_underlying ht,Builtin.lenOf,Go.sizeOf,typeInfo,hi,hk,hn',hfe,hf,goInt,r1]
   · rw [putCells_size]; exact q5
   · intro j v hj
     rw [putCells_get _ _ _ _ (by omega)]
     rw [ints_flatten,List.getElem?_map,List.getElem?_append] at hj
     have hfl':(ints (ys.take m)).flatten.length=m:=by rw [hfl,Nat.mul_one]
     have htl:(ys.take m).length=m:=by simp; omega
     by_cases hjm:j<m
     · rw [if_pos (by omega)] at hj
       rw [if_pos (by omega),show off+j - (off+0)=j by omega,ints_flatten,List.getElem?_map]
       exact hj
     · rw [if_neg (by omega),htl,List.getElem?_drop,show m+(j - m)=j by omega] at hj
       rw [if_neg (by omega)]
       refine q6 j v ?_
       rw [ints_flatten,List.getElem?_map]; exact hj
   · exact ⟨r5.trans d5.os,r6.trans d5.tape,r7.trans d5.output,by rw [r3]; exact d5.size,fun d hd=>(hne d (hnot d (.inr (d4 d hd)))).trans (d5.block d hd)⟩
theorem rows_ints:∀ {l:List Int} {xs:List (Rw.X Int)},xs.length=l.length→rowsOf l xs=ints l
 |[],[],_=>rfl
 |x::l,y::xs,h=>by
  have:=rows_ints (l:=l) (xs:=xs) (by simpa using h)
  show Rw.cells x y::rowsOf l xs=_
  rw [this]; rfl
 |[],_::_,h=>by simp at h
 |_::_,[],h=>by simp at h
theorem oc_copy (t t2 E tr:TypeId) (P:Program) {a a2:Option Addr} {cap cap2:Nat} {xs ys zs:List Int} {B:Asn} (hB:Rdb B a2 cap2 ys) (hz:cpI xs ys=zs) (ht:P.underlying t=some (.slice E):=by kernel_rfl) (hi:(P.info? E).isSome=true:=by kernel_rfl) (hk:(infoT P E).size=1:=by kernel_rfl) :
 Oc P (Builtin.copy_ #[t,t2] tr #[.slice a xs.length cap,.slice a2 ys.length cap2] >>= fun v=>pure (Next.value v)) ⟨[],[ArrA a cap xs,B]⟩ (fun _:Unit=>.int .i64 ((min ys.length xs.length:Nat):Int)) (fun _=>⟨[],[ArrA a cap zs,B]⟩):=by
 intro W0 Γ w hw
 obtain ⟨us,q1,g1⟩:=ArrA.split (show Sat W0 (ArrA a cap xs::B::Γ) w from hw)
 have g2:Sat W0 (B::RowsA 1 a cap (rowsOf xs us)::KnA xs us::Γ) w:=g1.less (.take (.there (.there .here)) (.take .here (.take .here .refl)))
 obtain ⟨ys',q2,g3⟩:=g2.read hB
 rw [rows_ints q1] at g3
 have hrd:∀ j v,(ints ys).flatten[j]?=some v→∃ p,a2=some p∧w.cell? (p.add j)=some v:=by
  intro j v hj
  obtain ⟨S,I,⟨S1,S2,p1,p2,p3,⟨p4,p5,p6,p7⟩,p8⟩,r⟩:=g3
  rw [rows_ints q2] at p6
  rcases p6 with p6 | ⟨b,off,cc,T,fr,e1,e2,e3,e4⟩
  · rw [p6] at hj; simp at hj
  · exact ⟨_,e1,by rw [add_none,cell_of e3]; exact e4 j v hj⟩
 have g4:Sat W0 (IntsA a cap xs::B.and (LieA a2 ys ys')::KnA xs us::Γ) w:=g3.less (.take (.there .here) (.take .here .refl))
 obtain ⟨w',r1,r2⟩:=run_copy (t:=t) (t2:=t2) (E:=E) (tr:=tr) (c2:=cap2) (infoT P E) ht (some_getD hi) hk g4 hrd hz
 refine ⟨(),w',_,run_seq r1 rfl,.inl rfl,?_⟩
 have r3:Sat W0 (B::IntsA a cap zs::Γ) w':=by
  have r4:Sat W0 (B.and (LieA a2 ys ys')::IntsA a cap zs::Γ) w':=r2.less (.take (.there .here) (.take .here (.drop .here .refl)))
  exact r4.unread
 have r5:Sat W0 (RowsA (Rw.k Int) a cap (rowsOf zs (List.replicate zs.length ()))::KnA zs (List.replicate zs.length ())::B::Γ) w':=by
  rw [rows_ints (by simp)]
  have r6:Sat W0 (IntsA a cap zs::B::Γ) w':=r3.less (.take (.there .here) (.take .here .refl))
  obtain ⟨S,I,⟨S1,S2,p1,p2,p3,p4,p5⟩,r⟩:=r6
  exact ⟨S,I,⟨S1,S2,p1,p2,p3,p4,fun _=>False,S2,fun _ h=>h.elim,fun _ h=>h,fun _ h _=>h,fun _ _ _ _ _=>trivial,p5⟩,r⟩
 exact ArrA.join (by simp) r5
end
end
section
open Go Go.RowKit
def prestS (line:Int) (by_:Int):Option (Int) :=
 (bif decide (line<(0:Int)) then some ((-1):Int) else chk (1≤by_) (some (line.tmod by_)))
theorem prest_fq {line:Int} {by_:Int} {y:Int} (H:prestS line by_=some y):Fq Tryz.prog 129 [.int .i64 line,.int .i64 by_] (.int .i64 y):=by
 unfold prestS at H
 refine Fn.quiet (xf Tryz.func129 fun W0 F=>?_)
 refine xs [] H ?_ ?_
 · intro H
   obtain rfl:=someE H
   exact xr [1] [] [] [] ()
 · intro H
   refine chkG H fun q3_2_1 H=>?_
   refine xp [0] (ov_rem (a:=line) (b:=by_) q3_2_1) ?_
   obtain rfl:=someE H
   exact xr [] [] [] [] ()
def pwithinS (n:Int) (most:Int):Option (Bool) :=
 (bif decide ((1:Int)≤n) then some (decide (n≤most)) else some false)
theorem pwithin_fq {n:Int} {most:Int} {y:Bool} (H:pwithinS n most=some y):Fq Tryz.prog 76 [.int .i64 n,.int .i64 most] (.bool y):=by
 unfold pwithinS at H
 refine Fn.quiet (xf Tryz.func76 fun W0 F=>?_)
 refine xs [] H ?_ ?_
 · intro H
   obtain rfl:=someE H
   exact xr [1,1,1,1] [] [] [] ()
 · intro H
   obtain rfl:=someE H
   exact xr [0,0,0,0] [] [] [] ()
def phomeS (c:CfgS) (line:Int):Option (Int) :=
 (prestS line c.nodes).bind fun y1_3=>some y1_3
theorem phomeF {c:CfgS} {line:Int} (c0a:Option Addr) (c0c:Nat) {y:Int} (H:phomeS c line=some y):FnY Tryz.prog 89 [.agg #[.int .i64 c.nodes,.int .i64 c.lines,.int .i64 c.words,.int .i64 c.sets,.int .i64 c.ways,.int .i64 c.out,.int .i64 c.inn,.slice c0a c.init.length c0c],.int .i64 line] ⟨[],[]⟩ (Z:=Unit) (fun y _=>.int .i64 y) (fun y _=>⟨[],[]⟩) y:=by
 unfold phomeS at H
 refine xfY Tryz.func89 fun W0 F=>?_
 refine xn [] fun b0_0=>?_
 refine bindG H fun y1_3 hy1_3 H=>?_
 refine xq [0] (prest_fq hy1_3) ?_
 exact xrY (someE H) [] [] [] [] ()
def paddrsS (c:CfgS):Option (Int) :=
 some (wr (c.lines*c.words))
theorem paddrsF {c:CfgS} (c0a:Option Addr) (c0c:Nat) {y:Int} (H:paddrsS c=some y):FnY Tryz.prog 101 [.agg #[.int .i64 c.nodes,.int .i64 c.lines,.int .i64 c.words,.int .i64 c.sets,.int .i64 c.ways,.int .i64 c.out,.int .i64 c.inn,.slice c0a c.init.length c0c]] ⟨[],[]⟩ (Z:=Unit) (fun y _=>.int .i64 y) (fun y _=>⟨[],[]⟩) y:=by
 unfold paddrsS at H
 refine xfY Tryz.func101 fun W0 F=>?_
 refine xn [] fun b0_0=>?_
 exact xrY (someE H) [0,0,1] [] [] [] ()
def plineS_j0 (c:CfgS) (addr:Int) (e0_13:Bool):Option (Int×Int) :=
 (bif e0_13 then some (((-1):Int),(0:Int)) else chk (1≤c.words) (chk (1≤c.words) (some (wr (addr.tdiv c.words),addr.tmod c.words))))
def plineS (c:CfgS) (addr:Int):Option (Int×Int) :=
 (bif decide (addr<(0:Int)) then (plineS_j0 c addr) true else (paddrsS c).bind fun y1_5=>(plineS_j0 c addr) (decide (y1_5≤addr)))
theorem plineF {c:CfgS} {addr:Int} (c0a:Option Addr) (c0c:Nat) {y:Int×Int} (H:plineS c addr=some y):FnY Tryz.prog 124 [.agg #[.int .i64 c.nodes,.int .i64 c.lines,.int .i64 c.words,.int .i64 c.sets,.int .i64 c.ways,.int .i64 c.out,.int .i64 c.inn,.slice c0a c.init.length c0c],.int .i64 addr] ⟨[],[]⟩ (Z:=Unit) (fun y _=>.tuple #[.int .i64 y.1,.int .i64 y.2]) (fun y _=>⟨[],[]⟩) y:=by
 unfold plineS at H
 refine xfY Tryz.func124 fun W0 F=>?_
 refine xn [] fun b0_0=>?_
 refine xj [101] (ι:=Bool) (fun e0_13=>⟨[(1,.int .i64 addr),(2,.pointer (some ⟨b0_0,0,none⟩)),(13,.bool e0_13)],[⟨b0_0,#[.int .i64 c.nodes,.int .i64 c.lines,.int .i64 c.words,.int .i64 c.sets,.int .i64 c.ways,.int .i64 c.out,.int .i64 c.inn,.slice c0a c.init.length c0c],25⟩],[]⟩) (fun e0_13=>plineS_j0 c addr e0_13=some y) ?_ ?_
 · rintro e0_13 H
   replace H:plineS_j0 c addr e0_13=some y:=H
   rw [plineS_j0] at H
   refine xs [] H ?_ ?_
   · intro H
     exact xrY (someE H) [1] [] [] [] ()
   · intro H
     refine chkG H fun q3_3_1 H=>?_
     refine xp [0,0,1,2,0,3] (ov_quo (a:=addr) (b:=c.words) q3_3_1) ?_
     refine chkG H fun q3_7_1 H=>?_
     refine xp [4,5,6,0,7] (ov_rem (a:=addr) (b:=c.words) q3_7_1) ?_
     exact xrY (someE H) [8,9] [] [] [] ()
 · intro N0 hN0
   refine xs [] H ?_ ?_
   · intro H
     exact xe [0,0,0,0,1] _ [0] [] (hN0 (true) H)
   · intro H
     refine bindG H fun y1_5 hy1_5 H=>?_
     refine xc [1,1,0,1] [] [] (paddrsF c0a c0c hy1_5) fun _=>?_
     exact xe [1,0] _ [0] [] (hN0 (decide (y1_5≤addr)) H)
def pwordsS_j0 (c:CfgS) (line:Int) (e0_14:Bool):Option (List Int) :=
 (bif e0_14 then some ([]:List Int) else chk (0≤c.words∧c.words≤1099511627776) (letP (List.replicate (c.words).toNat ((0:Int):Int)) fun l3_2=>letP (if (c.init.length:Int)<(wr (line*c.words)) then (c.init.length:Int) else (wr (line*c.words))) fun u4_7=>chk (0≤u4_7∧u4_7≤(c.init.length:Int)∧(c.init.length:Int)≤(c.init.length:Int)) (letP ((c.init.drop (u4_7).toNat).take (((c.init.length:Int)).toNat - (u4_7).toNat)) fun l5_4=>letP (cpI l3_2 l5_4) fun l5_5=>some l5_5)))
def pwordsS (c:CfgS) (line:Int):Option (List Int) :=
 (bif decide (line<(0:Int)) then (pwordsS_j0 c line) true else (pwordsS_j0 c line) (decide (c.lines≤line)))
theorem pwordsF {c:CfgS} {c0A:Asn} {line:Int} (c0a:Option Addr) (c0c:Nat) (hc0A:Rdb c0A c0a c0c c.init) {y:List Int} (H:pwordsS c line=some y):FnY Tryz.prog 160 [.agg #[.int .i64 c.nodes,.int .i64 c.lines,.int .i64 c.words,.int .i64 c.sets,.int .i64 c.ways,.int .i64 c.out,.int .i64 c.inn,.slice c0a c.init.length c0c],.int .i64 line] ⟨[],[c0A]⟩ (Z:=Option Addr×Nat) (fun y (za0,zc0)=>.slice za0 y.length zc0) (fun y (za0,zc0)=>⟨[],[(ArrA za0 zc0 y),c0A]⟩) y:=by
 unfold pwordsS at H
 refine xfY Tryz.func160 fun W0 F=>?_
 refine xn [] fun b0_0=>?_
 refine xj [101] (ι:=Bool) (fun e0_14=>⟨[(1,.int .i64 line),(2,.pointer (some ⟨b0_0,0,none⟩)),(14,.bool e0_14)],[⟨b0_0,#[.int .i64 c.nodes,.int .i64 c.lines,.int .i64 c.words,.int .i64 c.sets,.int .i64 c.ways,.int .i64 c.out,.int .i64 c.inn,.slice c0a c.init.length c0c],25⟩],[c0A]⟩) (fun e0_14=>pwordsS_j0 c line e0_14=some y) ?_ ?_
 · rintro e0_14 H
   replace H:pwordsS_j0 c line e0_14=some y:=H
   rw [pwordsS_j0] at H
   refine xs [] H ?_ ?_
   · intro H
     refine xg [1] [] [] (gh_nil (α:=Int) none) fun _=>?_
     exact xrY (someE H) [] [] [] [0,0] (none,0)
   · intro H
     refine chkG H fun q3_2_1 H=>?_
     refine letG H fun l3_2 hl3_2 H=>?_
     refine xmk (α:=Int) [0,0] () q3_2_1 hl3_2 (fun _ _=>trivial) fun b3_2=>?_
     refine letG H fun u4_7 hu4_7 H=>?_
     refine xw [0,1,0,302] 25 (congrArg (Value.int .i64) hu4_7) ?_
     refine chkG H fun q5_4_1 H=>?_
     refine letG H fun l5_4 hl5_4 H=>?_
     refine xsl [0] 1 hc0A (mx:=(c0c:Int)) q5_4_1 (.inl rfl) hl5_4 fun a5_4 rl5_4=>?_
     refine letG H fun l5_5 hl5_5 H=>?_
     refine xo [] [] [0,0] (oc_copy (a:=some ⟨b3_2,0,none⟩) (cap:=(c.words).toNat) 22 22 3 22 Tryz.prog rl5_4 hl5_5) fun _=>?_
     refine xw [300] 5 (congrArg (fun n:Nat=>(.slice (some ⟨b3_2,0,none⟩) n ((c.words).toNat):Value)) (cp_len hl5_5)) ?_
     refine xw [300] 26 (congrArg (fun n:Nat=>(.slice (some ⟨b3_2,0,none⟩) n ((c.words).toNat):Value)) (cp_len hl5_5)) ?_
     exact xrY (someE H) [] [] [] [0,0] ((some ⟨b3_2,0,none⟩),(c.words).toNat)
 · intro N0 hN0
   refine xs [] H ?_ ?_
   · intro H
     exact xe [0,0,0,0,1] _ [0] [0] (hN0 (true) H)
   · intro H
     exact xe [1,1,1,0,1,0] _ [0] [0] (hN0 (decide (c.lines≤line)) H)
def pcheckS_j2 (e0_3:Bool) (e1_4:Bool) (c:CfgS) (e2_5:Bool):Option (Int) :=
 (bif !e0_3 then some (1:Int) else (bif !e1_4 then some (1:Int) else (bif !e2_5 then some (1:Int) else (bif decide ((wr (c.lines*c.words))<(c.init.length:Int)) then some (1:Int) else some (0:Int)))))
def pcheckS_j1 (c:CfgS) (e0_3:Bool) (e1_4:Bool):Option (Int) :=
 (pwithinS c.out (8:Int)).bind fun y3_2=>(bif y3_2 then (pwithinS c.inn (8:Int)).bind fun y3_6=>(pcheckS_j2 e0_3 e1_4 c) y3_6 else (pcheckS_j2 e0_3 e1_4 c) false)
def pcheckS_j0 (c:CfgS) (e0_3:Bool):Option (Int) :=
 (pwithinS c.sets (4:Int)).bind fun y2_2=>(bif y2_2 then (pwithinS c.ways (3:Int)).bind fun y2_6=>(pcheckS_j1 c e0_3) y2_6 else (pcheckS_j1 c e0_3) false)
def pcheckS (c:CfgS):Option (Int) :=
 (pwithinS c.nodes (6:Int)).bind fun y1_2=>(bif y1_2 then (pwithinS c.lines (8:Int)).bind fun y1_6=>(bif y1_6 then (pwithinS c.words (4:Int)).bind fun y1_11=>(pcheckS_j0 c) y1_11 else (pcheckS_j0 c) false) else (pcheckS_j0 c) false)
theorem pcheckF {c:CfgS} (c0a:Option Addr) (c0c:Nat) {y:Int} (H:pcheckS c=some y):FnY Tryz.prog 37 [.agg #[.int .i64 c.nodes,.int .i64 c.lines,.int .i64 c.words,.int .i64 c.sets,.int .i64 c.ways,.int .i64 c.out,.int .i64 c.inn,.slice c0a c.init.length c0c]] ⟨[],[]⟩ (Z:=Unit) (fun y _=>.int .i64 y) (fun y _=>⟨[],[]⟩) y:=by
 unfold pcheckS at H
 refine xfY Tryz.func37 fun W0 F=>?_
 refine xn [] fun b0_0=>?_
 refine xj [100] (ι:=Bool) (fun e0_3=>⟨[(1,.pointer (some ⟨b0_0,0,none⟩)),(3,.bool e0_3)],[⟨b0_0,#[.int .i64 c.nodes,.int .i64 c.lines,.int .i64 c.words,.int .i64 c.sets,.int .i64 c.ways,.int .i64 c.out,.int .i64 c.inn,.slice c0a c.init.length c0c],25⟩],[]⟩) (fun e0_3=>pcheckS_j0 c e0_3=some y) ?_ ?_
 · rintro e0_3 H
   replace H:pcheckS_j0 c e0_3=some y:=H
   rw [pcheckS_j0] at H
   refine xj [100] (ι:=Bool) (fun e1_4=>⟨[(1,.pointer (some ⟨b0_0,0,none⟩)),(3,.bool e0_3),(4,.bool e1_4)],[⟨b0_0,#[.int .i64 c.nodes,.int .i64 c.lines,.int .i64 c.words,.int .i64 c.sets,.int .i64 c.ways,.int .i64 c.out,.int .i64 c.inn,.slice c0a c.init.length c0c],25⟩],[]⟩) (fun e1_4=>pcheckS_j1 c e0_3 e1_4=some y) ?_ ?_
   · rintro e1_4 H
     replace H:pcheckS_j1 c e0_3 e1_4=some y:=H
     rw [pcheckS_j1] at H
     refine xj [100] (ι:=Bool) (fun e2_5=>⟨[(1,.pointer (some ⟨b0_0,0,none⟩)),(3,.bool e0_3),(4,.bool e1_4),(5,.bool e2_5)],[⟨b0_0,#[.int .i64 c.nodes,.int .i64 c.lines,.int .i64 c.words,.int .i64 c.sets,.int .i64 c.ways,.int .i64 c.out,.int .i64 c.inn,.slice c0a c.init.length c0c],25⟩],[]⟩) (fun e2_5=>pcheckS_j2 e0_3 e1_4 c e2_5=some y) ?_ ?_
     · rintro e2_5 H
       replace H:pcheckS_j2 e0_3 e1_4 c e2_5=some y:=H
       rw [pcheckS_j2] at H
       refine xs [] H ?_ ?_
       · intro H
         exact xrY (someE H) [0,0,1,0,0,1,0,0,0,0,0,0,0,0,0,1,1] [] [] [] ()
       · intro H
         refine xs [1,1,0] H ?_ ?_
         · intro H
           exact xrY (someE H) [0,0,1,0,0,0,0,0,0,0,0,0,1,1] [] [] [] ()
         · intro H
           refine xs [1,1,0] H ?_ ?_
           · intro H
             exact xrY (someE H) [0,0,0,0,0,0,0,0,0,1,1] [] [] [] ()
           · intro H
             refine xs [1,1,0,1,1,1,0,1,1,0,1,1,1,0] H ?_ ?_
             · intro H
               exact xrY (someE H) [1] [] [] [] ()
             · intro H
               exact xrY (someE H) [0] [] [] [] ()
     · intro N2 hN2
       refine bindG H fun y3_2 hy3_2 H=>?_
       refine xq [0] (pwithin_fq hy3_2) ?_
       refine xs [] H ?_ ?_
       · intro H
         refine bindG H fun y3_6 hy3_6 H=>?_
         refine xq [1,1,0,1] (pwithin_fq hy3_6) ?_
         exact xe [1] _ [0] [] (hN2 (y3_6) H)
       · intro H
         exact xe [0,0,0,0] _ [0] [] (hN2 (false) H)
   · intro N1 hN1
     refine bindG H fun y2_2 hy2_2 H=>?_
     refine xq [0] (pwithin_fq hy2_2) ?_
     refine xs [] H ?_ ?_
     · intro H
       refine bindG H fun y2_6 hy2_6 H=>?_
       refine xq [1,1,0,1] (pwithin_fq hy2_6) ?_
       exact xe [1] _ [0] [] (hN1 (y2_6) H)
     · intro H
       exact xe [0,0,0,0] _ [0] [] (hN1 (false) H)
 · intro N0 hN0
   refine bindG H fun y1_2 hy1_2 H=>?_
   refine xq [0] (pwithin_fq hy1_2) ?_
   refine xs [] H ?_ ?_
   · intro H
     refine bindG H fun y1_6 hy1_6 H=>?_
     refine xq [1,1,0,1] (pwithin_fq hy1_6) ?_
     refine xs [1] H ?_ ?_
     · intro H
       refine bindG H fun y1_11 hy1_11 H=>?_
       refine xq [1,1,0,1] (pwithin_fq hy1_11) ?_
       exact xe [1] _ [0] [] (hN0 (y1_11) H)
     · intro H
       exact xe [0,0,0,0] _ [0] [] (hN0 (false) H)
   · intro H
     exact xe [0,0,0,0,0,0,0,0] _ [0] [] (hN0 (false) H)
def prightS (c:CfgS) (op:OpS):Option (Bool) :=
 (plineS c op.addr).bind fun y1_3=>(bif decide ((1:Int)≤op.kind) then (bif decide (op.kind≤(4:Int)) then (bif !(decide (y1_3.1=((-1):Int))) then (bif decide (op.value=(0:Int)) then some true else (bif decide (op.kind=(2:Int)) then some true else some (decide (op.kind=(3:Int))))) else some false) else some false) else some false)
theorem prightF {c:CfgS} {op:OpS} (c0a:Option Addr) (c0c:Nat) {y:Bool} (H:prightS c op=some y):FnY Tryz.prog 81 [.agg #[.int .i64 c.nodes,.int .i64 c.lines,.int .i64 c.words,.int .i64 c.sets,.int .i64 c.ways,.int .i64 c.out,.int .i64 c.inn,.slice c0a c.init.length c0c],.agg #[.int .i64 op.kind,.int .i64 op.addr,.int .i64 op.value]] ⟨[],[]⟩ (Z:=Unit) (fun y _=>.bool y) (fun y _=>⟨[],[]⟩) y:=by
 unfold prightS at H
 refine xfY Tryz.func81 fun W0 F=>?_
 refine xn [] fun b0_0=>?_
 refine xn [] fun b0_1=>?_
 refine bindG H fun y1_3 hy1_3 H=>?_
 refine xc [1,0] [] [] (plineF c0a c0c hy1_3) fun _=>?_
 refine xs [0] H ?_ ?_
 · intro H
   refine xs [1,1,0,1,1] H ?_ ?_
   · intro H
     refine xs [1,1,1] H ?_ ?_
     · intro H
       refine xs [1,1,0,1,1] H ?_ ?_
       · intro H
         exact xrY (someE H) [0,0,0,1,1,1,0,0,0,1,1,1] [] [] [] ()
       · intro H
         refine xs [1,1,0,1,1,0,1] H ?_ ?_
         · intro H
           exact xrY (someE H) [0,0,0,1,1,1] [] [] [] ()
         · intro H
           exact xrY (someE H) [1,1,0,1,1,0,1] [] [] [] ()
     · intro H
       exact xrY (someE H) [0,0,0,0,0,0,0,0,0,0,0,0,0,0] [] [] [] ()
   · intro H
     exact xrY (someE H) [0,0,0,0,0,0,0,0,0,0,0,0,0,0,0,0,0] [] [] [] ()
 · intro H
   exact xrY (someE H) [0,0,0,0,0,0,0,0,0,0,0,0,0,0,0,0,0,0,0,0,0] [] [] [] ()
end
section
open Go Go.RowKit
def eheadS (l:LinkS):Option (Bool) :=
 some (decide (l.back=((-1):Int)))
theorem eheadF {l:LinkS} {y:Bool} (H:eheadS l=some y):FnY Tryz.prog 239 [.agg #[.int .i64 l.fwd,.int .i64 l.back]] ⟨[],[]⟩ (Z:=Unit) (fun y _=>.bool y) (fun y _=>⟨[],[]⟩) y:=by
 unfold eheadS at H
 refine xfY Tryz.func239 fun W0 F=>?_
 refine xn [] fun b0_0=>?_
 exact xrY (someE H) [0] [] [] [] ()
def etailS (l:LinkS):Option (Bool) :=
 some (decide (l.fwd=((-1):Int)))
theorem etailF {l:LinkS} {y:Bool} (H:etailS l=some y):FnY Tryz.prog 244 [.agg #[.int .i64 l.fwd,.int .i64 l.back]] ⟨[],[]⟩ (Z:=Unit) (fun y _=>.bool y) (fun y _=>⟨[],[]⟩) y:=by
 unfold etailS at H
 refine xfY Tryz.func244 fun W0 F=>?_
 refine xn [] fun b0_0=>?_
 exact xrY (someE H) [0] [] [] [] ()
def eonlyS (l:LinkS):Option (Bool) :=
 (eheadS l).bind fun y1_1=>(bif y1_1 then (etailS l).bind fun y1_4=>some y1_4 else some false)
theorem eonlyF {l:LinkS} {y:Bool} (H:eonlyS l=some y):FnY Tryz.prog 238 [.agg #[.int .i64 l.fwd,.int .i64 l.back]] ⟨[],[]⟩ (Z:=Unit) (fun y _=>.bool y) (fun y _=>⟨[],[]⟩) y:=by
 unfold eonlyS at H
 refine xfY Tryz.func238 fun W0 F=>?_
 refine xn [] fun b0_0=>?_
 refine bindG H fun y1_1 hy1_1 H=>?_
 refine xc [0] [] [] (eheadF hy1_1) fun _=>?_
 refine xs [] H ?_ ?_
 · intro H
   refine bindG H fun y1_4 hy1_4 H=>?_
   refine xc [1,0,1] [] [] (etailF hy1_4) fun _=>?_
   exact xrY (someE H) [1] [] [] [] ()
 · intro H
   exact xrY (someE H) [0,0,0] [] [] [] ()
def eisS (e:Ent) (at_:Int):Option (Bool) :=
 (bif decide ((0:Int)≤at_) then some (decide (at_<(e.data.length:Int))) else some false)
theorem eisF {e:Ent} {at_:Int} (e0a:Option Addr) (e0c:Nat) {y:Bool} (H:eisS e at_=some y):FnY Tryz.prog 55 [.agg #[.int .i64 e.fwd,.int .i64 e.back,.int .i64 e.line,.int .i64 e.used,.bool e.dirty,.slice e0a e.data.length e0c],.int .i64 at_] ⟨[],[]⟩ (Z:=Unit) (fun y _=>.bool y) (fun y _=>⟨[],[]⟩) y:=by
 unfold eisS at H
 refine xfY Tryz.func55 fun W0 F=>?_
 refine xn [] fun b0_0=>?_
 refine xs [] H ?_ ?_
 · intro H
   exact xrY (someE H) [1,1,1,0,1,1,1] [] [] [] ()
 · intro H
   exact xrY (someE H) [0,0,0,0,0,0] [] [] [] ()
def ewordS (e:Ent) (at_:Int):Option (Int) :=
 (eisS e at_).bind fun y1_2=>(bif !y1_2 then some (0:Int) else chk (0≤at_∧at_<(e.data.length:Int)) (some (nth e.data at_)))
theorem ewordF {e:Ent} {e0A:Asn} {at_:Int} (e0a:Option Addr) (e0c:Nat) (he0A:Rdb e0A e0a e0c e.data) {y:Int} (H:ewordS e at_=some y):FnY Tryz.prog 16 [.agg #[.int .i64 e.fwd,.int .i64 e.back,.int .i64 e.line,.int .i64 e.used,.bool e.dirty,.slice e0a e.data.length e0c],.int .i64 at_] ⟨[],[e0A]⟩ (Z:=Unit) (fun y _=>.int .i64 y) (fun y _=>⟨[],[e0A]⟩) y:=by
 unfold ewordS at H
 refine xfY Tryz.func16 fun W0 F=>?_
 refine xn [] fun b0_0=>?_
 refine bindG H fun y1_2 hy1_2 H=>?_
 refine xc [0] [] [] (eisF e0a e0c hy1_2) fun _=>?_
 refine xs [] H ?_ ?_
 · intro H
   exact xrY (someE H) [1] [] [] [0] ()
 · intro H
   refine chkG H fun q3_3_1 H=>?_
   refine xi [0,0] 0 he0A q3_3_1 fun b1 o1 e1=>?_
   refine xpl [] 0 (ol_ld he0A e1 q3_3_1 0 (fun _=>rfl)) ?_
   exact xrY (someE H) [] [] [] [0] ()
def ecloneS (e:Ent):Option (Ent) :=
 (cloneS e.data).bind fun y1_2=>some (⟨e.fwd,e.back,e.line,e.used,e.dirty,y1_2⟩:Ent)
theorem ecloneF {e:Ent} {e0A:Asn} (e0a:Option Addr) (e0c:Nat) (he0A:Rdb e0A e0a e0c e.data) {y:Ent} (H:ecloneS e=some y):FnY Tryz.prog 54 [.agg #[.int .i64 e.fwd,.int .i64 e.back,.int .i64 e.line,.int .i64 e.used,.bool e.dirty,.slice e0a e.data.length e0c]] ⟨[],[e0A]⟩ (Z:=Option Addr×Nat) (fun y (za0,zc0)=>.agg #[.int .i64 y.fwd,.int .i64 y.back,.int .i64 y.line,.int .i64 y.used,.bool y.dirty,.slice za0 y.data.length zc0]) (fun y (za0,zc0)=>⟨[],[(ArrA za0 zc0 y.data),e0A]⟩) y:=by
 unfold ecloneS at H
 refine xfY Tryz.func54 fun W0 F=>?_
 refine xn [] fun b0_0=>?_
 refine xn [] fun b0_1=>?_
 refine bindG H fun y1_2 hy1_2 H=>?_
 refine xc [1] [] [0] (cloneF e0a e0c he0A hy1_2) fun ⟨t1_2_a0,t1_2_c0⟩=>?_
 exact xrY (someE H) [1,1,0] [0] [] [0,0] (t1_2_a0,t1_2_c0)
def enewS (line:Int) (fwd:Int) (back:Int) (dirty:Bool) (data:List Int):Option (Ent) :=
 (cloneS data).bind fun y1_6=>some (⟨fwd,back,line,(0:Int),dirty,y1_6⟩:Ent)
theorem enewF {line:Int} {fwd:Int} {back:Int} {dirty:Bool} {data:List Int} {dataA:Asn} (dataa:Option Addr) (datac:Nat) (hdataA:Rdb dataA dataa datac data) {y:Ent} (H:enewS line fwd back dirty data=some y):FnY Tryz.prog 237 [.int .i64 line,.int .i64 fwd,.int .i64 back,.bool dirty,.slice dataa data.length datac] ⟨[],[dataA]⟩ (Z:=Option Addr×Nat) (fun y (za0,zc0)=>.agg #[.int .i64 y.fwd,.int .i64 y.back,.int .i64 y.line,.int .i64 y.used,.bool y.dirty,.slice za0 y.data.length zc0]) (fun y (za0,zc0)=>⟨[],[(ArrA za0 zc0 y.data),dataA]⟩) y:=by
 unfold enewS at H
 refine xfY Tryz.func237 fun W0 F=>?_
 refine xn [] fun b0_0=>?_
 refine bindG H fun y1_6 hy1_6 H=>?_
 refine xc [] [] [0] (cloneF dataa datac hdataA hy1_6) fun ⟨t1_6_a0,t1_6_c0⟩=>?_
 exact xrY (someE H) [0] [0] [] [0,0] (t1_6_a0,t1_6_c0)
end
section
open Go Go.RowKit
def pbelowS (n:Int) (least:Int) (bound:Int):Option (Bool) :=
 (bif decide (least≤n) then some (decide (n<bound)) else some false)
theorem pbelow_fq {n:Int} {least:Int} {bound:Int} {y:Bool} (H:pbelowS n least bound=some y):Fq Tryz.prog 213 [.int .i64 n,.int .i64 least,.int .i64 bound] (.bool y):=by
 unfold pbelowS at H
 refine Fn.quiet (xf Tryz.func213 fun W0 F=>?_)
 refine xs [] H ?_ ?_
 · intro H
   obtain rfl:=someE H
   exact xr [1,1,1,1] [] [] [] ()
 · intro H
   obtain rfl:=someE H
   exact xr [0,0,0,0] [] [] [] ()
def preqS (kind:Int):Option (Bool) :=
 (bif decide ((1:Int)≤kind) then some (decide (kind≤(6:Int))) else some false)
theorem preq_fq {kind:Int} {y:Bool} (H:preqS kind=some y):Fq Tryz.prog 106 [.int .i64 kind] (.bool y):=by
 unfold preqS at H
 refine Fn.quiet (xf Tryz.func106 fun W0 F=>?_)
 refine xs [] H ?_ ?_
 · intro H
   obtain rfl:=someE H
   exact xr [1,1,1] [] [] [] ()
 · intro H
   obtain rfl:=someE H
   exact xr [0,0,0] [] [] [] ()
def pansS (kind:Int):Option (Int) :=
 (bif decide (kind=(1:Int)) then some (7:Int) else (bif decide (kind=(2:Int)) then some (8:Int) else (bif decide (kind=(4:Int)) then some (8:Int) else (bif decide (kind=(5:Int)) then some (8:Int) else (bif decide (kind=(3:Int)) then some (9:Int) else (bif decide (kind=(6:Int)) then some (9:Int) else some (0:Int)))))))
theorem pans_fq {kind:Int} {y:Int} (H:pansS kind=some y):Fq Tryz.prog 230 [.int .i64 kind] (.int .i64 y):=by
 unfold pansS at H
 refine Fn.quiet (xf Tryz.func230 fun W0 F=>?_)
 refine xs [] H ?_ ?_
 · intro H
   obtain rfl:=someE H
   exact xr [1] [] [] [] ()
 · intro H
   refine xs [0] H ?_ ?_
   · intro H
     obtain rfl:=someE H
     exact xr [1,1] [] [] [] ()
   · intro H
     refine xs [0] H ?_ ?_
     · intro H
       obtain rfl:=someE H
       exact xr [1,1] [] [] [] ()
     · intro H
       refine xs [0] H ?_ ?_
       · intro H
         obtain rfl:=someE H
         exact xr [1] [] [] [] ()
       · intro H
         refine xs [0] H ?_ ?_
         · intro H
           obtain rfl:=someE H
           exact xr [1,1] [] [] [] ()
         · intro H
           refine xs [0] H ?_ ?_
           · intro H
             obtain rfl:=someE H
             exact xr [1] [] [] [] ()
           · intro H
             obtain rfl:=someE H
             exact xr [0] [] [] [] ()
def pchkS_j1 (e0_3:Bool) (p:PktS) (e1_4:Bool):Option (Int) :=
 (bif !e0_3 then some (1:Int) else (bif !e1_4 then some (1:Int) else (pbelowS p.state (0:Int) (3:Int)).bind fun y3_9=>(bif !y3_9 then some (1:Int) else (bif decide ((4:Int)<(p.data.length:Int)) then some (1:Int) else some (0:Int)))))
def pchkS_j0 (p:PktS) (e0_3:Bool):Option (Int) :=
 (pbelowS p.kind (1:Int) (10:Int)).bind fun y2_2=>(bif y2_2 then (pbelowS p.line (0:Int) (8:Int)).bind fun y2_6=>(bif y2_6 then (pbelowS p.ptr ((-1):Int) (6:Int)).bind fun y2_11=>(pchkS_j1 e0_3 p) y2_11 else (pchkS_j1 e0_3 p) false) else (pchkS_j1 e0_3 p) false)
def pchkS (p:PktS):Option (Int) :=
 (pbelowS p.src (0:Int) (6:Int)).bind fun y1_2=>(bif y1_2 then (pbelowS p.dst (0:Int) (6:Int)).bind fun y1_6=>(bif y1_6 then (pbelowS p.id (0:Int) (4096:Int)).bind fun y1_11=>(pchkS_j0 p) y1_11 else (pchkS_j0 p) false) else (pchkS_j0 p) false)
theorem pchkF {p:PktS} (p0a:Option Addr) (p0c:Nat) {y:Int} (H:pchkS p=some y):FnY Tryz.prog 177 [.agg #[.int .i64 p.kind,.int .i64 p.src,.int .i64 p.dst,.int .i64 p.id,.int .i64 p.line,.int .i64 p.ptr,.int .i64 p.state,.bool p.flag,.slice p0a p.data.length p0c]] ⟨[],[]⟩ (Z:=Unit) (fun y _=>.int .i64 y) (fun y _=>⟨[],[]⟩) y:=by
 unfold pchkS at H
 refine xfY Tryz.func177 fun W0 F=>?_
 refine xn [] fun b0_0=>?_
 refine xj [100] (ι:=Bool) (fun e0_3=>⟨[(1,.pointer (some ⟨b0_0,0,none⟩)),(3,.bool e0_3)],[⟨b0_0,#[.int .i64 p.kind,.int .i64 p.src,.int .i64 p.dst,.int .i64 p.id,.int .i64 p.line,.int .i64 p.ptr,.int .i64 p.state,.bool p.flag,.slice p0a p.data.length p0c],176⟩],[]⟩) (fun e0_3=>pchkS_j0 p e0_3=some y) ?_ ?_
 · rintro e0_3 H
   replace H:pchkS_j0 p e0_3=some y:=H
   rw [pchkS_j0] at H
   refine xj [100] (ι:=Bool) (fun e1_4=>⟨[(1,.pointer (some ⟨b0_0,0,none⟩)),(3,.bool e0_3),(4,.bool e1_4)],[⟨b0_0,#[.int .i64 p.kind,.int .i64 p.src,.int .i64 p.dst,.int .i64 p.id,.int .i64 p.line,.int .i64 p.ptr,.int .i64 p.state,.bool p.flag,.slice p0a p.data.length p0c],176⟩],[]⟩) (fun e1_4=>pchkS_j1 e0_3 p e1_4=some y) ?_ ?_
   · rintro e1_4 H
     replace H:pchkS_j1 e0_3 p e1_4=some y:=H
     rw [pchkS_j1] at H
     refine xs [] H ?_ ?_
     · intro H
       exact xrY (someE H) [0,0,1,0,0,0,0,1,0,0,0,0,1,1] [] [] [] ()
     · intro H
       refine xs [1,1,0] H ?_ ?_
       · intro H
         exact xrY (someE H) [0,0,0,0,1,0,0,0,0,1,1] [] [] [] ()
       · intro H
         refine bindG H fun y3_9 hy3_9 H=>?_
         refine xq [1,1,0,1] (pbelow_fq hy3_9) ?_
         refine xs [1,0] H ?_ ?_
         · intro H
           exact xrY (someE H) [0,0,0,0,1,1] [] [] [] ()
         · intro H
           refine xs [1,1,0,1,1,0] H ?_ ?_
           · intro H
             exact xrY (someE H) [1] [] [] [] ()
           · intro H
             exact xrY (someE H) [0] [] [] [] ()
   · intro N1 hN1
     refine bindG H fun y2_2 hy2_2 H=>?_
     refine xq [0] (pbelow_fq hy2_2) ?_
     refine xs [] H ?_ ?_
     · intro H
       refine bindG H fun y2_6 hy2_6 H=>?_
       refine xq [1,1,0,1] (pbelow_fq hy2_6) ?_
       refine xs [1] H ?_ ?_
       · intro H
         refine bindG H fun y2_11 hy2_11 H=>?_
         refine xq [1,1,0,1] (pbelow_fq hy2_11) ?_
         exact xe [1] _ [0] [] (hN1 (y2_11) H)
       · intro H
         exact xe [0,0,0,0] _ [0] [] (hN1 (false) H)
     · intro H
       exact xe [0,0,0,0,0,0,0,0] _ [0] [] (hN1 (false) H)
 · intro N0 hN0
   refine bindG H fun y1_2 hy1_2 H=>?_
   refine xq [0] (pbelow_fq hy1_2) ?_
   refine xs [] H ?_ ?_
   · intro H
     refine bindG H fun y1_6 hy1_6 H=>?_
     refine xq [1,1,0,1] (pbelow_fq hy1_6) ?_
     refine xs [1] H ?_ ?_
     · intro H
       refine bindG H fun y1_11 hy1_11 H=>?_
       refine xq [1,1,0,1] (pbelow_fq hy1_11) ?_
       exact xe [1] _ [0] [] (hN0 (y1_11) H)
     · intro H
       exact xe [0,0,0,0] _ [0] [] (hN0 (false) H)
   · intro H
     exact xe [0,0,0,0,0,0,0,0] _ [0] [] (hN0 (false) H)
def dkindS (step:Int):Option (Int) :=
 (bif decide (step=(1:Int)) then some (1:Int) else (bif decide (step=(2:Int)) then some (3:Int) else (bif decide (step=(3:Int)) then some (6:Int) else (bif decide (step=(4:Int)) then some (4:Int) else (bif decide (step=(5:Int)) then some (5:Int) else (bif decide (step=(6:Int)) then some (2:Int) else some (0:Int)))))))
theorem dkind_fq {step:Int} {y:Int} (H:dkindS step=some y):Fq Tryz.prog 224 [.int .i64 step] (.int .i64 y):=by
 unfold dkindS at H
 refine Fn.quiet (xf Tryz.func224 fun W0 F=>?_)
 refine xs [] H ?_ ?_
 · intro H
   obtain rfl:=someE H
   exact xr [1] [] [] [] ()
 · intro H
   refine xs [0] H ?_ ?_
   · intro H
     obtain rfl:=someE H
     exact xr [1] [] [] [] ()
   · intro H
     refine xs [0] H ?_ ?_
     · intro H
       obtain rfl:=someE H
       exact xr [1] [] [] [] ()
     · intro H
       refine xs [0] H ?_ ?_
       · intro H
         obtain rfl:=someE H
         exact xr [1] [] [] [] ()
       · intro H
         refine xs [0] H ?_ ?_
         · intro H
           obtain rfl:=someE H
           exact xr [1] [] [] [] ()
         · intro H
           refine xs [0] H ?_ ?_
           · intro H
             obtain rfl:=someE H
             exact xr [1] [] [] [] ()
           · intro H
             obtain rfl:=someE H
             exact xr [0] [] [] [] ()
def dbeginS (kind:Int) (line:Int) (id:Int):Option (DealS) :=
 some (⟨kind,line,id,(1:Int),(0:Int),((-1):Int),([]:List Int),((-1):Int),((-1):Int)⟩:DealS)
theorem dbeginF {kind:Int} {line:Int} {id:Int} {y:DealS} (H:dbeginS kind line id=some y):FnY Tryz.prog 202 [.int .i64 kind,.int .i64 line,.int .i64 id] ⟨[],[]⟩ (Z:=Option Addr×Nat) (fun y (za0,zc0)=>.agg #[.int .i64 y.kind,.int .i64 y.line,.int .i64 y.id,.int .i64 y.step,.int .i64 y.state,.int .i64 y.head,.slice za0 y.data.length zc0,.int .i64 y.next,.int .i64 y.told]) (fun y (za0,zc0)=>⟨[],[(ArrA za0 zc0 y.data)]⟩) y:=by
 unfold dbeginS at H
 refine xfY Tryz.func202 fun W0 F=>?_
 refine xn [] fun b0_0=>?_
 refine xg [0] [] [] (gh_nil (α:=Int) none) fun _=>?_
 exact xrY (someE H) [] [0] [] [0] (none,0)
def daskS_j0 (y1_2:Int) (node:Int) (d:DealS) (e0_b1_10_2:Int) (e0_b1_10_5:Int) (e0_b1_10_6:Int) (e0_b1_10_7:Bool) (e0_b1_10_8x:List Int):Option (PktS) :=
 some (⟨y1_2,node,e0_b1_10_2,d.id,d.line,e0_b1_10_5,e0_b1_10_6,e0_b1_10_7,e0_b1_10_8x⟩:PktS)
def daskS (d:DealS) (node:Int) (home:Int):Option (PktS) :=
 (dkindS d.step).bind fun y1_2=>(bif decide (d.step=(1:Int)) then some (⟨y1_2,node,home,d.id,d.line,(0:Int),(0:Int),false,([]:List Int)⟩:PktS) else (bif decide (d.step=(2:Int)) then (daskS_j0 y1_2 node d) d.head node (0:Int) false ([]:List Int) else (bif decide (d.step=(3:Int)) then (daskS_j0 y1_2 node d) d.next (0:Int) (0:Int) false ([]:List Int) else (bif decide (d.step=(4:Int)) then (daskS_j0 y1_2 node d) d.head d.next (0:Int) false ([]:List Int) else (bif decide (d.step=(5:Int)) then (daskS_j0 y1_2 node d) d.next d.head (0:Int) false ([]:List Int) else (bif decide (d.step=(6:Int)) then (cloneS d.data).bind fun y15_10=>(daskS_j0 y1_2 node d) home d.head d.state (decide ((0:Int)<(d.data.length:Int))) y15_10 else some (⟨(0:Int),(0:Int),(0:Int),(0:Int),(0:Int),(0:Int),(0:Int),false,([]:List Int)⟩:PktS)))))))
theorem daskF {d:DealS} {d0A:Asn} {node:Int} {home:Int} (d0a:Option Addr) (d0c:Nat) (hd0A:Rdb d0A d0a d0c d.data) {y:PktS} (H:daskS d node home=some y):FnY Tryz.prog 194 [.agg #[.int .i64 d.kind,.int .i64 d.line,.int .i64 d.id,.int .i64 d.step,.int .i64 d.state,.int .i64 d.head,.slice d0a d.data.length d0c,.int .i64 d.next,.int .i64 d.told],.int .i64 node,.int .i64 home] ⟨[],[d0A]⟩ (Z:=Option Addr×Nat) (fun y (za0,zc0)=>.agg #[.int .i64 y.kind,.int .i64 y.src,.int .i64 y.dst,.int .i64 y.id,.int .i64 y.line,.int .i64 y.ptr,.int .i64 y.state,.bool y.flag,.slice za0 y.data.length zc0]) (fun y (za0,zc0)=>⟨[],[(ArrA za0 zc0 y.data),d0A]⟩) y:=by
 unfold daskS at H
 refine xfY Tryz.func194 fun W0 F=>?_
 refine xn [] fun b0_0=>?_
 refine xn [] fun b0_1=>?_
 refine bindG H fun y1_2 hy1_2 H=>?_
 refine xq [0,1,1,2] (dkind_fq hy1_2) ?_
 refine xn [3,4,5,6,1,7,8,1,9,10] fun b1_10=>?_
 refine xj [11,0,100] (ι:=Int×Int×Int×Bool×List Int×Option Addr×Nat) (fun (e0_b1_10_2,e0_b1_10_5,e0_b1_10_6,e0_b1_10_7,e0_b1_10_8x,e0_b1_10_8a,e0_b1_10_8c)=>⟨[(6,.pointer (some ⟨b0_1,0,none⟩)),(7,.pointer (some ⟨b1_10,0,none⟩))],[⟨b1_10,#[.int .i64 y1_2,.int .i64 node,.int .i64 e0_b1_10_2,.int .i64 d.id,.int .i64 d.line,.int .i64 e0_b1_10_5,.int .i64 e0_b1_10_6,.bool e0_b1_10_7,.slice e0_b1_10_8a e0_b1_10_8x.length e0_b1_10_8c],176⟩,⟨b0_1,#[.int .i64 (0),.int .i64 (0),.int .i64 (0),.int .i64 (0),.int .i64 (0),.int .i64 (0),.int .i64 (0),.bool false,.slice none 0 0],176⟩],[(ArrA e0_b1_10_8a e0_b1_10_8c e0_b1_10_8x),d0A]⟩) (fun (e0_b1_10_2,e0_b1_10_5,e0_b1_10_6,e0_b1_10_7,e0_b1_10_8x,e0_b1_10_8a,e0_b1_10_8c)=>daskS_j0 y1_2 node d e0_b1_10_2 e0_b1_10_5 e0_b1_10_6 e0_b1_10_7 e0_b1_10_8x=some y) ?_ ?_
 · rintro ⟨e0_b1_10_2,e0_b1_10_5,e0_b1_10_6,e0_b1_10_7,e0_b1_10_8x,e0_b1_10_8a,e0_b1_10_8c⟩ H
   replace H:daskS_j0 y1_2 node d e0_b1_10_2 e0_b1_10_5 e0_b1_10_6 e0_b1_10_7 e0_b1_10_8x=some y:=H
   rw [daskS_j0] at H
   exact xrY (someE H) [0,1] [1] [] [0,0] (e0_b1_10_8a,e0_b1_10_8c)
 · intro N0 hN0
   refine xs [2] H ?_ ?_
   · intro H
     refine xg [1,0,1] [] [] (gh_nil (α:=Int) none) fun _=>?_
     exact xrY (someE H) [] [1] [] [0,0] (none,0)
   · intro H
     refine xs [0] H ?_ ?_
     · intro H
       refine xg [1,2,0,0] [] [] (gh_nil (α:=Int) none) fun _=>?_
       exact xe [] _ [0,0] [0,0] (hN0 (d.head,node,(0:Int),false,([]:List Int),none,0) H)
     · intro H
       refine xs [0] H ?_ ?_
       · intro H
         refine xg [1,2,0] [] [] (gh_nil (α:=Int) none) fun _=>?_
         exact xe [] _ [0,0] [0,0] (hN0 (d.next,(0:Int),(0:Int),false,([]:List Int),none,0) H)
       · intro H
         refine xs [0] H ?_ ?_
         · intro H
           refine xg [1,0,1,2,2,3,2,4,5,0,6,7,0] [] [] (gh_nil (α:=Int) none) fun _=>?_
           exact xe [] _ [0,0] [0,0] (hN0 (d.head,d.next,(0:Int),false,([]:List Int),none,0) H)
         · intro H
           refine xs [0] H ?_ ?_
           · intro H
             refine xg [1,0,1,2,2,3,2,4,5,0,6,7,0] [] [] (gh_nil (α:=Int) none) fun _=>?_
             exact xe [] _ [0,0] [0,0] (hN0 (d.next,d.head,(0:Int),false,([]:List Int),none,0) H)
           · intro H
             refine xs [0] H ?_ ?_
             · intro H
               refine bindG H fun y15_10 hy15_10 H=>?_
               refine xc [1,0,1,2,2,3,2,4,5,2,6,7,8,9,2,11,10] [] [0] (cloneF d0a d0c hd0A hy15_10) fun ⟨t15_10_a0,t15_10_c0⟩=>?_
               exact xe [12,0,13,14,0,15,16,0,17,18,0] _ [0,0] [0,0] (hN0 (home,d.head,d.state,decide ((0:Int)<(d.data.length:Int)),y15_10,t15_10_a0,t15_10_c0) H)
             · intro H
               refine xg [0,1] [] [] (gh_nil (α:=Int) none) fun _=>?_
               exact xrY (someE H) [] [1] [] [0,0] (none,0)
def dfitsS (d:DealS) (p:PktS):Option (Bool) :=
 (dkindS d.step).bind fun y1_2=>(pansS y1_2).bind fun y1_3=>(bif !(decide (y1_3=(0:Int))) then (bif decide (p.kind=y1_3) then (bif decide (p.id=d.id) then some (decide (p.line=d.line)) else some false) else some false) else some false)
theorem dfitsF {d:DealS} {p:PktS} (d0a:Option Addr) (d0c:Nat) (p0a:Option Addr) (p0c:Nat) {y:Bool} (H:dfitsS d p=some y):FnY Tryz.prog 218 [.agg #[.int .i64 d.kind,.int .i64 d.line,.int .i64 d.id,.int .i64 d.step,.int .i64 d.state,.int .i64 d.head,.slice d0a d.data.length d0c,.int .i64 d.next,.int .i64 d.told],.agg #[.int .i64 p.kind,.int .i64 p.src,.int .i64 p.dst,.int .i64 p.id,.int .i64 p.line,.int .i64 p.ptr,.int .i64 p.state,.bool p.flag,.slice p0a p.data.length p0c]] ⟨[],[]⟩ (Z:=Unit) (fun y _=>.bool y) (fun y _=>⟨[],[]⟩) y:=by
 unfold dfitsS at H
 refine xfY Tryz.func218 fun W0 F=>?_
 refine xn [] fun b0_0=>?_
 refine xn [] fun b0_1=>?_
 refine bindG H fun y1_2 hy1_2 H=>?_
 refine xq [1] (dkind_fq hy1_2) ?_
 refine bindG H fun y1_3 hy1_3 H=>?_
 refine xq [] (pans_fq hy1_3) ?_
 refine xs [] H ?_ ?_
 · intro H
   refine xs [1,1,0,1,1,1] H ?_ ?_
   · intro H
     refine xs [1,1,0,1,1,1,1,1] H ?_ ?_
     · intro H
       exact xrY (someE H) [1,1,0,1,1,1,1,1] [] [] [] ()
     · intro H
       exact xrY (someE H) [0,0,0,0,0,0] [] [] [] ()
   · intro H
     exact xrY (someE H) [0,0,0,0,0,0,0,0,0,0,0,0] [] [] [] ()
 · intro H
   exact xrY (someE H) [0,0,0,0,0,0,0,0,0,0,0,0,0,0,0,0,0] [] [] [] ()
end
section
open Go Go.RowKit
structure TurnsS where
 owners:List (Int×Int)
 wait:List (Int×List AskS)
structure DirS where
 c:CfgS
 rows:List (Int×RowS)
structure HomeS where
 dir:DirS
 turns:TurnsS
 c:CfgS
 node:Int
instance:Mv RowS where
 val r x:=.agg (Rw.cells r x).toArray
 x0:=(none,0)
 z0 _ _:=imm_nil
def TurnsO (b:Nat) (c:TurnsS):Nat×Nat→Rs:=fun (b_owners,b_wait)=>⟨[⟨b,#[.map (some b_owners),.map (some b_wait)],257⟩],[(FMapA b_owners c.owners),(WMapA b_wait c.wait)]⟩
abbrev TurnsA (b:Nat) (c:TurnsS):Asn:=ObA (TurnsO b c)
def DirO (b:Nat) (c:DirS):Option Addr×Nat×Nat→Rs:=fun (a_c_init,c_c_init,b_rows)=>⟨[⟨b,#[.int .i64 c.c.nodes,.int .i64 c.c.lines,.int .i64 c.c.words,.int .i64 c.c.sets,.int .i64 c.c.ways,.int .i64 c.c.out,.int .i64 c.c.inn,.slice a_c_init c.c.init.length c_c_init,.map (some b_rows)],200⟩],[(ImmA a_c_init c_c_init c.c.init),(FMapA b_rows c.rows)]⟩
abbrev DirA (b:Nat) (c:DirS):Asn:=ObA (DirO b c)
def HomeO (b:Nat) (c:HomeS):Nat×Nat×Option Addr×Nat→Rs:=fun (b_dir,b_turns,a_c_init,c_c_init)=>⟨[⟨b,#[.pointer (some ⟨b_dir,0,none⟩),.pointer (some ⟨b_turns,0,none⟩),.int .i64 c.c.nodes,.int .i64 c.c.lines,.int .i64 c.c.words,.int .i64 c.c.sets,.int .i64 c.c.ways,.int .i64 c.c.out,.int .i64 c.c.inn,.slice a_c_init c.c.init.length c_c_init,.int .i64 c.node],152⟩],[(DirA b_dir c.dir),(TurnsA b_turns c.turns),(ImmA a_c_init c_c_init c.c.init)]⟩
abbrev HomeA (b:Nat) (c:HomeS):Asn:=ObA (HomeO b c)
def tnewS:Option (TurnsS) :=
 some ({ owners:=([]:List (Int×Int)),wait:=([]:List (Int×(List AskS))) }:TurnsS)
theorem tnewF {y:TurnsS} (H:tnewS=some y):FnY Tryz.prog 127 [] ⟨[],[]⟩ (Z:=Nat) (fun y (zb0:Nat)=>.pointer (some ⟨zb0,0,none⟩)) (fun y (zb0:Nat)=>⟨[],[(TurnsA zb0 y)]⟩) y:=by
 unfold tnewS at H
 refine xfY Tryz.func127 fun W0 F=>?_
 refine xo [] [] [] (oc_mmake Int 243 Tryz.prog) fun m1_0=>?_
 refine xo [] [] [] (oc_wmake AskS 255 Tryz.prog) fun m1_1=>?_
 refine xn [] fun b1_3=>?_
 refine xg [] [0] [1,0] (gh_shut (TurnsO b1_3 ({ owners:=([]:List (Int×Int)),wait:=([]:List (Int×(List AskS))) }:TurnsS)) (m1_0,m1_1)) fun _=>?_
 exact xrY (someE H) [] [] [] [0] (b1_3)
def townerS (tc:TurnsS) (line:Int):Option (Int) :=
 (bif Option.isSome (mget tc.owners line) then some (mgo tc.owners line) else some ((-1):Int))
theorem townerF {tc:TurnsS} {line:Int} (t:Nat) (t_b_owners:Nat) (t_b_wait:Nat) {y:Int} (H:townerS tc line=some y):FnY Tryz.prog 134 [.pointer (some ⟨t,0,none⟩),.int .i64 line] ⟨[⟨t,#[.map (some t_b_owners),.map (some t_b_wait)],257⟩],[(FMapA t_b_owners tc.owners),(WMapA t_b_wait tc.wait)]⟩ (Z:=Unit) (fun y _=>.int .i64 y) (fun y _=>⟨[⟨t,#[.map (some t_b_owners),.map (some t_b_wait)],257⟩],[(FMapA t_b_owners tc.owners),(WMapA t_b_wait tc.wait)]⟩) y:=by
 unfold townerS at H
 refine xfY Tryz.func134 fun W0 F=>?_
 refine xpl [0] 0 (ol_mget2 (α:=Int) 243 3 3 Tryz.prog t_b_owners line tc.owners (fun _=>rfl) ⟨.i64,by kernel_rfl⟩) ?_
 refine xs [] H ?_ ?_
 · intro H
   exact xrY (someE H) [1] [] [0] [0,0] ()
 · intro H
   exact xrY (someE H) [0] [] [0] [0,0] ()
def townedS (tc:TurnsS) (line:Int):Option (Bool) :=
 some (Option.isSome (mget tc.owners line))
theorem townedF {tc:TurnsS} {line:Int} (t:Nat) (t_b_owners:Nat) (t_b_wait:Nat) {y:Bool} (H:townedS tc line=some y):FnY Tryz.prog 226 [.pointer (some ⟨t,0,none⟩),.int .i64 line] ⟨[⟨t,#[.map (some t_b_owners),.map (some t_b_wait)],257⟩],[(FMapA t_b_owners tc.owners),(WMapA t_b_wait tc.wait)]⟩ (Z:=Unit) (fun y _=>.bool y) (fun y _=>⟨[⟨t,#[.map (some t_b_owners),.map (some t_b_wait)],257⟩],[(FMapA t_b_owners tc.owners),(WMapA t_b_wait tc.wait)]⟩) y:=by
 unfold townedS at H
 refine xfY Tryz.func226 fun W0 F=>?_
 refine xpl [0] 0 (ol_mget2 (α:=Int) 243 3 3 Tryz.prog t_b_owners line tc.owners (fun _=>rfl) ⟨.i64,by kernel_rfl⟩) ?_
 exact xrY (someE H) [] [] [0] [0,0] ()
def twaitS (tc:TurnsS) (line:Int):Option (Int) :=
 some (((List.length (wget tc.wait line)):Nat):Int)
theorem twaitF {tc:TurnsS} {line:Int} (t:Nat) (t_b_owners:Nat) (t_b_wait:Nat) {y:Int} (H:twaitS tc line=some y):FnY Tryz.prog 227 [.pointer (some ⟨t,0,none⟩),.int .i64 line] ⟨[⟨t,#[.map (some t_b_owners),.map (some t_b_wait)],257⟩],[(FMapA t_b_owners tc.owners),(WMapA t_b_wait tc.wait)]⟩ (Z:=Unit) (fun y _=>.int .i64 y) (fun y _=>⟨[⟨t,#[.map (some t_b_owners),.map (some t_b_wait)],257⟩],[(FMapA t_b_owners tc.owners),(WMapA t_b_wait tc.wait)]⟩) y:=by
 unfold twaitS at H
 refine xfY Tryz.func227 fun W0 F=>?_
 refine xg [0] [] [1] (gh_focus t_b_wait tc.wait line) fun ⟨wa1,wc1⟩=>?_
 refine xpl [] 1 (ol_wget 255 3 322 Tryz.prog t_b_wait tc.wait line wa1 wc1 ⟨.i64,by kernel_rfl⟩) ?_
 refine xg [] [] [0,0] (gh_unfocus t_b_wait tc.wait line wa1 wc1) fun _=>?_
 exact xrY (someE H) [] [] [0] [1,0] ()
def taskS_j0 (tc:TurnsS) (line:Int) (who:Int) (id:Int) (e0_19:Bool):Option (Bool×TurnsS) :=
 (bif e0_19 then chk (((wget tc.wait line)++([(⟨who,id⟩:AskS)])).length≤1099511627776) (letP ((wget tc.wait line)++([(⟨who,id⟩:AskS)])) fun l4_15=>letP (mset tc.wait line l4_15) fun l4_16=>some (false,({ tc with wait:=l4_16 }:TurnsS))) else letP (mset tc.owners line who) fun l6_6=>some (true,({ tc with owners:=l6_6 }:TurnsS)))
def taskS (tc:TurnsS) (line:Int) (who:Int) (id:Int):Option (Bool×TurnsS) :=
 (bif decide (who<(0:Int)) then some (false,tc) else (townedS tc line).bind fun y3_2=>(bif y3_2 then (taskS_j0 tc line who id) true else (twaitS tc line).bind fun y3_6=>(taskS_j0 tc line who id) (decide ((0:Int)<y3_6))))
theorem taskF {tc:TurnsS} {line:Int} {who:Int} {id:Int} (t:Nat) {y:Bool×TurnsS} (H:taskS tc line who id=some y):FnY Tryz.prog 228 [.pointer (some ⟨t,0,none⟩),.int .i64 line,.int .i64 who,.int .i64 id] ⟨[],[(TurnsA t tc)]⟩ (Z:=Unit) (fun y _=>.bool y.1) (fun y _=>⟨[],[(TurnsA t y.2)]⟩) y:=by
 unfold taskS at H
 refine xfY Tryz.func228 fun W0 F=>?_
 refine xs [] H ?_ ?_
 · intro H
   exact xrY (someE H) [1] [] [] [0] ()
 · intro H
   refine xj [0,101] (ι:=Bool) (fun e0_19=>⟨[(0,.pointer (some ⟨t,0,none⟩)),(1,.int .i64 line),(2,.int .i64 who),(3,.int .i64 id),(19,.bool e0_19)],[],[(TurnsA t tc)]⟩) (fun e0_19=>taskS_j0 tc line who id e0_19=some y) ?_ ?_
   · rintro e0_19 H
     replace H:taskS_j0 tc line who id e0_19=some y:=H
     rw [taskS_j0] at H
     refine xs [] H ?_ ?_
     · intro H
       refine xg [1,0,1,2,3] [] [0] (gh_open (TurnsO t tc)) fun ⟨b_owners1,b_wait2⟩=>?_
       refine xg [0,4,5,6,7,8,0,9,10] [] [1] (gh_focus b_wait2 tc.wait line) fun ⟨wa1,wc1⟩=>?_
       refine xpl [] 1 (ol_wget 255 3 322 Tryz.prog b_wait2 tc.wait line wa1 wc1 ⟨.i64,by kernel_rfl⟩) ?_
       refine xn [11,12,13,14] fun b4_14=>?_
       refine xg [15] [0] [3] (gh_one b4_14 324 (⟨who,id⟩:AskS) ()) fun _=>?_
       refine chkG H fun q4_15_1 H=>?_
       refine letG H fun l4_15 hl4_15 H=>?_
       refine xa [] [1,0] (a:=wa1) (l:=(wget tc.wait line)) (zs:=l4_15) (cap:=wc1) (rA (some ⟨b4_14,0,none⟩) 1 ([(⟨who,id⟩:AskS)])) hl4_15 (hl4_15▸q4_15_1) fun ⟨a4_15,c4_15⟩=>?_
       refine letG H fun l4_16 hl4_16 H=>?_
       refine xo [16] [] [2,0] (oc_wset 255 3 322 Tryz.prog b_wait2 tc.wait line wa1 a4_15 wc1 c4_15 l4_15 hl4_16 ⟨.i64,by kernel_rfl⟩) fun _=>?_
       refine xg [] [0] [2,0] (gh_shut (TurnsO t ({ tc with wait:=l4_16 }:TurnsS)) (b_owners1,b_wait2)) fun _=>?_
       exact xrY (someE H) [] [] [] [0] ()
     · intro H
       refine xg [0] [] [0] (gh_open (TurnsO t tc)) fun ⟨b_owners3,b_wait4⟩=>?_
       refine letG H fun l6_6 hl6_6 H=>?_
       refine xo [0] [] [0,2] (oc_mset (α:=Int) 243 3 3 Tryz.prog b_owners3 line tc.owners (who:Int) () hl6_6 ⟨.i64,by kernel_rfl⟩) fun _=>?_
       refine xg [] [0] [0,0] (gh_shut (TurnsO t ({ tc with owners:=l6_6 }:TurnsS)) (b_owners3,b_wait4)) fun _=>?_
       exact xrY (someE H) [] [] [] [0] ()
   · intro N0 hN0
     refine xg [] [] [0] (gh_open (TurnsO t tc)) fun ⟨b_owners5,b_wait6⟩=>?_
     refine bindG H fun y3_2 hy3_2 H=>?_
     refine xc [] [0] [0,0] (townedF t b_owners5 b_wait6 hy3_2) fun _=>?_
     refine xs [] H ?_ ?_
     · intro H
       refine xg [0,0,0,0,1] [0] [0,0] (gh_shut (TurnsO t tc) (b_owners5,b_wait6)) fun _=>?_
       exact xe [] _ [] [0] (hN0 (true) H)
     · intro H
       refine bindG H fun y3_6 hy3_6 H=>?_
       refine xc [1,1,1] [0] [0,0] (twaitF t b_owners5 b_wait6 hy3_6) fun _=>?_
       refine xg [1,0] [0] [0,0] (gh_shut (TurnsO t tc) (b_owners5,b_wait6)) fun _=>?_
       exact xe [] _ [] [0] (hN0 (decide ((0:Int)<y3_6)) H)
def trelS (tc:TurnsS) (line:Int) (who:Int):Option (Int×TurnsS) :=
 (townedS tc line).bind fun y1_2=>(bif !y1_2 then some ((6:Int),tc) else (bif !(decide ((mgo tc.owners line)=who)) then some ((6:Int),tc) else letP (mdel tc.owners line) fun l3_5=>some ((0:Int),({ tc with owners:=l3_5 }:TurnsS))))
theorem trelF {tc:TurnsS} {line:Int} {who:Int} (t:Nat) {y:Int×TurnsS} (H:trelS tc line who=some y):FnY Tryz.prog 242 [.pointer (some ⟨t,0,none⟩),.int .i64 line,.int .i64 who] ⟨[],[(TurnsA t tc)]⟩ (Z:=Unit) (fun y _=>.int .i64 y.1) (fun y _=>⟨[],[(TurnsA t y.2)]⟩) y:=by
 unfold trelS at H
 refine xfY Tryz.func242 fun W0 F=>?_
 refine xg [] [] [0] (gh_open (TurnsO t tc)) fun ⟨b_owners1,b_wait2⟩=>?_
 refine bindG H fun y1_2 hy1_2 H=>?_
 refine xc [] [0] [0,0] (townedF t b_owners1 b_wait2 hy1_2) fun _=>?_
 refine xs [] H ?_ ?_
 · intro H
   refine xg [0,0,0,0,0,0,0,0,1,1] [0] [0,0] (gh_shut (TurnsO t tc) (b_owners1,b_wait2)) fun _=>?_
   exact xrY (someE H) [] [] [] [0] ()
 · intro H
   refine xpl [1,1,1,1,0,1,1] 0 (ol_mget1 (α:=Int) 243 3 3 Tryz.prog b_owners1 line tc.owners (fun _=>rfl) ⟨.i64,by kernel_rfl⟩) ?_
   refine xs [1,1,0] H ?_ ?_
   · intro H
     refine xg [1] [0] [0,0] (gh_shut (TurnsO t tc) (b_owners1,b_wait2)) fun _=>?_
     exact xrY (someE H) [] [] [] [0] ()
   · intro H
     refine letG H fun l3_5 hl3_5 H=>?_
     refine xo [0,0] [] [0] (oc_mdel (α:=Int) 243 3 3 3 32 Tryz.prog b_owners1 line tc.owners hl3_5 ⟨.i64,by kernel_rfl⟩) fun _=>?_
     refine xg [] [0] [0,0] (gh_shut (TurnsO t ({ tc with owners:=l3_5 }:TurnsS)) (b_owners1,b_wait2)) fun _=>?_
     exact xrY (someE H) [] [] [] [0] ()
def tnextS_j0 (tc:TurnsS) (line:Int) (e0_16:Bool):Option (Int×Int×Bool×TurnsS) :=
 (bif e0_16 then some ((0:Int),(0:Int),false,tc) else chk (0≤(0:Int)∧(0:Int)<(((wget tc.wait line).length:Nat):Int)) (letP (nthT (wget tc.wait line) (0:Int)) fun x3_7=>chk (1≤List.length (wget tc.wait line)) (letP (List.drop 1 (wget tc.wait line)) fun l4_11=>letP (mset tc.wait line l4_11) fun l4_12=>letP (mset tc.owners line x3_7.who) fun l5_7=>some (x3_7.who,x3_7.id,true,({ owners:=l5_7,wait:=l4_12 }:TurnsS)))))
def tnextS (tc:TurnsS) (line:Int):Option (Int×Int×Bool×TurnsS) :=
 (townedS tc line).bind fun y1_2=>(bif y1_2 then (tnextS_j0 tc line) true else (twaitS tc line).bind fun y1_6=>(tnextS_j0 tc line) (decide (y1_6=(0:Int))))
theorem tnextF {tc:TurnsS} {line:Int} (t:Nat) {y:Int×Int×Bool×TurnsS} (H:tnextS tc line=some y):FnY Tryz.prog 197 [.pointer (some ⟨t,0,none⟩),.int .i64 line] ⟨[],[(TurnsA t tc)]⟩ (Z:=Unit) (fun y _=>.tuple #[.int .i64 y.1,.int .i64 y.2.1,.bool y.2.2.1]) (fun y _=>⟨[],[(TurnsA t y.2.2.2)]⟩) y:=by
 unfold tnextS at H
 refine xfY Tryz.func197 fun W0 F=>?_
 refine xj [102] (ι:=Bool) (fun e0_16=>⟨[(0,.pointer (some ⟨t,0,none⟩)),(1,.int .i64 line),(16,.bool e0_16)],[],[(TurnsA t tc)]⟩) (fun e0_16=>tnextS_j0 tc line e0_16=some y) ?_ ?_
 · rintro e0_16 H
   replace H:tnextS_j0 tc line e0_16=some y:=H
   rw [tnextS_j0] at H
   refine xs [] H ?_ ?_
   · intro H
     exact xrY (someE H) [1] [] [] [0] ()
   · intro H
     refine xg [0] [] [0] (gh_open (TurnsO t tc)) fun ⟨b_owners1,b_wait2⟩=>?_
     refine xg [0] [] [1] (gh_focus b_wait2 tc.wait line) fun ⟨wa1,wc1⟩=>?_
     refine xpl [] 1 (ol_wget 255 3 322 Tryz.prog b_wait2 tc.wait line wa1 wc1 ⟨.i64,by kernel_rfl⟩) ?_
     refine chkG H fun q3_6_1 H=>?_
     refine xi [] 0 (rA wa1 wc1 (wget tc.wait line)) q3_6_1 fun b1 o1 e1=>?_
     refine letG H fun x3_7 hx3_7 H=>?_
     refine xo [] [] [0] (oc_ldN (rA wa1 wc1 (wget tc.wait line)) e1 q3_6_1 hx3_7 0 2) fun _=>?_
     refine xn [] fun b3_8=>?_
     refine xpl [0,0,1,2,3,1,4,5,6,7,8,1,9,10] 2 (ol_wget 255 3 322 Tryz.prog b_wait2 tc.wait line wa1 wc1 ⟨.i64,by kernel_rfl⟩) ?_
     refine chkG H fun q4_11_1 H=>?_
     refine letG H fun l4_11 hl4_11 H=>?_
     refine xtl [11] [1] (a:=wa1) (cap:=wc1) q4_11_1 hl4_11 fun a4_11=>?_
     refine letG H fun l4_12 hl4_12 H=>?_
     refine xo [12] [] [2,0] (oc_wset 255 3 322 Tryz.prog b_wait2 tc.wait line wa1 a4_11 wc1 (wc1 - 1) l4_11 hl4_12 ⟨.i64,by kernel_rfl⟩) fun _=>?_
     refine letG H fun l5_7 hl5_7 H=>?_
     refine xo [0,1,2,3,1,4,5,6,0,7] [] [2,3] (oc_mset (α:=Int) 243 3 3 Tryz.prog b_owners1 line tc.owners (x3_7.who:Int) () hl5_7 ⟨.i64,by kernel_rfl⟩) fun _=>?_
     refine xg [0,1,0,2,3,0,4,5,6] [1] [0,0] (gh_shut (TurnsO t ({ owners:=l5_7,wait:=l4_12 }:TurnsS)) (b_owners1,b_wait2)) fun _=>?_
     exact xrY (someE H) [] [] [] [0] ()
 · intro N0 hN0
   refine xg [] [] [0] (gh_open (TurnsO t tc)) fun ⟨b_owners3,b_wait4⟩=>?_
   refine bindG H fun y1_2 hy1_2 H=>?_
   refine xc [] [0] [0,0] (townedF t b_owners3 b_wait4 hy1_2) fun _=>?_
   refine xs [] H ?_ ?_
   · intro H
     refine xg [0,0,0,0,1] [0] [0,0] (gh_shut (TurnsO t tc) (b_owners3,b_wait4)) fun _=>?_
     exact xe [] _ [] [0] (hN0 (true) H)
   · intro H
     refine bindG H fun y1_6 hy1_6 H=>?_
     refine xc [1,1,1] [0] [0,0] (twaitF t b_owners3 b_wait4 hy1_6) fun _=>?_
     refine xg [1,0] [0] [0,0] (gh_shut (TurnsO t tc) (b_owners3,b_wait4)) fun _=>?_
     exact xe [] _ [] [0] (hN0 (decide (y1_6=(0:Int))) H)
end
section
open Go Go.RowKit
def mnewS_j0 (c:CfgS) (e0_m1_1:List (Int×RowS)):Option (DirS) :=
 some ({ c:=c,rows:=e0_m1_1 }:DirS)
def mnewS_j2 (v1_13:Int) (r1:Int→(List (Int×RowS))→Option (DirS)) (e2_m1_1:List (Int×RowS)):Option (DirS) :=
 chk (inR (v1_13+(1:Int))) (r1 (v1_13+(1:Int)) e2_m1_1)
def mnewS_l1 (c:CfgS) (node:Int) (k0:(List (Int×RowS))→Option (DirS)):Nat→Int→(List (Int×RowS))→Option (DirS)
 |0,_,_=>none
 |m+1,v1_13,v1_m1_1=>(bif decide (v1_13<c.lines) then (phomeS c v1_13).bind fun y5_2=>(bif decide (y5_2=node) then (pwordsS c v1_13).bind fun y6_7=>letP (mset v1_m1_1 v1_13 (⟨(0:Int),((-1):Int),y6_7⟩:RowS)) fun l6_9=>(mnewS_j2 v1_13 (mnewS_l1 c node k0 m)) l6_9 else (mnewS_j2 v1_13 (mnewS_l1 c node k0 m)) v1_m1_1) else k0 v1_m1_1)
def mnewS (c:CfgS) (node:Int):Option (DirS) :=
 mnewS_l1 c node (mnewS_j0 c) (c.lines.toNat+1) (0:Int) ([]:List (Int×RowS))
theorem mnewF {c:CfgS} {node:Int} (c0a:Option Addr) (c0c:Nat) {y:DirS} (H:mnewS c node=some y):FnY Tryz.prog 126 [.agg #[.int .i64 c.nodes,.int .i64 c.lines,.int .i64 c.words,.int .i64 c.sets,.int .i64 c.ways,.int .i64 c.out,.int .i64 c.inn,.slice c0a c.init.length c0c],.int .i64 node] ⟨[],[(ImmA c0a c0c c.init)]⟩ (Z:=Nat) (fun y (zb0:Nat)=>.pointer (some ⟨zb0,0,none⟩)) (fun y (zb0:Nat)=>⟨[],[(DirA zb0 y)]⟩) y:=by
 unfold mnewS at H
 refine xfY Tryz.func126 fun W0 F=>?_
 refine xn [] fun b0_0=>?_
 refine xo [0] [] [] (oc_mmake RowS 198 Tryz.prog) fun m1_1=>?_
 refine xn [] fun b1_3=>?_
 refine xj [100] (ι:=(List (Int×RowS))) (fun e0_m1_1=>⟨[(5,.pointer (some ⟨b1_3,0,none⟩))],[⟨b1_3,#[.int .i64 c.nodes,.int .i64 c.lines,.int .i64 c.words,.int .i64 c.sets,.int .i64 c.ways,.int .i64 c.out,.int .i64 c.inn,.slice c0a c.init.length c0c,.map (some m1_1)],200⟩],[(FMapA m1_1 e0_m1_1),(ImmA c0a c0c c.init)]⟩) (fun e0_m1_1=>mnewS_j0 c e0_m1_1=some y) ?_ ?_
 · rintro e0_m1_1 H
   replace H:mnewS_j0 c e0_m1_1=some y:=H
   rw [mnewS_j0] at H
   refine xg [] [0] [1,0] (gh_shut (DirO b1_3 ({ c:=c,rows:=e0_m1_1 }:DirS)) (c0a,c0c,m1_1)) fun _=>?_
   exact xrY (someE H) [] [] [] [0] (b1_3)
 · intro N0 hN0
   refine xl [1] (ι:=Int×(List (Int×RowS))) (fun (v1_13,v1_m1_1)=>⟨[(1,.int .i64 node),(2,.pointer (some ⟨b0_0,0,none⟩)),(5,.pointer (some ⟨b1_3,0,none⟩)),(12,.int .i64 c.lines),(13,.int .i64 v1_13)],[⟨b1_3,#[.int .i64 c.nodes,.int .i64 c.lines,.int .i64 c.words,.int .i64 c.sets,.int .i64 c.ways,.int .i64 c.out,.int .i64 c.inn,.slice c0a c.init.length c0c,.map (some m1_1)],200⟩,⟨b0_0,#[.int .i64 c.nodes,.int .i64 c.lines,.int .i64 c.words,.int .i64 c.sets,.int .i64 c.ways,.int .i64 c.out,.int .i64 c.inn,.slice c0a c.init.length c0c],25⟩],[(FMapA m1_1 v1_m1_1),(ImmA c0a c0c c.init)]⟩) (fun m1 (v1_13,v1_m1_1)=>mnewS_l1 c node (mnewS_j0 c) m1 v1_13 v1_m1_1=some y) [0,0] [0,0] ((c.lines.toNat+1)) ((0:Int),([]:List (Int×RowS))) H ?_
   rintro N1 (_ | m1) ⟨v1_13,v1_m1_1⟩ H hN1
   · exact (noneE H).elim
   replace H:mnewS_l1 c node (mnewS_j0 c) (m1+1) v1_13 v1_m1_1=some y:=H
   rw [mnewS_l1] at H
   refine xs [] H ?_ ?_
   · intro H
     refine xj [1,100] (ι:=(List (Int×RowS))) (fun e2_m1_1=>⟨[(1,.int .i64 node),(2,.pointer (some ⟨b0_0,0,none⟩)),(5,.pointer (some ⟨b1_3,0,none⟩)),(12,.int .i64 c.lines),(13,.int .i64 v1_13)],[⟨b1_3,#[.int .i64 c.nodes,.int .i64 c.lines,.int .i64 c.words,.int .i64 c.sets,.int .i64 c.ways,.int .i64 c.out,.int .i64 c.inn,.slice c0a c.init.length c0c,.map (some m1_1)],200⟩,⟨b0_0,#[.int .i64 c.nodes,.int .i64 c.lines,.int .i64 c.words,.int .i64 c.sets,.int .i64 c.ways,.int .i64 c.out,.int .i64 c.inn,.slice c0a c.init.length c0c],25⟩],[(FMapA m1_1 e2_m1_1),(ImmA c0a c0c c.init)]⟩) (fun e2_m1_1=>mnewS_j2 v1_13 (mnewS_l1 c node (mnewS_j0 c) m1) e2_m1_1=some y) ?_ ?_
     · rintro e2_m1_1 H
       replace H:mnewS_j2 v1_13 (mnewS_l1 c node (mnewS_j0 c) m1) e2_m1_1=some y:=H
       rw [mnewS_j2] at H
       refine chkG H fun q7_0_1 H=>?_
       refine xd [0] (ap q7_0_1 an) ?_
       exact xe [] _ [0,0] [0,0] (hN1 _ (v1_13+(1:Int),e2_m1_1) (Nat.lt_succ_self _) H)
     · intro N2 hN2
       refine bindG H fun y5_2 hy5_2 H=>?_
       refine xc [1] [] [] (phomeF c0a c0c hy5_2) fun _=>?_
       refine xs [] H ?_ ?_
       · intro H
         refine bindG H fun y6_7 hy6_7 H=>?_
         refine xc [1,0,1,2,3,0,4,5,1,6,7] [] [1] (pwordsF c0a c0c (rI c0a c0c c.init) hy6_7) fun ⟨t6_7_a0,t6_7_c0⟩=>?_
         refine xg [8,9] [] [0] (gh_frz t6_7_a0 t6_7_c0 y6_7) fun _=>?_
         refine xg [] [] [0] (gh_dup t6_7_a0 t6_7_c0 y6_7) fun _=>?_
         refine letG H fun l6_9 hl6_9 H=>?_
         refine xo [] [] [3,0] (oc_mset (α:=RowS) 198 3 86 Tryz.prog m1_1 v1_13 v1_m1_1 (⟨(0:Int),((-1):Int),y6_7⟩:RowS) (t6_7_a0,t6_7_c0) hl6_9 ⟨.i64,by kernel_rfl⟩) fun _=>?_
         exact xe [] _ [0,0] [0,1] (hN2 (l6_9) H)
       · intro H
         exact xe [0] _ [0,0] [0,0] (hN2 (v1_m1_1) H)
   · intro H
     exact xe [0] _ [0] [0,0] (hN0 (v1_m1_1) H)
def mrowS (dc:DirS) (line:Int):Option (RowS×Bool) :=
 letP (mgo dc.rows line) fun x1_5=>(cloneS x1_5.data).bind fun y2_2=>some ((⟨x1_5.state,x1_5.head,y2_2⟩:RowS),Option.isSome (mget dc.rows line))
theorem mrowF {dc:DirS} {line:Int} (d:Nat) (d_a_c_init:Option Addr) (d_c_c_init:Nat) (d_b_rows:Nat) {y:RowS×Bool} (H:mrowS dc line=some y):FnY Tryz.prog 74 [.pointer (some ⟨d,0,none⟩),.int .i64 line] ⟨[⟨d,#[.int .i64 dc.c.nodes,.int .i64 dc.c.lines,.int .i64 dc.c.words,.int .i64 dc.c.sets,.int .i64 dc.c.ways,.int .i64 dc.c.out,.int .i64 dc.c.inn,.slice d_a_c_init dc.c.init.length d_c_c_init,.map (some d_b_rows)],200⟩],[(ImmA d_a_c_init d_c_c_init dc.c.init),(FMapA d_b_rows dc.rows)]⟩ (Z:=Option Addr×Nat) (fun y (za0,zc0)=>.tuple #[.agg #[.int .i64 y.1.state,.int .i64 y.1.head,.slice za0 y.1.data.length zc0],.bool y.2]) (fun y (za0,zc0)=>⟨[⟨d,#[.int .i64 dc.c.nodes,.int .i64 dc.c.lines,.int .i64 dc.c.words,.int .i64 dc.c.sets,.int .i64 dc.c.ways,.int .i64 dc.c.out,.int .i64 dc.c.inn,.slice d_a_c_init dc.c.init.length d_c_c_init,.map (some d_b_rows)],200⟩],[(ArrA za0 zc0 y.1.data),(ImmA d_a_c_init d_c_c_init dc.c.init),(FMapA d_b_rows dc.rows)]⟩) y:=by
 unfold mrowS at H
 refine xfY Tryz.func74 fun W0 F=>?_
 refine xn [] fun b0_0=>?_
 refine letG H fun x1_5 hx1_5 H=>?_
 refine xo [1] [] [1] (oc_mget2 (α:=RowS) 198 3 86 Tryz.prog d_b_rows line dc.rows hx1_5 ⟨.i64,by kernel_rfl⟩) fun z1_5_1=>?_
 refine xn [] fun b1_9=>?_
 refine bindG H fun y2_2 hy2_2 H=>?_
 refine xc [0,0] [] [0] (cloneF z1_5_1.1 z1_5_1.2 (rI z1_5_1.1 z1_5_1.2 x1_5.data) hy2_2) fun ⟨t2_2_a0,t2_2_c0⟩=>?_
 exact xrY (someE H) [0,0,1] [1] [2] [0,2,1] (t2_2_a0,t2_2_c0)
def msetS_j0 (data:List Int) (dc:DirS) (line:Int) (state:Int) (head:Int) (x1_5:RowS):Option (Int×DirS) :=
 (bif decide ((0:Int)<(data.length:Int)) then (cloneS data).bind fun y10_1=>letP (mset dc.rows line (⟨state,head,y10_1⟩:RowS)) fun l11_6=>some ((0:Int),({ dc with rows:=l11_6 }:DirS)) else letP (mset dc.rows line (⟨state,head,x1_5.data⟩:RowS)) fun l11_6=>some ((0:Int),({ dc with rows:=l11_6 }:DirS)))
def msetS_j1 (dc:DirS) (head:Int) (state:Int) (data:List Int) (k0:Option (Int×DirS)) (e1_25:Bool):Option (Int×DirS) :=
 (bif e1_25 then some ((1:Int),dc) else (bif !((decide (head=((-1):Int))) == (decide (state=(0:Int)))) then some ((1:Int),dc) else (bif !(decide ((data.length:Int)=(0:Int))) then (bif !(decide ((data.length:Int)=dc.c.words)) then some ((1:Int),dc) else k0) else k0)))
def msetS (dc:DirS) (line:Int) (state:Int) (head:Int) (data:List Int):Option (Int×DirS) :=
 letP (mgo dc.rows line) fun x1_5=>(bif !(Option.isSome (mget dc.rows line)) then some ((3:Int),dc) else (bif decide (state<(0:Int)) then (msetS_j1 dc head state data (msetS_j0 data dc line state head x1_5)) true else (bif decide ((2:Int)<state) then (msetS_j1 dc head state data (msetS_j0 data dc line state head x1_5)) true else (bif decide (head<((-1):Int)) then (msetS_j1 dc head state data (msetS_j0 data dc line state head x1_5)) true else (msetS_j1 dc head state data (msetS_j0 data dc line state head x1_5)) (decide (dc.c.nodes≤head))))))
theorem msetF {dc:DirS} {line:Int} {state:Int} {head:Int} {data:List Int} {dataA:Asn} (d:Nat) (dataa:Option Addr) (datac:Nat) (hdataA:Rdb dataA dataa datac data) {y:Int×DirS} (H:msetS dc line state head data=some y):FnY Tryz.prog 241 [.pointer (some ⟨d,0,none⟩),.int .i64 line,.int .i64 state,.int .i64 head,.slice dataa data.length datac] ⟨[],[(DirA d dc),dataA]⟩ (Z:=Unit) (fun y _=>.int .i64 y.1) (fun y _=>⟨[],[(DirA d y.2),dataA]⟩) y:=by
 unfold msetS at H
 refine xfY Tryz.func241 fun W0 F=>?_
 refine xg [] [] [0] (gh_open (DirO d dc)) fun ⟨a_c_init1,c_c_init2,b_rows3⟩=>?_
 refine letG H fun x1_5 hx1_5 H=>?_
 refine xo [0] [] [1] (oc_mget2 (α:=RowS) 198 3 86 Tryz.prog b_rows3 line dc.rows hx1_5 ⟨.i64,by kernel_rfl⟩) fun z1_5_1=>?_
 refine xn [] fun b1_9=>?_
 refine xj [0,100] (ι:=Unit) (fun _=>⟨[(0,.pointer (some ⟨d,0,none⟩)),(1,.int .i64 line),(2,.int .i64 state),(3,.int .i64 head),(4,.slice dataa data.length datac),(11,.pointer (some ⟨b1_9,0,none⟩))],[⟨b1_9,#[.int .i64 x1_5.state,.int .i64 x1_5.head,.slice z1_5_1.1 x1_5.data.length z1_5_1.2],86⟩,⟨d,#[.int .i64 dc.c.nodes,.int .i64 dc.c.lines,.int .i64 dc.c.words,.int .i64 dc.c.sets,.int .i64 dc.c.ways,.int .i64 dc.c.out,.int .i64 dc.c.inn,.slice a_c_init1 dc.c.init.length c_c_init2,.map (some b_rows3)],200⟩],[(ImmA z1_5_1.1 z1_5_1.2 x1_5.data),(FMapA b_rows3 dc.rows),(ImmA a_c_init1 c_c_init2 dc.c.init),dataA]⟩) (fun _=>msetS_j0 data dc line state head x1_5=some y) ?_ ?_
 · rintro _ H
   replace H:msetS_j0 data dc line state head x1_5=some y:=H
   rw [msetS_j0] at H
   refine xs [0,0] H ?_ ?_
   · intro H
     refine bindG H fun y10_1 hy10_1 H=>?_
     refine xc [1] [] [3] (cloneF dataa datac hdataA hy10_1) fun ⟨t10_1_a0,t10_1_c0⟩=>?_
     refine xg [0,0,1,2,3,1,4,5,0,6] [] [0] (gh_frz t10_1_a0 t10_1_c0 y10_1) fun _=>?_
     refine xg [] [] [0] (gh_dup t10_1_a0 t10_1_c0 y10_1) fun _=>?_
     refine letG H fun l11_6 hl11_6 H=>?_
     refine xo [] [] [4,0] (oc_mset (α:=RowS) 198 3 86 Tryz.prog b_rows3 line dc.rows (⟨state,head,y10_1⟩:RowS) (t10_1_a0,t10_1_c0) hl11_6 ⟨.i64,by kernel_rfl⟩) fun _=>?_
     refine xg [] [1] [4,0] (gh_shut (DirO d ({ dc with rows:=l11_6 }:DirS)) (a_c_init1,c_c_init2,b_rows3)) fun _=>?_
     exact xrY (someE H) [] [] [] [0,1] ()
   · intro H
     refine xg [0,0,1,2,3,1,4,5,0,6] [] [0] (gh_dup z1_5_1.1 z1_5_1.2 x1_5.data) fun _=>?_
     refine letG H fun l11_6 hl11_6 H=>?_
     refine xo [] [] [2,0] (oc_mset (α:=RowS) 198 3 86 Tryz.prog b_rows3 line dc.rows (⟨state,head,x1_5.data⟩:RowS) (z1_5_1.1,z1_5_1.2) hl11_6 ⟨.i64,by kernel_rfl⟩) fun _=>?_
     refine xg [] [1] [2,0] (gh_shut (DirO d ({ dc with rows:=l11_6 }:DirS)) (a_c_init1,c_c_init2,b_rows3)) fun _=>?_
     exact xrY (someE H) [] [] [] [0,1] ()
 · intro N0 hN0
   refine xs [] H ?_ ?_
   · intro H
     refine xg [1] [1] [2,1] (gh_shut (DirO d dc) (a_c_init1,c_c_init2,b_rows3)) fun _=>?_
     exact xrY (someE H) [] [] [] [0,1] ()
   · intro H
     refine xj [0,100] (ι:=Bool) (fun e1_25=>⟨[(0,.pointer (some ⟨d,0,none⟩)),(1,.int .i64 line),(2,.int .i64 state),(3,.int .i64 head),(4,.slice dataa data.length datac),(11,.pointer (some ⟨b1_9,0,none⟩)),(25,.bool e1_25)],[⟨b1_9,#[.int .i64 x1_5.state,.int .i64 x1_5.head,.slice z1_5_1.1 x1_5.data.length z1_5_1.2],86⟩,⟨d,#[.int .i64 dc.c.nodes,.int .i64 dc.c.lines,.int .i64 dc.c.words,.int .i64 dc.c.sets,.int .i64 dc.c.ways,.int .i64 dc.c.out,.int .i64 dc.c.inn,.slice a_c_init1 dc.c.init.length c_c_init2,.map (some b_rows3)],200⟩],[(ImmA z1_5_1.1 z1_5_1.2 x1_5.data),(FMapA b_rows3 dc.rows),(ImmA a_c_init1 c_c_init2 dc.c.init),dataA]⟩) (fun e1_25=>msetS_j1 dc head state data (msetS_j0 data dc line state head x1_5) e1_25=some y) ?_ ?_
     · rintro e1_25 H
       replace H:msetS_j1 dc head state data (msetS_j0 data dc line state head x1_5) e1_25=some y:=H
       rw [msetS_j1] at H
       refine xs [] H ?_ ?_
       · intro H
         refine xg [1] [1] [2,1] (gh_shut (DirO d dc) (a_c_init1,c_c_init2,b_rows3)) fun _=>?_
         exact xrY (someE H) [] [] [] [0,1] ()
       · intro H
         refine xs [0] H ?_ ?_
         · intro H
           refine xg [0,0,0,0,0,0,0,0,0,0,0,0,0,1,1] [1] [2,1] (gh_shut (DirO d dc) (a_c_init1,c_c_init2,b_rows3)) fun _=>?_
           exact xrY (someE H) [] [] [] [0,1] ()
         · intro H
           refine xs [1,1,1,1] H ?_ ?_
           · intro H
             refine xs [1,1,1,1,1,1,1,1,1,1,1,0] H ?_ ?_
             · intro H
               refine xg [1] [1] [2,1] (gh_shut (DirO d dc) (a_c_init1,c_c_init2,b_rows3)) fun _=>?_
               exact xrY (someE H) [] [] [] [0,1] ()
             · intro H
               exact xe [0] _ [0,0] [0,0,0,0] (hN0 () H)
           · intro H
             exact xe [0,0,0,0,0,0,0,0,1,0,0,0] _ [0,0] [0,0,0,0] (hN0 () H)
     · intro N1 hN1
       refine xs [] H ?_ ?_
       · intro H
         exact xe [0,0,1,0,0,1,0,0,0,0,0,0,0,1] _ [0,0] [0,0,0,0] (hN1 (true) H)
       · intro H
         refine xs [1,1,0] H ?_ ?_
         · intro H
           exact xe [0,0,1,0,0,0,0,0,0,0,1] _ [0,0] [0,0,0,0] (hN1 (true) H)
         · intro H
           refine xs [1,1,0] H ?_ ?_
           · intro H
             exact xe [0,0,0,0,0,0,0,1] _ [0,0] [0,0,0,0] (hN1 (true) H)
           · intro H
             exact xe [1,1,1,1,1,1,1,1,0] _ [0,0] [0,0,0,0] (hN1 (decide (dc.c.nodes≤head)) H)
end
section
open Go Go.RowKit
def hnewS (c:CfgS) (node:Int):Option (HomeS) :=
 (mnewS c node).bind fun y1_2=>(tnewS).bind fun y1_3=>some ({ dir:=y1_2,turns:=y1_3,c:=c,node:=node }:HomeS)
theorem hnewF {c:CfgS} {node:Int} (c0a:Option Addr) (c0c:Nat) {y:HomeS} (H:hnewS c node=some y):FnY Tryz.prog 86 [.agg #[.int .i64 c.nodes,.int .i64 c.lines,.int .i64 c.words,.int .i64 c.sets,.int .i64 c.ways,.int .i64 c.out,.int .i64 c.inn,.slice c0a c.init.length c0c],.int .i64 node] ⟨[],[(ImmA c0a c0c c.init)]⟩ (Z:=Nat) (fun y (zb0:Nat)=>.pointer (some ⟨zb0,0,none⟩)) (fun y (zb0:Nat)=>⟨[],[(HomeA zb0 y)]⟩) y:=by
 unfold hnewS at H
 refine xfY Tryz.func86 fun W0 F=>?_
 refine xn [] fun b0_0=>?_
 refine xg [0,0,1,4,0,5,2] [] [0] (gh_dup c0a c0c c.init) fun _=>?_
 refine bindG H fun y1_2 hy1_2 H=>?_
 refine xc [] [] [0] (mnewF c0a c0c hy1_2) fun t1_2_b0=>?_
 refine bindG H fun y1_3 hy1_3 H=>?_
 refine xc [3] [] [] (tnewF hy1_3) fun t1_3_b0=>?_
 refine xn [6,7] fun b1_7=>?_
 refine xg [8] [] [2] (gh_dup c0a c0c c.init) fun _=>?_
 refine xg [] [0] [3,2,0] (gh_shut (HomeO b1_7 ({ dir:=y1_2,turns:=y1_3,c:=c,node:=node }:HomeS)) (t1_2_b0,t1_3_b0,c0a,c0c)) fun _=>?_
 exact xrY (someE H) [] [] [] [0] (b1_7)
def hgrS (hc:HomeS) (line:Int) (who:Int) (id:Int):Option (PktS) :=
 (mrowS hc.dir line).bind fun y1_5=>some (⟨(7:Int),hc.node,who,id,line,y1_5.1.head,y1_5.1.state,false,y1_5.1.data⟩:PktS)
theorem hgrF {hc:HomeS} {line:Int} {who:Int} {id:Int} (h:Nat) (h_b_dir:Nat) (h_b_turns:Nat) (h_a_c_init:Option Addr) (h_c_c_init:Nat) {y:PktS} (H:hgrS hc line who id=some y):FnY Tryz.prog 198 [.pointer (some ⟨h,0,none⟩),.int .i64 line,.int .i64 who,.int .i64 id] ⟨[⟨h,#[.pointer (some ⟨h_b_dir,0,none⟩),.pointer (some ⟨h_b_turns,0,none⟩),.int .i64 hc.c.nodes,.int .i64 hc.c.lines,.int .i64 hc.c.words,.int .i64 hc.c.sets,.int .i64 hc.c.ways,.int .i64 hc.c.out,.int .i64 hc.c.inn,.slice h_a_c_init hc.c.init.length h_c_c_init,.int .i64 hc.node],152⟩],[(DirA h_b_dir hc.dir),(TurnsA h_b_turns hc.turns),(ImmA h_a_c_init h_c_c_init hc.c.init)]⟩ (Z:=Option Addr×Nat) (fun y (za0,zc0)=>.agg #[.int .i64 y.kind,.int .i64 y.src,.int .i64 y.dst,.int .i64 y.id,.int .i64 y.line,.int .i64 y.ptr,.int .i64 y.state,.bool y.flag,.slice za0 y.data.length zc0]) (fun y (za0,zc0)=>⟨[⟨h,#[.pointer (some ⟨h_b_dir,0,none⟩),.pointer (some ⟨h_b_turns,0,none⟩),.int .i64 hc.c.nodes,.int .i64 hc.c.lines,.int .i64 hc.c.words,.int .i64 hc.c.sets,.int .i64 hc.c.ways,.int .i64 hc.c.out,.int .i64 hc.c.inn,.slice h_a_c_init hc.c.init.length h_c_c_init,.int .i64 hc.node],152⟩],[(ArrA za0 zc0 y.data),(DirA h_b_dir hc.dir),(TurnsA h_b_turns hc.turns),(ImmA h_a_c_init h_c_c_init hc.c.init)]⟩) y:=by
 unfold hgrS at H
 refine xfY Tryz.func198 fun W0 F=>?_
 refine xn [] fun b0_0=>?_
 refine xg [1] [] [0] (gh_open (DirO h_b_dir hc.dir)) fun ⟨a_c_init1,c_c_init2,b_rows3⟩=>?_
 refine bindG H fun y1_5 hy1_5 H=>?_
 refine xc [] [0] [0,0] (mrowF h_b_dir a_c_init1 c_c_init2 b_rows3 hy1_5) fun ⟨t1_5_a0,t1_5_c0⟩=>?_
 refine xn [] fun b1_9=>?_
 refine xg [0,0,1,2,3,3,4,5,6,7,8,0,9,10,0,11,12,0,13,14,2] [1] [1,1] (gh_shut (DirO h_b_dir hc.dir) (a_c_init1,c_c_init2,b_rows3)) fun _=>?_
 exact xrY (someE H) [] [1] [2] [1,0,0,0] (t1_5_a0,t1_5_c0)
def hunS_j0 (hc:HomeS) (p:PktS) (e0_5x:List Int):Option (Int×HomeS) :=
 (msetS hc.dir p.line p.state p.ptr e0_5x).bind fun y6_11=>(bif !(decide (y6_11.1=(0:Int))) then some (y6_11.1,({ hc with dir:=y6_11.2 }:HomeS)) else (trelS hc.turns p.line p.src).bind fun y9_8=>some (y9_8.1,({ hc with dir:=y6_11.2,turns:=y9_8.2 }:HomeS)))
def hunS (hc:HomeS) (p:PktS):Option (Int×HomeS) :=
 (townerS hc.turns p.line).bind fun y1_6=>(bif !(decide (y1_6=p.src)) then some ((6:Int),hc) else (bif p.flag then (hunS_j0 hc p) p.data else (hunS_j0 hc p) ([]:List Int)))
theorem hunF {hc:HomeS} {p:PktS} (h:Nat) (p0a:Option Addr) (p0c:Nat) {y:Int×HomeS} (H:hunS hc p=some y):FnY Tryz.prog 229 [.pointer (some ⟨h,0,none⟩),.agg #[.int .i64 p.kind,.int .i64 p.src,.int .i64 p.dst,.int .i64 p.id,.int .i64 p.line,.int .i64 p.ptr,.int .i64 p.state,.bool p.flag,.slice p0a p.data.length p0c]] ⟨[],[(HomeA h hc),(ImmA p0a p0c p.data)]⟩ (Z:=Unit) (fun y _=>.int .i64 y.1) (fun y _=>⟨[],[(HomeA h y.2)]⟩) y:=by
 unfold hunS at H
 refine xfY Tryz.func229 fun W0 F=>?_
 refine xn [] fun b0_0=>?_
 refine xg [0,1,2,3] [] [0] (gh_open (HomeO h hc)) fun ⟨b_dir1,b_turns2,a_c_init3,c_c_init4⟩=>?_
 refine xg [0,4,5,1,7,8,1,6] [] [1] (gh_open (TurnsO b_turns2 hc.turns)) fun ⟨b_owners5,b_wait6⟩=>?_
 refine bindG H fun y1_6 hy1_6 H=>?_
 refine xc [] [0] [0,0] (townerF b_turns2 b_owners5 b_wait6 hy1_6) fun _=>?_
 refine xs [9] H ?_ ?_
 · intro H
   refine xg [1] [0] [0,0] (gh_shut (TurnsO b_turns2 hc.turns) (b_owners5,b_wait6)) fun _=>?_
   refine xg [] [0] [1,0,0] (gh_shut (HomeO h hc) (b_dir1,b_turns2,a_c_init3,c_c_init4)) fun _=>?_
   exact xrY (someE H) [] [] [] [0] ()
 · intro H
   refine xj [0,101] (ι:=List Int×Option Addr×Nat) (fun (e0_5x,e0_5a,e0_5c)=>⟨[(0,.pointer (some ⟨h,0,none⟩)),(3,.pointer (some ⟨b0_0,0,none⟩)),(5,.slice e0_5a e0_5x.length e0_5c)],[⟨b_turns2,#[.map (some b_owners5),.map (some b_wait6)],257⟩,⟨h,#[.pointer (some ⟨b_dir1,0,none⟩),.pointer (some ⟨b_turns2,0,none⟩),.int .i64 hc.c.nodes,.int .i64 hc.c.lines,.int .i64 hc.c.words,.int .i64 hc.c.sets,.int .i64 hc.c.ways,.int .i64 hc.c.out,.int .i64 hc.c.inn,.slice a_c_init3 hc.c.init.length c_c_init4,.int .i64 hc.node],152⟩,⟨b0_0,#[.int .i64 p.kind,.int .i64 p.src,.int .i64 p.dst,.int .i64 p.id,.int .i64 p.line,.int .i64 p.ptr,.int .i64 p.state,.bool p.flag,.slice p0a p.data.length p0c],176⟩],[(ImmA e0_5a e0_5c e0_5x),(FMapA b_owners5 hc.turns.owners),(WMapA b_wait6 hc.turns.wait),(DirA b_dir1 hc.dir),(ImmA a_c_init3 c_c_init4 hc.c.init),(ImmA p0a p0c p.data)]⟩) (fun (e0_5x,e0_5a,e0_5c)=>hunS_j0 hc p e0_5x=some y) ?_ ?_
   · rintro ⟨e0_5x,e0_5a,e0_5c⟩ H
     replace H:hunS_j0 hc p e0_5x=some y:=H
     rw [hunS_j0] at H
     refine bindG H fun y6_11 hy6_11 H=>?_
     refine xc [0,1,2,3,1,4,5,2,6,7,2,8,9,2,10,11] [] [3,0] (msetF b_dir1 e0_5a e0_5c (rI e0_5a e0_5c e0_5x) hy6_11) fun _=>?_
     refine xs [12] H ?_ ?_
     · intro H
       refine xg [1] [0] [2,2] (gh_shut (TurnsO b_turns2 hc.turns) (b_owners5,b_wait6)) fun _=>?_
       refine xg [] [0] [1,0,1] (gh_shut (HomeO h ({ hc with dir:=y6_11.2 }:HomeS)) (b_dir1,b_turns2,a_c_init3,c_c_init4)) fun _=>?_
       exact xrY (someE H) [] [] [] [0] ()
     · intro H
       refine xg [0,0,1,2,3,1,4,5,2,6,7,2,8] [0] [2,2] (gh_shut (TurnsO b_turns2 hc.turns) (b_owners5,b_wait6)) fun _=>?_
       refine bindG H fun y9_8 hy9_8 H=>?_
       refine xc [] [] [0] (trelF b_turns2 hy9_8) fun _=>?_
       refine xg [9] [0] [1,0,1] (gh_shut (HomeO h ({ hc with dir:=y6_11.2,turns:=y9_8.2 }:HomeS)) (b_dir1,b_turns2,a_c_init3,c_c_init4)) fun _=>?_
       exact xrY (someE H) [] [] [] [0] ()
   · intro N0 hN0
     refine xs [2] H ?_ ?_
     · intro H
       refine xg [1,2] [] [4] (gh_dup p0a p0c p.data) fun _=>?_
       exact xe [] _ [0,0,0] [0,1,1,1,1,0] (hN0 (p.data,p0a,p0c) H)
     · intro H
       refine xg [0] [] [] (gh_nilI (α:=Int) none 0) fun _=>?_
       exact xe [] _ [0,0,0] [0,0,0,0,0,0] (hN0 (([]:List Int),none,0) H)
def hhanS_j2 (hc:HomeS) (p:PktS) (e2_65:Bool):Option (PktS×Bool×Int×HomeS) :=
 (bif e2_65 then some ((⟨(0:Int),(0:Int),(0:Int),(0:Int),(0:Int),(0:Int),(0:Int),false,([]:List Int)⟩:PktS),false,(3:Int),hc) else (bif decide (p.kind=(1:Int)) then (taskS hc.turns p.line p.src p.id).bind fun y7_10=>(bif !y7_10.1 then some ((⟨(0:Int),(0:Int),(0:Int),(0:Int),(0:Int),(0:Int),(0:Int),false,([]:List Int)⟩:PktS),false,(0:Int),({ hc with turns:=y7_10.2 }:HomeS)) else (hgrS ({ hc with turns:=y7_10.2 }:HomeS) p.line p.src p.id).bind fun y9_7=>some (y9_7,true,(0:Int),({ hc with turns:=y7_10.2 }:HomeS))) else (hunS hc p).bind fun y10_2=>(bif !(decide (y10_2.1=(0:Int))) then some ((⟨(0:Int),(0:Int),(0:Int),(0:Int),(0:Int),(0:Int),(0:Int),false,([]:List Int)⟩:PktS),false,y10_2.1,y10_2.2) else some ((⟨(8:Int),y10_2.2.node,p.src,p.id,p.line,(0:Int),(0:Int),false,([]:List Int)⟩:PktS),true,(0:Int),y10_2.2))))
def hhanS_j1 (hc:HomeS) (p:PktS):Option (PktS×Bool×Int×HomeS) :=
 (phomeS hc.c p.line).bind fun y4_6=>(bif !(decide (y4_6=hc.node)) then (hhanS_j2 hc p) true else (hhanS_j2 hc p) (decide (hc.c.lines≤p.line)))
def hhanS_j0 (hc:HomeS) (p:PktS) (e0_7:Bool):Option (PktS×Bool×Int×HomeS) :=
 (bif !e0_7 then some ((⟨(0:Int),(0:Int),(0:Int),(0:Int),(0:Int),(0:Int),(0:Int),false,([]:List Int)⟩:PktS),false,(1:Int),hc) else (bif !(decide (p.kind=(1:Int))) then (bif !(decide (p.kind=(2:Int))) then some ((⟨(0:Int),(0:Int),(0:Int),(0:Int),(0:Int),(0:Int),(0:Int),false,([]:List Int)⟩:PktS),false,(1:Int),hc) else (hhanS_j1 hc p)) else (hhanS_j1 hc p)))
def hhanS (hc:HomeS) (p:PktS):Option (PktS×Bool×Int×HomeS) :=
 (pchkS p).bind fun y1_1=>(bif decide (y1_1=(0:Int)) then (bif decide (p.dst=hc.node) then (hhanS_j0 hc p) (decide (p.src<hc.c.nodes)) else (hhanS_j0 hc p) false) else (hhanS_j0 hc p) false)
theorem hhanF {hc:HomeS} {p:PktS} (h:Nat) (p0a:Option Addr) (p0c:Nat) {y:PktS×Bool×Int×HomeS} (H:hhanS hc p=some y):FnY Tryz.prog 200 [.pointer (some ⟨h,0,none⟩),.agg #[.int .i64 p.kind,.int .i64 p.src,.int .i64 p.dst,.int .i64 p.id,.int .i64 p.line,.int .i64 p.ptr,.int .i64 p.state,.bool p.flag,.slice p0a p.data.length p0c]] ⟨[],[(HomeA h hc),(ImmA p0a p0c p.data)]⟩ (Z:=Option Addr×Nat) (fun y (za0,zc0)=>.tuple #[.agg #[.int .i64 y.1.kind,.int .i64 y.1.src,.int .i64 y.1.dst,.int .i64 y.1.id,.int .i64 y.1.line,.int .i64 y.1.ptr,.int .i64 y.1.state,.bool y.1.flag,.slice za0 y.1.data.length zc0],.bool y.2.1,.int .i64 y.2.2.1]) (fun y (za0,zc0)=>⟨[],[(ArrA za0 zc0 y.1.data),(HomeA h y.2.2.2)]⟩) y:=by
 unfold hhanS at H
 refine xfY Tryz.func200 fun W0 F=>?_
 refine xn [] fun b0_0=>?_
 refine xn [] fun b0_1=>?_
 refine xj [100] (ι:=Bool) (fun e0_7=>⟨[(0,.pointer (some ⟨h,0,none⟩)),(3,.pointer (some ⟨b0_0,0,none⟩)),(4,.pointer (some ⟨b0_1,0,none⟩)),(7,.bool e0_7)],[⟨b0_1,#[.int .i64 (0),.int .i64 (0),.int .i64 (0),.int .i64 (0),.int .i64 (0),.int .i64 (0),.int .i64 (0),.bool false,.slice none 0 0],176⟩,⟨b0_0,#[.int .i64 p.kind,.int .i64 p.src,.int .i64 p.dst,.int .i64 p.id,.int .i64 p.line,.int .i64 p.ptr,.int .i64 p.state,.bool p.flag,.slice p0a p.data.length p0c],176⟩],[(HomeA h hc),(ImmA p0a p0c p.data)]⟩) (fun e0_7=>hhanS_j0 hc p e0_7=some y) ?_ ?_
 · rintro e0_7 H
   replace H:hhanS_j0 hc p e0_7=some y:=H
   rw [hhanS_j0] at H
   refine xj [100] (ι:=Unit) (fun _=>⟨[(0,.pointer (some ⟨h,0,none⟩)),(3,.pointer (some ⟨b0_0,0,none⟩)),(4,.pointer (some ⟨b0_1,0,none⟩))],[⟨b0_1,#[.int .i64 (0),.int .i64 (0),.int .i64 (0),.int .i64 (0),.int .i64 (0),.int .i64 (0),.int .i64 (0),.bool false,.slice none 0 0],176⟩,⟨b0_0,#[.int .i64 p.kind,.int .i64 p.src,.int .i64 p.dst,.int .i64 p.id,.int .i64 p.line,.int .i64 p.ptr,.int .i64 p.state,.bool p.flag,.slice p0a p.data.length p0c],176⟩],[(HomeA h hc),(ImmA p0a p0c p.data)]⟩) (fun _=>hhanS_j1 hc p=some y) ?_ ?_
   · rintro _ H
     replace H:hhanS_j1 hc p=some y:=H
     rw [hhanS_j1] at H
     refine xj [101] (ι:=Bool) (fun e2_65=>⟨[(0,.pointer (some ⟨h,0,none⟩)),(3,.pointer (some ⟨b0_0,0,none⟩)),(4,.pointer (some ⟨b0_1,0,none⟩)),(65,.bool e2_65)],[⟨b0_1,#[.int .i64 (0),.int .i64 (0),.int .i64 (0),.int .i64 (0),.int .i64 (0),.int .i64 (0),.int .i64 (0),.bool false,.slice none 0 0],176⟩,⟨b0_0,#[.int .i64 p.kind,.int .i64 p.src,.int .i64 p.dst,.int .i64 p.id,.int .i64 p.line,.int .i64 p.ptr,.int .i64 p.state,.bool p.flag,.slice p0a p.data.length p0c],176⟩],[(HomeA h hc),(ImmA p0a p0c p.data)]⟩) (fun e2_65=>hhanS_j2 hc p e2_65=some y) ?_ ?_
     · rintro e2_65 H
       replace H:hhanS_j2 hc p e2_65=some y:=H
       rw [hhanS_j2] at H
       refine xs [] H ?_ ?_
       · intro H
         refine xg [1,0] [] [] (gh_nil (α:=Int) none) fun _=>?_
         exact xrY (someE H) [] [0] [] [0,0] (none,0)
       · intro H
         refine xs [0,1] H ?_ ?_
         · intro H
           refine xg [1,0,1,2,3] [] [0] (gh_open (HomeO h hc)) fun ⟨b_dir1,b_turns2,a_c_init3,c_c_init4⟩=>?_
           refine bindG H fun y7_10 hy7_10 H=>?_
           refine xc [0,4,5,2,6,7,2,8,9,2,10] [] [1] (taskF b_turns2 hy7_10) fun _=>?_
           refine xs [11] H ?_ ?_
           · intro H
             refine xg [1,1] [] [] (gh_nil (α:=Int) none) fun _=>?_
             refine xg [] [0] [2,1,1] (gh_shut (HomeO h ({ hc with turns:=y7_10.2 }:HomeS)) (b_dir1,b_turns2,a_c_init3,c_c_init4)) fun _=>?_
             exact xrY (someE H) [] [0] [] [1,0] (none,0)
           · intro H
             refine bindG H fun y9_7 hy9_7 H=>?_
             refine xc [0,2,2,2] [0] [1,0,0] (hgrF h b_dir1 b_turns2 a_c_init3 c_c_init4 hy9_7) fun ⟨t9_7_a0,t9_7_c0⟩=>?_
             refine xg [1] [0] [1,1,1] (gh_shut (HomeO h ({ hc with turns:=y7_10.2 }:HomeS)) (b_dir1,b_turns2,a_c_init3,c_c_init4)) fun _=>?_
             exact xrY (someE H) [] [0] [] [1,0] (t9_7_a0,t9_7_c0)
         · intro H
           refine xg [0,1] [] [1] (gh_dup p0a p0c p.data) fun _=>?_
           refine bindG H fun y10_2 hy10_2 H=>?_
           refine xc [] [] [2,0] (hunF h p0a p0c hy10_2) fun _=>?_
           refine xs [] H ?_ ?_
           · intro H
             refine xg [1,0] [] [] (gh_nil (α:=Int) none) fun _=>?_
             exact xrY (someE H) [] [0] [] [0,0] (none,0)
           · intro H
             refine xg [0,0,1,2,3] [] [0] (gh_open (HomeO h y10_2.2)) fun ⟨b_dir5,b_turns6,a_c_init7,c_c_init8⟩=>?_
             refine xg [0,4,5,2,6,7,2,8,9,2,10,11,1,12,13] [] [] (gh_nil (α:=Int) none) fun _=>?_
             refine xg [] [0] [1,1,1] (gh_shut (HomeO h y10_2.2) (b_dir5,b_turns6,a_c_init7,c_c_init8)) fun _=>?_
             exact xrY (someE H) [] [0] [] [1,0] (none,0)
     · intro N2 hN2
       refine xg [0,1,2,3] [] [0] (gh_open (HomeO h hc)) fun ⟨b_dir9,b_turns10,a_c_init11,c_c_init12⟩=>?_
       refine bindG H fun y4_6 hy4_6 H=>?_
       refine xc [0,4,5,2,7,8,9,10,0,6] [] [] (phomeF a_c_init11 c_c_init12 hy4_6) fun _=>?_
       refine xs [11,12,13] H ?_ ?_
       · intro H
         refine xg [0,14,0,15,0,16,0,17,0,18,0,19,0,20,0,21,1] [0] [0,0,0] (gh_shut (HomeO h hc) (b_dir9,b_turns10,a_c_init11,c_c_init12)) fun _=>?_
         exact xe [] _ [0,0] [0,0] (hN2 (true) H)
       · intro H
         refine xg [1,14,1,2,15,1,16,1,17,1,18,1,19,1,0,20,1,21,0] [0] [0,0,0] (gh_shut (HomeO h hc) (b_dir9,b_turns10,a_c_init11,c_c_init12)) fun _=>?_
         exact xe [] _ [0,0] [0,0] (hN2 (decide (hc.c.lines≤p.line)) H)
   · intro N1 hN1
     refine xs [] H ?_ ?_
     · intro H
       refine xg [0,0,0,0,0,0,0,0,1,1,0] [] [] (gh_nil (α:=Int) none) fun _=>?_
       exact xrY (someE H) [] [0] [] [0,0] (none,0)
     · intro H
       refine xs [1,1,1,1,1] H ?_ ?_
       · intro H
         refine xs [1,1,1,1,1,1,0] H ?_ ?_
         · intro H
           refine xg [1,0] [] [] (gh_nil (α:=Int) none) fun _=>?_
           exact xrY (someE H) [] [0] [] [0,0] (none,0)
         · intro H
           exact xe [0] _ [0,0] [0,0] (hN1 () H)
       · intro H
         exact xe [0,0,0,1,0,0,0] _ [0,0] [0,0] (hN1 () H)
 · intro N0 hN0
   refine bindG H fun y1_1 hy1_1 H=>?_
   refine xc [0,1,1] [] [] (pchkF p0a p0c hy1_1) fun _=>?_
   refine xs [2,3,4] H ?_ ?_
   · intro H
     refine xg [1,5,1,1,6,1,7,1,8,1,9,1] [] [0] (gh_open (HomeO h hc)) fun ⟨b_dir13,b_turns14,a_c_init15,c_c_init16⟩=>?_
     refine xs [1,0,10,1,11,1,12,13] H ?_ ?_
     · intro H
       refine xg [1,14,1,2,15,1,16,1,17,1,18,1,19,1,0,20,1,21,1,22] [0] [0,0,0] (gh_shut (HomeO h hc) (b_dir13,b_turns14,a_c_init15,c_c_init16)) fun _=>?_
       exact xe [] _ [0,0] [0,0] (hN0 (decide (p.src<hc.c.nodes)) H)
     · intro H
       refine xg [0,14,0,15,0,16,0,17,0,18,0,19,0,20,0,21,0,22] [0] [0,0,0] (gh_shut (HomeO h hc) (b_dir13,b_turns14,a_c_init15,c_c_init16)) fun _=>?_
       exact xe [] _ [0,0] [0,0] (hN0 (false) H)
   · intro H
     exact xe [0,5,0,6,0,7,0,8,0,9,0,10,0,11,0,12,13,0,14,0,15,0,16,0,17,0,18,0,19,0,20,0,21,0,22] _ [0,0] [0,0] (hN0 (false) H)
end
section
open Go Go.RowKit
def mkD (D:Nat):Deferred:={ target:=.collected D,args:=#[] }
theorem Tr.enterM {P:Program} {f:FuncId} {fn:Func} {c:Code} {args:List Value} {W0:World} {Γ:List Asn} {R:Value→List Asn→Prop} (n:Nat)
 (hf:P.funcs[f]?=some fn) (hb:fn.body=some c) (hn:Nat.max args.length fn.ntmps=n) (h:At ⟨n,[],none⟩ W0 (argEnv 0 args) Γ (wpF ⟨n,[],none⟩ P c (bodyPostM Fence.wide 0 P fn (Back W0 R)))):Tr P f args.toArray W0 Γ R:=by
 intro w hw
 refine callsIn_wide.1 (callsIn_of_wp_marks (F:=Fence.wide) (n:=0) hf hb trivial (h _ w ⟨?_,rfl,?_⟩ hw))
 · subst hn
   simp
   show args.length+(fn.ntmps - args.length)=max args.length fn.ntmps
   omega
 · intro t v hv
   obtain ⟨_,h2⟩:=argEnv_get _ _ _ _ hv
   have hlt:t<args.length:=by
    rcases Nat.lt_or_ge t args.length with h | h
    · exact h
    · simp [h] at h2
   simp only [Nat.sub_zero] at h2
   simp only [List.size_toArray,Array.getElem?_append,hlt,if_true]
   simpa using h2
def ctxM (P:Program) (fn:Func) (n:Fm) (W0:World) (F:List Asn) {Y Z:Type} (rv:Y→Z→Value) (post:Y→Z→Rs) (y:Y):Ctx :=
 ⟨P,n,W0,F,bodyPostM Fence.wide 0 P fn (Back W0 fun r Δ=>∃ z,r=rv y z∧Δ=(post y z).all F)⟩
theorem xfM {P:Program} {f:FuncId} {args:List Value} {pre:Rs} {Y Z:Type} {rv:Y→Z→Value} {post:Y→Z→Rs} {y:Y} {fn:Func} (hf:P.funcs[f]?=some fn) (k:∀ W0 F,G (ctxM P fn ⟨Nat.max args.length fn.ntmps,[],none⟩ W0 F rv post y) ⟨.code (bodyOf fn),[],argEnv 0 args,pre.own,pre.gam⟩)
 (hb:fn.body=some (bodyOf fn):=by kernel_rfl):FnY P f args pre rv post y:=by
 intro W0 Γ
 exact Tr.enterM (Nat.max args.length fn.ntmps) hf hb rfl (k W0 Γ).get
section sat
variable {W0 w:World} {Γ:List Asn}
theorem Sat.putObj {b:Nat} {o o':Obj} (h:Sat W0 (Asn.own b o::Γ) w):Sat W0 (Asn.own b o'::Γ) (w.putObj b o'):=by
 have hb:=h.own_at
 have hlt:b<w.heap.size:=(Array.getElem?_eq_some_iff.1 hb).1
 exact h.put rfl rfl rfl World.putObj_size (World.putObj_heap_same hlt) fun c hc=>World.putObj_heap_other hc
end sat
def XS.unD (s:XS) (D j:Nat):XS:=⟨s.pos,s.stk,s.env,s.own,Asn.own D (.deferred none)::delA s.gam j⟩
theorem xrM {P:Program} {fn:Func} {m D:Nat} {W0:World} {F:List Asn} {Y Z:Type} {y y':Y} (e:y'=y) {rv:Y→Z→Value} {post:Y→Z→Rs} {s:XS} (h hr io ia:List Nat) (j:Nat) (z:Z)
 (hq:(s.dq (ctxM P fn ⟨m,[mkD D],none⟩ W0 F rv post y) h).map (·.1)=(s.dq (ctxM P fn ⟨m,[mkD D],none⟩ W0 F rv post y) h).map (·.2):=by kernel_rfl) (hp:s.dp (ctxM P fn ⟨m,[mkD D],none⟩ W0 F rv post y) h=[]:=by kernel_rfl)
 (he:isEnd (s.dr (ctxM P fn ⟨m,[mkD D],none⟩ W0 F rv post y) h)=true:=by kernel_rfl) (hj:nthA (s.dr (ctxM P fn ⟨m,[mkD D],none⟩ W0 F rv post y) h).gam j=Asn.own D (.deferred (some [])):=by kernel_rfl)
 (hrq:oks (resQ (resOf P ((s.dr (ctxM P fn ⟨m,[mkD D],none⟩ W0 F rv post y) h).unD D j) fn.results.toList hr))=okr (resQ (resOf P ((s.dr (ctxM P fn ⟨m,[mkD D],none⟩ W0 F rv post y) h).unD D j) fn.results.toList hr)):=by kernel_rfl)
 (hrv:resV (resOf P ((s.dr (ctxM P fn ⟨m,[mkD D],none⟩ W0 F rv post y) h).unD D j) fn.results.toList hr)=rv y' z:=by kernel_rfl) (hpo:pkO io ((s.dr (ctxM P fn ⟨m,[mkD D],none⟩ W0 F rv post y) h).unD D j).own=(post y' z).own:=by kernel_rfl)
 (hpa:pkA ia ((s.dr (ctxM P fn ⟨m,[mkD D],none⟩ W0 F rv post y) h).unD D j).gam=(post y' z).gam:=by kernel_rfl) :
 G (ctxM P fn ⟨m,[mkD D],none⟩ W0 F rv post y) s:=by
 subst e
 refine ⟨x0 h ?_ hq hp⟩
 generalize s.dr (ctxM P fn ⟨m,[mkD D],none⟩ W0 F rv post y') h=s at *
 obtain ⟨q,hq2,hq3⟩:=oks_ok hrq
 cases ho:resOf P (s.unD D j) fn.results.toList hr with
 |none=>rw [ho] at hq2; cases hq2
 |some x =>
  obtain ⟨vs,q'⟩:=x
  rw [ho] at hq2 hrv
  obtain rfl:=Option.some.inj hq2
  have hres:=resOf_ok (W0:=W0) (F:=F) ho hq3
  have hgo:∀ w,Sat W0 ((s.unD D j).all F) w→Sat W0 ((post y' z).all F) w:=fun w hw=>by
   have h1:=sat_take io ia hw
   rw [hpo,hpa] at h1
   refine h1.imp fun S I hs=>?_
   have h2:Star (owns (post y' z).own++((post y' z).gam++(owns (rsO io (s.unD D j).own)++(rsA ia (s.unD D j).gam++F)))) S I (fun b=>w.heap[b]?):=hs
   have h3:Star ((owns (post y' z).own++(post y' z).gam)++(owns (rsO io (s.unD D j).own)++(rsA ia (s.unD D j).gam++F))) S I (fun b=>w.heap[b]?):=by simpa using h2
   obtain ⟨S1,S2,q1,q2,q3,q4,q5⟩:=h3.append_of
   have h4:Star ((owns (rsO io (s.unD D j).own)++rsA ia (s.unD D j).gam)++F) S2 I (fun b=>w.heap[b]?):=by simpa using q5
   obtain ⟨T1,T2,k1,k2,k3,k4,k5⟩:=h4.append_of
   have:=Star.append (S1:=S1) (S2:=T2) q1 (fun b hb=>q2 b (k2 b hb)) (fun b hs ht=>q3 b hs (k2 b ht)) q4 k5
   simpa [Rs.all] using this
  have fin:∀ a w,EnvOk ⟨m,[mkD D],none⟩ s.env a→Sat W0 (s.all F) w→LeavesInM Fence.wide 0 P fn a.tmps (Back W0 fun r Δ=>∃ z,r=rv y' z∧Δ=(post y' z).all F) a.defers .returning w:=fun a w ha hw=>by
   have hd:a.defers=[mkD D]:=ha.defers
   rw [hd]
   have h1:Sat W0 (s.gam++(owns s.own++F)) w:=Sat.swap hw
   have h2:=sat_nthA (i:=j) h1
   rw [hj] at h2
   have h3:Sat W0 (Asn.own D (.deferred none)::(delA s.gam j++(owns s.own++F))) (w.putObj D (.deferred none)):=Sat.putObj h2
   have h4:Sat W0 ((s.unD D j).all F) (w.putObj D (.deferred none)):=by
    have h5:Sat W0 ((Asn.own D (.deferred none)::delA s.gam j)++(owns s.own++F)) (w.putObj D (.deferred none)):=h3
    exact Sat.swap h5
   have ha2:EnvOk ⟨m,[mkD D],none⟩ (s.unD D j).env a:=ha
   exact ⟨by simp,.inl ⟨D,_,rfl,run_takeDeferred h2.own_at,packed vs,run_mapM_results ha2 h4 fn vs hres,_,_,rfl,⟨z,hrv,rfl⟩,hgo _ h4⟩⟩
  unfold GP
  unfold isEnd at he
  split at he
  · rename_i h1 h2
    rw [h1,h2]
    exact fin
  · rename_i h1 h2
    rw [h1,h2]
    exact fin
  · cases he
theorem xrM0 {P:Program} {fn:Func} {m:Nat} {W0:World} {F:List Asn} {Y Z:Type} {y y':Y} (e:y'=y) {rv:Y→Z→Value} {post:Y→Z→Rs} {s:XS} (h hr io ia:List Nat) (z:Z)
 (hq:(s.dq (ctxM P fn ⟨m,[],none⟩ W0 F rv post y) h).map (·.1)=(s.dq (ctxM P fn ⟨m,[],none⟩ W0 F rv post y) h).map (·.2):=by kernel_rfl) (hp:s.dp (ctxM P fn ⟨m,[],none⟩ W0 F rv post y) h=[]:=by kernel_rfl)
 (he:isEnd (s.dr (ctxM P fn ⟨m,[],none⟩ W0 F rv post y) h)=true:=by kernel_rfl) (hrq:oks (resQ (resOf P (s.dr (ctxM P fn ⟨m,[],none⟩ W0 F rv post y) h) fn.results.toList hr))=okr (resQ (resOf P (s.dr (ctxM P fn ⟨m,[],none⟩ W0 F rv post y) h) fn.results.toList hr)):=by kernel_rfl)
 (hrv:resV (resOf P (s.dr (ctxM P fn ⟨m,[],none⟩ W0 F rv post y) h) fn.results.toList hr)=rv y' z:=by kernel_rfl) (hpo:pkO io (s.dr (ctxM P fn ⟨m,[],none⟩ W0 F rv post y) h).own=(post y' z).own:=by kernel_rfl)
 (hpa:pkA ia (s.dr (ctxM P fn ⟨m,[],none⟩ W0 F rv post y) h).gam=(post y' z).gam:=by kernel_rfl):G (ctxM P fn ⟨m,[],none⟩ W0 F rv post y) s:=by
 subst e
 refine ⟨x0 h ?_ hq hp⟩
 generalize s.dr (ctxM P fn ⟨m,[],none⟩ W0 F rv post y') h=s at *
 obtain ⟨q,hq2,hq3⟩:=oks_ok hrq
 cases ho:resOf P s fn.results.toList hr with
 |none=>rw [ho] at hq2; cases hq2
 |some x =>
  obtain ⟨vs,q'⟩:=x
  rw [ho] at hq2 hrv
  obtain rfl:=Option.some.inj hq2
  have hres:=resOf_ok (W0:=W0) (F:=F) ho hq3
  have hgo:∀ w,Sat W0 (s.all F) w→Sat W0 ((post y' z).all F) w:=fun w hw=>by
   have h1:=sat_take io ia hw
   rw [hpo,hpa] at h1
   refine h1.imp fun S I hs=>?_
   have h2:Star (owns (post y' z).own++((post y' z).gam++(owns (rsO io s.own)++(rsA ia s.gam++F)))) S I (fun b=>w.heap[b]?):=hs
   have h3:Star ((owns (post y' z).own++(post y' z).gam)++(owns (rsO io s.own)++(rsA ia s.gam++F))) S I (fun b=>w.heap[b]?):=by simpa using h2
   obtain ⟨S1,S2,q1,q2,q3,q4,q5⟩:=h3.append_of
   have h4:Star ((owns (rsO io s.own)++rsA ia s.gam)++F) S2 I (fun b=>w.heap[b]?):=by simpa using q5
   obtain ⟨T1,T2,k1,k2,k3,k4,k5⟩:=h4.append_of
   have:=Star.append (S1:=S1) (S2:=T2) q1 (fun b hb=>q2 b (k2 b hb)) (fun b hs ht=>q3 b hs (k2 b ht)) q4 k5
   simpa [Rs.all] using this
  have hR:∃ z',packed vs=rv y' z'∧(post y' z).all F=(post y' z').all F:=⟨z,hrv,rfl⟩
  have key:∀ {a:Act} {w:World},bodyPost P fn (Back W0 fun r Δ=>∃ z,r=rv y' z∧Δ=(post y' z).all F) .ret a w→LeavesInM Fence.wide 0 P fn a.tmps (Back W0 fun r Δ=>∃ z,r=rv y' z∧Δ=(post y' z).all F) a.defers .returning w:=by
   rintro a w ⟨h1,h2⟩
   rw [h1]
   exact h2
  unfold GP
  unfold isEnd at he
  split at he
  · rename_i h1 h2
    rw [h1,h2]
    exact fun a w ha hw=>key (at_back (n:=⟨m,[],none⟩) rfl vs _ hres hgo hR a w ha hw)
  · rename_i h1 h2
    rw [h1,h2]
    exact fun a w ha hw=>key (at_back (n:=⟨m,[],none⟩) rfl vs _ hres hgo hR a w ha hw)
  · cases he
def YOk (P:Program) (W0:World) (F:List Asn) (A:Rs) (l:Nat) (enc:Nat→List Value) (N:Nat) (Ω:Nat→Asn):Prop :=
 ∀ i w,i<N→Sat W0 (owns A.own++((Ω i::A.gam)++F)) w→YieldAt Fence.wide 0 P l (enc i).toArray w fun e w'=>e=.returned (.bool true)∧Sat W0 (owns A.own++((Ω (i+1)::A.gam)++F)) w'
def ItFn (P:Program) (gf:FuncId) (caps:List Value) (A:Rs) (enc:Nat→List Value) (N:Nat):Prop :=
 ∀ W0 F l Ω,YOk P W0 F A l enc N Ω→Tr P gf ((.func (.yield l) #[] #[]::caps).toArray) W0 (owns A.own++((Ω 0::A.gam)++F)) fun _ Δ=>Δ=owns A.own++((Ω N::A.gam)++F)
theorem xfI {P:Program} {gf:FuncId} {caps:List Value} {A:Rs} {enc:Nat→List Value} {N:Nat} {fn:Func} (hf:P.funcs[gf]?=some fn)
 (k:∀ W0 F l Ω,YOk P W0 F A l enc N Ω→G (ctx P fn ⟨Nat.max (caps.length+1) fn.ntmps,[],none⟩ W0 F (fun _:Unit=>.tuple #[]) (fun _=>⟨A.own,Ω N::A.gam⟩)) ⟨.code (bodyOf fn),[],argEnv 0 (.func (.yield l) #[] #[]::caps),A.own,Ω 0::A.gam⟩)
 (hb:fn.body=some (bodyOf fn):=by kernel_rfl):ItFn P gf caps A enc N:=by
 intro W0 F l Ω hY
 have h1:Tr P gf ((.func (.yield l) #[] #[]::caps).toArray) W0 (owns A.own++((Ω 0::A.gam)++F)) fun r Δ=>∃ z:Unit,r=.tuple #[]∧Δ=(⟨A.own,Ω N::A.gam⟩:Rs).all F:=Tr.enter (Nat.max (caps.length+1) fn.ntmps) hf hb rfl (k W0 F l Ω hY).get
 exact h1.mono fun r Δ ⟨_,_,h⟩=>h
theorem xy {X:Ctx} {s:XS} {A:Rs} {l:Nat} {enc:Nat→List Value} {N:Nat} {Ω:Nat→Asn} (hY:YOk X.P X.W0 X.F A l enc N Ω) (i:Nat) (hi:i<N) (h io ia:List Nat)
 (k:G X ((s.dr X h).put io ia (.bool true) ⟨A.own,Ω (i+1)::A.gam⟩))
 (hq:(s.dq X h).map (·.1)=(s.dq X h).map (·.2):=by kernel_rfl) (hp:s.dp X h=[]:=by kernel_rfl) (he:∀ w,(s.dr X h).sem.run X.P w=(Instr.yield l (enc i).toArray).run X.P w:=by intro _; kernel_rfl)
 (hpo:pkO io (s.dr X h).own=A.own:=by kernel_rfl) (hpa:pkA ia (s.dr X h).gam=Ω i::A.gam:=by kernel_rfl) (hro:rsO io (s.dr X h).own=[]:=by kernel_rfl) (hra:rsA ia (s.dr X h).gam=[]:=by kernel_rfl)
 (h1:oks ((s.dr X h).ok1 X.n)=okr ((s.dr X h).ok1 X.n):=by kernel_rfl)
 (h2:oks ((s.dr X h).okP X io ia (.bool true) ⟨A.own,Ω (i+1)::A.gam⟩)=okr ((s.dr X h).okP X io ia (.bool true) ⟨A.own,Ω (i+1)::A.gam⟩):=by kernel_rfl) (h3:(s.dr X h).ol1=(s.dr X h).olP io ia ⟨A.own,Ω (i+1)::A.gam⟩:=by kernel_rfl):G X s:=by
 refine ⟨x0 h ?_ hq hp⟩
 generalize s.dr X h=s at *
 obtain ⟨q,hq,hq2⟩:=oks_ok h1
 refine putZ_ok (Z:=Unit) (fun _=>.bool true) (fun _=>A.own++rsO io s.own) (fun _=>(Ω (i+1)::A.gam)++rsA ia s.gam) (fun _=>upI io ia A.own.length (Ω (i+1)::A.gam).length) hq hq2 (fun _=>oks_ok h2) (fun _=>h3) ?_ (fun _=>k.get)
 intro w hw ro o a K Q kk
 have hw2:=sat_take io ia hw
 rw [hpo,hpa,hro,hra] at hw2
 have hw3:Sat X.W0 (owns A.own++((Ω i::A.gam)++X.F)) w:=hw2
 obtain ⟨fn,tmps,assign,body,hrun,hround⟩:=hY i w hi hw3
 have e:(execOp (ev s.env) (bare s.op.op s.op.type)).run X.P w=(Instr.yield l (enc i).toArray).run X.P w:=he w
 rw [e,hrun]
 refine ⟨fun h=>(by cases h),?_⟩
 have h5:RoundIn Fence.wide 0 X.P l fn tmps assign body w fun
  |.returned v,w''=>K (a.put o.dst v) w''
  |.panicked chain,w''=>Q (.panic chain) a w''
  |.outgrown,_=>LetsOut Q:=hround.mono fun e w' ⟨he,hs⟩=>by
  subst he
  refine kk _ _ w' ⟨(),rfl,rfl⟩ ?_
  rw [hro,hra]
  simpa using hs
 exact ⟨trivial,h5.2⟩
theorem wpK_ro {n n':Fm} {P:Program} {Q0:Exit→Act→World→Prop} (h:n.ro=n'.ro):∀ stk,wpK n P Q0 stk=wpK n' P Q0 stk
 |[]=>rfl
 |.thn c::s=>by unfold wpK; rw [wpK_ro h s]; unfold wpF; rw [h]
 |.blk i::s=>by unfold wpK; rw [wpK_ro h s]
 |.rnd N::s=>by unfold wpK; rw [wpK_ro h s]
section perm
variable {W0 w:World} {A B C:List Asn} {x:Asn}
theorem Sat.pull2 (h:Sat W0 (A++(B++x::C)) w):Sat W0 (x::(A++(B++C))) w:=by
 have h1:Sat W0 ((A++B)++([x]++C)) w:=by simpa using h
 have h2:=h1.swap
 simpa using h2
theorem Sat.push2 (h:Sat W0 (x::(A++(B++C))) w):Sat W0 (A++(B++x::C)) w:=by
 have h1:Sat W0 ([x]++((A++B)++C)) w:=by simpa using h
 have h2:=h1.swap
 simpa using h2
end perm
def codeP:Pos→Code
 |.code c=>c
 |_=>.skip
def rfG:Code→Operand
 |.rangeFunc g _ _ _=>g
 |_=>.const undef
def rfA:Code→Code
 |.rangeFunc _ _ a _=>a
 |_=>.skip
def rfB:Code→Code
 |.rangeFunc _ _ _ b=>b
 |_=>.skip
theorem xrg {X:Ctx} {s:XS} (h io ia jo ja:List Nat) {gf:FuncId} {caps:List Value} {A:Rs} {N:Nat} {Z:Type} (v:Nat→Value) (p:Nat) (hIt:ItFn X.P gf caps A (fun i=>[v i]) N) (e1:Env) (e2:Nat→Env) (Φ:Nat→Z→Rs) (z0:Z)
 (hassign:∀ l F N1 i z,i<N→(∀ a w,EnvOk ⟨X.n.n,[],some l⟩ (e2 i) a→Sat X.W0 (owns (Φ i z).own++((Φ i z).gam++F)) w→N1 a w) →
  G ⟨X.P,⟨X.n.n,[],some l⟩,X.W0,F,fun _ _ _=>False⟩ ⟨.code (rfA (codeP (s.dr X h).pos)),[.rnd N1],(p,v i)::e1,(Φ i z).own,(Φ i z).gam⟩)
 (hbody:∀ l F N2 i z,i<N→(∀ z' a w,Sat X.W0 (owns (Φ (i+1) z').own++((Φ (i+1) z').gam++F)) w→N2 a w) →
  G ⟨X.P,⟨X.n.n,[],some l⟩,X.W0,F,fun _ _ _=>False⟩ ⟨.code (rfB (codeP (s.dr X h).pos)),[.rnd N2],e2 i,(Φ i z).own,(Φ i z).gam⟩)
 (k:∀ z D,G ⟨X.P,⟨X.n.n,mkD D::X.n.ds,none⟩,X.W0,X.F,X.Q0⟩ ⟨.ex .normal,(s.dr X h).stk,(s.dr X h).env,A.own++(Φ N z).own,Asn.own D (.deferred (some []))::(A.gam++(Φ N z).gam)⟩)
 (eg:∀ args w,(callFunc gf args).run X.P w=.ok (.enter gf args) w)
 (hq:(s.dq X h).map (·.1)=(s.dq X h).map (·.2):=by kernel_rfl) (hp:s.dp X h=[]:=by kernel_rfl)
 (hpos:(s.dr X h).pos=.code (.rangeFunc (rfG (codeP (s.dr X h).pos)) #[p] (rfA (codeP (s.dr X h).pos)) (rfB (codeP (s.dr X h).pos))):=by kernel_rfl) (hro:X.n.ro=none:=by kernel_rfl)
 (hg:ev (s.dr X h).env (rfG (codeP (s.dr X h).pos))=.func (.func gf) #[] caps.toArray:=by kernel_rfl) (hgk:knows (s.dr X h).env (rfG (codeP (s.dr X h).pos))=true:=by kernel_rfl)
 (hpn:Nat.blt p X.n.n=true:=by kernel_rfl) (he:looks (s.dr X h).env (slots e1)=vals e1:=by kernel_rfl) (hk:(slots e1).all (fun t=>(lk (s.dr X h).env t).isSome)=true:=by kernel_rfl)
 (hpo:pkO io (s.dr X h).own=A.own:=by kernel_rfl) (hpa:pkA ia (s.dr X h).gam=A.gam:=by kernel_rfl)
 (hqo:pkO jo (rsO io (s.dr X h).own)=(Φ 0 z0).own:=by kernel_rfl) (hqa:pkA ja (rsA ia (s.dr X h).gam)=(Φ 0 z0).gam:=by kernel_rfl):G X s:=by
 refine ⟨x0 h ?_ hq hp⟩
 generalize s.dr X h=s at *
 generalize codeP s.pos=cc at *
 generalize rfG cc=g at *
 generalize rfA cc=assign at *
 generalize rfB cc=body at *
 unfold GP
 rw [hpos]
 simp only
 intro a w ha hw
 unfold wpF
 rw [hro]
 have hsub:=sub_of he hk
 have hga:a.eval g=.func (.func gf) #[] caps.toArray:=(ha.eval hgk).trans hg
 have hpl:p<X.n.n:=by simpa using hpn
 -- the record of the loop
 let B:=owns A.own++A.gam
 refine wpIn_rangeFunc fun fn hfn=>?_
 let rec0:Loop:={ state:=.ready,pending:=none,fn:=fn,tmps:=a.tmps,params:=#[p],assign:=assign,body:=body,defers:=w.heap.size }
 let D:=w.heap.size
 let L:=w.heap.size+1
 let w1:=(w.alloc (.deferred (some []))).alloc (.loop rec0)
 let Ω:Nat→Asn:=fun i=>.ex fun z=>.star (owns (Φ i z).own++((Φ i z).gam++(Asn.own L (.loop rec0)::(Asn.own D (.deferred (some []))::X.F))))
 have toO:∀ {i:Nat} {w:World},Sat X.W0 (owns A.own++((Ω i::A.gam)++[])) w→∃ z,Sat X.W0 (owns (Φ i z).own++((Φ i z).gam++(Asn.own L (.loop rec0)::(Asn.own D (.deferred (some []))::(X.F++B))))) w:=by
  intro i w hw
  have h1:Sat X.W0 (owns A.own++([Ω i]++A.gam)) w:=by simpa using hw
  have h2:Sat X.W0 (Ω i::B) w:=h1.swap
  obtain ⟨z,h3⟩:=h2.ex_of
  exact ⟨z,by simpa [List.append_assoc] using h3.star_of⟩
 have ofO:∀ {i:Nat} {w:World} {z:Z},Sat X.W0 (owns (Φ i z).own++((Φ i z).gam++(Asn.own L (.loop rec0)::(Asn.own D (.deferred (some []))::(X.F++B))))) w→Sat X.W0 (owns A.own++((Ω i::A.gam)++[])) w:=by
  intro i w z hw
  have h1:Sat X.W0 (Ω i::B) w:=Sat.ex_mk z (Sat.star_mk (by simpa [List.append_assoc] using hw))
  have h2:Sat X.W0 ([Ω i]++(owns A.own++A.gam)) w:=h1
  simpa using h2.swap
 -- ahead of the first round
 have hw0:Sat X.W0 (owns A.own++((Ω 0::A.gam)++[])) w1:=by
  have h1:=sat_take io ia hw
  rw [hpo,hpa] at h1
  have h2:Sat X.W0 ((owns (rsO io s.own)++(rsA ia s.gam++X.F))++(B++[])) w:=by
   have:Sat X.W0 (B++((owns (rsO io s.own)++(rsA ia s.gam++X.F))++[])) w:=by simpa [Rs.all,B,List.append_assoc] using h1
   exact this.swap
  have h3:=sat_take (F:=X.F++B) jo ja (show Sat X.W0 (owns (rsO io s.own)++(rsA ia s.gam++(X.F++B))) w by simpa [List.append_assoc] using h2)
  rw [hqo,hqa] at h3
  have h4:Sat X.W0 (owns (Φ 0 z0).own++((Φ 0 z0).gam++(X.F++B))) w:=by
   have h5:Sat X.W0 ((owns (rsO jo (rsO io s.own))++rsA ja (rsA ia s.gam))++((owns (Φ 0 z0).own++(Φ 0 z0).gam)++(X.F++B))) w:=by
    have:Sat X.W0 ((owns (Φ 0 z0).own++(Φ 0 z0).gam)++((owns (rsO jo (rsO io s.own))++rsA ja (rsA ia s.gam))++(X.F++B))) w:=by simpa [Rs.all,List.append_assoc] using h3
    exact this.swap
   have drop:∀ {L M:List Asn},Sat X.W0 (L++M) w→Sat X.W0 M w:=by
    intro L M
    induction L with
    |nil=>exact id
    |cons x L ih=>exact fun h=>ih (Sat.tail h)
   simpa [List.append_assoc] using drop h5
  have h6:=(h4.alloc (.deferred (some []))).alloc (.loop rec0)
  have hD:(w.alloc (.deferred (some []))).heap.size=L:=World.size_alloc ..
  change Sat X.W0 (Asn.own (w.alloc (.deferred (some []))).heap.size (.loop rec0)::Asn.own D (.deferred (some []))::(owns (Φ 0 z0).own++((Φ 0 z0).gam++(X.F++B)))) w1 at h6
  rw [hD] at h6
  have h7:Sat X.W0 (owns (Φ 0 z0).own++((Φ 0 z0).gam++(Asn.own L (.loop rec0)::(Asn.own D (.deferred (some []))::(X.F++B))))) w1:=Sat.push2 (by
   have h8:Sat X.W0 ([Asn.own L (.loop rec0)]++([Asn.own D (.deferred (some []))]++(owns (Φ 0 z0).own++((Φ 0 z0).gam++(X.F++B))))) w1:=h6
   have h9:Sat X.W0 ([Asn.own D (.deferred (some []))]++([Asn.own L (.loop rec0)]++(owns (Φ 0 z0).own++((Φ 0 z0).gam++(X.F++B))))) w1:=h8.swap
   have h10:Sat X.W0 (([Asn.own L (.loop rec0)]++owns (Φ 0 z0).own)++((Φ 0 z0).gam++Asn.own D (.deferred (some []))::(X.F++B))) w1:=Sat.push2 (A:=[Asn.own L (.loop rec0)]++owns (Φ 0 z0).own) (by simpa using h9)
   simpa using h10)
  exact ofO h7
 -- the rounds
 have hY:YOk X.P X.W0 [] A L (fun i=>[v i]) N Ω:=by
  intro i w' hi hw'
  obtain ⟨z,hz⟩:=toO hw'
  have hL:=(Sat.pull2 hz).own_at
  have hy:=run_yield (P:=X.P) (args:=#[v i]) hL rfl
  refine ⟨_,_,_,_,hy,roundIn_of_wpIn trivial ?_⟩
  have ha':EnvOk ⟨X.n.n,[],some L⟩ ((p,v i)::e1) { tmps:=a.tmps.setIfInBounds p (v i),defers:=[] }:=by
   have h1:=(ha.sub hsub).put hpl (v i)
   exact ⟨h1.size,rfl,h1.get⟩
  have hA:=(hassign L (Asn.own L (.loop rec0)::(Asn.own D (.deferred (some []))::(X.F++B))) (fun a₁ w₁=>∃ w₂,(Instr.beginRound L).run X.P w₁=.ok () w₂∧body.wpIn (Fence.wide.inRound L) 0 X.P (roundPost X.P L fun e w'=>e=.returned (.bool true)∧Sat X.W0 (owns A.own++((Ω (i+1)::A.gam)++[])) w') a₁ w₂) i z hi ?_).get
  · refine hA _ w' ?_ hz
    have h1:EnvOk ⟨X.n.n,[],some L⟩ ((p,v i)::e1) { tmps:=a.tmps.setIfInBounds p (v i),defers:=[] }:=ha'
    have hfold:(rec0.params.zip #[v i]).foldl (fun tmps (x:Nat×Value)=>match x with | (t,a)=>tmps.setIfInBounds t a) rec0.tmps=a.tmps.setIfInBounds p (v i):=by simp [rec0]
    exact hfold.symm▸h1
  · intro a₁ w₁ ha₁ hw₁
    have h1:=Sat.pull2 hw₁
    have hL1:=h1.own_at
    refine ⟨_,run_beginRound hL1 rfl,?_⟩
    have h2:Sat X.W0 (Asn.own L (.loop { rec0 with state:=.busy })::(owns (Φ i z).own++((Φ i z).gam++(Asn.own D (.deferred (some []))::(X.F++B))))) (w₁.putObj L (.loop { rec0 with state:=.busy })):=Sat.putObj h1
    have h3:=Sat.push2 h2
    have hB:=(hbody L (Asn.own L (.loop { rec0 with state:=.busy })::(Asn.own D (.deferred (some []))::(X.F++B))) (fun a₂ w₂=>∃ v w',(Instr.endRound L none).run X.P w₂=.ok v w'∧(Ending.returned v=.returned (.bool true)∧Sat X.W0 (owns A.own++((Ω (i+1)::A.gam)++[])) w')) i z hi ?_).get
    · have hB2:=hB a₁ _ ha₁ h3
      refine wpIn_mono hB2 fun e a₂ w₂ hq=>?_
      cases e with
      |normal=>exact hq
      |_=>exact hq.elim
    · intro z' a₂ w₂ hw₂
      have h4:=Sat.pull2 hw₂
      have hL2:=h4.own_at
      refine ⟨_,_,run_endRound none hL2,rfl,?_⟩
      have h5:Sat X.W0 (Asn.own L (.loop rec0)::(owns (Φ (i+1) z').own++((Φ (i+1) z').gam++(Asn.own D (.deferred (some []))::(X.F++B))))) (w₂.putObj L (.loop rec0)):=Sat.putObj h4
      exact ofO (Sat.push2 h5)
 have hT:=hIt X.W0 [] L Ω hY w1 hw0
 refine ⟨L,[mkD D],w1,{ target:=.fn (.func gf) caps.toArray,args:=#[.func (.yield L) #[] #[]] },w1,gf,(.func (.yield L) #[] #[]::caps).toArray,w1,run_enterLoop_outer fn a.tmps #[p] assign body,?_,fun _ _=>trivial,?_,fun h=>(by cases h),callsIn_fen (hT.mono ?_)⟩
 · simp only [resolve,hga]
   simp [go_sem]
 · simp [invoke,go_sem,eg]
 · rintro e w' ⟨r,Γ',rfl,rfl,hs⟩
   obtain ⟨z,hz⟩:=toO hs
   have h1:=Sat.pull2 hz
   have hL:=h1.own_at
   refine ⟨none,_,run_endLoop hL (by simp [rec0]),?_⟩
   have h2:Sat X.W0 (Asn.own L (.loop { rec0 with state:=.exhausted })::(owns (Φ N z).own++((Φ N z).gam++(Asn.own D (.deferred (some []))::(X.F++B))))) (w'.putObj L (.loop { rec0 with state:=.exhausted })):=Sat.putObj h1
   have h3:=Sat.pull2 h2.tail
   have hk2:=(k z D).get
   unfold GP at hk2
   simp only at hk2
   show wpK X.n X.P X.Q0 s.stk .normal _ _
   rw [wpK_ro (n':=⟨X.n.n,mkD D::X.n.ds,none⟩) hro]
   refine hk2 _ _ ⟨ha.size,?_,ha.get⟩ ?_
   · simp [ha.defers]
   · have perm:∀ {d b e F a c:List Asn} {w:World},Sat X.W0 (d++(b++(e++(F++(a++c))))) w→Sat X.W0 (a++(b++(d++(c++(e++F))))) w:=by
      intro d b e F a c w h0
      have h1:Sat X.W0 (F++((d++(b++e))++(a++c))) w:=Sat.swap (by simpa [List.append_assoc] using h0)
      have h2:Sat X.W0 (e++((F++(d++b))++(a++c))) w:=Sat.swap (by simpa [List.append_assoc] using h1)
      have h3:Sat X.W0 (c++((e++(F++(d++(b++a))))++[])) w:=Sat.swap (by simpa [List.append_assoc] using h2)
      have h4:Sat X.W0 (d++((c++(e++F))++(b++a))) w:=Sat.swap (by simpa [List.append_assoc] using h3)
      have h5:Sat X.W0 (b++((d++(c++(e++F)))++a)) w:=Sat.swap (by simpa [List.append_assoc] using h4)
      have h6:Sat X.W0 (a++((b++(d++(c++(e++F))))++[])) w:=Sat.swap (by simpa [List.append_assoc] using h5)
      simpa [List.append_assoc] using h6
     have h4:=perm (d:=[Asn.own D (.deferred (some []))]) (b:=owns (Φ N z).own) (e:=(Φ N z).gam) (F:=X.F) (a:=owns A.own) (c:=A.gam) (by simpa [B,List.append_assoc] using h3)
     unfold XS.all
     simp only [owns_append]
     simpa [List.append_assoc] using h4
theorem xrgM {P:Program} {fn:Func} {m:Nat} {W0:World} {F:List Asn} {Y Z0:Type} {rv:Y→Z0→Value} {post:Y→Z0→Rs} {y:Y} {s:XS} (h io ia jo ja:List Nat) {gf:FuncId} {caps:List Value} {A:Rs} {N:Nat} {Z:Type} (v:Nat→Value) (p:Nat) (hIt:ItFn P gf caps A (fun i=>[v i]) N) (e1:Env) (e2:Nat→Env) (Φ:Nat→Z→Rs) (z0:Z)
 (hassign:∀ l F N1 i z,i<N→(∀ a w,EnvOk ⟨m,[],some l⟩ (e2 i) a→Sat W0 (owns (Φ i z).own++((Φ i z).gam++F)) w→N1 a w) →
  G ⟨P,⟨m,[],some l⟩,W0,F,fun _ _ _=>False⟩ ⟨.code (rfA (codeP (s.dr (ctxM P fn ⟨m,[],none⟩ W0 F rv post y) h).pos)),[.rnd N1],(p,v i)::e1,(Φ i z).own,(Φ i z).gam⟩)
 (hbody:∀ l F N2 i z,i<N→(∀ z' a w,Sat W0 (owns (Φ (i+1) z').own++((Φ (i+1) z').gam++F)) w→N2 a w) →
  G ⟨P,⟨m,[],some l⟩,W0,F,fun _ _ _=>False⟩ ⟨.code (rfB (codeP (s.dr (ctxM P fn ⟨m,[],none⟩ W0 F rv post y) h).pos)),[.rnd N2],e2 i,(Φ i z).own,(Φ i z).gam⟩)
 (k:∀ z D,G (ctxM P fn ⟨m,[mkD D],none⟩ W0 F rv post y) ⟨.ex .normal,(s.dr (ctxM P fn ⟨m,[],none⟩ W0 F rv post y) h).stk,(s.dr (ctxM P fn ⟨m,[],none⟩ W0 F rv post y) h).env,A.own++(Φ N z).own,Asn.own D (.deferred (some []))::(A.gam++(Φ N z).gam)⟩)
 (eg:∀ args w,(callFunc gf args).run P w=.ok (.enter gf args) w)
 (hq:(s.dq (ctxM P fn ⟨m,[],none⟩ W0 F rv post y) h).map (·.1)=(s.dq (ctxM P fn ⟨m,[],none⟩ W0 F rv post y) h).map (·.2):=by kernel_rfl) (hp:s.dp (ctxM P fn ⟨m,[],none⟩ W0 F rv post y) h=[]:=by kernel_rfl)
 (hpos:(s.dr (ctxM P fn ⟨m,[],none⟩ W0 F rv post y) h).pos=.code (.rangeFunc (rfG (codeP (s.dr (ctxM P fn ⟨m,[],none⟩ W0 F rv post y) h).pos)) #[p] (rfA (codeP (s.dr (ctxM P fn ⟨m,[],none⟩ W0 F rv post y) h).pos)) (rfB (codeP (s.dr (ctxM P fn ⟨m,[],none⟩ W0 F rv post y) h).pos))):=by kernel_rfl)
 (hg:ev (s.dr (ctxM P fn ⟨m,[],none⟩ W0 F rv post y) h).env (rfG (codeP (s.dr (ctxM P fn ⟨m,[],none⟩ W0 F rv post y) h).pos))=.func (.func gf) #[] caps.toArray:=by kernel_rfl) (hgk:knows (s.dr (ctxM P fn ⟨m,[],none⟩ W0 F rv post y) h).env (rfG (codeP (s.dr (ctxM P fn ⟨m,[],none⟩ W0 F rv post y) h).pos))=true:=by kernel_rfl)
 (hpn:Nat.blt p m=true:=by kernel_rfl) (he:looks (s.dr (ctxM P fn ⟨m,[],none⟩ W0 F rv post y) h).env (slots e1)=vals e1:=by kernel_rfl) (hk:(slots e1).all (fun t=>(lk (s.dr (ctxM P fn ⟨m,[],none⟩ W0 F rv post y) h).env t).isSome)=true:=by kernel_rfl)
 (hpo:pkO io (s.dr (ctxM P fn ⟨m,[],none⟩ W0 F rv post y) h).own=A.own:=by kernel_rfl) (hpa:pkA ia (s.dr (ctxM P fn ⟨m,[],none⟩ W0 F rv post y) h).gam=A.gam:=by kernel_rfl)
 (hqo:pkO jo (rsO io (s.dr (ctxM P fn ⟨m,[],none⟩ W0 F rv post y) h).own)=(Φ 0 z0).own:=by kernel_rfl) (hqa:pkA ja (rsA ia (s.dr (ctxM P fn ⟨m,[],none⟩ W0 F rv post y) h).gam)=(Φ 0 z0).gam:=by kernel_rfl):G (ctxM P fn ⟨m,[],none⟩ W0 F rv post y) s :=
 xrg (X:=(ctxM P fn ⟨m,[],none⟩ W0 F rv post y)) h io ia jo ja v p hIt e1 e2 Φ z0 hassign hbody k eg hq hp hpos rfl hg hgk hpn he hk hpo hpa hqo hqa
end
section
open Go Go.Proofs Go.Shelf
def layKeys_ren:Go.Shelf.Ren:=⟨fun | 7=>225 | 10=>240 | n=>n,fun | 23=>255 | 26=>3 | 3=>322 | 28=>112 | 0=>0 | 27=>111 | 33=>119 | 4=>4 | n=>n,fun | n=>n⟩
theorem layKeys:Go.Proofs.SlLaysZI.n7 Tryz.prog layKeys_ren:={
 mixed:=by kernel_rfl
 f7:=⟨Tryz.f225.name,by decide,Tryz.func225.trans (congrArg some (by kernel_rfl))⟩
 f10:=⟨Tryz.f240.name,by decide,Tryz.func240.trans (congrArg some (by kernel_rfl))⟩
 t0:=Tryz.underlying0
 a0:=Tryz.isAgg0
 z0:=Tryz.sizeOf0
 v0:=Tryz.zeroValue0
 t4:=Tryz.underlying4
 a4:=Tryz.isAgg4
 z4:=Tryz.sizeOf4
 v4:=Tryz.zeroValue4
 t23:=Tryz.underlying255
 a23:=Tryz.isAgg255
 z23:=Tryz.sizeOf255
 v23:=Tryz.zeroValue255
 t26:=Tryz.underlying3
 a26:=Tryz.isAgg3
 z26:=Tryz.sizeOf3
 v26:=Tryz.zeroValue3
 t27:=Tryz.underlying111
 a27:=Tryz.isAgg111
 z27:=Tryz.sizeOf111
 v27:=Tryz.zeroValue111
 t28:=Tryz.underlying112
 a28:=Tryz.isAgg112
 z28:=Tryz.sizeOf112
 v28:=Tryz.zeroValue112
 t33:=Tryz.underlying119
 a33:=Tryz.isAgg119
 z33:=Tryz.sizeOf119
 v33:=Tryz.zeroValue119 }
def laySorted_ren:Go.Shelf.Ren:=⟨fun | 6=>50 | 8=>91 | 9=>92 | 11=>130 | 13=>132 | 12=>131 | 23=>174 | 24=>175 | 14=>165 | 15=>166 | 16=>167 | 17=>168 | 18=>169 | 19=>170 | 20=>171 | 21=>172 | 22=>173 | 25=>207 | 26=>208 | 27=>209 | 28=>210 | 29=>211 | 30=>212 | 31=>234 | n=>n,fun | 26=>3 | 28=>112 | 24=>22 | 0=>0 | 3=>3 | 37=>220 | 48=>266 | 50=>268 | 4=>4 | 40=>260 | 39=>259 | 45=>241 | 5=>5 | 9=>9 | 51=>306 | 55=>310 | 57=>326 | 58=>71 | 33=>119 | n=>n,fun | n=>n⟩
theorem laySorted:Go.Proofs.SlLaysZI.n6 Tryz.prog laySorted_ren:={
 mixed:=by kernel_rfl
 f6:=⟨Tryz.f50.name,by decide,Tryz.func50.trans (congrArg some (by kernel_rfl))⟩
 f8:=⟨Tryz.f91.name,by decide,Tryz.func91.trans (congrArg some (by kernel_rfl))⟩
 f11:=⟨Tryz.f130.name,by decide,Tryz.func130.trans (congrArg some (by kernel_rfl))⟩
 t0:=Tryz.underlying0
 a0:=Tryz.isAgg0
 z0:=Tryz.sizeOf0
 v0:=Tryz.zeroValue0
 t24:=Tryz.underlying22
 a24:=Tryz.isAgg22
 z24:=Tryz.sizeOf22
 v24:=Tryz.zeroValue22
 t26:=Tryz.underlying3
 a26:=Tryz.isAgg3
 z26:=Tryz.sizeOf3
 v26:=Tryz.zeroValue3
 t28:=Tryz.underlying112
 a28:=Tryz.isAgg112
 z28:=Tryz.sizeOf112
 v28:=Tryz.zeroValue112
 i26:=by kernel_rfl }
def laySort_ren:Go.Shelf.Ren:=⟨fun | 5=>92 | 8=>132 | 7=>131 | 19=>174 | 20=>175 | 10=>165 | 11=>166 | 12=>167 | 13=>168 | 14=>169 | 15=>170 | 16=>171 | 17=>172 | 18=>173 | 30=>207 | 31=>208 | 32=>209 | 33=>210 | 34=>211 | 35=>212 | 40=>234 | n=>n,fun | 23=>22 | 25=>3 | 3=>3 | 32=>220 | 22=>22 | 0=>0 | 44=>266 | 46=>268 | 4=>4 | 36=>260 | 35=>259 | 41=>241 | 5=>5 | 9=>9 | 53=>306 | 57=>310 | 63=>326 | 64=>71 | n=>n,fun | n=>n⟩
theorem laySort:Go.Proofs.SlLaysM.n5 Tryz.prog laySort_ren:={
 mixed:=by kernel_rfl
 f5:=⟨Tryz.f92.name,by decide,Tryz.func92.trans (congrArg some (by kernel_rfl))⟩
 f7:=⟨Tryz.f131.name,by decide,Tryz.func131.trans (congrArg some (by kernel_rfl))⟩
 f8:=Tryz.func132.trans (congrArg some (by kernel_rfl))
 f10:=⟨Tryz.f165.name,by decide,Tryz.func165.trans (congrArg some (by kernel_rfl))⟩
 f11:=⟨Tryz.f166.name,by decide,Tryz.func166.trans (congrArg some (by kernel_rfl))⟩
 f12:=⟨Tryz.f167.name,by decide,Tryz.func167.trans (congrArg some (by kernel_rfl))⟩
 f13:=⟨Tryz.f168.name,by decide,Tryz.func168.trans (congrArg some (by kernel_rfl))⟩
 f14:=⟨Tryz.f169.name,by decide,Tryz.func169.trans (congrArg some (by kernel_rfl))⟩
 f15:=⟨Tryz.f170.name,by decide,Tryz.func170.trans (congrArg some (by kernel_rfl))⟩
 f16:=⟨Tryz.f171.name,by decide,Tryz.func171.trans (congrArg some (by kernel_rfl))⟩
 f17:=⟨Tryz.f172.name,by decide,Tryz.func172.trans (congrArg some (by kernel_rfl))⟩
 f18:=⟨Tryz.f173.name,by decide,Tryz.func173.trans (congrArg some (by kernel_rfl))⟩
 f19:=Tryz.func174.trans (congrArg some (by kernel_rfl))
 f20:=Tryz.func175.trans (congrArg some (by kernel_rfl))
 f30:=⟨Tryz.f207.name,by decide,Tryz.func207.trans (congrArg some (by kernel_rfl))⟩
 f31:=Tryz.func208.trans (congrArg some (by kernel_rfl))
 f32:=Tryz.func209.trans (congrArg some (by kernel_rfl))
 f33:=⟨Tryz.f210.name,by decide,Tryz.func210.trans (congrArg some (by kernel_rfl))⟩
 f34:=⟨Tryz.f211.name,by decide,Tryz.func211.trans (congrArg some (by kernel_rfl))⟩
 f35:=⟨Tryz.f212.name,by decide,Tryz.func212.trans (congrArg some (by kernel_rfl))⟩
 f40:=⟨Tryz.f234.name,by decide,Tryz.func234.trans (congrArg some (by kernel_rfl))⟩
 t0:=Tryz.underlying0
 a0:=Tryz.isAgg0
 z0:=Tryz.sizeOf0
 v0:=Tryz.zeroValue0
 t3:=Tryz.underlying3
 a3:=Tryz.isAgg3
 z3:=Tryz.sizeOf3
 v3:=Tryz.zeroValue3
 t4:=Tryz.underlying4
 a4:=Tryz.isAgg4
 z4:=Tryz.sizeOf4
 v4:=Tryz.zeroValue4
 t5:=Tryz.underlying5
 a5:=Tryz.isAgg5
 z5:=Tryz.sizeOf5
 v5:=Tryz.zeroValue5
 t9:=Tryz.underlying9
 a9:=Tryz.isAgg9
 z9:=Tryz.sizeOf9
 v9:=Tryz.zeroValue9
 t22:=Tryz.underlying22
 a22:=Tryz.isAgg22
 z22:=Tryz.sizeOf22
 v22:=Tryz.zeroValue22
 t23:=Tryz.underlying22
 a23:=Tryz.isAgg22
 z23:=Tryz.sizeOf22
 v23:=Tryz.zeroValue22
 t25:=Tryz.underlying3
 a25:=Tryz.isAgg3
 z25:=Tryz.sizeOf3
 v25:=Tryz.zeroValue3
 t32:=Tryz.underlying220
 a32:=Tryz.isAgg220
 z32:=Tryz.sizeOf220
 v32:=Tryz.zeroValue220
 t35:=Tryz.underlying259
 a35:=Tryz.isAgg259
 z35:=Tryz.sizeOf259
 v35:=Tryz.zeroValue259
 t36:=Tryz.underlying260
 a36:=Tryz.isAgg260
 z36:=Tryz.sizeOf260
 v36:=Tryz.zeroValue260
 t41:=Tryz.underlying241
 a41:=Tryz.isAgg241
 z41:=Tryz.sizeOf241
 v41:=Tryz.zeroValue241
 t44:=Tryz.underlying266
 a44:=Tryz.isAgg266
 z44:=Tryz.sizeOf266
 v44:=Tryz.zeroValue266
 t46:=Tryz.underlying268
 a46:=Tryz.isAgg268
 z46:=Tryz.sizeOf268
 v46:=Tryz.zeroValue268
 t53:=Tryz.underlying306
 a53:=Tryz.isAgg306
 z53:=Tryz.sizeOf306
 v53:=Tryz.zeroValue306
 t57:=Tryz.underlying310
 a57:=Tryz.isAgg310
 z57:=Tryz.sizeOf310
 v57:=Tryz.zeroValue310
 t63:=Tryz.underlying326
 a63:=Tryz.isAgg326
 z63:=Tryz.sizeOf326
 v63:=Tryz.zeroValue326
 t64:=Tryz.underlying71
 a64:=Tryz.isAgg71
 z64:=Tryz.sizeOf71
 v64:=Tryz.zeroValue71 }
end
section
open Go Go.RowKit
section
variable {W0:World} {Γ Γ':List Asn}
theorem Sat.under {w w':World} (h:Sat W0 Γ w) (hb:Below w.heap.size w w'):Sat W0 Γ w':=by
 obtain ⟨S,I,h1,d1,d2,d3,d4,d5⟩:=h
 exact ⟨S,I,h1.loc fun b hs=>hb.block b (hs.elim (d2 b) (d3 b)),d1,fun b hs=>Nat.lt_of_lt_of_le (d2 b hs) hb.size,fun b hi=>Nat.lt_of_lt_of_le (d3 b hi) hb.size,d4,d5.trans (hb.mono d5.size)⟩
theorem Sat.newer {w w':World} (h:Sat W0 Γ w) (hb:Below w.heap.size w w') {g:Nat} {o:Obj} (hg:w.heap.size≤g) (ho:w'.heap[g]?=some o):Sat W0 (Asn.own g o::Γ) w':=by
 obtain ⟨S,I,h1,d1,d2,d3,d4,d5⟩:=h
 have hl:g<w'.heap.size:=(Array.getElem?_eq_some_iff.1 ho).1
 refine ⟨fun b=>S b∨b=g,I,⟨fun b=>b=g,S,fun _ h=>.inr h,fun _ h=>.inl h,?_,⟨rfl,ho⟩,h1.loc fun b hs=>hb.block b (hs.elim (d2 b) (d3 b))⟩,?_,?_,fun b hi=>Nat.lt_of_lt_of_le (d3 b hi) hb.size,d4,d5.trans (hb.mono d5.size)⟩
 · rintro b rfl hs
   exact absurd (d2 _ hs) (by omega)
 · rintro b (hs | rfl) hi
   · exact d1 b hs hi
   · exact absurd (d3 _ hi) (by omega)
 · rintro b (hs | rfl)
   · exact Nat.lt_of_lt_of_le (d2 b hs) hb.size
   · exact hl
theorem lies_of_take {c:Array Value} {vs:List Value} (h:c.toList.take vs.length=vs):LiesAt c 0 vs:=by
 intro j v hj
 have hlt:j<vs.length:=(List.getElem?_eq_some_iff.1 hj).1
 rw [← h,List.getElem?_take_of_lt hlt,Array.getElem?_toList] at hj
 rw [Nat.zero_add]; exact hj
theorem Sat.row {w w':World} {e:TypeId} {v:Value} {xs:List Int} (h:Sat W0 Γ w) (hb:Below w.heap.size w w') (hr:w'.ownsRow w.heap.size e 1 v xs.length (xs.map fun x=>.int .i64 x)) :
 ∃ a cap,v=.slice a xs.length cap∧Sat W0 (RowsA 1 a cap (ints xs)::Γ) w':=by
 obtain ⟨_,⟨rfl,hn⟩ | ⟨g,cap,cur,rfl,hg,hc,hn,_,hs,ht⟩⟩:=hr
 · obtain rfl:xs=[]:=List.eq_nil_of_length_eq_zero hn
   exact ⟨none,0,rfl,RowsA.none_mk (h.under hb)⟩
 · refine ⟨_,cap,rfl,(h.newer hb hg hc).head_imp ?_⟩
   rintro S I h' ⟨q1,q2⟩
   refine ⟨ints_rows xs,.inr ⟨g,0,cur,e,rfl,q1,q2,by simpa using hn,by omega,?_⟩⟩
   rw [ints_flatten]
   refine lies_of_take ?_
   simpa using ht
theorem RowsA.block {a:Option Addr} {cap:Nat} {xs:List Int} {w:World} (h:Sat W0 (RowsA 1 a cap (ints xs)::Γ) w) :
 (xs=[]∧cap=0)∨∃ b off c T,a=some ⟨b,off,none⟩∧xs.length≤cap∧off+cap*1≤c.size∧LiesAt c off (xs.map fun x=>.int .i64 x)∧Sat W0 (Asn.own b (.cells c T (0,0))::Γ) w:=by
 obtain ⟨S,I,⟨S1,S2,h1,h2,h3,⟨_,h4⟩,h5⟩,r⟩:=h
 rcases h4 with ⟨q1,q2⟩ | ⟨b,off,c,T,rfl,q1,q2,q3,q4,q5⟩
 · exact .inl ⟨ints_nil q1,q2⟩
 · exact .inr ⟨b,off,c,T,rfl,by simpa using q3,q4,by rw [← ints_flatten]; exact q5,S,I,⟨S1,S2,h1,h2,h3,⟨q1,q2⟩,h5⟩,r⟩
theorem putCells_lies {c:Array Value} {off:Nat} {ys:List Int} (hs:off+ys.length≤c.size):LiesAt (Go.Sort.putCells (Value.int .i64) off ys.toArray c) off (ys.map fun x=>.int .i64 x):=by
 intro j v hj
 have hlt:j<ys.length:=by have:=(List.getElem?_eq_some_iff.1 hj).1; simpa using this
 have h2:off+j<c.size:=by omega
 simp only [List.getElem?_map,List.getElem?_eq_getElem hlt,Option.map_some,Option.some.injEq] at hj
 subst hj
 unfold Go.Sort.putCells
 rw [Array.getElem?_mapIdx,Array.getElem?_eq_getElem h2]
 simp [hlt]
theorem Sat.sorted {w:World} {a:Option Addr} {cap b off n:Nat} {xs ys:List Int} {c:Array Value} {T:TypeId} {os:Array Obj} (hl:ys.length=xs.length) (ha:a=some ⟨b,off,none⟩) (h1:xs.length≤cap) (h2:off+cap*1≤c.size)
 (h:Sat W0 (Asn.own b (.cells c T (0,0))::Γ) w):Sat W0 (RowsA 1 a cap (ints ys)::Γ) (Go.Sort.grow (Go.Sort.putRow (Value.int .i64) (Go.Sort.ahead w n) b off ys.toArray) os):=by
 have hb:=h.own_at
 have hlt:b<w.heap.size:=(Array.getElem?_eq_some_iff.1 hb).1
 have hp:Sat W0 (Asn.own b (.cells (Go.Sort.putCells (Value.int .i64) off ys.toArray c) T (0,0))::Γ) (Go.Sort.putRow (Value.int .i64) (Go.Sort.ahead w n) b off ys.toArray):=by
  refine h.put rfl rfl rfl (by simp [Go.Sort.putRow,Go.Sort.mapBlock,Go.Sort.ahead]) ?_ fun q hq=>?_
  · simp [Go.Sort.putRow,Go.Sort.mapBlock,Go.Sort.ahead,Array.getElem?_modify,hb,Go.Sort.onCells]
  · simp [Go.Sort.putRow,Go.Sort.mapBlock,Go.Sort.ahead,Array.getElem?_modify,Ne.symm hq]
 have hg:Below (Go.Sort.putRow (Value.int .i64) (Go.Sort.ahead w n) b off ys.toArray).heap.size (Go.Sort.putRow (Value.int .i64) (Go.Sort.ahead w n) b off ys.toArray) (Go.Sort.grow (Go.Sort.putRow (Value.int .i64) (Go.Sort.ahead w n) b off ys.toArray) os) :=
  ⟨rfl,rfl,rfl,by simp [Go.Sort.grow],fun k hk=>by simp only [Go.Sort.grow]; rw [Array.getElem?_append_left hk]⟩
 refine (hp.under hg).head_imp ?_
 rintro S I h' ⟨q1,q2⟩
 refine ⟨ints_rows ys,.inr ⟨b,off,_,T,ha,q1,q2,by simp [hl]; exact h1,by simp [Go.Sort.putCells]; omega,?_⟩⟩
 rw [ints_flatten]
 exact putCells_lies (by omega)
theorem holds_of_lies {w:World} {b off:Nat} {c:Array Value} {T:TypeId} {xs:List Int} (hb:w.heap[b]?=some (.cells c T (0,0))) (h:LiesAt c off (xs.map fun x=>.int .i64 x)):Go.Sort.Holds (Value.int .i64) w b off xs.toArray:=by
 intro j hj
 have hj':j<xs.length:=by simpa using hj
 refine ⟨?_,by simp [World.frozen?,hb]⟩
 have:=h j (.int .i64 xs[j]) (by simp [hj'])
 simp [World.cell?,hb,this,hj']
end
def srt (xs:List Int):List Int:=xs.mergeSort leI
theorem srt_length (xs:List Int):(srt xs).length=xs.length:=List.length_mergeSort ..
section
variable {W0:World} {Γ Γ':List Asn}
theorem sortI_tr {a:Option Addr} {cap:Nat} {xs:List Int} (hx:xs.length≤1099511627776) :
 Tr Tryz.prog 92 #[.slice a xs.length cap] W0 (RowsA 1 a cap (ints xs)::Γ) (fun r Δ=>r=.tuple #[]∧Δ=RowsA 1 a cap (ints (srt xs))::Γ):=by
 intro w hw
 rcases RowsA.block hw with ⟨rfl,rfl⟩ | ⟨b,off,c,T,ha,h1,h2,h3,h4⟩
 · refine (AnyM.slices_Sort_int_none laySort a 0 w).mono ?_
   rintro e w' ⟨rfl,rfl⟩
   exact ⟨_,_,rfl,⟨rfl,rfl⟩,by rw [show srt []=[] from by simp [srt]]; exact hw⟩
 · subst ha
   have hb:=h4.own_at
   refine (AnyM.slices_Sort_int laySort b off cap xs w (holds_of_lies hb h3) (Array.getElem?_eq_some_iff.1 hb).1 (by omega)).mono ?_
   rintro e w' ⟨rfl,n,os,rfl⟩
   exact ⟨_,_,rfl,⟨rfl,rfl⟩,Sat.sorted (srt_length xs) rfl h1 h2 h4⟩
end
section
variable {W0:World} {Γ Γ':List Asn}
def keyL (x:KV):Lit×DataW Unit:=(.int .i64 x.key,.nil)
theorem key_reads {P:Program} {k:TypeId} (hk:P.underlying k=some (.int .i64)) (x:KV) (hx:inR x.key∧x.key≠-9223372036854775808):Go.WideElems.rd P k (fun _=>some ((.nil:DataW Unit),[])) (kvE x)=some (keyL x):=by
 have hw:(Lit.int .i64 x.key).wf=true:=by
  obtain ⟨h1,_⟩:=hx
  unfold inR at h1
  show (decide (IntKind.i64.min≤x.key) && decide (x.key≤IntKind.i64.max))=true
  rw [Bool.and_eq_true]
  exact ⟨decide_eq_true (by show (-9223372036854775808:Int)≤_; omega),decide_eq_true (by show _≤(9223372036854775807:Int); omega)⟩
 have:keyOf P k (Value.int .i64 x.key)=some (.int .i64 x.key):=by simp [keyOf,hk,mapKey,hw]
 exact Go.WideElems.rd_mk (R:=fun _=>some ((.nil:DataW Unit),[])) (key:=.int .i64 x.key) (val:=x.val) (yv:=(.nil,[])) (born:=x.born) this rfl
theorem map_owned {P:Program} {k:TypeId} {w:World} {b:Nat} {kvs:List KV} {clock:Nat} (hk:P.underlying k=some (.int .i64)) (hb:w.heap[b]?=some (mapO kvs clock)) (hs:stamps kvs clock)
 (hl:kvs.length≤1099511627776) (hn:(kvs.map KV.key).Nodup) (hr:∀ x∈kvs,inR x.key∧x.key≠-9223372036854775808) :
 w.ownsMap P k (fun _=>some ((.nil:DataW Unit),[])) b kvs.length (.map ((kvs.map keyL).foldr DataW.insert [])):=by
 refine ⟨(kvs.map kvE).toArray,clock,hb,⟨?_,⟨?_,?_,?_⟩,?_⟩,by simp,?_⟩
 · simp [maxLen]; omega
 · intro x hx
   obtain ⟨y,hy,rfl⟩:=List.mem_map.1 (by simpa using hx)
   exact hs.1 y hy
 · simpa [Function.comp_def,kvE] using hs.2
 · have:(kvs.map kvE).map (·.key)=(kvs.map KV.key).map (Value.int .i64):=by simp [Function.comp_def,kvE]
   show (((kvs.map kvE).toArray.toList).map (·.key)).Nodup
   rw [List.toList_toArray,this]
   exact hn.map _ (fun a b hab h=>hab (by injection h))
 · intro x hx
   obtain ⟨y,hy,rfl⟩:=List.mem_map.1 (by simpa using hx)
   exact ⟨_,key_reads hk y (hr y hy)⟩
 · congr 2
   rw [List.toList_toArray,List.map_map]
   refine List.map_congr_left fun x hx=>?_
   exact (Go.WideElems.rg_of (key_reads hk x (hr x hx))).symm
theorem keys_perm {kvs:List KV}:(intKeys (.map ((kvs.map keyL).foldr DataW.insert []):DataW Unit)).Perm (kvs.map KV.key):=by
 have h:=(Go.WideShapes.sorted_perm (kvs.map keyL)).map (fun p:Lit×DataW Unit=>Go.intOf p.1)
 rw [List.map_map] at h
 exact h
theorem sorts_ok (m:Nat):AnyZI.SortsIn Tryz.prog laySorted_ren Fence.wide m :=
 ⟨fun blk off cap ss W hH hblk hsz=>callsIn_wide.2 (AnyM.slices_Sort_int laySort blk off cap ss W hH hblk hsz),fun p cap W=>callsIn_wide.2 (AnyM.slices_Sort_int_none laySort p cap W)⟩
theorem sortedK_tr {b nb:Nat} {T:TypeId} {l:List (Int×Value)} (hl:l.length≤1099511627776) (hn:(l.map Prod.fst).Nodup) (hk:∀ p∈l,inR p.1∧p.1≠-9223372036854775808) :
 Tr Tryz.prog 50 #[.func (.func 240) #[] #[.pointer (some ⟨nb,0,none⟩)]] W0 (Asn.own nb (.cells #[.map (some b)] T (0,0))::KMapA b l::Γ)
  (fun r Δ=>∃ a cap,r=.slice a (srt (l.map Prod.fst)).length cap∧Δ=RowsA 1 a cap (ints (srt (l.map Prod.fst)))::Asn.own nb (.cells #[.map (some b)] T (0,0))::KMapA b l::Γ):=by
 intro w hw
 have hnb:=hw.own_at
 obtain ⟨kvs,clock,rfl,hs,h1⟩:=KMapA.of (hw.pull (.there .here))
 have hb:=h1.own_at
 have hfst:(kvs.map pairKV).map Prod.fst=kvs.map KV.key:=by simp [Function.comp_def,pairKV]
 rw [hfst] at hn ⊢
 have hlk:kvs.length≤1099511627776:=by simpa using hl
 have hkk:∀ x∈kvs,inR x.key∧x.key≠-9223372036854775808:=fun x hx=>hk (pairKV x) (List.mem_map_of_mem hx)
 have hown:=map_owned (P:=Tryz.prog) (k:=3) Tryz.underlying3 hb hs hlk hn hkk
 have hsz:Go.Maps.size (.map ((kvs.map keyL).foldr DataW.insert []):DataW Unit)=kvs.length:=by
  show ((kvs.map keyL).foldr DataW.insert []).length=_
  rw [(Go.WideShapes.sorted_perm (kvs.map keyL)).length_eq,List.length_map]
 have hseq:SeqGives Fence.wide 2 Tryz.prog 240 #[.pointer (some ⟨nb,0,none⟩)] encZ (fun ss=>ss.Perm (intKeys (.map ((kvs.map keyL).foldr DataW.insert []):DataW Unit))) kvs.length w:=by
  rw [← hsz]
  exact AnyZI.keys_gives (ρ:=layKeys_ren) { layKeys with } Fence.wide _ trivial rfl (by omega) nb b _ _ w (Array.getElem?_eq_some_iff.1 hnb).1 (by simp [World.cell?,hnb]) hown
 have cS:=AnyZI.sorted_in laySorted Fence.wide 5 trivial trivial trivial trivial rfl (by omega) (sorts_ok _) (enters_of Tryz.func92 (by kernel_rfl) rfl) 240 #[.pointer (some ⟨nb,0,none⟩)] trivial (enters_of Tryz.func240 (by kernel_rfl) rfl) _ kvs.length (by unfold maxLen; omega) (by omega) _ hseq
 refine (callsIn_wide.1 cS).mono ?_
 rintro e w' ⟨v,ss,rfl,hS,hrow,_,hB⟩
 obtain ⟨a,cap,rfl,hz⟩:=Sat.row (xs:=srt ss) hw hB (by rw [srt_length]; exact hrow)
 have he:srt ss=srt (kvs.map KV.key):=mergeSort_of_perm_i (hS.trans keys_perm)
 rw [he] at hz ⊢
 exact ⟨_,_,rfl,⟨a,cap,rfl,rfl⟩,hz⟩
theorem wvals_keys {α:Type} [Rw α]:∀ {w:List (Int×List α)} {ac:List (Option Addr×Nat)},ac.length=w.length→(wvals w ac).map Prod.fst=w.map Prod.fst
 |[],[],_=>rfl
 |[],_::_,h=>by simp at h
 |_::_,[],h=>by simp at h
 |p::w,a::ac,h=>by
  simp only [List.length_cons,Nat.add_right_cancel_iff] at h
  simp [wvals,wvals_keys h]
theorem arr_ints {a:Option Addr} {cap:Nat} {y:List Int} {w:World} (h:Sat W0 (RowsA 1 a cap (ints y)::Γ) w):Sat W0 (ArrA a cap y::Γ) w:=by
 have e:rowsOf y (List.replicate y.length ())=ints y:=by
  unfold rowsOf ints
  apply List.ext_getElem?
  intro n
  simp only [List.getElem?_zipWith,List.getElem?_map]
  cases e1:y[n]? with
  |none=>rfl
  |some v =>
   have hlt:n<y.length:=(List.getElem?_eq_some_iff.1 e1).1
   simp [List.getElem?_replicate,hlt]
   rfl
 rw [← e] at h
 refine ArrA.join (xs:=(List.replicate y.length ():List Unit)) (by simp) (h.imp fun S I hs=>?_)
 obtain ⟨S1,S2,p1,p2,p3,p4,p5⟩:=hs
 exact ⟨S1,S2,p1,p2,p3,p4,fun _=>False,S2,fun _ h=>h.elim,fun _ h=>h,fun _ h _=>h,fun _ _ _ _ _=>trivial,p5⟩
def KeysOk {α:Type} (l:List (Int×α)):Prop:=l.length≤1099511627776∧(l.map Prod.fst).Nodup∧∀ p∈l,inR p.1∧p.1≠-9223372036854775808
instance {α:Type} (l:List (Int×α)):Decidable (KeysOk l):=by unfold KeysOk; infer_instance
end
theorem sortedK {α:Type} [Rw α] (nb b:Nat) (l:List (Int×List α)) {y:List Int} (h:KeysOk l) (hy:srt (l.map Prod.fst)=y):Fn Tryz.prog 50 [.func (.func 240) #[] #[.pointer (some ⟨nb,0,none⟩)]] ⟨[⟨nb,#[.map (some b)],255⟩],[WMapA b l]⟩ (Z:=Option Addr×Nat) (fun z=>.slice z.1 y.length z.2) (fun z=>⟨[],[ArrA z.1 z.2 y,WMapA b l]⟩):=by
 subst hy
 intro W0 Γ w hw
 have hw0:Sat W0 (Asn.own nb (.cells #[.map (some b)] 255 (0,0))::WMapA b l::Γ) w:=hw
 obtain ⟨ac,hac,h2⟩:=WMapA.of (hw0.less (.take (.there .here) (.take .here .refl)))
 have hk2:=wvals_keys hac
 have hlen:(wvals l ac).length=l.length:=by have:=congrArg List.length hk2; simpa using this
 have h3:Sat W0 (Asn.own nb (.cells #[.map (some b)] 255 (0,0))::KMapA b (wvals l ac)::(wrows l ac++Γ)) w:=h2.pull (.there (pull_mid _))
 have t:=sortedK_tr (W0:=W0) (Γ:=wrows l ac++Γ) (b:=b) (nb:=nb) (T:=255) (l:=wvals l ac) (by rw [hlen]; exact h.1) (by rw [hk2]; exact h.2.1) (fun p hp=>by
  have:p.1∈l.map Prod.fst:=by rw [← hk2]; exact List.mem_map_of_mem hp
  obtain ⟨q,hq,he⟩:=List.mem_map.1 this
  rw [← he]; exact h.2.2 q hq) w h3
 rw [hk2] at t
 refine t.mono ?_
 rintro e w' ⟨r,Δ,rfl,⟨a,cap,rfl,rfl⟩,hz⟩
 refine ⟨_,_,rfl,⟨(a,cap),rfl,rfl⟩,?_⟩
 have h5:Sat W0 (KMapA b (wvals l ac)::(wrows l ac++(RowsA 1 a cap (ints (srt (l.map Prod.fst)))::Γ))) w':=by
  have h6:Sat W0 ([RowsA 1 a cap (ints (srt (l.map Prod.fst)))]++((KMapA b (wvals l ac)::wrows l ac)++Γ)) w':=hz.drop (.there .here)
  exact Sat.swap h6
 have h7:=WMapA.mk ac hac h5
 have h8:Sat W0 (RowsA 1 a cap (ints (srt (l.map Prod.fst)))::WMapA b l::Γ) w':=h7.less (.take (.there .here) (.take .here .refl))
 exact arr_ints h8
end
section
open Go Go.RowKit
theorem bifS (t:Bool):(bif t then some true else some false)=some t:=by cases t <;> rfl
theorem valsIt (nb:Nat) (a:Option Addr) (c:Nat) (l:List Int) {X:Asn} (hX:Rdb X a c l) (hl:l.length≤1099511627776):ItFn Tryz.prog 93 [.pointer (some ⟨nb,0,none⟩)] ⟨[⟨nb,#[.slice a l.length c],22⟩],[X]⟩ (fun i=>[.int .i64 (nthT l (i:Int))]) l.length:=by
 refine xfI Tryz.func93 fun W0 F y Ω hY=>?_
 refine xl [0] (ι:=Nat) (fun i=>⟨[(0,.func (.yield y) #[] #[]),(5,.slice a l.length c),(6,.int .i64 l.length),(7,.int .i64 i)],[⟨nb,#[.slice a l.length c],22⟩],[Ω i,X]⟩) (fun m i=>i≤l.length∧l.length<m+i) [0] [0,0] (l.length+1) 0 ⟨by omega,by omega⟩ ?_
 rintro N m i ⟨h1,h2⟩ hN
 refine xs [] (bifS (decide ((i:Int)<(l.length:Int)))) ?_ ?_
 · intro H
   have hi:i<l.length:=by simpa using H
   have q:0≤(i:Int)∧(i:Int)<(l.length:Int):=⟨by omega,by omega⟩
   refine xi [1] 1 hX q fun b o e=>?_
   refine xpl [] 1 (ol_ld hX e q 0 (fun _=>rfl)) ?_
   refine xy hY i hi [] [0] [0,0] ?_
   refine xw [0,302] 7 (congrArg (Value.int .i64) (show wr ((i:Int)+1)=((i+1:Nat):Int) by rw [wr_in (by omega) (by omega)]; omega)) ?_
   exact xe [] _ [0] [0,0] (hN (m - 1) (i+1) (by omega) ⟨by omega,by omega⟩)
 · intro H
   have h3:¬ (i<l.length):=by simpa using H
   have hi:i=l.length:=by omega
   subst hi
   exact xr [0] [] [0] [0,0] ()
theorem take_snoc {l:List Int} {i:Nat} (hi:i<l.length):l.take i++[nthT l (i:Int)]=l.take (i+1):=by
 have:nthT l (i:Int)=l[i]:=by unfold nthT; simp [hi]
 rw [this,List.take_succ_eq_append_getElem hi]
theorem apseqF (nb:Nat) (a:Option Addr) (c:Nat) (l:List Int) {X:Asn} (hX:Rdb X a c l) (hl:l.length≤1099511627776):FnY Tryz.prog 130 [.slice none 0 0,.func (.func 93) #[] #[.pointer (some ⟨nb,0,none⟩)]] ⟨[⟨nb,#[.slice a l.length c],22⟩],[X]⟩ (Z:=Option Addr×Nat) (fun y z=>.slice z.1 y.length z.2) (fun y z=>⟨[⟨nb,#[.slice a l.length c],22⟩],[ArrA z.1 z.2 y,X]⟩) l:=by
 refine xfM Tryz.func130 fun W0 F=>?_
 refine xn [] fun sb=>?_
 refine xg [] [] [] (gh_nil (α:=Int) none) fun _=>?_
 refine xrg [] [1] [1] [0] [0] (fun i=>.int .i64 (nthT l (i:Int))) 7 (valsIt nb a c l hX hl) [(2,.pointer (some ⟨sb,0,none⟩))] (fun i=>[(5,.int .i64 (nthT l (i:Int))),(2,.pointer (some ⟨sb,0,none⟩))])
  (fun i (z:Option Addr×Nat)=>⟨[⟨sb,#[.slice z.1 (List.length (l.take i)) z.2],22⟩],[ArrA z.1 z.2 (l.take i)]⟩) (none,0) ?_ ?_ ?_ (fun _ _=>rfl)
 · intro y F N i z hi hN
   exact xe [] ⟨[(5,.int .i64 (nthT l (i:Int))),(2,.pointer (some ⟨sb,0,none⟩))],[⟨sb,#[.slice z.1 (List.length (l.take i)) z.2],22⟩],[ArrA z.1 z.2 (l.take i)]⟩ [0] [0] fun a w h=>hN a w h.1 h.2
 · rintro y F N i ⟨sa,sc⟩ hi hN
   refine xn [0] fun b=>?_
   refine xg [] [0] [] (gh_own b 3 1 ([nthT l (i:Int)]:List Int) [()] (fun _ _ _ _ _ _ _=>trivial)) fun _=>?_
   refine xa [] [1,0] (a:=sa) (l:=l.take i) (zs:=l.take (i+1)) (cap:=sc) (rA (some ⟨b,0,none⟩) 1 ([nthT l (i:Int)]:List Int)) (take_snoc hi) (by simp; omega) fun ⟨a2,c2⟩=>?_
   exact xe [0] ⟨[],[⟨sb,#[.slice a2 (List.length (l.take (i+1))) c2],22⟩],[ArrA a2 c2 (l.take (i+1))]⟩ [0] [0] fun a w h=>hN (a2,c2) a w h.2
 · rintro ⟨sa,sc⟩ D
   exact xrM (P:=Tryz.prog) (fn:=Tryz.f130) (D:=D) (W0:=W0) (F:=F) (Y:=List Int) (Z:=Option Addr×Nat) (rv:=fun y z=>.slice z.1 y.length z.2) (post:=fun y z=>⟨[⟨nb,#[.slice a l.length c],22⟩],[ArrA z.1 z.2 y,X]⟩) (y:=l) (y':=l.take l.length) List.take_length [1] [] [0] [2,1] 0 (sa,sc)
theorem ints_arr {W0 w:World} {Γ:List Asn} {a:Option Addr} {cap:Nat} {y:List Int} (h:Sat W0 (ArrA a cap y::Γ) w):Sat W0 (RowsA 1 a cap (ints y)::Γ) w:=by
 obtain ⟨xs,hx,h2⟩:=ArrA.split h
 have e:rowsOf y xs=ints y:=by
  unfold rowsOf ints
  apply List.ext_getElem?
  intro n
  simp only [List.getElem?_zipWith,List.getElem?_map]
  cases e1:y[n]? with
  |none=>rfl
  |some v =>
   have hlt:n<y.length:=(List.getElem?_eq_some_iff.1 e1).1
   have hlt2:n<xs.length:=by omega
   simp only [List.getElem?_eq_getElem hlt2]
   rfl
 rw [e] at h2
 exact h2.drop (.there .here)
theorem sortF {a:Option Addr} {c:Nat} {l:List Int} (hl:l.length≤1099511627776):FnY Tryz.prog 92 [.slice a l.length c] ⟨[],[ArrA a c l]⟩ (Z:=Unit) (fun y _=>.tuple #[]) (fun y _=>⟨[],[ArrA a c y]⟩) (srt l):=by
 intro W0 Γ w hw
 refine (sortI_tr (a:=a) (cap:=c) hl w (ints_arr hw)).mono ?_
 rintro e w' ⟨r,Δ,rfl,⟨rfl,rfl⟩,hz⟩
 exact ⟨_,_,rfl,⟨(),rfl,rfl⟩,arr_ints hz⟩
theorem collF (nb:Nat) (a:Option Addr) (c:Nat) (l:List Int) {X:Asn} (hX:Rdb X a c l) (hl:l.length≤1099511627776):FnY Tryz.prog 91 [.func (.func 93) #[] #[.pointer (some ⟨nb,0,none⟩)]] ⟨[⟨nb,#[.slice a l.length c],22⟩],[X]⟩ (Z:=Option Addr×Nat) (fun y z=>.slice z.1 y.length z.2) (fun y z=>⟨[⟨nb,#[.slice a l.length c],22⟩],[ArrA z.1 z.2 y,X]⟩) l:=by
 refine xfY Tryz.func91 fun W0 F=>?_
 refine xc [] [0] [0] (apseqF nb a c l hX hl) fun ⟨a2,c2⟩=>?_
 exact xrY rfl [] [] [0] [0,0] (a2,c2)
theorem sortedV (nb:Nat) (a:Option Addr) (c:Nat) (l:List Int) {X:Asn} (hX:Rdb X a c l) {y:List Int} (hl:l.length≤1099511627776) (hy:srt l=y):Fn Tryz.prog 50 [.func (.func 93) #[] #[.pointer (some ⟨nb,0,none⟩)]] ⟨[⟨nb,#[.slice a l.length c],22⟩],[X]⟩ (Z:=Option Addr×Nat) (fun z=>.slice z.1 y.length z.2) (fun z=>⟨[],[ArrA z.1 z.2 y,X]⟩):=by
 have h:FnY Tryz.prog 50 [.func (.func 93) #[] #[.pointer (some ⟨nb,0,none⟩)]] ⟨[⟨nb,#[.slice a l.length c],22⟩],[X]⟩ (Z:=Option Addr×Nat) (fun y z=>.slice z.1 y.length z.2) (fun y z=>⟨[],[ArrA z.1 z.2 y,X]⟩) y:=by
  have hs:(srt l).length=l.length:=srt_length l
  refine xfY Tryz.func50 fun W0 F=>?_
  refine xc [] [0] [0] (collF nb a c l hX hl) fun ⟨a2,c2⟩=>?_
  refine xc [] [] [0] (sortF (a:=a2) (c:=c2) hl) fun _=>?_
  refine xw [300] 3 (congrArg (fun n:Nat=>(.slice a2 n c2:Value)) hs.symm) ?_
  exact xrY hy [] [] [] [0,0] (a2,c2)
 exact h
end
section
open Go Go.RowKit
def ins (x:Int):List Int→List Int
 |[]=>[x]
 |y::l=>if x≤y then x::y::l else y::ins x l
def isrt:List Int→List Int
 |[]=>[]
 |x::l=>ins x (isrt l)
theorem ins_perm (x:Int):∀ l:List Int,(ins x l).Perm (x::l)
 |[]=>.refl _
 |y::l=>by
  unfold ins
  split
  · exact .refl _
  · exact ((ins_perm x l).cons y).trans (.swap x y l)
theorem isrt_perm:∀ l:List Int,(isrt l).Perm l
 |[]=>.refl _
 |x::l=>(ins_perm x (isrt l)).trans ((isrt_perm l).cons x)
theorem ins_sorted (x:Int):∀ {l:List Int},l.Pairwise (·≤·)→(ins x l).Pairwise (·≤·)
 |[],_=>by simp [ins]
 |y::l,h=>by
  unfold ins
  have h1:=List.pairwise_cons.1 h
  split
  · rename_i hxy
    refine List.pairwise_cons.2 ⟨fun z hz=>?_,h⟩
    rcases List.mem_cons.1 hz with rfl | hz
    · exact hxy
    · exact Int.le_trans hxy (h1.1 z hz)
  · rename_i hxy
    refine List.pairwise_cons.2 ⟨fun z hz=>?_,ins_sorted x h1.2⟩
    rcases List.mem_cons.1 ((ins_perm x l).mem_iff.1 hz) with rfl | hz
    · omega
    · exact h1.1 z hz
theorem isrt_sorted:∀ l:List Int,(isrt l).Pairwise (·≤·)
 |[]=>.nil
 |x::l=>ins_sorted x (isrt_sorted l)
theorem srt_is (l:List Int):srt l=isrt l:=by
 refine List.Perm.eq_of_pairwise (le:=(·≤·)) (fun a b _ _ h1 h2=>Int.le_antisymm h1 h2) ?_ (isrt_sorted l) ((List.mergeSort_perm l _).trans (isrt_perm l).symm)
 have h:=List.pairwise_mergeSort (le:=fun a b:Int=>decide (a≤b)) (fun a b c h1 h2=>by simp at *; omega) (fun a b=>by simp; omega) l
 exact h.imp fun h=>by simpa using h
theorem keysF (b:Nat):Fn Tryz.prog 225 [.map (some b)] ⟨[],[]⟩ (Z:=Nat) (fun nb=>.func (.func 240) #[] #[.pointer (some ⟨nb,0,none⟩)]) (fun nb=>⟨[⟨nb,#[.map (some b)],255⟩],[]⟩):=by
 refine xf Tryz.func225 fun W0 F=>?_
 refine xn [] fun nb=>?_
 exact xr [] [] [0] [] nb
theorem valsF (a:Option Addr) (m c:Nat):Fn Tryz.prog 51 [.slice a m c] ⟨[],[]⟩ (Z:=Nat) (fun nb=>.func (.func 93) #[] #[.pointer (some ⟨nb,0,none⟩)]) (fun nb=>⟨[⟨nb,#[.slice a m c],22⟩],[]⟩):=by
 refine xf Tryz.func51 fun W0 F=>?_
 refine xn [] fun nb=>?_
 exact xr [] [] [0] [] nb
end
section
open Go Go.RowKit
def treadyS_j0 (e0_3x:List Int):Option (List Int) :=
 some e0_3x
def treadyS_l1 (y2_5:List Int) (tc:TurnsS) (k0:(List Int)→Option (List Int)):Nat→(List Int)→Int→Option (List Int)
 |0,_,_=>none
 |m+1,v1_3x,v1_13=>(bif decide (v1_13<(y2_5.length:Int)) then chk (0≤v1_13∧v1_13<(y2_5.length:Int)) ((townedS tc (nth y2_5 v1_13)).bind fun y5_2=>(bif !y5_2 then (twaitS tc (nth y2_5 v1_13)).bind fun y5_7=>(bif decide ((0:Int)<y5_7) then chk ((v1_3x++([nth y2_5 v1_13])).length≤1099511627776) (letP (v1_3x++([nth y2_5 v1_13])) fun l6_3=>chk (inR (v1_13+(1:Int))) ((treadyS_l1 y2_5 tc k0 m) l6_3 (v1_13+(1:Int)))) else chk (inR (v1_13+(1:Int))) ((treadyS_l1 y2_5 tc k0 m) v1_3x (v1_13+(1:Int)))) else chk (inR (v1_13+(1:Int))) ((treadyS_l1 y2_5 tc k0 m) v1_3x (v1_13+(1:Int))))) else k0 v1_3x)
def treadyS (tc:TurnsS):Option (List Int) :=
 chk (KeysOk tc.wait) (letP (isrt (List.map Prod.fst tc.wait)) fun y2_5=>treadyS_l1 y2_5 tc treadyS_j0 (tc.wait.length+1) ([]:List Int) (0:Int))
theorem treadyF {tc:TurnsS} (t:Nat) (t_b_owners:Nat) (t_b_wait:Nat) {y:List Int} (H:treadyS tc=some y):FnY Tryz.prog 195 [.pointer (some ⟨t,0,none⟩)] ⟨[⟨t,#[.map (some t_b_owners),.map (some t_b_wait)],257⟩],[(FMapA t_b_owners tc.owners),(WMapA t_b_wait tc.wait)]⟩ (Z:=Option Addr×Nat) (fun y (za0,zc0)=>.slice za0 y.length zc0) (fun y (za0,zc0)=>⟨[⟨t,#[.map (some t_b_owners),.map (some t_b_wait)],257⟩],[(ArrA za0 zc0 y),(FMapA t_b_owners tc.owners),(WMapA t_b_wait tc.wait)]⟩) y:=by
 unfold treadyS at H
 refine xfY Tryz.func195 fun W0 F=>?_
 refine xj [102] (ι:=List Int×Option Addr×Nat) (fun (e0_3x,e0_3a,e0_3c)=>⟨[(3,.slice e0_3a e0_3x.length e0_3c)],[⟨t,#[.map (some t_b_owners),.map (some t_b_wait)],257⟩],[(ArrA e0_3a e0_3c e0_3x),(WMapA t_b_wait tc.wait),(FMapA t_b_owners tc.owners)]⟩) (fun (e0_3x,e0_3a,e0_3c)=>treadyS_j0 e0_3x=some y) ?_ ?_
 · rintro ⟨e0_3x,e0_3a,e0_3c⟩ H
   replace H:treadyS_j0 e0_3x=some y:=H
   rw [treadyS_j0] at H
   exact xrY (someE H) [] [] [0] [0,1,0] (e0_3a,e0_3c)
 · intro N0 hN0
   refine xc [0] [] [] (keysF t_b_wait) fun b2_4=>?_
   refine chkG H fun q2_5_1 H=>?_
   refine letG H fun y2_5 hy2_5 H=>?_
   refine xc [] [0] [1] (sortedK b2_4 t_b_wait tc.wait q2_5_1 ((srt_is _).trans hy2_5)) fun ⟨t2_5_a,t2_5_c⟩=>?_
   refine xg [] [] [] (gh_nil (α:=Int) none) fun _=>?_
   refine xl [] (ι:=List Int×Int×Option Addr×Nat) (fun (v1_3x,v1_13,v1_3a,v1_3c)=>⟨[(0,.pointer (some ⟨t,0,none⟩)),(3,.slice v1_3a v1_3x.length v1_3c),(11,.slice t2_5_a y2_5.length t2_5_c),(12,.int .i64 y2_5.length),(13,.int .i64 v1_13)],[⟨t,#[.map (some t_b_owners),.map (some t_b_wait)],257⟩],[(ArrA v1_3a v1_3c v1_3x),(ArrA t2_5_a t2_5_c y2_5),(WMapA t_b_wait tc.wait),(FMapA t_b_owners tc.owners)]⟩) (fun m1 (v1_3x,v1_13,v1_3a,v1_3c)=>treadyS_l1 y2_5 tc (treadyS_j0) m1 v1_3x v1_13=some y) [0] [0,0,0,0] ((tc.wait.length+1)) (([]:List Int),(0:Int),none,0) H ?_
   rintro N1 (_ | m1) ⟨v1_3x,v1_13,v1_3a,v1_3c⟩ H hN1
   · exact (noneE H).elim
   replace H:treadyS_l1 y2_5 tc (treadyS_j0) (m1+1) v1_3x v1_13=some y:=H
   rw [treadyS_l1] at H
   refine xs [] H ?_ ?_
   · intro H
     refine chkG H fun q4_0_1 H=>?_
     refine xi [1] 1 (rA t2_5_a t2_5_c y2_5) q4_0_1 fun b1 o1 e1=>?_
     refine xpl [] 1 (ol_ld (rA t2_5_a t2_5_c y2_5) e1 q4_0_1 0 (fun _=>rfl)) ?_
     refine bindG H fun y5_2 hy5_2 H=>?_
     refine xc [] [0] [3,2] (townedF t t_b_owners t_b_wait hy5_2) fun _=>?_
     refine xs [] H ?_ ?_
     · intro H
       refine bindG H fun y5_7 hy5_7 H=>?_
       refine xc [1,1,1] [0] [0,0] (twaitF t t_b_owners t_b_wait hy5_7) fun _=>?_
       refine xs [1,1] H ?_ ?_
       · intro H
         refine xn [1] fun b6_2=>?_
         refine xg [] [0] [4] (gh_one b6_2 3 (nth y2_5 v1_13:Int) ()) fun _=>?_
         refine chkG H fun q6_3_1 H=>?_
         refine letG H fun l6_3 hl6_3 H=>?_
         refine xa [] [3,0] (a:=v1_3a) (l:=v1_3x) (zs:=l6_3) (cap:=v1_3c) (rA (some ⟨b6_2,0,none⟩) 1 ([nth y2_5 v1_13])) hl6_3 (hl6_3▸q6_3_1) fun ⟨a6_3,c6_3⟩=>?_
         refine chkG H fun q7_0_1 H=>?_
         refine xd [0] (ap q7_0_1 an) ?_
         exact xe [] _ [0] [0,3,2,1] (hN1 _ (l6_3,v1_13+(1:Int),a6_3,c6_3) (Nat.lt_succ_self _) H)
       · intro H
         refine chkG H fun q7_0_2 H=>?_
         refine xd [0,0] (ap q7_0_2 an) ?_
         exact xe [] _ [0] [2,2,1,0] (hN1 _ (v1_3x,v1_13+(1:Int),v1_3a,v1_3c) (Nat.lt_succ_self _) H)
     · intro H
       refine chkG H fun q7_0_3 H=>?_
       refine xd [0,0,0,0,0,0,0] (ap q7_0_3 an) ?_
       exact xe [] _ [0] [2,2,1,0] (hN1 _ (v1_3x,v1_13+(1:Int),v1_3a,v1_3c) (Nat.lt_succ_self _) H)
   · intro H
     exact xe [0] _ [0] [0,1,1] (hN0 (v1_3x,v1_3a,v1_3c) H)
def hpendS (hc:HomeS):Option (Bool) :=
 (treadyS hc.turns).bind fun y1_4=>some (decide ((0:Int)<(y1_4.length:Int)))
theorem hpendF {hc:HomeS} (h:Nat) (h_b_dir:Nat) (h_b_turns:Nat) (h_a_c_init:Option Addr) (h_c_c_init:Nat) {y:Bool} (H:hpendS hc=some y):FnY Tryz.prog 148 [.pointer (some ⟨h,0,none⟩)] ⟨[⟨h,#[.pointer (some ⟨h_b_dir,0,none⟩),.pointer (some ⟨h_b_turns,0,none⟩),.int .i64 hc.c.nodes,.int .i64 hc.c.lines,.int .i64 hc.c.words,.int .i64 hc.c.sets,.int .i64 hc.c.ways,.int .i64 hc.c.out,.int .i64 hc.c.inn,.slice h_a_c_init hc.c.init.length h_c_c_init,.int .i64 hc.node],152⟩],[(DirA h_b_dir hc.dir),(TurnsA h_b_turns hc.turns),(ImmA h_a_c_init h_c_c_init hc.c.init)]⟩ (Z:=Unit) (fun y _=>.bool y) (fun y _=>⟨[⟨h,#[.pointer (some ⟨h_b_dir,0,none⟩),.pointer (some ⟨h_b_turns,0,none⟩),.int .i64 hc.c.nodes,.int .i64 hc.c.lines,.int .i64 hc.c.words,.int .i64 hc.c.sets,.int .i64 hc.c.ways,.int .i64 hc.c.out,.int .i64 hc.c.inn,.slice h_a_c_init hc.c.init.length h_c_c_init,.int .i64 hc.node],152⟩],[(DirA h_b_dir hc.dir),(TurnsA h_b_turns hc.turns),(ImmA h_a_c_init h_c_c_init hc.c.init)]⟩) y:=by
 unfold hpendS at H
 refine xfY Tryz.func148 fun W0 F=>?_
 refine xg [0] [] [1] (gh_open (TurnsO h_b_turns hc.turns)) fun ⟨b_owners1,b_wait2⟩=>?_
 refine bindG H fun y1_4 hy1_4 H=>?_
 refine xc [] [0] [0,0] (treadyF h_b_turns b_owners1 b_wait2 hy1_4) fun ⟨t1_4_a0,t1_4_c0⟩=>?_
 refine xg [] [0] [1,1] (gh_shut (TurnsO h_b_turns hc.turns) (b_owners1,b_wait2)) fun _=>?_
 exact xrY (someE H) [] [] [0] [2,0,1] ()
def hgrantS_j0 (e0_h:HomeS):Option (PktS×Bool×HomeS) :=
 some ((⟨(0:Int),(0:Int),(0:Int),(0:Int),(0:Int),(0:Int),(0:Int),false,([]:List Int)⟩:PktS),false,e0_h)
def hgrantS_l1 (y1_4:List Int) (hc:HomeS) (k0:HomeS→Option (PktS×Bool×HomeS)):Nat→Int→TurnsS→Option (PktS×Bool×HomeS)
 |0,_,_=>none
 |m+1,v1_15,v1_b_turns2=>(bif decide (v1_15<(y1_4.length:Int)) then chk (0≤v1_15∧v1_15<(y1_4.length:Int)) ((tnextS v1_b_turns2 (nth y1_4 v1_15)).bind fun y4_5=>(bif y4_5.2.2.1 then (hgrS ({ hc with turns:=y4_5.2.2.2 }:HomeS) (nth y1_4 v1_15) y4_5.1 y4_5.2.1).bind fun y6_4=>some (y6_4,true,({ hc with turns:=y4_5.2.2.2 }:HomeS)) else chk (inR (v1_15+(1:Int))) ((hgrantS_l1 y1_4 hc k0 m) (v1_15+(1:Int)) y4_5.2.2.2))) else k0 ({ hc with turns:=v1_b_turns2 }:HomeS))
def hgrantS (hc:HomeS):Option (PktS×Bool×HomeS) :=
 (treadyS hc.turns).bind fun y1_4=>hgrantS_l1 y1_4 hc hgrantS_j0 (hc.turns.wait.length+1) (0:Int) hc.turns
theorem hgrantF {hc:HomeS} (h:Nat) {y:PktS×Bool×HomeS} (H:hgrantS hc=some y):FnY Tryz.prog 150 [.pointer (some ⟨h,0,none⟩)] ⟨[],[(HomeA h hc)]⟩ (Z:=Option Addr×Nat) (fun y (za0,zc0)=>.tuple #[.agg #[.int .i64 y.1.kind,.int .i64 y.1.src,.int .i64 y.1.dst,.int .i64 y.1.id,.int .i64 y.1.line,.int .i64 y.1.ptr,.int .i64 y.1.state,.bool y.1.flag,.slice za0 y.1.data.length zc0],.bool y.2.1]) (fun y (za0,zc0)=>⟨[],[(ArrA za0 zc0 y.1.data),(HomeA h y.2.2)]⟩) y:=by
 unfold hgrantS at H
 refine xfY Tryz.func150 fun W0 F=>?_
 refine xn [] fun b0_0=>?_
 refine xj [100] (ι:=HomeS) (fun e0_h=>⟨[(2,.pointer (some ⟨b0_0,0,none⟩))],[⟨b0_0,#[.int .i64 (0),.int .i64 (0),.int .i64 (0),.int .i64 (0),.int .i64 (0),.int .i64 (0),.int .i64 (0),.bool false,.slice none 0 0],176⟩],[(HomeA h e0_h)]⟩) (fun e0_h=>hgrantS_j0 e0_h=some y) ?_ ?_
 · rintro e0_h H
   replace H:hgrantS_j0 e0_h=some y:=H
   rw [hgrantS_j0] at H
   refine xg [0] [] [] (gh_nil (α:=Int) none) fun _=>?_
   exact xrY (someE H) [] [0] [] [0,0] (none,0)
 · intro N0 hN0
   refine xg [] [] [0] (gh_open (HomeO h hc)) fun ⟨b_dir1,b_turns2,a_c_init3,c_c_init4⟩=>?_
   refine xg [0] [] [1] (gh_open (TurnsO b_turns2 hc.turns)) fun ⟨b_owners5,b_wait6⟩=>?_
   refine bindG H fun y1_4 hy1_4 H=>?_
   refine xc [] [0] [0,0] (treadyF b_turns2 b_owners5 b_wait6 hy1_4) fun ⟨t1_4_a0,t1_4_c0⟩=>?_
   refine xg [] [0] [1,1] (gh_shut (TurnsO b_turns2 hc.turns) (b_owners5,b_wait6)) fun _=>?_
   refine xl [] (ι:=Int×TurnsS) (fun (v1_15,v1_b_turns2)=>⟨[(0,.pointer (some ⟨h,0,none⟩)),(2,.pointer (some ⟨b0_0,0,none⟩)),(13,.slice t1_4_a0 y1_4.length t1_4_c0),(14,.int .i64 y1_4.length),(15,.int .i64 v1_15)],[⟨h,#[.pointer (some ⟨b_dir1,0,none⟩),.pointer (some ⟨b_turns2,0,none⟩),.int .i64 hc.c.nodes,.int .i64 hc.c.lines,.int .i64 hc.c.words,.int .i64 hc.c.sets,.int .i64 hc.c.ways,.int .i64 hc.c.out,.int .i64 hc.c.inn,.slice a_c_init3 hc.c.init.length c_c_init4,.int .i64 hc.node],152⟩,⟨b0_0,#[.int .i64 (0),.int .i64 (0),.int .i64 (0),.int .i64 (0),.int .i64 (0),.int .i64 (0),.int .i64 (0),.bool false,.slice none 0 0],176⟩],[(TurnsA b_turns2 v1_b_turns2),(ArrA t1_4_a0 t1_4_c0 y1_4),(DirA b_dir1 hc.dir),(ImmA a_c_init3 c_c_init4 hc.c.init)]⟩) (fun m1 (v1_15,v1_b_turns2)=>hgrantS_l1 y1_4 hc (hgrantS_j0) m1 v1_15 v1_b_turns2=some y) [0,0] [0,0,0,0] ((hc.turns.wait.length+1)) ((0:Int),hc.turns) H ?_
   rintro N1 (_ | m1) ⟨v1_15,v1_b_turns2⟩ H hN1
   · exact (noneE H).elim
   replace H:hgrantS_l1 y1_4 hc (hgrantS_j0) (m1+1) v1_15 v1_b_turns2=some y:=H
   rw [hgrantS_l1] at H
   refine xs [] H ?_ ?_
   · intro H
     refine chkG H fun q3_0_1 H=>?_
     refine xi [1] 1 (rA t1_4_a0 t1_4_c0 y1_4) q3_0_1 fun b1 o1 e1=>?_
     refine xpl [] 1 (ol_ld (rA t1_4_a0 t1_4_c0 y1_4) e1 q3_0_1 0 (fun _=>rfl)) ?_
     refine bindG H fun y4_5 hy4_5 H=>?_
     refine xc [0] [] [0] (tnextF b_turns2 hy4_5) fun _=>?_
     refine xs [] H ?_ ?_
     · intro H
       refine bindG H fun y6_4 hy6_4 H=>?_
       refine xc [1] [0] [2,0,1] (hgrF h b_dir1 b_turns2 a_c_init3 c_c_init4 hy6_4) fun ⟨t6_4_a0,t6_4_c0⟩=>?_
       refine xg [1] [0] [1,1,1] (gh_shut (HomeO h ({ hc with turns:=y4_5.2.2.2 }:HomeS)) (b_dir1,b_turns2,a_c_init3,c_c_init4)) fun _=>?_
       exact xrY (someE H) [] [0] [] [1,0] (t6_4_a0,t6_4_c0)
     · intro H
       refine chkG H fun q7_0_1 H=>?_
       refine xd [0,0] (ap q7_0_1 an) ?_
       exact xe [] _ [0,0] [0,0,0,0] (hN1 _ (v1_15+(1:Int),y4_5.2.2.2) (Nat.lt_succ_self _) H)
   · intro H
     refine xg [0] [0] [2,0,1] (gh_shut (HomeO h ({ hc with turns:=v1_b_turns2 }:HomeS)) (b_dir1,b_turns2,a_c_init3,c_c_init4)) fun _=>?_
     exact xe [] _ [0] [0] (hN0 (({ hc with turns:=v1_b_turns2 }:HomeS)) H)
end
section
open Go
abbrev B16:=BitVec 16
def cR (s:B16):B16:=(s <<< 1) ^^^ (if s.msb then 0x1021#16 else 0#16)
theorem cR_xor (a b:B16):cR (a ^^^ b)=cR a ^^^ cR b:=by
 unfold cR
 rw [BitVec.msb_xor,BitVec.shiftLeft_xor_distrib]
 cases a.msb <;> cases b.msb <;> simp [BitVec.xor_assoc] <;> grind [BitVec.xor_assoc,BitVec.xor_comm]
theorem cR_zero:cR 0#16=0#16:=by decide
theorem cR_inj {s:B16} (h:cR s=0#16):s=0#16:=by
 unfold cR at h
 have h0:(s <<< 1).getLsbD 0=false:=by simp
 cases hm:s.msb with
 |true =>
  simp [hm] at h
  have h1:(s <<< 1 ^^^ 0x1021#16).getLsbD 0=false:=by rw [h]; rfl
  rw [BitVec.getLsbD_xor,h0] at h1
  exact absurd h1 (by decide)
 |false =>
  simp [hm] at h
  apply BitVec.eq_of_getLsbD_eq
  intro i hi
  rcases Nat.lt_or_ge i 15 with h15 | h15
  · have h1:(s <<< 1).getLsbD (i+1)=false:=by rw [h]; simp
    rw [BitVec.getLsbD_shiftLeft] at h1
    simp at h1
    simpa using h1 (by omega)
  · obtain rfl:i=15:=by omega
    have:s.msb=s.getLsbD 15:=by simp [BitVec.msb_eq_getLsbD_last]
    rw [← this,hm]
    simp
def cRn:Nat→B16→B16
 |0,s=>s
 |n+1,s=>cRn n (cR s)
theorem cRn_zero:∀ n,cRn n 0#16=0#16
 |0=>rfl
 |n+1=>by unfold cRn; rw [cR_zero,cRn_zero n]
theorem cRn_inj:∀ (n:Nat) {s:B16},cRn n s=0#16→s=0#16
 |0,_,h=>h
 |n+1,s,h=>cR_inj (cRn_inj n h)
def bit0 (b:Bool):B16:=if b then 0x8000#16 else 0#16
def cG (s:B16) (b:Bool):B16:=cR (s ^^^ bit0 b)
theorem cG_xor (s t:B16) (a b:Bool):cG (s ^^^ t) (a ^^ b)=cG s a ^^^ cG t b:=by
 unfold cG
 rw [← cR_xor]
 congr 1
 have:bit0 (a ^^ b)=bit0 a ^^^ bit0 b:=by cases a <;> cases b <;> rfl
 rw [this]
 grind [BitVec.xor_assoc,BitVec.xor_comm]
theorem cG_fold_xor:∀ (x e:List Bool),x.length=e.length→∀ s t,(List.zipWith (· ^^ ·) x e).foldl cG (s ^^^ t)=x.foldl cG s ^^^ e.foldl cG t
 |[],[],_,_,_=>rfl
 |a::x,b::e,h,s,t=>by
  simp only [List.zipWith_cons_cons,List.foldl_cons]
  rw [cG_xor]
  exact cG_fold_xor x e (by simpa using h) _ _
theorem cG_zeros:∀ n,(List.replicate n false).foldl cG 0#16=0#16
 |0=>rfl
 |n+1=>by simp only [List.replicate_succ,List.foldl_cons]; rw [show cG 0#16 false=0#16 by decide]; exact cG_zeros n
theorem cG_false_inj {s:B16} (h:cG s false=0#16):s=0#16:=by
 unfold cG bit0 at h
 simpa using cR_inj h
theorem cG_zeros_inj:∀ (n:Nat) {s:B16},(List.replicate n false).foldl cG s=0#16→s=0#16
 |0,_,h=>h
 |n+1,s,h=>cG_false_inj (cG_zeros_inj n (by simpa [List.replicate_succ] using h))
def valL:List Bool→B16
 |[]=>0#16
 |b::w=>bit0 b ^^^ (valL w >>> 1)
theorem bit0_msb (b:Bool):(bit0 b).msb=b:=by cases b <;> decide
theorem shr1_msb (x:B16):(x >>> 1).msb=false:=by
 rw [BitVec.msb_ushiftRight]
 simp
theorem cR_shr {x:B16} (h:x.getLsbD 0=false):cR (x >>> 1)=x:=by
 unfold cR
 rw [shr1_msb]
 simp
 apply BitVec.eq_of_getLsbD_eq
 intro i hi
 rw [BitVec.getLsbD_shiftLeft,BitVec.getLsbD_ushiftRight]
 rcases Nat.eq_zero_or_pos i with rfl | hp
 · simpa using h.symm
 · simp [hi,show 1+(i - 1)=i by omega,show ¬ i<1 by omega]
theorem valL_low:∀ (w:List Bool) (i:Nat),i+w.length<16→(valL w).getLsbD i=false
 |[],i,_=>by simp [valL]
 |b::w,i,h=>by
  simp only [List.length_cons] at h
  unfold valL
  rw [BitVec.getLsbD_xor,BitVec.getLsbD_ushiftRight,valL_low w (1+i) (by omega)]
  have:(bit0 b).getLsbD i=false:=by
   have hi:i<15:=by omega
   cases b
   · simp [bit0]
   · unfold bit0
     simp only [if_true]
     rw [show (0x8000#16)=(1#16 <<< 15) by decide,BitVec.getLsbD_shiftLeft]
     simp [hi]
  rw [this]
  rfl
theorem cG_absorb:∀ (w:List Bool) (s:B16),w.length≤16→w.foldl cG s=cRn w.length (s ^^^ valL w)
 |[],s,_=>by simp [valL,cRn]
 |b::w,s,h=>by
  simp only [List.length_cons] at h
  simp only [List.foldl_cons,List.length_cons]
  rw [cG_absorb w _ (by omega)]
  show _=cRn w.length (cR (s ^^^ (bit0 b ^^^ (valL w >>> 1))))
  congr 1
  unfold cG
  rw [← BitVec.xor_assoc,cR_xor (s ^^^ bit0 b),cR_shr (valL_low w 0 (by omega))]
theorem valL_zero:∀ (w:List Bool),w.length≤16→valL w=0#16→∀ b∈w,b=false
 |[],_,_,_,h=>by simp at h
 |b::w,hl,h,x,hx=>by
  simp only [List.length_cons] at hl
  unfold valL at h
  have hb:b=false:=by
   have h1:(bit0 b ^^^ (valL w >>> 1)).msb=(0#16).msb:=by rw [h]
   rw [BitVec.msb_xor,bit0_msb,shr1_msb] at h1
   simpa using h1
  subst hb
  rcases List.mem_cons.1 hx with rfl | hx
  · rfl
  · refine valL_zero w (by omega) ?_ x hx
    have h2:valL w >>> 1=0#16:=by simpa [bit0] using h
    have h3:=cR_shr (valL_low w 0 (by omega))
    rw [h2,cR_zero] at h3
    exact h3.symm
theorem cG_burst {w:List Bool} (hw:w.length≤16) (n:Nat) (m:Nat) (h:(List.replicate n false++(w++List.replicate m false)).foldl cG 0#16=0#16):∀ b∈w,b=false:=by
 rw [List.foldl_append,cG_zeros,List.foldl_append] at h
 have h1:=cG_zeros_inj m h
 rw [cG_absorb w _ hw] at h1
 have h2:=cRn_inj _ h1
 exact valL_zero w hw (by simpa using h2)
theorem cG_burst2 {L:List Bool} (a:Nat) (h0:∀ p,p<L.length→(p<a∨a+16≤p)→L[p]?=some false) (h:L.foldl cG 0#16=0#16):∀ b∈L,b=false:=by
 have e:L=List.replicate (min a L.length) false++((L.drop a).take 16++List.replicate (L.length - (a+16)) false):=by
  apply List.ext_getElem?
  intro p
  rcases Nat.lt_or_ge p L.length with hp | hp
  · rcases Nat.lt_or_ge p a with hpa | hpa
    · rw [List.getElem?_append_left (by simp; omega),h0 p hp (.inl hpa)]
      simp [List.getElem?_replicate]; omega
    · rw [List.getElem?_append_right (by simp; omega)]
      simp only [List.length_replicate,Nat.min_eq_left (show a≤L.length by omega)]
      rcases Nat.lt_or_ge p (a+16) with hq | hq
      · rw [List.getElem?_append_left (by simp; omega),List.getElem?_take_of_lt (by omega),List.getElem?_drop,show a+(p - a)=p by omega]
      · rw [List.getElem?_append_right (by simp; omega),h0 p hp (.inr hq)]
        simp [List.getElem?_replicate]; omega
  · rw [List.getElem?_eq_none hp,List.getElem?_eq_none]
    simp; omega
 rw [e] at h
 have h1:=cG_burst (w:=(L.drop a).take 16) (by simp; omega) _ _ h
 intro b hb
 rw [e] at hb
 rcases List.mem_append.1 hb with hb | hb
 · exact (List.mem_replicate.1 hb).2
 · rcases List.mem_append.1 hb with hb | hb
   · exact h1 b hb
   · exact (List.mem_replicate.1 hb).2
end
section
open Go Go.RowKit
def delPS (l:List PktS) (i j:Int):Option (List PktS):=chk (0≤i∧i≤j∧j≤(l.length:Int)) (bif decide (i=j) then some l else some (l.take i.toNat++l.drop j.toNat))
theorem delPF {l:List PktS} {i:Int} {j:Int} (la:Option Addr) (lc:Nat) {y:List PktS} (H:delPS l i j=some y):FnY Tryz.prog 141 [.slice la l.length lc,.int .i64 i,.int .i64 j] ⟨[],[(ArrA la lc l)]⟩ (Z:=Option Addr×Nat) (fun y (za0,zc0)=>.slice za0 y.length zc0) (fun y (za0,zc0)=>⟨[],[(ArrA za0 zc0 y)]⟩) y:=by
 unfold delPS at H
 refine xfY Tryz.func141 fun W0 F=>?_
 obtain ⟨q1,H⟩:=chkE H
 refine xk [] [0] (cap_of (rA la lc l)) fun hc=>?_
 refine xs2 [] (a:=la) (m:=l.length) (cap:=lc) (K:=Rw.k PktS) (lo:=i) (hi:=j) (mx:=(l.length:Int)) (by omega) ?_
 refine xs [] H ?_ ?_
 · intro H
   obtain rfl:=someE H
   exact xrY rfl [1] [] [] [0] (la,lc)
 · intro H
   obtain rfl:=someE H
   have hm:j.toNat+(l.length - j.toNat)=l.length:=by omega
   refine xs2 [0,0,1,2] (a:=la) (m:=l.length) (cap:=lc) (K:=Rw.k PktS) (lo:=0) (hi:=i) (mx:=(lc:Int)) (by omega) ?_
   refine xw [] 22 (v:=.slice (if lc=0 then la else la.map (·.add (0*Rw.k PktS))) i.toNat lc) (v':=.slice la i.toNat lc) (by rw [slice_front (a:=la) (Rw.k PktS) lc rfl]) ?_
   refine xs2 [3,4,5] (a:=la) (m:=l.length) (cap:=lc) (K:=Rw.k PktS) (lo:=j) (hi:=(l.length:Int)) (mx:=(lc:Int)) (by omega) ?_
   refine xo [6] [] [0] (oc_within 187 187 176 (lc - j.toNat) i.toNat j.toNat (l.length - j.toNat) Tryz.prog la _ lc l (by decide) (by omega) hm rfl) fun _=>?_
   refine xs2 [7] (a:=la) (m:=i.toNat+(l.length - j.toNat)) (cap:=lc) (K:=Rw.k PktS) (lo:=((i.toNat+(l.length - j.toNat):Nat):Int)) (hi:=(l.length:Int)) (mx:=(lc:Int)) (by omega) ?_
   refine xo [] [] [0] (oc_clear 187 187 176 (lc - (i.toNat+(l.length - j.toNat))) (i.toNat+(l.length - j.toNat)) (l.length - (i.toNat+(l.length - j.toNat))) Tryz.prog la _ lc (l.take i.toNat++l.drop j.toNat++l.drop (i.toNat+(l.length - j.toNat))) (by simp; omega) rfl) fun _=>?_
   refine xg [] [] [0] (gh_same la lc (l:=(l.take i.toNat++l.drop j.toNat++l.drop (i.toNat+(l.length - j.toNat))).take (i.toNat+(l.length - j.toNat))) (List.take_left' (by simp; omega))) fun _=>?_
   refine xw [] 6 (v:=.slice la (i.toNat+(l.length - j.toNat)) lc) (v':=.slice la (l.take i.toNat++l.drop j.toNat).length lc) (congrArg (fun n:Nat=>Value.slice la n lc) (by simp; omega)) ?_
   exact xrY rfl [] [] [] [0] (la,lc)
def delES (l:List Ent) (i j:Int):Option (List Ent):=chk (0≤i∧i≤j∧j≤(l.length:Int)) (bif decide (i=j) then some l else some (l.take i.toNat++l.drop j.toNat))
theorem delEF {l:List Ent} {i:Int} {j:Int} (la:Option Addr) (lc:Nat) {y:List Ent} (H:delES l i j=some y):FnY Tryz.prog 243 [.slice la l.length lc,.int .i64 i,.int .i64 j] ⟨[],[(ArrA la lc l)]⟩ (Z:=Option Addr×Nat) (fun y (za0,zc0)=>.slice za0 y.length zc0) (fun y (za0,zc0)=>⟨[],[(ArrA za0 zc0 y)]⟩) y:=by
 unfold delES at H
 refine xfY Tryz.func243 fun W0 F=>?_
 obtain ⟨q1,H⟩:=chkE H
 refine xk [] [0] (cap_of (rA la lc l)) fun hc=>?_
 refine xs2 [] (a:=la) (m:=l.length) (cap:=lc) (K:=Rw.k Ent) (lo:=i) (hi:=j) (mx:=(l.length:Int)) (by omega) ?_
 refine xs [] H ?_ ?_
 · intro H
   obtain rfl:=someE H
   exact xrY rfl [1] [] [] [0] (la,lc)
 · intro H
   obtain rfl:=someE H
   have hm:j.toNat+(l.length - j.toNat)=l.length:=by omega
   refine xs2 [0,0,1,2] (a:=la) (m:=l.length) (cap:=lc) (K:=Rw.k Ent) (lo:=0) (hi:=i) (mx:=(lc:Int)) (by omega) ?_
   refine xw [] 22 (v:=.slice (if lc=0 then la else la.map (·.add (0*Rw.k Ent))) i.toNat lc) (v':=.slice la i.toNat lc) (by rw [slice_front (a:=la) (Rw.k Ent) lc rfl]) ?_
   refine xs2 [3,4,5] (a:=la) (m:=l.length) (cap:=lc) (K:=Rw.k Ent) (lo:=j) (hi:=(l.length:Int)) (mx:=(lc:Int)) (by omega) ?_
   refine xo [6] [] [0] (oc_within 114 114 42 (lc - j.toNat) i.toNat j.toNat (l.length - j.toNat) Tryz.prog la _ lc l (by decide) (by omega) hm rfl) fun _=>?_
   refine xs2 [7] (a:=la) (m:=i.toNat+(l.length - j.toNat)) (cap:=lc) (K:=Rw.k Ent) (lo:=((i.toNat+(l.length - j.toNat):Nat):Int)) (hi:=(l.length:Int)) (mx:=(lc:Int)) (by omega) ?_
   refine xo [] [] [0] (oc_clear 114 114 42 (lc - (i.toNat+(l.length - j.toNat))) (i.toNat+(l.length - j.toNat)) (l.length - (i.toNat+(l.length - j.toNat))) Tryz.prog la _ lc (l.take i.toNat++l.drop j.toNat++l.drop (i.toNat+(l.length - j.toNat))) (by simp; omega) rfl) fun _=>?_
   refine xg [] [] [0] (gh_same la lc (l:=(l.take i.toNat++l.drop j.toNat++l.drop (i.toNat+(l.length - j.toNat))).take (i.toNat+(l.length - j.toNat))) (List.take_left' (by simp; omega))) fun _=>?_
   refine xw [] 6 (v:=.slice la (i.toNat+(l.length - j.toNat)) lc) (v':=.slice la (l.take i.toNat++l.drop j.toNat).length lc) (congrArg (fun n:Nat=>Value.slice la n lc) (by simp; omega)) ?_
   exact xrY rfl [] [] [] [0] (la,lc)
end
end Go.Proofs.YtcidmgkfaioceaaGreat
