/- Walks of the program's functions, and the plain laws of what they compute (part 5): Crq, Wip, Fbb, Cac, Cad, Dea, Srv.
   Conditions: none. -/
import Derived.Laws.Bits64
import Derived.Test.YtcidmgkfaioceaaGreatMBegins4
set_option linter.unusedVariables false
set_option linter.unusedSimpArgs false
set_option linter.unusedSectionVars false
set_option maxRecDepth 100000
set_option maxHeartbeats 4000000
namespace Go.Proofs.YtcidmgkfaioceaaGreat
section
open Go
def in64 (x:Int):Prop:=-9223372036854775808≤x∧x≤9223372036854775807
def PLegal (p:PktS):Prop:=(0≤p.src∧p.src<6)∧(0≤p.dst∧p.dst<6)∧(0≤p.id∧p.id<4096)∧(1≤p.kind∧p.kind<10)∧(0≤p.line∧p.line<8)∧(-1≤p.ptr∧p.ptr<6)∧(0≤p.state∧p.state<3)∧p.data.length≤4∧∀ d∈p.data,in64 d
instance (x:Int):Decidable (in64 x):=by unfold in64; infer_instance
instance (p:PktS):Decidable (PLegal p):=by unfold PLegal; infer_instance
theorem legal_chk {p:PktS} (h:PLegal p):pchkS p=some 0:=by
 obtain ⟨h1,h2,h3,h4,h5,h6,h7,h8,h9⟩:=h
 have b:∀ {n l m:Int},l≤n∧n<m→pbelowS n l m=some true:=by
  intro n l m h
  unfold pbelowS
  simp [h.1,h.2]
 unfold pchkS pchkS_j0 pchkS_j1
 simp [b h1,b h2,b h3,b h4,b h5,b h6,b h7,show ¬ (4:Int)<(p.data.length:Int) by omega]
def wordL (n:Int):List U8:=[56,48,40,32,24,16,8,0].map fun y:Int=>IntKind.wrap .u8 (shrI .i64 n y)
theorem word_eq (n:Int):pwordS n=some (wordL n):=by
 simp [pwordS,pwordS_l1,letP,chk,inR,pwordS_j0,wordL]
 exact ⟨Nat.le_of_ble_eq_true rfl,Nat.le_of_ble_eq_true rfl,Nat.le_of_ble_eq_true rfl,Nat.le_of_ble_eq_true rfl,Nat.le_of_ble_eq_true rfl,Nat.le_of_ble_eq_true rfl,Nat.le_of_ble_eq_true rfl,Nat.le_of_ble_eq_true rfl,rfl⟩
def wordsL (l:List Int):List U8:=l.flatMap wordL
theorem wordL_len (n:Int):(wordL n).length=8:=rfl
theorem wordsL_len:∀ l:List Int,(wordsL l).length=8*l.length
 |[]=>rfl
 |n::l=>by
  have h1:=wordL_len n
  have h2:=wordsL_len l
  show (wordL n++wordsL l).length=8*(l.length+1)
  rw [List.length_append]; omega
theorem wordL_ok (n:Int):BytesOk (wordL n):=fun c hc=>by
 have hc2:c∈([56,48,40,32,24,16,8,0].map fun y:Int=>IntKind.wrap .u8 (shrI .i64 n y)):=hc
 obtain ⟨y,_,rfl⟩:=List.mem_map.1 hc2
 rw [w8]; omega
theorem wordsL_ok:∀ l:List Int,BytesOk (wordsL l)
 |[]=>fun c hc=>by cases hc
 |n::l=>(wordL_ok n).app (wordsL_ok l)
def hdrL (p:PktS):List U8:=[IntKind.wrap .u8 p.kind,IntKind.wrap .u8 p.src,IntKind.wrap .u8 p.dst,IntKind.wrap .u8 (shrI .i64 p.id (8:Int)),IntKind.wrap .u8 p.id,IntKind.wrap .u8 p.line,IntKind.wrap .u8 (wr (p.ptr+(1:Int))),IntKind.wrap .u8 p.state,(if p.flag then (1:Int) else (0:Int)),IntKind.wrap .u8 (p.data.length:Int)]
theorem pack_l1 (p:PktS) (hd:p.data.length≤4) (k:List U8→Option (List U8×Int)):∀ (rest done:List Int) (m:Nat) (acc:List U8),p.data=done++rest→rest.length<m→acc.length+8*rest.length≤1000→ppackS_l1 p k m acc (done.length:Int)=k (acc++wordsL rest)
 |_,_,0,_,_,h,_=>by omega
 |[],done,m+1,acc,h,_,_=>by
  have:p.data.length=done.length:=by rw [h]; simp
  rw [ppackS_l1,decide_eq_false (by omega),cond_false]
  show k acc=k (acc++[])
  rw [List.append_nil]
 |n::rest,done,m+1,acc,h,hm,ha=>by
  simp only [List.length_cons] at hm ha
  have hl:p.data.length=done.length+(rest.length+1):=by rw [h]; simp
  have hn:nth p.data (done.length:Int)=n:=by unfold nth; rw [h]; simp [List.getD_eq_getElem?_getD]
  rw [ppackS_l1,decide_eq_true (by omega),cond_true,chk_true (by omega),hn,word_eq,Option.bind_some]
  dsimp only [letP]
  rw [chk_true (by rw [List.length_append,wordL_len]; omega),chk_true (by unfold inR; omega)]
  have ih:=pack_l1 p hd k rest (done++[n]) m (acc++wordL n) (by rw [h]; simp) (by omega) (by rw [List.length_append,wordL_len]; omega)
  rw [show (((done++[n]).length:Nat):Int)=(done.length:Int)+1 by simp] at ih
  rw [ih,List.append_assoc]
  rfl
theorem pack_eq {p:PktS} (h:PLegal p):ppackS p=some (sealL (hdrL p++wordsL p.data),0):=by
 have hd:=h.2.2.2.2.2.2.2.1
 unfold ppackS
 rw [legal_chk h]
 simp only [Option.bind_some,decide_true,Bool.not_true,cond_false]
 have hf:pflagS p.flag=some (if p.flag then (1:Int) else (0:Int)):=by unfold pflagS; cases p.flag <;> rfl
 rw [hf,Option.bind_some]
 have:=pack_l1 p hd ppackS_j0 p.data [] (p.data.length+1) (hdrL p) (by simp) (by omega) (by show 10+_≤_; omega)
 refine this.trans ?_
 unfold ppackS_j0
 rw [seal_eq (by rw [List.length_append,wordsL_len]; show 10+_≤_; omega)]
 rfl
theorem bor64 {v b:Nat} (hv:v<2 ^ 56) (hb:b<256):bor .u64 (shlI .u64 (v:Int) 8) (IntKind.wrap .u64 (b:Int))=((v*256+b:Nat):Int):=by
 unfold bor shlI
 have w64:∀ n:Int,IntKind.u64.wrap n=n % 18446744073709551616:=IntKind.wrap_u64
 have e1:IntKind.wrap .u64 ((v:Int)*2 ^ (min (8:Int).toNat (IntKind.bits .u64)))=((v <<< 8:Nat):Int):=by
  rw [w64,Nat.shiftLeft_eq]
  show ((v:Int)*2 ^ 8) % 18446744073709551616=((v*2 ^ 8:Nat):Int)
  omega
 have e2:IntKind.wrap .u64 (b:Int)=(b:Int):=by rw [w64]; omega
 rw [e1,e2]
 show IntKind.wrap .u64 (((BitVec.ofInt 64 ((v <<< 8:Nat):Int) ||| BitVec.ofInt 64 (b:Int)).toNat:Nat):Int)=_
 rw [BitVec.ofInt_natCast,BitVec.ofInt_natCast,BitVec.toNat_or,BitVec.toNat_ofNat,BitVec.toNat_ofNat]
 have hs:v <<< 8<2 ^ 64:=by rw [Nat.shiftLeft_eq]; omega
 rw [Nat.mod_eq_of_lt hs,Nat.mod_eq_of_lt (by omega),← Nat.shiftLeft_add_eq_or_of_lt (by omega),Nat.shiftLeft_eq,w64]
 omega
theorem num_l1 (b:List U8) (k:Int→Option Int) (bs:List Nat) (hb:b=bs.map fun n:Nat=>((n:Int):U8)) (hl:bs.length≤8) (hr:∀ n∈bs,n<256):∀ (rest done:List Nat) (m:Nat) (v:Nat),bs=done++rest→rest.length<m→v<256 ^ done.length →
 pnumS_l1 b k m (v:Int) (done.length:Int)=k (((rest.foldl (fun v n=>v*256+n) v:Nat):Nat):Int)
 |_,_,0,_,_,h,_=>by omega
 |[],done,m+1,v,h,_,_=>by
  have hbl:b.length=bs.length:=(congrArg List.length hb).trans (List.length_map ..)
  have:b.length=done.length:=by rw [hbl,h]; simp
  rw [pnumS_l1,decide_eq_false (by omega),cond_false]
  rfl
 |n::rest,done,m+1,v,h,hm,hv=>by
  simp only [List.length_cons] at hm
  have hbl:b.length=bs.length:=(congrArg List.length hb).trans (List.length_map ..)
  have hl2:b.length=done.length+(rest.length+1):=by rw [hbl,h]; simp
  have hl3:done.length+(rest.length+1)≤8:=by have:=congrArg List.length h; simp at this; omega
  have hn:nthB b (done.length:Int)=(n:Int):=by
   have:=nthB_get b (i:=done.length) (by omega)
   rw [this]
   have e0:bs[done.length]?=some n:=by rw [h]; simp
   have e:b[done.length]?=some ((n:Int):U8):=(congrArg (fun l:List U8=>l[done.length]?) hb).trans ((List.getElem?_map ..).trans (by rw [e0]; rfl))
   have e2:=List.getElem?_eq_getElem (l:=b) (i:=done.length) (by omega)
   rw [e2] at e
   exact Option.some.inj e
  have hlt:n<256:=hr n (by rw [h]; simp)
  rw [pnumS_l1,decide_eq_true (by omega),cond_true,chk_true (by omega)]
  dsimp only [letP]
  have hv56:v<2 ^ 56:=Nat.lt_of_lt_of_le hv (by
   have:(256:Nat) ^ done.length≤256 ^ 7:=Nat.pow_le_pow_right (by decide) (by omega)
   omega)
  rw [hn,bor64 hv56 hlt,chk_true (by unfold inR; omega)]
  have ih:=num_l1 b k bs hb hl hr rest (done++[n]) m (v*256+n) (by rw [h]; simp) (by omega) (by
   rw [List.length_append,List.length_singleton,Nat.pow_succ]; omega)
  rw [show (((done++[n]).length:Nat):Int)=(done.length:Int)+1 by simp] at ih
  exact ih
theorem number_word {n:Int} (h:in64 n):pnumS (wordL n)=some n:=by
 unfold in64 at h
 obtain ⟨N,hN⟩:∃ N:Nat,(N:Int)=n % 18446744073709551616:=⟨(n % 18446744073709551616).toNat,by omega⟩
 have hlt:N<18446744073709551616:=by omega
 have hw:wordL n=([N / 72057594037927936 % 256,N / 281474976710656 % 256,N / 1099511627776 % 256,N / 4294967296 % 256,N / 16777216 % 256,N / 65536 % 256,N / 256 % 256,N % 256].map fun n:Nat=>((n:Int):U8)):=by
  unfold wordL
  have e:∀ (k:Nat),k≤64→IntKind.wrap .u8 (shrI .i64 n (k:Int))=n / 2 ^ k % 256:=by
   intro k hk
   rw [w8]
   unfold shrI
   show (Int.fdiv n (2 ^ (min k 64))) % 256=_
   rw [Nat.min_eq_left hk,Int.fdiv_eq_ediv_of_nonneg _ (by exact Int.le_of_lt (Int.pow_pos (by decide)))]
  simp only [List.map_cons,List.map_nil]
  have e56:=e 56 (by decide); have e48:=e 48 (by decide); have e40:=e 40 (by decide); have e32:=e 32 (by decide); have e24:=e 24 (by decide); have e16:=e 16 (by decide); have e8:=e 8 (by decide); have e0:=e 0 (by decide)
  have c:∀ {x y:Int} {l m:List U8},x=y→l=m→((x:U8)::l:List U8)=(y:U8)::m:=by intro x y l m h1 h2; subst h1; subst h2; rfl
  refine c (e56.trans ?_) (c (e48.trans ?_) (c (e40.trans ?_) (c (e32.trans ?_) (c (e24.trans ?_) (c (e16.trans ?_) (c (e8.trans ?_) (c (e0.trans ?_) rfl)))))))
  all_goals omega
 unfold pnumS
 have:=num_l1 (wordL n) pnumS_j0 _ hw (by simp) (by intro x hx; simp at hx; omega) _ [] 9 0 rfl (by simp) (by simp)
 have e9:(wordL n).length+1=9:=by rw [wordL_len]
 rw [e9]
 refine this.trans ?_
 unfold pnumS_j0
 congr 1
 simp only [List.foldl_cons,List.foldl_nil]
 have dm:∀ x y:Nat,y=x*256→N / y*256+N / x % 256=N / x:=by
  intro x y h
  subst h
  rw [← Nat.div_div_eq_div_mul]
  generalize N / x=q
  omega
 have e0:0*256+N / 72057594037927936 % 256=N / 72057594037927936:=by
  have:N / 72057594037927936<256:=Nat.div_lt_of_lt_mul (by omega)
  rw [Nat.zero_mul,Nat.zero_add,Nat.mod_eq_of_lt this]
 rw [e0,dm 281474976710656 72057594037927936 rfl,dm 1099511627776 281474976710656 rfl,dm 4294967296 1099511627776 rfl,dm 16777216 4294967296 rfl,dm 65536 16777216 rfl,dm 256 65536 rfl]
 have e1:N / 256*256+N % 256=N:=Nat.div_add_mod' N 256
 rw [e1,hN]
 show IntKind.wrap .i64 _=n
 rw [IntKind.wrap_i64]
 omega
theorem wordsL_part:∀ (l:List Int) (k:Nat) (n:Int),l[k]?=some n→((wordsL l).drop (8*k)).take 8=wordL n
 |[],_,_,h=>by simp at h
 |m::l,0,n,h=>by
  simp at h
  subst h
  show ((wordL m++wordsL l).drop 0).take 8=_
  rw [List.drop_zero,List.take_append_of_le_length (by rw [wordL_len]; omega),List.take_of_length_le (by rw [wordL_len]; omega)]
 |m::l,k+1,n,h=>by
  simp at h
  show ((wordL m++wordsL l).drop (8*(k+1))).take 8=_
  have e:(wordL m++wordsL l).drop (8*(k+1))=(wordsL l).drop (8*k):=by
   have hw:=wordL_len m
   rw [List.drop_append,List.drop_eq_nil_of_le (by omega),List.nil_append]
   congr 1
  rw [e]
  exact wordsL_part l k n h
theorem nums_ok {l:List Int} (hl:l.length≤4) (hr:∀ d∈l,in64 d):NumsOk (wordsL l):=by
 have hw:=wordsL_len l
 refine ⟨by omega,by omega,fun k hk=>?_⟩
 have hk2:k<l.length:=by omega
 rw [wordsL_part l k l[k] (List.getElem?_eq_getElem hk2),number_word (hr _ (List.getElem_mem hk2))]
 rfl
theorem nums_eq {l:List Int} (hr:∀ d∈l,in64 d):numsTo (wordsL l) ((wordsL l).length / 8)=l:=by
 have hw:=wordsL_len l
 unfold numsTo
 rw [hw,Nat.mul_div_cancel_left _ (by decide:0<8)]
 apply List.ext_getElem?
 intro k
 rw [List.getElem?_map]
 rcases Nat.lt_or_ge k l.length with hk | hk
 · rw [List.getElem?_range hk,List.getElem?_eq_getElem hk]
   simp only [Option.map_some,Option.some.injEq]
   rw [wordsL_part l k l[k] (List.getElem?_eq_getElem hk),number_word (hr _ (List.getElem_mem hk))]
   rfl
 · rw [List.getElem?_eq_none hk,List.getElem?_eq_none (by simpa using hk)]
   rfl
theorem hdr_ok (p:PktS):BytesOk (hdrL p):=fun c hc=>by
 have hc2:c∈([IntKind.wrap .u8 p.kind,IntKind.wrap .u8 p.src,IntKind.wrap .u8 p.dst,IntKind.wrap .u8 (shrI .i64 p.id (8:Int)),IntKind.wrap .u8 p.id,IntKind.wrap .u8 p.line,IntKind.wrap .u8 (wr (p.ptr+(1:Int))),IntKind.wrap .u8 p.state,(if p.flag then (1:Int) else (0:Int)),IntKind.wrap .u8 (p.data.length:Int)]:List Int):=hc
 simp only [List.mem_cons,List.not_mem_nil,or_false] at hc2
 have hf:0≤(if p.flag then (1:Int) else 0)∧(if p.flag then (1:Int) else 0)<256:=by cases p.flag <;> decide
 rcases hc2 with rfl | rfl | rfl | rfl | rfl | rfl | rfl | rfl | rfl | rfl <;> first | (rw [w8]; omega) | exact hf
def pkt0:PktS:=⟨0,0,0,0,0,0,0,false,[]⟩
theorem bor_id {x:Int} (h:0≤x∧x<4096):bor .i64 (shlI .i64 (wr (IntKind.wrap .u8 (shrI .i64 x 8))) 8) (wr (IntKind.wrap .u8 x))=x:=by
 obtain ⟨n,rfl⟩:∃ n:Nat,x=(n:Int):=⟨x.toNat,by omega⟩
 have e1:IntKind.wrap .u8 (shrI .i64 (n:Int) 8)=((n / 256:Nat):Int):=by
  rw [w8]
  unfold shrI
  show (Int.fdiv (n:Int) (2 ^ (min 8 64))) % 256=_
  rw [Int.fdiv_eq_ediv_of_nonneg _ (by decide),show (2:Int) ^ (min 8 64)=256 by rfl]
  omega
 have e2:IntKind.wrap .u8 (n:Int)=((n % 256:Nat):Int):=by rw [w8]; omega
 rw [e1,e2,wr_in (by omega) (by omega),wr_in (by omega) (by omega)]
 unfold bor shlI
 have e3:IntKind.wrap .i64 (((n / 256:Nat):Int)*2 ^ (min (8:Int).toNat (IntKind.bits .i64)))=(((n / 256) <<< 8:Nat):Int):=by
  rw [IntKind.wrap_i64,Nat.shiftLeft_eq]
  show ((((n / 256:Nat):Int)*2 ^ 8)+9223372036854775808) % 18446744073709551616 - 9223372036854775808=((n / 256*2 ^ 8:Nat):Int)
  omega
 rw [e3]
 show IntKind.wrap .i64 (((BitVec.ofInt 64 (((n / 256) <<< 8:Nat):Int) ||| BitVec.ofInt 64 ((n % 256:Nat):Int)).toNat:Nat):Int)=_
 have hs:(n / 256) <<< 8<2 ^ 64:=by rw [Nat.shiftLeft_eq]; omega
 rw [BitVec.ofInt_natCast,BitVec.ofInt_natCast,BitVec.toNat_or,BitVec.toNat_ofNat,BitVec.toNat_ofNat,Nat.mod_eq_of_lt hs,Nat.mod_eq_of_lt (by omega),← Nat.shiftLeft_add_eq_or_of_lt (by omega),Nat.shiftLeft_eq,IntKind.wrap_i64]
 omega
theorem unpack_eq {p:PktS} (h:PLegal p):punpS (sealL (hdrL p++wordsL p.data))=some (p,0):=by
 have hp:=h
 obtain ⟨h1,h2,h3,h4,h5,h6,h7,h8,h9⟩:=h
 have hlen:(hdrL p++wordsL p.data).length=10+8*p.data.length:=by rw [List.length_append,wordsL_len]; rfl
 unfold punpS
 rw [open_seal (by omega),Option.bind_some]
 simp only [Bool.not_true,cond_false]
 rw [decide_eq_false (by omega),cond_false,chk_true (by omega)]
 dsimp only [letP]
 have n9:nthB (hdrL p++wordsL p.data) 9=(p.data.length:Int):=by
  show IntKind.wrap .u8 (p.data.length:Int)=_
  rw [w8]; omega
 rw [n9,wr_in (x:=(p.data.length:Int)) (by omega) (by omega),wr_in (x:=8*(p.data.length:Int)) (by omega) (by omega),wr_in (x:=10+8*(p.data.length:Int)) (by omega) (by omega),decide_eq_true (by omega),Bool.not_true]
 unfold punpS_j0
 dsimp only [letP]
 simp only [cond_false]
 rw [chk_true (by omega),chk_true (by omega),chk_true (by omega),chk_true (by omega),chk_true (by omega),chk_true (by omega),chk_true (by omega),chk_true (by omega),chk_true (by omega),chk_true (by omega)]
 have hdrop:((hdrL p++wordsL p.data).drop (10:Int).toNat).take ((((hdrL p++wordsL p.data).length:Nat):Int).toNat - (10:Int).toNat)=wordsL p.data:=by
  rw [Int.toNat_natCast,hlen]
  show ((hdrL p++wordsL p.data).drop 10).take (10+8*p.data.length - 10)=_
  rw [show (hdrL p++wordsL p.data).drop 10=wordsL p.data from rfl,List.take_of_length_le (by rw [wordsL_len]; omega)]
 rw [hdrop,chk_true (nums_ok h8 h9)]
 have e0:wr (nthB (hdrL p++wordsL p.data) 0)=p.kind:=by
  show wr (IntKind.wrap .u8 p.kind)=_
  rw [w8,wr_in] <;> omega
 have e1:wr (nthB (hdrL p++wordsL p.data) 1)=p.src:=by
  show wr (IntKind.wrap .u8 p.src)=_
  rw [w8,wr_in] <;> omega
 have e2:wr (nthB (hdrL p++wordsL p.data) 2)=p.dst:=by
  show wr (IntKind.wrap .u8 p.dst)=_
  rw [w8,wr_in] <;> omega
 have e3:bor .i64 (shlI .i64 (wr (nthB (hdrL p++wordsL p.data) 3)) 8) (wr (nthB (hdrL p++wordsL p.data) 4))=p.id:=bor_id h3
 have e5:wr (nthB (hdrL p++wordsL p.data) 5)=p.line:=by
  show wr (IntKind.wrap .u8 p.line)=_
  rw [w8,wr_in] <;> omega
 have e6:wr (wr (nthB (hdrL p++wordsL p.data) 6) - 1)=p.ptr:=by
  show wr (wr (IntKind.wrap .u8 (wr (p.ptr+1))) - 1)=_
  rw [wr_in (x:=p.ptr+1) (by omega) (by omega),w8,wr_in (x:=(p.ptr+1) % 256) (by omega) (by omega),wr_in] <;> omega
 have e7:wr (nthB (hdrL p++wordsL p.data) 7)=p.state:=by
  show wr (IntKind.wrap .u8 p.state)=_
  rw [w8,wr_in] <;> omega
 have e8:decide (nthB (hdrL p++wordsL p.data) 8=1)=p.flag:=by
  show decide ((if p.flag then (1:Int) else (0:Int))=1)=_
  cases p.flag <;> rfl
 rw [e0,e1,e2,e3,e5,e6,e7,e8,nums_eq h9]
 have ep:(⟨p.kind,p.src,p.dst,p.id,p.line,p.ptr,p.state,p.flag,p.data⟩:PktS)=p:=rfl
 rw [ep,pack_eq hp,Option.bind_some]
 simp only [decide_true,Bool.not_true,cond_false]
 rw [bEq_true,Option.bind_some,Bool.not_true,cond_false]
def wireP (p:PktS) (bit mask:Int):Option (PktS×Int) :=
 if PLegal p∧(0≤bit∧bit<4096)∧0≤mask∧mask<65536 then (if mask=0 then some (p,0) else if hits (10+8*p.data.length+2) bit mask then some (pkt0,2) else some (p,0)) else wireS p bit mask
theorem hits0 (n:Nat) (bit:Int):hits n bit 0=false:=by
 unfold hits
 rw [List.any_eq_false]
 intro x hx
 unfold ebR at hx
 obtain ⟨q,_,rfl⟩:=List.mem_map.1 hx
 simp [ebit]
theorem wire_eq (p:PktS) (bit mask:Int):wireS p bit mask=wireP p bit mask:=by
 unfold wireP
 by_cases hc:PLegal p∧(0≤bit∧bit<4096)∧0≤mask∧mask<65536
 · rw [if_pos hc]
   obtain ⟨hp,hb,hm⟩:=hc
   have h8:=hp.2.2.2.2.2.2.2.1
   have hlen:(hdrL p++wordsL p.data).length=10+8*p.data.length:=by rw [List.length_append,wordsL_len]; rfl
   have hok:BytesOk (hdrL p++wordsL p.data):=(hdr_ok p).app (wordsL_ok _)
   have hw:wireS p bit mask=(punpS (spG bit mask (sealL (hdrL p++wordsL p.data)) 0)).bind fun y=>some (y.1,y.2):=by
    unfold wireS
    rw [pack_eq hp,Option.bind_some]
    simp only [decide_true,Bool.not_true,cond_false]
    rw [spoil_eq (by omega) (by omega) (by rw [sealL_len]; omega),Option.bind_some]
   have hq:hits (10+8*p.data.length+2) bit mask=false→wireS p bit mask=some (p,0):=by
    intro h
    rw [hw,no_hit hm.1 hm.2 (sealL_ok hok) (by rw [sealL_len,hlen]; exact h),unpack_eq hp]
    rfl
   by_cases h0:mask=0
   · rw [if_pos h0]
     subst h0
     exact hq (hits0 _ _)
   · rw [if_neg h0]
     cases hh:hits (10+8*p.data.length+2) bit mask with
     |false=>exact hq hh
     |true =>
      rw [hw]
      unfold punpS
      rw [open_spoilt hok (by omega) hm.1 hm.2 (by rw [hlen]; exact hh),Option.bind_some]
      rfl
 · rw [if_neg hc]
theorem far_l1 (bit mask:Int) (hb:in64 bit) (hf:bit≤-65536∨65536≤bit) (n:Nat) (hn:n≤4096) (b:List U8):∀ (m:Nat) (i:Nat),i≤n→n<m+i→cspoilS_l1 bit mask cspoilS_j0 m b (n:Int) (i:Int)=some b
 |0,i,h,h2=>by omega
 |m+1,i,h,h2=>by
  rw [cspoilS_l1]
  by_cases hi:i<n
  · have hu:=hb.1
    have hv:=hb.2
    have ih:=far_l1 bit mask hb hf n hn b m (i+1) (by omega) (by omega)
    have go:cspoilS_j3 (cspoilS_j2 (i:Int) (cspoilS_l1 bit mask cspoilS_j0 m) (n:Int)) b (i:Int) mask bit true=some b:=by
     unfold cspoilS_j3 cspoilS_j2
     rw [cond_true,chk_true (by unfold inR; omega)]
     exact ih
    rw [decide_eq_true (by omega),cond_true,chk_true (by unfold inR; omega)]
    have hw:wr (8*(i:Int) - bit)=(8*(i:Int) - bit+9223372036854775808) % 18446744073709551616 - 9223372036854775808:=IntKind.wrap_i64 _
    by_cases h8:wr (8*(i:Int) - bit)≤-8
    · rw [decide_eq_true h8,cond_true]; exact go
    · rw [decide_eq_false h8,cond_false,decide_eq_true (by omega)]; exact go
  · rw [decide_eq_false (by omega),cond_false]
    rfl
theorem wire_any {p:PktS} {bit mask:Int} (hp:PLegal p) (hb:in64 bit) (hm:0≤mask∧mask<65536):wireS p bit mask=some (p,0)∨wireS p bit mask=some (pkt0,2):=by
 have h8:=hp.2.2.2.2.2.2.2.1
 have hlen:(hdrL p++wordsL p.data).length=10+8*p.data.length:=by rw [List.length_append,wordsL_len]; rfl
 have hok:BytesOk (hdrL p++wordsL p.data):=(hdr_ok p).app (wordsL_ok _)
 by_cases hf:bit≤-65536∨65536≤bit
 · left
   unfold wireS
   rw [pack_eq hp,Option.bind_some]
   simp only [decide_true,Bool.not_true,cond_false]
   have hs:cspoilS (sealL (hdrL p++wordsL p.data)) bit mask=some (sealL (hdrL p++wordsL p.data)):=by
    have hl:(sealL (hdrL p++wordsL p.data)).length≤4096:=by rw [sealL_len]; omega
    unfold cspoilS cloneBS
    rw [chk_true (by omega),Option.bind_some]
    exact far_l1 bit mask hb hf _ hl _ _ 0 (by omega) (by omega)
   rw [hs,Option.bind_some,unpack_eq hp]
   rfl
 · have hw:wireS p bit mask=(punpS (spG bit mask (sealL (hdrL p++wordsL p.data)) 0)).bind fun y=>some (y.1,y.2):=by
    unfold wireS
    rw [pack_eq hp,Option.bind_some]
    simp only [decide_true,Bool.not_true,cond_false]
    rw [spoil_eq (by omega) (by omega) (by rw [sealL_len]; omega),Option.bind_some]
   cases hh:hits (10+8*p.data.length+2) bit mask with
   |false =>
    left
    rw [hw,no_hit hm.1 hm.2 (sealL_ok hok) (by rw [sealL_len,hlen]; exact hh),unpack_eq hp]
    rfl
   |true =>
    right
    rw [hw]
    unfold punpS
    rw [open_spoilt hok (by omega) hm.1 hm.2 (by rw [hlen]; exact hh),Option.bind_some]
    rfl
end
section
open Go Go.RowKit
theorem wirePF {p:PktS} {p0A:Asn} {bit:Int} {mask:Int} (p0a:Option Addr) (p0c:Nat) (hp0A:Rdb p0A p0a p0c p.data) {y:PktS×Int} (H:wireP p bit mask=some y):FnY Tryz.prog 104 [.agg #[.int .i64 p.kind,.int .i64 p.src,.int .i64 p.dst,.int .i64 p.id,.int .i64 p.line,.int .i64 p.ptr,.int .i64 p.state,.bool p.flag,.slice p0a p.data.length p0c],.int .i64 bit,.int .u16 mask] ⟨[],[p0A]⟩ (Z:=Option Addr×Nat) (fun y (za0,zc0)=>.tuple #[.agg #[.int .i64 y.1.kind,.int .i64 y.1.src,.int .i64 y.1.dst,.int .i64 y.1.id,.int .i64 y.1.line,.int .i64 y.1.ptr,.int .i64 y.1.state,.bool y.1.flag,.slice za0 y.1.data.length zc0],.int .i64 y.2]) (fun y (za0,zc0)=>⟨[],[(ArrA za0 zc0 y.1.data),p0A]⟩) y:=wireF p0a p0c hp0A ((wire_eq p bit mask).trans H)
end
section
open Go Go.RowKit
def fdelS_j0 (at_:Int) (e0_asksr_cs3:List ChanS) (y7_14:Int×BoxS):Option (Int×FabS) :=
 (bif !(decide (y7_14.1=(0:Int))) then some (y7_14.1,({ cs:=e0_asksr_cs3 }:FabS)) else (ffindS ({ cs:=e0_asksr_cs3 }:FabS) at_).bind fun y10_2=>(optM y10_2.1 (fun k10_2=>chk (0≤k10_2∧k10_2<(e0_asksr_cs3.length:Int)) ((poremS ((nthS e0_asksr_cs3 k10_2).pool) y10_2.2.1).bind fun y11_3=>some ((0:Int),({ cs:=(setS e0_asksr_cs3 k10_2 (⟨y11_3.2.2,(nthS e0_asksr_cs3 k10_2).queue⟩:ChanS)) }:FabS)))) (none)))
def fdelS (fc:FabS) (at_:Int) (bit:Int) (mask:Int):Option (Int×FabS) :=
 (fpktS fc at_).bind fun y1_2=>(bif !y1_2.2 then some ((3:Int),fc) else (wireP y1_2.1 bit mask).bind fun y4_3=>(bif !(decide (y4_3.2=(0:Int))) then some (y4_3.2,fc) else chk (0≤y4_3.1.dst∧y4_3.1.dst<(((fc.cs.length / 2):Nat):Int)) ((preqS y4_3.1.kind).bind fun y7_10=>(bif y7_10 then (quputS ((nthS fc.cs (2*y4_3.1.dst)).queue) y4_3.1).bind fun y7_14=>(fdelS_j0 at_) (setS fc.cs (2*y4_3.1.dst) (⟨(nthS fc.cs (2*y4_3.1.dst)).pool,y7_14.2⟩:ChanS)) y7_14 else (quputS ((nthS fc.cs (2*y4_3.1.dst+1)).queue) y4_3.1).bind fun y7_14=>(fdelS_j0 at_) (setS fc.cs (2*y4_3.1.dst+1) (⟨(nthS fc.cs (2*y4_3.1.dst+1)).pool,y7_14.2⟩:ChanS)) y7_14))))
theorem fdelF {fc:FabS} {at_:Int} {bit:Int} {mask:Int} (f:Nat) {y:Int×FabS} (H:fdelS fc at_ bit mask=some y):FnY Tryz.prog 60 [.pointer (some ⟨f,0,none⟩),.int .i64 at_,.int .i64 bit,.int .u16 mask] ⟨[],[(FabA f fc)]⟩ (Z:=Unit) (fun y _=>.int .i64 y.1) (fun y _=>⟨[],[(FabA f y.2)]⟩) y:=by
 unfold fdelS at H
 refine xfY Tryz.func60 fun W0 F=>?_
 refine xg [] [] [0] (gh_open (FabO f fc)) fun ⟨a_cs1,c_cs2,r_cs3⟩=>?_
 refine bindG H fun y1_2 hy1_2 H=>?_
 refine xc [] [0] [0,0] (fpktF f a_cs1 c_cs2 r_cs3 hy1_2) fun ⟨t1_2_a0,t1_2_c0⟩=>?_
 refine xn [] fun b1_6=>?_
 refine xs [0] H ?_ ?_
 · intro H
   refine xg [1] [1] [1,1] (gh_shut (FabO f fc) (a_cs1,c_cs2,r_cs3)) fun _=>?_
   exact xrY (someE H) [] [] [] [0] ()
 · intro H
   refine bindG H fun y4_3 hy4_3 H=>?_
   refine xc [0,0] [] [0] (wirePF t1_2_a0 t1_2_c0 (rA t1_2_a0 t1_2_c0 y1_2.1.data) hy4_3) fun ⟨t4_3_a0,t4_3_c0⟩=>?_
   refine xs [0] H ?_ ?_
   · intro H
     refine xg [1] [1] [2,2] (gh_shut (FabO f fc) (a_cs1,c_cs2,r_cs3)) fun _=>?_
     exact xrY (someE H) [] [] [] [0] ()
   · intro H
     refine xj [0,101] (ι:=List ChanS×(Int×BoxS)) (fun (e0_asksr_cs3,y7_14)=>⟨[(0,.pointer (some ⟨f,0,none⟩)),(1,.int .i64 at_),(12,.int .i64 y7_14.1)],[⟨f,#[.slice a_cs1 r_cs3.length c_cs2],137⟩],[(StA e0_asksr_cs3 (asks r_cs3)),(ArrA a_cs1 c_cs2 r_cs3)]⟩) (fun (e0_asksr_cs3,y7_14)=>fdelS_j0 at_ e0_asksr_cs3 y7_14=some y) ?_ ?_
     · rintro ⟨e0_asksr_cs3,y7_14⟩ H
       replace H:fdelS_j0 at_ e0_asksr_cs3 y7_14=some y:=H
       rw [fdelS_j0] at H
       refine xs [] H ?_ ?_
       · intro H
         refine xg [1] [0] [1,0] (gh_shut (FabO f ({ cs:=e0_asksr_cs3 }:FabS)) (a_cs1,c_cs2,r_cs3)) fun _=>?_
         exact xrY (someE H) [] [] [] [0] ()
       · intro H
         refine bindG H fun y10_2 hy10_2 H=>?_
         refine xc [0] [0] [1,0] (ffindF f a_cs1 c_cs2 r_cs3 hy10_2) fun _=>?_
         refine optG H (fun hk10_2 H=>?_) fun k10_2 hk10_2 H=>?_
         · refine xw [300] 55 (v:=.tuple #[(askV (asks r_cs3) y10_2.1),.int .i64 y10_2.2.1,.bool y10_2.2.2]) (v':=.tuple #[.agg #[.pointer none,.pointer none],.int .i64 y10_2.2.1,.bool y10_2.2.2]) (by rw [hk10_2]; rfl) ?_
           refine xn [] fun b10_7=>?_
           exact (noneE H).elim
         · refine xw [300] 55 (v:=.tuple #[(askV (asks r_cs3) y10_2.1),.int .i64 y10_2.2.1,.bool y10_2.2.2]) (v':=.tuple #[.agg #[.pointer (some ⟨(nthT (asks r_cs3) k10_2).p,0,none⟩),.pointer (some ⟨(nthT (asks r_cs3) k10_2).q,0,none⟩)],.int .i64 y10_2.2.1,.bool y10_2.2.2]) (by rw [hk10_2]; rfl) ?_
           refine xn [] fun b10_7=>?_
           refine xk [0,0] [1] (st_len e0_asksr_cs3 (asks r_cs3)) fun hl11_3_1=>?_
           refine chkG H fun q11_3_1 H=>?_
           refine xg [] [] [1] (gh_sfoc e0_asksr_cs3 (asks r_cs3) k10_2 (nthT (asks r_cs3) k10_2) rfl (rngB hl11_3_1 (rngE hl11_3_1 q11_3_1))) fun _=>?_
           refine bindG H fun y11_3 hy11_3 H=>?_
           refine xc [] [] [0] (poremF (nthT (asks r_cs3) k10_2).p hy11_3) fun ⟨t11_3_a0,t11_3_c0⟩=>?_
           refine xg [] [] [1,1,1] (gh_sunf e0_asksr_cs3 (asks r_cs3) k10_2 (nthT (asks r_cs3) k10_2) (⟨y11_3.2.2,(nthS e0_asksr_cs3 k10_2).queue⟩:ChanS) rfl (rngB hl11_3_1 (rngE hl11_3_1 q11_3_1)) rfl) fun _=>?_
           refine xg [] [1] [2,0] (gh_shut (FabO f ({ cs:=(setS e0_asksr_cs3 k10_2 (⟨y11_3.2.2,(nthS e0_asksr_cs3 k10_2).queue⟩:ChanS)) }:FabS)) (a_cs1,c_cs2,r_cs3)) fun _=>?_
           exact xrY (someE H) [] [] [] [0] ()
     · intro N0 hN0
       refine xk [0,1,2,3,1,4,5,0,6] [3] (st_len fc.cs (asks r_cs3)) fun hl7_6_1=>?_
       refine chkG H fun q7_6_1 H=>?_
       refine xi [] 2 (rA a_cs1 c_cs2 r_cs3) (rngE (asks_half hl7_6_1) q7_6_1) fun b1 o1 e1=>?_
       refine xpl [7] 2 (ol_ldN (rA a_cs1 c_cs2 r_cs3) e1 (rngE (asks_half hl7_6_1) q7_6_1) 0 4 (fun _=>rfl)) ?_
       refine bindG H fun y7_10 hy7_10 H=>?_
       refine xq [8,9,0,10] (preq_fq hy7_10) ?_
       refine xsd [11] 44 H ?_ ?_
       · intro H
         refine xq [] (psort_t (nthT r_cs3 y4_3.1.dst)) ?_
         refine xk [12,13,0,14] [3] (st_len fc.cs (asks r_cs3)) fun hl7_14_1=>?_
         refine xg [] [] [3] (gh_sfoc fc.cs (asks r_cs3) (2*y4_3.1.dst) (⟨(nthT r_cs3 y4_3.1.dst).rp,(nthT r_cs3 y4_3.1.dst).rq⟩) (asks_req (rngE (asks_half hl7_6_1) q7_6_1)) (rng_req hl7_14_1 (rngE (asks_half hl7_6_1) q7_6_1))) fun _=>?_
         refine bindG H fun y7_14 hy7_14 H=>?_
         refine xc [] [] [1,2] (quputF (nthT r_cs3 y4_3.1.dst).rq t4_3_a0 t4_3_c0 (rA t4_3_a0 t4_3_c0 y4_3.1.data) hy7_14) fun _=>?_
         refine xg [15] [] [2,0,1] (gh_sunf fc.cs (asks r_cs3) (2*y4_3.1.dst) (⟨(nthT r_cs3 y4_3.1.dst).rp,(nthT r_cs3 y4_3.1.dst).rq⟩) (⟨(nthS fc.cs (2*y4_3.1.dst)).pool,y7_14.2⟩:ChanS) (asks_req (rngE (asks_half hl7_6_1) q7_6_1)) (rng_req hl7_14_1 (rngE (asks_half hl7_6_1) q7_6_1)) rfl) fun _=>?_
         exact xe [] _ [1] [0,2] (hN0 ((setS fc.cs (2*y4_3.1.dst) (⟨(nthS fc.cs (2*y4_3.1.dst)).pool,y7_14.2⟩:ChanS)),y7_14) H)
       · intro H
         refine xq [] (psort_f (nthT r_cs3 y4_3.1.dst)) ?_
         refine xk [12,13,0,14] [3] (st_len fc.cs (asks r_cs3)) fun hl7_14_2=>?_
         refine xg [] [] [3] (gh_sfoc fc.cs (asks r_cs3) (2*y4_3.1.dst+1) (⟨(nthT r_cs3 y4_3.1.dst).ap,(nthT r_cs3 y4_3.1.dst).aq⟩) (asks_ans (rngE (asks_half hl7_6_1) q7_6_1)) (rng_ans hl7_14_2 (rngE (asks_half hl7_6_1) q7_6_1))) fun _=>?_
         refine bindG H fun y7_14 hy7_14 H=>?_
         refine xc [] [] [1,2] (quputF (nthT r_cs3 y4_3.1.dst).aq t4_3_a0 t4_3_c0 (rA t4_3_a0 t4_3_c0 y4_3.1.data) hy7_14) fun _=>?_
         refine xg [15] [] [2,0,1] (gh_sunf fc.cs (asks r_cs3) (2*y4_3.1.dst+1) (⟨(nthT r_cs3 y4_3.1.dst).ap,(nthT r_cs3 y4_3.1.dst).aq⟩) (⟨(nthS fc.cs (2*y4_3.1.dst+1)).pool,y7_14.2⟩:ChanS) (asks_ans (rngE (asks_half hl7_6_1) q7_6_1)) (rng_ans hl7_14_2 (rngE (asks_half hl7_6_1) q7_6_1)) rfl) fun _=>?_
         exact xe [] _ [1] [0,2] (hN0 ((setS fc.cs (2*y4_3.1.dst+1) (⟨(nthS fc.cs (2*y4_3.1.dst+1)).pool,y7_14.2⟩:ChanS)),y7_14) H)
def fnewS_j0 (e0_b1_1:FabS):Option (FabS) :=
 some e0_b1_1
def fnewS_l1 (c:CfgS) (k0:FabS→Option (FabS)):Nat→Int→FabS→Option (FabS)
 |0,_,_=>none
 |m+1,v1_8,v1_b1_1=>(bif decide (v1_8<c.nodes) then (ponewS c.out).bind fun y4_7=>(qunewS c.inn).bind fun y4_10=>(ponewS c.out).bind fun y4_14=>(qunewS (1:Int)).bind fun y4_15=>chk ((v1_b1_1.cs.length / 2)+1≤1099511627776) (chk (inR (v1_8+(1:Int))) ((fnewS_l1 c k0 m) (v1_8+(1:Int)) ({ cs:=((v1_b1_1.cs++[(⟨y4_7,y4_10⟩:ChanS)])++[(⟨y4_14,y4_15⟩:ChanS)]) }:FabS))) else k0 v1_b1_1)
def fnewS (c:CfgS):Option (FabS) :=
 fnewS_l1 c fnewS_j0 (c.nodes.toNat+1) (0:Int) ({ cs:=([]:List ChanS) }:FabS)
theorem fnewF {c:CfgS} (c0a:Option Addr) (c0c:Nat) {y:FabS} (H:fnewS c=some y):FnY Tryz.prog 40 [.agg #[.int .i64 c.nodes,.int .i64 c.lines,.int .i64 c.words,.int .i64 c.sets,.int .i64 c.ways,.int .i64 c.out,.int .i64 c.inn,.slice c0a c.init.length c0c]] ⟨[],[]⟩ (Z:=Nat) (fun y (zb0:Nat)=>.pointer (some ⟨zb0,0,none⟩)) (fun y (zb0:Nat)=>⟨[],[(FabA zb0 y)]⟩) y:=by
 unfold fnewS at H
 refine xfY Tryz.func40 fun W0 F=>?_
 refine xn [] fun b0_0=>?_
 refine xn [] fun b1_1=>?_
 refine xj [100] (ι:=FabS) (fun e0_b1_1=>⟨[(3,.pointer (some ⟨b1_1,0,none⟩))],[],[(FabA b1_1 e0_b1_1)]⟩) (fun e0_b1_1=>fnewS_j0 e0_b1_1=some y) ?_ ?_
 · rintro e0_b1_1 H
   replace H:fnewS_j0 e0_b1_1=some y:=H
   rw [fnewS_j0] at H
   exact xrY (someE H) [] [] [] [0] (b1_1)
 · intro N0 hN0
   refine xg [1] [] [] (gh_nil (α:=PortR) none) fun _=>?_
   refine xg [] [] [] (gh_snil (α:=ChanS)) fun _=>?_
   refine xg [] [0] [1,0] (gh_shut (FabO b1_1 ({ cs:=([]:List ChanS) }:FabS)) (none,0,([]:List PortR))) fun _=>?_
   refine xl [] (ι:=Int×FabS) (fun (v1_8,v1_b1_1)=>⟨[(1,.pointer (some ⟨b0_0,0,none⟩)),(3,.pointer (some ⟨b1_1,0,none⟩)),(7,.int .i64 c.nodes),(8,.int .i64 v1_8)],[⟨b0_0,#[.int .i64 c.nodes,.int .i64 c.lines,.int .i64 c.words,.int .i64 c.sets,.int .i64 c.ways,.int .i64 c.out,.int .i64 c.inn,.slice c0a c.init.length c0c],25⟩],[(FabA b1_1 v1_b1_1)]⟩) (fun m1 (v1_8,v1_b1_1)=>fnewS_l1 c (fnewS_j0) m1 v1_8 v1_b1_1=some y) [0] [0] ((c.nodes.toNat+1)) ((0:Int),({ cs:=([]:List ChanS) }:FabS)) H ?_
   rintro N1 (_ | m1) ⟨v1_8,v1_b1_1⟩ H hN1
   · exact (noneE H).elim
   replace H:fnewS_l1 c (fnewS_j0) (m1+1) v1_8 v1_b1_1=some y:=H
   rw [fnewS_l1] at H
   refine xs [] H ?_ ?_
   · intro H
     refine xg [1,0,1,2,3,4] [] [0] (gh_open (FabO b1_1 v1_b1_1)) fun ⟨a_cs1,c_cs2,r_cs3⟩=>?_
     refine bindG H fun y4_7 hy4_7 H=>?_
     refine xc [0,5,6,1,8,9,1,12,13,1,7] [] [] (ponewF hy4_7) fun t4_7_b0=>?_
     refine bindG H fun y4_10 hy4_10 H=>?_
     refine xc [10] [] [] (qunewF hy4_10) fun t4_10_b0=>?_
     refine bindG H fun y4_14 hy4_14 H=>?_
     refine xc [11,14] [] [] (ponewF hy4_14) fun t4_14_b0=>?_
     refine bindG H fun y4_15 hy4_15 H=>?_
     refine xc [15] [] [] (qunewF hy4_15) fun t4_15_b0=>?_
     refine xn [16,17,18] fun b4_18=>?_
     refine xg [19] [0] [6] (gh_one b4_18 134 (⟨t4_7_b0,t4_10_b0,t4_14_b0,t4_15_b0⟩:PortR) ()) fun _=>?_
     refine xk [] [6] (st_len v1_b1_1.cs (asks r_cs3)) fun hl4_19_1=>?_
     refine chkG H fun q4_19_1 H=>?_
     refine xa [] [5,0] (a:=a_cs1) (l:=r_cs3) (zs:=(r_cs3++[(⟨t4_7_b0,t4_10_b0,t4_14_b0,t4_15_b0⟩:PortR)])) (cap:=c_cs2) (rA (some ⟨b4_18,0,none⟩) 1 ([(⟨t4_7_b0,t4_10_b0,t4_14_b0,t4_15_b0⟩:PortR)])) rfl (apG (e:=(⟨t4_7_b0,t4_10_b0,t4_14_b0,t4_15_b0⟩:PortR)) (asks_half hl4_19_1) q4_19_1) fun ⟨a4_19,c4_19⟩=>?_
     refine xg [] [] [5,4,4] (gh_ssnoc v1_b1_1.cs (asks r_cs3) (⟨y4_7,y4_10⟩:ChanS) (⟨t4_7_b0,t4_10_b0⟩:AskR)) fun _=>?_
     refine xg [] [] [4,3,0] (gh_ssnoc (v1_b1_1.cs++[(⟨y4_7,y4_10⟩:ChanS)]) ((asks r_cs3)++[(⟨t4_7_b0,t4_10_b0⟩:AskR)]) (⟨y4_14,y4_15⟩:ChanS) (⟨t4_14_b0,t4_15_b0⟩:AskR)) fun _=>?_
     refine xg [] [] [0] (gh_sre (l:=((v1_b1_1.cs++[(⟨y4_7,y4_10⟩:ChanS)])++[(⟨y4_14,y4_15⟩:ChanS)])) rfl (asks_snoc r_cs3 (⟨t4_7_b0,t4_10_b0,t4_14_b0,t4_15_b0⟩:PortR))) fun _=>?_
     refine chkG H fun q5_0_1 H=>?_
     refine xd [20,21,22,0,0] (ap q5_0_1 an) ?_
     refine xg [] [0] [1,0] (gh_shut (FabO b1_1 ({ cs:=((v1_b1_1.cs++[(⟨y4_7,y4_10⟩:ChanS)])++[(⟨y4_14,y4_15⟩:ChanS)]) }:FabS)) (a4_19,c4_19,(r_cs3++[(⟨t4_7_b0,t4_10_b0,t4_14_b0,t4_15_b0⟩:PortR)]))) fun _=>?_
     exact xe [] _ [0] [0] (hN1 _ (v1_8+(1:Int),({ cs:=((v1_b1_1.cs++[(⟨y4_7,y4_10⟩:ChanS)])++[(⟨y4_14,y4_15⟩:ChanS)]) }:FabS)) (Nat.lt_succ_self _) H)
   · intro H
     exact xe [0] _ [] [0] (hN0 (v1_b1_1) H)
end
section
open Go Go.RowKit
structure CacheS where
 l:List Ent
 sets:Int
 ways:Int
 clock:Int
def CacheO (b:Nat) (c:CacheS):Option Addr×Nat→Rs:=fun (a_l,c_l)=>⟨[⟨b,#[.slice a_l c.l.length c_l,.int .i64 c.sets,.int .i64 c.ways,.int .i64 c.clock],117⟩],[(ArrA a_l c_l c.l)]⟩
abbrev CacheA (b:Nat) (c:CacheS):Asn:=ObA (CacheO b c)
def cnewS (sets:Int) (ways:Int):Option (CacheS) :=
 letP (if (1:Int)<sets then sets else (1:Int)) fun u1_1=>letP (if (1:Int)<ways then ways else (1:Int)) fun u1_3=>some ({ l:=([]:List Ent),sets:=u1_1,ways:=u1_3,clock:=0 }:CacheS)
theorem cnewF {sets:Int} {ways:Int} {y:CacheS} (H:cnewS sets ways=some y):FnY Tryz.prog 84 [.int .i64 sets,.int .i64 ways] ⟨[],[]⟩ (Z:=Nat) (fun y (zb0:Nat)=>.pointer (some ⟨zb0,0,none⟩)) (fun y (zb0:Nat)=>⟨[],[(CacheA zb0 y)]⟩) y:=by
 unfold cnewS at H
 refine xfY Tryz.func84 fun W0 F=>?_
 refine letG H fun u1_1 hu1_1 H=>?_
 refine xw [304] 6 (congrArg (Value.int .i64) hu1_1) ?_
 refine letG H fun u1_3 hu1_3 H=>?_
 refine xw [302] 8 (congrArg (Value.int .i64) hu1_3) ?_
 refine xn [] fun b1_5=>?_
 refine xg [] [] [] (gh_nil (α:=Ent) none) fun _=>?_
 refine xg [] [0] [0] (gh_shut (CacheO b1_5 ({ l:=([]:List Ent),sets:=u1_1,ways:=u1_3,clock:=0 }:CacheS)) (none,0)) fun _=>?_
 exact xrY (someE H) [] [] [] [0] (b1_5)
def cat1S (e:Ent) (lnv:Int):Option (Bool) :=
 some (decide (e.line=lnv))
theorem cat1F {e:Ent} {lnv:Int} (e0a:Option Addr) (e0c:Nat) (ln:Nat) {y:Bool} (H:cat1S e lnv=some y):FnY Tryz.prog 97 [.agg #[.int .i64 e.fwd,.int .i64 e.back,.int .i64 e.line,.int .i64 e.used,.bool e.dirty,.slice e0a e.data.length e0c],.pointer (some ⟨ln,0,none⟩)] ⟨[⟨ln,#[.int .i64 lnv],3⟩],[]⟩ (Z:=Unit) (fun y _=>.bool y) (fun y _=>⟨[⟨ln,#[.int .i64 lnv],3⟩],[]⟩) y:=by
 unfold cat1S at H
 refine xfY Tryz.func97 fun W0 F=>?_
 refine xn [] fun b0_0=>?_
 exact xrY (someE H) [0,1] [] [1] [] ()
def cidxS_j0:Option (Int) :=
 some ((-1):Int)
def cidxS_l1 (s:List Ent) (lnv:Int) (k0:Option (Int)):Nat→Int→Option (Int)
 |0,_=>none
 |m+1,v1_8=>(bif decide (v1_8<(s.length:Int)) then chk (0≤v1_8∧v1_8<(s.length:Int)) (letP (nthT s v1_8) fun x4_4=>(cat1S x4_4 lnv).bind fun y4_5=>(bif y4_5 then some v1_8 else chk (inR (v1_8+(1:Int))) ((cidxS_l1 s lnv k0 m) (v1_8+(1:Int))))) else k0)
def cidxS (s:List Ent) (lnv:Int):Option (Int) :=
 cidxS_l1 s lnv cidxS_j0 (s.length+1) (0:Int)
theorem cidxF {s:List Ent} {sA:Asn} {lnv:Int} (sa:Option Addr) (sc:Nat) (ln:Nat) (hsA:Rdb sA sa sc s) {y:Int} (H:cidxS s lnv=some y):FnY Tryz.prog 96 [.slice sa s.length sc,.func (.func 97) #[] #[.pointer (some ⟨ln,0,none⟩)]] ⟨[⟨ln,#[.int .i64 lnv],3⟩],[sA]⟩ (Z:=Unit) (fun y _=>.int .i64 y) (fun y _=>⟨[⟨ln,#[.int .i64 lnv],3⟩],[sA]⟩) y:=by
 unfold cidxS at H
 refine xfY Tryz.func96 fun W0 F=>?_
 refine xj [101] (ι:=Unit) (fun _=>⟨[],[⟨ln,#[.int .i64 lnv],3⟩],[sA]⟩) (fun _=>cidxS_j0=some y) ?_ ?_
 · rintro _ H
   replace H:cidxS_j0=some y:=H
   rw [cidxS_j0] at H
   exact xrY (someE H) [] [] [0] [0] ()
 · intro N0 hN0
   refine xl [] (ι:=Int) (fun v1_8=>⟨[(0,.slice sa s.length sc),(1,.func (.func 97) #[] #[.pointer (some ⟨ln,0,none⟩)]),(7,.int .i64 s.length),(8,.int .i64 v1_8)],[⟨ln,#[.int .i64 lnv],3⟩],[sA]⟩) (fun m1 v1_8=>cidxS_l1 s lnv (cidxS_j0) m1 v1_8=some y) [0] [0] ((s.length+1)) ((0:Int)) H ?_
   rintro N1 (_ | m1) v1_8 H hN1
   · exact (noneE H).elim
   replace H:cidxS_l1 s lnv (cidxS_j0) (m1+1) v1_8=some y:=H
   rw [cidxS_l1] at H
   refine xs [] H ?_ ?_
   · intro H
     refine chkG H fun q4_3_1 H=>?_
     refine xi [1] 0 hsA q4_3_1 fun b1 o1 e1=>?_
     refine letG H fun x4_4 hx4_4 H=>?_
     refine xo [] [] [0] (oc_ldN hsA e1 q4_3_1 hx4_4 0 6) fun z4_4_1=>?_
     refine bindG H fun y4_5 hy4_5 H=>?_
     refine xc [] [0] [] (cat1F z4_4_1.1 z4_4_1.2 ln hy4_5) fun _=>?_
     refine xs [] H ?_ ?_
     · intro H
       exact xrY (someE H) [1] [] [0] [1] ()
     · intro H
       refine chkG H fun q6_0_1 H=>?_
       refine xd [0,0] (ap q6_0_1 an) ?_
       exact xe [] _ [0] [1] (hN1 _ (v1_8+(1:Int)) (Nat.lt_succ_self _) H)
   · intro H
     exact xe [0] _ [0] [0] (hN0 () H)
def catS (cc:CacheS) (line:Int):Option (Int) :=
 (cidxS cc.l line).bind fun y1_5=>some y1_5
theorem catF {cc:CacheS} {line:Int} (c:Nat) (c_a_l:Option Addr) (c_c_l:Nat) {y:Int} (H:catS cc line=some y):FnY Tryz.prog 53 [.pointer (some ⟨c,0,none⟩),.int .i64 line] ⟨[⟨c,#[.slice c_a_l cc.l.length c_c_l,.int .i64 cc.sets,.int .i64 cc.ways,.int .i64 cc.clock],117⟩],[(ArrA c_a_l c_c_l cc.l)]⟩ (Z:=Unit) (fun y _=>.int .i64 y) (fun y _=>⟨[⟨c,#[.slice c_a_l cc.l.length c_c_l,.int .i64 cc.sets,.int .i64 cc.ways,.int .i64 cc.clock],117⟩],[(ArrA c_a_l c_c_l cc.l)]⟩) y:=by
 unfold catS at H
 refine xfY Tryz.func53 fun W0 F=>?_
 refine xn [] fun b0_0=>?_
 refine bindG H fun y1_5 hy1_5 H=>?_
 refine xc [1] [0] [0] (cidxF c_a_l c_c_l b0_0 (rA c_a_l c_c_l cc.l) hy1_5) fun _=>?_
 exact xrY (someE H) [] [] [1] [0] ()
def cfindS (cc:CacheS) (line:Int):Option (Ent×Bool) :=
 (catS cc line).bind fun y1_2=>(bif decide (y1_2<(0:Int)) then some ((⟨(0:Int),(0:Int),(0:Int),(0:Int),false,([]:List Int)⟩:Ent),false) else chk (0≤y1_2∧y1_2<(cc.l.length:Int)) (letP (nthT cc.l y1_2) fun x4_6=>(ecloneS x4_6).bind fun y4_7=>some (y4_7,true)))
theorem cfindF {cc:CacheS} {line:Int} (c:Nat) (c_a_l:Option Addr) (c_c_l:Nat) {y:Ent×Bool} (H:cfindS cc line=some y):FnY Tryz.prog 15 [.pointer (some ⟨c,0,none⟩),.int .i64 line] ⟨[⟨c,#[.slice c_a_l cc.l.length c_c_l,.int .i64 cc.sets,.int .i64 cc.ways,.int .i64 cc.clock],117⟩],[(ArrA c_a_l c_c_l cc.l)]⟩ (Z:=Option Addr×Nat) (fun y (za0,zc0)=>.tuple #[.agg #[.int .i64 y.1.fwd,.int .i64 y.1.back,.int .i64 y.1.line,.int .i64 y.1.used,.bool y.1.dirty,.slice za0 y.1.data.length zc0],.bool y.2]) (fun y (za0,zc0)=>⟨[⟨c,#[.slice c_a_l cc.l.length c_c_l,.int .i64 cc.sets,.int .i64 cc.ways,.int .i64 cc.clock],117⟩],[(ArrA za0 zc0 y.1.data),(ArrA c_a_l c_c_l cc.l)]⟩) y:=by
 unfold cfindS at H
 refine xfY Tryz.func15 fun W0 F=>?_
 refine xn [] fun b0_0=>?_
 refine bindG H fun y1_2 hy1_2 H=>?_
 refine xc [] [1] [0] (catF c c_a_l c_c_l hy1_2) fun _=>?_
 refine xs [] H ?_ ?_
 · intro H
   refine xg [1,1] [] [] (gh_nil (α:=Int) none) fun _=>?_
   exact xrY (someE H) [] [1] [0] [0,0] (none,0)
 · intro H
   refine chkG H fun q4_5_1 H=>?_
   refine xi [0,0] 0 (rA c_a_l c_c_l cc.l) q4_5_1 fun b1 o1 e1=>?_
   refine letG H fun x4_6 hx4_6 H=>?_
   refine xo [] [] [0] (oc_ldN (rA c_a_l c_c_l cc.l) e1 q4_5_1 hx4_6 0 6) fun z4_6_1=>?_
   refine bindG H fun y4_7 hy4_7 H=>?_
   refine xc [] [] [0] (ecloneF z4_6_1.1 z4_6_1.2 (rI z4_6_1.1 z4_6_1.2 x4_6.data) hy4_7) fun ⟨t4_7_a0,t4_7_c0⟩=>?_
   exact xrY (someE H) [1] [1] [0] [0,1] (t4_7_a0,t4_7_c0)
def csetS_j0 (e0_5x:List Ent):Option (List Ent) :=
 some e0_5x
def csetS_j2 (v1_5x:List Ent) (x4_1:Ent) (v1_13:Int) (r1:(List Ent)→Int→Option (List Ent)) (e2_34:Bool):Option (List Ent) :=
 (bif e2_34 then chk ((v1_5x++([x4_1])).length≤1099511627776) (letP (v1_5x++([x4_1])) fun l6_3=>chk (inR (v1_13+(1:Int))) (r1 l6_3 (v1_13+(1:Int)))) else chk (inR (v1_13+(1:Int))) (r1 v1_5x (v1_13+(1:Int))))
def csetS_l1 (cc:CacheS) (line:Int) (k0:(List Ent)→Option (List Ent)):Nat→(List Ent)→Int→Option (List Ent)
 |0,_,_=>none
 |m+1,v1_5x,v1_13=>(bif decide (v1_13<(cc.l.length:Int)) then chk (0≤v1_13∧v1_13<(cc.l.length:Int)) (letP (nthT cc.l v1_13) fun x4_1=>(bif decide ((0:Int)≤line) then chk (1≤cc.sets) (chk (1≤cc.sets) ((csetS_j2 v1_5x x4_1 v1_13 (csetS_l1 cc line k0 m)) (decide ((x4_1.line.tmod cc.sets)=(line.tmod cc.sets))))) else (csetS_j2 v1_5x x4_1 v1_13 (csetS_l1 cc line k0 m)) false)) else k0 v1_5x)
def csetS (cc:CacheS) (line:Int):Option (List Ent) :=
 csetS_l1 cc line csetS_j0 (cc.l.length+1) ([]:List Ent) (0:Int)
theorem csetF {cc:CacheS} {line:Int} (c:Nat) (c_a_l:Option Addr) (c_c_l:Nat) {y:List Ent} (H:csetS cc line=some y):FnY Tryz.prog 203 [.pointer (some ⟨c,0,none⟩),.int .i64 line] ⟨[⟨c,#[.slice c_a_l cc.l.length c_c_l,.int .i64 cc.sets,.int .i64 cc.ways,.int .i64 cc.clock],117⟩],[(ArrA c_a_l c_c_l cc.l)]⟩ (Z:=Option Addr×Nat) (fun y (za0,zc0)=>.slice za0 y.length zc0) (fun y (za0,zc0)=>⟨[⟨c,#[.slice c_a_l cc.l.length c_c_l,.int .i64 cc.sets,.int .i64 cc.ways,.int .i64 cc.clock],117⟩],[(ArrA za0 zc0 y),(ArrA c_a_l c_c_l cc.l)]⟩) y:=by
 unfold csetS at H
 refine xfY Tryz.func203 fun W0 F=>?_
 refine xj [102] (ι:=List Ent×Option Addr×Nat) (fun (e0_5x,e0_5a,e0_5c)=>⟨[(5,.slice e0_5a e0_5x.length e0_5c)],[⟨c,#[.slice c_a_l cc.l.length c_c_l,.int .i64 cc.sets,.int .i64 cc.ways,.int .i64 cc.clock],117⟩],[(ArrA e0_5a e0_5c e0_5x),(ArrA c_a_l c_c_l cc.l)]⟩) (fun (e0_5x,e0_5a,e0_5c)=>csetS_j0 e0_5x=some y) ?_ ?_
 · rintro ⟨e0_5x,e0_5a,e0_5c⟩ H
   replace H:csetS_j0 e0_5x=some y:=H
   rw [csetS_j0] at H
   exact xrY (someE H) [] [] [0] [0,0] (e0_5a,e0_5c)
 · intro N0 hN0
   refine xg [0] [] [] (gh_nil (α:=Ent) none) fun _=>?_
   refine xl [] (ι:=List Ent×Int×Option Addr×Nat) (fun (v1_5x,v1_13,v1_5a,v1_5c)=>⟨[(0,.pointer (some ⟨c,0,none⟩)),(1,.int .i64 line),(5,.slice v1_5a v1_5x.length v1_5c),(11,.slice c_a_l cc.l.length c_c_l),(12,.int .i64 cc.l.length),(13,.int .i64 v1_13)],[⟨c,#[.slice c_a_l cc.l.length c_c_l,.int .i64 cc.sets,.int .i64 cc.ways,.int .i64 cc.clock],117⟩],[(ArrA v1_5a v1_5c v1_5x),(ArrA c_a_l c_c_l cc.l)]⟩) (fun m1 (v1_5x,v1_13,v1_5a,v1_5c)=>csetS_l1 cc line (csetS_j0) m1 v1_5x v1_13=some y) [0] [0,0] ((cc.l.length+1)) (([]:List Ent),(0:Int),none,0) H ?_
   rintro N1 (_ | m1) ⟨v1_5x,v1_13,v1_5a,v1_5c⟩ H hN1
   · exact (noneE H).elim
   replace H:csetS_l1 cc line (csetS_j0) (m1+1) v1_5x v1_13=some y:=H
   rw [csetS_l1] at H
   refine xs [] H ?_ ?_
   · intro H
     refine chkG H fun q4_0_1 H=>?_
     refine xi [1] 1 (rA c_a_l c_c_l cc.l) q4_0_1 fun b1 o1 e1=>?_
     refine letG H fun x4_1 hx4_1 H=>?_
     refine xo [] [] [1] (oc_ldN (rA c_a_l c_c_l cc.l) e1 q4_0_1 hx4_1 0 6) fun z4_1_1=>?_
     refine xn [] fun b4_2=>?_
     refine xj [0,100] (ι:=Bool) (fun e2_34=>⟨[(0,.pointer (some ⟨c,0,none⟩)),(1,.int .i64 line),(5,.slice v1_5a v1_5x.length v1_5c),(7,.pointer (some ⟨b4_2,0,none⟩)),(11,.slice c_a_l cc.l.length c_c_l),(12,.int .i64 cc.l.length),(13,.int .i64 v1_13),(34,.bool e2_34)],[⟨b4_2,#[.int .i64 x4_1.fwd,.int .i64 x4_1.back,.int .i64 x4_1.line,.int .i64 x4_1.used,.bool x4_1.dirty,.slice z4_1_1.1 x4_1.data.length z4_1_1.2],42⟩,⟨c,#[.slice c_a_l cc.l.length c_c_l,.int .i64 cc.sets,.int .i64 cc.ways,.int .i64 cc.clock],117⟩],[(ImmA z4_1_1.1 z4_1_1.2 x4_1.data),(ArrA c_a_l c_c_l cc.l),(ArrA v1_5a v1_5c v1_5x)]⟩) (fun e2_34=>csetS_j2 v1_5x x4_1 v1_13 (csetS_l1 cc line (csetS_j0) m1) e2_34=some y) ?_ ?_
     · rintro e2_34 H
       replace H:csetS_j2 v1_5x x4_1 v1_13 (csetS_l1 cc line (csetS_j0) m1) e2_34=some y:=H
       rw [csetS_j2] at H
       refine xs [] H ?_ ?_
       · intro H
         refine xn [1,0] fun b6_2=>?_
         refine xg [] [] [0] (gh_dup z4_1_1.1 z4_1_1.2 x4_1.data) fun _=>?_
         refine xg [] [0] [0] (gh_one b6_2 42 x4_1 (z4_1_1.1,z4_1_1.2)) fun _=>?_
         refine chkG H fun q6_3_1 H=>?_
         refine letG H fun l6_3 hl6_3 H=>?_
         refine xa [] [3,0] (a:=v1_5a) (l:=v1_5x) (zs:=l6_3) (cap:=v1_5c) (rA (some ⟨b6_2,0,none⟩) 1 ([x4_1])) hl6_3 (hl6_3▸q6_3_1) fun ⟨a6_3,c6_3⟩=>?_
         refine chkG H fun q7_0_1 H=>?_
         refine xd [0] (ap q7_0_1 an) ?_
         exact xe [] _ [1] [0,2] (hN1 _ (l6_3,v1_13+(1:Int),a6_3,c6_3) (Nat.lt_succ_self _) H)
       · intro H
         refine chkG H fun q7_0_2 H=>?_
         refine xd [0,0] (ap q7_0_2 an) ?_
         exact xe [] _ [1] [2,1] (hN1 _ (v1_5x,v1_13+(1:Int),v1_5a,v1_5c) (Nat.lt_succ_self _) H)
     · intro N2 hN2
       refine xs [0,1,2,3] H ?_ ?_
       · intro H
         refine chkG H fun q5_9_1 H=>?_
         refine xp [1,4,1,0,5,1,6,1,7,1,8,1,1,9,1] (ov_rem (a:=x4_1.line) (b:=cc.sets) q5_9_1) ?_
         refine chkG H fun q5_15_1 H=>?_
         refine xp [10,1,11,1,12,1,13,1,14,1,1,15,1] (ov_rem (a:=line) (b:=cc.sets) q5_15_1) ?_
         exact xe [16,1,17,1] _ [0,0] [0,0,0] (hN2 (decide ((x4_1.line.tmod cc.sets)=(line.tmod cc.sets))) H)
       · intro H
         exact xe [0,4,0,5,0,6,0,7,0,8,0,9,0,10,0,11,0,12,0,13,0,14,0,15,0,16,0,17,0] _ [0,0] [0,0,0] (hN2 (false) H)
   · intro H
     exact xe [0] _ [0] [0,0] (hN0 (v1_5x,v1_5a,v1_5c) H)
def cfullS_j0 (e0_4:Bool):Option (Bool) :=
 some e0_4
def cfullS (cc:CacheS) (line:Int):Option (Bool) :=
 (catS cc line).bind fun y1_2=>(bif decide (y1_2<(0:Int)) then (csetS cc line).bind fun y1_7=>cfullS_j0 (decide (cc.ways≤(y1_7.length:Int))) else cfullS_j0 false)
theorem cfullF {cc:CacheS} {line:Int} (c:Nat) (c_a_l:Option Addr) (c_c_l:Nat) {y:Bool} (H:cfullS cc line=some y):FnY Tryz.prog 158 [.pointer (some ⟨c,0,none⟩),.int .i64 line] ⟨[⟨c,#[.slice c_a_l cc.l.length c_c_l,.int .i64 cc.sets,.int .i64 cc.ways,.int .i64 cc.clock],117⟩],[(ArrA c_a_l c_c_l cc.l)]⟩ (Z:=Unit) (fun y _=>.bool y) (fun y _=>⟨[⟨c,#[.slice c_a_l cc.l.length c_c_l,.int .i64 cc.sets,.int .i64 cc.ways,.int .i64 cc.clock],117⟩],[(ArrA c_a_l c_c_l cc.l)]⟩) y:=by
 unfold cfullS at H
 refine xfY Tryz.func158 fun W0 F=>?_
 refine xj [101] (ι:=Bool) (fun e0_4=>⟨[(4,.bool e0_4)],[⟨c,#[.slice c_a_l cc.l.length c_c_l,.int .i64 cc.sets,.int .i64 cc.ways,.int .i64 cc.clock],117⟩],[(ArrA c_a_l c_c_l cc.l)]⟩) (fun e0_4=>cfullS_j0 e0_4=some y) ?_ ?_
 · rintro e0_4 H
   replace H:cfullS_j0 e0_4=some y:=H
   rw [cfullS_j0] at H
   exact xrY (someE H) [] [] [0] [0] ()
 · intro N0 hN0
   refine bindG H fun y1_2 hy1_2 H=>?_
   refine xc [0,1,2] [0] [0] (catF c c_a_l c_c_l hy1_2) fun _=>?_
   refine xs [3,4,5] H ?_ ?_
   · intro H
     refine bindG H fun y1_7 hy1_7 H=>?_
     refine xc [1,6,1,9,1,10,1,11,1,12,1,0,7,1] [0] [0] (csetF c c_a_l c_c_l hy1_7) fun ⟨t1_7_a0,t1_7_c0⟩=>?_
     exact xe [8,1,13,1,14,1,15] _ [0] [1] (hN0 (decide (cc.ways≤(y1_7.length:Int))) H)
   · intro H
     exact xe [0,6,0,7,0,8,0,9,0,10,0,11,0,12,0,13,0,14,0,15] _ [0] [0] (hN0 (false) H)
def ctouchS (cc:CacheS) (line:Int):Option (Bool×CacheS) :=
 (catS cc line).bind fun y1_2=>(bif decide (y1_2<(0:Int)) then some (false,cc) else chk (0≤y1_2∧y1_2<(cc.l.length:Int)) (letP (setT cc.l y1_2 ({ nthT cc.l y1_2 with used:=(wr (cc.clock+(1:Int))) })) fun l5_11=>some (true,({ cc with l:=l5_11,clock:=wr (cc.clock+(1:Int)) }:CacheS))))
theorem ctouchF {cc:CacheS} {line:Int} (c:Nat) {y:Bool×CacheS} (H:ctouchS cc line=some y):FnY Tryz.prog 157 [.pointer (some ⟨c,0,none⟩),.int .i64 line] ⟨[],[(CacheA c cc)]⟩ (Z:=Unit) (fun y _=>.bool y.1) (fun y _=>⟨[],[(CacheA c y.2)]⟩) y:=by
 unfold ctouchS at H
 refine xfY Tryz.func157 fun W0 F=>?_
 refine xg [] [] [0] (gh_open (CacheO c cc)) fun ⟨a_l1,c_l2⟩=>?_
 refine bindG H fun y1_2 hy1_2 H=>?_
 refine xc [] [0] [0] (catF c a_l1 c_l2 hy1_2) fun _=>?_
 refine xs [] H ?_ ?_
 · intro H
   refine xg [1] [0] [0] (gh_shut (CacheO c cc) (a_l1,c_l2)) fun _=>?_
   exact xrY (someE H) [] [] [] [0] ()
 · intro H
   refine chkG H fun q5_9_1 H=>?_
   refine xi [0,0,1,0,0,1,2,3,0,4,5,6,7,8,0,9] 0 (rA a_l1 c_l2 cc.l) q5_9_1 fun b1 o1 e1=>?_
   refine letG H fun l5_11 hl5_11 H=>?_
   refine xo [10,11] [] [0] (oc_stf (cap:=c_l2) (e:={ nthT cc.l y1_2 with used:=(wr (cc.clock+(1:Int))) }) 3 [.int .i64 (wr (cc.clock+(1:Int)))] e1 q5_9_1 (fun _=>rfl) (fun _=>rfl) hl5_11) fun _=>?_
   refine xw [] 21 (congrArg (fun n:Nat=>(.slice a_l1 n c_l2:Value)) (set_len hl5_11)) ?_
   refine xg [] [0] [] (gh_cells c 117 (congrArg (fun n:Nat=>(#[.slice a_l1 n c_l2,.int .i64 cc.sets,.int .i64 cc.ways,.int .i64 (wr (cc.clock+(1:Int)))]:Array Value)) (set_len hl5_11))) fun _=>?_
   refine xg [] [0] [0] (gh_shut (CacheO c ({ cc with l:=l5_11,clock:=wr (cc.clock+(1:Int)) }:CacheS)) (a_l1,c_l2)) fun _=>?_
   exact xrY (someE H) [] [] [] [0] ()
def cputS (cc:CacheS) (e:Ent):Option (Int×CacheS) :=
 (ecloneS e).bind fun y1_1=>(bif decide (y1_1.line<(0:Int)) then some ((1:Int),cc) else (catS cc y1_1.line).bind fun y4_3=>(bif decide ((0:Int)≤y4_3) then chk (0≤y4_3∧y4_3<(cc.l.length:Int)) (chk (0≤y4_3∧y4_3<(cc.l.length:Int)) (letP (setT cc.l y4_3 (⟨y1_1.fwd,y1_1.back,y1_1.line,(nthT cc.l y4_3).used,y1_1.dirty,y1_1.data⟩:Ent)) fun l7_7=>some ((0:Int),({ cc with l:=l7_7 }:CacheS)))) else (cfullS cc y1_1.line).bind fun y9_3=>(bif y9_3 then some ((5:Int),cc) else chk ((cc.l++([(⟨y1_1.fwd,y1_1.back,y1_1.line,wr (cc.clock+(1:Int)),y1_1.dirty,y1_1.data⟩:Ent)])).length≤1099511627776) (letP (cc.l++([(⟨y1_1.fwd,y1_1.back,y1_1.line,wr (cc.clock+(1:Int)),y1_1.dirty,y1_1.data⟩:Ent)])) fun l13_7=>some ((0:Int),({ cc with l:=l13_7,clock:=wr (cc.clock+(1:Int)) }:CacheS))))))
theorem cputF {cc:CacheS} {e:Ent} {e0A:Asn} (c:Nat) (e0a:Option Addr) (e0c:Nat) (he0A:Rdb e0A e0a e0c e.data) {y:Int×CacheS} (H:cputS cc e=some y):FnY Tryz.prog 193 [.pointer (some ⟨c,0,none⟩),.agg #[.int .i64 e.fwd,.int .i64 e.back,.int .i64 e.line,.int .i64 e.used,.bool e.dirty,.slice e0a e.data.length e0c]] ⟨[],[(CacheA c cc),e0A]⟩ (Z:=Unit) (fun y _=>.int .i64 y.1) (fun y _=>⟨[],[(CacheA c y.2),e0A]⟩) y:=by
 unfold cputS at H
 refine xfY Tryz.func193 fun W0 F=>?_
 refine xn [] fun b0_0=>?_
 refine bindG H fun y1_1 hy1_1 H=>?_
 refine xc [0] [] [1] (ecloneF e0a e0c he0A hy1_1) fun ⟨t1_1_a0,t1_1_c0⟩=>?_
 refine xs [0,0] H ?_ ?_
 · intro H
   exact xrY (someE H) [1] [] [] [2,1] ()
 · intro H
   refine xg [0,0] [] [2] (gh_open (CacheO c cc)) fun ⟨a_l1,c_l2⟩=>?_
   refine bindG H fun y4_3 hy4_3 H=>?_
   refine xc [] [0] [0] (catF c a_l1 c_l2 hy4_3) fun _=>?_
   refine xs [] H ?_ ?_
   · intro H
     refine chkG H fun q6_5_1 H=>?_
     refine xi [1,0] 0 (rA a_l1 c_l2 cc.l) q6_5_1 fun b1 o1 e1=>?_
     refine xpl [] 0 (ol_ld (rA a_l1 c_l2 cc.l) e1 q6_5_1 3 (fun _=>rfl)) ?_
     refine chkG H fun q7_6_1 H=>?_
     refine xi [1,0,1,2,3,0,4,5,1,6] 0 (rA a_l1 c_l2 cc.l) q7_6_1 fun b2 o2 e2=>?_
     refine xg [7] [] [1] (gh_frz t1_1_a0 t1_1_c0 y1_1.data) fun _=>?_
     refine xg [] [] [0] (gh_dup t1_1_a0 t1_1_c0 y1_1.data) fun _=>?_
     refine letG H fun l7_7 hl7_7 H=>?_
     refine xo [] [] [2,0] (oc_st (α:=Ent) (cap:=c_l2) (e:=(⟨y1_1.fwd,y1_1.back,y1_1.line,(nthT cc.l y4_3).used,y1_1.dirty,y1_1.data⟩:Ent)) (t1_1_a0,t1_1_c0) e2 q7_6_1 hl7_7) fun _=>?_
     refine xw [] 29 (congrArg (fun n:Nat=>(.slice a_l1 n c_l2:Value)) (set_len hl7_7)) ?_
     refine xg [] [0] [] (gh_cells c 117 (congrArg (fun n:Nat=>(#[.slice a_l1 n c_l2,.int .i64 cc.sets,.int .i64 cc.ways,.int .i64 cc.clock]:Array Value)) (set_len hl7_7))) fun _=>?_
     refine xg [] [0] [0] (gh_shut (CacheO c ({ cc with l:=l7_7 }:CacheS)) (a_l1,c_l2)) fun _=>?_
     exact xrY (someE H) [] [] [] [0,1] ()
   · intro H
     refine bindG H fun y9_3 hy9_3 H=>?_
     refine xc [0,1] [0] [0] (cfullF c a_l1 c_l2 hy9_3) fun _=>?_
     refine xs [] H ?_ ?_
     · intro H
       refine xg [1] [0] [0] (gh_shut (CacheO c cc) (a_l1,c_l2)) fun _=>?_
       exact xrY (someE H) [] [] [] [0,1] ()
     · intro H
       refine xn [0,0,1,0,0,1,0,1,2,3,4,0,5,1,6] fun b13_6=>?_
       refine xg [7] [] [1] (gh_frz t1_1_a0 t1_1_c0 y1_1.data) fun _=>?_
       refine xg [] [] [0] (gh_dup t1_1_a0 t1_1_c0 y1_1.data) fun _=>?_
       refine xg [] [0] [0] (gh_one b13_6 42 (⟨y1_1.fwd,y1_1.back,y1_1.line,wr (cc.clock+(1:Int)),y1_1.dirty,y1_1.data⟩:Ent) (t1_1_a0,t1_1_c0)) fun _=>?_
       refine chkG H fun q13_7_1 H=>?_
       refine letG H fun l13_7 hl13_7 H=>?_
       refine xa [] [2,0] (a:=a_l1) (l:=cc.l) (zs:=l13_7) (cap:=c_l2) (rA (some ⟨b13_6,0,none⟩) 1 ([(⟨y1_1.fwd,y1_1.back,y1_1.line,wr (cc.clock+(1:Int)),y1_1.dirty,y1_1.data⟩:Ent)])) hl13_7 (hl13_7▸q13_7_1) fun ⟨a13_7,c13_7⟩=>?_
       refine xg [8,9,10,0] [0] [0] (gh_shut (CacheO c ({ cc with l:=l13_7,clock:=wr (cc.clock+(1:Int)) }:CacheS)) (a13_7,c13_7)) fun _=>?_
       exact xrY (someE H) [] [] [] [0,2] ()
end
section
open Go Go.RowKit
def esfS (lv:Ent) (n:Int):Option (Ent) :=
 some (⟨n,lv.back,lv.line,lv.used,lv.dirty,lv.data⟩:Ent)
theorem esfF {lv:Ent} {n:Int} (l:Nat) (l0a:Option Addr) (l0c:Nat) {y:Ent} (H:esfS lv n=some y):FnY Tryz.prog 232 [.pointer (some ⟨l,0,none⟩),.int .i64 n] ⟨[⟨l,#[.int .i64 lv.fwd,.int .i64 lv.back,.int .i64 lv.line,.int .i64 lv.used,.bool lv.dirty,.slice l0a lv.data.length l0c],42⟩],[(ImmA l0a l0c lv.data)]⟩ (Z:=Option Addr×Nat) (fun y (za0,zc0)=>.tuple #[]) (fun y (za0,zc0)=>⟨[⟨l,#[.int .i64 y.fwd,.int .i64 y.back,.int .i64 y.line,.int .i64 y.used,.bool y.dirty,.slice za0 y.data.length zc0],42⟩],[(ImmA za0 zc0 y.data)]⟩) y:=by
 unfold esfS at H
 refine xfY Tryz.func232 fun W0 F=>?_
 refine xg [0] [] [0] (gh_dup l0a l0c lv.data) fun _=>?_
 exact xrY (someE H) [] [] [0] [0] (l0a,l0c)
def esbS (lv:Ent) (n:Int):Option (Ent) :=
 some (⟨lv.fwd,n,lv.line,lv.used,lv.dirty,lv.data⟩:Ent)
theorem esbF {lv:Ent} {n:Int} (l:Nat) (l0a:Option Addr) (l0c:Nat) {y:Ent} (H:esbS lv n=some y):FnY Tryz.prog 231 [.pointer (some ⟨l,0,none⟩),.int .i64 n] ⟨[⟨l,#[.int .i64 lv.fwd,.int .i64 lv.back,.int .i64 lv.line,.int .i64 lv.used,.bool lv.dirty,.slice l0a lv.data.length l0c],42⟩],[(ImmA l0a l0c lv.data)]⟩ (Z:=Option Addr×Nat) (fun y (za0,zc0)=>.tuple #[]) (fun y (za0,zc0)=>⟨[⟨l,#[.int .i64 y.fwd,.int .i64 y.back,.int .i64 y.line,.int .i64 y.used,.bool y.dirty,.slice za0 y.data.length zc0],42⟩],[(ImmA za0 zc0 y.data)]⟩) y:=by
 unfold esbS at H
 refine xfY Tryz.func231 fun W0 F=>?_
 refine xg [0] [] [0] (gh_dup l0a l0c lv.data) fun _=>?_
 exact xrY (someE H) [] [] [0] [0] (l0a,l0c)
def ewriteS_j0 (ev:Ent) (at_:Int) (value:Int) (e0_19:Bool):Option (Bool×Ent) :=
 (bif e0_19 then some (false,ev) else (cloneS ev.data).bind fun y3_5=>chk (0≤at_∧at_<(y3_5.length:Int)) (letP (setT y3_5 at_ value) fun l4_7=>some (true,(⟨ev.fwd,ev.back,ev.line,ev.used,ev.dirty,l4_7⟩:Ent))))
def ewriteS (ev:Ent) (at_:Int) (value:Int):Option (Bool×Ent) :=
 (bif !ev.dirty then (ewriteS_j0 ev at_ value) true else (eisS ev at_).bind fun y1_10=>(ewriteS_j0 ev at_ value) !y1_10)
theorem ewriteF {ev:Ent} {at_:Int} {value:Int} (e:Nat) (e0a:Option Addr) (e0c:Nat) {y:Bool×Ent} (H:ewriteS ev at_ value=some y):FnY Tryz.prog 192 [.pointer (some ⟨e,0,none⟩),.int .i64 at_,.int .i64 value] ⟨[⟨e,#[.int .i64 ev.fwd,.int .i64 ev.back,.int .i64 ev.line,.int .i64 ev.used,.bool ev.dirty,.slice e0a ev.data.length e0c],42⟩],[(ImmA e0a e0c ev.data)]⟩ (Z:=Option Addr×Nat) (fun y (za0,zc0)=>.bool y.1) (fun y (za0,zc0)=>⟨[⟨e,#[.int .i64 y.2.fwd,.int .i64 y.2.back,.int .i64 y.2.line,.int .i64 y.2.used,.bool y.2.dirty,.slice za0 y.2.data.length zc0],42⟩],[(ImmA za0 zc0 y.2.data)]⟩) y:=by
 unfold ewriteS at H
 refine xfY Tryz.func192 fun W0 F=>?_
 refine xj [102] (ι:=Bool) (fun e0_19=>⟨[(0,.pointer (some ⟨e,0,none⟩)),(1,.int .i64 at_),(2,.int .i64 value),(19,.bool e0_19)],[⟨e,#[.int .i64 ev.fwd,.int .i64 ev.back,.int .i64 ev.line,.int .i64 ev.used,.bool ev.dirty,.slice e0a ev.data.length e0c],42⟩],[(ImmA e0a e0c ev.data)]⟩) (fun e0_19=>ewriteS_j0 ev at_ value e0_19=some y) ?_ ?_
 · rintro e0_19 H
   replace H:ewriteS_j0 ev at_ value e0_19=some y:=H
   rw [ewriteS_j0] at H
   refine xs [] H ?_ ?_
   · intro H
     refine xg [1] [] [0] (gh_dup e0a e0c ev.data) fun _=>?_
     exact xrY (someE H) [] [] [0] [0] (e0a,e0c)
   · intro H
     refine bindG H fun y3_5 hy3_5 H=>?_
     refine xc [0,0] [] [0] (cloneF e0a e0c (rI e0a e0c ev.data) hy3_5) fun ⟨t3_5_a0,t3_5_c0⟩=>?_
     refine chkG H fun q4_6_1 H=>?_
     refine xi [0,0] 0 (rA t3_5_a0 t3_5_c0 y3_5) q4_6_1 fun b1 o1 e1=>?_
     refine letG H fun l4_7 hl4_7 H=>?_
     refine xo [] [] [0,2] (oc_st (α:=Int) (cap:=t3_5_c0) (e:=value) () e1 q4_6_1 hl4_7) fun _=>?_
     refine xw [300] 31 (congrArg (fun n:Nat=>(.slice t3_5_a0 n t3_5_c0:Value)) (set_len hl4_7)) ?_
     refine xg [300] [0] [] (gh_cells e 42 (congrArg (fun n:Nat=>(#[.int .i64 ev.fwd,.int .i64 ev.back,.int .i64 ev.line,.int .i64 ev.used,.bool ev.dirty,.slice t3_5_a0 n t3_5_c0]:Array Value)) (set_len hl4_7))) fun _=>?_
     refine xg [] [] [0] (gh_frz t3_5_a0 t3_5_c0 l4_7) fun _=>?_
     refine xg [] [] [0] (gh_dup t3_5_a0 t3_5_c0 l4_7) fun _=>?_
     exact xrY (someE H) [] [] [0] [0] (t3_5_a0,t3_5_c0)
 · intro N0 hN0
   refine xs [0] H ?_ ?_
   · intro H
     exact xe [0,0,0,0,0,0,1] _ [0] [0] (hN0 (true) H)
   · intro H
     refine bindG H fun y1_10 hy1_10 H=>?_
     refine xc [1,1,1,0,1,1] [] [] (eisF e0a e0c hy1_10) fun _=>?_
     exact xe [1,0] _ [0] [0] (hN0 (!y1_10) H)
def cdropS (cc:CacheS) (line:Int):Option (Ent×Bool×CacheS) :=
 (cfindS cc line).bind fun y1_2=>(bif y1_2.2 then (catS cc line).bind fun y3_2=>(delES cc.l y3_2 (wr (y3_2+(1:Int)))).bind fun y4_8=>some (y1_2.1,y1_2.2,({ cc with l:=y4_8 }:CacheS)) else some (y1_2.1,y1_2.2,cc))
theorem cdropF {cc:CacheS} {line:Int} (c:Nat) {y:Ent×Bool×CacheS} (H:cdropS cc line=some y):FnY Tryz.prog 233 [.pointer (some ⟨c,0,none⟩),.int .i64 line] ⟨[],[(CacheA c cc)]⟩ (Z:=Option Addr×Nat) (fun y (za0,zc0)=>.tuple #[.agg #[.int .i64 y.1.fwd,.int .i64 y.1.back,.int .i64 y.1.line,.int .i64 y.1.used,.bool y.1.dirty,.slice za0 y.1.data.length zc0],.bool y.2.1]) (fun y (za0,zc0)=>⟨[],[(ArrA za0 zc0 y.1.data),(CacheA c y.2.2)]⟩) y:=by
 unfold cdropS at H
 refine xfY Tryz.func233 fun W0 F=>?_
 refine xn [] fun b0_0=>?_
 refine xg [] [] [0] (gh_open (CacheO c cc)) fun ⟨a_l1,c_l2⟩=>?_
 refine bindG H fun y1_2 hy1_2 H=>?_
 refine xc [] [0] [0] (cfindF c a_l1 c_l2 hy1_2) fun ⟨t1_2_a0,t1_2_c0⟩=>?_
 refine xn [] fun b1_6=>?_
 refine xs [0] H ?_ ?_
 · intro H
   refine bindG H fun y3_2 hy3_2 H=>?_
   refine xc [1] [1] [1] (catF c a_l1 c_l2 hy3_2) fun _=>?_
   refine bindG H fun y4_8 hy4_8 H=>?_
   refine xc [0,1] [] [0] (delEF a_l1 c_l2 hy4_8) fun ⟨t4_8_a0,t4_8_c0⟩=>?_
   refine xg [0,1,2] [0] [0] (gh_shut (CacheO c ({ cc with l:=y4_8 }:CacheS)) (t4_8_a0,t4_8_c0)) fun _=>?_
   exact xrY (someE H) [] [1] [] [1,0] (t1_2_a0,t1_2_c0)
 · intro H
   refine xg [0,0,2] [1] [1] (gh_shut (CacheO c cc) (a_l1,c_l2)) fun _=>?_
   exact xrY (someE H) [] [1] [] [1,0] (t1_2_a0,t1_2_c0)
def cvic1S (a:Ent) (b:Ent):Option (Int) :=
 some (wr (a.used - b.used))
theorem cvic1F {a:Ent} {b:Ent} (a0a:Option Addr) (a0c:Nat) (b0a:Option Addr) (b0c:Nat) {y:Int} (H:cvic1S a b=some y):FnY Tryz.prog 205 [.agg #[.int .i64 a.fwd,.int .i64 a.back,.int .i64 a.line,.int .i64 a.used,.bool a.dirty,.slice a0a a.data.length a0c],.agg #[.int .i64 b.fwd,.int .i64 b.back,.int .i64 b.line,.int .i64 b.used,.bool b.dirty,.slice b0a b.data.length b0c]] ⟨[],[]⟩ (Z:=Unit) (fun y _=>.int .i64 y) (fun y _=>⟨[],[]⟩) y:=by
 unfold cvic1S at H
 refine xfY Tryz.func205 fun W0 F=>?_
 refine xn [] fun b0_0=>?_
 refine xn [] fun b0_1=>?_
 exact xrY (someE H) [1,0,1] [] [] [] ()
def cminS_j0 (e0_b3_3_0:Int) (e0_b3_3_1:Int) (e0_b3_3_2:Int) (e0_b3_3_3:Int) (e0_b3_3_4:Bool) (e0_b3_3_5x:List Int):Option (Ent) :=
 some (⟨e0_b3_3_0,e0_b3_3_1,e0_b3_3_2,e0_b3_3_3,e0_b3_3_4,e0_b3_3_5x⟩:Ent)
def cminS_l1 (s:List Ent) (k0:Int→Int→Int→Int→Bool→(List Int)→Option (Ent)):Nat→Int→Int→Int→Int→Int→Bool→(List Int)→Option (Ent)
 |0,_,_,_,_,_,_,_=>none
 |m+1,v1_6,v1_b3_3_0,v1_b3_3_1,v1_b3_3_2,v1_b3_3_3,v1_b3_3_4,v1_b3_3_5x=>(bif decide (v1_6<(s.length:Int)) then chk (0≤v1_6∧v1_6<(s.length:Int)) (letP (nthT s v1_6) fun x7_4=>(cvic1S x7_4 (⟨v1_b3_3_0,v1_b3_3_1,v1_b3_3_2,v1_b3_3_3,v1_b3_3_4,v1_b3_3_5x⟩:Ent)).bind fun y7_6=>(bif decide (y7_6<(0:Int)) then chk (0≤v1_6∧v1_6<(s.length:Int)) (letP (nthT s v1_6) fun x8_3=>chk (inR (v1_6+(1:Int))) ((cminS_l1 s k0 m) (v1_6+(1:Int)) x8_3.fwd x8_3.back x8_3.line x8_3.used x8_3.dirty x8_3.data)) else chk (inR (v1_6+(1:Int))) ((cminS_l1 s k0 m) (v1_6+(1:Int)) v1_b3_3_0 v1_b3_3_1 v1_b3_3_2 v1_b3_3_3 v1_b3_3_4 v1_b3_3_5x))) else k0 v1_b3_3_0 v1_b3_3_1 v1_b3_3_2 v1_b3_3_3 v1_b3_3_4 v1_b3_3_5x)
def cminS (s:List Ent):Option (Ent) :=
 (bif decide ((s.length:Int)<(1:Int)) then none else chk (0≤(0:Int)∧(0:Int)<(s.length:Int)) (letP (nthT s (0:Int)) fun x3_2=>cminS_l1 s cminS_j0 (s.length+1) (1:Int) x3_2.fwd x3_2.back x3_2.line x3_2.used x3_2.dirty x3_2.data))
theorem cminF {s:List Ent} {sA:Asn} (sa:Option Addr) (sc:Nat) (hsA:Rdb sA sa sc s) {y:Ent} (H:cminS s=some y):FnY Tryz.prog 204 [.slice sa s.length sc,.func (.func 205) #[] #[]] ⟨[],[sA]⟩ (Z:=Option Addr×Nat) (fun y (za0,zc0)=>.agg #[.int .i64 y.fwd,.int .i64 y.back,.int .i64 y.line,.int .i64 y.used,.bool y.dirty,.slice za0 y.data.length zc0]) (fun y (za0,zc0)=>⟨[],[(ImmA za0 zc0 y.data),sA]⟩) y:=by
 unfold cminS at H
 refine xfY Tryz.func204 fun W0 F=>?_
 refine xn [] fun b0_0=>?_
 refine xs [] H ?_ ?_
 · intro H
   exact (noneE H).elim
 · intro H
   refine chkG H fun q3_1_1 H=>?_
   refine xi [0] 0 hsA q3_1_1 fun b1 o1 e1=>?_
   refine letG H fun x3_2 hx3_2 H=>?_
   refine xo [] [] [0] (oc_ldN hsA e1 q3_1_1 hx3_2 0 6) fun z3_2_1=>?_
   refine xn [] fun b3_3=>?_
   refine xj [0,100] (ι:=Int×Int×Int×Int×Bool×List Int×Option Addr×Nat) (fun (e0_b3_3_0,e0_b3_3_1,e0_b3_3_2,e0_b3_3_3,e0_b3_3_4,e0_b3_3_5x,e0_b3_3_5a,e0_b3_3_5c)=>⟨[(4,.pointer (some ⟨b0_0,0,none⟩)),(5,.pointer (some ⟨b3_3,0,none⟩))],[⟨b3_3,#[.int .i64 e0_b3_3_0,.int .i64 e0_b3_3_1,.int .i64 e0_b3_3_2,.int .i64 e0_b3_3_3,.bool e0_b3_3_4,.slice e0_b3_3_5a e0_b3_3_5x.length e0_b3_3_5c],42⟩,⟨b0_0,#[.int .i64 (0),.int .i64 (0),.int .i64 (0),.int .i64 (0),.bool false,.slice none 0 0],42⟩],[(ImmA e0_b3_3_5a e0_b3_3_5c e0_b3_3_5x),sA]⟩) (fun (e0_b3_3_0,e0_b3_3_1,e0_b3_3_2,e0_b3_3_3,e0_b3_3_4,e0_b3_3_5x,e0_b3_3_5a,e0_b3_3_5c)=>cminS_j0 e0_b3_3_0 e0_b3_3_1 e0_b3_3_2 e0_b3_3_3 e0_b3_3_4 e0_b3_3_5x=some y) ?_ ?_
   · rintro ⟨e0_b3_3_0,e0_b3_3_1,e0_b3_3_2,e0_b3_3_3,e0_b3_3_4,e0_b3_3_5x,e0_b3_3_5a,e0_b3_3_5c⟩ H
     replace H:cminS_j0 e0_b3_3_0 e0_b3_3_1 e0_b3_3_2 e0_b3_3_3 e0_b3_3_4 e0_b3_3_5x=some y:=H
     rw [cminS_j0] at H
     refine xg [0,1] [] [0] (gh_dup e0_b3_3_5a e0_b3_3_5c e0_b3_3_5x) fun _=>?_
     exact xrY (someE H) [] [1] [] [0,1] (e0_b3_3_5a,e0_b3_3_5c)
   · intro N0 hN0
     refine xl [] (ι:=Int×Int×Int×Int×Int×Bool×List Int×Option Addr×Nat) (fun (v1_6,v1_b3_3_0,v1_b3_3_1,v1_b3_3_2,v1_b3_3_3,v1_b3_3_4,v1_b3_3_5x,v1_b3_3_5a,v1_b3_3_5c)=>⟨[(0,.slice sa s.length sc),(1,.func (.func 205) #[] #[]),(4,.pointer (some ⟨b0_0,0,none⟩)),(5,.pointer (some ⟨b3_3,0,none⟩)),(6,.int .i64 v1_6)],[⟨b3_3,#[.int .i64 v1_b3_3_0,.int .i64 v1_b3_3_1,.int .i64 v1_b3_3_2,.int .i64 v1_b3_3_3,.bool v1_b3_3_4,.slice v1_b3_3_5a v1_b3_3_5x.length v1_b3_3_5c],42⟩,⟨b0_0,#[.int .i64 (0),.int .i64 (0),.int .i64 (0),.int .i64 (0),.bool false,.slice none 0 0],42⟩],[(ImmA v1_b3_3_5a v1_b3_3_5c v1_b3_3_5x),sA]⟩) (fun m1 (v1_6,v1_b3_3_0,v1_b3_3_1,v1_b3_3_2,v1_b3_3_3,v1_b3_3_4,v1_b3_3_5x,v1_b3_3_5a,v1_b3_3_5c)=>cminS_l1 s (cminS_j0) m1 v1_6 v1_b3_3_0 v1_b3_3_1 v1_b3_3_2 v1_b3_3_3 v1_b3_3_4 v1_b3_3_5x=some y) [0,0] [0,0] ((s.length+1)) ((1:Int),x3_2.fwd,x3_2.back,x3_2.line,x3_2.used,x3_2.dirty,x3_2.data,z3_2_1.1,z3_2_1.2) H ?_
     rintro N1 (_ | m1) ⟨v1_6,v1_b3_3_0,v1_b3_3_1,v1_b3_3_2,v1_b3_3_3,v1_b3_3_4,v1_b3_3_5x,v1_b3_3_5a,v1_b3_3_5c⟩ H hN1
     · exact (noneE H).elim
     replace H:cminS_l1 s (cminS_j0) (m1+1) v1_6 v1_b3_3_0 v1_b3_3_1 v1_b3_3_2 v1_b3_3_3 v1_b3_3_4 v1_b3_3_5x=some y:=H
     rw [cminS_l1] at H
     refine xs [] H ?_ ?_
     · intro H
       refine chkG H fun q7_3_1 H=>?_
       refine xi [1,0,1,2,3] 1 hsA q7_3_1 fun b2 o2 e2=>?_
       refine letG H fun x7_4 hx7_4 H=>?_
       refine xo [5,0,4] [] [1] (oc_ldN hsA e2 q7_3_1 hx7_4 0 6) fun z7_4_1=>?_
       refine bindG H fun y7_6 hy7_6 H=>?_
       refine xc [6] [] [] (cvic1F z7_4_1.1 z7_4_1.2 v1_b3_3_5a v1_b3_3_5c hy7_6) fun _=>?_
       refine xs [7] H ?_ ?_
       · intro H
         refine chkG H fun q8_2_1 H=>?_
         refine xi [1] 1 hsA q8_2_1 fun b3 o3 e3=>?_
         refine letG H fun x8_3 hx8_3 H=>?_
         refine xo [] [] [1] (oc_ldN hsA e3 q8_2_1 hx8_3 0 6) fun z8_3_1=>?_
         refine chkG H fun q6_1_1 H=>?_
         refine xd [0,0] (ap q6_1_1 an) ?_
         exact xe [] _ [0,0] [0,0] (hN1 _ (v1_6+(1:Int),x8_3.fwd,x8_3.back,x8_3.line,x8_3.used,x8_3.dirty,x8_3.data,z8_3_1.1,z8_3_1.2) (Nat.lt_succ_self _) H)
       · intro H
         refine chkG H fun q6_1_2 H=>?_
         refine xd [0,0] (ap q6_1_2 an) ?_
         refine xg [] [] [2] (gh_dup v1_b3_3_5a v1_b3_3_5c v1_b3_3_5x) fun _=>?_
         exact xe [] _ [0,0] [0,2] (hN1 _ (v1_6+(1:Int),v1_b3_3_0,v1_b3_3_1,v1_b3_3_2,v1_b3_3_3,v1_b3_3_4,v1_b3_3_5x,v1_b3_3_5a,v1_b3_3_5c) (Nat.lt_succ_self _) H)
     · intro H
       exact xe [0] _ [0,0] [0,0] (hN0 (v1_b3_3_0,v1_b3_3_1,v1_b3_3_2,v1_b3_3_3,v1_b3_3_4,v1_b3_3_5x,v1_b3_3_5a,v1_b3_3_5c) H)
def cvicS (cc:CacheS) (line:Int):Option (Int×Bool) :=
 (csetS cc line).bind fun y1_2=>(bif decide ((y1_2.length:Int)=(0:Int)) then some ((0:Int),false) else (cminS y1_2).bind fun y4_1=>some (y4_1.line,true))
theorem cvicF {cc:CacheS} {line:Int} (c:Nat) (c_a_l:Option Addr) (c_c_l:Nat) {y:Int×Bool} (H:cvicS cc line=some y):FnY Tryz.prog 159 [.pointer (some ⟨c,0,none⟩),.int .i64 line] ⟨[⟨c,#[.slice c_a_l cc.l.length c_c_l,.int .i64 cc.sets,.int .i64 cc.ways,.int .i64 cc.clock],117⟩],[(ArrA c_a_l c_c_l cc.l)]⟩ (Z:=Unit) (fun y _=>.tuple #[.int .i64 y.1,.bool y.2]) (fun y _=>⟨[⟨c,#[.slice c_a_l cc.l.length c_c_l,.int .i64 cc.sets,.int .i64 cc.ways,.int .i64 cc.clock],117⟩],[(ArrA c_a_l c_c_l cc.l)]⟩) y:=by
 unfold cvicS at H
 refine xfY Tryz.func159 fun W0 F=>?_
 refine bindG H fun y1_2 hy1_2 H=>?_
 refine xc [] [0] [0] (csetF c c_a_l c_c_l hy1_2) fun ⟨t1_2_a0,t1_2_c0⟩=>?_
 refine xs [] H ?_ ?_
 · intro H
   exact xrY (someE H) [1] [] [0] [1] ()
 · intro H
   refine bindG H fun y4_1 hy4_1 H=>?_
   refine xc [0] [] [0] (cminF t1_2_a0 t1_2_c0 (rA t1_2_a0 t1_2_c0 y1_2) hy4_1) fun ⟨t4_1_a0,t4_1_c0⟩=>?_
   exact xrY (someE H) [] [] [0] [2] ()
end
section
open Go Go.RowKit
def alockS (d:DealS) (node:Int) (cc:CacheS) (p:PktS):Option (DealS×Bool×CacheS) :=
 (cloneS p.data).bind fun y1_8=>(bif !(decide (p.state=(0:Int))) then some ((⟨d.kind,d.line,d.id,(2:Int),p.state,p.ptr,y1_8,d.next,p.ptr⟩:DealS),true,cc) else (enewS d.line ((-1):Int) ((-1):Int) false p.data).bind fun y5_5=>(cputS cc y5_5).bind fun y5_6=>some ((⟨d.kind,d.line,d.id,(6:Int),(1:Int),node,([]:List Int),d.next,p.ptr⟩:DealS),true,y5_6.2))
theorem alockF {d:DealS} {node:Int} {cc:CacheS} {p:PktS} {p0A:Asn} (d0a:Option Addr) (d0c:Nat) (c:Nat) (p0a:Option Addr) (p0c:Nat) (hp0A:Rdb p0A p0a p0c p.data) {y:DealS×Bool×CacheS} (H:alockS d node cc p=some y):FnY Tryz.prog 219 [.agg #[.int .i64 d.kind,.int .i64 d.line,.int .i64 d.id,.int .i64 d.step,.int .i64 d.state,.int .i64 d.head,.slice d0a d.data.length d0c,.int .i64 d.next,.int .i64 d.told],.int .i64 node,.pointer (some ⟨c,0,none⟩),.agg #[.int .i64 p.kind,.int .i64 p.src,.int .i64 p.dst,.int .i64 p.id,.int .i64 p.line,.int .i64 p.ptr,.int .i64 p.state,.bool p.flag,.slice p0a p.data.length p0c]] ⟨[],[(ImmA d0a d0c d.data),(CacheA c cc),p0A]⟩ (Z:=Option Addr×Nat) (fun y (za0,zc0)=>.tuple #[.agg #[.int .i64 y.1.kind,.int .i64 y.1.line,.int .i64 y.1.id,.int .i64 y.1.step,.int .i64 y.1.state,.int .i64 y.1.head,.slice za0 y.1.data.length zc0,.int .i64 y.1.next,.int .i64 y.1.told],.bool y.2.1]) (fun y (za0,zc0)=>⟨[],[(ImmA za0 zc0 y.1.data),(CacheA c y.2.2),p0A]⟩) y:=by
 unfold alockS at H
 refine xfY Tryz.func219 fun W0 F=>?_
 refine xn [] fun b0_0=>?_
 refine xn [] fun b0_1=>?_
 refine xn [] fun b0_2=>?_
 refine bindG H fun y1_8 hy1_8 H=>?_
 refine xc [0,1,1,2,3,1,4,5,1,6,7,1,9,8] [] [2] (cloneF p0a p0c hp0A hy1_8) fun ⟨t1_8_a0,t1_8_c0⟩=>?_
 refine xs [10,2,11,12,2,13,14,2,15,16,2,2] H ?_ ?_
 · intro H
   refine xg [1,2,2,0] [] [0] (gh_frz t1_8_a0 t1_8_c0 y1_8) fun _=>?_
   refine xg [] [] [0] (gh_dup t1_8_a0 t1_8_c0 y1_8) fun _=>?_
   exact xrY (someE H) [] [0] [] [0,3,1] (t1_8_a0,t1_8_c0)
 · intro H
   refine bindG H fun y5_5 hy5_5 H=>?_
   refine xc [0,2,1] [] [1] (enewF p0a p0c hp0A hy5_5) fun ⟨t5_5_a0,t5_5_c0⟩=>?_
   refine bindG H fun y5_6 hy5_6 H=>?_
   refine xc [] [] [4,0] (cputF c t5_5_a0 t5_5_c0 (rA t5_5_a0 t5_5_c0 y5_5.data) hy5_6) fun _=>?_
   refine xg [2,2,2,2,2,0] [] [] (gh_nilI (α:=Int) none 0) fun _=>?_
   exact xrY (someE H) [] [0] [] [0,0,1] (none,0)
def atoldS (d:DealS) (node:Int) (cc:CacheS) (p:PktS):Option (DealS×Bool×CacheS) :=
 (enewS d.line d.head ((-1):Int) false p.data).bind fun y1_7=>(cputS cc y1_7).bind fun y1_8=>(bif p.flag then (cloneS p.data).bind fun y4_2=>some ((⟨d.kind,d.line,d.id,(6:Int),(1:Int),node,y4_2,d.next,d.told⟩:DealS),true,y1_8.2) else some ((⟨d.kind,d.line,d.id,(6:Int),(1:Int),node,([]:List Int),d.next,d.told⟩:DealS),true,y1_8.2))
theorem atoldF {d:DealS} {node:Int} {cc:CacheS} {p:PktS} {p0A:Asn} (d0a:Option Addr) (d0c:Nat) (c:Nat) (p0a:Option Addr) (p0c:Nat) (hp0A:Rdb p0A p0a p0c p.data) {y:DealS×Bool×CacheS} (H:atoldS d node cc p=some y):FnY Tryz.prog 220 [.agg #[.int .i64 d.kind,.int .i64 d.line,.int .i64 d.id,.int .i64 d.step,.int .i64 d.state,.int .i64 d.head,.slice d0a d.data.length d0c,.int .i64 d.next,.int .i64 d.told],.int .i64 node,.pointer (some ⟨c,0,none⟩),.agg #[.int .i64 p.kind,.int .i64 p.src,.int .i64 p.dst,.int .i64 p.id,.int .i64 p.line,.int .i64 p.ptr,.int .i64 p.state,.bool p.flag,.slice p0a p.data.length p0c]] ⟨[],[(ImmA d0a d0c d.data),(CacheA c cc),p0A]⟩ (Z:=Option Addr×Nat) (fun y (za0,zc0)=>.tuple #[.agg #[.int .i64 y.1.kind,.int .i64 y.1.line,.int .i64 y.1.id,.int .i64 y.1.step,.int .i64 y.1.state,.int .i64 y.1.head,.slice za0 y.1.data.length zc0,.int .i64 y.1.next,.int .i64 y.1.told],.bool y.2.1]) (fun y (za0,zc0)=>⟨[],[(ImmA za0 zc0 y.1.data),(CacheA c y.2.2),p0A]⟩) y:=by
 unfold atoldS at H
 refine xfY Tryz.func220 fun W0 F=>?_
 refine xn [] fun b0_0=>?_
 refine xn [] fun b0_1=>?_
 refine xn [] fun b0_2=>?_
 refine bindG H fun y1_7 hy1_7 H=>?_
 refine xc [2,2,1] [] [2] (enewF p0a p0c hp0A hy1_7) fun ⟨t1_7_a0,t1_7_c0⟩=>?_
 refine bindG H fun y1_8 hy1_8 H=>?_
 refine xc [] [] [3,0] (cputF c t1_7_a0 t1_7_c0 (rA t1_7_a0 t1_7_c0 y1_7.data) hy1_8) fun _=>?_
 refine xs [2,2,2,2,1] H ?_ ?_
 · intro H
   refine bindG H fun y4_2 hy4_2 H=>?_
   refine xc [1,1] [] [2] (cloneF p0a p0c hp0A hy4_2) fun ⟨t4_2_a0,t4_2_c0⟩=>?_
   refine xg [2,2,0] [] [0] (gh_frz t4_2_a0 t4_2_c0 y4_2) fun _=>?_
   refine xg [] [] [0] (gh_dup t4_2_a0 t4_2_c0 y4_2) fun _=>?_
   exact xrY (someE H) [] [0] [] [0,2,1] (t4_2_a0,t4_2_c0)
 · intro H
   refine xg [0,2,0] [] [] (gh_nilI (α:=Int) none 0) fun _=>?_
   exact xrY (someE H) [] [0] [] [0,0,1] (none,0)
def anextS_j0 (cc:CacheS) (d:DealS) (node:Int) (p:PktS) (e0_18:Bool):Option (DealS×Bool×CacheS) :=
 (bif e0_18 then some ((⟨(0:Int),(0:Int),(0:Int),(0:Int),(0:Int),(0:Int),([]:List Int),(0:Int),(0:Int)⟩:DealS),false,cc) else (bif decide (d.step=(1:Int)) then (alockS d node cc p).bind fun y5_4=>some (y5_4.1,y5_4.2.1,y5_4.2.2) else (bif decide (d.step=(2:Int)) then (atoldS d node cc p).bind fun y7_4=>some (y7_4.1,y7_4.2.1,y7_4.2.2) else (bif decide (d.step=(6:Int)) then some ((⟨d.kind,d.line,d.id,(0:Int),d.state,d.head,d.data,d.next,d.told⟩:DealS),true,cc) else some ((⟨(0:Int),(0:Int),(0:Int),(0:Int),(0:Int),(0:Int),([]:List Int),(0:Int),(0:Int)⟩:DealS),false,cc)))))
def anextS (d:DealS) (node:Int) (cc:CacheS) (p:PktS):Option (DealS×Bool×CacheS) :=
 (bif !(decide (d.kind=(1:Int))) then (anextS_j0 cc d node p) true else (dfitsS d p).bind fun y1_6=>(anextS_j0 cc d node p) !y1_6)
theorem anextF {d:DealS} {node:Int} {cc:CacheS} {p:PktS} {p0A:Asn} (d0a:Option Addr) (d0c:Nat) (c:Nat) (p0a:Option Addr) (p0c:Nat) (hp0A:Rdb p0A p0a p0c p.data) {y:DealS×Bool×CacheS} (H:anextS d node cc p=some y):FnY Tryz.prog 187 [.agg #[.int .i64 d.kind,.int .i64 d.line,.int .i64 d.id,.int .i64 d.step,.int .i64 d.state,.int .i64 d.head,.slice d0a d.data.length d0c,.int .i64 d.next,.int .i64 d.told],.int .i64 node,.pointer (some ⟨c,0,none⟩),.agg #[.int .i64 p.kind,.int .i64 p.src,.int .i64 p.dst,.int .i64 p.id,.int .i64 p.line,.int .i64 p.ptr,.int .i64 p.state,.bool p.flag,.slice p0a p.data.length p0c]] ⟨[],[(ImmA d0a d0c d.data),(CacheA c cc),p0A]⟩ (Z:=Option Addr×Nat) (fun y (za0,zc0)=>.tuple #[.agg #[.int .i64 y.1.kind,.int .i64 y.1.line,.int .i64 y.1.id,.int .i64 y.1.step,.int .i64 y.1.state,.int .i64 y.1.head,.slice za0 y.1.data.length zc0,.int .i64 y.1.next,.int .i64 y.1.told],.bool y.2.1]) (fun y (za0,zc0)=>⟨[],[(ImmA za0 zc0 y.1.data),(CacheA c y.2.2),p0A]⟩) y:=by
 unfold anextS at H
 refine xfY Tryz.func187 fun W0 F=>?_
 refine xn [] fun b0_0=>?_
 refine xn [] fun b0_1=>?_
 refine xn [] fun b0_2=>?_
 refine xj [101] (ι:=Bool) (fun e0_18=>⟨[(1,.int .i64 node),(2,.pointer (some ⟨c,0,none⟩)),(4,.pointer (some ⟨b0_0,0,none⟩)),(7,.pointer (some ⟨b0_1,0,none⟩)),(8,.pointer (some ⟨b0_2,0,none⟩)),(18,.bool e0_18)],[⟨b0_2,#[.int .i64 (0),.int .i64 (0),.int .i64 (0),.int .i64 (0),.int .i64 (0),.int .i64 (0),.slice none 0 0,.int .i64 (0),.int .i64 (0)],53⟩,⟨b0_1,#[.int .i64 p.kind,.int .i64 p.src,.int .i64 p.dst,.int .i64 p.id,.int .i64 p.line,.int .i64 p.ptr,.int .i64 p.state,.bool p.flag,.slice p0a p.data.length p0c],176⟩,⟨b0_0,#[.int .i64 d.kind,.int .i64 d.line,.int .i64 d.id,.int .i64 d.step,.int .i64 d.state,.int .i64 d.head,.slice d0a d.data.length d0c,.int .i64 d.next,.int .i64 d.told],53⟩],[(ImmA d0a d0c d.data),(CacheA c cc),p0A]⟩) (fun e0_18=>anextS_j0 cc d node p e0_18=some y) ?_ ?_
 · rintro e0_18 H
   replace H:anextS_j0 cc d node p e0_18=some y:=H
   rw [anextS_j0] at H
   refine xs [] H ?_ ?_
   · intro H
     refine xg [1,0] [] [] (gh_nilI (α:=Int) none 0) fun _=>?_
     exact xrY (someE H) [] [0] [] [0,1,1] (none,0)
   · intro H
     refine xs [0,2] H ?_ ?_
     · intro H
       refine xg [1,2,1] [] [0] (gh_dup d0a d0c d.data) fun _=>?_
       refine bindG H fun y5_4 hy5_4 H=>?_
       refine xc [] [] [0,1,1] (alockF d0a d0c c p0a p0c hp0A hy5_4) fun ⟨t5_4_a0,t5_4_c0⟩=>?_
       refine xg [0] [] [0] (gh_dup t5_4_a0 t5_4_c0 y5_4.1.data) fun _=>?_
       exact xrY (someE H) [] [0] [] [0,1,1] (t5_4_a0,t5_4_c0)
     · intro H
       refine xs [0] H ?_ ?_
       · intro H
         refine xg [1,2,1] [] [0] (gh_dup d0a d0c d.data) fun _=>?_
         refine bindG H fun y7_4 hy7_4 H=>?_
         refine xc [] [] [0,1,1] (atoldF d0a d0c c p0a p0c hp0A hy7_4) fun ⟨t7_4_a0,t7_4_c0⟩=>?_
         refine xg [0] [] [0] (gh_dup t7_4_a0 t7_4_c0 y7_4.1.data) fun _=>?_
         exact xrY (someE H) [] [0] [] [0,1,1] (t7_4_a0,t7_4_c0)
       · intro H
         refine xs [0] H ?_ ?_
         · intro H
           refine xg [1,2,2,0] [] [0] (gh_dup d0a d0c d.data) fun _=>?_
           exact xrY (someE H) [] [0] [] [0,1,1] (d0a,d0c)
         · intro H
           refine xg [0,0] [] [] (gh_nilI (α:=Int) none 0) fun _=>?_
           exact xrY (someE H) [] [0] [] [0,1,1] (none,0)
 · intro N0 hN0
   refine xs [2] H ?_ ?_
   · intro H
     exact xe [0,0,0,0,1] _ [0,0,0] [0,0,0] (hN0 (true) H)
   · intro H
     refine bindG H fun y1_6 hy1_6 H=>?_
     refine xc [1,2,1,1,1] [] [] (dfitsF d0a d0c p0a p0c hy1_6) fun _=>?_
     exact xe [1,0] _ [0,0,0] [0,0,0] (hN0 (!y1_6) H)
def uwalkS_j0 (d:DealS) (cc:CacheS) (node:Int) (e0_b0_0_7:Int):Option (DealS×CacheS) :=
 (bif !(decide (e0_b0_0_7=((-1):Int))) then some ((⟨d.kind,d.line,d.id,(3:Int),d.state,d.head,d.data,e0_b0_0_7,d.told⟩:DealS),cc) else (enewS d.line ((-1):Int) ((-1):Int) true d.data).bind fun y7_5=>(cputS cc y7_5).bind fun y7_6=>some ((⟨d.kind,d.line,d.id,(6:Int),(2:Int),node,([]:List Int),e0_b0_0_7,d.told⟩:DealS),y7_6.2))
def uwalkS (d:DealS) (node:Int) (cc:CacheS):Option (DealS×CacheS) :=
 (cfindS cc d.line).bind fun y1_3=>(bif decide (d.next=node) then (bif y1_3.2 then (uwalkS_j0 d cc node) y1_3.1.fwd else (uwalkS_j0 d cc node) d.next) else (uwalkS_j0 d cc node) d.next)
theorem uwalkF {d:DealS} {node:Int} {cc:CacheS} (d0a:Option Addr) (d0c:Nat) (c:Nat) {y:DealS×CacheS} (H:uwalkS d node cc=some y):FnY Tryz.prog 221 [.agg #[.int .i64 d.kind,.int .i64 d.line,.int .i64 d.id,.int .i64 d.step,.int .i64 d.state,.int .i64 d.head,.slice d0a d.data.length d0c,.int .i64 d.next,.int .i64 d.told],.int .i64 node,.pointer (some ⟨c,0,none⟩)] ⟨[],[(ImmA d0a d0c d.data),(CacheA c cc)]⟩ (Z:=Option Addr×Nat) (fun y (za0,zc0)=>.agg #[.int .i64 y.1.kind,.int .i64 y.1.line,.int .i64 y.1.id,.int .i64 y.1.step,.int .i64 y.1.state,.int .i64 y.1.head,.slice za0 y.1.data.length zc0,.int .i64 y.1.next,.int .i64 y.1.told]) (fun y (za0,zc0)=>⟨[],[(ImmA za0 zc0 y.1.data),(CacheA c y.2)]⟩) y:=by
 unfold uwalkS at H
 refine xfY Tryz.func221 fun W0 F=>?_
 refine xn [] fun b0_0=>?_
 refine xn [] fun b0_1=>?_
 refine xg [1] [] [1] (gh_open (CacheO c cc)) fun ⟨a_l1,c_l2⟩=>?_
 refine bindG H fun y1_3 hy1_3 H=>?_
 refine xc [] [0] [0] (cfindF c a_l1 c_l2 hy1_3) fun ⟨t1_3_a0,t1_3_c0⟩=>?_
 refine xn [] fun b1_7=>?_
 refine xj [0,100] (ι:=Int) (fun e0_b0_0_7=>⟨[(1,.int .i64 node),(2,.pointer (some ⟨c,0,none⟩)),(3,.pointer (some ⟨b0_0,0,none⟩)),(6,.pointer (some ⟨b0_1,0,none⟩))],[⟨c,#[.slice a_l1 cc.l.length c_l2,.int .i64 cc.sets,.int .i64 cc.ways,.int .i64 cc.clock],117⟩,⟨b0_1,#[.int .i64 (0),.int .i64 (0),.int .i64 (0),.int .i64 (0),.int .i64 (0),.int .i64 (0),.slice none 0 0,.int .i64 (0),.int .i64 (0)],53⟩,⟨b0_0,#[.int .i64 d.kind,.int .i64 d.line,.int .i64 d.id,.int .i64 d.step,.int .i64 d.state,.int .i64 d.head,.slice d0a d.data.length d0c,.int .i64 e0_b0_0_7,.int .i64 d.told],53⟩],[(ArrA a_l1 c_l2 cc.l),(ImmA d0a d0c d.data)]⟩) (fun e0_b0_0_7=>uwalkS_j0 d cc node e0_b0_0_7=some y) ?_ ?_
 · rintro e0_b0_0_7 H
   replace H:uwalkS_j0 d cc node e0_b0_0_7=some y:=H
   rw [uwalkS_j0] at H
   refine xs [2] H ?_ ?_
   · intro H
     refine xg [1,2,2,1] [] [1] (gh_dup d0a d0c d.data) fun _=>?_
     refine xg [] [0] [2] (gh_shut (CacheO c cc) (a_l1,c_l2)) fun _=>?_
     exact xrY (someE H) [] [0] [] [1,0] (d0a,d0c)
   · intro H
     refine bindG H fun y7_5 hy7_5 H=>?_
     refine xc [0,2,2] [] [1] (enewF d0a d0c (rI d0a d0c d.data) hy7_5) fun ⟨t7_5_a0,t7_5_c0⟩=>?_
     refine xg [] [0] [2] (gh_shut (CacheO c cc) (a_l1,c_l2)) fun _=>?_
     refine bindG H fun y7_6 hy7_6 H=>?_
     refine xc [] [] [0,0] (cputF c t7_5_a0 t7_5_c0 (rA t7_5_a0 t7_5_c0 y7_5.data) hy7_6) fun _=>?_
     refine xg [1,1,1,1,1,0] [] [] (gh_nilI (α:=Int) none 0) fun _=>?_
     exact xrY (someE H) [] [0] [] [0,0] (none,0)
 · intro N0 hN0
   refine xs [3] H ?_ ?_
   · intro H
     refine xs [1,1] H ?_ ?_
     · intro H
       exact xe [1,0,3] _ [1,1,1] [1,1] (hN0 (y1_3.1.fwd) H)
     · intro H
       exact xe [0] _ [1,1,1] [1,1] (hN0 (d.next) H)
   · intro H
     exact xe [0,0,0] _ [1,1,1] [1,1] (hN0 (d.next) H)
def unextS_j1 (d:DealS) (p:PktS) (node:Int) (cc:CacheS) (e1_b0_0_6x:List Int):Option (DealS×Bool×CacheS) :=
 (uwalkS (⟨d.kind,d.line,d.id,d.step,p.state,p.ptr,e1_b0_0_6x,p.ptr,p.ptr⟩:DealS) node cc).bind fun y10_3=>some (y10_3.1,true,y10_3.2)
def unextS_j2 (d:DealS) (p:PktS) (node:Int) (cc:CacheS) (e2_b0_0_6x:List Int):Option (DealS×Bool×CacheS) :=
 (uwalkS (⟨d.kind,d.line,d.id,d.step,d.state,d.head,e2_b0_0_6x,p.ptr,d.told⟩:DealS) node cc).bind fun y15_3=>some (y15_3.1,true,y15_3.2)
def unextS_j0 (cc:CacheS) (d:DealS) (p:PktS) (node:Int) (e0_20:Bool):Option (DealS×Bool×CacheS) :=
 (bif e0_20 then some ((⟨(0:Int),(0:Int),(0:Int),(0:Int),(0:Int),(0:Int),([]:List Int),(0:Int),(0:Int)⟩:DealS),false,cc) else (cfindS cc d.line).bind fun y3_3=>(bif decide (d.step=(1:Int)) then (cloneS p.data).bind fun y6_8=>(bif y3_3.2 then (unextS_j1 d p node cc) y3_3.1.data else (unextS_j1 d p node cc) y6_8) else (bif decide (d.step=(3:Int)) then (bif !y3_3.2 then (cloneS p.data).bind fun y13_2=>(unextS_j2 d p node cc) y13_2 else (unextS_j2 d p node cc) d.data) else (bif decide (d.step=(6:Int)) then some ((⟨d.kind,d.line,d.id,(0:Int),d.state,d.head,d.data,d.next,d.told⟩:DealS),true,cc) else some ((⟨(0:Int),(0:Int),(0:Int),(0:Int),(0:Int),(0:Int),([]:List Int),(0:Int),(0:Int)⟩:DealS),false,cc)))))
def unextS (d:DealS) (node:Int) (cc:CacheS) (p:PktS):Option (DealS×Bool×CacheS) :=
 (bif !(decide (d.kind=(2:Int))) then (unextS_j0 cc d p node) true else (dfitsS d p).bind fun y1_6=>(unextS_j0 cc d p node) !y1_6)
theorem unextF {d:DealS} {node:Int} {cc:CacheS} {p:PktS} {p0A:Asn} (d0a:Option Addr) (d0c:Nat) (c:Nat) (p0a:Option Addr) (p0c:Nat) (hp0A:Rdb p0A p0a p0c p.data) {y:DealS×Bool×CacheS} (H:unextS d node cc p=some y):FnY Tryz.prog 188 [.agg #[.int .i64 d.kind,.int .i64 d.line,.int .i64 d.id,.int .i64 d.step,.int .i64 d.state,.int .i64 d.head,.slice d0a d.data.length d0c,.int .i64 d.next,.int .i64 d.told],.int .i64 node,.pointer (some ⟨c,0,none⟩),.agg #[.int .i64 p.kind,.int .i64 p.src,.int .i64 p.dst,.int .i64 p.id,.int .i64 p.line,.int .i64 p.ptr,.int .i64 p.state,.bool p.flag,.slice p0a p.data.length p0c]] ⟨[],[(ImmA d0a d0c d.data),(CacheA c cc),p0A]⟩ (Z:=Option Addr×Nat) (fun y (za0,zc0)=>.tuple #[.agg #[.int .i64 y.1.kind,.int .i64 y.1.line,.int .i64 y.1.id,.int .i64 y.1.step,.int .i64 y.1.state,.int .i64 y.1.head,.slice za0 y.1.data.length zc0,.int .i64 y.1.next,.int .i64 y.1.told],.bool y.2.1]) (fun y (za0,zc0)=>⟨[],[(ImmA za0 zc0 y.1.data),(CacheA c y.2.2),p0A]⟩) y:=by
 unfold unextS at H
 refine xfY Tryz.func188 fun W0 F=>?_
 refine xn [] fun b0_0=>?_
 refine xn [] fun b0_1=>?_
 refine xn [] fun b0_2=>?_
 refine xj [101] (ι:=Bool) (fun e0_20=>⟨[(1,.int .i64 node),(2,.pointer (some ⟨c,0,none⟩)),(4,.pointer (some ⟨b0_0,0,none⟩)),(7,.pointer (some ⟨b0_1,0,none⟩)),(8,.pointer (some ⟨b0_2,0,none⟩)),(20,.bool e0_20)],[⟨b0_2,#[.int .i64 (0),.int .i64 (0),.int .i64 (0),.int .i64 (0),.int .i64 (0),.int .i64 (0),.slice none 0 0,.int .i64 (0),.int .i64 (0)],53⟩,⟨b0_1,#[.int .i64 p.kind,.int .i64 p.src,.int .i64 p.dst,.int .i64 p.id,.int .i64 p.line,.int .i64 p.ptr,.int .i64 p.state,.bool p.flag,.slice p0a p.data.length p0c],176⟩,⟨b0_0,#[.int .i64 d.kind,.int .i64 d.line,.int .i64 d.id,.int .i64 d.step,.int .i64 d.state,.int .i64 d.head,.slice d0a d.data.length d0c,.int .i64 d.next,.int .i64 d.told],53⟩],[(ImmA d0a d0c d.data),(CacheA c cc),p0A]⟩) (fun e0_20=>unextS_j0 cc d p node e0_20=some y) ?_ ?_
 · rintro e0_20 H
   replace H:unextS_j0 cc d p node e0_20=some y:=H
   rw [unextS_j0] at H
   refine xs [] H ?_ ?_
   · intro H
     refine xg [1,0] [] [] (gh_nilI (α:=Int) none 0) fun _=>?_
     exact xrY (someE H) [] [0] [] [0,1,1] (none,0)
   · intro H
     refine xg [0,2] [] [1] (gh_open (CacheO c cc)) fun ⟨a_l1,c_l2⟩=>?_
     refine bindG H fun y3_3 hy3_3 H=>?_
     refine xc [] [0] [0] (cfindF c a_l1 c_l2 hy3_3) fun ⟨t3_3_a0,t3_3_c0⟩=>?_
     refine xn [] fun b3_7=>?_
     refine xs [0,4] H ?_ ?_
     · intro H
       refine bindG H fun y6_8 hy6_8 H=>?_
       refine xc [1,0,1,3,2,3,3,4,5,3,6,7,3,9,8] [] [3] (cloneF p0a p0c hp0A hy6_8) fun ⟨t6_8_a0,t6_8_c0⟩=>?_
       refine xj [10,4,11,12,4,13,14,4,15,16,4,100] (ι:=List Int×Option Addr×Nat) (fun (e1_b0_0_6x,e1_b0_0_6a,e1_b0_0_6c)=>⟨[(1,.int .i64 node),(2,.pointer (some ⟨c,0,none⟩)),(4,.pointer (some ⟨b0_0,0,none⟩)),(8,.pointer (some ⟨b0_2,0,none⟩))],[⟨c,#[.slice a_l1 cc.l.length c_l2,.int .i64 cc.sets,.int .i64 cc.ways,.int .i64 cc.clock],117⟩,⟨b0_2,#[.int .i64 (0),.int .i64 (0),.int .i64 (0),.int .i64 (0),.int .i64 (0),.int .i64 (0),.slice none 0 0,.int .i64 (0),.int .i64 (0)],53⟩,⟨b0_0,#[.int .i64 d.kind,.int .i64 d.line,.int .i64 d.id,.int .i64 d.step,.int .i64 p.state,.int .i64 p.ptr,.slice e1_b0_0_6a e1_b0_0_6x.length e1_b0_0_6c,.int .i64 d.next,.int .i64 p.ptr],53⟩],[(ArrA e1_b0_0_6a e1_b0_0_6c e1_b0_0_6x),p0A,(ArrA a_l1 c_l2 cc.l)]⟩) (fun (e1_b0_0_6x,e1_b0_0_6a,e1_b0_0_6c)=>unextS_j1 d p node cc e1_b0_0_6x=some y) ?_ ?_
       · rintro ⟨e1_b0_0_6x,e1_b0_0_6a,e1_b0_0_6c⟩ H
         replace H:unextS_j1 d p node cc e1_b0_0_6x=some y:=H
         rw [unextS_j1] at H
         refine xg [2,2,2] [] [0] (gh_frz e1_b0_0_6a e1_b0_0_6c e1_b0_0_6x) fun _=>?_
         refine xg [] [] [0] (gh_dup e1_b0_0_6a e1_b0_0_6c e1_b0_0_6x) fun _=>?_
         refine xg [] [0] [3] (gh_shut (CacheO c cc) (a_l1,c_l2)) fun _=>?_
         refine bindG H fun y10_3 hy10_3 H=>?_
         refine xc [] [] [1,0] (uwalkF e1_b0_0_6a e1_b0_0_6c c hy10_3) fun ⟨t10_3_a0,t10_3_c0⟩=>?_
         refine xg [0] [] [0] (gh_dup t10_3_a0 t10_3_c0 y10_3.1.data) fun _=>?_
         exact xrY (someE H) [] [0] [] [0,1,2] (t10_3_a0,t10_3_c0)
       · intro N1 hN1
         refine xs [] H ?_ ?_
         · intro H
           exact xe [1,0,4] _ [1,1,2] [2,1,1] (hN1 (y3_3.1.data,t3_3_a0,t3_3_c0) H)
         · intro H
           exact xe [0] _ [1,1,2] [0,0,1] (hN1 (y6_8,t6_8_a0,t6_8_c0) H)
     · intro H
       refine xs [0] H ?_ ?_
       · intro H
         refine xj [1,100] (ι:=List Int×Option Addr×Nat) (fun (e2_b0_0_6x,e2_b0_0_6a,e2_b0_0_6c)=>⟨[(1,.int .i64 node),(2,.pointer (some ⟨c,0,none⟩)),(4,.pointer (some ⟨b0_0,0,none⟩)),(7,.pointer (some ⟨b0_1,0,none⟩)),(8,.pointer (some ⟨b0_2,0,none⟩))],[⟨c,#[.slice a_l1 cc.l.length c_l2,.int .i64 cc.sets,.int .i64 cc.ways,.int .i64 cc.clock],117⟩,⟨b0_2,#[.int .i64 (0),.int .i64 (0),.int .i64 (0),.int .i64 (0),.int .i64 (0),.int .i64 (0),.slice none 0 0,.int .i64 (0),.int .i64 (0)],53⟩,⟨b0_1,#[.int .i64 p.kind,.int .i64 p.src,.int .i64 p.dst,.int .i64 p.id,.int .i64 p.line,.int .i64 p.ptr,.int .i64 p.state,.bool p.flag,.slice p0a p.data.length p0c],176⟩,⟨b0_0,#[.int .i64 d.kind,.int .i64 d.line,.int .i64 d.id,.int .i64 d.step,.int .i64 d.state,.int .i64 d.head,.slice e2_b0_0_6a e2_b0_0_6x.length e2_b0_0_6c,.int .i64 d.next,.int .i64 d.told],53⟩],[(ImmA e2_b0_0_6a e2_b0_0_6c e2_b0_0_6x),p0A,(ArrA a_l1 c_l2 cc.l)]⟩) (fun (e2_b0_0_6x,e2_b0_0_6a,e2_b0_0_6c)=>unextS_j2 d p node cc e2_b0_0_6x=some y) ?_ ?_
         · rintro ⟨e2_b0_0_6x,e2_b0_0_6a,e2_b0_0_6c⟩ H
           replace H:unextS_j2 d p node cc e2_b0_0_6x=some y:=H
           rw [unextS_j2] at H
           refine xg [2,3,3] [] [0] (gh_dup e2_b0_0_6a e2_b0_0_6c e2_b0_0_6x) fun _=>?_
           refine xg [] [0] [3] (gh_shut (CacheO c cc) (a_l1,c_l2)) fun _=>?_
           refine bindG H fun y15_3 hy15_3 H=>?_
           refine xc [] [] [1,0] (uwalkF e2_b0_0_6a e2_b0_0_6c c hy15_3) fun ⟨t15_3_a0,t15_3_c0⟩=>?_
           refine xg [0] [] [0] (gh_dup t15_3_a0 t15_3_c0 y15_3.1.data) fun _=>?_
           exact xrY (someE H) [] [0] [] [0,1,2] (t15_3_a0,t15_3_c0)
         · intro N2 hN2
           refine xs [] H ?_ ?_
           · intro H
             refine bindG H fun y13_2 hy13_2 H=>?_
             refine xc [1,3] [] [3] (cloneF p0a p0c hp0A hy13_2) fun ⟨t13_2_a0,t13_2_c0⟩=>?_
             refine xg [4] [] [0] (gh_frz t13_2_a0 t13_2_c0 y13_2) fun _=>?_
             exact xe [] _ [1,1,1,1] [0,0,1] (hN2 (y13_2,t13_2_a0,t13_2_c0) H)
           · intro H
             exact xe [0] _ [1,1,1,1] [2,2,1] (hN2 (d.data,d0a,d0c) H)
       · intro H
         refine xs [0] H ?_ ?_
         · intro H
           refine xg [1,4,4,2] [] [2] (gh_dup d0a d0c d.data) fun _=>?_
           refine xg [] [1] [3] (gh_shut (CacheO c cc) (a_l1,c_l2)) fun _=>?_
           exact xrY (someE H) [] [1] [] [1,0,2] (d0a,d0c)
         · intro H
           refine xg [0,2] [] [] (gh_nilI (α:=Int) none 0) fun _=>?_
           refine xg [] [1] [2] (gh_shut (CacheO c cc) (a_l1,c_l2)) fun _=>?_
           exact xrY (someE H) [] [1] [] [1,0,2] (none,0)
 · intro N0 hN0
   refine xs [2] H ?_ ?_
   · intro H
     exact xe [0,0,0,0,1] _ [0,0,0] [0,0,0] (hN0 (true) H)
   · intro H
     refine bindG H fun y1_6 hy1_6 H=>?_
     refine xc [1,2,1,1,1] [] [] (dfitsF d0a d0c p0a p0c hy1_6) fun _=>?_
     exact xe [1,0] _ [0,0,0] [0,0,0] (hN0 (!y1_6) H)
def ooutS (d:DealS) (cc:CacheS) (head:Int):Option (DealS×CacheS) :=
 (cdropS cc d.line).bind fun y1_3=>some ((⟨d.kind,d.line,d.id,(6:Int),(1:Int),head,([]:List Int),d.next,d.told⟩:DealS),y1_3.2.2)
theorem ooutF {d:DealS} {cc:CacheS} {head:Int} (d0a:Option Addr) (d0c:Nat) (c:Nat) {y:DealS×CacheS} (H:ooutS d cc head=some y):FnY Tryz.prog 223 [.agg #[.int .i64 d.kind,.int .i64 d.line,.int .i64 d.id,.int .i64 d.step,.int .i64 d.state,.int .i64 d.head,.slice d0a d.data.length d0c,.int .i64 d.next,.int .i64 d.told],.pointer (some ⟨c,0,none⟩),.int .i64 head] ⟨[],[(ImmA d0a d0c d.data),(CacheA c cc)]⟩ (Z:=Option Addr×Nat) (fun y (za0,zc0)=>.agg #[.int .i64 y.1.kind,.int .i64 y.1.line,.int .i64 y.1.id,.int .i64 y.1.step,.int .i64 y.1.state,.int .i64 y.1.head,.slice za0 y.1.data.length zc0,.int .i64 y.1.next,.int .i64 y.1.told]) (fun y (za0,zc0)=>⟨[],[(ImmA za0 zc0 y.1.data),(CacheA c y.2)]⟩) y:=by
 unfold ooutS at H
 refine xfY Tryz.func223 fun W0 F=>?_
 refine xn [] fun b0_0=>?_
 refine xn [] fun b0_1=>?_
 refine bindG H fun y1_3 hy1_3 H=>?_
 refine xc [1] [] [1] (cdropF c hy1_3) fun ⟨t1_3_a0,t1_3_c0⟩=>?_
 refine xg [1,1,1,1,1,0] [] [] (gh_nilI (α:=Int) none 0) fun _=>?_
 exact xrY (someE H) [] [0] [] [0,1] (none,0)
def olockS_j0 (d:DealS) (p:PktS) (e0_b0_0_3:Int) (e0_b0_0_4:Int) (e0_b0_0_5:Int) (e0_b0_0_6x:List Int) (e0_b0_0_7:Int) (e0_c:CacheS):Option (DealS×CacheS) :=
 some ((⟨d.kind,d.line,d.id,e0_b0_0_3,e0_b0_0_4,e0_b0_0_5,e0_b0_0_6x,e0_b0_0_7,p.ptr⟩:DealS),e0_c)
def olockS (d:DealS) (cc:CacheS) (p:PktS):Option (DealS×CacheS) :=
 (cfindS cc d.line).bind fun y3_3=>(bif !y3_3.2 then some ((⟨d.kind,d.line,d.id,(6:Int),p.state,p.ptr,([]:List Int),d.next,p.ptr⟩:DealS),cc) else (eonlyS (⟨y3_3.1.fwd,y3_3.1.back⟩:LinkS)).bind fun y7_2=>(bif y7_2 then (cdropS cc d.line).bind fun y8_3=>(bif y3_3.1.dirty then (olockS_j0 d p) (6:Int) (0:Int) ((-1):Int) y3_3.1.data d.next y8_3.2.2 else (olockS_j0 d p) (6:Int) (0:Int) ((-1):Int) ([]:List Int) d.next y8_3.2.2) else (eheadS (⟨y3_3.1.fwd,y3_3.1.back⟩:LinkS)).bind fun y12_2=>(bif y12_2 then (olockS_j0 d p) (5:Int) p.state ((-1):Int) ([]:List Int) y3_3.1.fwd cc else (olockS_j0 d p) (4:Int) p.state y3_3.1.back ([]:List Int) y3_3.1.fwd cc)))
theorem olockF {d:DealS} {cc:CacheS} {p:PktS} {p0A:Asn} (d0a:Option Addr) (d0c:Nat) (c:Nat) (p0a:Option Addr) (p0c:Nat) (hp0A:Rdb p0A p0a p0c p.data) {y:DealS×CacheS} (H:olockS d cc p=some y):FnY Tryz.prog 222 [.agg #[.int .i64 d.kind,.int .i64 d.line,.int .i64 d.id,.int .i64 d.step,.int .i64 d.state,.int .i64 d.head,.slice d0a d.data.length d0c,.int .i64 d.next,.int .i64 d.told],.pointer (some ⟨c,0,none⟩),.agg #[.int .i64 p.kind,.int .i64 p.src,.int .i64 p.dst,.int .i64 p.id,.int .i64 p.line,.int .i64 p.ptr,.int .i64 p.state,.bool p.flag,.slice p0a p.data.length p0c]] ⟨[],[(ImmA d0a d0c d.data),(CacheA c cc),p0A]⟩ (Z:=Option Addr×Nat) (fun y (za0,zc0)=>.agg #[.int .i64 y.1.kind,.int .i64 y.1.line,.int .i64 y.1.id,.int .i64 y.1.step,.int .i64 y.1.state,.int .i64 y.1.head,.slice za0 y.1.data.length zc0,.int .i64 y.1.next,.int .i64 y.1.told]) (fun y (za0,zc0)=>⟨[],[(ImmA za0 zc0 y.1.data),(CacheA c y.2),p0A]⟩) y:=by
 unfold olockS at H
 refine xfY Tryz.func222 fun W0 F=>?_
 refine xn [] fun b0_0=>?_
 refine xn [] fun b0_1=>?_
 refine xn [] fun b0_2=>?_
 refine xg [0,1,1,2,3,1,4,5,1,6,7,2,8,9,2,10,11,2,12,13,2,2,2] [] [1] (gh_open (CacheO c cc)) fun ⟨a_l1,c_l2⟩=>?_
 refine bindG H fun y3_3 hy3_3 H=>?_
 refine xc [] [0] [0] (cfindF c a_l1 c_l2 hy3_3) fun ⟨t3_3_a0,t3_3_c0⟩=>?_
 refine xn [] fun b3_7=>?_
 refine xj [0,100] (ι:=Int×Int×Int×List Int×Int×CacheS×Option Addr×Nat) (fun (e0_b0_0_3,e0_b0_0_4,e0_b0_0_5,e0_b0_0_6x,e0_b0_0_7,e0_c,e0_b0_0_6a,e0_b0_0_6c)=>⟨[(3,.pointer (some ⟨b0_0,0,none⟩)),(6,.pointer (some ⟨b0_2,0,none⟩))],[⟨b0_2,#[.int .i64 (0),.int .i64 (0),.int .i64 (0),.int .i64 (0),.int .i64 (0),.int .i64 (0),.slice none 0 0,.int .i64 (0),.int .i64 (0)],53⟩,⟨b0_0,#[.int .i64 d.kind,.int .i64 d.line,.int .i64 d.id,.int .i64 e0_b0_0_3,.int .i64 e0_b0_0_4,.int .i64 e0_b0_0_5,.slice e0_b0_0_6a e0_b0_0_6x.length e0_b0_0_6c,.int .i64 e0_b0_0_7,.int .i64 p.ptr],53⟩],[(ArrA e0_b0_0_6a e0_b0_0_6c e0_b0_0_6x),(CacheA c e0_c),p0A]⟩) (fun (e0_b0_0_3,e0_b0_0_4,e0_b0_0_5,e0_b0_0_6x,e0_b0_0_7,e0_c,e0_b0_0_6a,e0_b0_0_6c)=>olockS_j0 d p e0_b0_0_3 e0_b0_0_4 e0_b0_0_5 e0_b0_0_6x e0_b0_0_7 e0_c=some y) ?_ ?_
 · rintro ⟨e0_b0_0_3,e0_b0_0_4,e0_b0_0_5,e0_b0_0_6x,e0_b0_0_7,e0_c,e0_b0_0_6a,e0_b0_0_6c⟩ H
   replace H:olockS_j0 d p e0_b0_0_3 e0_b0_0_4 e0_b0_0_5 e0_b0_0_6x e0_b0_0_7 e0_c=some y:=H
   rw [olockS_j0] at H
   refine xg [1,0] [] [0] (gh_frz e0_b0_0_6a e0_b0_0_6c e0_b0_0_6x) fun _=>?_
   refine xg [] [] [0] (gh_dup e0_b0_0_6a e0_b0_0_6c e0_b0_0_6x) fun _=>?_
   exact xrY (someE H) [] [0] [] [0,1,1] (e0_b0_0_6a,e0_b0_0_6c)
 · intro N0 hN0
   refine xs [] H ?_ ?_
   · intro H
     refine xg [1,4,2] [] [] (gh_nilI (α:=Int) none 0) fun _=>?_
     refine xg [] [1] [2] (gh_shut (CacheO c cc) (a_l1,c_l2)) fun _=>?_
     exact xrY (someE H) [] [1] [] [1,0,2] (none,0)
   · intro H
     refine bindG H fun y7_2 hy7_2 H=>?_
     refine xc [0,0] [] [] (eonlyF hy7_2) fun _=>?_
     refine xs [] H ?_ ?_
     · intro H
       refine xg [1,4] [1] [1] (gh_shut (CacheO c cc) (a_l1,c_l2)) fun _=>?_
       refine bindG H fun y8_3 hy8_3 H=>?_
       refine xc [] [] [0] (cdropF c hy8_3) fun ⟨t8_3_a0,t8_3_c0⟩=>?_
       refine xs [3,3,0] H ?_ ?_
       · intro H
         exact xe [1,0,3] _ [1,2] [2,1,2] (hN0 ((6:Int),(0:Int),((-1):Int),y3_3.1.data,d.next,y8_3.2.2,t3_3_a0,t3_3_c0) H)
       · intro H
         refine xg [0] [] [] (gh_nil (α:=Int) none) fun _=>?_
         exact xe [] _ [1,2] [0,1,3] (hN0 ((6:Int),(0:Int),((-1):Int),([]:List Int),d.next,y8_3.2.2,none,0) H)
     · intro H
       refine bindG H fun y12_2 hy12_2 H=>?_
       refine xc [0,0] [] [] (eheadF hy12_2) fun _=>?_
       refine xs [] H ?_ ?_
       · intro H
         refine xg [1,0,1,2,0,3,4,4,5,6,4,7,8,4] [1] [1] (gh_shut (CacheO c cc) (a_l1,c_l2)) fun _=>?_
         refine xg [] [] [] (gh_nil (α:=Int) none) fun _=>?_
         exact xe [] _ [1,2] [0,0,2] (hN0 ((5:Int),p.state,((-1):Int),([]:List Int),y3_3.1.fwd,cc,none,0) H)
       · intro H
         refine xg [0,0,1,2,0,3,4,5,0,6,7,4,8,9,4,10,11,4] [1] [1] (gh_shut (CacheO c cc) (a_l1,c_l2)) fun _=>?_
         refine xg [] [] [] (gh_nil (α:=Int) none) fun _=>?_
         exact xe [] _ [1,2] [0,0,2] (hN0 ((4:Int),p.state,y3_3.1.back,([]:List Int),y3_3.1.fwd,cc,none,0) H)
def onextS_j0 (cc:CacheS) (d:DealS) (p:PktS) (e0_18:Bool):Option (DealS×Bool×CacheS) :=
 (bif e0_18 then some ((⟨(0:Int),(0:Int),(0:Int),(0:Int),(0:Int),(0:Int),([]:List Int),(0:Int),(0:Int)⟩:DealS),false,cc) else (bif decide (d.step=(1:Int)) then (olockS d cc p).bind fun y5_3=>some (y5_3.1,true,y5_3.2) else (bif decide (d.step=(4:Int)) then (bif decide (d.next=((-1):Int)) then (ooutS d cc d.told).bind fun y8_4=>some (y8_4.1,true,y8_4.2) else some ((⟨d.kind,d.line,d.id,(5:Int),d.state,d.head,d.data,d.next,d.told⟩:DealS),true,cc)) else (bif decide (d.step=(5:Int)) then (bif decide (d.head=((-1):Int)) then (ooutS d cc d.next).bind fun y13_4=>some (y13_4.1,true,y13_4.2) else (ooutS d cc d.told).bind fun y14_4=>some (y14_4.1,true,y14_4.2)) else (bif decide (d.step=(6:Int)) then some ((⟨d.kind,d.line,d.id,(0:Int),d.state,d.head,d.data,d.next,d.told⟩:DealS),true,cc) else some ((⟨(0:Int),(0:Int),(0:Int),(0:Int),(0:Int),(0:Int),([]:List Int),(0:Int),(0:Int)⟩:DealS),false,cc))))))
def onextS (d:DealS) (node:Int) (cc:CacheS) (p:PktS):Option (DealS×Bool×CacheS) :=
 (bif !(decide (d.kind=(3:Int))) then (onextS_j0 cc d p) true else (dfitsS d p).bind fun y1_6=>(onextS_j0 cc d p) !y1_6)
theorem onextF {d:DealS} {node:Int} {cc:CacheS} {p:PktS} {p0A:Asn} (d0a:Option Addr) (d0c:Nat) (c:Nat) (p0a:Option Addr) (p0c:Nat) (hp0A:Rdb p0A p0a p0c p.data) {y:DealS×Bool×CacheS} (H:onextS d node cc p=some y):FnY Tryz.prog 189 [.agg #[.int .i64 d.kind,.int .i64 d.line,.int .i64 d.id,.int .i64 d.step,.int .i64 d.state,.int .i64 d.head,.slice d0a d.data.length d0c,.int .i64 d.next,.int .i64 d.told],.int .i64 node,.pointer (some ⟨c,0,none⟩),.agg #[.int .i64 p.kind,.int .i64 p.src,.int .i64 p.dst,.int .i64 p.id,.int .i64 p.line,.int .i64 p.ptr,.int .i64 p.state,.bool p.flag,.slice p0a p.data.length p0c]] ⟨[],[(ImmA d0a d0c d.data),(CacheA c cc),p0A]⟩ (Z:=Option Addr×Nat) (fun y (za0,zc0)=>.tuple #[.agg #[.int .i64 y.1.kind,.int .i64 y.1.line,.int .i64 y.1.id,.int .i64 y.1.step,.int .i64 y.1.state,.int .i64 y.1.head,.slice za0 y.1.data.length zc0,.int .i64 y.1.next,.int .i64 y.1.told],.bool y.2.1]) (fun y (za0,zc0)=>⟨[],[(ImmA za0 zc0 y.1.data),(CacheA c y.2.2),p0A]⟩) y:=by
 unfold onextS at H
 refine xfY Tryz.func189 fun W0 F=>?_
 refine xn [] fun b0_0=>?_
 refine xn [] fun b0_1=>?_
 refine xn [] fun b0_2=>?_
 refine xj [101] (ι:=Bool) (fun e0_18=>⟨[(2,.pointer (some ⟨c,0,none⟩)),(4,.pointer (some ⟨b0_0,0,none⟩)),(7,.pointer (some ⟨b0_1,0,none⟩)),(8,.pointer (some ⟨b0_2,0,none⟩)),(18,.bool e0_18)],[⟨b0_2,#[.int .i64 (0),.int .i64 (0),.int .i64 (0),.int .i64 (0),.int .i64 (0),.int .i64 (0),.slice none 0 0,.int .i64 (0),.int .i64 (0)],53⟩,⟨b0_1,#[.int .i64 p.kind,.int .i64 p.src,.int .i64 p.dst,.int .i64 p.id,.int .i64 p.line,.int .i64 p.ptr,.int .i64 p.state,.bool p.flag,.slice p0a p.data.length p0c],176⟩,⟨b0_0,#[.int .i64 d.kind,.int .i64 d.line,.int .i64 d.id,.int .i64 d.step,.int .i64 d.state,.int .i64 d.head,.slice d0a d.data.length d0c,.int .i64 d.next,.int .i64 d.told],53⟩],[(ImmA d0a d0c d.data),(CacheA c cc),p0A]⟩) (fun e0_18=>onextS_j0 cc d p e0_18=some y) ?_ ?_
 · rintro e0_18 H
   replace H:onextS_j0 cc d p e0_18=some y:=H
   rw [onextS_j0] at H
   refine xs [] H ?_ ?_
   · intro H
     refine xg [1,0] [] [] (gh_nilI (α:=Int) none 0) fun _=>?_
     exact xrY (someE H) [] [0] [] [0,1,1] (none,0)
   · intro H
     refine xs [0,2] H ?_ ?_
     · intro H
       refine xg [1,2,1] [] [0] (gh_dup d0a d0c d.data) fun _=>?_
       refine bindG H fun y5_3 hy5_3 H=>?_
       refine xc [] [] [0,1,1] (olockF d0a d0c c p0a p0c hp0A hy5_3) fun ⟨t5_3_a0,t5_3_c0⟩=>?_
       refine xg [0] [] [0] (gh_dup t5_3_a0 t5_3_c0 y5_3.1.data) fun _=>?_
       exact xrY (someE H) [] [0] [] [0,1,1] (t5_3_a0,t5_3_c0)
     · intro H
       refine xs [0] H ?_ ?_
       · intro H
         refine xs [1,2] H ?_ ?_
         · intro H
           refine xg [1,2,2] [] [0] (gh_dup d0a d0c d.data) fun _=>?_
           refine bindG H fun y8_4 hy8_4 H=>?_
           refine xc [] [] [0,1] (ooutF d0a d0c c hy8_4) fun ⟨t8_4_a0,t8_4_c0⟩=>?_
           refine xg [0] [] [0] (gh_dup t8_4_a0 t8_4_c0 y8_4.1.data) fun _=>?_
           exact xrY (someE H) [] [0] [] [0,1,2] (t8_4_a0,t8_4_c0)
         · intro H
           refine xg [0,2,2,0] [] [0] (gh_dup d0a d0c d.data) fun _=>?_
           exact xrY (someE H) [] [0] [] [0,1,1] (d0a,d0c)
       · intro H
         refine xs [0] H ?_ ?_
         · intro H
           refine xs [1,2] H ?_ ?_
           · intro H
             refine xg [1,2,2] [] [0] (gh_dup d0a d0c d.data) fun _=>?_
             refine bindG H fun y13_4 hy13_4 H=>?_
             refine xc [] [] [0,1] (ooutF d0a d0c c hy13_4) fun ⟨t13_4_a0,t13_4_c0⟩=>?_
             refine xg [0] [] [0] (gh_dup t13_4_a0 t13_4_c0 y13_4.1.data) fun _=>?_
             exact xrY (someE H) [] [0] [] [0,1,2] (t13_4_a0,t13_4_c0)
           · intro H
             refine xg [0,2,2] [] [0] (gh_dup d0a d0c d.data) fun _=>?_
             refine bindG H fun y14_4 hy14_4 H=>?_
             refine xc [] [] [0,1] (ooutF d0a d0c c hy14_4) fun ⟨t14_4_a0,t14_4_c0⟩=>?_
             refine xg [0] [] [0] (gh_dup t14_4_a0 t14_4_c0 y14_4.1.data) fun _=>?_
             exact xrY (someE H) [] [0] [] [0,1,2] (t14_4_a0,t14_4_c0)
         · intro H
           refine xs [0] H ?_ ?_
           · intro H
             refine xg [1,2,2,0] [] [0] (gh_dup d0a d0c d.data) fun _=>?_
             exact xrY (someE H) [] [0] [] [0,1,1] (d0a,d0c)
           · intro H
             refine xg [0,0] [] [] (gh_nilI (α:=Int) none 0) fun _=>?_
             exact xrY (someE H) [] [0] [] [0,1,1] (none,0)
 · intro N0 hN0
   refine xs [2] H ?_ ?_
   · intro H
     exact xe [0,0,0,0,1] _ [0,0,0] [0,0,0] (hN0 (true) H)
   · intro H
     refine bindG H fun y1_6 hy1_6 H=>?_
     refine xc [1,2,1,1,1] [] [] (dfitsF d0a d0c p0a p0c hy1_6) fun _=>?_
     exact xe [1,0] _ [0,0,0] [0,0,0] (hN0 (!y1_6) H)
end
section
open Go Go.RowKit
def shanS_j0 (cc:CacheS) (p:PktS) (e0_21:Bool):Option (PktS×Int×CacheS) :=
 (bif e0_21 then some ((⟨(0:Int),(0:Int),(0:Int),(0:Int),(0:Int),(0:Int),(0:Int),false,([]:List Int)⟩:PktS),(1:Int),cc) else (cfindS cc p.line).bind fun y3_3=>(bif !y3_3.2 then some ((⟨(0:Int),(0:Int),(0:Int),(0:Int),(0:Int),(0:Int),(0:Int),false,([]:List Int)⟩:PktS),(3:Int),cc) else (pansS p.kind).bind fun y6_2=>(bif decide (p.kind=(3:Int)) then (esbS (⟨y3_3.1.fwd,y3_3.1.back,y3_3.1.line,y3_3.1.used,false,y3_3.1.data⟩:Ent) p.ptr).bind fun y11_3=>(cputS cc y11_3).bind fun y20_3=>some ((⟨y6_2,p.dst,p.src,p.id,p.line,(0:Int),(0:Int),y3_3.1.dirty,y3_3.1.data⟩:PktS),y20_3.1,y20_3.2) else (bif decide (p.kind=(4:Int)) then (esfS y3_3.1 p.ptr).bind fun y13_3=>(cputS cc y13_3).bind fun y20_3=>some ((⟨y6_2,p.dst,p.src,p.id,p.line,(0:Int),(0:Int),false,([]:List Int)⟩:PktS),y20_3.1,y20_3.2) else (bif decide (p.kind=(5:Int)) then (esbS y3_3.1 p.ptr).bind fun y15_3=>(cputS cc y15_3).bind fun y20_3=>some ((⟨y6_2,p.dst,p.src,p.id,p.line,(0:Int),(0:Int),false,([]:List Int)⟩:PktS),y20_3.1,y20_3.2) else (bif decide (p.kind=(6:Int)) then (cdropS cc p.line).bind fun y18_3=>some ((⟨y6_2,p.dst,p.src,p.id,p.line,y3_3.1.fwd,(0:Int),y3_3.1.dirty,y3_3.1.data⟩:PktS),(0:Int),y18_3.2.2) else (cputS cc y3_3.1).bind fun y20_3=>some ((⟨y6_2,p.dst,p.src,p.id,p.line,(0:Int),(0:Int),false,([]:List Int)⟩:PktS),y20_3.1,y20_3.2)))))))
def shanS (cc:CacheS) (p:PktS):Option (PktS×Int×CacheS) :=
 (pchkS p).bind fun y1_1=>(bif !(decide (y1_1=(0:Int))) then (shanS_j0 cc p) true else (bif decide (p.kind<(3:Int)) then (shanS_j0 cc p) true else (shanS_j0 cc p) (decide ((6:Int)<p.kind))))
theorem shanF {cc:CacheS} {p:PktS} (c:Nat) (p0a:Option Addr) (p0c:Nat) {y:PktS×Int×CacheS} (H:shanS cc p=some y):FnY Tryz.prog 201 [.pointer (some ⟨c,0,none⟩),.agg #[.int .i64 p.kind,.int .i64 p.src,.int .i64 p.dst,.int .i64 p.id,.int .i64 p.line,.int .i64 p.ptr,.int .i64 p.state,.bool p.flag,.slice p0a p.data.length p0c]] ⟨[],[(CacheA c cc),(ImmA p0a p0c p.data)]⟩ (Z:=Option Addr×Nat) (fun y (za0,zc0)=>.tuple #[.agg #[.int .i64 y.1.kind,.int .i64 y.1.src,.int .i64 y.1.dst,.int .i64 y.1.id,.int .i64 y.1.line,.int .i64 y.1.ptr,.int .i64 y.1.state,.bool y.1.flag,.slice za0 y.1.data.length zc0],.int .i64 y.2.1]) (fun y (za0,zc0)=>⟨[],[(ImmA za0 zc0 y.1.data),(CacheA c y.2.2)]⟩) y:=by
 unfold shanS at H
 refine xfY Tryz.func201 fun W0 F=>?_
 refine xn [] fun b0_0=>?_
 refine xn [] fun b0_1=>?_
 refine xj [101] (ι:=Bool) (fun e0_21=>⟨[(0,.pointer (some ⟨c,0,none⟩)),(3,.pointer (some ⟨b0_0,0,none⟩)),(4,.pointer (some ⟨b0_1,0,none⟩)),(21,.bool e0_21)],[⟨b0_1,#[.int .i64 (0),.int .i64 (0),.int .i64 (0),.int .i64 (0),.int .i64 (0),.int .i64 (0),.int .i64 (0),.bool false,.slice none 0 0],176⟩,⟨b0_0,#[.int .i64 p.kind,.int .i64 p.src,.int .i64 p.dst,.int .i64 p.id,.int .i64 p.line,.int .i64 p.ptr,.int .i64 p.state,.bool p.flag,.slice p0a p.data.length p0c],176⟩],[(CacheA c cc),(ImmA p0a p0c p.data)]⟩) (fun e0_21=>shanS_j0 cc p e0_21=some y) ?_ ?_
 · rintro e0_21 H
   replace H:shanS_j0 cc p e0_21=some y:=H
   rw [shanS_j0] at H
   refine xs [] H ?_ ?_
   · intro H
     refine xg [1,0] [] [] (gh_nilI (α:=Int) none 0) fun _=>?_
     exact xrY (someE H) [] [0] [] [0,0] (none,0)
   · intro H
     refine xg [0,1] [] [0] (gh_open (CacheO c cc)) fun ⟨a_l1,c_l2⟩=>?_
     refine bindG H fun y3_3 hy3_3 H=>?_
     refine xc [] [0] [0] (cfindF c a_l1 c_l2 hy3_3) fun ⟨t3_3_a0,t3_3_c0⟩=>?_
     refine xn [] fun b3_7=>?_
     refine xs [0] H ?_ ?_
     · intro H
       refine xg [1,2] [] [] (gh_nilI (α:=Int) none 0) fun _=>?_
       refine xg [] [1] [2] (gh_shut (CacheO c cc) (a_l1,c_l2)) fun _=>?_
       exact xrY (someE H) [] [1] [] [1,0] (none,0)
     · intro H
       refine bindG H fun y6_2 hy6_2 H=>?_
       refine xq [0,0,1,3,2] (pans_fq hy6_2) ?_
       refine xn [3,4,3,5,6,3,7,8,3,9,10,3,11,12] fun b6_12=>?_
       refine xs [13,0,4] H ?_ ?_
       · intro H
         refine xg [1,0,1,1,2,3,1,4,5,0,6,7,0,1,4] [] [0] (gh_frz t3_3_a0 t3_3_c0 y3_3.1.data) fun _=>?_
         refine xg [] [] [0] (gh_dup t3_3_a0 t3_3_c0 y3_3.1.data) fun _=>?_
         refine bindG H fun y11_3 hy11_3 H=>?_
         refine xc [] [1] [0] (esbF b3_7 t3_3_a0 t3_3_c0 hy11_3) fun ⟨t11_3_a0,t11_3_c0⟩=>?_
         refine xg [0,1,1,2,0,3] [2] [2] (gh_shut (CacheO c cc) (a_l1,c_l2)) fun _=>?_
         refine bindG H fun y20_3 hy20_3 H=>?_
         refine xc [] [] [0,0] (cputF c t11_3_a0 t11_3_c0 (rI t11_3_a0 t11_3_c0 y11_3.data) hy20_3) fun _=>?_
         refine xg [4,2,5] [] [2] (gh_dup t3_3_a0 t3_3_c0 y3_3.1.data) fun _=>?_
         exact xrY (someE H) [] [2] [] [0,1] (t3_3_a0,t3_3_c0)
       · intro H
         refine xs [0] H ?_ ?_
         · intro H
           refine xg [1,4] [] [0] (gh_frz t3_3_a0 t3_3_c0 y3_3.1.data) fun _=>?_
           refine xg [] [] [0] (gh_dup t3_3_a0 t3_3_c0 y3_3.1.data) fun _=>?_
           refine bindG H fun y13_3 hy13_3 H=>?_
           refine xc [] [1] [0] (esfF b3_7 t3_3_a0 t3_3_c0 hy13_3) fun ⟨t13_3_a0,t13_3_c0⟩=>?_
           refine xg [0,1,1,2,0,3] [2] [2] (gh_shut (CacheO c cc) (a_l1,c_l2)) fun _=>?_
           refine bindG H fun y20_3 hy20_3 H=>?_
           refine xc [] [] [0,0] (cputF c t13_3_a0 t13_3_c0 (rI t13_3_a0 t13_3_c0 y13_3.data) hy20_3) fun _=>?_
           refine xg [4,2,5] [] [] (gh_nilI (α:=Int) none 0) fun _=>?_
           exact xrY (someE H) [] [2] [] [0,0] (none,0)
         · intro H
           refine xs [0] H ?_ ?_
           · intro H
             refine xg [1,4] [] [0] (gh_frz t3_3_a0 t3_3_c0 y3_3.1.data) fun _=>?_
             refine xg [] [] [0] (gh_dup t3_3_a0 t3_3_c0 y3_3.1.data) fun _=>?_
             refine bindG H fun y15_3 hy15_3 H=>?_
             refine xc [] [1] [0] (esbF b3_7 t3_3_a0 t3_3_c0 hy15_3) fun ⟨t15_3_a0,t15_3_c0⟩=>?_
             refine xg [0,1,1,2,0,3] [2] [2] (gh_shut (CacheO c cc) (a_l1,c_l2)) fun _=>?_
             refine bindG H fun y20_3 hy20_3 H=>?_
             refine xc [] [] [0,0] (cputF c t15_3_a0 t15_3_c0 (rI t15_3_a0 t15_3_c0 y15_3.data) hy20_3) fun _=>?_
             refine xg [4,2,5] [] [] (gh_nilI (α:=Int) none 0) fun _=>?_
             exact xrY (someE H) [] [2] [] [0,0] (none,0)
           · intro H
             refine xs [0] H ?_ ?_
             · intro H
               refine xg [1,0,1,1,2,3,1,4,5,6,1,7,8,0,9,10,0,11,12,0,4] [2] [1] (gh_shut (CacheO c cc) (a_l1,c_l2)) fun _=>?_
               refine bindG H fun y18_3 hy18_3 H=>?_
               refine xc [] [] [0] (cdropF c hy18_3) fun ⟨t18_3_a0,t18_3_c0⟩=>?_
               refine xg [0,2] [] [2] (gh_frz t3_3_a0 t3_3_c0 y3_3.1.data) fun _=>?_
               refine xg [] [] [0] (gh_dup t3_3_a0 t3_3_c0 y3_3.1.data) fun _=>?_
               exact xrY (someE H) [] [2] [] [0,2] (t3_3_a0,t3_3_c0)
             · intro H
               refine xg [0,0,0,1,2,1,3] [2] [1] (gh_shut (CacheO c cc) (a_l1,c_l2)) fun _=>?_
               refine bindG H fun y20_3 hy20_3 H=>?_
               refine xc [] [] [0,0] (cputF c t3_3_a0 t3_3_c0 (rA t3_3_a0 t3_3_c0 y3_3.1.data) hy20_3) fun _=>?_
               refine xg [4,2,5] [] [] (gh_nilI (α:=Int) none 0) fun _=>?_
               exact xrY (someE H) [] [2] [] [0,0] (none,0)
 · intro N0 hN0
   refine bindG H fun y1_1 hy1_1 H=>?_
   refine xc [1] [] [] (pchkF p0a p0c hy1_1) fun _=>?_
   refine xs [] H ?_ ?_
   · intro H
     exact xe [0,0,0,1,0,0,0,1] _ [0,0] [0,0] (hN0 (true) H)
   · intro H
     refine xs [1,1,1,1,0] H ?_ ?_
     · intro H
       exact xe [0,0,0,1] _ [0,0] [0,0] (hN0 (true) H)
     · intro H
       exact xe [1,1,1,1,0] _ [0,0] [0,0] (hN0 (decide ((6:Int)<p.kind)) H)
end
end Go.Proofs.YtcidmgkfaioceaaGreat
