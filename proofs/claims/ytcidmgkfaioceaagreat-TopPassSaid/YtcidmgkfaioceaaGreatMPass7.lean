/- Walks of the program's functions, and the plain laws of what they compute (part 7): Ply, Rnd, Wab, Ato, Wch.
   Conditions: none. -/
import Derived.Test.YtcidmgkfaioceaaGreatMPass6
set_option linter.unusedVariables false
set_option linter.unusedSimpArgs false
set_option linter.unusedSectionVars false
namespace Go.Proofs.YtcidmgkfaioceaaGreat
open Go Go.RowKit
set_option linter.unusedVariables false
def patS (l : List Int) (i : Int) : Option (Int) :=
 (bif decide (i < (((List.length l) : Nat) : Int)) then chk (0 ≤ i ∧ i < ((l.length : Nat) : Int)) (some (nth l i)) else some (0 : Int))
set_option maxRecDepth 100000 in
set_option maxHeartbeats 4000000 in
theorem patF {l : List Int} {lA : Asn} {i : Int} (la : Option Addr) (lc : Nat) (hlA : Rdb lA la lc l) {y : Int} (H : patS l i = some y) : FnY Tryz.prog 69 [.slice la (List.length l) lc, .int .i64 i] ⟨[], [lA]⟩ (Z := Unit) (fun y _ => .int .i64 y) (fun y _ => ⟨[], [lA]⟩) y := by
 unfold patS at H
 refine xfY Tryz.func69 fun W0 F => ?_
 refine xs [] H ?_ ?_
 · intro H
   refine chkG H fun q2_2_1 H => ?_
   refine xi [1] 0 hlA q2_2_1 fun b1 o1 e1 => ?_
   refine xpl [] 0 (ol_ld hlA e1 q2_2_1 0 (fun _ => rfl)) ?_
   exact xrY (someE H) [] [] [] [0] ()
 · intro H
   exact xrY (someE H) [0] [] [] [0] ()
def pconfS (s : SetupS) : Option (CfgS) :=
 (withinS s.nodes (4 : Int)).bind fun y1_2 => (withinS s.lines (4 : Int)).bind fun y1_6 => (withinS s.words (2 : Int)).bind fun y1_10 => (withinS s.sets (2 : Int)).bind fun y1_14 => (withinS s.ways (2 : Int)).bind fun y1_18 => (withinS s.out (3 : Int)).bind fun y1_22 => (withinS s.inn (3 : Int)).bind fun y1_26 => letP (wr ((wr ((1 : Int) + y1_6)) * (wr ((1 : Int) + y1_10)))) fun u2_6 => (cutS s.init u2_6).bind fun y2_7 => some (⟨wr ((1 : Int) + y1_2), wr ((1 : Int) + y1_6), wr ((1 : Int) + y1_10), wr ((1 : Int) + y1_14), wr ((1 : Int) + y1_18), wr ((1 : Int) + y1_22), wr ((1 : Int) + y1_26), y2_7⟩ : CfgS)
set_option maxRecDepth 100000 in
set_option maxHeartbeats 4000000 in
theorem pconfF {s : SetupS} {s0A : Asn} {s1A : Asn} {s2A : Asn} {s3A : Asn} {s4A : Asn} (s0a : Option Addr) (s0c : Nat) (s1a : Option Addr) (s1c : Nat) (s2a : Option Addr) (s2c : Nat) (s3a : Option Addr) (s3c : Nat) (s4a : Option Addr) (s4c : Nat) (hs0A : Rdb s0A s0a s0c s.init) (hs1A : Rdb s1A s1a s1c s.who) (hs2A : Rdb s2A s2a s2c s.kinds) (hs3A : Rdb s3A s3a s3c s.addrs) (hs4A : Rdb s4A s4a s4c s.values) {y : CfgS} (H : pconfS s = some y) : FnY Tryz.prog 25 [.agg #[.int .i64 s.nodes, .int .i64 s.lines, .int .i64 s.words, .int .i64 s.sets, .int .i64 s.ways, .int .i64 s.out, .int .i64 s.inn, .slice s0a (List.length s.init) s0c, .slice s1a (List.length s.who) s1c, .slice s2a (List.length s.kinds) s2c, .slice s3a (List.length s.addrs) s3c, .slice s4a (List.length s.values) s4c]] ⟨[], [s0A, s1A, s2A, s3A, s4A]⟩ (Z := Option Addr × Nat) (fun y (za0, zc0) => .agg #[.int .i64 y.nodes, .int .i64 y.lines, .int .i64 y.words, .int .i64 y.sets, .int .i64 y.ways, .int .i64 y.out, .int .i64 y.inn, .slice za0 (List.length y.init) zc0]) (fun y (za0, zc0) => ⟨[], [(ArrA za0 zc0 y.init), s0A, s1A, s2A, s3A, s4A]⟩) y := by
 unfold pconfS at H
 refine xfY Tryz.func25 fun W0 F => ?_
 refine xn [] fun b0_0 => ?_
 refine xn [] fun b0_1 => ?_
 refine bindG H fun y1_2 hy1_2 H => ?_
 refine xq [0,1,1,2] (within_fq hy1_2) ?_
 refine bindG H fun y1_6 hy1_6 H => ?_
 refine xq [3,1,4,5,1,6] (within_fq hy1_6) ?_
 refine bindG H fun y1_10 hy1_10 H => ?_
 refine xq [7,1,8,9,1,10] (within_fq hy1_10) ?_
 refine bindG H fun y1_14 hy1_14 H => ?_
 refine xq [11,1,12,13,1,14] (within_fq hy1_14) ?_
 refine bindG H fun y1_18 hy1_18 H => ?_
 refine xq [15,1,16,17,1,18] (within_fq hy1_18) ?_
 refine bindG H fun y1_22 hy1_22 H => ?_
 refine xq [19,1,20,21,1,22] (within_fq hy1_22) ?_
 refine bindG H fun y1_26 hy1_26 H => ?_
 refine xq [23,1,24,25,1,26] (within_fq hy1_26) ?_
 refine xn [27,1,28,29] fun b1_29 => ?_
 refine letG H fun u2_6 hu2_6 H => ?_
 refine xw [30,0,2,0,0,1,300] 39 (congrArg (Value.int .i64) hu2_6) ?_
 refine bindG H fun y2_7 hy2_7 H => ?_
 refine xc [] [] [0] (cutF s0a s0c hs0A hy2_7) fun ⟨t2_7_a0, t2_7_c0⟩ => ?_
 exact xrY (someE H) [0,0,1] [1] [] [0,0,0,0,0,0] (t2_7_a0, t2_7_c0)
def ppickS_j0 (y5_3 : Int) (e0_b5_5_2 : Int) (e0_b5_5_3 : Int) : Option (PickS) :=
 some (⟨true, y5_3, e0_b5_5_2, e0_b5_5_3⟩ : PickS)
def ppickS (x : ChoiceS) (nodes : Int) (under : Int) : Option (PickS) :=
 (bif decide ((x.do_.tmod (23 : Int)) = (22 : Int)) then some (⟨decide ((x.bit.tmod (2 : Int)) = (0 : Int)), x.at_, x.bit, x.mask⟩ : PickS) else (withinS x.do_ (2 : Int)).bind fun y3_2 => (bif decide (y3_2 = (0 : Int)) then (withinS x.at_ nodes).bind fun y4_3 => some (⟨false, y4_3, (0 : Int), (0 : Int)⟩ : PickS) else (withinS x.at_ under).bind fun y5_3 => (bif decide ((x.do_.tmod (7 : Int)) = (6 : Int)) then (withinS x.bit (120 : Int)).bind fun y7_2 => (ppickS_j0 y5_3) y7_2 x.mask else (ppickS_j0 y5_3) (0 : Int) (0 : Int))))
set_option maxRecDepth 100000 in
set_option maxHeartbeats 4000000 in
theorem ppickF {x : ChoiceS} {nodes : Int} {under : Int} {y : PickS} (H : ppickS x nodes under = some y) : FnY Tryz.prog 70 [.agg #[.int .i64 x.do_, .int .i64 x.at_, .int .i64 x.bit, .int .u16 x.mask], .int .i64 nodes, .int .i64 under] ⟨[], []⟩ (Z := Unit) (fun y _ => .agg #[.bool y.deliver, .int .i64 y.at_, .int .i64 y.bit, .int .u16 y.mask]) (fun y _ => ⟨[], []⟩) y := by
 unfold ppickS at H
 refine xfY Tryz.func70 fun W0 F => ?_
 refine xn [] fun b0_0 => ?_
 refine xn [] fun b0_1 => ?_
 refine xs [1] H ?_ ?_
 · intro H
   exact xrY (someE H) [1,1,1,1,1,0] [0] [] [] ()
 · intro H
   refine bindG H fun y3_2 hy3_2 H => ?_
   refine xq [0,1] (within_fq hy3_2) ?_
   refine xs [] H ?_ ?_
   · intro H
     refine bindG H fun y4_3 hy4_3 H => ?_
     refine xq [1,1] (within_fq hy4_3) ?_
     exact xrY (someE H) [0] [0] [] [] ()
   · intro H
     refine bindG H fun y5_3 hy5_3 H => ?_
     refine xq [0,1] (within_fq hy5_3) ?_
     refine xn [] fun b5_5 => ?_
     refine xj [0,100] (ι := Int × Int) (fun (e0_b5_5_2, e0_b5_5_3) => ⟨[(6, .pointer (some ⟨b0_1, 0, none⟩)), (7, .pointer (some ⟨b5_5, 0, none⟩))], [⟨b5_5, #[.bool true, .int .i64 y5_3, .int .i64 e0_b5_5_2, .int .u16 e0_b5_5_3], 65⟩, ⟨b0_1, #[.bool false, .int .i64 (0), .int .i64 (0), .int .u16 (0)], 65⟩], []⟩) (fun (e0_b5_5_2, e0_b5_5_3) => ppickS_j0 y5_3 e0_b5_5_2 e0_b5_5_3 = some y) ?_ ?_
     · rintro ⟨e0_b5_5_2, e0_b5_5_3⟩ H
       replace H : ppickS_j0 y5_3 e0_b5_5_2 e0_b5_5_3 = some y := H
       rw [ppickS_j0] at H
       exact xrY (someE H) [0,1] [1] [] [] ()
     · intro N0 hN0
       refine xs [2] H ?_ ?_
       · intro H
         refine bindG H fun y7_2 hy7_2 H => ?_
         refine xq [1,0,1,2,2] (within_fq hy7_2) ?_
         exact xe [3,4,2,5,6,0,7,8,0] _ [0,0] [] (hN0 (y7_2, x.mask) H)
       · intro H
         exact xe [0] _ [0,0] [] (hN0 ((0 : Int), (0 : Int)) H)
def pprogS_j0 (e0_6x : List (List OpS)) : Option (List (List OpS)) :=
 some e0_6x
def pprogS_j3 (v1_7 : Int) (r1 : (List (List OpS)) → Int → Option (List (List OpS))) (e3_6x : List (List OpS)) : Option (List (List OpS)) :=
 chk (inR (v1_7 + (1 : Int))) (r1 e3_6x (v1_7 + (1 : Int)))
def pprogS_j5 (v1_7 : Int) (s : SetupS) (y1_1 : CfgS) (v1_6x : List (List OpS)) (y6_5 : Int) (y6_17 : Int) (k3 : (List (List OpS)) → Option (List (List OpS))) (e5_b6_19_2 : Int) : Option (List (List OpS)) :=
 chk (0 ≤ v1_7 ∧ v1_7 < ((s.who.length : Nat) : Int)) ((withinS (nth s.who v1_7) y1_1.nodes).bind fun y9_7 => chk (0 ≤ y9_7 ∧ y9_7 < ((v1_6x.length : Nat) : Int)) ((bif decide ((((List.length (nthR v1_6x y9_7)) : Nat) : Int) < (24 : Int)) then chk (0 ≤ y9_7 ∧ y9_7 < ((v1_6x.length : Nat) : Int)) (chk (((nthR v1_6x y9_7) ++ ([(⟨nth ([(1 : Int), (2 : Int), (3 : Int), (1 : Int), (2 : Int), (1 : Int), (4 : Int)]) y6_5, y6_17, e5_b6_19_2⟩ : OpS)])).length ≤ 1099511627776) (letP ((nthR v1_6x y9_7) ++ ([(⟨nth ([(1 : Int), (2 : Int), (3 : Int), (1 : Int), (2 : Int), (1 : Int), (4 : Int)]) y6_5, y6_17, e5_b6_19_2⟩ : OpS)])) fun l11_8 => chk (0 ≤ y9_7 ∧ y9_7 < ((v1_6x.length : Nat) : Int)) (letP (setR v1_6x y9_7 l11_8) fun l11_10 => k3 l11_10))) else k3 v1_6x)))
def pprogS_j4 (s : SetupS) (v1_7 : Int) (y1_1 : CfgS) (v1_6x : List (List OpS)) (k3 : (List (List OpS)) → Option (List (List OpS))) (y6_17 : Int) (y6_5 : Int) : Option (List (List OpS)) :=
 (bif decide ((nth ([(1 : Int), (2 : Int), (3 : Int), (1 : Int), (2 : Int), (1 : Int), (4 : Int)]) y6_5) = (2 : Int)) then (patS s.values v1_7).bind fun y8_3 => (pprogS_j5 v1_7 s y1_1 v1_6x y6_5 y6_17 k3) y8_3 else (bif decide ((nth ([(1 : Int), (2 : Int), (3 : Int), (1 : Int), (2 : Int), (1 : Int), (4 : Int)]) y6_5) = (3 : Int)) then (patS s.values v1_7).bind fun y8_3 => (pprogS_j5 v1_7 s y1_1 v1_6x y6_5 y6_17 k3) y8_3 else (pprogS_j5 v1_7 s y1_1 v1_6x y6_5 y6_17 k3) (0 : Int)))
def pprogS_j2 (s : SetupS) (v1_7 : Int) (y1_1 : CfgS) (v1_6x : List (List OpS)) (r1 : (List (List OpS)) → Int → Option (List (List OpS))) (k0 : (List (List OpS)) → Option (List (List OpS))) (e2_24 : Bool) : Option (List (List OpS)) :=
 (bif e2_24 then (patS s.kinds v1_7).bind fun y6_4 => (withinS y6_4 (7 : Int)).bind fun y6_5 => chk (0 ≤ y6_5 ∧ y6_5 < ((([(1 : Int), (2 : Int), (3 : Int), (1 : Int), (2 : Int), (1 : Int), (4 : Int)]).length : Nat) : Int)) ((patS s.addrs v1_7).bind fun y6_11 => (withinS y6_11 (wr (y1_1.lines * y1_1.words))).bind fun y6_17 => (pprogS_j4 s v1_7 y1_1 v1_6x (pprogS_j3 v1_7 r1)) y6_17 y6_5) else k0 v1_6x)
def pprogS_l1 (s : SetupS) (y1_1 : CfgS) (k0 : (List (List OpS)) → Option (List (List OpS))) (most : Int) : Nat → (List (List OpS)) → Int → Option (List (List OpS))
 | 0, _, _ => none
 | m + 1, v1_6x, v1_7 => (bif decide (v1_7 < (((List.length s.who) : Nat) : Int)) then (pprogS_j2 s v1_7 y1_1 v1_6x (pprogS_l1 s y1_1 k0 most m) k0) (decide (v1_7 < most)) else (pprogS_j2 s v1_7 y1_1 v1_6x (pprogS_l1 s y1_1 k0 most m) k0) false)
def pprogS (s : SetupS) (most : Int) : Option (List (List OpS)) :=
 (pconfS s).bind fun y1_1 => chk (0 ≤ y1_1.nodes ∧ y1_1.nodes ≤ 1099511627776) (letP (List.replicate (y1_1.nodes).toNat ([] : List OpS)) fun l2_2 => pprogS_l1 s y1_1 pprogS_j0 most 64 l2_2 (0 : Int))
set_option maxRecDepth 100000 in
set_option maxHeartbeats 4000000 in
theorem pprogF {s : SetupS} {s0A : Asn} {s1A : Asn} {s2A : Asn} {s3A : Asn} {s4A : Asn} {most : Int} (s0a : Option Addr) (s0c : Nat) (s1a : Option Addr) (s1c : Nat) (s2a : Option Addr) (s2c : Nat) (s3a : Option Addr) (s3c : Nat) (s4a : Option Addr) (s4c : Nat) (hs0A : Rdb s0A s0a s0c s.init) (hs1A : Rdb s1A s1a s1c s.who) (hs2A : Rdb s2A s2a s2c s.kinds) (hs3A : Rdb s3A s3a s3c s.addrs) (hs4A : Rdb s4A s4a s4c s.values) {y : List (List OpS)} (H : pprogS s most = some y) : FnY Tryz.prog 26 [.agg #[.int .i64 s.nodes, .int .i64 s.lines, .int .i64 s.words, .int .i64 s.sets, .int .i64 s.ways, .int .i64 s.out, .int .i64 s.inn, .slice s0a (List.length s.init) s0c, .slice s1a (List.length s.who) s1c, .slice s2a (List.length s.kinds) s2c, .slice s3a (List.length s.addrs) s3c, .slice s4a (List.length s.values) s4c], .int .i64 most] ⟨[], [s0A, s1A, s2A, s3A, s4A]⟩ (Z := Option Addr × Nat) (fun y (za0, zc0) => .slice za0 (List.length y) zc0) (fun y (za0, zc0) => ⟨[], [(ArrA za0 zc0 y), s0A, s1A, s2A, s3A, s4A]⟩) y := by
 unfold pprogS at H
 refine xfY Tryz.func26 fun W0 F => ?_
 refine xn [] fun b0_0 => ?_
 refine bindG H fun y1_1 hy1_1 H => ?_
 refine xc [0] [] [0,0,0,0,0] (pconfF s0a s0c s1a s1c s2a s2c s3a s3c s4a s4c hs0A hs1A hs2A hs3A hs4A hy1_1) fun ⟨t1_1_a0, t1_1_c0⟩ => ?_
 refine xn [] fun b1_2 => ?_
 refine chkG H fun q2_2_1 H => ?_
 refine letG H fun l2_2 hl2_2 H => ?_
 refine xmkO (α := List OpS) [0,0] q2_2_1 hl2_2 roList_d fun b2_2 => ?_
 refine xj [100] (ι := List (List OpS) × Option Addr × Nat) (fun (e0_6x, e0_6a, e0_6c) => ⟨[(6, .slice e0_6a (List.length e0_6x) e0_6c)], [], [(ArrO e0_6a e0_6c e0_6x), s0A, s1A, s2A, s3A, s4A]⟩) (fun (e0_6x, e0_6a, e0_6c) => pprogS_j0 e0_6x = some y) ?_ ?_
 · rintro ⟨e0_6x, e0_6a, e0_6c⟩ H
   replace H : pprogS_j0 e0_6x = some y := H
   rw [pprogS_j0] at H
   refine xg [] [] [0] (gh_frzO e0_6a e0_6c e0_6x) fun _ => ?_
   exact xrY (someE H) [] [] [] [0,0,0,0,0,0] (e0_6a, e0_6c)
 · intro N0 hN0
   refine xl [] (ι := List (List OpS) × Int × Option Addr × Nat) (fun (v1_6x, v1_7, v1_6a, v1_6c) => ⟨[(1, .int .i64 most), (2, .pointer (some ⟨b0_0, 0, none⟩)), (5, .pointer (some ⟨b1_2, 0, none⟩)), (6, .slice v1_6a (List.length v1_6x) v1_6c), (7, .int .i64 v1_7)], [⟨b1_2, #[.int .i64 y1_1.nodes, .int .i64 y1_1.lines, .int .i64 y1_1.words, .int .i64 y1_1.sets, .int .i64 y1_1.ways, .int .i64 y1_1.out, .int .i64 y1_1.inn, .slice t1_1_a0 (List.length y1_1.init) t1_1_c0], 25⟩, ⟨b0_0, #[.int .i64 s.nodes, .int .i64 s.lines, .int .i64 s.words, .int .i64 s.sets, .int .i64 s.ways, .int .i64 s.out, .int .i64 s.inn, .slice s0a (List.length s.init) s0c, .slice s1a (List.length s.who) s1c, .slice s2a (List.length s.kinds) s2c, .slice s3a (List.length s.addrs) s3c, .slice s4a (List.length s.values) s4c], 75⟩], [(ArrO v1_6a v1_6c v1_6x), (ArrA t1_1_a0 t1_1_c0 y1_1.init), s0A, s1A, s2A, s3A, s4A]⟩) (fun m1 (v1_6x, v1_7, v1_6a, v1_6c) => pprogS_l1 s y1_1 (pprogS_j0) most m1 v1_6x v1_7 = some y) [0,0] [0,0,0,0,0,0,0] (64) (l2_2, (0 : Int), some ⟨b2_2, 0, none⟩, (y1_1.nodes).toNat) H ?_
   rintro N1 (_ | m1) ⟨v1_6x, v1_7, v1_6a, v1_6c⟩ H hN1
   · exact (noneE H).elim
   replace H : pprogS_l1 s y1_1 (pprogS_j0) most (m1 + 1) v1_6x v1_7 = some y := H
   rw [pprogS_l1] at H
   refine xj [101] (ι := Bool) (fun e2_24 => ⟨[(1, .int .i64 most), (2, .pointer (some ⟨b0_0, 0, none⟩)), (5, .pointer (some ⟨b1_2, 0, none⟩)), (6, .slice v1_6a (List.length v1_6x) v1_6c), (7, .int .i64 v1_7), (24, .bool e2_24)], [⟨b1_2, #[.int .i64 y1_1.nodes, .int .i64 y1_1.lines, .int .i64 y1_1.words, .int .i64 y1_1.sets, .int .i64 y1_1.ways, .int .i64 y1_1.out, .int .i64 y1_1.inn, .slice t1_1_a0 (List.length y1_1.init) t1_1_c0], 25⟩, ⟨b0_0, #[.int .i64 s.nodes, .int .i64 s.lines, .int .i64 s.words, .int .i64 s.sets, .int .i64 s.ways, .int .i64 s.out, .int .i64 s.inn, .slice s0a (List.length s.init) s0c, .slice s1a (List.length s.who) s1c, .slice s2a (List.length s.kinds) s2c, .slice s3a (List.length s.addrs) s3c, .slice s4a (List.length s.values) s4c], 75⟩], [(ArrO v1_6a v1_6c v1_6x), (ArrA t1_1_a0 t1_1_c0 y1_1.init), s0A, s1A, s2A, s3A, s4A]⟩) (fun e2_24 => pprogS_j2 s v1_7 y1_1 v1_6x (pprogS_l1 s y1_1 (pprogS_j0) most m1) (pprogS_j0) e2_24 = some y) ?_ ?_
   · rintro e2_24 H
     replace H : pprogS_j2 s v1_7 y1_1 v1_6x (pprogS_l1 s y1_1 (pprogS_j0) most m1) (pprogS_j0) e2_24 = some y := H
     rw [pprogS_j2] at H
     refine xs [] H ?_ ?_
     · intro H
       refine xj [1,100] (ι := List (List OpS) × Option Addr × Nat) (fun (e3_6x, e3_6a, e3_6c) => ⟨[(1, .int .i64 most), (2, .pointer (some ⟨b0_0, 0, none⟩)), (5, .pointer (some ⟨b1_2, 0, none⟩)), (6, .slice e3_6a (List.length e3_6x) e3_6c), (7, .int .i64 v1_7)], [⟨b1_2, #[.int .i64 y1_1.nodes, .int .i64 y1_1.lines, .int .i64 y1_1.words, .int .i64 y1_1.sets, .int .i64 y1_1.ways, .int .i64 y1_1.out, .int .i64 y1_1.inn, .slice t1_1_a0 (List.length y1_1.init) t1_1_c0], 25⟩, ⟨b0_0, #[.int .i64 s.nodes, .int .i64 s.lines, .int .i64 s.words, .int .i64 s.sets, .int .i64 s.ways, .int .i64 s.out, .int .i64 s.inn, .slice s0a (List.length s.init) s0c, .slice s1a (List.length s.who) s1c, .slice s2a (List.length s.kinds) s2c, .slice s3a (List.length s.addrs) s3c, .slice s4a (List.length s.values) s4c], 75⟩], [(ArrO e3_6a e3_6c e3_6x), s4A, s3A, s2A, (ArrA t1_1_a0 t1_1_c0 y1_1.init), s0A, s1A]⟩) (fun (e3_6x, e3_6a, e3_6c) => pprogS_j3 v1_7 (pprogS_l1 s y1_1 (pprogS_j0) most m1) e3_6x = some y) ?_ ?_
       · rintro ⟨e3_6x, e3_6a, e3_6c⟩ H
         replace H : pprogS_j3 v1_7 (pprogS_l1 s y1_1 (pprogS_j0) most m1) e3_6x = some y := H
         rw [pprogS_j3] at H
         refine chkG H fun q5_1_1 H => ?_
         refine xd [0] (ap q5_1_1 an) ?_
         exact xe [] _ [0,0] [0,3,3,3,2,1,0] (hN1 _ (e3_6x, v1_7 + (1 : Int), e3_6a, e3_6c) (Nat.lt_succ_self _) H)
       · intro N3 hN3
         refine xj [100] (ι := Int × Int × Nat) (fun (y6_17, y6_5, b6_19) => ⟨[(1, .int .i64 most), (2, .pointer (some ⟨b0_0, 0, none⟩)), (5, .pointer (some ⟨b1_2, 0, none⟩)), (6, .slice v1_6a (List.length v1_6x) v1_6c), (7, .int .i64 v1_7), (8, .pointer (some ⟨b6_19, 0, none⟩))], [⟨b6_19, #[.int .i64 (nth ([(1 : Int), (2 : Int), (3 : Int), (1 : Int), (2 : Int), (1 : Int), (4 : Int)]) y6_5), .int .i64 y6_17, .int .i64 (0)], 29⟩, ⟨b1_2, #[.int .i64 y1_1.nodes, .int .i64 y1_1.lines, .int .i64 y1_1.words, .int .i64 y1_1.sets, .int .i64 y1_1.ways, .int .i64 y1_1.out, .int .i64 y1_1.inn, .slice t1_1_a0 (List.length y1_1.init) t1_1_c0], 25⟩, ⟨b0_0, #[.int .i64 s.nodes, .int .i64 s.lines, .int .i64 s.words, .int .i64 s.sets, .int .i64 s.ways, .int .i64 s.out, .int .i64 s.inn, .slice s0a (List.length s.init) s0c, .slice s1a (List.length s.who) s1c, .slice s2a (List.length s.kinds) s2c, .slice s3a (List.length s.addrs) s3c, .slice s4a (List.length s.values) s4c], 75⟩], [s3A, s2A, (ArrO v1_6a v1_6c v1_6x), (ArrA t1_1_a0 t1_1_c0 y1_1.init), s0A, s1A, s4A]⟩) (fun (y6_17, y6_5, b6_19) => pprogS_j4 s v1_7 y1_1 v1_6x (pprogS_j3 v1_7 (pprogS_l1 s y1_1 (pprogS_j0) most m1)) y6_17 y6_5 = some y) ?_ ?_
         · rintro ⟨y6_17, y6_5, b6_19⟩ H
           replace H : pprogS_j4 s v1_7 y1_1 v1_6x (pprogS_j3 v1_7 (pprogS_l1 s y1_1 (pprogS_j0) most m1)) y6_17 y6_5 = some y := H
           rw [pprogS_j4] at H
           refine xj [100] (ι := Int) (fun e5_b6_19_2 => ⟨[(1, .int .i64 most), (2, .pointer (some ⟨b0_0, 0, none⟩)), (5, .pointer (some ⟨b1_2, 0, none⟩)), (6, .slice v1_6a (List.length v1_6x) v1_6c), (7, .int .i64 v1_7), (8, .pointer (some ⟨b6_19, 0, none⟩))], [⟨b6_19, #[.int .i64 (nth ([(1 : Int), (2 : Int), (3 : Int), (1 : Int), (2 : Int), (1 : Int), (4 : Int)]) y6_5), .int .i64 y6_17, .int .i64 e5_b6_19_2], 29⟩, ⟨b1_2, #[.int .i64 y1_1.nodes, .int .i64 y1_1.lines, .int .i64 y1_1.words, .int .i64 y1_1.sets, .int .i64 y1_1.ways, .int .i64 y1_1.out, .int .i64 y1_1.inn, .slice t1_1_a0 (List.length y1_1.init) t1_1_c0], 25⟩, ⟨b0_0, #[.int .i64 s.nodes, .int .i64 s.lines, .int .i64 s.words, .int .i64 s.sets, .int .i64 s.ways, .int .i64 s.out, .int .i64 s.inn, .slice s0a (List.length s.init) s0c, .slice s1a (List.length s.who) s1c, .slice s2a (List.length s.kinds) s2c, .slice s3a (List.length s.addrs) s3c, .slice s4a (List.length s.values) s4c], 75⟩], [s4A, s3A, s2A, (ArrO v1_6a v1_6c v1_6x), (ArrA t1_1_a0 t1_1_c0 y1_1.init), s0A, s1A]⟩) (fun e5_b6_19_2 => pprogS_j5 v1_7 s y1_1 v1_6x y6_5 y6_17 (pprogS_j3 v1_7 (pprogS_l1 s y1_1 (pprogS_j0) most m1)) e5_b6_19_2 = some y) ?_ ?_
           · rintro e5_b6_19_2 H
             replace H : pprogS_j5 v1_7 s y1_1 v1_6x y6_5 y6_17 (pprogS_j3 v1_7 (pprogS_l1 s y1_1 (pprogS_j0) most m1)) e5_b6_19_2 = some y := H
             rw [pprogS_j5] at H
             refine chkG H fun q9_3_1 H => ?_
             refine xi [0,1,2,2,3] 6 hs1A q9_3_1 fun b1 o1 e1 => ?_
             refine xpl [4] 6 (ol_ld hs1A e1 q9_3_1 0 (fun _ => rfl)) ?_
             refine bindG H fun y9_7 hy9_7 H => ?_
             refine xq [5,6,1,7] (within_fq hy9_7) ?_
             refine chkG H fun q10_2_1 H => ?_
             refine xg [8] [] [3] (gh_foc v1_6a v1_6c v1_6x y9_7 q10_2_1) fun ⟨wa1, wc1⟩ => ?_
             refine xiG (K := 1) [] 1 (ix_hol v1_6a v1_6c v1_6x y9_7 (wa1, wc1) q10_2_1) q10_2_1 fun b2 o2 e2 => ?_
             refine xpl [] 1 (ol_hld v1_6a v1_6c v1_6x y9_7 (wa1, wc1) e2 q10_2_1 0 rfl) ?_
             refine xs [] H ?_ ?_
             · intro H
               refine chkG H fun q11_4_1 H => ?_
               refine xiG (K := 1) [1,0,1,2,3,4] 1 (ix_hol v1_6a v1_6c v1_6x y9_7 (wa1, wc1) q11_4_1) q11_4_1 fun b3 o3 e3 => ?_
               refine xpl [5] 1 (ol_hld v1_6a v1_6c v1_6x y9_7 (wa1, wc1) e3 q10_2_1 0 rfl) ?_
               refine xn [6,0,7] fun b11_7 => ?_
               refine xg [8] [0] [8] (gh_one b11_7 29 (⟨nth ([(1 : Int), (2 : Int), (3 : Int), (1 : Int), (2 : Int), (1 : Int), (4 : Int)]) y6_5, y6_17, e5_b6_19_2⟩ : OpS) ()) fun _ => ?_
               refine chkG H fun q11_8_1 H => ?_
               refine letG H fun l11_8 hl11_8 H => ?_
               refine xa [] [1,0] (a := wa1) (l := (nthR v1_6x y9_7)) (zs := l11_8) (cap := wc1) (rA (some ⟨b11_7, 0, none⟩) 1 ([(⟨nth ([(1 : Int), (2 : Int), (3 : Int), (1 : Int), (2 : Int), (1 : Int), (4 : Int)]) y6_5, y6_17, e5_b6_19_2⟩ : OpS)])) hl11_8 (hl11_8 ▸ q11_8_1) fun ⟨a11_8, c11_8⟩ => ?_
               refine chkG H fun q11_9_1 H => ?_
               refine xiG (K := 1) [9] 2 (ix_hol v1_6a v1_6c v1_6x y9_7 (wa1, wc1) q11_9_1) q11_9_1 fun b4 o4 e4 => ?_
               refine letG H fun l11_10 hl11_10 H => ?_
               refine xo [10] [] [0,1] (oc_hst v1_6a v1_6c v1_6x y9_7 (wa1, wc1) l11_8 (a11_8, c11_8) e4 q10_2_1 hl11_10) fun _ => ?_
               refine xw [] 6 (congrArg (fun n : Nat => (.slice v1_6a n v1_6c : Value)) (setR_len hl11_10)) ?_
               refine xw [] 73 (congrArg (fun n : Nat => (.slice v1_6a n v1_6c : Value)) (setR_len hl11_10)) ?_
               refine xw [] 75 (congrArg (fun n : Nat => (.slice v1_6a n v1_6c : Value)) (setR_len hl11_10)) ?_
               exact xe [] _ [1,1] [0,1,1,1,1,1,1] (hN3 (l11_10, v1_6a, v1_6c) H)
             · intro H
               refine xg [0] [] [0,0] (gh_unfs v1_6a v1_6c v1_6x y9_7 (wa1, wc1) q10_2_1) fun _ => ?_
               exact xe [] _ [1,1] [0,0,0,0,0,0,0] (hN3 (v1_6x, v1_6a, v1_6c) H)
           · intro N5 hN5
             refine xs [0] H ?_ ?_
             · intro H
               refine bindG H fun y8_3 hy8_3 H => ?_
               refine xc [0,0,0,1,1,2] [] [6] (patF s4a s4c hs4A hy8_3) fun _ => ?_
               exact xe [0] _ [0,0,0] [0,0,0,0,0,0,0] (hN5 (y8_3) H)
             · intro H
               refine xs [1,1,0,1,0] H ?_ ?_
               · intro H
                 refine bindG H fun y8_3 hy8_3 H => ?_
                 refine xc [1,2] [] [6] (patF s4a s4c hs4A hy8_3) fun _ => ?_
                 exact xe [0] _ [0,0,0] [0,0,0,0,0,0,0] (hN5 (y8_3) H)
               · intro H
                 exact xe [0] _ [0,0,0] [6,0,0,0,0,0,0] (hN5 ((0 : Int)) H)
         · intro N4 hN4
           refine bindG H fun y6_4 hy6_4 H => ?_
           refine bindG H fun y6_5 hy6_5 H => ?_
           refine chkG H fun q6_6_1 H => ?_
           refine bindG H fun y6_11 hy6_11 H => ?_
           refine bindG H fun y6_17 hy6_17 H => ?_
           refine xtn [1,2,1,3,8,9,1,10,12,13,0,14,15,0,16,1] [0,4,19] ⟨?_, ?_, ?_, trivial⟩
           · refine xn [] fun b6_0 => ?_
             refine xtn [] [4,19] ⟨?_, ?_, trivial⟩
             · refine xc [] [] [4] (patF s2a s2c hs2A hy6_4) fun _ => ?_
               refine xq [5] (within_fq hy6_5) ?_
               refine xg [6] [0] [] (gh_own b6_0 3 7 ([(1 : Int), (2 : Int), (3 : Int), (1 : Int), (2 : Int), (1 : Int), (4 : Int)] : List Int) [(), (), (), (), (), (), ()] (fun _ _ _ _ _ _ _ => trivial)) fun _ => ?_
               refine xi [] 0 (rA (some ⟨b6_0, 0, none⟩) 7 ([(1 : Int), (2 : Int), (3 : Int), (1 : Int), (2 : Int), (1 : Int), (4 : Int)])) q6_6_1 fun b5 o5 e5 => ?_
               refine xpl [7] 0 (ol_ld (rA (some ⟨b6_0, 0, none⟩) 7 ([(1 : Int), (2 : Int), (3 : Int), (1 : Int), (2 : Int), (1 : Int), (4 : Int)])) e5 q6_6_1 0 (fun _ => rfl)) ?_
               refine xtn [] [11,19] ⟨?_, ?_, trivial⟩
               · refine xc [] [] [6] (patF s3a s3c hs3A hy6_11) fun _ => ?_
                 refine xq [17] (within_fq hy6_17) ?_
                 refine xn [18,19] fun b6_19 => ?_
                 exact xe [20,0] _ [0,0,0] [0,1,1,1,1,1,1] (hN4 (y6_17, y6_5, b6_19) H)
               · refine xn [] fun b6_19 => ?_
                 refine xc [11] [] [6] (patF s3a s3c hs3A hy6_11) fun _ => ?_
                 refine xq [17] (within_fq hy6_17) ?_
                 exact xe [18,20,0] _ [0,0,0] [0,1,1,1,1,1,1] (hN4 (y6_17, y6_5, b6_19) H)
             · refine xn [] fun b6_19 => ?_
               refine xc [4] [] [4] (patF s2a s2c hs2A hy6_4) fun _ => ?_
               refine xq [5] (within_fq hy6_5) ?_
               refine xg [6] [1] [] (gh_own b6_0 3 7 ([(1 : Int), (2 : Int), (3 : Int), (1 : Int), (2 : Int), (1 : Int), (4 : Int)] : List Int) [(), (), (), (), (), (), ()] (fun _ _ _ _ _ _ _ => trivial)) fun _ => ?_
               refine xi [] 0 (rA (some ⟨b6_0, 0, none⟩) 7 ([(1 : Int), (2 : Int), (3 : Int), (1 : Int), (2 : Int), (1 : Int), (4 : Int)])) q6_6_1 fun b5 o5 e5 => ?_
               refine xpl [7] 0 (ol_ld (rA (some ⟨b6_0, 0, none⟩) 7 ([(1 : Int), (2 : Int), (3 : Int), (1 : Int), (2 : Int), (1 : Int), (4 : Int)])) e5 q6_6_1 0 (fun _ => rfl)) ?_
               refine xc [11] [] [6] (patF s3a s3c hs3A hy6_11) fun _ => ?_
               refine xq [17] (within_fq hy6_17) ?_
               exact xe [18,20,0] _ [0,0,0] [0,1,1,1,1,1,1] (hN4 (y6_17, y6_5, b6_19) H)
           · refine xc [] [] [4] (patF s2a s2c hs2A hy6_4) fun _ => ?_
             refine xq [5] (within_fq hy6_5) ?_
             refine xtn [] [0,11,19] ⟨?_, ?_, ?_, trivial⟩
             · refine xn [] fun b6_0 => ?_
               refine xg [6] [0] [] (gh_own b6_0 3 7 ([(1 : Int), (2 : Int), (3 : Int), (1 : Int), (2 : Int), (1 : Int), (4 : Int)] : List Int) [(), (), (), (), (), (), ()] (fun _ _ _ _ _ _ _ => trivial)) fun _ => ?_
               refine xi [] 0 (rA (some ⟨b6_0, 0, none⟩) 7 ([(1 : Int), (2 : Int), (3 : Int), (1 : Int), (2 : Int), (1 : Int), (4 : Int)])) q6_6_1 fun b5 o5 e5 => ?_
               refine xpl [7] 0 (ol_ld (rA (some ⟨b6_0, 0, none⟩) 7 ([(1 : Int), (2 : Int), (3 : Int), (1 : Int), (2 : Int), (1 : Int), (4 : Int)])) e5 q6_6_1 0 (fun _ => rfl)) ?_
               refine xtn [] [11,19] ⟨?_, ?_, trivial⟩
               · refine xc [] [] [6] (patF s3a s3c hs3A hy6_11) fun _ => ?_
                 refine xq [17] (within_fq hy6_17) ?_
                 refine xn [18,19] fun b6_19 => ?_
                 exact xe [20,0] _ [0,0,0] [0,1,1,1,1,1,1] (hN4 (y6_17, y6_5, b6_19) H)
               · refine xn [] fun b6_19 => ?_
                 refine xc [11] [] [6] (patF s3a s3c hs3A hy6_11) fun _ => ?_
                 refine xq [17] (within_fq hy6_17) ?_
                 exact xe [18,20,0] _ [0,0,0] [0,1,1,1,1,1,1] (hN4 (y6_17, y6_5, b6_19) H)
             · refine xc [] [] [5] (patF s3a s3c hs3A hy6_11) fun _ => ?_
               refine xq [17] (within_fq hy6_17) ?_
               refine xtn [] [0,19] ⟨?_, ?_, trivial⟩
               · refine xn [] fun b6_0 => ?_
                 refine xg [6] [0] [] (gh_own b6_0 3 7 ([(1 : Int), (2 : Int), (3 : Int), (1 : Int), (2 : Int), (1 : Int), (4 : Int)] : List Int) [(), (), (), (), (), (), ()] (fun _ _ _ _ _ _ _ => trivial)) fun _ => ?_
                 refine xi [] 0 (rA (some ⟨b6_0, 0, none⟩) 7 ([(1 : Int), (2 : Int), (3 : Int), (1 : Int), (2 : Int), (1 : Int), (4 : Int)])) q6_6_1 fun b5 o5 e5 => ?_
                 refine xpl [7] 0 (ol_ld (rA (some ⟨b6_0, 0, none⟩) 7 ([(1 : Int), (2 : Int), (3 : Int), (1 : Int), (2 : Int), (1 : Int), (4 : Int)])) e5 q6_6_1 0 (fun _ => rfl)) ?_
                 refine xn [18,19] fun b6_19 => ?_
                 exact xe [20,0] _ [0,0,0] [1,1,1,1,1,1,1] (hN4 (y6_17, y6_5, b6_19) H)
               · refine xn [] fun b6_19 => ?_
                 refine xn [0] fun b6_0 => ?_
                 refine xg [6] [0] [] (gh_own b6_0 3 7 ([(1 : Int), (2 : Int), (3 : Int), (1 : Int), (2 : Int), (1 : Int), (4 : Int)] : List Int) [(), (), (), (), (), (), ()] (fun _ _ _ _ _ _ _ => trivial)) fun _ => ?_
                 refine xi [] 0 (rA (some ⟨b6_0, 0, none⟩) 7 ([(1 : Int), (2 : Int), (3 : Int), (1 : Int), (2 : Int), (1 : Int), (4 : Int)])) q6_6_1 fun b5 o5 e5 => ?_
                 refine xpl [7] 0 (ol_ld (rA (some ⟨b6_0, 0, none⟩) 7 ([(1 : Int), (2 : Int), (3 : Int), (1 : Int), (2 : Int), (1 : Int), (4 : Int)])) e5 q6_6_1 0 (fun _ => rfl)) ?_
                 exact xe [18,20,0] _ [0,0,0] [1,1,1,1,1,1,1] (hN4 (y6_17, y6_5, b6_19) H)
             · refine xn [] fun b6_19 => ?_
               refine xtn [] [0,11] ⟨?_, ?_, trivial⟩
               · refine xn [] fun b6_0 => ?_
                 refine xg [6] [0] [] (gh_own b6_0 3 7 ([(1 : Int), (2 : Int), (3 : Int), (1 : Int), (2 : Int), (1 : Int), (4 : Int)] : List Int) [(), (), (), (), (), (), ()] (fun _ _ _ _ _ _ _ => trivial)) fun _ => ?_
                 refine xi [] 0 (rA (some ⟨b6_0, 0, none⟩) 7 ([(1 : Int), (2 : Int), (3 : Int), (1 : Int), (2 : Int), (1 : Int), (4 : Int)])) q6_6_1 fun b5 o5 e5 => ?_
                 refine xpl [7] 0 (ol_ld (rA (some ⟨b6_0, 0, none⟩) 7 ([(1 : Int), (2 : Int), (3 : Int), (1 : Int), (2 : Int), (1 : Int), (4 : Int)])) e5 q6_6_1 0 (fun _ => rfl)) ?_
                 refine xc [11] [] [6] (patF s3a s3c hs3A hy6_11) fun _ => ?_
                 refine xq [17] (within_fq hy6_17) ?_
                 exact xe [18,20,0] _ [0,0,0] [0,1,1,1,1,1,1] (hN4 (y6_17, y6_5, b6_19) H)
               · refine xc [] [] [5] (patF s3a s3c hs3A hy6_11) fun _ => ?_
                 refine xq [17] (within_fq hy6_17) ?_
                 refine xn [0] fun b6_0 => ?_
                 refine xg [6] [0] [] (gh_own b6_0 3 7 ([(1 : Int), (2 : Int), (3 : Int), (1 : Int), (2 : Int), (1 : Int), (4 : Int)] : List Int) [(), (), (), (), (), (), ()] (fun _ _ _ _ _ _ _ => trivial)) fun _ => ?_
                 refine xi [] 0 (rA (some ⟨b6_0, 0, none⟩) 7 ([(1 : Int), (2 : Int), (3 : Int), (1 : Int), (2 : Int), (1 : Int), (4 : Int)])) q6_6_1 fun b5 o5 e5 => ?_
                 refine xpl [7] 0 (ol_ld (rA (some ⟨b6_0, 0, none⟩) 7 ([(1 : Int), (2 : Int), (3 : Int), (1 : Int), (2 : Int), (1 : Int), (4 : Int)])) e5 q6_6_1 0 (fun _ => rfl)) ?_
                 exact xe [18,20,0] _ [0,0,0] [1,1,1,1,1,1,1] (hN4 (y6_17, y6_5, b6_19) H)
           · refine xn [] fun b6_19 => ?_
             refine xtn [] [0,4] ⟨?_, ?_, trivial⟩
             · refine xn [] fun b6_0 => ?_
               refine xc [4] [] [4] (patF s2a s2c hs2A hy6_4) fun _ => ?_
               refine xq [5] (within_fq hy6_5) ?_
               refine xg [6] [0] [] (gh_own b6_0 3 7 ([(1 : Int), (2 : Int), (3 : Int), (1 : Int), (2 : Int), (1 : Int), (4 : Int)] : List Int) [(), (), (), (), (), (), ()] (fun _ _ _ _ _ _ _ => trivial)) fun _ => ?_
               refine xi [] 0 (rA (some ⟨b6_0, 0, none⟩) 7 ([(1 : Int), (2 : Int), (3 : Int), (1 : Int), (2 : Int), (1 : Int), (4 : Int)])) q6_6_1 fun b5 o5 e5 => ?_
               refine xpl [7] 0 (ol_ld (rA (some ⟨b6_0, 0, none⟩) 7 ([(1 : Int), (2 : Int), (3 : Int), (1 : Int), (2 : Int), (1 : Int), (4 : Int)])) e5 q6_6_1 0 (fun _ => rfl)) ?_
               refine xc [11] [] [6] (patF s3a s3c hs3A hy6_11) fun _ => ?_
               refine xq [17] (within_fq hy6_17) ?_
               exact xe [18,20,0] _ [0,0,0] [0,1,1,1,1,1,1] (hN4 (y6_17, y6_5, b6_19) H)
             · refine xc [] [] [4] (patF s2a s2c hs2A hy6_4) fun _ => ?_
               refine xq [5] (within_fq hy6_5) ?_
               refine xtn [] [0,11] ⟨?_, ?_, trivial⟩
               · refine xn [] fun b6_0 => ?_
                 refine xg [6] [0] [] (gh_own b6_0 3 7 ([(1 : Int), (2 : Int), (3 : Int), (1 : Int), (2 : Int), (1 : Int), (4 : Int)] : List Int) [(), (), (), (), (), (), ()] (fun _ _ _ _ _ _ _ => trivial)) fun _ => ?_
                 refine xi [] 0 (rA (some ⟨b6_0, 0, none⟩) 7 ([(1 : Int), (2 : Int), (3 : Int), (1 : Int), (2 : Int), (1 : Int), (4 : Int)])) q6_6_1 fun b5 o5 e5 => ?_
                 refine xpl [7] 0 (ol_ld (rA (some ⟨b6_0, 0, none⟩) 7 ([(1 : Int), (2 : Int), (3 : Int), (1 : Int), (2 : Int), (1 : Int), (4 : Int)])) e5 q6_6_1 0 (fun _ => rfl)) ?_
                 refine xc [11] [] [6] (patF s3a s3c hs3A hy6_11) fun _ => ?_
                 refine xq [17] (within_fq hy6_17) ?_
                 exact xe [18,20,0] _ [0,0,0] [0,1,1,1,1,1,1] (hN4 (y6_17, y6_5, b6_19) H)
               · refine xc [] [] [5] (patF s3a s3c hs3A hy6_11) fun _ => ?_
                 refine xq [17] (within_fq hy6_17) ?_
                 refine xn [0] fun b6_0 => ?_
                 refine xg [6] [0] [] (gh_own b6_0 3 7 ([(1 : Int), (2 : Int), (3 : Int), (1 : Int), (2 : Int), (1 : Int), (4 : Int)] : List Int) [(), (), (), (), (), (), ()] (fun _ _ _ _ _ _ _ => trivial)) fun _ => ?_
                 refine xi [] 0 (rA (some ⟨b6_0, 0, none⟩) 7 ([(1 : Int), (2 : Int), (3 : Int), (1 : Int), (2 : Int), (1 : Int), (4 : Int)])) q6_6_1 fun b5 o5 e5 => ?_
                 refine xpl [7] 0 (ol_ld (rA (some ⟨b6_0, 0, none⟩) 7 ([(1 : Int), (2 : Int), (3 : Int), (1 : Int), (2 : Int), (1 : Int), (4 : Int)])) e5 q6_6_1 0 (fun _ => rfl)) ?_
                 exact xe [18,20,0] _ [0,0,0] [1,1,1,1,1,1,1] (hN4 (y6_17, y6_5, b6_19) H)
     · intro H
       exact xe [0] _ [] [0,1,1,1,1,1] (hN0 (v1_6x, v1_6a, v1_6c) H)
   · intro N2 hN2
     refine xs [1] H ?_ ?_
     · intro H
       exact xe [1,1,1,1] _ [0,0] [0,0,0,0,0,0,0] (hN2 (decide (v1_7 < most)) H)
     · intro H
       exact xe [0,0,0,0] _ [0,0] [0,0,0,0,0,0,0] (hN2 (false) H)
def pprogOS_j0 (e0_6x : List (List OpS)) : Option (List (List OpS)) :=
 some e0_6x
def pprogOS_j3 (v1_7 : Int) (r1 : (List (List OpS)) → Int → Option (List (List OpS))) (e3_6x : List (List OpS)) : Option (List (List OpS)) :=
 chk (inR (v1_7 + (1 : Int))) (r1 e3_6x (v1_7 + (1 : Int)))
def pprogOS_j5 (v1_7 : Int) (s : SetupS) (y1_1 : CfgS) (v1_6x : List (List OpS)) (y6_5 : Int) (y6_17 : Int) (k3 : (List (List OpS)) → Option (List (List OpS))) (e5_b6_19_2 : Int) : Option (List (List OpS)) :=
 chk (0 ≤ v1_7 ∧ v1_7 < ((s.who.length : Nat) : Int)) ((withinS (nth s.who v1_7) y1_1.nodes).bind fun y9_7 => chk (0 ≤ y9_7 ∧ y9_7 < ((v1_6x.length : Nat) : Int)) ((bif decide ((((List.length (nthR v1_6x y9_7)) : Nat) : Int) < (24 : Int)) then chk (0 ≤ y9_7 ∧ y9_7 < ((v1_6x.length : Nat) : Int)) (chk (((nthR v1_6x y9_7) ++ ([(⟨nth ([(1 : Int), (2 : Int), (3 : Int), (1 : Int), (2 : Int), (1 : Int), (4 : Int)]) y6_5, y6_17, e5_b6_19_2⟩ : OpS)])).length ≤ 1099511627776) (letP ((nthR v1_6x y9_7) ++ ([(⟨nth ([(1 : Int), (2 : Int), (3 : Int), (1 : Int), (2 : Int), (1 : Int), (4 : Int)]) y6_5, y6_17, e5_b6_19_2⟩ : OpS)])) fun l11_8 => chk (0 ≤ y9_7 ∧ y9_7 < ((v1_6x.length : Nat) : Int)) (letP (setR v1_6x y9_7 l11_8) fun l11_10 => k3 l11_10))) else k3 v1_6x)))
def pprogOS_j4 (s : SetupS) (v1_7 : Int) (y1_1 : CfgS) (v1_6x : List (List OpS)) (k3 : (List (List OpS)) → Option (List (List OpS))) (y6_17 : Int) (y6_5 : Int) : Option (List (List OpS)) :=
 (bif decide ((nth ([(1 : Int), (2 : Int), (3 : Int), (1 : Int), (2 : Int), (1 : Int), (4 : Int)]) y6_5) = (2 : Int)) then (patS s.values v1_7).bind fun y8_3 => (pprogOS_j5 v1_7 s y1_1 v1_6x y6_5 y6_17 k3) y8_3 else (bif decide ((nth ([(1 : Int), (2 : Int), (3 : Int), (1 : Int), (2 : Int), (1 : Int), (4 : Int)]) y6_5) = (3 : Int)) then (patS s.values v1_7).bind fun y8_3 => (pprogOS_j5 v1_7 s y1_1 v1_6x y6_5 y6_17 k3) y8_3 else (pprogOS_j5 v1_7 s y1_1 v1_6x y6_5 y6_17 k3) (0 : Int)))
def pprogOS_j2 (s : SetupS) (v1_7 : Int) (y1_1 : CfgS) (v1_6x : List (List OpS)) (r1 : (List (List OpS)) → Int → Option (List (List OpS))) (k0 : (List (List OpS)) → Option (List (List OpS))) (e2_24 : Bool) : Option (List (List OpS)) :=
 (bif e2_24 then (patS s.kinds v1_7).bind fun y6_4 => (withinS y6_4 (7 : Int)).bind fun y6_5 => chk (0 ≤ y6_5 ∧ y6_5 < ((([(1 : Int), (2 : Int), (3 : Int), (1 : Int), (2 : Int), (1 : Int), (4 : Int)]).length : Nat) : Int)) ((patS s.addrs v1_7).bind fun y6_11 => (withinS y6_11 (wr (y1_1.lines * y1_1.words))).bind fun y6_17 => (pprogOS_j4 s v1_7 y1_1 v1_6x (pprogOS_j3 v1_7 r1)) y6_17 y6_5) else k0 v1_6x)
def pprogOS_l1 (s : SetupS) (y1_1 : CfgS) (k0 : (List (List OpS)) → Option (List (List OpS))) (most : Int) : Nat → (List (List OpS)) → Int → Option (List (List OpS))
 | 0, _, _ => none
 | m + 1, v1_6x, v1_7 => (bif decide (v1_7 < (((List.length s.who) : Nat) : Int)) then (pprogOS_j2 s v1_7 y1_1 v1_6x (pprogOS_l1 s y1_1 k0 most m) k0) (decide (v1_7 < most)) else (pprogOS_j2 s v1_7 y1_1 v1_6x (pprogOS_l1 s y1_1 k0 most m) k0) false)
def pprogOS (s : SetupS) (most : Int) : Option (List (List OpS)) :=
 (pconfS s).bind fun y1_1 => chk (0 ≤ y1_1.nodes ∧ y1_1.nodes ≤ 1099511627776) (letP (List.replicate (y1_1.nodes).toNat ([] : List OpS)) fun l2_2 => pprogOS_l1 s y1_1 pprogOS_j0 most 64 l2_2 (0 : Int))
set_option maxRecDepth 100000 in
set_option maxHeartbeats 4000000 in
theorem pprogOF {s : SetupS} {s0A : Asn} {s1A : Asn} {s2A : Asn} {s3A : Asn} {s4A : Asn} {most : Int} (s0a : Option Addr) (s0c : Nat) (s1a : Option Addr) (s1c : Nat) (s2a : Option Addr) (s2c : Nat) (s3a : Option Addr) (s3c : Nat) (s4a : Option Addr) (s4c : Nat) (hs0A : Rdb s0A s0a s0c s.init) (hs1A : Rdb s1A s1a s1c s.who) (hs2A : Rdb s2A s2a s2c s.kinds) (hs3A : Rdb s3A s3a s3c s.addrs) (hs4A : Rdb s4A s4a s4c s.values) {y : List (List OpS)} (H : pprogOS s most = some y) : FnY Tryz.prog 26 [.agg #[.int .i64 s.nodes, .int .i64 s.lines, .int .i64 s.words, .int .i64 s.sets, .int .i64 s.ways, .int .i64 s.out, .int .i64 s.inn, .slice s0a (List.length s.init) s0c, .slice s1a (List.length s.who) s1c, .slice s2a (List.length s.kinds) s2c, .slice s3a (List.length s.addrs) s3c, .slice s4a (List.length s.values) s4c], .int .i64 most] ⟨[], [s0A, s1A, s2A, s3A, s4A]⟩ (Z := Option Addr × Nat) (fun y (za0, zc0) => .slice za0 (List.length y) zc0) (fun y (za0, zc0) => ⟨[], [(ArrO za0 zc0 y), s0A, s1A, s2A, s3A, s4A]⟩) y := by
 unfold pprogOS at H
 refine xfY Tryz.func26 fun W0 F => ?_
 refine xn [] fun b0_0 => ?_
 refine bindG H fun y1_1 hy1_1 H => ?_
 refine xc [0] [] [0,0,0,0,0] (pconfF s0a s0c s1a s1c s2a s2c s3a s3c s4a s4c hs0A hs1A hs2A hs3A hs4A hy1_1) fun ⟨t1_1_a0, t1_1_c0⟩ => ?_
 refine xn [] fun b1_2 => ?_
 refine chkG H fun q2_2_1 H => ?_
 refine letG H fun l2_2 hl2_2 H => ?_
 refine xmkO (α := List OpS) [0,0] q2_2_1 hl2_2 roList_d fun b2_2 => ?_
 refine xj [100] (ι := List (List OpS) × Option Addr × Nat) (fun (e0_6x, e0_6a, e0_6c) => ⟨[(6, .slice e0_6a (List.length e0_6x) e0_6c)], [], [(ArrO e0_6a e0_6c e0_6x), s0A, s1A, s2A, s3A, s4A]⟩) (fun (e0_6x, e0_6a, e0_6c) => pprogOS_j0 e0_6x = some y) ?_ ?_
 · rintro ⟨e0_6x, e0_6a, e0_6c⟩ H
   replace H : pprogOS_j0 e0_6x = some y := H
   rw [pprogOS_j0] at H
   exact xrY (someE H) [] [] [] [0,0,0,0,0,0] (e0_6a, e0_6c)
 · intro N0 hN0
   refine xl [] (ι := List (List OpS) × Int × Option Addr × Nat) (fun (v1_6x, v1_7, v1_6a, v1_6c) => ⟨[(1, .int .i64 most), (2, .pointer (some ⟨b0_0, 0, none⟩)), (5, .pointer (some ⟨b1_2, 0, none⟩)), (6, .slice v1_6a (List.length v1_6x) v1_6c), (7, .int .i64 v1_7)], [⟨b1_2, #[.int .i64 y1_1.nodes, .int .i64 y1_1.lines, .int .i64 y1_1.words, .int .i64 y1_1.sets, .int .i64 y1_1.ways, .int .i64 y1_1.out, .int .i64 y1_1.inn, .slice t1_1_a0 (List.length y1_1.init) t1_1_c0], 25⟩, ⟨b0_0, #[.int .i64 s.nodes, .int .i64 s.lines, .int .i64 s.words, .int .i64 s.sets, .int .i64 s.ways, .int .i64 s.out, .int .i64 s.inn, .slice s0a (List.length s.init) s0c, .slice s1a (List.length s.who) s1c, .slice s2a (List.length s.kinds) s2c, .slice s3a (List.length s.addrs) s3c, .slice s4a (List.length s.values) s4c], 75⟩], [(ArrO v1_6a v1_6c v1_6x), (ArrA t1_1_a0 t1_1_c0 y1_1.init), s0A, s1A, s2A, s3A, s4A]⟩) (fun m1 (v1_6x, v1_7, v1_6a, v1_6c) => pprogOS_l1 s y1_1 (pprogOS_j0) most m1 v1_6x v1_7 = some y) [0,0] [0,0,0,0,0,0,0] (64) (l2_2, (0 : Int), some ⟨b2_2, 0, none⟩, (y1_1.nodes).toNat) H ?_
   rintro N1 (_ | m1) ⟨v1_6x, v1_7, v1_6a, v1_6c⟩ H hN1
   · exact (noneE H).elim
   replace H : pprogOS_l1 s y1_1 (pprogOS_j0) most (m1 + 1) v1_6x v1_7 = some y := H
   rw [pprogOS_l1] at H
   refine xj [101] (ι := Bool) (fun e2_24 => ⟨[(1, .int .i64 most), (2, .pointer (some ⟨b0_0, 0, none⟩)), (5, .pointer (some ⟨b1_2, 0, none⟩)), (6, .slice v1_6a (List.length v1_6x) v1_6c), (7, .int .i64 v1_7), (24, .bool e2_24)], [⟨b1_2, #[.int .i64 y1_1.nodes, .int .i64 y1_1.lines, .int .i64 y1_1.words, .int .i64 y1_1.sets, .int .i64 y1_1.ways, .int .i64 y1_1.out, .int .i64 y1_1.inn, .slice t1_1_a0 (List.length y1_1.init) t1_1_c0], 25⟩, ⟨b0_0, #[.int .i64 s.nodes, .int .i64 s.lines, .int .i64 s.words, .int .i64 s.sets, .int .i64 s.ways, .int .i64 s.out, .int .i64 s.inn, .slice s0a (List.length s.init) s0c, .slice s1a (List.length s.who) s1c, .slice s2a (List.length s.kinds) s2c, .slice s3a (List.length s.addrs) s3c, .slice s4a (List.length s.values) s4c], 75⟩], [(ArrO v1_6a v1_6c v1_6x), (ArrA t1_1_a0 t1_1_c0 y1_1.init), s0A, s1A, s2A, s3A, s4A]⟩) (fun e2_24 => pprogOS_j2 s v1_7 y1_1 v1_6x (pprogOS_l1 s y1_1 (pprogOS_j0) most m1) (pprogOS_j0) e2_24 = some y) ?_ ?_
   · rintro e2_24 H
     replace H : pprogOS_j2 s v1_7 y1_1 v1_6x (pprogOS_l1 s y1_1 (pprogOS_j0) most m1) (pprogOS_j0) e2_24 = some y := H
     rw [pprogOS_j2] at H
     refine xs [] H ?_ ?_
     · intro H
       refine xj [1,100] (ι := List (List OpS) × Option Addr × Nat) (fun (e3_6x, e3_6a, e3_6c) => ⟨[(1, .int .i64 most), (2, .pointer (some ⟨b0_0, 0, none⟩)), (5, .pointer (some ⟨b1_2, 0, none⟩)), (6, .slice e3_6a (List.length e3_6x) e3_6c), (7, .int .i64 v1_7)], [⟨b1_2, #[.int .i64 y1_1.nodes, .int .i64 y1_1.lines, .int .i64 y1_1.words, .int .i64 y1_1.sets, .int .i64 y1_1.ways, .int .i64 y1_1.out, .int .i64 y1_1.inn, .slice t1_1_a0 (List.length y1_1.init) t1_1_c0], 25⟩, ⟨b0_0, #[.int .i64 s.nodes, .int .i64 s.lines, .int .i64 s.words, .int .i64 s.sets, .int .i64 s.ways, .int .i64 s.out, .int .i64 s.inn, .slice s0a (List.length s.init) s0c, .slice s1a (List.length s.who) s1c, .slice s2a (List.length s.kinds) s2c, .slice s3a (List.length s.addrs) s3c, .slice s4a (List.length s.values) s4c], 75⟩], [(ArrO e3_6a e3_6c e3_6x), s4A, s3A, s2A, (ArrA t1_1_a0 t1_1_c0 y1_1.init), s0A, s1A]⟩) (fun (e3_6x, e3_6a, e3_6c) => pprogOS_j3 v1_7 (pprogOS_l1 s y1_1 (pprogOS_j0) most m1) e3_6x = some y) ?_ ?_
       · rintro ⟨e3_6x, e3_6a, e3_6c⟩ H
         replace H : pprogOS_j3 v1_7 (pprogOS_l1 s y1_1 (pprogOS_j0) most m1) e3_6x = some y := H
         rw [pprogOS_j3] at H
         refine chkG H fun q5_1_1 H => ?_
         refine xd [0] (ap q5_1_1 an) ?_
         exact xe [] _ [0,0] [0,3,3,3,2,1,0] (hN1 _ (e3_6x, v1_7 + (1 : Int), e3_6a, e3_6c) (Nat.lt_succ_self _) H)
       · intro N3 hN3
         refine xj [100] (ι := Int × Int × Nat) (fun (y6_17, y6_5, b6_19) => ⟨[(1, .int .i64 most), (2, .pointer (some ⟨b0_0, 0, none⟩)), (5, .pointer (some ⟨b1_2, 0, none⟩)), (6, .slice v1_6a (List.length v1_6x) v1_6c), (7, .int .i64 v1_7), (8, .pointer (some ⟨b6_19, 0, none⟩))], [⟨b6_19, #[.int .i64 (nth ([(1 : Int), (2 : Int), (3 : Int), (1 : Int), (2 : Int), (1 : Int), (4 : Int)]) y6_5), .int .i64 y6_17, .int .i64 (0)], 29⟩, ⟨b1_2, #[.int .i64 y1_1.nodes, .int .i64 y1_1.lines, .int .i64 y1_1.words, .int .i64 y1_1.sets, .int .i64 y1_1.ways, .int .i64 y1_1.out, .int .i64 y1_1.inn, .slice t1_1_a0 (List.length y1_1.init) t1_1_c0], 25⟩, ⟨b0_0, #[.int .i64 s.nodes, .int .i64 s.lines, .int .i64 s.words, .int .i64 s.sets, .int .i64 s.ways, .int .i64 s.out, .int .i64 s.inn, .slice s0a (List.length s.init) s0c, .slice s1a (List.length s.who) s1c, .slice s2a (List.length s.kinds) s2c, .slice s3a (List.length s.addrs) s3c, .slice s4a (List.length s.values) s4c], 75⟩], [s3A, s2A, (ArrO v1_6a v1_6c v1_6x), (ArrA t1_1_a0 t1_1_c0 y1_1.init), s0A, s1A, s4A]⟩) (fun (y6_17, y6_5, b6_19) => pprogOS_j4 s v1_7 y1_1 v1_6x (pprogOS_j3 v1_7 (pprogOS_l1 s y1_1 (pprogOS_j0) most m1)) y6_17 y6_5 = some y) ?_ ?_
         · rintro ⟨y6_17, y6_5, b6_19⟩ H
           replace H : pprogOS_j4 s v1_7 y1_1 v1_6x (pprogOS_j3 v1_7 (pprogOS_l1 s y1_1 (pprogOS_j0) most m1)) y6_17 y6_5 = some y := H
           rw [pprogOS_j4] at H
           refine xj [100] (ι := Int) (fun e5_b6_19_2 => ⟨[(1, .int .i64 most), (2, .pointer (some ⟨b0_0, 0, none⟩)), (5, .pointer (some ⟨b1_2, 0, none⟩)), (6, .slice v1_6a (List.length v1_6x) v1_6c), (7, .int .i64 v1_7), (8, .pointer (some ⟨b6_19, 0, none⟩))], [⟨b6_19, #[.int .i64 (nth ([(1 : Int), (2 : Int), (3 : Int), (1 : Int), (2 : Int), (1 : Int), (4 : Int)]) y6_5), .int .i64 y6_17, .int .i64 e5_b6_19_2], 29⟩, ⟨b1_2, #[.int .i64 y1_1.nodes, .int .i64 y1_1.lines, .int .i64 y1_1.words, .int .i64 y1_1.sets, .int .i64 y1_1.ways, .int .i64 y1_1.out, .int .i64 y1_1.inn, .slice t1_1_a0 (List.length y1_1.init) t1_1_c0], 25⟩, ⟨b0_0, #[.int .i64 s.nodes, .int .i64 s.lines, .int .i64 s.words, .int .i64 s.sets, .int .i64 s.ways, .int .i64 s.out, .int .i64 s.inn, .slice s0a (List.length s.init) s0c, .slice s1a (List.length s.who) s1c, .slice s2a (List.length s.kinds) s2c, .slice s3a (List.length s.addrs) s3c, .slice s4a (List.length s.values) s4c], 75⟩], [s4A, s3A, s2A, (ArrO v1_6a v1_6c v1_6x), (ArrA t1_1_a0 t1_1_c0 y1_1.init), s0A, s1A]⟩) (fun e5_b6_19_2 => pprogOS_j5 v1_7 s y1_1 v1_6x y6_5 y6_17 (pprogOS_j3 v1_7 (pprogOS_l1 s y1_1 (pprogOS_j0) most m1)) e5_b6_19_2 = some y) ?_ ?_
           · rintro e5_b6_19_2 H
             replace H : pprogOS_j5 v1_7 s y1_1 v1_6x y6_5 y6_17 (pprogOS_j3 v1_7 (pprogOS_l1 s y1_1 (pprogOS_j0) most m1)) e5_b6_19_2 = some y := H
             rw [pprogOS_j5] at H
             refine chkG H fun q9_3_1 H => ?_
             refine xi [0,1,2,2,3] 6 hs1A q9_3_1 fun b1 o1 e1 => ?_
             refine xpl [4] 6 (ol_ld hs1A e1 q9_3_1 0 (fun _ => rfl)) ?_
             refine bindG H fun y9_7 hy9_7 H => ?_
             refine xq [5,6,1,7] (within_fq hy9_7) ?_
             refine chkG H fun q10_2_1 H => ?_
             refine xg [8] [] [3] (gh_foc v1_6a v1_6c v1_6x y9_7 q10_2_1) fun ⟨wa1, wc1⟩ => ?_
             refine xiG (K := 1) [] 1 (ix_hol v1_6a v1_6c v1_6x y9_7 (wa1, wc1) q10_2_1) q10_2_1 fun b2 o2 e2 => ?_
             refine xpl [] 1 (ol_hld v1_6a v1_6c v1_6x y9_7 (wa1, wc1) e2 q10_2_1 0 rfl) ?_
             refine xs [] H ?_ ?_
             · intro H
               refine chkG H fun q11_4_1 H => ?_
               refine xiG (K := 1) [1,0,1,2,3,4] 1 (ix_hol v1_6a v1_6c v1_6x y9_7 (wa1, wc1) q11_4_1) q11_4_1 fun b3 o3 e3 => ?_
               refine xpl [5] 1 (ol_hld v1_6a v1_6c v1_6x y9_7 (wa1, wc1) e3 q10_2_1 0 rfl) ?_
               refine xn [6,0,7] fun b11_7 => ?_
               refine xg [8] [0] [8] (gh_one b11_7 29 (⟨nth ([(1 : Int), (2 : Int), (3 : Int), (1 : Int), (2 : Int), (1 : Int), (4 : Int)]) y6_5, y6_17, e5_b6_19_2⟩ : OpS) ()) fun _ => ?_
               refine chkG H fun q11_8_1 H => ?_
               refine letG H fun l11_8 hl11_8 H => ?_
               refine xa [] [1,0] (a := wa1) (l := (nthR v1_6x y9_7)) (zs := l11_8) (cap := wc1) (rA (some ⟨b11_7, 0, none⟩) 1 ([(⟨nth ([(1 : Int), (2 : Int), (3 : Int), (1 : Int), (2 : Int), (1 : Int), (4 : Int)]) y6_5, y6_17, e5_b6_19_2⟩ : OpS)])) hl11_8 (hl11_8 ▸ q11_8_1) fun ⟨a11_8, c11_8⟩ => ?_
               refine chkG H fun q11_9_1 H => ?_
               refine xiG (K := 1) [9] 2 (ix_hol v1_6a v1_6c v1_6x y9_7 (wa1, wc1) q11_9_1) q11_9_1 fun b4 o4 e4 => ?_
               refine letG H fun l11_10 hl11_10 H => ?_
               refine xo [10] [] [0,1] (oc_hst v1_6a v1_6c v1_6x y9_7 (wa1, wc1) l11_8 (a11_8, c11_8) e4 q10_2_1 hl11_10) fun _ => ?_
               refine xw [] 6 (congrArg (fun n : Nat => (.slice v1_6a n v1_6c : Value)) (setR_len hl11_10)) ?_
               refine xw [] 73 (congrArg (fun n : Nat => (.slice v1_6a n v1_6c : Value)) (setR_len hl11_10)) ?_
               refine xw [] 75 (congrArg (fun n : Nat => (.slice v1_6a n v1_6c : Value)) (setR_len hl11_10)) ?_
               exact xe [] _ [1,1] [0,1,1,1,1,1,1] (hN3 (l11_10, v1_6a, v1_6c) H)
             · intro H
               refine xg [0] [] [0,0] (gh_unfs v1_6a v1_6c v1_6x y9_7 (wa1, wc1) q10_2_1) fun _ => ?_
               exact xe [] _ [1,1] [0,0,0,0,0,0,0] (hN3 (v1_6x, v1_6a, v1_6c) H)
           · intro N5 hN5
             refine xs [0] H ?_ ?_
             · intro H
               refine bindG H fun y8_3 hy8_3 H => ?_
               refine xc [0,0,0,1,1,2] [] [6] (patF s4a s4c hs4A hy8_3) fun _ => ?_
               exact xe [0] _ [0,0,0] [0,0,0,0,0,0,0] (hN5 (y8_3) H)
             · intro H
               refine xs [1,1,0,1,0] H ?_ ?_
               · intro H
                 refine bindG H fun y8_3 hy8_3 H => ?_
                 refine xc [1,2] [] [6] (patF s4a s4c hs4A hy8_3) fun _ => ?_
                 exact xe [0] _ [0,0,0] [0,0,0,0,0,0,0] (hN5 (y8_3) H)
               · intro H
                 exact xe [0] _ [0,0,0] [6,0,0,0,0,0,0] (hN5 ((0 : Int)) H)
         · intro N4 hN4
           refine bindG H fun y6_4 hy6_4 H => ?_
           refine bindG H fun y6_5 hy6_5 H => ?_
           refine chkG H fun q6_6_1 H => ?_
           refine bindG H fun y6_11 hy6_11 H => ?_
           refine bindG H fun y6_17 hy6_17 H => ?_
           refine xtn [1,2,1,3,8,9,1,10,12,13,0,14,15,0,16,1] [0,4,19] ⟨?_, ?_, ?_, trivial⟩
           · refine xn [] fun b6_0 => ?_
             refine xtn [] [4,19] ⟨?_, ?_, trivial⟩
             · refine xc [] [] [4] (patF s2a s2c hs2A hy6_4) fun _ => ?_
               refine xq [5] (within_fq hy6_5) ?_
               refine xg [6] [0] [] (gh_own b6_0 3 7 ([(1 : Int), (2 : Int), (3 : Int), (1 : Int), (2 : Int), (1 : Int), (4 : Int)] : List Int) [(), (), (), (), (), (), ()] (fun _ _ _ _ _ _ _ => trivial)) fun _ => ?_
               refine xi [] 0 (rA (some ⟨b6_0, 0, none⟩) 7 ([(1 : Int), (2 : Int), (3 : Int), (1 : Int), (2 : Int), (1 : Int), (4 : Int)])) q6_6_1 fun b5 o5 e5 => ?_
               refine xpl [7] 0 (ol_ld (rA (some ⟨b6_0, 0, none⟩) 7 ([(1 : Int), (2 : Int), (3 : Int), (1 : Int), (2 : Int), (1 : Int), (4 : Int)])) e5 q6_6_1 0 (fun _ => rfl)) ?_
               refine xtn [] [11,19] ⟨?_, ?_, trivial⟩
               · refine xc [] [] [6] (patF s3a s3c hs3A hy6_11) fun _ => ?_
                 refine xq [17] (within_fq hy6_17) ?_
                 refine xn [18,19] fun b6_19 => ?_
                 exact xe [20,0] _ [0,0,0] [0,1,1,1,1,1,1] (hN4 (y6_17, y6_5, b6_19) H)
               · refine xn [] fun b6_19 => ?_
                 refine xc [11] [] [6] (patF s3a s3c hs3A hy6_11) fun _ => ?_
                 refine xq [17] (within_fq hy6_17) ?_
                 exact xe [18,20,0] _ [0,0,0] [0,1,1,1,1,1,1] (hN4 (y6_17, y6_5, b6_19) H)
             · refine xn [] fun b6_19 => ?_
               refine xc [4] [] [4] (patF s2a s2c hs2A hy6_4) fun _ => ?_
               refine xq [5] (within_fq hy6_5) ?_
               refine xg [6] [1] [] (gh_own b6_0 3 7 ([(1 : Int), (2 : Int), (3 : Int), (1 : Int), (2 : Int), (1 : Int), (4 : Int)] : List Int) [(), (), (), (), (), (), ()] (fun _ _ _ _ _ _ _ => trivial)) fun _ => ?_
               refine xi [] 0 (rA (some ⟨b6_0, 0, none⟩) 7 ([(1 : Int), (2 : Int), (3 : Int), (1 : Int), (2 : Int), (1 : Int), (4 : Int)])) q6_6_1 fun b5 o5 e5 => ?_
               refine xpl [7] 0 (ol_ld (rA (some ⟨b6_0, 0, none⟩) 7 ([(1 : Int), (2 : Int), (3 : Int), (1 : Int), (2 : Int), (1 : Int), (4 : Int)])) e5 q6_6_1 0 (fun _ => rfl)) ?_
               refine xc [11] [] [6] (patF s3a s3c hs3A hy6_11) fun _ => ?_
               refine xq [17] (within_fq hy6_17) ?_
               exact xe [18,20,0] _ [0,0,0] [0,1,1,1,1,1,1] (hN4 (y6_17, y6_5, b6_19) H)
           · refine xc [] [] [4] (patF s2a s2c hs2A hy6_4) fun _ => ?_
             refine xq [5] (within_fq hy6_5) ?_
             refine xtn [] [0,11,19] ⟨?_, ?_, ?_, trivial⟩
             · refine xn [] fun b6_0 => ?_
               refine xg [6] [0] [] (gh_own b6_0 3 7 ([(1 : Int), (2 : Int), (3 : Int), (1 : Int), (2 : Int), (1 : Int), (4 : Int)] : List Int) [(), (), (), (), (), (), ()] (fun _ _ _ _ _ _ _ => trivial)) fun _ => ?_
               refine xi [] 0 (rA (some ⟨b6_0, 0, none⟩) 7 ([(1 : Int), (2 : Int), (3 : Int), (1 : Int), (2 : Int), (1 : Int), (4 : Int)])) q6_6_1 fun b5 o5 e5 => ?_
               refine xpl [7] 0 (ol_ld (rA (some ⟨b6_0, 0, none⟩) 7 ([(1 : Int), (2 : Int), (3 : Int), (1 : Int), (2 : Int), (1 : Int), (4 : Int)])) e5 q6_6_1 0 (fun _ => rfl)) ?_
               refine xtn [] [11,19] ⟨?_, ?_, trivial⟩
               · refine xc [] [] [6] (patF s3a s3c hs3A hy6_11) fun _ => ?_
                 refine xq [17] (within_fq hy6_17) ?_
                 refine xn [18,19] fun b6_19 => ?_
                 exact xe [20,0] _ [0,0,0] [0,1,1,1,1,1,1] (hN4 (y6_17, y6_5, b6_19) H)
               · refine xn [] fun b6_19 => ?_
                 refine xc [11] [] [6] (patF s3a s3c hs3A hy6_11) fun _ => ?_
                 refine xq [17] (within_fq hy6_17) ?_
                 exact xe [18,20,0] _ [0,0,0] [0,1,1,1,1,1,1] (hN4 (y6_17, y6_5, b6_19) H)
             · refine xc [] [] [5] (patF s3a s3c hs3A hy6_11) fun _ => ?_
               refine xq [17] (within_fq hy6_17) ?_
               refine xtn [] [0,19] ⟨?_, ?_, trivial⟩
               · refine xn [] fun b6_0 => ?_
                 refine xg [6] [0] [] (gh_own b6_0 3 7 ([(1 : Int), (2 : Int), (3 : Int), (1 : Int), (2 : Int), (1 : Int), (4 : Int)] : List Int) [(), (), (), (), (), (), ()] (fun _ _ _ _ _ _ _ => trivial)) fun _ => ?_
                 refine xi [] 0 (rA (some ⟨b6_0, 0, none⟩) 7 ([(1 : Int), (2 : Int), (3 : Int), (1 : Int), (2 : Int), (1 : Int), (4 : Int)])) q6_6_1 fun b5 o5 e5 => ?_
                 refine xpl [7] 0 (ol_ld (rA (some ⟨b6_0, 0, none⟩) 7 ([(1 : Int), (2 : Int), (3 : Int), (1 : Int), (2 : Int), (1 : Int), (4 : Int)])) e5 q6_6_1 0 (fun _ => rfl)) ?_
                 refine xn [18,19] fun b6_19 => ?_
                 exact xe [20,0] _ [0,0,0] [1,1,1,1,1,1,1] (hN4 (y6_17, y6_5, b6_19) H)
               · refine xn [] fun b6_19 => ?_
                 refine xn [0] fun b6_0 => ?_
                 refine xg [6] [0] [] (gh_own b6_0 3 7 ([(1 : Int), (2 : Int), (3 : Int), (1 : Int), (2 : Int), (1 : Int), (4 : Int)] : List Int) [(), (), (), (), (), (), ()] (fun _ _ _ _ _ _ _ => trivial)) fun _ => ?_
                 refine xi [] 0 (rA (some ⟨b6_0, 0, none⟩) 7 ([(1 : Int), (2 : Int), (3 : Int), (1 : Int), (2 : Int), (1 : Int), (4 : Int)])) q6_6_1 fun b5 o5 e5 => ?_
                 refine xpl [7] 0 (ol_ld (rA (some ⟨b6_0, 0, none⟩) 7 ([(1 : Int), (2 : Int), (3 : Int), (1 : Int), (2 : Int), (1 : Int), (4 : Int)])) e5 q6_6_1 0 (fun _ => rfl)) ?_
                 exact xe [18,20,0] _ [0,0,0] [1,1,1,1,1,1,1] (hN4 (y6_17, y6_5, b6_19) H)
             · refine xn [] fun b6_19 => ?_
               refine xtn [] [0,11] ⟨?_, ?_, trivial⟩
               · refine xn [] fun b6_0 => ?_
                 refine xg [6] [0] [] (gh_own b6_0 3 7 ([(1 : Int), (2 : Int), (3 : Int), (1 : Int), (2 : Int), (1 : Int), (4 : Int)] : List Int) [(), (), (), (), (), (), ()] (fun _ _ _ _ _ _ _ => trivial)) fun _ => ?_
                 refine xi [] 0 (rA (some ⟨b6_0, 0, none⟩) 7 ([(1 : Int), (2 : Int), (3 : Int), (1 : Int), (2 : Int), (1 : Int), (4 : Int)])) q6_6_1 fun b5 o5 e5 => ?_
                 refine xpl [7] 0 (ol_ld (rA (some ⟨b6_0, 0, none⟩) 7 ([(1 : Int), (2 : Int), (3 : Int), (1 : Int), (2 : Int), (1 : Int), (4 : Int)])) e5 q6_6_1 0 (fun _ => rfl)) ?_
                 refine xc [11] [] [6] (patF s3a s3c hs3A hy6_11) fun _ => ?_
                 refine xq [17] (within_fq hy6_17) ?_
                 exact xe [18,20,0] _ [0,0,0] [0,1,1,1,1,1,1] (hN4 (y6_17, y6_5, b6_19) H)
               · refine xc [] [] [5] (patF s3a s3c hs3A hy6_11) fun _ => ?_
                 refine xq [17] (within_fq hy6_17) ?_
                 refine xn [0] fun b6_0 => ?_
                 refine xg [6] [0] [] (gh_own b6_0 3 7 ([(1 : Int), (2 : Int), (3 : Int), (1 : Int), (2 : Int), (1 : Int), (4 : Int)] : List Int) [(), (), (), (), (), (), ()] (fun _ _ _ _ _ _ _ => trivial)) fun _ => ?_
                 refine xi [] 0 (rA (some ⟨b6_0, 0, none⟩) 7 ([(1 : Int), (2 : Int), (3 : Int), (1 : Int), (2 : Int), (1 : Int), (4 : Int)])) q6_6_1 fun b5 o5 e5 => ?_
                 refine xpl [7] 0 (ol_ld (rA (some ⟨b6_0, 0, none⟩) 7 ([(1 : Int), (2 : Int), (3 : Int), (1 : Int), (2 : Int), (1 : Int), (4 : Int)])) e5 q6_6_1 0 (fun _ => rfl)) ?_
                 exact xe [18,20,0] _ [0,0,0] [1,1,1,1,1,1,1] (hN4 (y6_17, y6_5, b6_19) H)
           · refine xn [] fun b6_19 => ?_
             refine xtn [] [0,4] ⟨?_, ?_, trivial⟩
             · refine xn [] fun b6_0 => ?_
               refine xc [4] [] [4] (patF s2a s2c hs2A hy6_4) fun _ => ?_
               refine xq [5] (within_fq hy6_5) ?_
               refine xg [6] [0] [] (gh_own b6_0 3 7 ([(1 : Int), (2 : Int), (3 : Int), (1 : Int), (2 : Int), (1 : Int), (4 : Int)] : List Int) [(), (), (), (), (), (), ()] (fun _ _ _ _ _ _ _ => trivial)) fun _ => ?_
               refine xi [] 0 (rA (some ⟨b6_0, 0, none⟩) 7 ([(1 : Int), (2 : Int), (3 : Int), (1 : Int), (2 : Int), (1 : Int), (4 : Int)])) q6_6_1 fun b5 o5 e5 => ?_
               refine xpl [7] 0 (ol_ld (rA (some ⟨b6_0, 0, none⟩) 7 ([(1 : Int), (2 : Int), (3 : Int), (1 : Int), (2 : Int), (1 : Int), (4 : Int)])) e5 q6_6_1 0 (fun _ => rfl)) ?_
               refine xc [11] [] [6] (patF s3a s3c hs3A hy6_11) fun _ => ?_
               refine xq [17] (within_fq hy6_17) ?_
               exact xe [18,20,0] _ [0,0,0] [0,1,1,1,1,1,1] (hN4 (y6_17, y6_5, b6_19) H)
             · refine xc [] [] [4] (patF s2a s2c hs2A hy6_4) fun _ => ?_
               refine xq [5] (within_fq hy6_5) ?_
               refine xtn [] [0,11] ⟨?_, ?_, trivial⟩
               · refine xn [] fun b6_0 => ?_
                 refine xg [6] [0] [] (gh_own b6_0 3 7 ([(1 : Int), (2 : Int), (3 : Int), (1 : Int), (2 : Int), (1 : Int), (4 : Int)] : List Int) [(), (), (), (), (), (), ()] (fun _ _ _ _ _ _ _ => trivial)) fun _ => ?_
                 refine xi [] 0 (rA (some ⟨b6_0, 0, none⟩) 7 ([(1 : Int), (2 : Int), (3 : Int), (1 : Int), (2 : Int), (1 : Int), (4 : Int)])) q6_6_1 fun b5 o5 e5 => ?_
                 refine xpl [7] 0 (ol_ld (rA (some ⟨b6_0, 0, none⟩) 7 ([(1 : Int), (2 : Int), (3 : Int), (1 : Int), (2 : Int), (1 : Int), (4 : Int)])) e5 q6_6_1 0 (fun _ => rfl)) ?_
                 refine xc [11] [] [6] (patF s3a s3c hs3A hy6_11) fun _ => ?_
                 refine xq [17] (within_fq hy6_17) ?_
                 exact xe [18,20,0] _ [0,0,0] [0,1,1,1,1,1,1] (hN4 (y6_17, y6_5, b6_19) H)
               · refine xc [] [] [5] (patF s3a s3c hs3A hy6_11) fun _ => ?_
                 refine xq [17] (within_fq hy6_17) ?_
                 refine xn [0] fun b6_0 => ?_
                 refine xg [6] [0] [] (gh_own b6_0 3 7 ([(1 : Int), (2 : Int), (3 : Int), (1 : Int), (2 : Int), (1 : Int), (4 : Int)] : List Int) [(), (), (), (), (), (), ()] (fun _ _ _ _ _ _ _ => trivial)) fun _ => ?_
                 refine xi [] 0 (rA (some ⟨b6_0, 0, none⟩) 7 ([(1 : Int), (2 : Int), (3 : Int), (1 : Int), (2 : Int), (1 : Int), (4 : Int)])) q6_6_1 fun b5 o5 e5 => ?_
                 refine xpl [7] 0 (ol_ld (rA (some ⟨b6_0, 0, none⟩) 7 ([(1 : Int), (2 : Int), (3 : Int), (1 : Int), (2 : Int), (1 : Int), (4 : Int)])) e5 q6_6_1 0 (fun _ => rfl)) ?_
                 exact xe [18,20,0] _ [0,0,0] [1,1,1,1,1,1,1] (hN4 (y6_17, y6_5, b6_19) H)
     · intro H
       exact xe [0] _ [] [0,1,1,1,1,1] (hN0 (v1_6x, v1_6a, v1_6c) H)
   · intro N2 hN2
     refine xs [1] H ?_ ?_
     · intro H
       exact xe [1,1,1,1] _ [0,0] [0,0,0,0,0,0,0] (hN2 (decide (v1_7 < most)) H)
     · intro H
       exact xe [0,0,0,0] _ [0,0] [0,0,0,0,0,0,0] (hN2 (false) H)
end Go.Proofs.YtcidmgkfaioceaaGreat
namespace Go.Proofs.YtcidmgkfaioceaaGreat
open Go Go.RowKit
set_option linter.unusedVariables false
def rdoS (p : PickS) (mc : MachS) (dv : Int) : Option (MachS × Int) :=
 (mdoS mc p).bind fun y1_2 => (bif y1_2.1 then some (y1_2.2, wr (dv + (1 : Int))) else some (y1_2.2, dv))
set_option maxRecDepth 100000 in
set_option maxHeartbeats 4000000 in
theorem rdoF {p : PickS} {mc : MachS} {dv : Int} (m mo : Nat) (d : Nat) {y : MachS × Int} (H : rdoS p mc dv = some y) : FnY Tryz.prog 128 [.agg #[.bool p.deliver, .int .i64 p.at_, .int .i64 p.bit, .int .u16 p.mask], .pointer (some ⟨m, 0, none⟩), .pointer (some ⟨d, 0, none⟩)] ⟨[⟨m, #[.pointer (some ⟨mo, 0, none⟩)], 31⟩, ⟨d, #[.int .i64 dv], 3⟩], [(MachA mo mc)]⟩ (Z := Unit) (fun y _ => .tuple #[]) (fun y _ => ⟨[⟨m, #[.pointer (some ⟨mo, 0, none⟩)], 31⟩, ⟨d, #[.int .i64 y.2], 3⟩], [(MachA mo y.1)]⟩) y := by
 unfold rdoS at H
 refine xfY Tryz.func128 fun W0 F => ?_
 refine xn [] fun b0_0 => ?_
 refine bindG H fun y1_2 hy1_2 H => ?_
 refine xc [1,0] [] [0] (mdoF mo hy1_2) fun _ => ?_
 refine xs [] H ?_ ?_
 · intro H
   exact xrY (someE H) [1,2,1,2] [] [1,1] [0] ()
 · intro H
   exact xrY (someE H) [0] [] [1,1] [0] ()
def rroundS_j1 (e1_b1_0_0 : Int) (e1_m : MachS) : Option (Int × MachS) :=
 some (e1_b1_0_0, e1_m)
def rroundS_l2 (k1 : Int → MachS → Option (Int × MachS)) : Nat → Int → Int → MachS → Option (Int × MachS)
 | 0, _, _, _ => none
 | m + 1, v2_9, v2_b1_0_0, v2_m => (bif decide ((0 : Int) ≤ v2_9) then (rdoS (⟨true, v2_9, (0 : Int), (0 : Int)⟩ : PickS) v2_m v2_b1_0_0).bind fun y13_3 => chk (inR (v2_9 - (1 : Int))) ((rroundS_l2 k1 m) (v2_9 - (1 : Int)) y13_3.2 y13_3.1) else k1 v2_b1_0_0 v2_m)
def rroundS_j0 (e0_b1_0_0 : Int) (e0_m : MachS) : Option (Int × MachS) :=
 (funderS e0_m.fab).bind fun y10_4 => rroundS_l2 rroundS_j1 4096 (wr (y10_4 - (1 : Int))) e0_b1_0_0 e0_m
def rroundS_l3 (y3_1 : CfgS) (u4_4 : Int) (k0 : Int → MachS → Option (Int × MachS)) : Nat → Int → Int → MachS → Option (Int × MachS)
 | 0, _, _, _ => none
 | m + 1, v3_22, v3_b1_0_0, v3_m => (bif decide (v3_22 < y3_1.nodes) then chk (1 ≤ y3_1.nodes) (letP ((wr ((u4_4.tmod y3_1.nodes) + v3_22)).tmod y3_1.nodes) fun u8_5 => (rdoS (⟨false, u8_5, (0 : Int), (0 : Int)⟩ : PickS) v3_m v3_b1_0_0).bind fun y8_7 => chk (inR (v3_22 + (1 : Int))) ((rroundS_l3 y3_1 u4_4 k0 m) (v3_22 + (1 : Int)) y8_7.2 y8_7.1)) else k0 v3_b1_0_0 v3_m)
def rroundS (mc : MachS) (first : Int) : Option (Int × MachS) :=
 (mconfS mc).bind fun y3_1 => chk (1 ≤ y3_1.nodes) (letP (wr ((first.tmod y3_1.nodes) + y3_1.nodes)) fun u4_4 => chk (1 ≤ y3_1.nodes) (rroundS_l3 y3_1 u4_4 rroundS_j0 4096 (0 : Int) (0 : Int) mc))
set_option maxRecDepth 100000 in
set_option maxHeartbeats 4000000 in
theorem rroundF {mc : MachS} {first : Int} (m : Nat) {y : Int × MachS} (H : rroundS mc first = some y) : FnY Tryz.prog 88 [.pointer (some ⟨m, 0, none⟩), .int .i64 first] ⟨[], [(MachA m mc)]⟩ (Z := Unit) (fun y _ => .int .i64 y.1) (fun y _ => ⟨[], [(MachA m y.2)]⟩) y := by
 unfold rroundS at H
 refine xfY Tryz.func88 fun W0 F => ?_
 refine xn [] fun b0_0 => ?_
 refine xn [] fun b1_0 => ?_
 refine xg [0,1] [] [0] (gh_open (MachO m mc)) fun ⟨b_fab1, b_trace2, a_c_init3, c_c_init4, a_nodes5, c_nodes6, r_nodes7⟩ => ?_
 refine bindG H fun y3_1 hy3_1 H => ?_
 refine xc [] [0] [0,0,0,0,0] (mconfF m b_fab1 b_trace2 a_c_init3 c_c_init4 a_nodes5 c_nodes6 r_nodes7 hy3_1) fun ⟨t3_1_a0, t3_1_c0⟩ => ?_
 refine chkG H fun q4_2_1 H => ?_
 refine xp [] (ov_rem (a := first) (b := y3_1.nodes) q4_2_1) ?_
 refine letG H fun u4_4 hu4_4 H => ?_
 refine xw [1,300] 18 (congrArg (Value.int .i64) hu4_4) ?_
 refine chkG H fun q4_6_1 H => ?_
 refine xp [] (ov_rem (a := u4_4) (b := y3_1.nodes) q4_6_1) ?_
 refine xj [100] (ι := Int × MachS) (fun (e0_b1_0_0, e0_m) => ⟨[(2, .pointer (some ⟨b0_0, 0, none⟩)), (5, .pointer (some ⟨b1_0, 0, none⟩)), (6, .func (.func 128) #[] #[.pointer (some ⟨b0_0, 0, none⟩), .pointer (some ⟨b1_0, 0, none⟩)])], [⟨b1_0, #[.int .i64 e0_b1_0_0], 3⟩, ⟨b0_0, #[.pointer (some ⟨m, 0, none⟩)], 31⟩], [(MachA m e0_m)]⟩) (fun (e0_b1_0_0, e0_m) => rroundS_j0 e0_b1_0_0 e0_m = some y) ?_ ?_
 · rintro ⟨e0_b1_0_0, e0_m⟩ H
   replace H : rroundS_j0 e0_b1_0_0 e0_m = some y := H
   rw [rroundS_j0] at H
   refine xj [100] (ι := Int × MachS) (fun (e1_b1_0_0, e1_m) => ⟨[(5, .pointer (some ⟨b1_0, 0, none⟩))], [⟨b1_0, #[.int .i64 e1_b1_0_0], 3⟩], [(MachA m e1_m)]⟩) (fun (e1_b1_0_0, e1_m) => rroundS_j1 e1_b1_0_0 e1_m = some y) ?_ ?_
   · rintro ⟨e1_b1_0_0, e1_m⟩ H
     replace H : rroundS_j1 e1_b1_0_0 e1_m = some y := H
     rw [rroundS_j1] at H
     exact xrY (someE H) [0] [] [] [0] ()
   · intro N1 hN1
     refine xg [1] [] [0] (gh_open (MachO m e0_m)) fun ⟨b_fab8, b_trace9, a_c_init10, c_c_init11, a_nodes12, c_nodes13, r_nodes14⟩ => ?_
     refine xg [0] [] [0] (gh_open (FabO b_fab8 e0_m.fab)) fun ⟨a_cs15, c_cs16, r_cs17⟩ => ?_
     refine bindG H fun y10_4 hy10_4 H => ?_
     refine xc [] [0] [0,0] (funderF b_fab8 a_cs15 c_cs16 r_cs17 hy10_4) fun _ => ?_
     refine xg [1] [0] [0,0] (gh_shut (FabO b_fab8 e0_m.fab) (a_cs15, c_cs16, r_cs17)) fun _ => ?_
     refine xg [] [0] [0,0,0,0,0] (gh_shut (MachO m e0_m) (b_fab8, b_trace9, a_c_init10, c_c_init11, a_nodes12, c_nodes13, r_nodes14)) fun _ => ?_
     refine xl [] (ι := Int × Int × MachS) (fun (v2_9, v2_b1_0_0, v2_m) => ⟨[(5, .pointer (some ⟨b1_0, 0, none⟩)), (6, .func (.func 128) #[] #[.pointer (some ⟨b0_0, 0, none⟩), .pointer (some ⟨b1_0, 0, none⟩)]), (9, .int .i64 v2_9)], [⟨b1_0, #[.int .i64 v2_b1_0_0], 3⟩, ⟨b0_0, #[.pointer (some ⟨m, 0, none⟩)], 31⟩], [(MachA m v2_m)]⟩) (fun m2 (v2_9, v2_b1_0_0, v2_m) => rroundS_l2 (rroundS_j1) m2 v2_9 v2_b1_0_0 v2_m = some y) [0,0] [0] (4096) (wr (y10_4 - (1 : Int)), e0_b1_0_0, e0_m) H ?_
     rintro N2 (_ | m2) ⟨v2_9, v2_b1_0_0, v2_m⟩ H hN2
     · exact (noneE H).elim
     replace H : rroundS_l2 (rroundS_j1) (m2 + 1) v2_9 v2_b1_0_0 v2_m = some y := H
     rw [rroundS_l2] at H
     refine xs [] H ?_ ?_
     · intro H
       refine bindG H fun y13_3 hy13_3 H => ?_
       refine xc [1] [1,0] [0] (rdoF b0_0 m b1_0 hy13_3) fun _ => ?_
       refine chkG H fun q12_1_1 H => ?_
       refine xd [0] (ap q12_1_1 an) ?_
       exact xe [] _ [1,0] [0] (hN2 _ (v2_9 - (1 : Int), y13_3.2, y13_3.1) (Nat.lt_succ_self _) H)
     · intro H
       exact xe [0] _ [0] [0] (hN1 (v2_b1_0_0, v2_m) H)
 · intro N0 hN0
   refine xg [] [0] [1,1,1,1,1] (gh_shut (MachO m mc) (b_fab1, b_trace2, a_c_init3, c_c_init4, a_nodes5, c_nodes6, r_nodes7)) fun _ => ?_
   refine xl [] (ι := Int × Int × MachS) (fun (v3_22, v3_b1_0_0, v3_m) => ⟨[(1, .int .i64 (u4_4.tmod y3_1.nodes)), (2, .pointer (some ⟨b0_0, 0, none⟩)), (5, .pointer (some ⟨b1_0, 0, none⟩)), (6, .func (.func 128) #[] #[.pointer (some ⟨b0_0, 0, none⟩), .pointer (some ⟨b1_0, 0, none⟩)]), (7, .int .i64 y3_1.nodes), (21, .int .i64 y3_1.nodes), (22, .int .i64 v3_22)], [⟨b1_0, #[.int .i64 v3_b1_0_0], 3⟩, ⟨b0_0, #[.pointer (some ⟨m, 0, none⟩)], 31⟩], [(MachA m v3_m)]⟩) (fun m3 (v3_22, v3_b1_0_0, v3_m) => rroundS_l3 y3_1 u4_4 (rroundS_j0) m3 v3_22 v3_b1_0_0 v3_m = some y) [0,0] [0] (4096) ((0 : Int), (0 : Int), mc) H ?_
   rintro N3 (_ | m3) ⟨v3_22, v3_b1_0_0, v3_m⟩ H hN3
   · exact (noneE H).elim
   replace H : rroundS_l3 y3_1 u4_4 (rroundS_j0) (m3 + 1) v3_22 v3_b1_0_0 v3_m = some y := H
   rw [rroundS_l3] at H
   refine xs [] H ?_ ?_
   · intro H
     refine chkG H fun q8_5_1 H => ?_
     refine xp [1,1] (ov_rem (a := (wr ((u4_4.tmod y3_1.nodes) + v3_22))) (b := y3_1.nodes) q8_5_1) ?_
     refine letG H fun u8_5 hu8_5 H => ?_
     refine xw [300] 30 (congrArg (Value.int .i64) hu8_5) ?_
     refine bindG H fun y8_7 hy8_7 H => ?_
     refine xc [] [1,0] [0] (rdoF b0_0 m b1_0 hy8_7) fun _ => ?_
     refine chkG H fun q9_0_1 H => ?_
     refine xd [0] (ap q9_0_1 an) ?_
     exact xe [] _ [1,0] [0] (hN3 _ (v3_22 + (1 : Int), y8_7.2, y8_7.1) (Nat.lt_succ_self _) H)
   · intro H
     exact xe [0] _ [0,0] [0] (hN0 (v3_b1_0_0, v3_m) H)
def rfinS_j0 (e0_7 : Int) (e0_m : MachS) : Option (Int × MachS) :=
 some (e0_7, e0_m)
def rfinS_j2 (v1_7 : Int) (firsts : List Int) (v1_m : MachS) (r1 : Int → MachS → Option (Int × MachS)) (k0 : Int → MachS → Option (Int × MachS)) (e2_16 : Bool) : Option (Int × MachS) :=
 (bif e2_16 then (bif decide (v1_7 < (((List.length firsts) : Nat) : Int)) then chk (0 ≤ v1_7 ∧ v1_7 < ((firsts.length : Nat) : Int)) ((rroundS v1_m (nth firsts v1_7)).bind fun y6_2 => chk (inR (v1_7 + (1 : Int))) (r1 (v1_7 + (1 : Int)) y6_2.2)) else (rroundS v1_m (0 : Int)).bind fun y6_2 => chk (inR (v1_7 + (1 : Int))) (r1 (v1_7 + (1 : Int)) y6_2.2)) else k0 v1_7 v1_m)
def rfinS_l1 (most : Int) (firsts : List Int) (k0 : Int → MachS → Option (Int × MachS)) : Nat → Int → MachS → Option (Int × MachS)
 | 0, _, _ => none
 | m + 1, v1_7, v1_m => (bif decide (v1_7 < most) then (roverS v1_m).bind fun y2_5 => (rfinS_j2 v1_7 firsts v1_m (rfinS_l1 most firsts k0 m) k0) !y2_5 else (rfinS_j2 v1_7 firsts v1_m (rfinS_l1 most firsts k0 m) k0) false)
def rfinS (mc : MachS) (most : Int) (firsts : List Int) : Option (Int × MachS) :=
 rfinS_l1 most firsts rfinS_j0 (most.toNat + 1) (0 : Int) mc
set_option maxRecDepth 100000 in
set_option maxHeartbeats 4000000 in
theorem rfinF {mc : MachS} {most : Int} {firsts : List Int} {firstsA : Asn} (m : Nat) (firstsa : Option Addr) (firstsc : Nat) (hfirstsA : Rdb firstsA firstsa firstsc firsts) {y : Int × MachS} (H : rfinS mc most firsts = some y) : FnY Tryz.prog 44 [.pointer (some ⟨m, 0, none⟩), .int .i64 most, .slice firstsa (List.length firsts) firstsc] ⟨[], [(MachA m mc), firstsA]⟩ (Z := Unit) (fun y _ => .int .i64 y.1) (fun y _ => ⟨[], [(MachA m y.2), firstsA]⟩) y := by
 unfold rfinS at H
 refine xfY Tryz.func44 fun W0 F => ?_
 refine xj [102] (ι := Int × MachS) (fun (e0_7, e0_m) => ⟨[(7, .int .i64 e0_7)], [], [(MachA m e0_m), firstsA]⟩) (fun (e0_7, e0_m) => rfinS_j0 e0_7 e0_m = some y) ?_ ?_
 · rintro ⟨e0_7, e0_m⟩ H
   replace H : rfinS_j0 e0_7 e0_m = some y := H
   rw [rfinS_j0] at H
   exact xrY (someE H) [] [] [] [0,0] ()
 · intro N0 hN0
   refine xl [] (ι := Int × MachS) (fun (v1_7, v1_m) => ⟨[(0, .pointer (some ⟨m, 0, none⟩)), (1, .int .i64 most), (2, .slice firstsa (List.length firsts) firstsc), (7, .int .i64 v1_7)], [], [(MachA m v1_m), firstsA]⟩) (fun m1 (v1_7, v1_m) => rfinS_l1 most firsts (rfinS_j0) m1 v1_7 v1_m = some y) [] [0,0] ((most.toNat + 1)) ((0 : Int), mc) H ?_
   rintro N1 (_ | m1) ⟨v1_7, v1_m⟩ H hN1
   · exact (noneE H).elim
   replace H : rfinS_l1 most firsts (rfinS_j0) (m1 + 1) v1_7 v1_m = some y := H
   rw [rfinS_l1] at H
   refine xj [101] (ι := Bool) (fun e2_16 => ⟨[(0, .pointer (some ⟨m, 0, none⟩)), (1, .int .i64 most), (2, .slice firstsa (List.length firsts) firstsc), (7, .int .i64 v1_7), (16, .bool e2_16)], [], [(MachA m v1_m), firstsA]⟩) (fun e2_16 => rfinS_j2 v1_7 firsts v1_m (rfinS_l1 most firsts (rfinS_j0) m1) (rfinS_j0) e2_16 = some y) ?_ ?_
   · rintro e2_16 H
     replace H : rfinS_j2 v1_7 firsts v1_m (rfinS_l1 most firsts (rfinS_j0) m1) (rfinS_j0) e2_16 = some y := H
     rw [rfinS_j2] at H
     refine xs [] H ?_ ?_
     · intro H
       refine xs [1] H ?_ ?_
       · intro H
         refine chkG H fun q5_2_1 H => ?_
         refine xi [1] 1 hfirstsA q5_2_1 fun b1 o1 e1 => ?_
         refine xpl [] 1 (ol_ld hfirstsA e1 q5_2_1 0 (fun _ => rfl)) ?_
         refine bindG H fun y6_2 hy6_2 H => ?_
         refine xc [] [] [0] (rroundF m hy6_2) fun _ => ?_
         refine chkG H fun q7_1_1 H => ?_
         refine xd [0] (ap q7_1_1 an) ?_
         exact xe [] _ [] [0,0] (hN1 _ (v1_7 + (1 : Int), y6_2.2) (Nat.lt_succ_self _) H)
       · intro H
         refine bindG H fun y6_2 hy6_2 H => ?_
         refine xc [0] [] [0] (rroundF m hy6_2) fun _ => ?_
         refine chkG H fun q7_1_2 H => ?_
         refine xd [0] (ap q7_1_2 an) ?_
         exact xe [] _ [] [0,0] (hN1 _ (v1_7 + (1 : Int), y6_2.2) (Nat.lt_succ_self _) H)
     · intro H
       exact xe [0] _ [] [0,0] (hN0 (v1_7, v1_m) H)
   · intro N2 hN2
     refine xs [] H ?_ ?_
     · intro H
       refine xg [1,1] [] [0] (gh_open (MachO m v1_m)) fun ⟨b_fab1, b_trace2, a_c_init3, c_c_init4, a_nodes5, c_nodes6, r_nodes7⟩ => ?_
       refine bindG H fun y2_5 hy2_5 H => ?_
       refine xc [1] [0] [0,0,0,0,0] (roverF m b_fab1 b_trace2 a_c_init3 c_c_init4 a_nodes5 c_nodes6 r_nodes7 hy2_5) fun _ => ?_
       refine xg [1,1] [0] [0,0,0,0,0] (gh_shut (MachO m v1_m) (b_fab1, b_trace2, a_c_init3, c_c_init4, a_nodes5, c_nodes6, r_nodes7)) fun _ => ?_
       exact xe [] _ [] [0,0] (hN2 (!y2_5) H)
     · intro H
       exact xe [0,0,0,0] _ [] [0,0] (hN2 (false) H)
def tsmallS (n : Int) : Option (CfgS) :=
 some (⟨n, (2 : Int), (1 : Int), (1 : Int), (1 : Int), (1 : Int), (1 : Int), ([] : List Int)⟩ : CfgS)
set_option maxRecDepth 100000 in
set_option maxHeartbeats 4000000 in
theorem tsmallF {n : Int} {y : CfgS} (H : tsmallS n = some y) : FnY Tryz.prog 9 [.int .i64 n] ⟨[], []⟩ (Z := Option Addr × Nat) (fun y (za0, zc0) => .agg #[.int .i64 y.nodes, .int .i64 y.lines, .int .i64 y.words, .int .i64 y.sets, .int .i64 y.ways, .int .i64 y.out, .int .i64 y.inn, .slice za0 (List.length y.init) zc0]) (fun y (za0, zc0) => ⟨[], [(ArrA za0 zc0 y.init)]⟩) y := by
 unfold tsmallS at H
 refine xfY Tryz.func9 fun W0 F => ?_
 refine xn [] fun b0_0 => ?_
 refine xg [0] [] [] (gh_nil (α := Int) none) fun _ => ?_
 exact xrY (someE H) [] [0] [] [0] (none, 0)
def tendS (mc : MachS) (ps : List (List OpS)) (firsts : List Int) : Option (Bool × MachS) :=
 (mconfS mc).bind fun y1_1 => (rboundS y1_1 ps).bind fun y1_3 => (rfinS mc y1_3 firsts).bind fun y2_3 => (bif decide (y2_3.1 ≤ y1_3) then (mleftS y2_3.2).bind fun y2_8 => (bif decide (y2_8 = (0 : Int)) then (mquietS y2_3.2).bind fun y2_13 => some (y2_13, y2_3.2) else some (false, y2_3.2)) else some (false, y2_3.2))
set_option maxRecDepth 100000 in
set_option maxHeartbeats 4000000 in
theorem tendF {mc : MachS} {ps : List (List OpS)} {psA : Asn} {firsts : List Int} {firstsA : Asn} (m : Nat) (psa : Option Addr) (psc : Nat) (firstsa : Option Addr) (firstsc : Nat) (hpsA : Rdb psA psa psc ps) (hfirstsA : Rdb firstsA firstsa firstsc firsts) {y : Bool × MachS} (H : tendS mc ps firsts = some y) : FnY Tryz.prog 11 [.pointer (some ⟨m, 0, none⟩), .slice psa (List.length ps) psc, .slice firstsa (List.length firsts) firstsc] ⟨[], [(MachA m mc), psA, firstsA]⟩ (Z := Unit) (fun y _ => .bool y.1) (fun y _ => ⟨[], [(MachA m y.2), psA, firstsA]⟩) y := by
 unfold tendS at H
 refine xfY Tryz.func11 fun W0 F => ?_
 refine xg [] [] [0] (gh_open (MachO m mc)) fun ⟨b_fab1, b_trace2, a_c_init3, c_c_init4, a_nodes5, c_nodes6, r_nodes7⟩ => ?_
 refine bindG H fun y1_1 hy1_1 H => ?_
 refine xc [] [0] [0,0,0,0,0] (mconfF m b_fab1 b_trace2 a_c_init3 c_c_init4 a_nodes5 c_nodes6 r_nodes7 hy1_1) fun ⟨t1_1_a0, t1_1_c0⟩ => ?_
 refine bindG H fun y1_3 hy1_3 H => ?_
 refine xc [] [] [6] (rboundF t1_1_a0 t1_1_c0 psa psc hpsA hy1_3) fun _ => ?_
 refine xg [] [0] [2,2,2,2,2] (gh_shut (MachO m mc) (b_fab1, b_trace2, a_c_init3, c_c_init4, a_nodes5, c_nodes6, r_nodes7)) fun _ => ?_
 refine bindG H fun y2_3 hy2_3 H => ?_
 refine xc [] [] [0,2] (rfinF m firstsa firstsc hfirstsA hy2_3) fun _ => ?_
 refine xs [] H ?_ ?_
 · intro H
   refine xg [1,1] [] [0] (gh_open (MachO m y2_3.2)) fun ⟨b_fab8, b_trace9, a_c_init10, c_c_init11, a_nodes12, c_nodes13, r_nodes14⟩ => ?_
   refine bindG H fun y2_8 hy2_8 H => ?_
   refine xc [1] [0] [0,0,0,0,0] (mleftF m b_fab8 b_trace9 a_c_init10 c_c_init11 a_nodes12 c_nodes13 r_nodes14 hy2_8) fun _ => ?_
   refine xs [1,1] H ?_ ?_
   · intro H
     refine bindG H fun y2_13 hy2_13 H => ?_
     refine xc [1,1] [0] [0,0,0,0,0] (mquietF m b_fab8 b_trace9 a_c_init10 c_c_init11 a_nodes12 c_nodes13 r_nodes14 hy2_13) fun _ => ?_
     refine xg [1] [0] [0,0,0,0,0] (gh_shut (MachO m y2_3.2) (b_fab8, b_trace9, a_c_init10, c_c_init11, a_nodes12, c_nodes13, r_nodes14)) fun _ => ?_
     exact xrY (someE H) [] [] [] [0,1,0] ()
   · intro H
     refine xg [0,0,0] [0] [0,0,0,0,0] (gh_shut (MachO m y2_3.2) (b_fab8, b_trace9, a_c_init10, c_c_init11, a_nodes12, c_nodes13, r_nodes14)) fun _ => ?_
     exact xrY (someE H) [] [] [] [0,1,0] ()
 · intro H
   exact xrY (someE H) [0,0,0,0,0,0,0] [] [] [0,1,0] ()
def trunS_j1 (v0_6 : Int) (l : List ChoiceS) (v0_m : MachS) (r0 : Int → MachS → Option (MachS)) (e1_15 : Bool) : Option (MachS) :=
 (bif e1_15 then chk (0 ≤ v0_6 ∧ v0_6 < ((l.length : Nat) : Int)) ((mconfS v0_m).bind fun y3_6 => (funderS v0_m.fab).bind fun y3_12 => (ppickS (nthT l v0_6) y3_6.nodes y3_12).bind fun y3_13 => (mdoS v0_m y3_13).bind fun y3_14 => chk (inR (v0_6 + (1 : Int))) (r0 (v0_6 + (1 : Int)) y3_14.2)) else some v0_m)
def trunS_l0 (l : List ChoiceS) (most : Int) : Nat → Int → MachS → Option (MachS)
 | 0, _, _ => none
 | m + 1, v0_6, v0_m => (bif decide (v0_6 < (((List.length l) : Nat) : Int)) then (trunS_j1 v0_6 l v0_m (trunS_l0 l most m)) (decide (v0_6 < most)) else (trunS_j1 v0_6 l v0_m (trunS_l0 l most m)) false)
def trunS (mc : MachS) (l : List ChoiceS) (most : Int) : Option (MachS) :=
 trunS_l0 l most (List.length l + 1) (0 : Int) mc
set_option maxRecDepth 100000 in
set_option maxHeartbeats 4000000 in
theorem trunF {mc : MachS} {l : List ChoiceS} {lA : Asn} {most : Int} (m : Nat) (la : Option Addr) (lc : Nat) (hlA : Rdb lA la lc l) {y : MachS} (H : trunS mc l most = some y) : FnY Tryz.prog 27 [.pointer (some ⟨m, 0, none⟩), .slice la (List.length l) lc, .int .i64 most] ⟨[], [(MachA m mc), lA]⟩ (Z := Unit) (fun y _ => .tuple #[]) (fun y _ => ⟨[], [(MachA m y), lA]⟩) y := by
 unfold trunS at H
 refine xfY Tryz.func27 fun W0 F => ?_
 refine xl [] (ι := Int × MachS) (fun (v0_6, v0_m) => ⟨[(0, .pointer (some ⟨m, 0, none⟩)), (1, .slice la (List.length l) lc), (2, .int .i64 most), (6, .int .i64 v0_6)], [], [(MachA m v0_m), lA]⟩) (fun m0 (v0_6, v0_m) => trunS_l0 l most m0 v0_6 v0_m = some y) [] [0,0] ((List.length l + 1)) ((0 : Int), mc) H ?_
 rintro N0 (_ | m0) ⟨v0_6, v0_m⟩ H hN0
 · exact (noneE H).elim
 replace H : trunS_l0 l most (m0 + 1) v0_6 v0_m = some y := H
 rw [trunS_l0] at H
 refine xj [101] (ι := Bool) (fun e1_15 => ⟨[(0, .pointer (some ⟨m, 0, none⟩)), (1, .slice la (List.length l) lc), (2, .int .i64 most), (6, .int .i64 v0_6), (15, .bool e1_15)], [], [(MachA m v0_m), lA]⟩) (fun e1_15 => trunS_j1 v0_6 l v0_m (trunS_l0 l most m0) e1_15 = some y) ?_ ?_
 · rintro e1_15 H
   replace H : trunS_j1 v0_6 l v0_m (trunS_l0 l most m0) e1_15 = some y := H
   rw [trunS_j1] at H
   refine xs [] H ?_ ?_
   · intro H
     refine chkG H fun q3_3_1 H => ?_
     refine xi [1,0,1,2,3] 1 hlA q3_3_1 fun b1 o1 e1 => ?_
     refine xpl [4] 1 (ol_ldN hlA e1 q3_3_1 0 4 (fun _ => rfl)) ?_
     refine xg [5,8,9,10,11] [] [0] (gh_open (MachO m v0_m)) fun ⟨b_fab1, b_trace2, a_c_init3, c_c_init4, a_nodes5, c_nodes6, r_nodes7⟩ => ?_
     refine bindG H fun y3_6 hy3_6 H => ?_
     refine xc [0,6] [0] [0,0,0,0,0] (mconfF m b_fab1 b_trace2 a_c_init3 c_c_init4 a_nodes5 c_nodes6 r_nodes7 hy3_6) fun ⟨t3_6_a0, t3_6_c0⟩ => ?_
     refine xg [7,12] [] [1] (gh_open (FabO b_fab1 v0_m.fab)) fun ⟨a_cs8, c_cs9, r_cs10⟩ => ?_
     refine bindG H fun y3_12 hy3_12 H => ?_
     refine xc [] [0] [0,0] (funderF b_fab1 a_cs8 c_cs9 r_cs10 hy3_12) fun _ => ?_
     refine bindG H fun y3_13 hy3_13 H => ?_
     refine xc [13] [] [] (ppickF hy3_13) fun _ => ?_
     refine xg [14] [0] [0,0] (gh_shut (FabO b_fab1 v0_m.fab) (a_cs8, c_cs9, r_cs10)) fun _ => ?_
     refine xg [] [0] [0,1,1,1,1] (gh_shut (MachO m v0_m) (b_fab1, b_trace2, a_c_init3, c_c_init4, a_nodes5, c_nodes6, r_nodes7)) fun _ => ?_
     refine bindG H fun y3_14 hy3_14 H => ?_
     refine xc [] [] [0] (mdoF m hy3_14) fun _ => ?_
     refine chkG H fun q2_1_1 H => ?_
     refine xd [0] (ap q2_1_1 an) ?_
     exact xe [] _ [] [0,1] (hN0 _ (v0_6 + (1 : Int), y3_14.2) (Nat.lt_succ_self _) H)
   · intro H
     exact xrY (someE H) [0] [] [] [0,0] ()
 · intro N1 hN1
   refine xs [] H ?_ ?_
   · intro H
     exact xe [1,1,1,1] _ [] [0,0] (hN1 (decide (v0_6 < most)) H)
   · intro H
     exact xe [0,0,0,0] _ [] [0,0] (hN1 (false) H)
end Go.Proofs.YtcidmgkfaioceaaGreat
namespace Go.Proofs.YtcidmgkfaioceaaGreat
open Go Go.RowKit
set_option linter.unusedVariables false
def wstidxS_j0 : Option (Int) :=
 some ((-1) : Int)
def wstidxS_l1 (s : List Ent) (rw_v : RowS) (k0 : Option (Int)) : Nat → Int → Option (Int)
 | 0, _ => none
 | m + 1, v1_8 => (bif decide (v1_8 < (((List.length s) : Nat) : Int)) then chk (0 ≤ v1_8 ∧ v1_8 < ((s.length : Nat) : Int)) (letP (nthT s v1_8) fun x4_4 => (wst1S x4_4 rw_v).bind fun y4_5 => (bif y4_5 then some v1_8 else chk (inR (v1_8 + (1 : Int))) ((wstidxS_l1 s rw_v k0 m) (v1_8 + (1 : Int))))) else k0)
def wstidxS (s : List Ent) (rw_v : RowS) : Option (Int) :=
 wstidxS_l1 s rw_v wstidxS_j0 (List.length s + 1) (0 : Int)
set_option maxRecDepth 100000 in
set_option maxHeartbeats 4000000 in
theorem wstidxF {s : List Ent} {sA : Asn} {rw_v : RowS} {rw_0A : Asn} (sa : Option Addr) (sc : Nat) (rw_ : Nat) (rw_0a : Option Addr) (rw_0c : Nat) (hsA : Rdb sA sa sc s) (hrw_0A : Rdb rw_0A rw_0a rw_0c rw_v.data) {y : Int} (H : wstidxS s rw_v = some y) : FnY Tryz.prog 96 [.slice sa (List.length s) sc, .func (.func 95) #[] #[.pointer (some ⟨rw_, 0, none⟩)]] ⟨[⟨rw_, #[.int .i64 rw_v.state, .int .i64 rw_v.head, .slice rw_0a (List.length rw_v.data) rw_0c], 86⟩], [sA, rw_0A]⟩ (Z := Unit) (fun y _ => .int .i64 y) (fun y _ => ⟨[⟨rw_, #[.int .i64 rw_v.state, .int .i64 rw_v.head, .slice rw_0a (List.length rw_v.data) rw_0c], 86⟩], [sA, rw_0A]⟩) y := by
 unfold wstidxS at H
 refine xfY Tryz.func96 fun W0 F => ?_
 refine xj [101] (ι := Unit) (fun _ => ⟨[], [⟨rw_, #[.int .i64 rw_v.state, .int .i64 rw_v.head, .slice rw_0a (List.length rw_v.data) rw_0c], 86⟩], [sA, rw_0A]⟩) (fun _ => wstidxS_j0 = some y) ?_ ?_
 · rintro _ H
   replace H : wstidxS_j0 = some y := H
   rw [wstidxS_j0] at H
   exact xrY (someE H) [] [] [0] [0,0] ()
 · intro N0 hN0
   refine xl [] (ι := Int) (fun v1_8 => ⟨[(0, .slice sa (List.length s) sc), (1, .func (.func 95) #[] #[.pointer (some ⟨rw_, 0, none⟩)]), (7, .int .i64 (((List.length s) : Nat) : Int)), (8, .int .i64 v1_8)], [⟨rw_, #[.int .i64 rw_v.state, .int .i64 rw_v.head, .slice rw_0a (List.length rw_v.data) rw_0c], 86⟩], [sA, rw_0A]⟩) (fun m1 v1_8 => wstidxS_l1 s rw_v (wstidxS_j0) m1 v1_8 = some y) [0] [0,0] ((List.length s + 1)) ((0 : Int)) H ?_
   rintro N1 (_ | m1) v1_8 H hN1
   · exact (noneE H).elim
   replace H : wstidxS_l1 s rw_v (wstidxS_j0) (m1 + 1) v1_8 = some y := H
   rw [wstidxS_l1] at H
   refine xs [] H ?_ ?_
   · intro H
     refine chkG H fun q4_3_1 H => ?_
     refine xi [1] 0 hsA q4_3_1 fun b1 o1 e1 => ?_
     refine letG H fun x4_4 hx4_4 H => ?_
     refine xo [] [] [0] (oc_ldN hsA e1 q4_3_1 hx4_4 0 6) fun z4_4_1 => ?_
     refine bindG H fun y4_5 hy4_5 H => ?_
     refine xc [] [0] [0,1] (wst1F z4_4_1.1 z4_4_1.2 rw_ rw_0a rw_0c (rI z4_4_1.1 z4_4_1.2 x4_4.data) hrw_0A hy4_5) fun _ => ?_
     refine xs [] H ?_ ?_
     · intro H
       exact xrY (someE H) [1] [] [0] [2,1] ()
     · intro H
       refine chkG H fun q6_0_1 H => ?_
       refine xd [0,0] (ap q6_0_1 an) ?_
       exact xe [] _ [0] [2,1] (hN1 _ (v1_8 + (1 : Int)) (Nat.lt_succ_self _) H)
   · intro H
     exact xe [0] _ [0] [0,0] (hN0 () H)
def wstcofS (s : List Ent) (rw_v : RowS) : Option (Bool) :=
 (wstidxS s rw_v).bind fun y1_2 => some (decide ((0 : Int) ≤ y1_2))
set_option maxRecDepth 100000 in
set_option maxHeartbeats 4000000 in
theorem wstcofF {s : List Ent} {sA : Asn} {rw_v : RowS} {rw_0A : Asn} (sa : Option Addr) (sc : Nat) (rw_ : Nat) (rw_0a : Option Addr) (rw_0c : Nat) (hsA : Rdb sA sa sc s) (hrw_0A : Rdb rw_0A rw_0a rw_0c rw_v.data) {y : Bool} (H : wstcofS s rw_v = some y) : FnY Tryz.prog 94 [.slice sa (List.length s) sc, .func (.func 95) #[] #[.pointer (some ⟨rw_, 0, none⟩)]] ⟨[⟨rw_, #[.int .i64 rw_v.state, .int .i64 rw_v.head, .slice rw_0a (List.length rw_v.data) rw_0c], 86⟩], [sA, rw_0A]⟩ (Z := Unit) (fun y _ => .bool y) (fun y _ => ⟨[⟨rw_, #[.int .i64 rw_v.state, .int .i64 rw_v.head, .slice rw_0a (List.length rw_v.data) rw_0c], 86⟩], [sA, rw_0A]⟩) y := by
 unfold wstcofS at H
 refine xfY Tryz.func94 fun W0 F => ?_
 refine bindG H fun y1_2 hy1_2 H => ?_
 refine xc [] [0] [0,0] (wstidxF sa sc rw_ rw_0a rw_0c hsA hrw_0A hy1_2) fun _ => ?_
 exact xrY (someE H) [] [] [0] [0,0] ()
def wstateS (r : RowS) (l : List Ent) : Option (Bool) :=
 (bif decide (r.state = (0 : Int)) then some (decide ((((List.length l) : Nat) : Int) = (0 : Int))) else (bif decide (r.state = (1 : Int)) then (bif decide ((0 : Int) < (((List.length l) : Nat) : Int)) then (wstcofS l r).bind fun y5_6 => some !y5_6 else some false) else (bif decide ((((List.length l) : Nat) : Int) = (1 : Int)) then chk (0 ≤ (0 : Int) ∧ (0 : Int) < ((l.length : Nat) : Int)) (some ((nthT l (0 : Int)).dirty)) else some false)))
set_option maxRecDepth 100000 in
set_option maxHeartbeats 4000000 in
theorem wstateF {r : RowS} {r0A : Asn} {l : List Ent} {lA : Asn} (r0a : Option Addr) (r0c : Nat) (la : Option Addr) (lc : Nat) (hr0A : Rdb r0A r0a r0c r.data) (hlA : Rdb lA la lc l) {y : Bool} (H : wstateS r l = some y) : FnY Tryz.prog 52 [.agg #[.int .i64 r.state, .int .i64 r.head, .slice r0a (List.length r.data) r0c], .slice la (List.length l) lc] ⟨[], [r0A, lA]⟩ (Z := Unit) (fun y _ => .bool y) (fun y _ => ⟨[], [r0A, lA]⟩) y := by
 unfold wstateS at H
 refine xfY Tryz.func52 fun W0 F => ?_
 refine xn [] fun b0_0 => ?_
 refine xs [0] H ?_ ?_
 · intro H
   exact xrY (someE H) [1] [] [] [0,0] ()
 · intro H
   refine xs [0] H ?_ ?_
   · intro H
     refine xs [1] H ?_ ?_
     · intro H
       refine bindG H fun y5_6 hy5_6 H => ?_
       refine xc [1,1,1] [0] [1,0] (wstcofF la lc b0_0 r0a r0c hlA hr0A hy5_6) fun _ => ?_
       exact xrY (someE H) [1,1] [] [] [1,0] ()
     · intro H
       exact xrY (someE H) [0,0,0,0,0] [] [] [0,0] ()
   · intro H
     refine xs [0] H ?_ ?_
     · intro H
       refine chkG H fun q6_5_1 H => ?_
       refine xi [1,1] 1 hlA q6_5_1 fun b1 o1 e1 => ?_
       refine xpl [1,1] 1 (ol_ld hlA e1 q6_5_1 4 (fun _ => rfl)) ?_
       exact xrY (someE H) [1] [] [] [0,0] ()
     · intro H
       exact xrY (someE H) [0,0,0,0,0] [] [] [0,0] ()
end Go.Proofs.YtcidmgkfaioceaaGreat
namespace Go.Proofs.YtcidmgkfaioceaaGreat
open Go Go.RowKit
set_option linter.unusedVariables false
structure MemS where
 c : CfgS
 l : List Int
def MemO (b : Nat) (c : MemS) : Option Addr × Nat × Option Addr × Nat → Rs := fun (a_c_init, c_c_init, a_l, c_l) => ⟨[⟨b, #[.int .i64 c.c.nodes, .int .i64 c.c.lines, .int .i64 c.c.words, .int .i64 c.c.sets, .int .i64 c.c.ways, .int .i64 c.c.out, .int .i64 c.c.inn, .slice a_c_init (List.length c.c.init) c_c_init, .slice a_l (List.length c.l) c_l], 197⟩], [(ImmA a_c_init c_c_init c.c.init), (ArrA a_l c_l c.l)]⟩
abbrev MemA (b : Nat) (c : MemS) : Asn := ObA (MemO b c)
def trrightS_j0 (e0_m1_0 : List (Int × Int)) : Option (Bool) :=
 some true
def trrightS_l1 (l : List EventS) (nodes : Int) (k0 : (List (Int × Int)) → Option (Bool)) : Nat → Int → (List (Int × Int)) → Option (Bool)
 | 0, _, _ => none
 | m + 1, v1_12, v1_m1_0 => (bif decide (v1_12 < (((List.length l) : Nat) : Int)) then chk (0 ≤ v1_12 ∧ v1_12 < ((l.length : Nat) : Int)) (letP (nthT l v1_12) fun x4_1 => (bif decide (x4_1.node < (0 : Int)) then some false else (bif decide (nodes ≤ x4_1.node) then some false else letP (wr ((mgo v1_m1_0 x4_1.node).tdiv (2 : Int))) fun u6_13 => (bif !(decide (x4_1.index = u6_13)) then some false else (bif !(x4_1.done_ == (decide (((mgo v1_m1_0 x4_1.node).tmod (2 : Int)) = (1 : Int)))) then some false else (bif !x4_1.done_ then (bif !(decide (x4_1.value = (0 : Int))) then some false else letP (mset v1_m1_0 x4_1.node (wr ((mgo v1_m1_0 x4_1.node) + (1 : Int)))) fun l8_5 => chk (inR (v1_12 + (1 : Int))) ((trrightS_l1 l nodes k0 m) (v1_12 + (1 : Int)) l8_5)) else letP (mset v1_m1_0 x4_1.node (wr ((mgo v1_m1_0 x4_1.node) + (1 : Int)))) fun l8_5 => chk (inR (v1_12 + (1 : Int))) ((trrightS_l1 l nodes k0 m) (v1_12 + (1 : Int)) l8_5))))))) else k0 v1_m1_0)
def trrightS (nodes : Int) (l : List EventS) : Option (Bool) :=
 trrightS_l1 l nodes trrightS_j0 (List.length l + 1) (0 : Int) ([] : List (Int × Int))
set_option maxRecDepth 100000 in
set_option maxHeartbeats 4000000 in
theorem trrightF {nodes : Int} {l : List EventS} {lA : Asn} (la : Option Addr) (lc : Nat) (hlA : Rdb lA la lc l) {y : Bool} (H : trrightS nodes l = some y) : FnY Tryz.prog 115 [.int .i64 nodes, .slice la (List.length l) lc] ⟨[], [lA]⟩ (Z := Unit) (fun y _ => .bool y) (fun y _ => ⟨[], [lA]⟩) y := by
 unfold trrightS at H
 refine xfY Tryz.func115 fun W0 F => ?_
 refine xo [] [] [] (oc_mmake Int 243 Tryz.prog) fun m1_0 => ?_
 refine xj [100] (ι := (List (Int × Int))) (fun e0_m1_0 => ⟨[], [], [(FMapA m1_0 e0_m1_0), lA]⟩) (fun e0_m1_0 => trrightS_j0 e0_m1_0 = some y) ?_ ?_
 · rintro e0_m1_0 H
   replace H : trrightS_j0 e0_m1_0 = some y := H
   rw [trrightS_j0] at H
   exact xrY (someE H) [] [] [] [1] ()
 · intro N0 hN0
   refine xl [] (ι := Int × (List (Int × Int))) (fun (v1_12, v1_m1_0) => ⟨[(0, .int .i64 nodes), (5, .map (some m1_0)), (10, .slice la (List.length l) lc), (11, .int .i64 (((List.length l) : Nat) : Int)), (12, .int .i64 v1_12)], [], [(FMapA m1_0 v1_m1_0), lA]⟩) (fun m1 (v1_12, v1_m1_0) => trrightS_l1 l nodes (trrightS_j0) m1 v1_12 v1_m1_0 = some y) [] [0,0] ((List.length l + 1)) ((0 : Int), ([] : List (Int × Int))) H ?_
   rintro N1 (_ | m1) ⟨v1_12, v1_m1_0⟩ H hN1
   · exact (noneE H).elim
   replace H : trrightS_l1 l nodes (trrightS_j0) (m1 + 1) v1_12 v1_m1_0 = some y := H
   rw [trrightS_l1] at H
   refine xs [] H ?_ ?_
   · intro H
     refine chkG H fun q4_0_1 H => ?_
     refine xi [1] 1 hlA q4_0_1 fun b1 o1 e1 => ?_
     refine letG H fun x4_1 hx4_1 H => ?_
     refine xo [] [] [1] (oc_ldN hlA e1 q4_0_1 hx4_1 0 4) fun _ => ?_
     refine xn [] fun b4_2 => ?_
     refine xpl [0,0] 2 (ol_mget1 (α := Int) 243 3 3 Tryz.prog m1_0 x4_1.node v1_m1_0 (fun _ => rfl) ⟨.i64, by kernel_rfl⟩) ?_
     refine xs [0] H ?_ ?_
     · intro H
       exact xrY (someE H) [0,0,0,0,1,0,0,0,0,0,1,0,0,0,0,0,0,1,0,0,0,0,0,0,0,0,1,1] [] [] [1] ()
     · intro H
       refine xs [1,1,0,1,1,0] H ?_ ?_
       · intro H
         exact xrY (someE H) [0,0,0,0,0,1,0,0,0,0,0,0,1,0,0,0,0,0,0,0,0,1,1] [] [] [1] ()
       · intro H
         refine letG H fun u6_13 hu6_13 H => ?_
         refine xw [1,1,0,1,1,300] 33 (congrArg (Value.int .i64) hu6_13) ?_
         refine xs [1,0] H ?_ ?_
         · intro H
           exact xrY (someE H) [0,0,0,0,0,0,1,0,0,0,0,0,0,0,0,1,1] [] [] [1] ()
         · intro H
           refine xs [1,1,0,1,1,1,1,0] H ?_ ?_
           · intro H
             exact xrY (someE H) [0,0,0,0,0,0,0,0,1,1] [] [] [1] ()
           · intro H
             refine xs [1,1,0,1,1] H ?_ ?_
             · intro H
               refine xs [1,1,0,1,1,1,0] H ?_ ?_
               · intro H
                 exact xrY (someE H) [1] [] [] [1] ()
               · intro H
                 refine xpl [0,0] 2 (ol_mget1 (α := Int) 243 3 3 Tryz.prog m1_0 x4_1.node v1_m1_0 (fun _ => rfl) ⟨.i64, by kernel_rfl⟩) ?_
                 refine letG H fun l8_5 hl8_5 H => ?_
                 refine xo [1] [] [2,3] (oc_mset (α := Int) 243 3 3 Tryz.prog m1_0 x4_1.node v1_m1_0 (wr ((mgo v1_m1_0 x4_1.node) + (1 : Int)) : Int) () hl8_5 ⟨.i64, by kernel_rfl⟩) fun _ => ?_
                 refine chkG H fun q9_0_1 H => ?_
                 refine xd [0] (ap q9_0_1 an) ?_
                 exact xe [] _ [] [0,1] (hN1 _ (v1_12 + (1 : Int), l8_5) (Nat.lt_succ_self _) H)
             · intro H
               refine xpl [0,0,0,1,0,0,0,0] 2 (ol_mget1 (α := Int) 243 3 3 Tryz.prog m1_0 x4_1.node v1_m1_0 (fun _ => rfl) ⟨.i64, by kernel_rfl⟩) ?_
               refine letG H fun l8_5 hl8_5 H => ?_
               refine xo [1] [] [2,3] (oc_mset (α := Int) 243 3 3 Tryz.prog m1_0 x4_1.node v1_m1_0 (wr ((mgo v1_m1_0 x4_1.node) + (1 : Int)) : Int) () hl8_5 ⟨.i64, by kernel_rfl⟩) fun _ => ?_
               refine chkG H fun q9_0_2 H => ?_
               refine xd [0] (ap q9_0_2 an) ?_
               exact xe [] _ [] [0,1] (hN1 _ (v1_12 + (1 : Int), l8_5) (Nat.lt_succ_self _) H)
   · intro H
     exact xe [0] _ [] [0,0] (hN0 (v1_m1_0) H)
def anewS_j0 (c : CfgS) (e0_b1_2_8x : List Int) : Option (MemS) :=
 some ({ c := c, l := e0_b1_2_8x } : MemS)
def anewS_l1 (c : CfgS) (k0 : (List Int) → Option (MemS)) : Nat → Int → (List Int) → Option (MemS)
 | 0, _, _ => none
 | m + 1, v1_10, v1_b1_2_8x => (bif decide (v1_10 < c.lines) then (pwordsS c v1_10).bind fun y5_7 => chk ((v1_b1_2_8x ++ y5_7).length ≤ 1099511627776) (letP (v1_b1_2_8x ++ y5_7) fun l5_8 => chk (inR (v1_10 + (1 : Int))) ((anewS_l1 c k0 m) (v1_10 + (1 : Int)) l5_8)) else k0 v1_b1_2_8x)
def anewS (c : CfgS) : Option (MemS) :=
 anewS_l1 c (anewS_j0 c) (c.lines.toNat + 1) (0 : Int) ([] : List Int)
set_option maxRecDepth 100000 in
set_option maxHeartbeats 4000000 in
theorem anewF {c : CfgS} (c0a : Option Addr) (c0c : Nat) {y : MemS} (H : anewS c = some y) : FnY Tryz.prog 116 [.agg #[.int .i64 c.nodes, .int .i64 c.lines, .int .i64 c.words, .int .i64 c.sets, .int .i64 c.ways, .int .i64 c.out, .int .i64 c.inn, .slice c0a (List.length c.init) c0c]] ⟨[], [(ImmA c0a c0c c.init)]⟩ (Z := Nat) (fun y (zb0 : Nat) => .pointer (some ⟨zb0, 0, none⟩)) (fun y (zb0 : Nat) => ⟨[], [(MemA zb0 y)]⟩) y := by
 unfold anewS at H
 refine xfY Tryz.func116 fun W0 F => ?_
 refine xn [] fun b0_0 => ?_
 refine xn [0] fun b1_2 => ?_
 refine xj [100] (ι := List Int × Option Addr × Nat) (fun (e0_b1_2_8x, e0_b1_2_8a, e0_b1_2_8c) => ⟨[(3, .pointer (some ⟨b1_2, 0, none⟩))], [⟨b1_2, #[.int .i64 c.nodes, .int .i64 c.lines, .int .i64 c.words, .int .i64 c.sets, .int .i64 c.ways, .int .i64 c.out, .int .i64 c.inn, .slice c0a (List.length c.init) c0c, .slice e0_b1_2_8a (List.length e0_b1_2_8x) e0_b1_2_8c], 197⟩], [(ArrA e0_b1_2_8a e0_b1_2_8c e0_b1_2_8x), (ImmA c0a c0c c.init)]⟩) (fun (e0_b1_2_8x, e0_b1_2_8a, e0_b1_2_8c) => anewS_j0 c e0_b1_2_8x = some y) ?_ ?_
 · rintro ⟨e0_b1_2_8x, e0_b1_2_8a, e0_b1_2_8c⟩ H
   replace H : anewS_j0 c e0_b1_2_8x = some y := H
   rw [anewS_j0] at H
   refine xg [] [0] [1,0] (gh_shut (MemO b1_2 ({ c := c, l := e0_b1_2_8x } : MemS)) (c0a, c0c, e0_b1_2_8a, e0_b1_2_8c)) fun _ => ?_
   exact xrY (someE H) [] [] [] [0] (b1_2)
 · intro N0 hN0
   refine xg [1] [] [] (gh_nil (α := Int) none) fun _ => ?_
   refine xl [] (ι := Int × List Int × Option Addr × Nat) (fun (v1_10, v1_b1_2_8x, v1_b1_2_8a, v1_b1_2_8c) => ⟨[(1, .pointer (some ⟨b0_0, 0, none⟩)), (3, .pointer (some ⟨b1_2, 0, none⟩)), (9, .int .i64 c.lines), (10, .int .i64 v1_10)], [⟨b1_2, #[.int .i64 c.nodes, .int .i64 c.lines, .int .i64 c.words, .int .i64 c.sets, .int .i64 c.ways, .int .i64 c.out, .int .i64 c.inn, .slice c0a (List.length c.init) c0c, .slice v1_b1_2_8a (List.length v1_b1_2_8x) v1_b1_2_8c], 197⟩, ⟨b0_0, #[.int .i64 c.nodes, .int .i64 c.lines, .int .i64 c.words, .int .i64 c.sets, .int .i64 c.ways, .int .i64 c.out, .int .i64 c.inn, .slice c0a (List.length c.init) c0c], 25⟩], [(ArrA v1_b1_2_8a v1_b1_2_8c v1_b1_2_8x), (ImmA c0a c0c c.init)]⟩) (fun m1 (v1_10, v1_b1_2_8x, v1_b1_2_8a, v1_b1_2_8c) => anewS_l1 c (anewS_j0 c) m1 v1_10 v1_b1_2_8x = some y) [0,0] [0,0] ((c.lines.toNat + 1)) ((0 : Int), ([] : List Int), none, 0) H ?_
   rintro N1 (_ | m1) ⟨v1_10, v1_b1_2_8x, v1_b1_2_8a, v1_b1_2_8c⟩ H hN1
   · exact (noneE H).elim
   replace H : anewS_l1 c (anewS_j0 c) (m1 + 1) v1_10 v1_b1_2_8x = some y := H
   rw [anewS_l1] at H
   refine xs [] H ?_ ?_
   · intro H
     refine bindG H fun y5_7 hy5_7 H => ?_
     refine xc [1,0,1,2,3,4,0,5,1,6,7] [] [1] (pwordsF c0a c0c (rI c0a c0c c.init) hy5_7) fun ⟨t5_7_a0, t5_7_c0⟩ => ?_
     refine chkG H fun q5_8_1 H => ?_
     refine letG H fun l5_8 hl5_8 H => ?_
     refine xa [8] [2,0] (a := v1_b1_2_8a) (l := v1_b1_2_8x) (zs := l5_8) (cap := v1_b1_2_8c) (rA t5_7_a0 t5_7_c0 y5_7) hl5_8 (hl5_8 ▸ q5_8_1) fun ⟨a5_8, c5_8⟩ => ?_
     refine chkG H fun q6_0_1 H => ?_
     refine xd [9,10,11,0,0] (ap q6_0_1 an) ?_
     exact xe [] _ [0,0] [0,1] (hN1 _ (v1_10 + (1 : Int), l5_8, a5_8, c5_8) (Nat.lt_succ_self _) H)
   · intro H
     exact xe [0] _ [0] [0,0] (hN0 (v1_b1_2_8x, v1_b1_2_8a, v1_b1_2_8c) H)
def adoS_j0 (mc : MemS) (e0_m_8x : List Int) : Option (Int × Int × MemS) :=
 some ((0 : Int), (0 : Int), ({ mc with l := e0_m_8x } : MemS))
def adoS (mc : MemS) (op : OpS) : Option (Int × Int × MemS) :=
 chk (0 ≤ mc.c.nodes ∧ mc.c.nodes ≤ 1099511627776) (letP (List.replicate (mc.c.nodes).toNat ([] : List OpS)) fun l1_5 => chk (0 ≤ (0 : Int) ∧ (0 : Int) < ((l1_5.length : Nat) : Int)) (letP (setR l1_5 (0 : Int) ([op])) fun l2_4 => (popsS mc.c l2_4).bind fun y3_5 => (bif !(decide (y3_5 = (0 : Int))) then some ((0 : Int), y3_5, mc) else chk (0 ≤ op.addr ∧ op.addr < ((mc.l.length : Nat) : Int)) ((bif decide (op.kind = (1 : Int)) then some (nth mc.l op.addr, (0 : Int), mc) else (bif decide (op.kind = (2 : Int)) then chk (0 ≤ op.addr ∧ op.addr < ((mc.l.length : Nat) : Int)) (letP (setT mc.l op.addr op.value) fun l11_9 => (adoS_j0 mc) l11_9) else (bif decide (op.kind = (3 : Int)) then chk (0 ≤ op.addr ∧ op.addr < ((mc.l.length : Nat) : Int)) (letP (setT mc.l op.addr (wr ((nth mc.l op.addr) + op.value))) fun l13_11 => some (nth mc.l op.addr, (0 : Int), ({ mc with l := l13_11 } : MemS))) else (adoS_j0 mc) mc.l)))))))
set_option maxRecDepth 100000 in
set_option maxHeartbeats 4000000 in
theorem adoF {mc : MemS} {op : OpS} (m : Nat) {y : Int × Int × MemS} (H : adoS mc op = some y) : FnY Tryz.prog 117 [.pointer (some ⟨m, 0, none⟩), .agg #[.int .i64 op.kind, .int .i64 op.addr, .int .i64 op.value]] ⟨[], [(MemA m mc)]⟩ (Z := Unit) (fun y _ => .tuple #[.int .i64 y.1, .int .i64 y.2.1]) (fun y _ => ⟨[], [(MemA m y.2.2)]⟩) y := by
 unfold adoS at H
 refine xfY Tryz.func117 fun W0 F => ?_
 refine xn [] fun b0_0 => ?_
 refine xg [] [] [0] (gh_open (MemO m mc)) fun ⟨a_c_init1, c_c_init2, a_l3, c_l4⟩ => ?_
 refine chkG H fun q1_5_1 H => ?_
 refine letG H fun l1_5 hl1_5 H => ?_
 refine xmkO (α := List OpS) [0] q1_5_1 hl1_5 roList_d fun b1_5 => ?_
 refine xn [1] fun b2_2 => ?_
 refine chkG H fun q2_3_1 H => ?_
 refine xg [] [] [0] (gh_foc (some ⟨b1_5, 0, none⟩) ((mc.c.nodes).toNat) l1_5 (0 : Int) q2_3_1) fun ⟨wa1, wc1⟩ => ?_
 refine xiG (K := 1) [] 1 (ix_hol (some ⟨b1_5, 0, none⟩) ((mc.c.nodes).toNat) l1_5 (0 : Int) (wa1, wc1) q2_3_1) q2_3_1 fun b1 o1 e1 => ?_
 refine xg [] [0] [4] (gh_one b2_2 29 op ()) fun _ => ?_
 refine letG H fun l2_4 hl2_4 H => ?_
 refine xo [] [] [0,1] (oc_hst (some ⟨b1_5, 0, none⟩) ((mc.c.nodes).toNat) l1_5 (0 : Int) (wa1, wc1) ([op]) (some ⟨b2_2, 0, none⟩, 1) e1 q2_3_1 hl2_4) fun _ => ?_
 refine xw [300] 6 (congrArg (fun n : Nat => (.slice (some ⟨b1_5, 0, none⟩) n ((mc.c.nodes).toNat) : Value)) (setR_len hl2_4)) ?_
 refine xw [300] 15 (congrArg (fun n : Nat => (.slice (some ⟨b1_5, 0, none⟩) n ((mc.c.nodes).toNat) : Value)) (setR_len hl2_4)) ?_
 refine xg [0] [] [0] (gh_frzO (some ⟨b1_5, 0, none⟩) ((mc.c.nodes).toNat) l2_4) fun _ => ?_
 refine bindG H fun y3_5 hy3_5 H => ?_
 refine xc [] [] [0] (popsF a_c_init1 c_c_init2 (some ⟨b1_5, 0, none⟩) ((mc.c.nodes).toNat) (rA (some ⟨b1_5, 0, none⟩) ((mc.c.nodes).toNat) l2_4) hy3_5) fun _ => ?_
 refine xs [] H ?_ ?_
 · intro H
   refine xg [1] [0] [2,2] (gh_shut (MemO m mc) (a_c_init1, c_c_init2, a_l3, c_l4)) fun _ => ?_
   exact xrY (someE H) [] [] [] [0] ()
 · intro H
   refine chkG H fun q6_6_1 H => ?_
   refine xi [0,0,1,2,3,0,4,5,1,6] 3 (rA a_l3 c_l4 mc.l) q6_6_1 fun b2 o2 e2 => ?_
   refine xpl [7] 3 (ol_ld (rA a_l3 c_l4 mc.l) e2 q6_6_1 0 (fun _ => rfl)) ?_
   refine xj [8,100] (ι := List Int × Option Addr × Nat) (fun (e0_m_8x, e0_m_8a, e0_m_8c) => ⟨[], [⟨m, #[.int .i64 mc.c.nodes, .int .i64 mc.c.lines, .int .i64 mc.c.words, .int .i64 mc.c.sets, .int .i64 mc.c.ways, .int .i64 mc.c.out, .int .i64 mc.c.inn, .slice a_c_init1 (List.length mc.c.init) c_c_init2, .slice e0_m_8a (List.length e0_m_8x) e0_m_8c], 197⟩], [(ArrA e0_m_8a e0_m_8c e0_m_8x), (ImmA a_c_init1 c_c_init2 mc.c.init)]⟩) (fun (e0_m_8x, e0_m_8a, e0_m_8c) => adoS_j0 mc e0_m_8x = some y) ?_ ?_
   · rintro ⟨e0_m_8x, e0_m_8a, e0_m_8c⟩ H
     replace H : adoS_j0 mc e0_m_8x = some y := H
     rw [adoS_j0] at H
     refine xg [] [0] [1,0] (gh_shut (MemO m ({ mc with l := e0_m_8x } : MemS)) (a_c_init1, c_c_init2, e0_m_8a, e0_m_8c)) fun _ => ?_
     exact xrY (someE H) [] [] [] [0] ()
   · intro N0 hN0
     refine xs [1] H ?_ ?_
     · intro H
       refine xg [1] [0] [2,2] (gh_shut (MemO m mc) (a_c_init1, c_c_init2, a_l3, c_l4)) fun _ => ?_
       exact xrY (someE H) [] [] [] [0] ()
     · intro H
       refine xs [0] H ?_ ?_
       · intro H
         refine chkG H fun q11_8_1 H => ?_
         refine xi [1,0,1,2,3,0,4,5,1,6,7,1,8] 3 (rA a_l3 c_l4 mc.l) q11_8_1 fun b3 o3 e3 => ?_
         refine letG H fun l11_9 hl11_9 H => ?_
         refine xo [9] [] [3,4] (oc_st (α := Int) (cap := c_l4) (e := op.value) () e3 q11_8_1 hl11_9) fun _ => ?_
         refine xw [] 46 (congrArg (fun n : Nat => (.slice a_l3 n c_l4 : Value)) (set_len hl11_9)) ?_
         refine xg [] [0] [] (gh_cells m 197 (congrArg (fun n : Nat => (#[.int .i64 mc.c.nodes, .int .i64 mc.c.lines, .int .i64 mc.c.words, .int .i64 mc.c.sets, .int .i64 mc.c.ways, .int .i64 mc.c.out, .int .i64 mc.c.inn, .slice a_c_init1 (List.length mc.c.init) c_c_init2, .slice a_l3 n c_l4] : Array Value)) (set_len hl11_9))) fun _ => ?_
         exact xe [] _ [0] [0,2] (hN0 (l11_9, a_l3, c_l4) H)
       · intro H
         refine xs [0] H ?_ ?_
         · intro H
           refine chkG H fun q13_10_1 H => ?_
           refine xi [1,0,1,2,3,0,4,5,1,6,7,8,1,9,1,10] 3 (rA a_l3 c_l4 mc.l) q13_10_1 fun b4 o4 e4 => ?_
           refine letG H fun l13_11 hl13_11 H => ?_
           refine xo [11] [] [3,4] (oc_st (α := Int) (cap := c_l4) (e := wr ((nth mc.l op.addr) + op.value)) () e4 q13_10_1 hl13_11) fun _ => ?_
           refine xw [] 57 (congrArg (fun n : Nat => (.slice a_l3 n c_l4 : Value)) (set_len hl13_11)) ?_
           refine xg [] [0] [] (gh_cells m 197 (congrArg (fun n : Nat => (#[.int .i64 mc.c.nodes, .int .i64 mc.c.lines, .int .i64 mc.c.words, .int .i64 mc.c.sets, .int .i64 mc.c.ways, .int .i64 mc.c.out, .int .i64 mc.c.inn, .slice a_c_init1 (List.length mc.c.init) c_c_init2, .slice a_l3 n c_l4] : Array Value)) (set_len hl13_11))) fun _ => ?_
           refine xg [] [0] [3,0] (gh_shut (MemO m ({ mc with l := l13_11 } : MemS)) (a_c_init1, c_c_init2, a_l3, c_l4)) fun _ => ?_
           exact xrY (someE H) [] [] [] [0] ()
         · intro H
           exact xe [0] _ [0] [3,2] (hN0 (mc.l, a_l3, c_l4) H)
def afoldS_j1 (e1_t3_1_b0 : MemS) : Option (Option MemS × Bool) :=
 some ((some e1_t3_1_b0), true)
def afoldS_l2 (l : List EventS) (programs : List (List OpS)) (k1 : MemS → Option (Option MemS × Bool)) : Nat → Int → MemS → Option (Option MemS × Bool)
 | 0, _, _ => none
 | m + 1, v2_28, v2_t3_1_b0 => (bif decide (v2_28 < (((List.length l) : Nat) : Int)) then chk (0 ≤ v2_28 ∧ v2_28 < ((l.length : Nat) : Int)) (letP (nthT l v2_28) fun x6_1 => chk (0 ≤ x6_1.node ∧ x6_1.node < ((programs.length : Nat) : Int)) (letP (nthT programs x6_1.node) fun x7_6 => (bif decide ((((List.length x7_6) : Nat) : Int) ≤ x6_1.index) then some (none, false) else (bif !x6_1.done_ then chk (inR (v2_28 + (1 : Int))) ((afoldS_l2 l programs k1 m) (v2_28 + (1 : Int)) v2_t3_1_b0) else chk (0 ≤ x6_1.node ∧ x6_1.node < ((programs.length : Nat) : Int)) (letP (nthT programs x6_1.node) fun x10_5 => chk (0 ≤ x6_1.index ∧ x6_1.index < ((x10_5.length : Nat) : Int)) ((adoS v2_t3_1_b0 (nthT x10_5 x6_1.index)).bind fun y10_10 => (bif !(decide (y10_10.2.1 = (0 : Int))) then some (none, false) else (bif !(decide (y10_10.1 = x6_1.value)) then some (none, false) else chk (inR (v2_28 + (1 : Int))) ((afoldS_l2 l programs k1 m) (v2_28 + (1 : Int)) y10_10.2.2))))))))) else k1 v2_t3_1_b0)
def afoldS_j0 (c : CfgS) (l : List EventS) (programs : List (List OpS)) (e0_23 : Bool) : Option (Option MemS × Bool) :=
 (bif e0_23 then some (none, false) else (anewS c).bind fun y3_1 => afoldS_l2 l programs afoldS_j1 (List.length l + 1) (0 : Int) y3_1)
def afoldS (c : CfgS) (programs : List (List OpS)) (l : List EventS) : Option (Option MemS × Bool) :=
 (popsS c programs).bind fun y1_2 => (bif !(decide (y1_2 = (0 : Int))) then (afoldS_j0 c l programs) true else (trrightS c.nodes l).bind fun y1_8 => (afoldS_j0 c l programs) !y1_8)
set_option maxRecDepth 100000 in
set_option maxHeartbeats 4000000 in
theorem afoldF {c : CfgS} {programs : List (List OpS)} {programsA : Asn} {l : List EventS} {lA : Asn} (c0a : Option Addr) (c0c : Nat) (programsa : Option Addr) (programsc : Nat) (la : Option Addr) (lc : Nat) (hprogramsA : Rdb programsA programsa programsc programs) (hlA : Rdb lA la lc l) {y : Option MemS × Bool} (H : afoldS c programs l = some y) : FnY Tryz.prog 71 [.agg #[.int .i64 c.nodes, .int .i64 c.lines, .int .i64 c.words, .int .i64 c.sets, .int .i64 c.ways, .int .i64 c.out, .int .i64 c.inn, .slice c0a (List.length c.init) c0c], .slice programsa (List.length programs) programsc, .slice la (List.length l) lc] ⟨[], [(ImmA c0a c0c c.init), programsA, lA]⟩ (Z := Nat) (fun y (zb0 : Nat) => .tuple #[(optV y.1 zb0), .bool y.2]) (fun y (zb0 : Nat) => ⟨[], [(optA (MemA zb0) y.1), programsA, lA]⟩) y := by
 unfold afoldS at H
 refine xfY Tryz.func71 fun W0 F => ?_
 refine xn [] fun b0_0 => ?_
 refine xj [101] (ι := Bool) (fun e0_23 => ⟨[(1, .slice programsa (List.length programs) programsc), (2, .slice la (List.length l) lc), (3, .pointer (some ⟨b0_0, 0, none⟩)), (23, .bool e0_23)], [⟨b0_0, #[.int .i64 c.nodes, .int .i64 c.lines, .int .i64 c.words, .int .i64 c.sets, .int .i64 c.ways, .int .i64 c.out, .int .i64 c.inn, .slice c0a (List.length c.init) c0c], 25⟩], [programsA, (ImmA c0a c0c c.init), lA]⟩) (fun e0_23 => afoldS_j0 c l programs e0_23 = some y) ?_ ?_
 · rintro e0_23 H
   replace H : afoldS_j0 c l programs e0_23 = some y := H
   rw [afoldS_j0] at H
   refine xs [] H ?_ ?_
   · intro H
     exact xrY (someE H) [1] [] [] [53,0,1] (0)
   · intro H
     refine xg [0,0] [] [1] (gh_dup c0a c0c c.init) fun _ => ?_
     refine bindG H fun y3_1 hy3_1 H => ?_
     refine xc [] [] [0] (anewF c0a c0c hy3_1) fun t3_1_b0 => ?_
     refine xj [100] (ι := MemS) (fun e1_t3_1_b0 => ⟨[(8, .pointer (some ⟨t3_1_b0, 0, none⟩))], [], [(MemA t3_1_b0 e1_t3_1_b0), programsA, lA]⟩) (fun e1_t3_1_b0 => afoldS_j1 e1_t3_1_b0 = some y) ?_ ?_
     · rintro e1_t3_1_b0 H
       replace H : afoldS_j1 e1_t3_1_b0 = some y := H
       rw [afoldS_j1] at H
       exact xrY (someE H) [] [] [] [0,0,0] (t3_1_b0)
     · intro N1 hN1
       refine xl [] (ι := Int × MemS) (fun (v2_28, v2_t3_1_b0) => ⟨[(1, .slice programsa (List.length programs) programsc), (8, .pointer (some ⟨t3_1_b0, 0, none⟩)), (26, .slice la (List.length l) lc), (27, .int .i64 (((List.length l) : Nat) : Int)), (28, .int .i64 v2_28)], [], [(MemA t3_1_b0 v2_t3_1_b0), programsA, lA]⟩) (fun m2 (v2_28, v2_t3_1_b0) => afoldS_l2 l programs (afoldS_j1) m2 v2_28 v2_t3_1_b0 = some y) [] [0,1,1] ((List.length l + 1)) ((0 : Int), y3_1) H ?_
       rintro N2 (_ | m2) ⟨v2_28, v2_t3_1_b0⟩ H hN2
       · exact (noneE H).elim
       replace H : afoldS_l2 l programs (afoldS_j1) (m2 + 1) v2_28 v2_t3_1_b0 = some y := H
       rw [afoldS_l2] at H
       refine xs [] H ?_ ?_
       · intro H
         refine chkG H fun q6_0_1 H => ?_
         refine xi [1] 2 hlA q6_0_1 fun b1 o1 e1 => ?_
         refine letG H fun x6_1 hx6_1 H => ?_
         refine xo [] [] [2] (oc_ldN hlA e1 q6_0_1 hx6_1 0 4) fun _ => ?_
         refine xn [] fun b6_2 => ?_
         refine chkG H fun q7_5_1 H => ?_
         refine xi [0,0,1,0,2,3,4,0,5] 3 hprogramsA q7_5_1 fun b2 o2 e2 => ?_
         refine letG H fun x7_6 hx7_6 H => ?_
         refine xo [6] [] [3] (oc_ld hprogramsA e2 q7_5_1 hx7_6 0) fun z7_6_1 => ?_
         refine xs [7,8] H ?_ ?_
         · intro H
           exact xrY (someE H) [1] [] [] [55,1,2] (0)
         · intro H
           refine xs [0,0] H ?_ ?_
           · intro H
             refine chkG H fun q13_0_1 H => ?_
             refine xd [1,0] (ap q13_0_1 an) ?_
             exact xe [] _ [] [4,1,2] (hN2 _ (v2_28 + (1 : Int), v2_t3_1_b0) (Nat.lt_succ_self _) H)
           · intro H
             refine chkG H fun q10_4_1 H => ?_
             refine xi [0,0,1,2,3,0,4] 1 hprogramsA q10_4_1 fun b3 o3 e3 => ?_
             refine letG H fun x10_5 hx10_5 H => ?_
             refine xo [6,7,0,5] [] [1] (oc_ld hprogramsA e3 q10_4_1 hx10_5 0) fun z10_5_1 => ?_
             refine chkG H fun q10_8_1 H => ?_
             refine xi [8] 0 (rI z10_5_1.1 z10_5_1.2 x10_5) q10_8_1 fun b4 o4 e4 => ?_
             refine xpl [9] 0 (ol_ldN (rI z10_5_1.1 z10_5_1.2 x10_5) e4 q10_8_1 0 3 (fun _ => rfl)) ?_
             refine bindG H fun y10_10 hy10_10 H => ?_
             refine xc [10] [] [5] (adoF t3_1_b0 hy10_10) fun _ => ?_
             refine xs [11,12,13,14,15] H ?_ ?_
             · intro H
               exact xrY (someE H) [0,0,0,0,1,1] [] [] [56,2,4] (0)
             · intro H
               refine xs [1,1,1,0,1,0] H ?_ ?_
               · intro H
                 exact xrY (someE H) [1] [] [] [56,2,4] (0)
               · intro H
                 refine chkG H fun q13_0_2 H => ?_
                 refine xd [0,0] (ap q13_0_2 an) ?_
                 exact xe [] _ [] [0,1,3] (hN2 _ (v2_28 + (1 : Int), y10_10.2.2) (Nat.lt_succ_self _) H)
       · intro H
         exact xe [0] _ [] [0,0,0] (hN1 (v2_t3_1_b0) H)
 · intro N0 hN0
   refine bindG H fun y1_2 hy1_2 H => ?_
   refine xc [0] [] [1] (popsF c0a c0c programsa programsc hprogramsA hy1_2) fun _ => ?_
   refine xs [] H ?_ ?_
   · intro H
     exact xe [0,0,0,0,0,1] _ [0] [0,0,0] (hN0 (true) H)
   · intro H
     refine bindG H fun y1_8 hy1_8 H => ?_
     refine xc [1,1,0,1,1] [] [2] (trrightF la lc hlA hy1_8) fun _ => ?_
     exact xe [1,0] _ [0] [1,1,0] (hN0 (!y1_8) H)
def alegS (c : CfgS) (programs : List (List OpS)) (l : List EventS) : Option (Bool) :=
 (afoldS c programs l).bind fun y1_3 => some y1_3.2
set_option maxRecDepth 100000 in
set_option maxHeartbeats 4000000 in
theorem alegF {c : CfgS} {programs : List (List OpS)} {programsA : Asn} {l : List EventS} {lA : Asn} (c0a : Option Addr) (c0c : Nat) (programsa : Option Addr) (programsc : Nat) (la : Option Addr) (lc : Nat) (hprogramsA : Rdb programsA programsa programsc programs) (hlA : Rdb lA la lc l) {y : Bool} (H : alegS c programs l = some y) : FnY Tryz.prog 35 [.agg #[.int .i64 c.nodes, .int .i64 c.lines, .int .i64 c.words, .int .i64 c.sets, .int .i64 c.ways, .int .i64 c.out, .int .i64 c.inn, .slice c0a (List.length c.init) c0c], .slice programsa (List.length programs) programsc, .slice la (List.length l) lc] ⟨[], [(ImmA c0a c0c c.init), programsA, lA]⟩ (Z := Unit) (fun y _ => .bool y) (fun y _ => ⟨[], [programsA, lA]⟩) y := by
 unfold alegS at H
 refine xfY Tryz.func35 fun W0 F => ?_
 refine xn [] fun b0_0 => ?_
 refine xg [0] [] [0] (gh_dup c0a c0c c.init) fun _ => ?_
 refine bindG H fun y1_3 hy1_3 H => ?_
 refine xc [] [] [0,1,1] (afoldF c0a c0c programsa programsc la lc hprogramsA hlA hy1_3) fun t1_3_b0 => ?_
 exact xrY (someE H) [] [] [] [1,1] ()
def awordsS (mc : MemS) : Option (List Int) :=
 (cloneS mc.l).bind fun y1_4 => some y1_4
set_option maxRecDepth 100000 in
set_option maxHeartbeats 4000000 in
theorem awordsF {mc : MemS} (m : Nat) (m_a_c_init : Option Addr) (m_c_c_init : Nat) (m_a_l : Option Addr) (m_c_l : Nat) {y : List Int} (H : awordsS mc = some y) : FnY Tryz.prog 72 [.pointer (some ⟨m, 0, none⟩)] ⟨[⟨m, #[.int .i64 mc.c.nodes, .int .i64 mc.c.lines, .int .i64 mc.c.words, .int .i64 mc.c.sets, .int .i64 mc.c.ways, .int .i64 mc.c.out, .int .i64 mc.c.inn, .slice m_a_c_init (List.length mc.c.init) m_c_c_init, .slice m_a_l (List.length mc.l) m_c_l], 197⟩], [(ImmA m_a_c_init m_c_c_init mc.c.init), (ArrA m_a_l m_c_l mc.l)]⟩ (Z := Option Addr × Nat) (fun y (za0, zc0) => .slice za0 (List.length y) zc0) (fun y (za0, zc0) => ⟨[⟨m, #[.int .i64 mc.c.nodes, .int .i64 mc.c.lines, .int .i64 mc.c.words, .int .i64 mc.c.sets, .int .i64 mc.c.ways, .int .i64 mc.c.out, .int .i64 mc.c.inn, .slice m_a_c_init (List.length mc.c.init) m_c_c_init, .slice m_a_l (List.length mc.l) m_c_l], 197⟩], [(ArrA za0 zc0 y), (ImmA m_a_c_init m_c_c_init mc.c.init), (ArrA m_a_l m_c_l mc.l)]⟩) y := by
 unfold awordsS at H
 refine xfY Tryz.func72 fun W0 F => ?_
 refine bindG H fun y1_4 hy1_4 H => ?_
 refine xc [0] [] [1] (cloneF m_a_l m_c_l (rA m_a_l m_c_l mc.l) hy1_4) fun ⟨t1_4_a0, t1_4_c0⟩ => ?_
 exact xrY (someE H) [] [] [0] [0,1,0] (t1_4_a0, t1_4_c0)
def aaftS (c : CfgS) (programs : List (List OpS)) (l : List EventS) : Option (List Int) :=
 (afoldS c programs l).bind fun y1_3 => (bif !y1_3.2 then some ([] : List Int) else (optM y1_3.1 (fun n4_0_1 => (awordsS n4_0_1).bind fun y4_1 => some y4_1) (none)))
set_option maxRecDepth 100000 in
set_option maxHeartbeats 4000000 in
theorem aaftF {c : CfgS} {programs : List (List OpS)} {programsA : Asn} {l : List EventS} {lA : Asn} (c0a : Option Addr) (c0c : Nat) (programsa : Option Addr) (programsc : Nat) (la : Option Addr) (lc : Nat) (hprogramsA : Rdb programsA programsa programsc programs) (hlA : Rdb lA la lc l) {y : List Int} (H : aaftS c programs l = some y) : FnY Tryz.prog 29 [.agg #[.int .i64 c.nodes, .int .i64 c.lines, .int .i64 c.words, .int .i64 c.sets, .int .i64 c.ways, .int .i64 c.out, .int .i64 c.inn, .slice c0a (List.length c.init) c0c], .slice programsa (List.length programs) programsc, .slice la (List.length l) lc] ⟨[], [(ImmA c0a c0c c.init), programsA, lA]⟩ (Z := Option Addr × Nat) (fun y (za0, zc0) => .slice za0 (List.length y) zc0) (fun y (za0, zc0) => ⟨[], [(ArrA za0 zc0 y), programsA, lA]⟩) y := by
 unfold aaftS at H
 refine xfY Tryz.func29 fun W0 F => ?_
 refine xn [] fun b0_0 => ?_
 refine xg [0] [] [0] (gh_dup c0a c0c c.init) fun _ => ?_
 refine bindG H fun y1_3 hy1_3 H => ?_
 refine xc [] [] [0,1,1] (afoldF c0a c0c programsa programsc la lc hprogramsA hlA hy1_3) fun t1_3_b0 => ?_
 refine xs [] H ?_ ?_
 · intro H
   refine xg [1] [] [] (gh_nil (α := Int) none) fun _ => ?_
   exact xrY (someE H) [] [] [] [0,1,1] (none, 0)
 · intro H
   refine optG H (fun hn4_0_1 H => ?_) fun n4_0_1 hn4_0_1 H => ?_
   · refine xw [0,301] 7 (optV_n t1_3_b0 hn4_0_1) ?_
     refine xw [300] 18 (optV_n t1_3_b0 hn4_0_1) ?_
     exact (noneE H).elim
   · refine xw [0,301] 7 (optV_s t1_3_b0 hn4_0_1) ?_
     refine xw [300] 18 (optV_s t1_3_b0 hn4_0_1) ?_
     refine xg [300] [] [0] (gh_opt (A := MemA t1_3_b0) hn4_0_1) fun _ => ?_
     refine xg [] [] [0] (gh_open (MemO t1_3_b0 n4_0_1)) fun ⟨a_c_init2, c_c_init3, a_l4, c_l5⟩ => ?_
     refine bindG H fun y4_1 hy4_1 H => ?_
     refine xc [] [0] [0,0] (awordsF t1_3_b0 a_c_init2 c_c_init3 a_l4 c_l5 hy4_1) fun ⟨t4_1_a0, t4_1_c0⟩ => ?_
     exact xrY (someE H) [] [] [] [0,2,2] (t4_1_a0, t4_1_c0)
end Go.Proofs.YtcidmgkfaioceaaGreat
namespace Go.Proofs.YtcidmgkfaioceaaGreat
open Go Go.RowKit
set_option linter.unusedVariables false
def wisS (mc : MachS) (line : Int) : Option (Bool) :=
 (bif decide ((0 : Int) ≤ line) then (mconfS mc).bind fun y1_5 => some (decide (line < y1_5.lines)) else some false)
set_option maxRecDepth 100000 in
set_option maxHeartbeats 4000000 in
theorem wisF {mc : MachS} {line : Int} (m : Nat) (m_b_fab : Nat) (m_b_trace : Nat) (m_a_c_init : Option Addr) (m_c_c_init : Nat) (m_a_nodes : Option Addr) (m_c_nodes : Nat) (m_r_nodes : List PtrR) {y : Bool} (H : wisS mc line = some y) : FnY Tryz.prog 45 [.pointer (some ⟨m, 0, none⟩), .int .i64 line] ⟨[⟨m, #[.pointer (some ⟨m_b_fab, 0, none⟩), .pointer (some ⟨m_b_trace, 0, none⟩), .int .i64 mc.c.nodes, .int .i64 mc.c.lines, .int .i64 mc.c.words, .int .i64 mc.c.sets, .int .i64 mc.c.ways, .int .i64 mc.c.out, .int .i64 mc.c.inn, .slice m_a_c_init (List.length mc.c.init) m_c_c_init, .slice m_a_nodes (List.length m_r_nodes) m_c_nodes], 70⟩], [(FabA m_b_fab mc.fab), (TraceA m_b_trace mc.trace), (ImmA m_a_c_init m_c_c_init mc.c.init), (ArrA m_a_nodes m_c_nodes m_r_nodes), (StA mc.nodes m_r_nodes)]⟩ (Z := Unit) (fun y _ => .bool y) (fun y _ => ⟨[⟨m, #[.pointer (some ⟨m_b_fab, 0, none⟩), .pointer (some ⟨m_b_trace, 0, none⟩), .int .i64 mc.c.nodes, .int .i64 mc.c.lines, .int .i64 mc.c.words, .int .i64 mc.c.sets, .int .i64 mc.c.ways, .int .i64 mc.c.out, .int .i64 mc.c.inn, .slice m_a_c_init (List.length mc.c.init) m_c_c_init, .slice m_a_nodes (List.length m_r_nodes) m_c_nodes], 70⟩], [(FabA m_b_fab mc.fab), (TraceA m_b_trace mc.trace), (ImmA m_a_c_init m_c_c_init mc.c.init), (ArrA m_a_nodes m_c_nodes m_r_nodes), (StA mc.nodes m_r_nodes)]⟩) y := by
 unfold wisS at H
 refine xfY Tryz.func45 fun W0 F => ?_
 refine xs [] H ?_ ?_
 · intro H
   refine bindG H fun y1_5 hy1_5 H => ?_
   refine xc [1,1,1] [0] [0,0,0,0,0] (mconfF m m_b_fab m_b_trace m_a_c_init m_c_c_init m_a_nodes m_c_nodes m_r_nodes hy1_5) fun ⟨t1_5_a0, t1_5_c0⟩ => ?_
   exact xrY (someE H) [1,1,1] [] [0] [1,1,1,1,1] ()
 · intro H
   exact xrY (someE H) [0,0,0,0,0,0] [] [0] [0,0,0,0,0] ()
def wcopS_j0 (e0_5x : List Int) : Option (List Int) :=
 some e0_5x
def wcopS_l1 (y2_1 : CfgS) (mc : MachS) (line : Int) (k0 : (List Int) → Option (List Int)) : Nat → (List Int) → Int → Option (List Int)
 | 0, _, _ => none
 | m + 1, v1_5x, v1_12 => (bif decide (v1_12 < y2_1.nodes) then (mnodeS mc v1_12).bind fun y5_2 => (optM y5_2 (fun k5_2 => chk (0 ≤ k5_2 ∧ k5_2 < ((List.length mc.nodes : Nat) : Int)) ((cfindS ((nthS mc.nodes k5_2).cache) line).bind fun y5_7 => (bif y5_7.2 then (wisS mc line).bind fun y6_4 => (bif y6_4 then chk ((v1_5x ++ ([v1_12])).length ≤ 1099511627776) (letP (v1_5x ++ ([v1_12])) fun l7_3 => chk (inR (v1_12 + (1 : Int))) ((wcopS_l1 y2_1 mc line k0 m) l7_3 (v1_12 + (1 : Int)))) else chk (inR (v1_12 + (1 : Int))) ((wcopS_l1 y2_1 mc line k0 m) v1_5x (v1_12 + (1 : Int)))) else chk (inR (v1_12 + (1 : Int))) ((wcopS_l1 y2_1 mc line k0 m) v1_5x (v1_12 + (1 : Int)))))) (none)) else k0 v1_5x)
def wcopS (mc : MachS) (line : Int) : Option (List Int) :=
 (mconfS mc).bind fun y2_1 => wcopS_l1 y2_1 mc line wcopS_j0 (mc.c.nodes.toNat + 1) ([] : List Int) (0 : Int)
set_option maxRecDepth 100000 in
set_option maxHeartbeats 4000000 in
theorem wcopF {mc : MachS} {line : Int} (m : Nat) (m_b_fab : Nat) (m_b_trace : Nat) (m_a_c_init : Option Addr) (m_c_c_init : Nat) (m_a_nodes : Option Addr) (m_c_nodes : Nat) (m_r_nodes : List PtrR) {y : List Int} (H : wcopS mc line = some y) : FnY Tryz.prog 32 [.pointer (some ⟨m, 0, none⟩), .int .i64 line] ⟨[⟨m, #[.pointer (some ⟨m_b_fab, 0, none⟩), .pointer (some ⟨m_b_trace, 0, none⟩), .int .i64 mc.c.nodes, .int .i64 mc.c.lines, .int .i64 mc.c.words, .int .i64 mc.c.sets, .int .i64 mc.c.ways, .int .i64 mc.c.out, .int .i64 mc.c.inn, .slice m_a_c_init (List.length mc.c.init) m_c_c_init, .slice m_a_nodes (List.length m_r_nodes) m_c_nodes], 70⟩], [(FabA m_b_fab mc.fab), (TraceA m_b_trace mc.trace), (ImmA m_a_c_init m_c_c_init mc.c.init), (ArrA m_a_nodes m_c_nodes m_r_nodes), (StA mc.nodes m_r_nodes)]⟩ (Z := Option Addr × Nat) (fun y (za0, zc0) => .slice za0 (List.length y) zc0) (fun y (za0, zc0) => ⟨[⟨m, #[.pointer (some ⟨m_b_fab, 0, none⟩), .pointer (some ⟨m_b_trace, 0, none⟩), .int .i64 mc.c.nodes, .int .i64 mc.c.lines, .int .i64 mc.c.words, .int .i64 mc.c.sets, .int .i64 mc.c.ways, .int .i64 mc.c.out, .int .i64 mc.c.inn, .slice m_a_c_init (List.length mc.c.init) m_c_c_init, .slice m_a_nodes (List.length m_r_nodes) m_c_nodes], 70⟩], [(ArrA za0 zc0 y), (FabA m_b_fab mc.fab), (TraceA m_b_trace mc.trace), (ImmA m_a_c_init m_c_c_init mc.c.init), (ArrA m_a_nodes m_c_nodes m_r_nodes), (StA mc.nodes m_r_nodes)]⟩) y := by
 unfold wcopS at H
 refine xfY Tryz.func32 fun W0 F => ?_
 refine xj [102] (ι := List Int × Option Addr × Nat) (fun (e0_5x, e0_5a, e0_5c) => ⟨[(5, .slice e0_5a (List.length e0_5x) e0_5c)], [⟨m, #[.pointer (some ⟨m_b_fab, 0, none⟩), .pointer (some ⟨m_b_trace, 0, none⟩), .int .i64 mc.c.nodes, .int .i64 mc.c.lines, .int .i64 mc.c.words, .int .i64 mc.c.sets, .int .i64 mc.c.ways, .int .i64 mc.c.out, .int .i64 mc.c.inn, .slice m_a_c_init (List.length mc.c.init) m_c_c_init, .slice m_a_nodes (List.length m_r_nodes) m_c_nodes], 70⟩], [(ArrA e0_5a e0_5c e0_5x), (FabA m_b_fab mc.fab), (TraceA m_b_trace mc.trace), (ImmA m_a_c_init m_c_c_init mc.c.init), (ArrA m_a_nodes m_c_nodes m_r_nodes), (StA mc.nodes m_r_nodes)]⟩) (fun (e0_5x, e0_5a, e0_5c) => wcopS_j0 e0_5x = some y) ?_ ?_
 · rintro ⟨e0_5x, e0_5a, e0_5c⟩ H
   replace H : wcopS_j0 e0_5x = some y := H
   rw [wcopS_j0] at H
   exact xrY (someE H) [] [] [0] [0,0,0,0,0,0] (e0_5a, e0_5c)
 · intro N0 hN0
   refine bindG H fun y2_1 hy2_1 H => ?_
   refine xc [] [0] [0,0,0,0,0] (mconfF m m_b_fab m_b_trace m_a_c_init m_c_c_init m_a_nodes m_c_nodes m_r_nodes hy2_1) fun ⟨t2_1_a0, t2_1_c0⟩ => ?_
   refine xg [] [] [] (gh_nil (α := Int) none) fun _ => ?_
   refine xl [] (ι := List Int × Int × Option Addr × Nat) (fun (v1_5x, v1_12, v1_5a, v1_5c) => ⟨[(0, .pointer (some ⟨m, 0, none⟩)), (1, .int .i64 line), (5, .slice v1_5a (List.length v1_5x) v1_5c), (11, .int .i64 y2_1.nodes), (12, .int .i64 v1_12)], [⟨m, #[.pointer (some ⟨m_b_fab, 0, none⟩), .pointer (some ⟨m_b_trace, 0, none⟩), .int .i64 mc.c.nodes, .int .i64 mc.c.lines, .int .i64 mc.c.words, .int .i64 mc.c.sets, .int .i64 mc.c.ways, .int .i64 mc.c.out, .int .i64 mc.c.inn, .slice m_a_c_init (List.length mc.c.init) m_c_c_init, .slice m_a_nodes (List.length m_r_nodes) m_c_nodes], 70⟩], [(ArrA v1_5a v1_5c v1_5x), (FabA m_b_fab mc.fab), (TraceA m_b_trace mc.trace), (ImmA m_a_c_init m_c_c_init mc.c.init), (ArrA m_a_nodes m_c_nodes m_r_nodes), (StA mc.nodes m_r_nodes)]⟩) (fun m1 (v1_5x, v1_12, v1_5a, v1_5c) => wcopS_l1 y2_1 mc line (wcopS_j0) m1 v1_5x v1_12 = some y) [0] [0,1,1,1,1,1] ((mc.c.nodes.toNat + 1)) (([] : List Int), (0 : Int), none, 0) H ?_
   rintro N1 (_ | m1) ⟨v1_5x, v1_12, v1_5a, v1_5c⟩ H hN1
   · exact (noneE H).elim
   replace H : wcopS_l1 y2_1 mc line (wcopS_j0) (m1 + 1) v1_5x v1_12 = some y := H
   rw [wcopS_l1] at H
   refine xs [] H ?_ ?_
   · intro H
     refine bindG H fun y5_2 hy5_2 H => ?_
     refine xc [1] [0] [1,1,1,1,1] (mnodeF m m_b_fab m_b_trace m_a_c_init m_c_c_init m_a_nodes m_c_nodes m_r_nodes hy5_2) fun _ => ?_
     refine optG H (fun hk5_2 H => ?_) fun k5_2 hk5_2 H => ?_
     · refine xw [300] 18 (v := (nodeV m_r_nodes y5_2)) (v' := .pointer none) (by rw [hk5_2]; rfl) ?_
       exact (noneE H).elim
     · refine xw [300] 18 (v := (nodeV m_r_nodes y5_2)) (v' := .pointer (some ⟨(nthT m_r_nodes k5_2).b, 0, none⟩)) (by rw [hk5_2]; rfl) ?_
       refine xk [] [4] (st_len mc.nodes m_r_nodes) fun hl5_5_1 => ?_
       refine chkG H fun q5_5_1 H => ?_
       refine xg [] [] [4] (gh_sfoc mc.nodes m_r_nodes k5_2 (nthT m_r_nodes k5_2) rfl (rngB hl5_5_1 (rngE hl5_5_1 q5_5_1))) fun _ => ?_
       refine xg [] [] [0] (gh_open (NodeO (nthT m_r_nodes k5_2).b (nthS mc.nodes k5_2))) fun ⟨b_cache1, b_proc2, a_c_init3, c_c_init4, b_home5, a_deal_data6, c_deal_data7⟩ => ?_
       refine xg [0] [] [0] (gh_open (CacheO b_cache1 ((nthS mc.nodes k5_2).cache))) fun ⟨a_l8, c_l9⟩ => ?_
       refine bindG H fun y5_7 hy5_7 H => ?_
       refine xc [] [0] [0] (cfindF b_cache1 a_l8 c_l9 hy5_7) fun ⟨t5_7_a0, t5_7_c0⟩ => ?_
       refine xn [] fun b5_11 => ?_
       refine xs [0] H ?_ ?_
       · intro H
         refine xg [1,1,1] [1] [1] (gh_shut (CacheO b_cache1 ((nthS mc.nodes k5_2).cache)) (a_l8, c_l9)) fun _ => ?_
         refine xg [] [1] [0,1,1,1,1] (gh_shut (NodeO (nthT m_r_nodes k5_2).b (nthS mc.nodes k5_2)) (b_cache1, b_proc2, a_c_init3, c_c_init4, b_home5, a_deal_data6, c_deal_data7)) fun _ => ?_
         refine xg [] [] [0,1] (gh_sunfs mc.nodes m_r_nodes k5_2 (nthT m_r_nodes k5_2) rfl (rngB hl5_5_1 (rngE hl5_5_1 q5_5_1))) fun _ => ?_
         refine bindG H fun y6_4 hy6_4 H => ?_
         refine xc [] [1] [2,2,2,2,0] (wisF m m_b_fab m_b_trace m_a_c_init m_c_c_init m_a_nodes m_c_nodes m_r_nodes hy6_4) fun _ => ?_
         refine xs [1] H ?_ ?_
         · intro H
           refine xn [1] fun b7_2 => ?_
           refine xg [] [0] [7] (gh_one b7_2 3 (v1_12 : Int) ()) fun _ => ?_
           refine chkG H fun q7_3_1 H => ?_
           refine letG H fun l7_3 hl7_3 H => ?_
           refine xa [] [7,0] (a := v1_5a) (l := v1_5x) (zs := l7_3) (cap := v1_5c) (rA (some ⟨b7_2, 0, none⟩) 1 ([v1_12])) hl7_3 (hl7_3 ▸ q7_3_1) fun ⟨a7_3, c7_3⟩ => ?_
           refine chkG H fun q8_0_1 H => ?_
           refine xd [0] (ap q8_0_1 an) ?_
           exact xe [] _ [0] [0,1,1,1,1,1] (hN1 _ (l7_3, v1_12 + (1 : Int), a7_3, c7_3) (Nat.lt_succ_self _) H)
         · intro H
           refine chkG H fun q8_0_2 H => ?_
           refine xd [0,0] (ap q8_0_2 an) ?_
           exact xe [] _ [0] [6,0,0,0,0,0] (hN1 _ (v1_5x, v1_12 + (1 : Int), v1_5a, v1_5c) (Nat.lt_succ_self _) H)
       · intro H
         refine chkG H fun q8_0_3 H => ?_
         refine xd [0,0,0,0,0,0] (ap q8_0_3 an) ?_
         refine xg [] [1] [1] (gh_shut (CacheO b_cache1 ((nthS mc.nodes k5_2).cache)) (a_l8, c_l9)) fun _ => ?_
         refine xg [] [1] [0,1,1,1,1] (gh_shut (NodeO (nthT m_r_nodes k5_2).b (nthS mc.nodes k5_2)) (b_cache1, b_proc2, a_c_init3, c_c_init4, b_home5, a_deal_data6, c_deal_data7)) fun _ => ?_
         refine xg [] [] [0,1] (gh_sunfs mc.nodes m_r_nodes k5_2 (nthT m_r_nodes k5_2) rfl (rngB hl5_5_1 (rngE hl5_5_1 q5_5_1))) fun _ => ?_
         exact xe [] _ [1] [6,2,2,2,2,0] (hN1 _ (v1_5x, v1_12 + (1 : Int), v1_5a, v1_5c) (Nat.lt_succ_self _) H)
   · intro H
     exact xe [0] _ [0] [0,0,0,0,0,0] (hN0 (v1_5x, v1_5a, v1_5c) H)
def wrowS (mc : MachS) (line : Int) : Option (RowS) :=
 (mconfS mc).bind fun y1_2 => (phomeS y1_2 line).bind fun y1_4 => (mnodeS mc y1_4).bind fun y1_5 => (optM y1_5 (fun k1_5 => chk (0 ≤ k1_5 ∧ k1_5 < ((List.length mc.nodes : Nat) : Int)) ((nrowS (nthS mc.nodes k1_5) line).bind fun y1_7 => some y1_7.1)) (none))
set_option maxRecDepth 100000 in
set_option maxHeartbeats 4000000 in
theorem wrowF {mc : MachS} {line : Int} (m : Nat) (m_b_fab : Nat) (m_b_trace : Nat) (m_a_c_init : Option Addr) (m_c_c_init : Nat) (m_a_nodes : Option Addr) (m_c_nodes : Nat) (m_r_nodes : List PtrR) {y : RowS} (H : wrowS mc line = some y) : FnY Tryz.prog 46 [.pointer (some ⟨m, 0, none⟩), .int .i64 line] ⟨[⟨m, #[.pointer (some ⟨m_b_fab, 0, none⟩), .pointer (some ⟨m_b_trace, 0, none⟩), .int .i64 mc.c.nodes, .int .i64 mc.c.lines, .int .i64 mc.c.words, .int .i64 mc.c.sets, .int .i64 mc.c.ways, .int .i64 mc.c.out, .int .i64 mc.c.inn, .slice m_a_c_init (List.length mc.c.init) m_c_c_init, .slice m_a_nodes (List.length m_r_nodes) m_c_nodes], 70⟩], [(FabA m_b_fab mc.fab), (TraceA m_b_trace mc.trace), (ImmA m_a_c_init m_c_c_init mc.c.init), (ArrA m_a_nodes m_c_nodes m_r_nodes), (StA mc.nodes m_r_nodes)]⟩ (Z := Option Addr × Nat) (fun y (za0, zc0) => .agg #[.int .i64 y.state, .int .i64 y.head, .slice za0 (List.length y.data) zc0]) (fun y (za0, zc0) => ⟨[⟨m, #[.pointer (some ⟨m_b_fab, 0, none⟩), .pointer (some ⟨m_b_trace, 0, none⟩), .int .i64 mc.c.nodes, .int .i64 mc.c.lines, .int .i64 mc.c.words, .int .i64 mc.c.sets, .int .i64 mc.c.ways, .int .i64 mc.c.out, .int .i64 mc.c.inn, .slice m_a_c_init (List.length mc.c.init) m_c_c_init, .slice m_a_nodes (List.length m_r_nodes) m_c_nodes], 70⟩], [(ArrA za0 zc0 y.data), (FabA m_b_fab mc.fab), (TraceA m_b_trace mc.trace), (ImmA m_a_c_init m_c_c_init mc.c.init), (ArrA m_a_nodes m_c_nodes m_r_nodes), (StA mc.nodes m_r_nodes)]⟩) y := by
 unfold wrowS at H
 refine xfY Tryz.func46 fun W0 F => ?_
 refine xn [] fun b0_0 => ?_
 refine bindG H fun y1_2 hy1_2 H => ?_
 refine xc [] [1] [0,0,0,0,0] (mconfF m m_b_fab m_b_trace m_a_c_init m_c_c_init m_a_nodes m_c_nodes m_r_nodes hy1_2) fun ⟨t1_2_a0, t1_2_c0⟩ => ?_
 refine bindG H fun y1_4 hy1_4 H => ?_
 refine xc [] [] [] (phomeF t1_2_a0 t1_2_c0 hy1_4) fun _ => ?_
 refine bindG H fun y1_5 hy1_5 H => ?_
 refine xc [] [0] [1,1,1,1,1] (mnodeF m m_b_fab m_b_trace m_a_c_init m_c_c_init m_a_nodes m_c_nodes m_r_nodes hy1_5) fun _ => ?_
 refine optG H (fun hk1_5 H => ?_) fun k1_5 hk1_5 H => ?_
 · refine xw [300] 13 (v := (nodeV m_r_nodes y1_5)) (v' := .pointer none) (by rw [hk1_5]; rfl) ?_
   exact (noneE H).elim
 · refine xw [300] 13 (v := (nodeV m_r_nodes y1_5)) (v' := .pointer (some ⟨(nthT m_r_nodes k1_5).b, 0, none⟩)) (by rw [hk1_5]; rfl) ?_
   refine xk [] [4] (st_len mc.nodes m_r_nodes) fun hl1_7_1 => ?_
   refine chkG H fun q1_7_1 H => ?_
   refine xg [] [] [4] (gh_sfoc mc.nodes m_r_nodes k1_5 (nthT m_r_nodes k1_5) rfl (rngB hl1_7_1 (rngE hl1_7_1 q1_7_1))) fun _ => ?_
   refine xg [] [] [0] (gh_open (NodeO (nthT m_r_nodes k1_5).b (nthS mc.nodes k1_5))) fun ⟨b_cache1, b_proc2, a_c_init3, c_c_init4, b_home5, a_deal_data6, c_deal_data7⟩ => ?_
   refine bindG H fun y1_7 hy1_7 H => ?_
   refine xc [] [0] [0,0,0,0,0] (nrowF (nthT m_r_nodes k1_5).b b_cache1 b_proc2 a_c_init3 c_c_init4 b_home5 a_deal_data6 c_deal_data7 hy1_7) fun ⟨t1_7_a0, t1_7_c0⟩ => ?_
   refine xn [] fun b1_11 => ?_
   refine xg [0,0,3] [1] [1,1,1,1,1] (gh_shut (NodeO (nthT m_r_nodes k1_5).b (nthS mc.nodes k1_5)) (b_cache1, b_proc2, a_c_init3, c_c_init4, b_home5, a_deal_data6, c_deal_data7)) fun _ => ?_
   refine xg [] [] [0,1] (gh_sunfs mc.nodes m_r_nodes k1_5 (nthT m_r_nodes k1_5) rfl (rngB hl1_7_1 (rngE hl1_7_1 q1_7_1))) fun _ => ?_
   exact xrY (someE H) [] [2] [1] [1,1,1,1,1,0] (t1_7_a0, t1_7_c0)
def wfindS (mc : MachS) (node : Int) (line : Int) : Option (Ent × Bool) :=
 (mnodeS mc node).bind fun y1_2 => (optM y1_2 (fun k1_2 => chk (0 ≤ k1_2 ∧ k1_2 < ((List.length mc.nodes : Nat) : Int)) ((cfindS ((nthS mc.nodes k1_2).cache) line).bind fun y4_5 => some (y4_5.1, y4_5.2))) (some ((⟨(0 : Int), (0 : Int), (0 : Int), (0 : Int), false, ([] : List Int)⟩ : Ent), false)))
set_option maxRecDepth 100000 in
set_option maxHeartbeats 4000000 in
theorem wfindF {mc : MachS} {node : Int} {line : Int} (m : Nat) (m_b_fab : Nat) (m_b_trace : Nat) (m_a_c_init : Option Addr) (m_c_c_init : Nat) (m_a_nodes : Option Addr) (m_c_nodes : Nat) (m_r_nodes : List PtrR) {y : Ent × Bool} (H : wfindS mc node line = some y) : FnY Tryz.prog 47 [.pointer (some ⟨m, 0, none⟩), .int .i64 node, .int .i64 line] ⟨[⟨m, #[.pointer (some ⟨m_b_fab, 0, none⟩), .pointer (some ⟨m_b_trace, 0, none⟩), .int .i64 mc.c.nodes, .int .i64 mc.c.lines, .int .i64 mc.c.words, .int .i64 mc.c.sets, .int .i64 mc.c.ways, .int .i64 mc.c.out, .int .i64 mc.c.inn, .slice m_a_c_init (List.length mc.c.init) m_c_c_init, .slice m_a_nodes (List.length m_r_nodes) m_c_nodes], 70⟩], [(FabA m_b_fab mc.fab), (TraceA m_b_trace mc.trace), (ImmA m_a_c_init m_c_c_init mc.c.init), (ArrA m_a_nodes m_c_nodes m_r_nodes), (StA mc.nodes m_r_nodes)]⟩ (Z := Option Addr × Nat) (fun y (za0, zc0) => .tuple #[.agg #[.int .i64 y.1.fwd, .int .i64 y.1.back, .int .i64 y.1.line, .int .i64 y.1.used, .bool y.1.dirty, .slice za0 (List.length y.1.data) zc0], .bool y.2]) (fun y (za0, zc0) => ⟨[⟨m, #[.pointer (some ⟨m_b_fab, 0, none⟩), .pointer (some ⟨m_b_trace, 0, none⟩), .int .i64 mc.c.nodes, .int .i64 mc.c.lines, .int .i64 mc.c.words, .int .i64 mc.c.sets, .int .i64 mc.c.ways, .int .i64 mc.c.out, .int .i64 mc.c.inn, .slice m_a_c_init (List.length mc.c.init) m_c_c_init, .slice m_a_nodes (List.length m_r_nodes) m_c_nodes], 70⟩], [(ArrA za0 zc0 y.1.data), (FabA m_b_fab mc.fab), (TraceA m_b_trace mc.trace), (ImmA m_a_c_init m_c_c_init mc.c.init), (ArrA m_a_nodes m_c_nodes m_r_nodes), (StA mc.nodes m_r_nodes)]⟩) y := by
 unfold wfindS at H
 refine xfY Tryz.func47 fun W0 F => ?_
 refine xn [] fun b0_0 => ?_
 refine bindG H fun y1_2 hy1_2 H => ?_
 refine xc [] [1] [0,0,0,0,0] (mnodeF m m_b_fab m_b_trace m_a_c_init m_c_c_init m_a_nodes m_c_nodes m_r_nodes hy1_2) fun _ => ?_
 refine optG H (fun hk1_2 H => ?_) fun k1_2 hk1_2 H => ?_
 · refine xw [300] 11 (v := (nodeV m_r_nodes y1_2)) (v' := .pointer none) (by rw [hk1_2]; rfl) ?_
   refine xg [1,1] [] [] (gh_nil (α := Int) none) fun _ => ?_
   exact xrY (someE H) [] [1] [0] [0,0,0,0,0,0] (none, 0)
 · refine xw [300] 11 (v := (nodeV m_r_nodes y1_2)) (v' := .pointer (some ⟨(nthT m_r_nodes k1_2).b, 0, none⟩)) (by rw [hk1_2]; rfl) ?_
   refine xk [0] [4] (st_len mc.nodes m_r_nodes) fun hl4_3_1 => ?_
   refine chkG H fun q4_3_1 H => ?_
   refine xg [] [] [4] (gh_sfoc mc.nodes m_r_nodes k1_2 (nthT m_r_nodes k1_2) rfl (rngB hl4_3_1 (rngE hl4_3_1 q4_3_1))) fun _ => ?_
   refine xg [] [] [0] (gh_open (NodeO (nthT m_r_nodes k1_2).b (nthS mc.nodes k1_2))) fun ⟨b_cache1, b_proc2, a_c_init3, c_c_init4, b_home5, a_deal_data6, c_deal_data7⟩ => ?_
   refine xg [0] [] [0] (gh_open (CacheO b_cache1 ((nthS mc.nodes k1_2).cache))) fun ⟨a_l8, c_l9⟩ => ?_
   refine bindG H fun y4_5 hy4_5 H => ?_
   refine xc [] [0] [0] (cfindF b_cache1 a_l8 c_l9 hy4_5) fun ⟨t4_5_a0, t4_5_c0⟩ => ?_
   refine xg [3] [0] [1] (gh_shut (CacheO b_cache1 ((nthS mc.nodes k1_2).cache)) (a_l8, c_l9)) fun _ => ?_
   refine xg [] [0] [0,1,1,1,1] (gh_shut (NodeO (nthT m_r_nodes k1_2).b (nthS mc.nodes k1_2)) (b_cache1, b_proc2, a_c_init3, c_c_init4, b_home5, a_deal_data6, c_deal_data7)) fun _ => ?_
   refine xg [] [] [0,1] (gh_sunfs mc.nodes m_r_nodes k1_2 (nthT m_r_nodes k1_2) rfl (rngB hl4_3_1 (rngE hl4_3_1 q4_3_1))) fun _ => ?_
   exact xrY (someE H) [] [1] [0] [1,1,1,1,1,0] (t4_5_a0, t4_5_c0)
def wwalkS_j0 (e0_6x : List Int) : Option (List Int × Bool) :=
 some (e0_6x, true)
def wwalkS_l1 (mc : MachS) (line : Int) (k0 : (List Int) → Option (List Int × Bool)) : Nat → (List Int) → Int → Option (List Int × Bool)
 | 0, _, _ => none
 | m + 1, v1_6x, v1_7 => (bif !(decide (v1_7 = ((-1) : Int))) then (wfindS mc v1_7 line).bind fun y6_3 => (bif !y6_3.2 then some (([] : List Int), false) else (scontS v1_6x v1_7).bind fun y7_5 => (bif y7_5 then some (([] : List Int), false) else chk ((v1_6x ++ ([v1_7])).length ≤ 1099511627776) (letP (v1_6x ++ ([v1_7])) fun l9_3 => (wwalkS_l1 mc line k0 m) l9_3 y6_3.1.fwd))) else k0 v1_6x)
def wwalkS (mc : MachS) (line : Int) : Option (List Int × Bool) :=
 (wisS mc line).bind fun y1_2 => (bif !y1_2 then some (([] : List Int), false) else (wrowS mc line).bind fun y4_2 => wwalkS_l1 mc line wwalkS_j0 (List.length mc.nodes + 2) ([] : List Int) y4_2.head)
set_option maxRecDepth 100000 in
set_option maxHeartbeats 4000000 in
theorem wwalkF {mc : MachS} {line : Int} (m : Nat) (m_b_fab : Nat) (m_b_trace : Nat) (m_a_c_init : Option Addr) (m_c_c_init : Nat) (m_a_nodes : Option Addr) (m_c_nodes : Nat) (m_r_nodes : List PtrR) {y : List Int × Bool} (H : wwalkS mc line = some y) : FnY Tryz.prog 12 [.pointer (some ⟨m, 0, none⟩), .int .i64 line] ⟨[⟨m, #[.pointer (some ⟨m_b_fab, 0, none⟩), .pointer (some ⟨m_b_trace, 0, none⟩), .int .i64 mc.c.nodes, .int .i64 mc.c.lines, .int .i64 mc.c.words, .int .i64 mc.c.sets, .int .i64 mc.c.ways, .int .i64 mc.c.out, .int .i64 mc.c.inn, .slice m_a_c_init (List.length mc.c.init) m_c_c_init, .slice m_a_nodes (List.length m_r_nodes) m_c_nodes], 70⟩], [(FabA m_b_fab mc.fab), (TraceA m_b_trace mc.trace), (ImmA m_a_c_init m_c_c_init mc.c.init), (ArrA m_a_nodes m_c_nodes m_r_nodes), (StA mc.nodes m_r_nodes)]⟩ (Z := Option Addr × Nat) (fun y (za0, zc0) => .tuple #[.slice za0 (List.length y.1) zc0, .bool y.2]) (fun y (za0, zc0) => ⟨[⟨m, #[.pointer (some ⟨m_b_fab, 0, none⟩), .pointer (some ⟨m_b_trace, 0, none⟩), .int .i64 mc.c.nodes, .int .i64 mc.c.lines, .int .i64 mc.c.words, .int .i64 mc.c.sets, .int .i64 mc.c.ways, .int .i64 mc.c.out, .int .i64 mc.c.inn, .slice m_a_c_init (List.length mc.c.init) m_c_c_init, .slice m_a_nodes (List.length m_r_nodes) m_c_nodes], 70⟩], [(ArrA za0 zc0 y.1), (FabA m_b_fab mc.fab), (TraceA m_b_trace mc.trace), (ImmA m_a_c_init m_c_c_init mc.c.init), (ArrA m_a_nodes m_c_nodes m_r_nodes), (StA mc.nodes m_r_nodes)]⟩) y := by
 unfold wwalkS at H
 refine xfY Tryz.func12 fun W0 F => ?_
 refine bindG H fun y1_2 hy1_2 H => ?_
 refine xc [] [0] [0,0,0,0,0] (wisF m m_b_fab m_b_trace m_a_c_init m_c_c_init m_a_nodes m_c_nodes m_r_nodes hy1_2) fun _ => ?_
 refine xs [] H ?_ ?_
 · intro H
   refine xg [1] [] [] (gh_nil (α := Int) none) fun _ => ?_
   exact xrY (someE H) [] [] [0] [0,0,0,0,0,0] (none, 0)
 · intro H
   refine xj [0,101] (ι := List Int × Option Addr × Nat) (fun (e0_6x, e0_6a, e0_6c) => ⟨[(6, .slice e0_6a (List.length e0_6x) e0_6c)], [⟨m, #[.pointer (some ⟨m_b_fab, 0, none⟩), .pointer (some ⟨m_b_trace, 0, none⟩), .int .i64 mc.c.nodes, .int .i64 mc.c.lines, .int .i64 mc.c.words, .int .i64 mc.c.sets, .int .i64 mc.c.ways, .int .i64 mc.c.out, .int .i64 mc.c.inn, .slice m_a_c_init (List.length mc.c.init) m_c_c_init, .slice m_a_nodes (List.length m_r_nodes) m_c_nodes], 70⟩], [(ArrA e0_6a e0_6c e0_6x), (FabA m_b_fab mc.fab), (TraceA m_b_trace mc.trace), (ImmA m_a_c_init m_c_c_init mc.c.init), (ArrA m_a_nodes m_c_nodes m_r_nodes), (StA mc.nodes m_r_nodes)]⟩) (fun (e0_6x, e0_6a, e0_6c) => wwalkS_j0 e0_6x = some y) ?_ ?_
   · rintro ⟨e0_6x, e0_6a, e0_6c⟩ H
     replace H : wwalkS_j0 e0_6x = some y := H
     rw [wwalkS_j0] at H
     exact xrY (someE H) [] [] [0] [0,0,0,0,0,0] (e0_6a, e0_6c)
   · intro N0 hN0
     refine bindG H fun y4_2 hy4_2 H => ?_
     refine xc [] [0] [0,0,0,0,0] (wrowF m m_b_fab m_b_trace m_a_c_init m_c_c_init m_a_nodes m_c_nodes m_r_nodes hy4_2) fun ⟨t4_2_a0, t4_2_c0⟩ => ?_
     refine xg [] [] [] (gh_nil (α := Int) none) fun _ => ?_
     refine xl [] (ι := List Int × Int × Option Addr × Nat) (fun (v1_6x, v1_7, v1_6a, v1_6c) => ⟨[(0, .pointer (some ⟨m, 0, none⟩)), (1, .int .i64 line), (6, .slice v1_6a (List.length v1_6x) v1_6c), (7, .int .i64 v1_7)], [⟨m, #[.pointer (some ⟨m_b_fab, 0, none⟩), .pointer (some ⟨m_b_trace, 0, none⟩), .int .i64 mc.c.nodes, .int .i64 mc.c.lines, .int .i64 mc.c.words, .int .i64 mc.c.sets, .int .i64 mc.c.ways, .int .i64 mc.c.out, .int .i64 mc.c.inn, .slice m_a_c_init (List.length mc.c.init) m_c_c_init, .slice m_a_nodes (List.length m_r_nodes) m_c_nodes], 70⟩], [(ArrA v1_6a v1_6c v1_6x), (FabA m_b_fab mc.fab), (TraceA m_b_trace mc.trace), (ImmA m_a_c_init m_c_c_init mc.c.init), (ArrA m_a_nodes m_c_nodes m_r_nodes), (StA mc.nodes m_r_nodes)]⟩) (fun m1 (v1_6x, v1_7, v1_6a, v1_6c) => wwalkS_l1 mc line (wwalkS_j0) m1 v1_6x v1_7 = some y) [0] [0,1,1,1,1,1] ((List.length mc.nodes + 2)) (([] : List Int), y4_2.head, none, 0) H ?_
     rintro N1 (_ | m1) ⟨v1_6x, v1_7, v1_6a, v1_6c⟩ H hN1
     · exact (noneE H).elim
     replace H : wwalkS_l1 mc line (wwalkS_j0) (m1 + 1) v1_6x v1_7 = some y := H
     rw [wwalkS_l1] at H
     refine xs [] H ?_ ?_
     · intro H
       refine bindG H fun y6_3 hy6_3 H => ?_
       refine xc [1] [0] [1,1,1,1,1] (wfindF m m_b_fab m_b_trace m_a_c_init m_c_c_init m_a_nodes m_c_nodes m_r_nodes hy6_3) fun ⟨t6_3_a0, t6_3_c0⟩ => ?_
       refine xn [] fun b6_7 => ?_
       refine xs [0] H ?_ ?_
       · intro H
         refine xg [0,0,0,1,1] [] [] (gh_nil (α := Int) none) fun _ => ?_
         exact xrY (someE H) [] [] [1] [0,1,1,1,1,1] (none, 0)
       · intro H
         refine bindG H fun y7_5 hy7_5 H => ?_
         refine xc [1,1,1] [] [6] (scontF v1_6a v1_6c (rA v1_6a v1_6c v1_6x) hy7_5) fun _ => ?_
         refine xs [0] H ?_ ?_
         · intro H
           refine xg [1] [] [] (gh_nil (α := Int) none) fun _ => ?_
           exact xrY (someE H) [] [] [1] [0,2,2,2,2,2] (none, 0)
         · intro H
           refine xn [0] fun b9_2 => ?_
           refine xg [] [0] [7] (gh_one b9_2 3 (v1_7 : Int) ()) fun _ => ?_
           refine chkG H fun q9_3_1 H => ?_
           refine letG H fun l9_3 hl9_3 H => ?_
           refine xa [] [1,0] (a := v1_6a) (l := v1_6x) (zs := l9_3) (cap := v1_6c) (rA (some ⟨b9_2, 0, none⟩) 1 ([v1_7])) hl9_3 (hl9_3 ▸ q9_3_1) fun ⟨a9_3, c9_3⟩ => ?_
           exact xe [0] _ [1] [0,2,2,2,2,2] (hN1 _ (l9_3, y6_3.1.fwd, a9_3, c9_3) (Nat.lt_succ_self _) H)
     · intro H
       exact xe [0] _ [0] [0,0,0,0,0,0] (hN0 (v1_6x, v1_6a, v1_6c) H)
def wownS (mc : MachS) (line : Int) : Option (Int) :=
 (wisS mc line).bind fun y1_2 => (bif !y1_2 then some ((-1) : Int) else (mconfS mc).bind fun y3_2 => (phomeS y3_2 line).bind fun y3_4 => (mnodeS mc y3_4).bind fun y3_5 => (optM y3_5 (fun k3_5 => chk (0 ≤ k3_5 ∧ k3_5 < ((List.length mc.nodes : Nat) : Int)) ((nownerS (nthS mc.nodes k3_5) line).bind fun y3_7 => some y3_7)) (none)))
set_option maxRecDepth 100000 in
set_option maxHeartbeats 4000000 in
theorem wownF {mc : MachS} {line : Int} (m : Nat) (m_b_fab : Nat) (m_b_trace : Nat) (m_a_c_init : Option Addr) (m_c_c_init : Nat) (m_a_nodes : Option Addr) (m_c_nodes : Nat) (m_r_nodes : List PtrR) {y : Int} (H : wownS mc line = some y) : FnY Tryz.prog 57 [.pointer (some ⟨m, 0, none⟩), .int .i64 line] ⟨[⟨m, #[.pointer (some ⟨m_b_fab, 0, none⟩), .pointer (some ⟨m_b_trace, 0, none⟩), .int .i64 mc.c.nodes, .int .i64 mc.c.lines, .int .i64 mc.c.words, .int .i64 mc.c.sets, .int .i64 mc.c.ways, .int .i64 mc.c.out, .int .i64 mc.c.inn, .slice m_a_c_init (List.length mc.c.init) m_c_c_init, .slice m_a_nodes (List.length m_r_nodes) m_c_nodes], 70⟩], [(FabA m_b_fab mc.fab), (TraceA m_b_trace mc.trace), (ImmA m_a_c_init m_c_c_init mc.c.init), (ArrA m_a_nodes m_c_nodes m_r_nodes), (StA mc.nodes m_r_nodes)]⟩ (Z := Unit) (fun y _ => .int .i64 y) (fun y _ => ⟨[⟨m, #[.pointer (some ⟨m_b_fab, 0, none⟩), .pointer (some ⟨m_b_trace, 0, none⟩), .int .i64 mc.c.nodes, .int .i64 mc.c.lines, .int .i64 mc.c.words, .int .i64 mc.c.sets, .int .i64 mc.c.ways, .int .i64 mc.c.out, .int .i64 mc.c.inn, .slice m_a_c_init (List.length mc.c.init) m_c_c_init, .slice m_a_nodes (List.length m_r_nodes) m_c_nodes], 70⟩], [(FabA m_b_fab mc.fab), (TraceA m_b_trace mc.trace), (ImmA m_a_c_init m_c_c_init mc.c.init), (ArrA m_a_nodes m_c_nodes m_r_nodes), (StA mc.nodes m_r_nodes)]⟩) y := by
 unfold wownS at H
 refine xfY Tryz.func57 fun W0 F => ?_
 refine bindG H fun y1_2 hy1_2 H => ?_
 refine xc [] [0] [0,0,0,0,0] (wisF m m_b_fab m_b_trace m_a_c_init m_c_c_init m_a_nodes m_c_nodes m_r_nodes hy1_2) fun _ => ?_
 refine xs [] H ?_ ?_
 · intro H
   exact xrY (someE H) [1] [] [0] [0,0,0,0,0] ()
 · intro H
   refine bindG H fun y3_2 hy3_2 H => ?_
   refine xc [0] [0] [0,0,0,0,0] (mconfF m m_b_fab m_b_trace m_a_c_init m_c_c_init m_a_nodes m_c_nodes m_r_nodes hy3_2) fun ⟨t3_2_a0, t3_2_c0⟩ => ?_
   refine bindG H fun y3_4 hy3_4 H => ?_
   refine xc [] [] [] (phomeF t3_2_a0 t3_2_c0 hy3_4) fun _ => ?_
   refine bindG H fun y3_5 hy3_5 H => ?_
   refine xc [] [0] [1,1,1,1,1] (mnodeF m m_b_fab m_b_trace m_a_c_init m_c_c_init m_a_nodes m_c_nodes m_r_nodes hy3_5) fun _ => ?_
   refine optG H (fun hk3_5 H => ?_) fun k3_5 hk3_5 H => ?_
   · refine xw [300] 14 (v := (nodeV m_r_nodes y3_5)) (v' := .pointer none) (by rw [hk3_5]; rfl) ?_
     exact (noneE H).elim
   · refine xw [300] 14 (v := (nodeV m_r_nodes y3_5)) (v' := .pointer (some ⟨(nthT m_r_nodes k3_5).b, 0, none⟩)) (by rw [hk3_5]; rfl) ?_
     refine xk [] [4] (st_len mc.nodes m_r_nodes) fun hl3_7_1 => ?_
     refine chkG H fun q3_7_1 H => ?_
     refine xg [] [] [4] (gh_sfoc mc.nodes m_r_nodes k3_5 (nthT m_r_nodes k3_5) rfl (rngB hl3_7_1 (rngE hl3_7_1 q3_7_1))) fun _ => ?_
     refine xg [] [] [0] (gh_open (NodeO (nthT m_r_nodes k3_5).b (nthS mc.nodes k3_5))) fun ⟨b_cache1, b_proc2, a_c_init3, c_c_init4, b_home5, a_deal_data6, c_deal_data7⟩ => ?_
     refine bindG H fun y3_7 hy3_7 H => ?_
     refine xc [] [0] [0,0,0,0,0] (nownerF (nthT m_r_nodes k3_5).b b_cache1 b_proc2 a_c_init3 c_c_init4 b_home5 a_deal_data6 c_deal_data7 hy3_7) fun _ => ?_
     refine xg [] [0] [0,0,0,0,0] (gh_shut (NodeO (nthT m_r_nodes k3_5).b (nthS mc.nodes k3_5)) (b_cache1, b_proc2, a_c_init3, c_c_init4, b_home5, a_deal_data6, c_deal_data7)) fun _ => ?_
     refine xg [] [] [0,0] (gh_sunfs mc.nodes m_r_nodes k3_5 (nthT m_r_nodes k3_5) rfl (rngB hl3_7_1 (rngE hl3_7_1 q3_7_1))) fun _ => ?_
     exact xrY (someE H) [] [] [0] [1,1,1,1,0] ()
def wlistS_j1 (mc : MachS) (line : Int) (e1_7x : List Ent) : Option (Bool) :=
 (wrowS mc line).bind fun y17_2 => (wstateS y17_2 e1_7x).bind fun y17_4 => some y17_4
def wlistS_l2 (y3_2 : List Int × Bool) (mc : MachS) (line : Int) (k1 : (List Ent) → Option (Bool)) : Nat → (List Ent) → Int → Int → Option (Bool)
 | 0, _, _, _ => none
 | m + 1, v2_7x, v2_8, v2_37 => (bif decide (v2_37 < (((List.length y3_2.1) : Nat) : Int)) then chk (0 ≤ v2_37 ∧ v2_37 < ((y3_2.1.length : Nat) : Int)) ((wfindS mc (nth y3_2.1 v2_37) line).bind fun y11_3 => (bif !(decide (y11_3.1.back = v2_8)) then some false else chk ((v2_7x ++ ([y11_3.1])).length ≤ 1099511627776) (letP (v2_7x ++ ([y11_3.1])) fun l15_3 => chk (inR (v2_37 + (1 : Int))) ((wlistS_l2 y3_2 mc line k1 m) l15_3 (nth y3_2.1 v2_37) (v2_37 + (1 : Int)))))) else k1 v2_7x)
def wlistS_j0 (y3_2 : List Int × Bool) (mc : MachS) (line : Int) (e0_34 : Bool) : Option (Bool) :=
 (bif e0_34 then some false else wlistS_l2 y3_2 mc line (wlistS_j1 mc line) (List.length mc.nodes + 2) ([] : List Ent) ((-1) : Int) (0 : Int))
def wlistS (mc : MachS) (line : Int) : Option (Bool) :=
 (wisS mc line).bind fun y1_2 => (bif !y1_2 then some true else (wwalkS mc line).bind fun y3_2 => (bif !y3_2.2 then (wlistS_j0 y3_2 mc line) true else chk ((List.length y3_2.1) ≤ 1099511627776) (letP (isrt y3_2.1) fun y4_5 => (wcopS mc line).bind fun y4_8 => (seqS y4_5 y4_8).bind fun y4_9 => (wlistS_j0 y3_2 mc line) !y4_9)))
set_option maxRecDepth 100000 in
set_option maxHeartbeats 4000000 in
theorem wlistF {mc : MachS} {line : Int} (m : Nat) (m_b_fab : Nat) (m_b_trace : Nat) (m_a_c_init : Option Addr) (m_c_c_init : Nat) (m_a_nodes : Option Addr) (m_c_nodes : Nat) (m_r_nodes : List PtrR) {y : Bool} (H : wlistS mc line = some y) : FnY Tryz.prog 13 [.pointer (some ⟨m, 0, none⟩), .int .i64 line] ⟨[⟨m, #[.pointer (some ⟨m_b_fab, 0, none⟩), .pointer (some ⟨m_b_trace, 0, none⟩), .int .i64 mc.c.nodes, .int .i64 mc.c.lines, .int .i64 mc.c.words, .int .i64 mc.c.sets, .int .i64 mc.c.ways, .int .i64 mc.c.out, .int .i64 mc.c.inn, .slice m_a_c_init (List.length mc.c.init) m_c_c_init, .slice m_a_nodes (List.length m_r_nodes) m_c_nodes], 70⟩], [(FabA m_b_fab mc.fab), (TraceA m_b_trace mc.trace), (ImmA m_a_c_init m_c_c_init mc.c.init), (ArrA m_a_nodes m_c_nodes m_r_nodes), (StA mc.nodes m_r_nodes)]⟩ (Z := Unit) (fun y _ => .bool y) (fun y _ => ⟨[⟨m, #[.pointer (some ⟨m_b_fab, 0, none⟩), .pointer (some ⟨m_b_trace, 0, none⟩), .int .i64 mc.c.nodes, .int .i64 mc.c.lines, .int .i64 mc.c.words, .int .i64 mc.c.sets, .int .i64 mc.c.ways, .int .i64 mc.c.out, .int .i64 mc.c.inn, .slice m_a_c_init (List.length mc.c.init) m_c_c_init, .slice m_a_nodes (List.length m_r_nodes) m_c_nodes], 70⟩], [(FabA m_b_fab mc.fab), (TraceA m_b_trace mc.trace), (ImmA m_a_c_init m_c_c_init mc.c.init), (ArrA m_a_nodes m_c_nodes m_r_nodes), (StA mc.nodes m_r_nodes)]⟩) y := by
 unfold wlistS at H
 refine xfY Tryz.func13 fun W0 F => ?_
 refine bindG H fun y1_2 hy1_2 H => ?_
 refine xc [] [0] [0,0,0,0,0] (wisF m m_b_fab m_b_trace m_a_c_init m_c_c_init m_a_nodes m_c_nodes m_r_nodes hy1_2) fun _ => ?_
 refine xs [] H ?_ ?_
 · intro H
   exact xrY (someE H) [1] [] [0] [0,0,0,0,0] ()
 · intro H
   refine bindG H fun y3_2 hy3_2 H => ?_
   refine xc [0] [0] [0,0,0,0,0] (wwalkF m m_b_fab m_b_trace m_a_c_init m_c_c_init m_a_nodes m_c_nodes m_r_nodes hy3_2) fun ⟨t3_2_a0, t3_2_c0⟩ => ?_
   refine xj [101] (ι := Bool) (fun e0_34 => ⟨[(0, .pointer (some ⟨m, 0, none⟩)), (1, .int .i64 line), (5, .slice t3_2_a0 (List.length y3_2.1) t3_2_c0), (34, .bool e0_34)], [⟨m, #[.pointer (some ⟨m_b_fab, 0, none⟩), .pointer (some ⟨m_b_trace, 0, none⟩), .int .i64 mc.c.nodes, .int .i64 mc.c.lines, .int .i64 mc.c.words, .int .i64 mc.c.sets, .int .i64 mc.c.ways, .int .i64 mc.c.out, .int .i64 mc.c.inn, .slice m_a_c_init (List.length mc.c.init) m_c_c_init, .slice m_a_nodes (List.length m_r_nodes) m_c_nodes], 70⟩], [(ArrA t3_2_a0 t3_2_c0 y3_2.1), (FabA m_b_fab mc.fab), (TraceA m_b_trace mc.trace), (ImmA m_a_c_init m_c_c_init mc.c.init), (ArrA m_a_nodes m_c_nodes m_r_nodes), (StA mc.nodes m_r_nodes)]⟩) (fun e0_34 => wlistS_j0 y3_2 mc line e0_34 = some y) ?_ ?_
   · rintro e0_34 H
     replace H : wlistS_j0 y3_2 mc line e0_34 = some y := H
     rw [wlistS_j0] at H
     refine xs [] H ?_ ?_
     · intro H
       exact xrY (someE H) [1] [] [0] [1,1,1,1,1] ()
     · intro H
       refine xj [0,102] (ι := List Ent × Option Addr × Nat) (fun (e1_7x, e1_7a, e1_7c) => ⟨[(0, .pointer (some ⟨m, 0, none⟩)), (1, .int .i64 line), (7, .slice e1_7a (List.length e1_7x) e1_7c)], [⟨m, #[.pointer (some ⟨m_b_fab, 0, none⟩), .pointer (some ⟨m_b_trace, 0, none⟩), .int .i64 mc.c.nodes, .int .i64 mc.c.lines, .int .i64 mc.c.words, .int .i64 mc.c.sets, .int .i64 mc.c.ways, .int .i64 mc.c.out, .int .i64 mc.c.inn, .slice m_a_c_init (List.length mc.c.init) m_c_c_init, .slice m_a_nodes (List.length m_r_nodes) m_c_nodes], 70⟩], [(ArrA e1_7a e1_7c e1_7x), (FabA m_b_fab mc.fab), (TraceA m_b_trace mc.trace), (ImmA m_a_c_init m_c_c_init mc.c.init), (ArrA m_a_nodes m_c_nodes m_r_nodes), (StA mc.nodes m_r_nodes)]⟩) (fun (e1_7x, e1_7a, e1_7c) => wlistS_j1 mc line e1_7x = some y) ?_ ?_
       · rintro ⟨e1_7x, e1_7a, e1_7c⟩ H
         replace H : wlistS_j1 mc line e1_7x = some y := H
         rw [wlistS_j1] at H
         refine bindG H fun y17_2 hy17_2 H => ?_
         refine xc [] [0] [1,1,1,1,1] (wrowF m m_b_fab m_b_trace m_a_c_init m_c_c_init m_a_nodes m_c_nodes m_r_nodes hy17_2) fun ⟨t17_2_a0, t17_2_c0⟩ => ?_
         refine bindG H fun y17_4 hy17_4 H => ?_
         refine xc [] [] [0,5] (wstateF t17_2_a0 t17_2_c0 e1_7a e1_7c (rA t17_2_a0 t17_2_c0 y17_2.data) (rA e1_7a e1_7c e1_7x) hy17_4) fun _ => ?_
         exact xrY (someE H) [] [] [0] [2,2,2,2,2] ()
       · intro N1 hN1
         refine xg [] [] [] (gh_nil (α := Ent) none) fun _ => ?_
         refine xl [] (ι := List Ent × Int × Int × Option Addr × Nat) (fun (v2_7x, v2_8, v2_37, v2_7a, v2_7c) => ⟨[(0, .pointer (some ⟨m, 0, none⟩)), (1, .int .i64 line), (7, .slice v2_7a (List.length v2_7x) v2_7c), (8, .int .i64 v2_8), (35, .slice t3_2_a0 (List.length y3_2.1) t3_2_c0), (36, .int .i64 (((List.length y3_2.1) : Nat) : Int)), (37, .int .i64 v2_37)], [⟨m, #[.pointer (some ⟨m_b_fab, 0, none⟩), .pointer (some ⟨m_b_trace, 0, none⟩), .int .i64 mc.c.nodes, .int .i64 mc.c.lines, .int .i64 mc.c.words, .int .i64 mc.c.sets, .int .i64 mc.c.ways, .int .i64 mc.c.out, .int .i64 mc.c.inn, .slice m_a_c_init (List.length mc.c.init) m_c_c_init, .slice m_a_nodes (List.length m_r_nodes) m_c_nodes], 70⟩], [(ArrA v2_7a v2_7c v2_7x), (ArrA t3_2_a0 t3_2_c0 y3_2.1), (FabA m_b_fab mc.fab), (TraceA m_b_trace mc.trace), (ImmA m_a_c_init m_c_c_init mc.c.init), (ArrA m_a_nodes m_c_nodes m_r_nodes), (StA mc.nodes m_r_nodes)]⟩) (fun m2 (v2_7x, v2_8, v2_37, v2_7a, v2_7c) => wlistS_l2 y3_2 mc line (wlistS_j1 mc line) m2 v2_7x v2_8 v2_37 = some y) [0] [0,0,0,0,0,0,0] ((List.length mc.nodes + 2)) (([] : List Ent), ((-1) : Int), (0 : Int), none, 0) H ?_
         rintro N2 (_ | m2) ⟨v2_7x, v2_8, v2_37, v2_7a, v2_7c⟩ H hN2
         · exact (noneE H).elim
         replace H : wlistS_l2 y3_2 mc line (wlistS_j1 mc line) (m2 + 1) v2_7x v2_8 v2_37 = some y := H
         rw [wlistS_l2] at H
         refine xs [] H ?_ ?_
         · intro H
           refine chkG H fun q10_0_1 H => ?_
           refine xi [1] 1 (rA t3_2_a0 t3_2_c0 y3_2.1) q10_0_1 fun b1 o1 e1 => ?_
           refine xpl [] 1 (ol_ld (rA t3_2_a0 t3_2_c0 y3_2.1) e1 q10_0_1 0 (fun _ => rfl)) ?_
           refine bindG H fun y11_3 hy11_3 H => ?_
           refine xc [] [0] [2,2,2,2,2] (wfindF m m_b_fab m_b_trace m_a_c_init m_c_c_init m_a_nodes m_c_nodes m_r_nodes hy11_3) fun ⟨t11_3_a0, t11_3_c0⟩ => ?_
           refine xn [] fun b11_7 => ?_
           refine xs [0,0] H ?_ ?_
           · intro H
             exact xrY (someE H) [1] [] [1] [1,1,1,1,1] ()
           · intro H
             refine xn [0,0] fun b15_2 => ?_
             refine xg [] [] [0] (gh_frz t11_3_a0 t11_3_c0 y11_3.1.data) fun _ => ?_
             refine xg [] [] [0] (gh_dup t11_3_a0 t11_3_c0 y11_3.1.data) fun _ => ?_
             refine xg [] [0] [0] (gh_one b15_2 42 y11_3.1 (t11_3_a0, t11_3_c0)) fun _ => ?_
             refine chkG H fun q15_3_1 H => ?_
             refine letG H fun l15_3 hl15_3 H => ?_
             refine xa [] [7,0] (a := v2_7a) (l := v2_7x) (zs := l15_3) (cap := v2_7c) (rA (some ⟨b15_2, 0, none⟩) 1 ([y11_3.1])) hl15_3 (hl15_3 ▸ q15_3_1) fun ⟨a15_3, c15_3⟩ => ?_
             refine chkG H fun q16_0_1 H => ?_
             refine xd [0] (ap q16_0_1 an) ?_
             exact xe [] _ [1] [0,7,2,2,2,2,2] (hN2 _ (l15_3, nth y3_2.1 v2_37, v2_37 + (1 : Int), a15_3, c15_3) (Nat.lt_succ_self _) H)
         · intro H
           exact xe [0] _ [0] [0,1,1,1,1,1] (hN1 (v2_7x, v2_7a, v2_7c) H)
   · intro N0 hN0
     refine xs [] H ?_ ?_
     · intro H
       exact xe [0,0,0,0,0,0,0,0,1] _ [0] [0,0,0,0,0,0] (hN0 (true) H)
     · intro H
       refine xc [1,1] [] [] (valsF t3_2_a0 (List.length y3_2.1) t3_2_c0) fun b4_4 => ?_
       refine chkG H fun q4_5_1 H => ?_
       refine letG H fun y4_5 hy4_5 H => ?_
       refine xc [1] [0] [0] (sortedV b4_4 t3_2_a0 t3_2_c0 y3_2.1 (rA t3_2_a0 t3_2_c0 y3_2.1) q4_5_1 ((srt_is _).trans hy4_5)) fun ⟨t4_5_a, t4_5_c⟩ => ?_
       refine bindG H fun y4_8 hy4_8 H => ?_
       refine xc [1,1,1] [0] [2,2,2,2,2] (wcopF m m_b_fab m_b_trace m_a_c_init m_c_c_init m_a_nodes m_c_nodes m_r_nodes hy4_8) fun ⟨t4_8_a0, t4_8_c0⟩ => ?_
       refine bindG H fun y4_9 hy4_9 H => ?_
       refine xc [1] [] [6,0] (seqF t4_5_a t4_5_c t4_8_a0 t4_8_c0 (rA t4_5_a t4_5_c y4_5) (rA t4_8_a0 t4_8_c0 y4_8) hy4_9) fun _ => ?_
       exact xe [1,0] _ [0] [7,2,2,2,2,2] (hN0 (!y4_9) H)
def wrightS_j0 (mc : MachS) (line : Int) (words : List Int) : Option (Bool) :=
 (wrowS mc line).bind fun y8_2 => (bif decide (y8_2.state = (2 : Int)) then some true else (wownS mc line).bind fun y9_6 => (bif !(decide (y9_6 = ((-1) : Int))) then some true else (seqS y8_2.data words).bind fun y9_13 => some y9_13))
def wrightS_l1 (y1_2 : List Int) (mc : MachS) (line : Int) (words : List Int) (k0 : Option (Bool)) : Nat → Int → Option (Bool)
 | 0, _ => none
 | m + 1, v1_16 => (bif decide (v1_16 < (((List.length y1_2) : Nat) : Int)) then chk (0 ≤ v1_16 ∧ v1_16 < ((y1_2.length : Nat) : Int)) ((wfindS mc (nth y1_2 v1_16) line).bind fun y4_3 => (seqS y4_3.1.data words).bind fun y5_3 => (bif !y5_3 then some false else chk (inR (v1_16 + (1 : Int))) ((wrightS_l1 y1_2 mc line words k0 m) (v1_16 + (1 : Int))))) else k0)
def wrightS (mc : MachS) (line : Int) (words : List Int) : Option (Bool) :=
 (wcopS mc line).bind fun y1_2 => wrightS_l1 y1_2 mc line words (wrightS_j0 mc line words) (List.length mc.nodes + 2) (0 : Int)
set_option maxRecDepth 100000 in
set_option maxHeartbeats 4000000 in
theorem wrightF {mc : MachS} {line : Int} {words : List Int} {wordsA : Asn} (m : Nat) (m_b_fab : Nat) (m_b_trace : Nat) (m_a_c_init : Option Addr) (m_c_c_init : Nat) (m_a_nodes : Option Addr) (m_c_nodes : Nat) (m_r_nodes : List PtrR) (wordsa : Option Addr) (wordsc : Nat) (hwordsA : Rdb wordsA wordsa wordsc words) {y : Bool} (H : wrightS mc line words = some y) : FnY Tryz.prog 102 [.pointer (some ⟨m, 0, none⟩), .int .i64 line, .slice wordsa (List.length words) wordsc] ⟨[⟨m, #[.pointer (some ⟨m_b_fab, 0, none⟩), .pointer (some ⟨m_b_trace, 0, none⟩), .int .i64 mc.c.nodes, .int .i64 mc.c.lines, .int .i64 mc.c.words, .int .i64 mc.c.sets, .int .i64 mc.c.ways, .int .i64 mc.c.out, .int .i64 mc.c.inn, .slice m_a_c_init (List.length mc.c.init) m_c_c_init, .slice m_a_nodes (List.length m_r_nodes) m_c_nodes], 70⟩], [(FabA m_b_fab mc.fab), (TraceA m_b_trace mc.trace), (ImmA m_a_c_init m_c_c_init mc.c.init), (ArrA m_a_nodes m_c_nodes m_r_nodes), (StA mc.nodes m_r_nodes), wordsA]⟩ (Z := Unit) (fun y _ => .bool y) (fun y _ => ⟨[⟨m, #[.pointer (some ⟨m_b_fab, 0, none⟩), .pointer (some ⟨m_b_trace, 0, none⟩), .int .i64 mc.c.nodes, .int .i64 mc.c.lines, .int .i64 mc.c.words, .int .i64 mc.c.sets, .int .i64 mc.c.ways, .int .i64 mc.c.out, .int .i64 mc.c.inn, .slice m_a_c_init (List.length mc.c.init) m_c_c_init, .slice m_a_nodes (List.length m_r_nodes) m_c_nodes], 70⟩], [(FabA m_b_fab mc.fab), (TraceA m_b_trace mc.trace), (ImmA m_a_c_init m_c_c_init mc.c.init), (ArrA m_a_nodes m_c_nodes m_r_nodes), (StA mc.nodes m_r_nodes), wordsA]⟩) y := by
 unfold wrightS at H
 refine xfY Tryz.func102 fun W0 F => ?_
 refine xj [101] (ι := Unit) (fun _ => ⟨[(0, .pointer (some ⟨m, 0, none⟩)), (1, .int .i64 line), (2, .slice wordsa (List.length words) wordsc)], [⟨m, #[.pointer (some ⟨m_b_fab, 0, none⟩), .pointer (some ⟨m_b_trace, 0, none⟩), .int .i64 mc.c.nodes, .int .i64 mc.c.lines, .int .i64 mc.c.words, .int .i64 mc.c.sets, .int .i64 mc.c.ways, .int .i64 mc.c.out, .int .i64 mc.c.inn, .slice m_a_c_init (List.length mc.c.init) m_c_c_init, .slice m_a_nodes (List.length m_r_nodes) m_c_nodes], 70⟩], [(FabA m_b_fab mc.fab), (TraceA m_b_trace mc.trace), (ImmA m_a_c_init m_c_c_init mc.c.init), (ArrA m_a_nodes m_c_nodes m_r_nodes), (StA mc.nodes m_r_nodes), wordsA]⟩) (fun _ => wrightS_j0 mc line words = some y) ?_ ?_
 · rintro _ H
   replace H : wrightS_j0 mc line words = some y := H
   rw [wrightS_j0] at H
   refine bindG H fun y8_2 hy8_2 H => ?_
   refine xc [] [0] [0,0,0,0,0] (wrowF m m_b_fab m_b_trace m_a_c_init m_c_c_init m_a_nodes m_c_nodes m_r_nodes hy8_2) fun ⟨t8_2_a0, t8_2_c0⟩ => ?_
   refine xn [] fun b8_3 => ?_
   refine xs [0,0] H ?_ ?_
   · intro H
     exact xrY (someE H) [0,0,0,0,1,0,0,0,0,1] [] [1] [1,1,1,1,1,1] ()
   · intro H
     refine bindG H fun y9_6 hy9_6 H => ?_
     refine xc [1,1,1] [1] [1,1,1,1,1] (wownF m m_b_fab m_b_trace m_a_c_init m_c_c_init m_a_nodes m_c_nodes m_r_nodes hy9_6) fun _ => ?_
     refine xs [1,0] H ?_ ?_
     · intro H
       exact xrY (someE H) [0,0,0,0,1] [] [0] [0,0,0,0,0,1] ()
     · intro H
       refine bindG H fun y9_13 hy9_13 H => ?_
       refine xc [1,1,1,1,1] [] [5,5] (seqF t8_2_a0 t8_2_c0 wordsa wordsc (rA t8_2_a0 t8_2_c0 y8_2.data) hwordsA hy9_13) fun _ => ?_
       exact xrY (someE H) [0] [] [0] [2,2,2,2,2,1] ()
 · intro N0 hN0
   refine bindG H fun y1_2 hy1_2 H => ?_
   refine xc [] [0] [0,0,0,0,0] (wcopF m m_b_fab m_b_trace m_a_c_init m_c_c_init m_a_nodes m_c_nodes m_r_nodes hy1_2) fun ⟨t1_2_a0, t1_2_c0⟩ => ?_
   refine xl [] (ι := Int) (fun v1_16 => ⟨[(0, .pointer (some ⟨m, 0, none⟩)), (1, .int .i64 line), (2, .slice wordsa (List.length words) wordsc), (14, .slice t1_2_a0 (List.length y1_2) t1_2_c0), (15, .int .i64 (((List.length y1_2) : Nat) : Int)), (16, .int .i64 v1_16)], [⟨m, #[.pointer (some ⟨m_b_fab, 0, none⟩), .pointer (some ⟨m_b_trace, 0, none⟩), .int .i64 mc.c.nodes, .int .i64 mc.c.lines, .int .i64 mc.c.words, .int .i64 mc.c.sets, .int .i64 mc.c.ways, .int .i64 mc.c.out, .int .i64 mc.c.inn, .slice m_a_c_init (List.length mc.c.init) m_c_c_init, .slice m_a_nodes (List.length m_r_nodes) m_c_nodes], 70⟩], [(ArrA t1_2_a0 t1_2_c0 y1_2), (FabA m_b_fab mc.fab), (TraceA m_b_trace mc.trace), (ImmA m_a_c_init m_c_c_init mc.c.init), (ArrA m_a_nodes m_c_nodes m_r_nodes), (StA mc.nodes m_r_nodes), wordsA]⟩) (fun m1 v1_16 => wrightS_l1 y1_2 mc line words (wrightS_j0 mc line words) m1 v1_16 = some y) [0] [0,0,0,0,0,0,0] ((List.length mc.nodes + 2)) ((0 : Int)) H ?_
   rintro N1 (_ | m1) v1_16 H hN1
   · exact (noneE H).elim
   replace H : wrightS_l1 y1_2 mc line words (wrightS_j0 mc line words) (m1 + 1) v1_16 = some y := H
   rw [wrightS_l1] at H
   refine xs [] H ?_ ?_
   · intro H
     refine chkG H fun q3_0_1 H => ?_
     refine xi [1] 0 (rA t1_2_a0 t1_2_c0 y1_2) q3_0_1 fun b1 o1 e1 => ?_
     refine xpl [] 0 (ol_ld (rA t1_2_a0 t1_2_c0 y1_2) e1 q3_0_1 0 (fun _ => rfl)) ?_
     refine bindG H fun y4_3 hy4_3 H => ?_
     refine xc [] [0] [1,1,1,1,1] (wfindF m m_b_fab m_b_trace m_a_c_init m_c_c_init m_a_nodes m_c_nodes m_r_nodes hy4_3) fun ⟨t4_3_a0, t4_3_c0⟩ => ?_
     refine xn [] fun b4_7 => ?_
     refine bindG H fun y5_3 hy5_3 H => ?_
     refine xc [0,0] [] [0,6] (seqF t4_3_a0 t4_3_c0 wordsa wordsc (rA t4_3_a0 t4_3_c0 y4_3.1.data) hwordsA hy5_3) fun _ => ?_
     refine xs [] H ?_ ?_
     · intro H
       exact xrY (someE H) [1] [] [1] [2,2,2,2,2,1] ()
     · intro H
       refine chkG H fun q7_0_1 H => ?_
       refine xd [0,0] (ap q7_0_1 an) ?_
       exact xe [] _ [1] [7,2,2,2,2,2,1] (hN1 _ (v1_16 + (1 : Int)) (Nat.lt_succ_self _) H)
   · intro H
     exact xe [0] _ [0] [1,1,1,1,1,1] (hN0 () H)
def wvalS_j0 : Option (Bool) :=
 some true
def wvalS_l1 (y1_1 : CfgS) (y2_7 : List Int) (mc : MachS) (k0 : Option (Bool)) : Nat → Int → Option (Bool)
 | 0, _ => none
 | m + 1, v1_25 => (bif decide (v1_25 < y1_1.lines) then chk (inR (v1_25 + (1 : Int))) (chk (0 ≤ (wr (v1_25 * y1_1.words)) ∧ (wr (v1_25 * y1_1.words)) ≤ (wr ((v1_25 + (1 : Int)) * y1_1.words)) ∧ (wr ((v1_25 + (1 : Int)) * y1_1.words)) ≤ ((List.length y2_7 : Nat) : Int)) (letP ((y2_7.drop ((wr (v1_25 * y1_1.words))).toNat).take (((wr ((v1_25 + (1 : Int)) * y1_1.words))).toNat - ((wr (v1_25 * y1_1.words))).toNat)) fun l8_12 => (wrightS mc v1_25 l8_12).bind fun y8_13 => (bif !y8_13 then some false else chk (inR (v1_25 + (1 : Int))) ((wvalS_l1 y1_1 y2_7 mc k0 m) (v1_25 + (1 : Int)))))) else k0)
def wvalS (mc : MachS) (programs : List (List OpS)) : Option (Bool) :=
 (mconfS mc).bind fun y1_1 => (trevS mc.trace).bind fun y2_6 => (aaftS y1_1 programs y2_6).bind fun y2_7 => (paddrsS y1_1).bind fun y3_3 => (bif !(decide ((((List.length y2_7) : Nat) : Int) = y3_3)) then some false else wvalS_l1 y1_1 y2_7 mc wvalS_j0 (mc.c.lines.toNat + 1) (0 : Int))
set_option maxRecDepth 100000 in
set_option maxHeartbeats 4000000 in
theorem wvalF {mc : MachS} {programs : List (List OpS)} {programsA : Asn} (m : Nat) (m_b_fab : Nat) (m_b_trace : Nat) (m_a_c_init : Option Addr) (m_c_c_init : Nat) (m_a_nodes : Option Addr) (m_c_nodes : Nat) (m_r_nodes : List PtrR) (programsa : Option Addr) (programsc : Nat) (hprogramsA : Rdb programsA programsa programsc programs) {y : Bool} (H : wvalS mc programs = some y) : FnY Tryz.prog 58 [.pointer (some ⟨m, 0, none⟩), .slice programsa (List.length programs) programsc] ⟨[⟨m, #[.pointer (some ⟨m_b_fab, 0, none⟩), .pointer (some ⟨m_b_trace, 0, none⟩), .int .i64 mc.c.nodes, .int .i64 mc.c.lines, .int .i64 mc.c.words, .int .i64 mc.c.sets, .int .i64 mc.c.ways, .int .i64 mc.c.out, .int .i64 mc.c.inn, .slice m_a_c_init (List.length mc.c.init) m_c_c_init, .slice m_a_nodes (List.length m_r_nodes) m_c_nodes], 70⟩], [(FabA m_b_fab mc.fab), (TraceA m_b_trace mc.trace), (ImmA m_a_c_init m_c_c_init mc.c.init), (ArrA m_a_nodes m_c_nodes m_r_nodes), (StA mc.nodes m_r_nodes), programsA]⟩ (Z := Unit) (fun y _ => .bool y) (fun y _ => ⟨[⟨m, #[.pointer (some ⟨m_b_fab, 0, none⟩), .pointer (some ⟨m_b_trace, 0, none⟩), .int .i64 mc.c.nodes, .int .i64 mc.c.lines, .int .i64 mc.c.words, .int .i64 mc.c.sets, .int .i64 mc.c.ways, .int .i64 mc.c.out, .int .i64 mc.c.inn, .slice m_a_c_init (List.length mc.c.init) m_c_c_init, .slice m_a_nodes (List.length m_r_nodes) m_c_nodes], 70⟩], [(FabA m_b_fab mc.fab), (TraceA m_b_trace mc.trace), (ImmA m_a_c_init m_c_c_init mc.c.init), (ArrA m_a_nodes m_c_nodes m_r_nodes), (StA mc.nodes m_r_nodes), programsA]⟩) y := by
 unfold wvalS at H
 refine xfY Tryz.func58 fun W0 F => ?_
 refine bindG H fun y1_1 hy1_1 H => ?_
 refine xc [] [0] [0,0,0,0,0] (mconfF m m_b_fab m_b_trace m_a_c_init m_c_c_init m_a_nodes m_c_nodes m_r_nodes hy1_1) fun ⟨t1_1_a0, t1_1_c0⟩ => ?_
 refine xn [] fun b1_2 => ?_
 refine xg [0,0,0,1,2,3,4,5,1,6] [] [2] (gh_open (TraceO m_b_trace mc.trace)) fun ⟨a_l1, c_l2⟩ => ?_
 refine bindG H fun y2_6 hy2_6 H => ?_
 refine xc [] [0] [0] (trevF m_b_trace a_l1 c_l2 hy2_6) fun ⟨t2_6_a0, t2_6_c0⟩ => ?_
 refine xg [7] [] [2] (gh_frz t1_1_a0 t1_1_c0 y1_1.init) fun _ => ?_
 refine xg [] [] [0] (gh_dup t1_1_a0 t1_1_c0 y1_1.init) fun _ => ?_
 refine bindG H fun y2_7 hy2_7 H => ?_
 refine xc [] [] [0,7,1] (aaftF t1_1_a0 t1_1_c0 programsa programsc t2_6_a0 t2_6_c0 hprogramsA (rA t2_6_a0 t2_6_c0 y2_6) hy2_7) fun ⟨t2_7_a0, t2_7_c0⟩ => ?_
 refine bindG H fun y3_3 hy3_3 H => ?_
 refine xc [8,1] [] [] (paddrsF t1_1_a0 t1_1_c0 hy3_3) fun _ => ?_
 refine xs [] H ?_ ?_
 · intro H
   refine xg [1] [0] [4] (gh_shut (TraceO m_b_trace mc.trace) (a_l1, c_l2)) fun _ => ?_
   exact xrY (someE H) [] [] [1] [5,0,4,4,4,1] ()
 · intro H
   refine xj [0,100] (ι := Unit) (fun _ => ⟨[], [⟨m, #[.pointer (some ⟨m_b_fab, 0, none⟩), .pointer (some ⟨m_b_trace, 0, none⟩), .int .i64 mc.c.nodes, .int .i64 mc.c.lines, .int .i64 mc.c.words, .int .i64 mc.c.sets, .int .i64 mc.c.ways, .int .i64 mc.c.out, .int .i64 mc.c.inn, .slice m_a_c_init (List.length mc.c.init) m_c_c_init, .slice m_a_nodes (List.length m_r_nodes) m_c_nodes], 70⟩], [(TraceA m_b_trace mc.trace), programsA, (FabA m_b_fab mc.fab), (ImmA m_a_c_init m_c_c_init mc.c.init), (ArrA m_a_nodes m_c_nodes m_r_nodes), (StA mc.nodes m_r_nodes)]⟩) (fun _ => wvalS_j0 = some y) ?_ ?_
   · rintro _ H
     replace H : wvalS_j0 = some y := H
     rw [wvalS_j0] at H
     exact xrY (someE H) [] [] [0] [2,0,1,1,1,0] ()
   · intro N0 hN0
     refine xg [1] [0] [4] (gh_shut (TraceO m_b_trace mc.trace) (a_l1, c_l2)) fun _ => ?_
     refine xl [] (ι := Int) (fun v1_25 => ⟨[(0, .pointer (some ⟨m, 0, none⟩)), (5, .pointer (some ⟨b1_2, 0, none⟩)), (6, .slice t2_7_a0 (List.length y2_7) t2_7_c0), (24, .int .i64 y1_1.lines), (25, .int .i64 v1_25)], [⟨b1_2, #[.int .i64 y1_1.nodes, .int .i64 y1_1.lines, .int .i64 y1_1.words, .int .i64 y1_1.sets, .int .i64 y1_1.ways, .int .i64 y1_1.out, .int .i64 y1_1.inn, .slice t1_1_a0 (List.length y1_1.init) t1_1_c0], 25⟩, ⟨m, #[.pointer (some ⟨m_b_fab, 0, none⟩), .pointer (some ⟨m_b_trace, 0, none⟩), .int .i64 mc.c.nodes, .int .i64 mc.c.lines, .int .i64 mc.c.words, .int .i64 mc.c.sets, .int .i64 mc.c.ways, .int .i64 mc.c.out, .int .i64 mc.c.inn, .slice m_a_c_init (List.length mc.c.init) m_c_c_init, .slice m_a_nodes (List.length m_r_nodes) m_c_nodes], 70⟩], [(TraceA m_b_trace mc.trace), (ArrA t2_7_a0 t2_7_c0 y2_7), programsA, (ImmA t1_1_a0 t1_1_c0 y1_1.init), (FabA m_b_fab mc.fab), (ImmA m_a_c_init m_c_c_init mc.c.init), (ArrA m_a_nodes m_c_nodes m_r_nodes), (StA mc.nodes m_r_nodes)]⟩) (fun m1 v1_25 => wvalS_l1 y1_1 y2_7 mc (wvalS_j0) m1 v1_25 = some y) [0,0] [0,0,0,1,1,1,1,1] ((mc.c.lines.toNat + 1)) ((0 : Int)) H ?_
     rintro N1 (_ | m1) v1_25 H hN1
     · exact (noneE H).elim
     replace H : wvalS_l1 y1_1 y2_7 mc (wvalS_j0) (m1 + 1) v1_25 = some y := H
     rw [wvalS_l1] at H
     refine xs [] H ?_ ?_
     · intro H
       refine chkG H fun q8_8_1 H => ?_
       refine chkG H fun q8_12_1 H => ?_
       refine letG H fun l8_12 hl8_12 H => ?_
       refine xd [1,0,1,0,0,1] (ap q8_8_1 an) ?_
       refine xsl [] 1 (rA t2_7_a0 t2_7_c0 y2_7) (mx := ((t2_7_c0 : Nat) : Int)) q8_12_1 (.inl rfl) hl8_12 fun a8_12 rl8_12 => ?_
       refine bindG H fun y8_13 hy8_13 H => ?_
       refine xc [] [1] [4,0,3,3,3,0] (wrightF m m_b_fab m_b_trace m_a_c_init m_c_c_init m_a_nodes m_c_nodes m_r_nodes a8_12 ((((t2_7_c0 : Nat) : Int)).toNat - ((wr (v1_25 * y1_1.words))).toNat) rl8_12 hy8_13) fun _ => ?_
       refine xs [] H ?_ ?_
       · intro H
         exact xrY (someE H) [1] [] [0] [0,0,0,0,0,1] ()
       · intro H
         refine chkG H fun q10_0_1 H => ?_
         refine xd [0,0] (ap q10_0_1 an) ?_
         exact xe [] _ [1,0] [1,4,4,4,0,0,0,0] (hN1 _ (v1_25 + (1 : Int)) (Nat.lt_succ_self _) H)
     · intro H
       exact xe [0] _ [1] [0,1,2,2,2,2] (hN0 () H)
def wsin1S (at_ : Int) (moc : MachS) (lnv : Int) : Option (Bool) :=
 (wfindS moc at_ lnv).bind fun y1_3 => some y1_3.1.dirty
set_option maxRecDepth 100000 in
set_option maxHeartbeats 4000000 in
theorem wsin1F {at_ : Int} {moc : MachS} {lnv : Int} (m mo : Nat) (mo_b_fab : Nat) (mo_b_trace : Nat) (mo_a_c_init : Option Addr) (mo_c_c_init : Nat) (mo_a_nodes : Option Addr) (mo_c_nodes : Nat) (mo_r_nodes : List PtrR) (ln : Nat) {y : Bool} (H : wsin1S at_ moc lnv = some y) : FnY Tryz.prog 99 [.int .i64 at_, .pointer (some ⟨m, 0, none⟩), .pointer (some ⟨ln, 0, none⟩)] ⟨[⟨m, #[.pointer (some ⟨mo, 0, none⟩)], 31⟩, ⟨mo, #[.pointer (some ⟨mo_b_fab, 0, none⟩), .pointer (some ⟨mo_b_trace, 0, none⟩), .int .i64 moc.c.nodes, .int .i64 moc.c.lines, .int .i64 moc.c.words, .int .i64 moc.c.sets, .int .i64 moc.c.ways, .int .i64 moc.c.out, .int .i64 moc.c.inn, .slice mo_a_c_init (List.length moc.c.init) mo_c_c_init, .slice mo_a_nodes (List.length mo_r_nodes) mo_c_nodes], 70⟩, ⟨ln, #[.int .i64 lnv], 3⟩], [(FabA mo_b_fab moc.fab), (TraceA mo_b_trace moc.trace), (ImmA mo_a_c_init mo_c_c_init moc.c.init), (ArrA mo_a_nodes mo_c_nodes mo_r_nodes), (StA moc.nodes mo_r_nodes)]⟩ (Z := Unit) (fun y _ => .bool y) (fun y _ => ⟨[⟨m, #[.pointer (some ⟨mo, 0, none⟩)], 31⟩, ⟨mo, #[.pointer (some ⟨mo_b_fab, 0, none⟩), .pointer (some ⟨mo_b_trace, 0, none⟩), .int .i64 moc.c.nodes, .int .i64 moc.c.lines, .int .i64 moc.c.words, .int .i64 moc.c.sets, .int .i64 moc.c.ways, .int .i64 moc.c.out, .int .i64 moc.c.inn, .slice mo_a_c_init (List.length moc.c.init) mo_c_c_init, .slice mo_a_nodes (List.length mo_r_nodes) mo_c_nodes], 70⟩, ⟨ln, #[.int .i64 lnv], 3⟩], [(FabA mo_b_fab moc.fab), (TraceA mo_b_trace moc.trace), (ImmA mo_a_c_init mo_c_c_init moc.c.init), (ArrA mo_a_nodes mo_c_nodes mo_r_nodes), (StA moc.nodes mo_r_nodes)]⟩) y := by
 unfold wsin1S at H
 refine xfY Tryz.func99 fun W0 F => ?_
 refine bindG H fun y1_3 hy1_3 H => ?_
 refine xc [0,2] [1] [0,0,0,0,0] (wfindF mo mo_b_fab mo_b_trace mo_a_c_init mo_c_c_init mo_a_nodes mo_c_nodes mo_r_nodes hy1_3) fun ⟨t1_3_a0, t1_3_c0⟩ => ?_
 refine xn [] fun b1_7 => ?_
 exact xrY (someE H) [0,0] [] [2,1,1] [1,1,1,1,1] ()
def wiidxS_j0 : Option (Int) :=
 some ((-1) : Int)
def wiidxS_l1 (s : List Int) (moc : MachS) (lnv : Int) (k0 : Option (Int)) : Nat → Int → Option (Int)
 | 0, _ => none
 | m + 1, v1_8 => (bif decide (v1_8 < (((List.length s) : Nat) : Int)) then chk (0 ≤ v1_8 ∧ v1_8 < ((s.length : Nat) : Int)) ((wsin1S (nth s v1_8) moc lnv).bind fun y4_5 => (bif y4_5 then some v1_8 else chk (inR (v1_8 + (1 : Int))) ((wiidxS_l1 s moc lnv k0 m) (v1_8 + (1 : Int))))) else k0)
def wiidxS (s : List Int) (moc : MachS) (lnv : Int) : Option (Int) :=
 wiidxS_l1 s moc lnv wiidxS_j0 (List.length s + 1) (0 : Int)
set_option maxRecDepth 100000 in
set_option maxHeartbeats 4000000 in
theorem wiidxF {s : List Int} {sA : Asn} {moc : MachS} {lnv : Int} (sa : Option Addr) (sc : Nat) (m mo : Nat) (mo_b_fab : Nat) (mo_b_trace : Nat) (mo_a_c_init : Option Addr) (mo_c_c_init : Nat) (mo_a_nodes : Option Addr) (mo_c_nodes : Nat) (mo_r_nodes : List PtrR) (ln : Nat) (hsA : Rdb sA sa sc s) {y : Int} (H : wiidxS s moc lnv = some y) : FnY Tryz.prog 133 [.slice sa (List.length s) sc, .func (.func 99) #[] #[.pointer (some ⟨m, 0, none⟩), .pointer (some ⟨ln, 0, none⟩)]] ⟨[⟨m, #[.pointer (some ⟨mo, 0, none⟩)], 31⟩, ⟨mo, #[.pointer (some ⟨mo_b_fab, 0, none⟩), .pointer (some ⟨mo_b_trace, 0, none⟩), .int .i64 moc.c.nodes, .int .i64 moc.c.lines, .int .i64 moc.c.words, .int .i64 moc.c.sets, .int .i64 moc.c.ways, .int .i64 moc.c.out, .int .i64 moc.c.inn, .slice mo_a_c_init (List.length moc.c.init) mo_c_c_init, .slice mo_a_nodes (List.length mo_r_nodes) mo_c_nodes], 70⟩, ⟨ln, #[.int .i64 lnv], 3⟩], [sA, (FabA mo_b_fab moc.fab), (TraceA mo_b_trace moc.trace), (ImmA mo_a_c_init mo_c_c_init moc.c.init), (ArrA mo_a_nodes mo_c_nodes mo_r_nodes), (StA moc.nodes mo_r_nodes)]⟩ (Z := Unit) (fun y _ => .int .i64 y) (fun y _ => ⟨[⟨m, #[.pointer (some ⟨mo, 0, none⟩)], 31⟩, ⟨mo, #[.pointer (some ⟨mo_b_fab, 0, none⟩), .pointer (some ⟨mo_b_trace, 0, none⟩), .int .i64 moc.c.nodes, .int .i64 moc.c.lines, .int .i64 moc.c.words, .int .i64 moc.c.sets, .int .i64 moc.c.ways, .int .i64 moc.c.out, .int .i64 moc.c.inn, .slice mo_a_c_init (List.length moc.c.init) mo_c_c_init, .slice mo_a_nodes (List.length mo_r_nodes) mo_c_nodes], 70⟩, ⟨ln, #[.int .i64 lnv], 3⟩], [(FabA mo_b_fab moc.fab), (TraceA mo_b_trace moc.trace), (ImmA mo_a_c_init mo_c_c_init moc.c.init), (ArrA mo_a_nodes mo_c_nodes mo_r_nodes), (StA moc.nodes mo_r_nodes), sA]⟩) y := by
 unfold wiidxS at H
 refine xfY Tryz.func133 fun W0 F => ?_
 refine xj [101] (ι := Unit) (fun _ => ⟨[], [⟨m, #[.pointer (some ⟨mo, 0, none⟩)], 31⟩, ⟨mo, #[.pointer (some ⟨mo_b_fab, 0, none⟩), .pointer (some ⟨mo_b_trace, 0, none⟩), .int .i64 moc.c.nodes, .int .i64 moc.c.lines, .int .i64 moc.c.words, .int .i64 moc.c.sets, .int .i64 moc.c.ways, .int .i64 moc.c.out, .int .i64 moc.c.inn, .slice mo_a_c_init (List.length moc.c.init) mo_c_c_init, .slice mo_a_nodes (List.length mo_r_nodes) mo_c_nodes], 70⟩, ⟨ln, #[.int .i64 lnv], 3⟩], [sA, (FabA mo_b_fab moc.fab), (TraceA mo_b_trace moc.trace), (ImmA mo_a_c_init mo_c_c_init moc.c.init), (ArrA mo_a_nodes mo_c_nodes mo_r_nodes), (StA moc.nodes mo_r_nodes)]⟩) (fun _ => wiidxS_j0 = some y) ?_ ?_
 · rintro _ H
   replace H : wiidxS_j0 = some y := H
   rw [wiidxS_j0] at H
   exact xrY (someE H) [] [] [0,0,0] [1,1,1,1,1,0] ()
 · intro N0 hN0
   refine xl [] (ι := Int) (fun v1_8 => ⟨[(0, .slice sa (List.length s) sc), (1, .func (.func 99) #[] #[.pointer (some ⟨m, 0, none⟩), .pointer (some ⟨ln, 0, none⟩)]), (7, .int .i64 (((List.length s) : Nat) : Int)), (8, .int .i64 v1_8)], [⟨m, #[.pointer (some ⟨mo, 0, none⟩)], 31⟩, ⟨mo, #[.pointer (some ⟨mo_b_fab, 0, none⟩), .pointer (some ⟨mo_b_trace, 0, none⟩), .int .i64 moc.c.nodes, .int .i64 moc.c.lines, .int .i64 moc.c.words, .int .i64 moc.c.sets, .int .i64 moc.c.ways, .int .i64 moc.c.out, .int .i64 moc.c.inn, .slice mo_a_c_init (List.length moc.c.init) mo_c_c_init, .slice mo_a_nodes (List.length mo_r_nodes) mo_c_nodes], 70⟩, ⟨ln, #[.int .i64 lnv], 3⟩], [sA, (FabA mo_b_fab moc.fab), (TraceA mo_b_trace moc.trace), (ImmA mo_a_c_init mo_c_c_init moc.c.init), (ArrA mo_a_nodes mo_c_nodes mo_r_nodes), (StA moc.nodes mo_r_nodes)]⟩) (fun m1 v1_8 => wiidxS_l1 s moc lnv (wiidxS_j0) m1 v1_8 = some y) [0,0,0] [0,0,0,0,0,0] ((List.length s + 1)) ((0 : Int)) H ?_
   rintro N1 (_ | m1) v1_8 H hN1
   · exact (noneE H).elim
   replace H : wiidxS_l1 s moc lnv (wiidxS_j0) (m1 + 1) v1_8 = some y := H
   rw [wiidxS_l1] at H
   refine xs [] H ?_ ?_
   · intro H
     refine chkG H fun q4_3_1 H => ?_
     refine xi [1] 0 hsA q4_3_1 fun b1 o1 e1 => ?_
     refine xpl [] 0 (ol_ld hsA e1 q4_3_1 0 (fun _ => rfl)) ?_
     refine bindG H fun y4_5 hy4_5 H => ?_
     refine xc [] [0,0,0] [1,1,1,1,1] (wsin1F m mo mo_b_fab mo_b_trace mo_a_c_init mo_c_c_init mo_a_nodes mo_c_nodes mo_r_nodes ln hy4_5) fun _ => ?_
     refine xs [] H ?_ ?_
     · intro H
       exact xrY (someE H) [1] [] [0,0,0] [0,0,0,0,0,0] ()
     · intro H
       refine chkG H fun q6_0_1 H => ?_
       refine xd [0,0] (ap q6_0_1 an) ?_
       exact xe [] _ [0,0,0] [5,0,0,0,0,0] (hN1 _ (v1_8 + (1 : Int)) (Nat.lt_succ_self _) H)
   · intro H
     exact xe [0] _ [0,0,0] [0,0,0,0,0,0] (hN0 () H)
def wicofS (s : List Int) (moc : MachS) (lnv : Int) : Option (Bool) :=
 (wiidxS s moc lnv).bind fun y1_2 => some (decide ((0 : Int) ≤ y1_2))
set_option maxRecDepth 100000 in
set_option maxHeartbeats 4000000 in
theorem wicofF {s : List Int} {sA : Asn} {moc : MachS} {lnv : Int} (sa : Option Addr) (sc : Nat) (m mo : Nat) (mo_b_fab : Nat) (mo_b_trace : Nat) (mo_a_c_init : Option Addr) (mo_c_c_init : Nat) (mo_a_nodes : Option Addr) (mo_c_nodes : Nat) (mo_r_nodes : List PtrR) (ln : Nat) (hsA : Rdb sA sa sc s) {y : Bool} (H : wicofS s moc lnv = some y) : FnY Tryz.prog 98 [.slice sa (List.length s) sc, .func (.func 99) #[] #[.pointer (some ⟨m, 0, none⟩), .pointer (some ⟨ln, 0, none⟩)]] ⟨[⟨m, #[.pointer (some ⟨mo, 0, none⟩)], 31⟩, ⟨mo, #[.pointer (some ⟨mo_b_fab, 0, none⟩), .pointer (some ⟨mo_b_trace, 0, none⟩), .int .i64 moc.c.nodes, .int .i64 moc.c.lines, .int .i64 moc.c.words, .int .i64 moc.c.sets, .int .i64 moc.c.ways, .int .i64 moc.c.out, .int .i64 moc.c.inn, .slice mo_a_c_init (List.length moc.c.init) mo_c_c_init, .slice mo_a_nodes (List.length mo_r_nodes) mo_c_nodes], 70⟩, ⟨ln, #[.int .i64 lnv], 3⟩], [sA, (FabA mo_b_fab moc.fab), (TraceA mo_b_trace moc.trace), (ImmA mo_a_c_init mo_c_c_init moc.c.init), (ArrA mo_a_nodes mo_c_nodes mo_r_nodes), (StA moc.nodes mo_r_nodes)]⟩ (Z := Unit) (fun y _ => .bool y) (fun y _ => ⟨[⟨m, #[.pointer (some ⟨mo, 0, none⟩)], 31⟩, ⟨mo, #[.pointer (some ⟨mo_b_fab, 0, none⟩), .pointer (some ⟨mo_b_trace, 0, none⟩), .int .i64 moc.c.nodes, .int .i64 moc.c.lines, .int .i64 moc.c.words, .int .i64 moc.c.sets, .int .i64 moc.c.ways, .int .i64 moc.c.out, .int .i64 moc.c.inn, .slice mo_a_c_init (List.length moc.c.init) mo_c_c_init, .slice mo_a_nodes (List.length mo_r_nodes) mo_c_nodes], 70⟩, ⟨ln, #[.int .i64 lnv], 3⟩], [(FabA mo_b_fab moc.fab), (TraceA mo_b_trace moc.trace), (ImmA mo_a_c_init mo_c_c_init moc.c.init), (ArrA mo_a_nodes mo_c_nodes mo_r_nodes), (StA moc.nodes mo_r_nodes), sA]⟩) y := by
 unfold wicofS at H
 refine xfY Tryz.func98 fun W0 F => ?_
 refine bindG H fun y1_2 hy1_2 H => ?_
 refine xc [] [0,0,0] [0,0,0,0,0,0] (wiidxF sa sc m mo mo_b_fab mo_b_trace mo_a_c_init mo_c_c_init mo_a_nodes mo_c_nodes mo_r_nodes ln hsA hy1_2) fun _ => ?_
 exact xrY (someE H) [] [] [0,0,0] [0,0,0,0,0,0] ()
def wsinS (mc : MachS) (line : Int) : Option (Bool) :=
 (wcopS mc line).bind fun y1_2 => (wicofS y1_2 mc line).bind fun y2_2 => (bif !y2_2 then some true else some (decide ((((List.length y1_2) : Nat) : Int) = (1 : Int))))
set_option maxRecDepth 100000 in
set_option maxHeartbeats 4000000 in
theorem wsinF {mc : MachS} {line : Int} (m : Nat) (m_b_fab : Nat) (m_b_trace : Nat) (m_a_c_init : Option Addr) (m_c_c_init : Nat) (m_a_nodes : Option Addr) (m_c_nodes : Nat) (m_r_nodes : List PtrR) {y : Bool} (H : wsinS mc line = some y) : FnY Tryz.prog 56 [.pointer (some ⟨m, 0, none⟩), .int .i64 line] ⟨[⟨m, #[.pointer (some ⟨m_b_fab, 0, none⟩), .pointer (some ⟨m_b_trace, 0, none⟩), .int .i64 mc.c.nodes, .int .i64 mc.c.lines, .int .i64 mc.c.words, .int .i64 mc.c.sets, .int .i64 mc.c.ways, .int .i64 mc.c.out, .int .i64 mc.c.inn, .slice m_a_c_init (List.length mc.c.init) m_c_c_init, .slice m_a_nodes (List.length m_r_nodes) m_c_nodes], 70⟩], [(FabA m_b_fab mc.fab), (TraceA m_b_trace mc.trace), (ImmA m_a_c_init m_c_c_init mc.c.init), (ArrA m_a_nodes m_c_nodes m_r_nodes), (StA mc.nodes m_r_nodes)]⟩ (Z := Unit) (fun y _ => .bool y) (fun y _ => ⟨[⟨m, #[.pointer (some ⟨m_b_fab, 0, none⟩), .pointer (some ⟨m_b_trace, 0, none⟩), .int .i64 mc.c.nodes, .int .i64 mc.c.lines, .int .i64 mc.c.words, .int .i64 mc.c.sets, .int .i64 mc.c.ways, .int .i64 mc.c.out, .int .i64 mc.c.inn, .slice m_a_c_init (List.length mc.c.init) m_c_c_init, .slice m_a_nodes (List.length m_r_nodes) m_c_nodes], 70⟩], [(FabA m_b_fab mc.fab), (TraceA m_b_trace mc.trace), (ImmA m_a_c_init m_c_c_init mc.c.init), (ArrA m_a_nodes m_c_nodes m_r_nodes), (StA mc.nodes m_r_nodes)]⟩) y := by
 unfold wsinS at H
 refine xfY Tryz.func56 fun W0 F => ?_
 refine xn [] fun b0_0 => ?_
 refine xn [] fun b0_1 => ?_
 refine bindG H fun y1_2 hy1_2 H => ?_
 refine xc [1,0] [2] [0,0,0,0,0] (wcopF m m_b_fab m_b_trace m_a_c_init m_c_c_init m_a_nodes m_c_nodes m_r_nodes hy1_2) fun ⟨t1_2_a0, t1_2_c0⟩ => ?_
 refine bindG H fun y2_2 hy2_2 H => ?_
 refine xc [] [2,0,0] [0,0,0,0,0,0] (wicofF t1_2_a0 t1_2_c0 b0_0 m m_b_fab m_b_trace m_a_c_init m_c_c_init m_a_nodes m_c_nodes m_r_nodes b0_1 (rA t1_2_a0 t1_2_c0 y1_2) hy2_2) fun _ => ?_
 refine xs [] H ?_ ?_
 · intro H
   exact xrY (someE H) [0,0,0,1] [] [1] [0,0,0,0,0] ()
 · intro H
   exact xrY (someE H) [1,1,1,0] [] [1] [0,0,0,0,0] ()
def wsndS_j1 (e1_4 : Bool) : Option (Bool) :=
 some e1_4
def wsndS_j0 (mc : MachS) (y1_1 : CfgS) (programs : List (List OpS)) : Option (Bool) :=
 (trevS mc.trace).bind fun y8_6 => (alegS y1_1 programs y8_6).bind fun y8_7 => (bif y8_7 then (wvalS mc programs).bind fun y8_11 => wsndS_j1 y8_11 else wsndS_j1 false)
def wsndS_l2 (y1_1 : CfgS) (mc : MachS) (k0 : Option (Bool)) : Nat → Int → Option (Bool)
 | 0, _ => none
 | m + 1, v2_11 => (bif decide (v2_11 < y1_1.lines) then (wsinS mc v2_11).bind fun y5_2 => (bif !y5_2 then some false else (wownS mc v2_11).bind fun y5_7 => (bif decide (y5_7 = ((-1) : Int)) then (wlistS mc v2_11).bind fun y5_12 => (bif !y5_12 then some false else chk (inR (v2_11 + (1 : Int))) ((wsndS_l2 y1_1 mc k0 m) (v2_11 + (1 : Int)))) else chk (inR (v2_11 + (1 : Int))) ((wsndS_l2 y1_1 mc k0 m) (v2_11 + (1 : Int))))) else k0)
def wsndS (mc : MachS) (programs : List (List OpS)) : Option (Bool) :=
 (mconfS mc).bind fun y1_1 => wsndS_l2 y1_1 mc (wsndS_j0 mc y1_1 programs) (mc.c.lines.toNat + 1) (0 : Int)
set_option maxRecDepth 100000 in
set_option maxHeartbeats 4000000 in
theorem wsndF {mc : MachS} {programs : List (List OpS)} {programsA : Asn} (m : Nat) (m_b_fab : Nat) (m_b_trace : Nat) (m_a_c_init : Option Addr) (m_c_c_init : Nat) (m_a_nodes : Option Addr) (m_c_nodes : Nat) (m_r_nodes : List PtrR) (programsa : Option Addr) (programsc : Nat) (hprogramsA : Rdb programsA programsa programsc programs) {y : Bool} (H : wsndS mc programs = some y) : FnY Tryz.prog 18 [.pointer (some ⟨m, 0, none⟩), .slice programsa (List.length programs) programsc] ⟨[⟨m, #[.pointer (some ⟨m_b_fab, 0, none⟩), .pointer (some ⟨m_b_trace, 0, none⟩), .int .i64 mc.c.nodes, .int .i64 mc.c.lines, .int .i64 mc.c.words, .int .i64 mc.c.sets, .int .i64 mc.c.ways, .int .i64 mc.c.out, .int .i64 mc.c.inn, .slice m_a_c_init (List.length mc.c.init) m_c_c_init, .slice m_a_nodes (List.length m_r_nodes) m_c_nodes], 70⟩], [(FabA m_b_fab mc.fab), (TraceA m_b_trace mc.trace), (ImmA m_a_c_init m_c_c_init mc.c.init), (ArrA m_a_nodes m_c_nodes m_r_nodes), (StA mc.nodes m_r_nodes), programsA]⟩ (Z := Unit) (fun y _ => .bool y) (fun y _ => ⟨[⟨m, #[.pointer (some ⟨m_b_fab, 0, none⟩), .pointer (some ⟨m_b_trace, 0, none⟩), .int .i64 mc.c.nodes, .int .i64 mc.c.lines, .int .i64 mc.c.words, .int .i64 mc.c.sets, .int .i64 mc.c.ways, .int .i64 mc.c.out, .int .i64 mc.c.inn, .slice m_a_c_init (List.length mc.c.init) m_c_c_init, .slice m_a_nodes (List.length m_r_nodes) m_c_nodes], 70⟩], [(FabA m_b_fab mc.fab), (TraceA m_b_trace mc.trace), (ImmA m_a_c_init m_c_c_init mc.c.init), (ArrA m_a_nodes m_c_nodes m_r_nodes), (StA mc.nodes m_r_nodes), programsA]⟩) y := by
 unfold wsndS at H
 refine xfY Tryz.func18 fun W0 F => ?_
 refine bindG H fun y1_1 hy1_1 H => ?_
 refine xc [] [0] [0,0,0,0,0] (mconfF m m_b_fab m_b_trace m_a_c_init m_c_c_init m_a_nodes m_c_nodes m_r_nodes hy1_1) fun ⟨t1_1_a0, t1_1_c0⟩ => ?_
 refine xn [] fun b1_2 => ?_
 refine xj [0,100] (ι := Unit) (fun _ => ⟨[(0, .pointer (some ⟨m, 0, none⟩)), (1, .slice programsa (List.length programs) programsc), (5, .pointer (some ⟨b1_2, 0, none⟩))], [⟨b1_2, #[.int .i64 y1_1.nodes, .int .i64 y1_1.lines, .int .i64 y1_1.words, .int .i64 y1_1.sets, .int .i64 y1_1.ways, .int .i64 y1_1.out, .int .i64 y1_1.inn, .slice t1_1_a0 (List.length y1_1.init) t1_1_c0], 25⟩, ⟨m, #[.pointer (some ⟨m_b_fab, 0, none⟩), .pointer (some ⟨m_b_trace, 0, none⟩), .int .i64 mc.c.nodes, .int .i64 mc.c.lines, .int .i64 mc.c.words, .int .i64 mc.c.sets, .int .i64 mc.c.ways, .int .i64 mc.c.out, .int .i64 mc.c.inn, .slice m_a_c_init (List.length mc.c.init) m_c_c_init, .slice m_a_nodes (List.length m_r_nodes) m_c_nodes], 70⟩], [(ArrA t1_1_a0 t1_1_c0 y1_1.init), (FabA m_b_fab mc.fab), (TraceA m_b_trace mc.trace), (ImmA m_a_c_init m_c_c_init mc.c.init), (ArrA m_a_nodes m_c_nodes m_r_nodes), (StA mc.nodes m_r_nodes), programsA]⟩) (fun _ => wsndS_j0 mc y1_1 programs = some y) ?_ ?_
 · rintro _ H
   replace H : wsndS_j0 mc y1_1 programs = some y := H
   rw [wsndS_j0] at H
   refine xj [100] (ι := Bool) (fun e1_4 => ⟨[(4, .bool e1_4)], [⟨m, #[.pointer (some ⟨m_b_fab, 0, none⟩), .pointer (some ⟨m_b_trace, 0, none⟩), .int .i64 mc.c.nodes, .int .i64 mc.c.lines, .int .i64 mc.c.words, .int .i64 mc.c.sets, .int .i64 mc.c.ways, .int .i64 mc.c.out, .int .i64 mc.c.inn, .slice m_a_c_init (List.length mc.c.init) m_c_c_init, .slice m_a_nodes (List.length m_r_nodes) m_c_nodes], 70⟩], [(FabA m_b_fab mc.fab), (TraceA m_b_trace mc.trace), (ImmA m_a_c_init m_c_c_init mc.c.init), (ArrA m_a_nodes m_c_nodes m_r_nodes), (StA mc.nodes m_r_nodes), programsA]⟩) (fun e1_4 => wsndS_j1 e1_4 = some y) ?_ ?_
   · rintro e1_4 H
     replace H : wsndS_j1 e1_4 = some y := H
     rw [wsndS_j1] at H
     exact xrY (someE H) [] [] [0] [0,0,0,0,0,0] ()
   · intro N1 hN1
     refine xg [0,0,1,2,3,4,5,1,6] [] [2] (gh_open (TraceO m_b_trace mc.trace)) fun ⟨a_l1, c_l2⟩ => ?_
     refine bindG H fun y8_6 hy8_6 H => ?_
     refine xc [] [0] [0] (trevF m_b_trace a_l1 c_l2 hy8_6) fun ⟨t8_6_a0, t8_6_c0⟩ => ?_
     refine xg [7] [] [2] (gh_frz t1_1_a0 t1_1_c0 y1_1.init) fun _ => ?_
     refine xg [] [] [0] (gh_dup t1_1_a0 t1_1_c0 y1_1.init) fun _ => ?_
     refine bindG H fun y8_7 hy8_7 H => ?_
     refine xc [] [] [0,7,1] (alegF t1_1_a0 t1_1_c0 programsa programsc t8_6_a0 t8_6_c0 hprogramsA (rA t8_6_a0 t8_6_c0 y8_6) hy8_7) fun _ => ?_
     refine xs [8,9] H ?_ ?_
     · intro H
       refine xg [1,10,1,11,1] [0] [3] (gh_shut (TraceO m_b_trace mc.trace) (a_l1, c_l2)) fun _ => ?_
       refine bindG H fun y8_11 hy8_11 H => ?_
       refine xc [] [1] [4,0,3,3,3,0] (wvalF m m_b_fab m_b_trace m_a_c_init m_c_c_init m_a_nodes m_c_nodes m_r_nodes programsa programsc hprogramsA hy8_11) fun _ => ?_
       exact xe [12,1,13] _ [0] [0,0,0,0,0,0] (hN1 (y8_11) H)
     · intro H
       refine xg [0,10,0,11,0,12,0,13] [0] [3] (gh_shut (TraceO m_b_trace mc.trace) (a_l1, c_l2)) fun _ => ?_
       exact xe [] _ [1] [4,0,3,3,3,0] (hN1 (false) H)
 · intro N0 hN0
   refine xl [0] (ι := Int) (fun v2_11 => ⟨[(0, .pointer (some ⟨m, 0, none⟩)), (1, .slice programsa (List.length programs) programsc), (5, .pointer (some ⟨b1_2, 0, none⟩)), (10, .int .i64 y1_1.lines), (11, .int .i64 v2_11)], [⟨b1_2, #[.int .i64 y1_1.nodes, .int .i64 y1_1.lines, .int .i64 y1_1.words, .int .i64 y1_1.sets, .int .i64 y1_1.ways, .int .i64 y1_1.out, .int .i64 y1_1.inn, .slice t1_1_a0 (List.length y1_1.init) t1_1_c0], 25⟩, ⟨m, #[.pointer (some ⟨m_b_fab, 0, none⟩), .pointer (some ⟨m_b_trace, 0, none⟩), .int .i64 mc.c.nodes, .int .i64 mc.c.lines, .int .i64 mc.c.words, .int .i64 mc.c.sets, .int .i64 mc.c.ways, .int .i64 mc.c.out, .int .i64 mc.c.inn, .slice m_a_c_init (List.length mc.c.init) m_c_c_init, .slice m_a_nodes (List.length m_r_nodes) m_c_nodes], 70⟩], [(ArrA t1_1_a0 t1_1_c0 y1_1.init), (FabA m_b_fab mc.fab), (TraceA m_b_trace mc.trace), (ImmA m_a_c_init m_c_c_init mc.c.init), (ArrA m_a_nodes m_c_nodes m_r_nodes), (StA mc.nodes m_r_nodes), programsA]⟩) (fun m2 v2_11 => wsndS_l2 y1_1 mc (wsndS_j0 mc y1_1 programs) m2 v2_11 = some y) [0,0] [0,0,0,0,0,0,0] ((mc.c.lines.toNat + 1)) ((0 : Int)) H ?_
   rintro N2 (_ | m2) v2_11 H hN2
   · exact (noneE H).elim
   replace H : wsndS_l2 y1_1 mc (wsndS_j0 mc y1_1 programs) (m2 + 1) v2_11 = some y := H
   rw [wsndS_l2] at H
   refine xs [] H ?_ ?_
   · intro H
     refine bindG H fun y5_2 hy5_2 H => ?_
     refine xc [1] [1] [1,1,1,1,1] (wsinF m m_b_fab m_b_trace m_a_c_init m_c_c_init m_a_nodes m_c_nodes m_r_nodes hy5_2) fun _ => ?_
     refine xs [] H ?_ ?_
     · intro H
       exact xrY (someE H) [0,0,0,0,0,0,0,0,0,0,1,1] [] [0] [0,0,0,0,0,1] ()
     · intro H
       refine bindG H fun y5_7 hy5_7 H => ?_
       refine xc [1,1,1] [0] [0,0,0,0,0] (wownF m m_b_fab m_b_trace m_a_c_init m_c_c_init m_a_nodes m_c_nodes m_r_nodes hy5_7) fun _ => ?_
       refine xs [1,1] H ?_ ?_
       · intro H
         refine bindG H fun y5_12 hy5_12 H => ?_
         refine xc [1,1,1] [0] [0,0,0,0,0] (wlistF m m_b_fab m_b_trace m_a_c_init m_c_c_init m_a_nodes m_c_nodes m_r_nodes hy5_12) fun _ => ?_
         refine xs [1,1,1,0] H ?_ ?_
         · intro H
           exact xrY (someE H) [1] [] [0] [0,0,0,0,0,1] ()
         · intro H
           refine chkG H fun q7_0_1 H => ?_
           refine xd [0,0] (ap q7_0_1 an) ?_
           exact xe [] _ [1,0] [5,0,0,0,0,0,0] (hN2 _ (v2_11 + (1 : Int)) (Nat.lt_succ_self _) H)
       · intro H
         refine chkG H fun q7_0_2 H => ?_
         refine xd [0,0,0,0,1,0,0,0,0] (ap q7_0_2 an) ?_
         exact xe [] _ [1,0] [5,0,0,0,0,0,0] (hN2 _ (v2_11 + (1 : Int)) (Nat.lt_succ_self _) H)
   · intro H
     exact xe [0] _ [0,0] [0,0,0,0,0,0,0] (hN0 () H)
end Go.Proofs.YtcidmgkfaioceaaGreat
