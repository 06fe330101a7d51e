/- Walks of the program's functions, and the plain laws of what they compute (part 5): Byt, Byh, Sea, Wir, Crs, Crw, Crp, Crq, Wip, Fbb, Cac, Cad.
   Conditions: none. -/
import Derived.Laws.BytesArg
import Derived.Lib.AppendZeros
import Derived.Laws.BitsAllLaws
import Derived.Lib.Bytes
import Derived.Laws.Bits64
import Derived.Test.YtcidmgkfaioceaaGreatMPass4
set_option linter.unusedVariables false
set_option linter.unusedSimpArgs false
set_option linter.unusedSectionVars false
namespace Go.Proofs.YtcidmgkfaioceaaGreat
open Go Go.RowKit
set_option linter.unusedVariables false
def pflagS (is_ : Bool) : Option (Int) :=
 (bif is_ then some (1 : Int) else some (0 : Int))
set_option maxRecDepth 100000 in
set_option maxHeartbeats 4000000 in
theorem pflagF {is_ : Bool} {y : Int} (H : pflagS is_ = some y) : FnY Tryz.prog 178 [.bool is_] ⟨[], []⟩ (Z := Unit) (fun y _ => .int .u8 y) (fun y _ => ⟨[], []⟩) y := by
 unfold pflagS at H
 refine xfY Tryz.func178 fun W0 F => ?_
 refine xs [] H ?_ ?_
 · intro H
   exact xrY (someE H) [1] [] [] [] ()
 · intro H
   exact xrY (someE H) [0] [] [] [] ()
def pwordS_j0 (e0_3x : List U8) : Option (List U8) :=
 some e0_3x
def pwordS_l1 (n : Int) (k0 : (List U8) → Option (List U8)) : Nat → (List U8) → Int → Option (List U8)
 | 0, _, _ => none
 | m + 1, v1_3x, v1_4 => (bif decide ((0 : Int) ≤ v1_4) then chk (0 ≤ v1_4) (letP (shrI .i64 n v1_4) fun u5_3 => chk ((v1_3x ++ ([IntKind.wrap .u8 u5_3] : List U8)).length ≤ 1099511627776) (letP (v1_3x ++ ([IntKind.wrap .u8 u5_3] : List U8)) fun l5_6 => chk (inR (v1_4 - (8 : Int))) ((pwordS_l1 n k0 m) l5_6 (v1_4 - (8 : Int))))) else k0 v1_3x)
def pwordS (n : Int) : Option (List U8) :=
 pwordS_l1 n pwordS_j0 9 ([] : List U8) (56 : Int)
set_option maxRecDepth 100000 in
set_option maxHeartbeats 4000000 in
theorem pwordF {n : Int} {y : List U8} (H : pwordS n = some y) : FnY Tryz.prog 179 [.int .i64 n] ⟨[], []⟩ (Z := Option Addr × Nat) (fun y (za0, zc0) => .slice za0 (List.length y) zc0) (fun y (za0, zc0) => ⟨[], [(ArrA za0 zc0 y)]⟩) y := by
 unfold pwordS at H
 refine xfY Tryz.func179 fun W0 F => ?_
 refine xj [102] (ι := List U8 × Option Addr × Nat) (fun (e0_3x, e0_3a, e0_3c) => ⟨[(3, .slice e0_3a (List.length e0_3x) e0_3c)], [], [(ArrA e0_3a e0_3c e0_3x)]⟩) (fun (e0_3x, e0_3a, e0_3c) => pwordS_j0 e0_3x = some y) ?_ ?_
 · rintro ⟨e0_3x, e0_3a, e0_3c⟩ H
   replace H : pwordS_j0 e0_3x = some y := H
   rw [pwordS_j0] at H
   exact xrY (someE H) [] [] [] [0] (e0_3a, e0_3c)
 · intro N0 hN0
   refine xg [] [] [] (gh_nil (α := U8) none) fun _ => ?_
   refine xl [] (ι := List U8 × Int × Option Addr × Nat) (fun (v1_3x, v1_4, v1_3a, v1_3c) => ⟨[(0, .int .i64 n), (3, .slice v1_3a (List.length v1_3x) v1_3c), (4, .int .i64 v1_4)], [], [(ArrA v1_3a v1_3c v1_3x)]⟩) (fun m1 (v1_3x, v1_4, v1_3a, v1_3c) => pwordS_l1 n (pwordS_j0) m1 v1_3x v1_4 = some y) [] [0] (9) (([] : List U8), (56 : Int), none, 0) H ?_
   rintro N1 (_ | m1) ⟨v1_3x, v1_4, v1_3a, v1_3c⟩ H hN1
   · exact (noneE H).elim
   replace H : pwordS_l1 n (pwordS_j0) (m1 + 1) v1_3x v1_4 = some y := H
   rw [pwordS_l1] at H
   refine xs [] H ?_ ?_
   · intro H
     refine chkG H fun q5_3_1 H => ?_
     refine letG H fun u5_3 hu5_3 H => ?_
     refine xp [1] (hu5_3 ▸ ov_shr (k := .i64) (yk := .i64) (a := n) (n := v1_4) q5_3_1) ?_
     refine xn [] fun b5_5 => ?_
     refine xg [] [0] [1] (gh_one (α := U8) b5_5 5 (IntKind.wrap .u8 u5_3) ()) fun _ => ?_
     refine chkG H fun q5_6_1 H => ?_
     refine letG H fun l5_6 hl5_6 H => ?_
     refine xa [] [1,0] (a := v1_3a) (l := v1_3x) (zs := l5_6) (cap := v1_3c) (rA (some ⟨b5_5, 0, none⟩) 1 ([IntKind.wrap .u8 u5_3] : List U8)) hl5_6 (hl5_6 ▸ q5_6_1) fun ⟨a5_6, c5_6⟩ => ?_
     refine chkG H fun q4_1_1 H => ?_
     refine xd [0] (ap q4_1_1 an) ?_
     exact xe [] _ [] [0] (hN1 _ (l5_6, v1_4 - (8 : Int), a5_6, c5_6) (Nat.lt_succ_self _) H)
   · intro H
     exact xe [0] _ [] [0] (hN0 (v1_3x, v1_3a, v1_3c) H)
def pnumS_j0 (e0_3 : Int) : Option (Int) :=
 some (wr e0_3)
def pnumS_l1 (b : List U8) (k0 : Int → Option (Int)) : Nat → Int → Int → Option (Int)
 | 0, _, _ => none
 | m + 1, v1_3, v1_8 => (bif decide (v1_8 < (((List.length b) : Nat) : Int)) then chk (0 ≤ v1_8 ∧ v1_8 < ((b.length : Nat) : Int)) (letP (bor .u64 (shlI .u64 v1_3 (8 : Int)) (IntKind.wrap .u64 (nthB b v1_8))) fun u5_4 => chk (inR (v1_8 + (1 : Int))) ((pnumS_l1 b k0 m) u5_4 (v1_8 + (1 : Int)))) else k0 v1_3)
def pnumS (b : List U8) : Option (Int) :=
 pnumS_l1 b pnumS_j0 (List.length b + 1) (0 : Int) (0 : Int)
set_option maxRecDepth 100000 in
set_option maxHeartbeats 4000000 in
theorem pnumF {b : List U8} {bA : Asn} (ba : Option Addr) (bc : Nat) (hbA : Rdb bA ba bc b) {y : Int} (H : pnumS b = some y) : FnY Tryz.prog 183 [.slice ba (List.length b) bc] ⟨[], [bA]⟩ (Z := Unit) (fun y _ => .int .i64 y) (fun y _ => ⟨[], [bA]⟩) y := by
 unfold pnumS at H
 refine xfY Tryz.func183 fun W0 F => ?_
 refine xj [102] (ι := Int) (fun e0_3 => ⟨[(3, .int .u64 e0_3)], [], [bA]⟩) (fun e0_3 => pnumS_j0 e0_3 = some y) ?_ ?_
 · rintro e0_3 H
   replace H : pnumS_j0 e0_3 = some y := H
   rw [pnumS_j0] at H
   exact xrY (someE H) [] [] [] [0] ()
 · intro N0 hN0
   refine xl [] (ι := Int × Int) (fun (v1_3, v1_8) => ⟨[(3, .int .u64 v1_3), (6, .slice ba (List.length b) bc), (7, .int .i64 (((List.length b) : Nat) : Int)), (8, .int .i64 v1_8)], [], [bA]⟩) (fun m1 (v1_3, v1_8) => pnumS_l1 b (pnumS_j0) m1 v1_3 v1_8 = some y) [] [0] ((List.length b + 1)) ((0 : Int), (0 : Int)) H ?_
   rintro N1 (_ | m1) ⟨v1_3, v1_8⟩ H hN1
   · exact (noneE H).elim
   replace H : pnumS_l1 b (pnumS_j0) (m1 + 1) v1_3 v1_8 = some y := H
   rw [pnumS_l1] at H
   refine xs [] H ?_ ?_
   · intro H
     refine chkG H fun q4_0_1 H => ?_
     refine xi [1] 0 hbA q4_0_1 fun b1 o1 e1 => ?_
     refine xpl [] 0 (ol_ld hbA e1 q4_0_1 0 (fun _ => rfl)) ?_
     refine letG H fun u5_4 hu5_4 H => ?_
     refine xw [307] 16 (congrArg (Value.int .u64) hu5_4) ?_
     refine chkG H fun q6_0_1 H => ?_
     refine xd [0] (ap q6_0_1 an) ?_
     exact xe [] _ [] [0] (hN1 _ (u5_4, v1_8 + (1 : Int)) (Nat.lt_succ_self _) H)
   · intro H
     exact xe [0] _ [] [0] (hN0 (v1_3) H)
def csumS_j0 (e0_3 : Int) : Option (Int) :=
 some e0_3
def csumS_j2 (v1_9 : Int) (r1 : Int → Int → Option (Int)) (e2_3 : Int) : Option (Int) :=
 chk (inR (v1_9 + (1 : Int))) (r1 e2_3 (v1_9 + (1 : Int)))
def csumS_l3 (k2 : Int → Option (Int)) : Nat → Int → Int → Option (Int)
 | 0, _, _ => none
 | m + 1, v3_3, v3_18 => (bif decide (v3_18 < (8 : Int)) then letP (IntKind.wrap .u16 ((shrI .u16 v3_3 (15 : Int)) * (4129 : Int))) fun u9_3 => letP (bxor .u16 (shlI .u16 v3_3 (1 : Int)) u9_3) fun u9_4 => chk (inR (v3_18 + (1 : Int))) ((csumS_l3 k2 m) u9_4 (v3_18 + (1 : Int))) else k2 v3_3)
def csumS_l1 (b : List U8) (k0 : Int → Option (Int)) : Nat → Int → Int → Option (Int)
 | 0, _, _ => none
 | m + 1, v1_3, v1_9 => (bif decide (v1_9 < (((List.length b) : Nat) : Int)) then chk (0 ≤ v1_9 ∧ v1_9 < ((b.length : Nat) : Int)) (letP (shlI .u16 (IntKind.wrap .u16 (nthB b v1_9)) (8 : Int)) fun u5_3 => csumS_l3 (csumS_j2 v1_9 (csumS_l1 b k0 m)) 9 (bxor .u16 v1_3 u5_3) (0 : Int)) else k0 v1_3)
def csumS (b : List U8) : Option (Int) :=
 csumS_l1 b csumS_j0 (List.length b + 1) (65535 : Int) (0 : Int)
set_option maxRecDepth 100000 in
set_option maxHeartbeats 4000000 in
theorem csumF {b : List U8} {bA : Asn} (ba : Option Addr) (bc : Nat) (hbA : Rdb bA ba bc b) {y : Int} (H : csumS b = some y) : FnY Tryz.prog 214 [.slice ba (List.length b) bc] ⟨[], [bA]⟩ (Z := Unit) (fun y _ => .int .u16 y) (fun y _ => ⟨[], [bA]⟩) y := by
 unfold csumS at H
 refine xfY Tryz.func214 fun W0 F => ?_
 refine xj [102] (ι := Int) (fun e0_3 => ⟨[(3, .int .u16 e0_3)], [], [bA]⟩) (fun e0_3 => csumS_j0 e0_3 = some y) ?_ ?_
 · rintro e0_3 H
   replace H : csumS_j0 e0_3 = some y := H
   rw [csumS_j0] at H
   exact xrY (someE H) [] [] [] [0] ()
 · intro N0 hN0
   refine xl [] (ι := Int × Int) (fun (v1_3, v1_9) => ⟨[(3, .int .u16 v1_3), (7, .slice ba (List.length b) bc), (8, .int .i64 (((List.length b) : Nat) : Int)), (9, .int .i64 v1_9)], [], [bA]⟩) (fun m1 (v1_3, v1_9) => csumS_l1 b (csumS_j0) m1 v1_3 v1_9 = some y) [] [0] ((List.length b + 1)) ((65535 : Int), (0 : Int)) H ?_
   rintro N1 (_ | m1) ⟨v1_3, v1_9⟩ H hN1
   · exact (noneE H).elim
   replace H : csumS_l1 b (csumS_j0) (m1 + 1) v1_3 v1_9 = some y := H
   rw [csumS_l1] at H
   refine xs [] H ?_ ?_
   · intro H
     refine xj [1,100] (ι := Int) (fun e2_3 => ⟨[(3, .int .u16 e2_3), (7, .slice ba (List.length b) bc), (8, .int .i64 (((List.length b) : Nat) : Int)), (9, .int .i64 v1_9)], [], [bA]⟩) (fun e2_3 => csumS_j2 v1_9 (csumS_l1 b (csumS_j0) m1) e2_3 = some y) ?_ ?_
     · rintro e2_3 H
       replace H : csumS_j2 v1_9 (csumS_l1 b (csumS_j0) m1) e2_3 = some y := H
       rw [csumS_j2] at H
       refine chkG H fun q11_0_1 H => ?_
       refine xd [0] (ap q11_0_1 an) ?_
       exact xe [] _ [] [0] (hN1 _ (e2_3, v1_9 + (1 : Int)) (Nat.lt_succ_self _) H)
     · intro N2 hN2
       refine chkG H fun q4_0_1 H => ?_
       refine xi [] 0 hbA q4_0_1 fun b1 o1 e1 => ?_
       refine xpl [] 0 (ol_ld hbA e1 q4_0_1 0 (fun _ => rfl)) ?_
       refine letG H fun u5_3 hu5_3 H => ?_
       refine xw [306] 16 (congrArg (Value.int .u16) hu5_3) ?_
       refine xl [] (ι := Int × Int) (fun (v3_3, v3_18) => ⟨[(3, .int .u16 v3_3), (7, .slice ba (List.length b) bc), (8, .int .i64 (((List.length b) : Nat) : Int)), (9, .int .i64 v1_9), (18, .int .i64 v3_18)], [], [bA]⟩) (fun m3 (v3_3, v3_18) => csumS_l3 (csumS_j2 v1_9 (csumS_l1 b (csumS_j0) m1)) m3 v3_3 v3_18 = some y) [] [0] (9) (bxor .u16 v1_3 u5_3, (0 : Int)) H ?_
       rintro N3 (_ | m3) ⟨v3_3, v3_18⟩ H hN3
       · exact (noneE H).elim
       replace H : csumS_l3 (csumS_j2 v1_9 (csumS_l1 b (csumS_j0) m1)) (m3 + 1) v3_3 v3_18 = some y := H
       rw [csumS_l3] at H
       refine xs [] H ?_ ?_
       · intro H
         refine letG H fun u9_3 hu9_3 H => ?_
         refine xw [1,1,300] 25 (congrArg (Value.int .u16) hu9_3) ?_
         refine letG H fun u9_4 hu9_4 H => ?_
         refine xw [301] 26 (congrArg (Value.int .u16) hu9_4) ?_
         refine chkG H fun q10_0_1 H => ?_
         refine xd [0] (ap q10_0_1 an) ?_
         exact xe [] _ [] [0] (hN3 _ (u9_4, v3_18 + (1 : Int)) (Nat.lt_succ_self _) H)
       · intro H
         exact xe [0] _ [] [0] (hN2 (v3_3) H)
   · intro H
     exact xe [0] _ [] [0] (hN0 (v1_3) H)
def cspoilS_j0 (e0_7x : List U8) : Option (List U8) :=
 some e0_7x
def cspoilS_j2 (v1_14 : Int) (r1 : (List U8) → Int → Int → Option (List U8)) (v1_13 : Int) (e2_7x : List U8) : Option (List U8) :=
 chk (inR (v1_14 + (1 : Int))) (r1 e2_7x v1_13 (v1_14 + (1 : Int)))
def cspoilS_j3 (k2 : (List U8) → Option (List U8)) (v1_7x : List U8) (v1_14 : Int) (mask : Int) (bit : Int) (e3_26 : Bool) : Option (List U8) :=
 (bif e3_26 then k2 v1_7x else chk (0 ≤ v1_14 ∧ v1_14 < ((v1_7x.length : Nat) : Int)) (letP (shlI .u32 (IntKind.wrap .u32 mask) (8 : Int)) fun u7_8 => letP (wr ((wr (((8 : Int) * v1_14) - bit)) + (8 : Int))) fun u7_10 => chk (0 ≤ u7_10) (letP (shlI .u32 u7_8 u7_10) fun u7_11 => letP (bxor .u8 (nthB v1_7x v1_14) (IntKind.wrap .u8 (shrI .u32 u7_11 (24 : Int)))) fun u7_14 => chk (0 ≤ v1_14 ∧ v1_14 < ((v1_7x.length : Nat) : Int)) (letP (setT v1_7x v1_14 u7_14) fun l7_16 => k2 l7_16))))
def cspoilS_l1 (bit : Int) (mask : Int) (k0 : (List U8) → Option (List U8)) : Nat → (List U8) → Int → Int → Option (List U8)
 | 0, _, _, _ => none
 | m + 1, v1_7x, v1_13, v1_14 => (bif decide (v1_14 < v1_13) then chk (inR ((8 : Int) * v1_14)) ((bif decide ((wr (((8 : Int) * v1_14) - bit)) ≤ ((-8) : Int)) then (cspoilS_j3 (cspoilS_j2 v1_14 (cspoilS_l1 bit mask k0 m) v1_13) v1_7x v1_14 mask bit) true else (cspoilS_j3 (cspoilS_j2 v1_14 (cspoilS_l1 bit mask k0 m) v1_13) v1_7x v1_14 mask bit) (decide ((16 : Int) ≤ (wr (((8 : Int) * v1_14) - bit)))))) else k0 v1_7x)
def cspoilS (b : List U8) (bit : Int) (mask : Int) : Option (List U8) :=
 (cloneBS b).bind fun y1_1 => cspoilS_l1 bit mask cspoilS_j0 (List.length b + 1) y1_1 (((List.length y1_1) : Nat) : Int) (0 : Int)
set_option maxRecDepth 100000 in
set_option maxHeartbeats 4000000 in
theorem cspoilF {b : List U8} {bA : Asn} {bit : Int} {mask : Int} (ba : Option Addr) (bc : Nat) (hbA : Rdb bA ba bc b) {y : List U8} (H : cspoilS b bit mask = some y) : FnY Tryz.prog 138 [.slice ba (List.length b) bc, .int .i64 bit, .int .u16 mask] ⟨[], [bA]⟩ (Z := Option Addr × Nat) (fun y (za0, zc0) => .slice za0 (List.length y) zc0) (fun y (za0, zc0) => ⟨[], [(ArrA za0 zc0 y), bA]⟩) y := by
 unfold cspoilS at H
 refine xfY Tryz.func138 fun W0 F => ?_
 refine bindG H fun y1_1 hy1_1 H => ?_
 refine xc [] [] [0] (cloneBF ba bc hbA hy1_1) fun ⟨t1_1_a0, t1_1_c0⟩ => ?_
 refine xj [100] (ι := List U8 × Option Addr × Nat) (fun (e0_7x, e0_7a, e0_7c) => ⟨[(7, .slice e0_7a (List.length e0_7x) e0_7c)], [], [(ArrA e0_7a e0_7c e0_7x), bA]⟩) (fun (e0_7x, e0_7a, e0_7c) => cspoilS_j0 e0_7x = some y) ?_ ?_
 · rintro ⟨e0_7x, e0_7a, e0_7c⟩ H
   replace H : cspoilS_j0 e0_7x = some y := H
   rw [cspoilS_j0] at H
   exact xrY (someE H) [] [] [] [0,0] (e0_7a, e0_7c)
 · intro N0 hN0
   refine xl [] (ι := List U8 × Int × Int × Option Addr × Nat) (fun (v1_7x, v1_13, v1_14, v1_7a, v1_7c) => ⟨[(1, .int .i64 bit), (2, .int .u16 mask), (7, .slice v1_7a (List.length v1_7x) v1_7c), (13, .int .i64 v1_13), (14, .int .i64 v1_14)], [], [(ArrA v1_7a v1_7c v1_7x), bA]⟩) (fun m1 (v1_7x, v1_13, v1_14, v1_7a, v1_7c) => cspoilS_l1 bit mask (cspoilS_j0) m1 v1_7x v1_13 v1_14 = some y) [] [0,0] ((List.length b + 1)) (y1_1, (((List.length y1_1) : Nat) : Int), (0 : Int), t1_1_a0, t1_1_c0) H ?_
   rintro N1 (_ | m1) ⟨v1_7x, v1_13, v1_14, v1_7a, v1_7c⟩ H hN1
   · exact (noneE H).elim
   replace H : cspoilS_l1 bit mask (cspoilS_j0) (m1 + 1) v1_7x v1_13 v1_14 = some y := H
   rw [cspoilS_l1] at H
   refine xs [] H ?_ ?_
   · intro H
     refine xj [1,100] (ι := List U8 × Option Addr × Nat) (fun (e2_7x, e2_7a, e2_7c) => ⟨[(1, .int .i64 bit), (2, .int .u16 mask), (7, .slice e2_7a (List.length e2_7x) e2_7c), (13, .int .i64 v1_13), (14, .int .i64 v1_14)], [], [(ArrA e2_7a e2_7c e2_7x), bA]⟩) (fun (e2_7x, e2_7a, e2_7c) => cspoilS_j2 v1_14 (cspoilS_l1 bit mask (cspoilS_j0) m1) v1_13 e2_7x = some y) ?_ ?_
     · rintro ⟨e2_7x, e2_7a, e2_7c⟩ H
       replace H : cspoilS_j2 v1_14 (cspoilS_l1 bit mask (cspoilS_j0) m1) v1_13 e2_7x = some y := H
       rw [cspoilS_j2] at H
       refine chkG H fun q8_0_1 H => ?_
       refine xd [0] (ap q8_0_1 an) ?_
       exact xe [] _ [] [0,0] (hN1 _ (e2_7x, v1_13, v1_14 + (1 : Int), e2_7a, e2_7c) (Nat.lt_succ_self _) H)
     · intro N2 hN2
       refine chkG H fun q5_1_1 H => ?_
       refine xd [0,1,101] (ap q5_1_1 an) ?_
       refine xj [100] (ι := Bool) (fun e3_26 => ⟨[(1, .int .i64 bit), (2, .int .u16 mask), (7, .slice v1_7a (List.length v1_7x) v1_7c), (8, .int .i64 v1_14), (9, .int .i64 (wr (((8 : Int) * v1_14) - bit))), (13, .int .i64 v1_13), (14, .int .i64 v1_14), (26, .bool e3_26)], [], [(ArrA v1_7a v1_7c v1_7x), bA]⟩) (fun e3_26 => cspoilS_j3 (cspoilS_j2 v1_14 (cspoilS_l1 bit mask (cspoilS_j0) m1) v1_13) v1_7x v1_14 mask bit e3_26 = some y) ?_ ?_
       · rintro e3_26 H
         replace H : cspoilS_j3 (cspoilS_j2 v1_14 (cspoilS_l1 bit mask (cspoilS_j0) m1) v1_13) v1_7x v1_14 mask bit e3_26 = some y := H
         rw [cspoilS_j3] at H
         refine xs [] H ?_ ?_
         · intro H
           exact xe [1] _ [] [0,0] (hN2 (v1_7x, v1_7a, v1_7c) H)
         · intro H
           refine chkG H fun q7_4_1 H => ?_
           refine xi [0,0,1,2,3,4] 0 (rA v1_7a v1_7c v1_7x) q7_4_1 fun b1 o1 e1 => ?_
           refine xpl [5] 0 (ol_ld (rA v1_7a v1_7c v1_7x) e1 q7_4_1 0 (fun _ => rfl)) ?_
           refine letG H fun u7_8 hu7_8 H => ?_
           refine xw [6,7,8] 35 (congrArg (Value.int .u32) hu7_8) ?_
           refine letG H fun u7_10 hu7_10 H => ?_
           refine xw [9,10,1] 37 (congrArg (Value.int .i64) hu7_10) ?_
           refine chkG H fun q7_11_1 H => ?_
           refine letG H fun u7_11 hu7_11 H => ?_
           refine xp [11] (hu7_11 ▸ ov_shl (k := .u32) (yk := .i64) (a := u7_8) (n := u7_10) q7_11_1) ?_
           refine letG H fun u7_14 hu7_14 H => ?_
           refine xw [12,13,14] 41 (congrArg (Value.int .u8) hu7_14) ?_
           refine chkG H fun q7_15_1 H => ?_
           refine xi [15] 0 (rA v1_7a v1_7c v1_7x) q7_15_1 fun b2 o2 e2 => ?_
           refine letG H fun l7_16 hl7_16 H => ?_
           refine xo [16] [] [0,2] (oc_st (α := U8) (cap := v1_7c) (e := u7_14) () e2 q7_15_1 hl7_16) fun _ => ?_
           refine xw [] 7 (congrArg (fun n : Nat => (.slice v1_7a n v1_7c : Value)) (set_len hl7_16)) ?_
           refine xw [] 27 (congrArg (fun n : Nat => (.slice v1_7a n v1_7c : Value)) (set_len hl7_16)) ?_
           refine xw [] 29 (congrArg (fun n : Nat => (.slice v1_7a n v1_7c : Value)) (set_len hl7_16)) ?_
           exact xe [] _ [] [0,0] (hN2 (l7_16, v1_7a, v1_7c) H)
       · intro N3 hN3
         refine xs [] H ?_ ?_
         · intro H
           exact xe [0,0,1] _ [] [0,0] (hN3 (true) H)
         · intro H
           exact xe [1,1,0] _ [] [0,0] (hN3 (decide ((16 : Int) ≤ (wr (((8 : Int) * v1_14) - bit)))) H)
   · intro H
     exact xe [0] _ [] [0,0] (hN0 (v1_7x, v1_7a, v1_7c) H)
end Go.Proofs.YtcidmgkfaioceaaGreat
namespace Go.Proofs.YtcidmgkfaioceaaGreat
open Go Go.RowKit
set_option linter.unusedVariables false
set_option linter.unusedSimpArgs false
theorem gh_sub {α : Type} [Rw α] {a a' : Option Addr} {cap cap' : Nat} {l l' : List α} (h : Rdb (ImmA a cap l) a' cap' l') : Gh ⟨[], [ImmA a cap l]⟩ fun _ : Unit => ⟨[], [ImmA a' cap' l', ImmA a cap l]⟩ := by
  intro W0 Γ w hw
  refine ⟨(), ?_⟩
  have h1 : Sat W0 (ImmA a cap l :: Γ) w := hw
  exact h1.imp fun S I q => by
    obtain ⟨S1, S2, p1, p2, p3, p4, p5⟩ := q
    have p4' : (ImmA a cap l).holds (fun _ => False) I _ := p4
    obtain ⟨r1, xs, r2, r3, r4, r5⟩ := h.rd _ _ _ p4'
    refine ⟨fun _ => False, S, fun _ h => h.elim, fun _ h => h, fun _ h _ => h, ⟨r1, xs, r2, ⟨r3, ?_⟩, r5⟩, S1, S2, p1, p2, p3, p4, p5⟩
    rcases r4 with r4 | ⟨b, off, c, T, fr, e1, e2, e3, e4⟩
    · exact .inl r4
    · exact .inr ⟨b, off, c, T, fr, e1, e2.elim (fun h => h.elim) id, e3, e4⟩
theorem nthT_getD (l : List Int) (i : Nat) : nthT (α := U8) l ((i : Nat) : Int) = l.getD i 0 := by
  show (l[((i : Nat) : Int).toNat]?).getD _ = _
  simp [List.getD_eq_getElem?_getD]
  rfl
theorem ol_str {P : Program} {A : Asn} {a : Option Addr} {cap : Nat} {l : List U8} (hA : Rdb A a cap l) (src e dst : TypeId) (hs : P.underlying src = some (.slice e)) (he : P.underlying e = some (.int .u8)) (hd : P.underlying dst = some .string) :
    Ol P (convert src dst (.slice a l.length cap) >>= fun v => pure (Next.value v)) A (.string (strOfNums l)) := by
  intro W0 Γ w hw
  refine run_seq ?_ rfl
  obtain ⟨xs, q1, h⟩ := Sat.read hA hw
  obtain ⟨S, I, ⟨S1, S2, p1, p2, p3, ⟨p4, p5, p6, p7⟩, p8⟩, r⟩ := h
  rcases p6 with p6 | ⟨b, off, cc, T, fr, e1, _, e3, e4⟩
  · have h0 := rowsOf_len q1
    rw [p6] at h0
    obtain rfl : l = [] := List.eq_nil_of_length_eq_zero h0.symm
    show (convert src dst (.slice a 0 cap)).run P w = .ok (.string ByteArray.empty) w
    rw [run_convert_bytes_string w src dst e _ 0 cap hs he hd]
    cases a <;> simp [Conv.bytesToString, loadCells] <;> rfl
  · rw [e1]
    refine run_convert_bytes_arg (P := P) w src e hs he b off l.length cap l rfl (fun i hi => ?_) dst hd
    rw [cell_of e3]
    have hg : l[i]? = some l[i] := List.getElem?_eq_getElem hi
    obtain ⟨x, hx⟩ := getX q1 hg
    have hrow := rowsOf_get hg hx
    have h1 := flatten_get (i := i) (j := 0) (k := Rw.k U8) rowsOf_k hrow (v := .int .u8 l[i]) rfl
    have h2 := e4 _ _ h1
    have e5 : i * Rw.k U8 + 0 = i := by show i * 1 + 0 = i; omega
    rw [e5] at h2
    rw [h2]
    have hgd : ∀ (m : List Int) (i : Nat) (hi : i < m.length), m[i] = m.getD i 0 := by intro m i h; simp [List.getD_eq_getElem?_getD, h]
    exact congrArg (fun n => some (Value.int .u8 n)) (hgd l i hi)
theorem bifS' (t : Bool) : (bif t then some true else some false) = some t := by cases t <;> rfl
def oneOf (P : Program) (e : TypeId) : Bool :=
  match P.info? e with
  | some i => (match i.zero with | some z => Nat.beq z.cells.size 1 | none => false) && Nat.beq i.size 1 && Nat.ble i.bytes 128
  | none => false
theorem oneOf_some {P : Program} {e : TypeId} (h : oneOf P e = true) : ∃ i z, P.info? e = some i ∧ i.zero = some z ∧ z.cells.size = 1 ∧ i.size = 1 ∧ i.bytes ≤ 128 := by
  unfold oneOf at h
  split at h
  · rename_i i hi
    simp only [Bool.and_eq_true] at h
    obtain ⟨⟨h1, h2⟩, h3⟩ := h
    split at h1
    · rename_i z hz
      exact ⟨i, z, hi, hz, Nat.eq_of_beq_eq_true h1, Nat.eq_of_beq_eq_true h2, Nat.le_of_ble_eq_true h3⟩
    · cases h1
  · cases h
theorem oc_zeros {P : Program} (t tn ty e : Nat) (kn : IntKind) (ht : P.underlying t = some (.slice e)) (htn : P.underlying tn = some (.int kn)) {n : Int} (h0 : 0 < n) (hn : n ≤ 1099511627776) (hok : oneOf P e = true := by kernel_rfl) :
    Oc P (Builtin.append_ #[t, tn] ty #[.slice none 0 0, .int .i64 n] >>= fun v => pure (Next.value v)) ⟨[], []⟩ (fun z : Option Addr × Nat => .slice z.1 n.toNat z.2) (fun z => ⟨[], [ArrA z.1 z.2 ([] : List U8)]⟩) := by
  obtain ⟨i, z, hi, hz, hzs, hs, hb⟩ := oneOf_some hok
  intro W0 Γ w hw
  have hm : (n.toNat : Int) = n := by omega
  have hw0 : Sat W0 Γ w := hw
  have hrun := Lib.run_append_nil_zeros (P := P) w t tn ty e i z .i64 kn ht htn hi hz n.toNat (by omega) (by omega) (by omega) (by have := Nat.mul_le_mul (show n.toNat ≤ 1099511627776 by omega) hb; omega)
  rw [hm] at hrun
  refine ⟨(some ⟨w.heap.size, 0, none⟩, grownCap w n.toNat 0 e), _, _, run_seq hrun rfl, .inl rfl, ?_⟩
  have h9 := (hw0.drew).alloc (.cells (Builtin.zeroCells z.cells n.toNat ++ Builtin.zeroCells z.cells (grownCap w n.toNat 0 e - n.toNat)) e)
  have hge := grownCap_ge w n.toNat 0 e
  refine Sat.head_imp (A := Asn.own w.heap.size (.cells (Builtin.zeroCells z.cells n.toNat ++ Builtin.zeroCells z.cells (grownCap w n.toNat 0 e - n.toNat)) e)) (B := ArrA (some ⟨w.heap.size, 0, none⟩) (grownCap w n.toNat 0 e) ([] : List U8)) (fun S I h ⟨k1, k2⟩ => ⟨[], rfl, ⟨fun r hr => by simp [rowsOf] at hr, .inr ⟨w.heap.size, 0, _, e, rfl, k1, k2, by simp [rowsOf], ?_, fun j v hj => by simp [rowsOf] at hj⟩⟩, fun i a x h => by simp at h⟩) h9
  simp only [Array.size_append, size_zeroCells, hzs]
  show 0 + grownCap w n.toNat 0 e * 1 ≤ _
  omega
theorem ov_sl {P : Program} (t E : Nat) (ht : P.underlying t = some (.slice E)) {a : Option Addr} {m c : Nat} {n : Int} (h0 : 0 ≤ n) (hn : n ≤ c) (hok : (P.info? E).isSome = true := by kernel_rfl) :
    Ov P (Instr.sliceAt t (.slice a m c) none (some (.int .i64 n)) none >>= fun v => pure (Next.value v)) (.slice a n.toNat c) := by
  intro w
  obtain ⟨info, hi⟩ := Option.isSome_iff_exists.1 hok
  have h := slice_at (P := P) (e := []) (t := t) (E := E) (a := a) (m := m) (c := c) (sz := info.size) (lo := 0) (hi := n.toNat) (mx := c) (o := bare (.slice t (.const (.slice a m c)) none (some (.const (.int .i64 n))) none) 0) none (some (.int .i64 n)) none info (fun _ => rfl) ht hi rfl (.inl ⟨rfl, rfl⟩) (.inr ⟨n, rfl, by omega⟩) (.inl ⟨rfl, rfl⟩) (by omega) (by omega) (by omega) w
  refine h.trans ?_
  have e : (if c = 0 then a else a.map (·.add (0 * info.size))) = a := by
    split
    · rfl
    · cases a with
      | none => rfl
      | some x => simp [Addr.add]
  rw [e]
  simp
set_option maxRecDepth 100000 in
set_option maxHeartbeats 4000000 in
theorem growF {n : Int} (h0 : 0 ≤ n) (hn : n ≤ 1099511627776) : FnY Tryz.prog 235 [.slice none 0 0, .int .i64 n] ⟨[], []⟩ (Z := Option Addr × Nat) (fun _ z => .slice z.1 0 z.2) (fun _ z => ⟨[], [ArrA z.1 z.2 ([] : List U8)]⟩) () := by
 refine xfY Tryz.func235 fun W0 F => ?_
 refine xs [] (bifS' (decide (n < 0))) ?_ ?_
 · intro H
   have h1 : n < 0 := by simpa using H
   omega
 · intro _
   refine xw [0,1,1,300] 14 (congrArg (Value.int .i64) (show wr (n - wr (((0 : Nat) : Int) - ((0 : Nat) : Int))) = n by rw [show wr (((0 : Nat) : Int) - ((0 : Nat) : Int)) = 0 by rfl, wr_in (by omega) (by omega)]; omega)) ?_
   refine xs [] (bifS' (decide (0 < n))) ?_ ?_
   · intro H
     have h1 : 0 < n := by simpa using H
     refine xp [1] (ov_sl (a := none) (m := 0) (c := 0) (n := ((0 : Nat) : Int)) 222 5 Tryz.underlying222 (by omega) (by omega)) ?_
     refine xo [] [] [] (oc_zeros 222 3 222 5 .i64 Tryz.underlying222 Tryz.underlying3 h1 hn) fun ⟨a, c⟩ => ?_
     refine xp [] (ov_sl (a := a) (m := n.toNat) (c := c) (n := ((0 : Nat) : Int)) 222 5 Tryz.underlying222 (by omega) (by omega)) ?_
     exact xrY rfl [] [] [] [0] (a, c)
   · intro _
     refine xg [0] [] [] (gh_nil (α := U8) none) fun _ => ?_
     exact xrY rfl [] [] [] [0] (none, 0)
def bEqS (a b : List U8) : Option Bool := some ((strOfNums a).toList == (strOfNums b).toList)
set_option maxRecDepth 100000 in
set_option maxHeartbeats 4000000 in
theorem bEqF {a b : List U8} {aA bA : Asn} (aa : Option Addr) (ac : Nat) (ba : Option Addr) (bc : Nat) (haA : Rdb aA aa ac a) (hbA : Rdb bA ba bc b) {y : Bool} (H : bEqS a b = some y) : FnY Tryz.prog 184 [.slice aa (List.length a) ac, .slice ba (List.length b) bc] ⟨[], [aA, bA]⟩ (Z := Unit) (fun y _ => .bool y) (fun y _ => ⟨[], [aA, bA]⟩) y := by
 unfold bEqS at H
 refine xfY Tryz.func184 fun W0 F => ?_
 refine xpl [303] 0 (ol_str haA 222 5 9 Tryz.underlying222 Tryz.underlying5 Tryz.underlying9) ?_
 refine xpl [301] 1 (ol_str hbA 222 5 9 Tryz.underlying222 Tryz.underlying5 Tryz.underlying9) ?_
 exact xrY (someE H) [] [] [] [0,0] ()
theorem ov_slG {P : Program} (t E : Nat) (ht : P.underlying t = some (.slice E)) {a : Option Addr} {m c : Nat} (lo hi mx : Option Int) (lo' hi' mx' : Nat) (h1 : lo.getD 0 = (lo' : Nat)) (h2 : hi.getD ((m : Nat) : Int) = (hi' : Nat)) (h3 : mx.getD ((c : Nat) : Int) = (mx' : Nat)) (hh : hi = none → mx = none)
    (h4 : lo' ≤ hi') (h5 : hi' ≤ mx') (h6 : mx' ≤ c) (hok : oneOf P E = true := by kernel_rfl) :
    Ov P (Instr.sliceAt t (.slice a m c) (lo.map (.int .i64)) (hi.map (.int .i64)) (mx.map (.int .i64)) >>= fun v => pure (Next.value v)) (.slice (if mx' = lo' then a else a.map (·.add (lo' * 1))) (hi' - lo') (mx' - lo')) := by
  intro w
  obtain ⟨info, z, hi0, _, _, hs, _⟩ := oneOf_some hok
  refine Eq.trans ?_ (slice_at (P := P) (e := []) (t := t) (E := E) (a := a) (m := m) (c := c) (sz := 1) (lo := lo') (hi := hi') (mx := mx') (o := bare (.slice t (.const (.slice a m c)) (lo.map fun n => .const (.int .i64 n)) (hi.map fun n => .const (.int .i64 n)) (mx.map fun n => .const (.int .i64 n))) 0) (lo.map (.int .i64)) (hi.map (.int .i64)) (mx.map (.int .i64)) info (fun _ => ?_) ht hi0 hs ?_ ?_ ?_ h4 h5 h6 w)
  · cases lo <;> cases hi <;> cases mx <;> rfl
  · cases lo <;> cases hi <;> cases mx <;> rfl
  · cases lo with
    | none => exact .inl ⟨rfl, by simp at h1; omega⟩
    | some x => exact .inr ⟨x, rfl, h1⟩
  · cases hi with
    | none => exact .inl ⟨rfl, by simp at h2; omega, by rw [hh rfl]; rfl⟩
    | some x => exact .inr ⟨x, rfl, h2⟩
  · cases mx with
    | none => exact .inl ⟨rfl, by simp at h3; omega⟩
    | some x => exact .inr ⟨x, rfl, h3⟩
def chA (a : Option Addr) (k : Nat) : Option Addr := a.map (·.add (8 * k * 1))
theorem rdb_ch {X : Asn} {a : Option Addr} {c N k : Nat} {l : List U8} (hX : Rdb X a c l) (hl : l.length = 8 * N) (hk : k < N) : Rdb X (chA a k) 8 ((l.drop (8 * k)).take 8) := by
  have h := rdb_part (lo := 8 * k) (hi := 8 * k + 8) (mx := 8 * k + 8) (l' := (l.drop (8 * k)).take 8) hX (by decide) (by omega) (by omega) (by omega) (by rw [show 8 * k + 8 - 8 * k = 8 by omega])
  rw [if_neg (by omega), show 8 * k + 8 - 8 * k = 8 by omega] at h
  exact h
set_option maxRecDepth 100000 in
set_option maxHeartbeats 4000000 in
theorem chunkIt (b1 b2 : Nat) (a : Option Addr) (c N : Nat) (l : List U8) {X : Asn} (hX : Rdb X a c l) (hl : l.length = 8 * N) (hc : l.length ≤ c) (hn : l.length ≤ 1099511627776) : ItFn Tryz.prog 216 [.pointer (some ⟨b1, 0, none⟩), .pointer (some ⟨b2, 0, none⟩)] ⟨[⟨b1, #[.slice a (List.length l) c], 222⟩, ⟨b2, #[.int .i64 (8 : Int)], 3⟩], [X]⟩ (fun i => [.slice (chA a i) 8 8]) N := by
 refine xfI Tryz.func216 fun W0 F y Ω hY => ?_
 refine xl [] (ι := Nat) (fun k => ⟨[(0, .func (.yield y) #[] #[]), (1, .pointer (some ⟨b1, 0, none⟩)), (2, .pointer (some ⟨b2, 0, none⟩)), (4, .int .i64 (((8 * k : Nat) : Nat) : Int))], [⟨b1, #[.slice a (List.length l) c], 222⟩, ⟨b2, #[.int .i64 (8 : Int)], 3⟩], [Ω k, X]⟩) (fun m k => k ≤ N ∧ N < m + k) [0,0] [0,0] (N + 1) 0 ⟨by omega, by omega⟩ ?_
 rintro N1 m k ⟨h1, h2⟩ hN
 refine xs [0] (bifS' (decide ((((8 * k : Nat) : Nat) : Int) < ((List.length l : Nat) : Int)))) ?_ ?_
 · intro H
   have hk : k < N := by have : ((8 * k : Nat) : Int) < ((List.length l : Nat) : Int) := by simpa using H
                         omega
   refine xp [1,0,1,1,0,2,3] (ov_slG (a := a) 222 5 Tryz.underlying222 (some (((8 * k : Nat) : Nat) : Int)) none none (8 * k) l.length c rfl rfl rfl (fun _ => rfl) (by omega) hc (Nat.le_refl _)) ?_
   refine xw [4,5] 18 (v' := .int .i64 8) (congrArg (Value.int .i64) (show (if (((l.length - 8 * k : Nat)) : Int) < 8 then (((l.length - 8 * k : Nat)) : Int) else 8) = 8 by rw [if_neg (by omega)])) ?_
   refine xd [6,0,0,0] (ap (show inR (((8 * k : Nat) : Int) + 8) by unfold inR; omega) (ap (show inR (((8 * k : Nat) : Int) + 8) by unfold inR; omega) an)) ?_
   refine xp [] (ov_slG (a := a) (m := l.length) (c := c) 222 5 Tryz.underlying222 (some (((8 * k : Nat) : Nat) : Int)) (some ((((8 * k : Nat) : Nat) : Int) + 8)) (some ((((8 * k : Nat) : Nat) : Int) + 8)) (8 * k) (8 * k + 8) (8 * k + 8) rfl rfl rfl (fun h => by cases h) (by omega) (Nat.le_refl _) (by omega)) ?_
   refine xw [300] 28 (v := .slice (if 8 * k + 8 = 8 * k then a else a.map (·.add (8 * k * 1))) (8 * k + 8 - 8 * k) (8 * k + 8 - 8 * k)) (v' := .slice (chA a k) 8 8) (by rw [if_neg (by omega), show 8 * k + 8 - 8 * k = 8 by omega]; rfl) ?_
   refine xy hY k hk [] [0,0] [0,0] ?_
   refine xd [0,1,0] (ap (show inR (((8 * k : Nat) : Int) + 8) by unfold inR; omega) an) ?_
   refine xw [300] 4 (congrArg (Value.int .i64) (show ((8 * k : Nat) : Int) + 8 = ((8 * (k + 1) : Nat) : Int) by omega)) ?_
   exact xe [] _ [0,0] [0,0] (hN (m - 1) (k + 1) (by omega) ⟨by omega, by omega⟩)
 · intro H
   have h3 : k = N := by have : ¬ ((8 * k : Nat) : Int) < ((List.length l : Nat) : Int) := by simpa using H
                         omega
   subst h3
   exact xr [0] [] [0,0] [0,0] ()
theorem chunkF (a : Option Addr) (m c : Nat) : Fn Tryz.prog 182 [.slice a m c, .int .i64 (8 : Int)] ⟨[], []⟩ (Z := Nat × Nat) (fun z => .func (.func 216) #[] #[.pointer (some ⟨z.1, 0, none⟩), .pointer (some ⟨z.2, 0, none⟩)]) (fun z => ⟨[⟨z.1, #[.slice a m c], 222⟩, ⟨z.2, #[.int .i64 (8 : Int)], 3⟩], []⟩) := by
 refine xf Tryz.func182 fun W0 F => ?_
 refine xn [] fun b1 => ?_
 refine xn [] fun b2 => ?_
 exact xr [0,0] [] [1,0] [] (b1, b2)
end Go.Proofs.YtcidmgkfaioceaaGreat
namespace Go.Proofs.YtcidmgkfaioceaaGreat
open Go Go.RowKit
set_option linter.unusedVariables false
def concS_j1 (e1_6x : List U8) : Option (List U8) :=
 some e1_6x
def concS_l2 (s : List (List U8)) (k1 : (List U8) → Option (List U8)) : Nat → (List U8) → Int → Option (List U8)
 | 0, _, _ => none
 | m + 1, v2_6x, v2_27 => (bif decide (v2_27 < (((List.length s) : Nat) : Int)) then chk (0 ≤ v2_27 ∧ v2_27 < ((s.length : Nat) : Int)) (letP (nthT s v2_27) fun x12_1 => chk ((v2_6x ++ x12_1).length ≤ 1099511627776) (letP (v2_6x ++ x12_1) fun l13_2 => chk (inR (v2_27 + (1 : Int))) ((concS_l2 s k1 m) l13_2 (v2_27 + (1 : Int))))) else k1 v2_6x)
def concS_j0 (s : List (List U8)) (e0_3 : Int) : Option (List U8) :=
 chk (0 ≤ e0_3 ∧ e0_3 ≤ 1099511627776) (concS_l2 s concS_j1 (List.length s + 1) ([] : List U8) (0 : Int))
def concS_l3 (s : List (List U8)) (k0 : Int → Option (List U8)) : Nat → Int → Int → Option (List U8)
 | 0, _, _ => none
 | m + 1, v3_3, v3_11 => (bif decide (v3_11 < (((List.length s) : Nat) : Int)) then chk (0 ≤ v3_11 ∧ v3_11 < ((s.length : Nat) : Int)) (letP (nthT s v3_11) fun x4_1 => letP (wr (v3_3 + (((List.length x4_1) : Nat) : Int))) fun u5_3 => (bif decide (u5_3 < (0 : Int)) then none else chk (inR (v3_11 + (1 : Int))) ((concS_l3 s k0 m) u5_3 (v3_11 + (1 : Int))))) else k0 v3_3)
def concS (s : List (List U8)) : Option (List U8) :=
 concS_l3 s (concS_j0 s) (List.length s + 1) (0 : Int) (0 : Int)
set_option maxRecDepth 100000 in
set_option maxHeartbeats 4000000 in
theorem concF {s : List (List U8)} {sA : Asn} (sa : Option Addr) (sc : Nat) (hsA : Rdb sA sa sc s) {y : List U8} (H : concS s = some y) : FnY Tryz.prog 215 [.slice sa (List.length s) sc] ⟨[], [sA]⟩ (Z := Option Addr × Nat) (fun y (za0, zc0) => .slice za0 (List.length y) zc0) (fun y (za0, zc0) => ⟨[], [(ArrA za0 zc0 y), sA]⟩) y := by
 unfold concS at H
 refine xfY Tryz.func215 fun W0 F => ?_
 refine xj [102] (ι := Int) (fun e0_3 => ⟨[(0, .slice sa (List.length s) sc), (3, .int .i64 e0_3)], [], [sA]⟩) (fun e0_3 => concS_j0 s e0_3 = some y) ?_ ?_
 · rintro e0_3 H
   replace H : concS_j0 s e0_3 = some y := H
   rw [concS_j0] at H
   refine chkG H fun q9_1_1 H => ?_
   refine xc [] [] [] (growF q9_1_1.1 q9_1_1.2) fun ⟨t9_1_a, t9_1_c⟩ => ?_
   refine xj [100] (ι := List U8 × Option Addr × Nat) (fun (e1_6x, e1_6a, e1_6c) => ⟨[(6, .slice e1_6a (List.length e1_6x) e1_6c)], [], [(ArrA e1_6a e1_6c e1_6x), sA]⟩) (fun (e1_6x, e1_6a, e1_6c) => concS_j1 e1_6x = some y) ?_ ?_
   · rintro ⟨e1_6x, e1_6a, e1_6c⟩ H
     replace H : concS_j1 e1_6x = some y := H
     rw [concS_j1] at H
     exact xrY (someE H) [] [] [] [0,0] (e1_6a, e1_6c)
   · intro N1 hN1
     refine xl [] (ι := List U8 × Int × Option Addr × Nat) (fun (v2_6x, v2_27, v2_6a, v2_6c) => ⟨[(6, .slice v2_6a (List.length v2_6x) v2_6c), (25, .slice sa (List.length s) sc), (26, .int .i64 (((List.length s) : Nat) : Int)), (27, .int .i64 v2_27)], [], [(ArrA v2_6a v2_6c v2_6x), sA]⟩) (fun m2 (v2_6x, v2_27, v2_6a, v2_6c) => concS_l2 s (concS_j1) m2 v2_6x v2_27 = some y) [] [0,0] ((List.length s + 1)) (([] : List U8), (0 : Int), t9_1_a, t9_1_c) H ?_
     rintro N2 (_ | m2) ⟨v2_6x, v2_27, v2_6a, v2_6c⟩ H hN2
     · exact (noneE H).elim
     replace H : concS_l2 s (concS_j1) (m2 + 1) v2_6x v2_27 = some y := H
     rw [concS_l2] at H
     refine xs [] H ?_ ?_
     · intro H
       refine chkG H fun q12_0_1 H => ?_
       refine xi [1] 1 hsA q12_0_1 fun b1 o1 e1 => ?_
       refine letG H fun x12_1 hx12_1 H => ?_
       refine xo [] [] [1] (oc_ld hsA e1 q12_0_1 hx12_1 0) fun z12_1_1 => ?_
       refine chkG H fun q13_2_1 H => ?_
       refine letG H fun l13_2 hl13_2 H => ?_
       refine xa [] [2,0] (a := v2_6a) (l := v2_6x) (zs := l13_2) (cap := v2_6c) (rI z12_1_1.1 z12_1_1.2 x12_1) hl13_2 (hl13_2 ▸ q13_2_1) fun ⟨a13_2, c13_2⟩ => ?_
       refine chkG H fun q14_0_1 H => ?_
       refine xd [0] (ap q14_0_1 an) ?_
       exact xe [] _ [] [0,1] (hN2 _ (l13_2, v2_27 + (1 : Int), a13_2, c13_2) (Nat.lt_succ_self _) H)
     · intro H
       exact xe [0] _ [] [0,0] (hN1 (v2_6x, v2_6a, v2_6c) H)
 · intro N0 hN0
   refine xl [] (ι := Int × Int) (fun (v3_3, v3_11) => ⟨[(0, .slice sa (List.length s) sc), (3, .int .i64 v3_3), (9, .slice sa (List.length s) sc), (10, .int .i64 (((List.length s) : Nat) : Int)), (11, .int .i64 v3_11)], [], [sA]⟩) (fun m3 (v3_3, v3_11) => concS_l3 s (concS_j0 s) m3 v3_3 v3_11 = some y) [] [0] ((List.length s + 1)) ((0 : Int), (0 : Int)) H ?_
   rintro N3 (_ | m3) ⟨v3_3, v3_11⟩ H hN3
   · exact (noneE H).elim
   replace H : concS_l3 s (concS_j0 s) (m3 + 1) v3_3 v3_11 = some y := H
   rw [concS_l3] at H
   refine xs [] H ?_ ?_
   · intro H
     refine chkG H fun q4_0_1 H => ?_
     refine xi [1] 0 hsA q4_0_1 fun b2 o2 e2 => ?_
     refine letG H fun x4_1 hx4_1 H => ?_
     refine xo [] [] [0] (oc_ld hsA e2 q4_0_1 hx4_1 0) fun z4_1_1 => ?_
     refine letG H fun u5_3 hu5_3 H => ?_
     refine xw [1,300] 18 (congrArg (Value.int .i64) hu5_3) ?_
     refine xs [] H ?_ ?_
     · intro H
       exact (noneE H).elim
     · intro H
       refine chkG H fun q8_0_1 H => ?_
       refine xd [0,0] (ap q8_0_1 an) ?_
       exact xe [] _ [] [1] (hN3 _ (u5_3, v3_11 + (1 : Int)) (Nat.lt_succ_self _) H)
   · intro H
     exact xe [0] _ [] [0] (hN0 (v3_3) H)
def csealS (b : List U8) : Option (List U8) :=
 (csumS b).bind fun y1_1 => (concS ([b, ([IntKind.wrap .u8 (shrI .u16 y1_1 (8 : Int)), IntKind.wrap .u8 y1_1] : List U8)])).bind fun y2_8 => some y2_8
set_option maxRecDepth 100000 in
set_option maxHeartbeats 4000000 in
theorem csealF {b : List U8} (ba : Option Addr) (bc : Nat) {y : List U8} (H : csealS b = some y) : FnY Tryz.prog 180 [.slice ba (List.length b) bc] ⟨[], [(ImmA ba bc b)]⟩ (Z := Option Addr × Nat) (fun y (za0, zc0) => .slice za0 (List.length y) zc0) (fun y (za0, zc0) => ⟨[], [(ArrA za0 zc0 y)]⟩) y := by
 unfold csealS at H
 refine xfY Tryz.func180 fun W0 F => ?_
 refine bindG H fun y1_1 hy1_1 H => ?_
 refine xc [] [] [0] (csumF ba bc (rI ba bc b) hy1_1) fun _ => ?_
 refine xn [] fun b2_6 => ?_
 refine xn [] fun b2_7 => ?_
 refine xg [] [] [0] (gh_dup ba bc b) fun _ => ?_
 refine xg [] [1] [] (gh_own b2_6 5 2 ([IntKind.wrap .u8 (shrI .u16 y1_1 (8 : Int)), IntKind.wrap .u8 y1_1] : List U8) [(), ()] (fun _ _ _ _ _ _ _ => trivial)) fun _ => ?_
 refine xg [] [] [0] (gh_frz (some ⟨b2_6, 0, none⟩) 2 ([IntKind.wrap .u8 (shrI .u16 y1_1 (8 : Int)), IntKind.wrap .u8 y1_1] : List U8)) fun _ => ?_
 refine xg [] [] [0] (gh_dup (some ⟨b2_6, 0, none⟩) 2 ([IntKind.wrap .u8 (shrI .u16 y1_1 (8 : Int)), IntKind.wrap .u8 y1_1] : List U8)) fun _ => ?_
 refine xg [] [0] [2,0] (gh_rows b2_7 222 2 ([b, ([IntKind.wrap .u8 (shrI .u16 y1_1 (8 : Int)), IntKind.wrap .u8 y1_1] : List U8)] : List (List U8)) [(ba, bc), (some ⟨b2_6, 0, none⟩, 2)]) fun _ => ?_
 refine bindG H fun y2_8 hy2_8 H => ?_
 refine xc [] [] [0] (concF (some ⟨b2_7, 0, none⟩) 2 (rA (some ⟨b2_7, 0, none⟩) 2 ([b, ([IntKind.wrap .u8 (shrI .u16 y1_1 (8 : Int)), IntKind.wrap .u8 y1_1] : List U8)])) hy2_8) fun ⟨t2_8_a0, t2_8_c0⟩ => ?_
 exact xrY (someE H) [] [] [] [0] (t2_8_a0, t2_8_c0)
def copenS (b : List U8) : Option (List U8 × Bool) :=
 letP (wr ((((List.length b) : Nat) : Int) - (2 : Int))) fun u1_2 => (bif decide (u1_2 < (0 : Int)) then some (([] : List U8), false) else chk (0 ≤ (0 : Int) ∧ (0 : Int) ≤ u1_2 ∧ u1_2 ≤ ((List.length b : Nat) : Int)) (letP ((b.drop ((0 : Int)).toNat).take ((u1_2).toNat - ((0 : Int)).toNat)) fun l2_5 => (csealS l2_5).bind fun y2_6 => (bEqS y2_6 b).bind fun y2_8 => (bif !y2_8 then some (([] : List U8), false) else chk (0 ≤ (0 : Int) ∧ (0 : Int) ≤ u1_2 ∧ u1_2 ≤ ((List.length b : Nat) : Int)) (letP ((b.drop ((0 : Int)).toNat).take ((u1_2).toNat - ((0 : Int)).toNat)) fun l4_2 => (cloneBS l4_2).bind fun y4_3 => some (y4_3, true)))))
set_option maxRecDepth 100000 in
set_option maxHeartbeats 4000000 in
theorem copenF {b : List U8} (ba : Option Addr) (bc : Nat) {y : List U8 × Bool} (H : copenS b = some y) : FnY Tryz.prog 181 [.slice ba (List.length b) bc] ⟨[], [(ImmA ba bc b)]⟩ (Z := Option Addr × Nat) (fun y (za0, zc0) => .tuple #[.slice za0 (List.length y.1) zc0, .bool y.2]) (fun y (za0, zc0) => ⟨[], [(ImmA za0 zc0 y.1)]⟩) y := by
 unfold copenS at H
 refine xfY Tryz.func181 fun W0 F => ?_
 refine letG H fun u1_2 hu1_2 H => ?_
 refine xw [1,300] 7 (congrArg (Value.int .i64) hu1_2) ?_
 refine xs [] H ?_ ?_
 · intro H
   refine xg [0,0,0,0,0,0,0,1,1] [] [] (gh_nilI (α := U8) none 0) fun _ => ?_
   exact xrY (someE H) [] [] [] [0] (none, 0)
 · intro H
   refine chkG H fun q2_5_1 H => ?_
   refine letG H fun l2_5 hl2_5 H => ?_
   refine xsl [1,1,1] 0 (rI ba bc b) (mx := ((bc : Nat) : Int)) q2_5_1 (.inl rfl) hl2_5 fun a2_5 rl2_5 => ?_
   refine xg [1] [] [0] (gh_sub rl2_5) fun _ => ?_
   refine xg [] [] [0] (gh_dup a2_5 ((((bc : Nat) : Int)).toNat - ((0 : Int)).toNat) l2_5) fun _ => ?_
   refine bindG H fun y2_6 hy2_6 H => ?_
   refine xc [] [] [0] (csealF a2_5 ((((bc : Nat) : Int)).toNat - ((0 : Int)).toNat) hy2_6) fun ⟨t2_6_a0, t2_6_c0⟩ => ?_
   refine bindG H fun y2_8 hy2_8 H => ?_
   refine xc [1,1] [] [0,1] (bEqF t2_6_a0 t2_6_c0 ba bc (rA t2_6_a0 t2_6_c0 y2_6) (rI ba bc b) hy2_8) fun _ => ?_
   refine xs [1,0] H ?_ ?_
   · intro H
     refine xg [1] [] [] (gh_nilI (α := U8) none 0) fun _ => ?_
     exact xrY (someE H) [] [] [] [0] (none, 0)
   · intro H
     refine chkG H fun q4_2_1 H => ?_
     refine letG H fun l4_2 hl4_2 H => ?_
     refine xsl [0] 1 (rI ba bc b) (mx := ((bc : Nat) : Int)) q4_2_1 (.inl rfl) hl4_2 fun a4_2 rl4_2 => ?_
     refine bindG H fun y4_3 hy4_3 H => ?_
     refine xc [] [] [1] (cloneBF a4_2 ((((bc : Nat) : Int)).toNat - ((0 : Int)).toNat) rl4_2 hy4_3) fun ⟨t4_3_a0, t4_3_c0⟩ => ?_
     refine xg [] [] [0] (gh_frz t4_3_a0 t4_3_c0 y4_3) fun _ => ?_
     refine xg [] [] [0] (gh_dup t4_3_a0 t4_3_c0 y4_3) fun _ => ?_
     exact xrY (someE H) [] [] [] [0] (t4_3_a0, t4_3_c0)
def ppackS_j0 (e0_5x : List U8) : Option (List U8 × Int) :=
 (csealS e0_5x).bind fun y10_1 => some (y10_1, (0 : Int))
def ppackS_l1 (p : PktS) (k0 : (List U8) → Option (List U8 × Int)) : Nat → (List U8) → Int → Option (List U8 × Int)
 | 0, _, _ => none
 | m + 1, v1_5x, v1_50 => (bif decide (v1_50 < (((List.length p.data) : Nat) : Int)) then chk (0 ≤ v1_50 ∧ v1_50 < ((p.data.length : Nat) : Int)) ((pwordS (nth p.data v1_50)).bind fun y8_2 => chk ((v1_5x ++ y8_2).length ≤ 1099511627776) (letP (v1_5x ++ y8_2) fun l8_3 => chk (inR (v1_50 + (1 : Int))) ((ppackS_l1 p k0 m) l8_3 (v1_50 + (1 : Int))))) else k0 v1_5x)
def ppackS (p : PktS) : Option (List U8 × Int) :=
 (pchkS p).bind fun y1_1 => (bif !(decide (y1_1 = (0 : Int))) then some (([] : List U8), y1_1) else (pflagS p.flag).bind fun y4_28 => ppackS_l1 p ppackS_j0 (List.length p.data + 1) ([IntKind.wrap .u8 p.kind, IntKind.wrap .u8 p.src, IntKind.wrap .u8 p.dst, IntKind.wrap .u8 (shrI .i64 p.id (8 : Int)), IntKind.wrap .u8 p.id, IntKind.wrap .u8 p.line, IntKind.wrap .u8 (wr (p.ptr + (1 : Int))), IntKind.wrap .u8 p.state, y4_28, IntKind.wrap .u8 (((List.length p.data) : Nat) : Int)] : List U8) (0 : Int))
set_option maxRecDepth 100000 in
set_option maxHeartbeats 4000000 in
theorem ppackF {p : PktS} {p0A : Asn} (p0a : Option Addr) (p0c : Nat) (hp0A : Rdb p0A p0a p0c p.data) {y : List U8 × Int} (H : ppackS p = some y) : FnY Tryz.prog 136 [.agg #[.int .i64 p.kind, .int .i64 p.src, .int .i64 p.dst, .int .i64 p.id, .int .i64 p.line, .int .i64 p.ptr, .int .i64 p.state, .bool p.flag, .slice p0a (List.length p.data) p0c]] ⟨[], [p0A]⟩ (Z := Option Addr × Nat) (fun y (za0, zc0) => .tuple #[.slice za0 (List.length y.1) zc0, .int .i64 y.2]) (fun y (za0, zc0) => ⟨[], [(ArrA za0 zc0 y.1), p0A]⟩) y := by
 unfold ppackS at H
 refine xfY Tryz.func136 fun W0 F => ?_
 refine xn [] fun b0_0 => ?_
 refine bindG H fun y1_1 hy1_1 H => ?_
 refine xc [0] [] [] (pchkF p0a p0c hy1_1) fun _ => ?_
 refine xs [] H ?_ ?_
 · intro H
   refine xg [1] [] [] (gh_nil (α := U8) none) fun _ => ?_
   exact xrY (someE H) [] [] [] [0,0] (none, 0)
 · intro H
   refine bindG H fun y4_28 hy4_28 H => ?_
   refine xc [0,0,1,0,2,3,4,0,5,6,7,0,8,9,10,0,11,12,13,14,0,15,16,17,0,18,19,20,0,21,1,22,23,24,0,25,26,27,0,29,30,0,31,32,28] [] [] (pflagF hy4_28) fun _ => ?_
   refine xn [33] fun b4_33 => ?_
   refine xj [34,100] (ι := List U8 × Option Addr × Nat) (fun (e0_5x, e0_5a, e0_5c) => ⟨[(5, .slice e0_5a (List.length e0_5x) e0_5c)], [], [(ArrA e0_5a e0_5c e0_5x), p0A]⟩) (fun (e0_5x, e0_5a, e0_5c) => ppackS_j0 e0_5x = some y) ?_ ?_
   · rintro ⟨e0_5x, e0_5a, e0_5c⟩ H
     replace H : ppackS_j0 e0_5x = some y := H
     rw [ppackS_j0] at H
     refine xg [] [] [0] (gh_frz e0_5a e0_5c e0_5x) fun _ => ?_
     refine xg [] [] [0] (gh_dup e0_5a e0_5c e0_5x) fun _ => ?_
     refine bindG H fun y10_1 hy10_1 H => ?_
     refine xc [] [] [0] (csealF e0_5a e0_5c hy10_1) fun ⟨t10_1_a0, t10_1_c0⟩ => ?_
     exact xrY (someE H) [] [] [] [0,1] (t10_1_a0, t10_1_c0)
   · intro N0 hN0
     refine xg [1] [0] [] (gh_own b4_33 5 10 ([IntKind.wrap .u8 p.kind, IntKind.wrap .u8 p.src, IntKind.wrap .u8 p.dst, IntKind.wrap .u8 (shrI .i64 p.id (8 : Int)), IntKind.wrap .u8 p.id, IntKind.wrap .u8 p.line, IntKind.wrap .u8 (wr (p.ptr + (1 : Int))), IntKind.wrap .u8 p.state, y4_28, IntKind.wrap .u8 (((List.length p.data) : Nat) : Int)] : List U8) [(), (), (), (), (), (), (), (), (), ()] (fun _ _ _ _ _ _ _ => trivial)) fun _ => ?_
     refine xl [] (ι := List U8 × Int × Option Addr × Nat) (fun (v1_5x, v1_50, v1_5a, v1_5c) => ⟨[(5, .slice v1_5a (List.length v1_5x) v1_5c), (48, .slice p0a (List.length p.data) p0c), (49, .int .i64 (((List.length p.data) : Nat) : Int)), (50, .int .i64 v1_50)], [], [(ArrA v1_5a v1_5c v1_5x), p0A]⟩) (fun m1 (v1_5x, v1_50, v1_5a, v1_5c) => ppackS_l1 p (ppackS_j0) m1 v1_5x v1_50 = some y) [] [0,0] ((List.length p.data + 1)) (([IntKind.wrap .u8 p.kind, IntKind.wrap .u8 p.src, IntKind.wrap .u8 p.dst, IntKind.wrap .u8 (shrI .i64 p.id (8 : Int)), IntKind.wrap .u8 p.id, IntKind.wrap .u8 p.line, IntKind.wrap .u8 (wr (p.ptr + (1 : Int))), IntKind.wrap .u8 p.state, y4_28, IntKind.wrap .u8 (((List.length p.data) : Nat) : Int)] : List U8), (0 : Int), some ⟨b4_33, 0, none⟩, 10) H ?_
     rintro N1 (_ | m1) ⟨v1_5x, v1_50, v1_5a, v1_5c⟩ H hN1
     · exact (noneE H).elim
     replace H : ppackS_l1 p (ppackS_j0) (m1 + 1) v1_5x v1_50 = some y := H
     rw [ppackS_l1] at H
     refine xs [] H ?_ ?_
     · intro H
       refine chkG H fun q7_0_1 H => ?_
       refine xi [1] 1 hp0A q7_0_1 fun b1 o1 e1 => ?_
       refine xpl [] 1 (ol_ld hp0A e1 q7_0_1 0 (fun _ => rfl)) ?_
       refine bindG H fun y8_2 hy8_2 H => ?_
       refine xc [] [] [] (pwordF hy8_2) fun ⟨t8_2_a0, t8_2_c0⟩ => ?_
       refine chkG H fun q8_3_1 H => ?_
       refine letG H fun l8_3 hl8_3 H => ?_
       refine xa [] [1,0] (a := v1_5a) (l := v1_5x) (zs := l8_3) (cap := v1_5c) (rA t8_2_a0 t8_2_c0 y8_2) hl8_3 (hl8_3 ▸ q8_3_1) fun ⟨a8_3, c8_3⟩ => ?_
       refine chkG H fun q9_0_1 H => ?_
       refine xd [0] (ap q9_0_1 an) ?_
       exact xe [] _ [] [0,1] (hN1 _ (l8_3, v1_50 + (1 : Int), a8_3, c8_3) (Nat.lt_succ_self _) H)
     · intro H
       exact xe [0] _ [] [0,0] (hN0 (v1_5x, v1_5a, v1_5c) H)
end Go.Proofs.YtcidmgkfaioceaaGreat
namespace Go.Proofs.YtcidmgkfaioceaaGreat
open Go Go.RowKit
set_option linter.unusedVariables false
def numsTo (l : List U8) (n : Nat) : List Int := (List.range n).map fun k => (pnumS ((l.drop (8 * k)).take 8)).getD 0
def NumsOk (l : List U8) : Prop := l.length % 8 = 0 ∧ l.length ≤ 1099511627776 ∧ ∀ k, k < l.length / 8 → (pnumS ((l.drop (8 * k)).take 8)).isSome = true
instance (l : List U8) : Decidable (NumsOk l) := by unfold NumsOk; infer_instance
theorem nums_len {l : List U8} (h : NumsOk l) : l.length = 8 * (l.length / 8) := by have := h.1; omega
theorem nums_get {l : List U8} (h : NumsOk l) {k : Nat} (hk : k < l.length / 8) : pnumS ((l.drop (8 * k)).take 8) = some ((pnumS ((l.drop (8 * k)).take 8)).getD 0) := by
  obtain ⟨x, hx⟩ := Option.isSome_iff_exists.1 (h.2.2 k hk)
  rw [hx]; rfl
theorem nums_snoc (l : List U8) (k : Nat) : numsTo l k ++ [(pnumS ((l.drop (8 * k)).take 8)).getD 0] = numsTo l (k + 1) := by simp [numsTo, List.range_succ]
theorem nums_one {l : List U8} (h : NumsOk l) {k : Nat} (hk : k < l.length / 8) : (8 : Nat) = List.length ((l.drop (8 * k)).take 8) := by simp; omega
theorem nums_le {l : List U8} (h : NumsOk l) {k : Nat} (hk : k < l.length / 8) : (numsTo l (k + 1)).length ≤ 1099511627776 := by have := h.2.1; simp [numsTo]; omega
def punpS_j0 (y1_1 : List U8 × Bool) (b : List U8) (e0_32 : Bool) : Option (PktS × Int) :=
 (bif e0_32 then some ((⟨(0 : Int), (0 : Int), (0 : Int), (0 : Int), (0 : Int), (0 : Int), (0 : Int), false, ([] : List Int)⟩ : PktS), (2 : Int)) else chk (0 ≤ (0 : Int) ∧ (0 : Int) < ((y1_1.1.length : Nat) : Int)) (chk (0 ≤ (1 : Int) ∧ (1 : Int) < ((y1_1.1.length : Nat) : Int)) (chk (0 ≤ (2 : Int) ∧ (2 : Int) < ((y1_1.1.length : Nat) : Int)) (chk (0 ≤ (3 : Int) ∧ (3 : Int) < ((y1_1.1.length : Nat) : Int)) (letP (shlI .i64 (wr (nthB y1_1.1 (3 : Int))) (8 : Int)) fun u4_16 => chk (0 ≤ (4 : Int) ∧ (4 : Int) < ((y1_1.1.length : Nat) : Int)) (letP (bor .i64 u4_16 (wr (nthB y1_1.1 (4 : Int)))) fun u4_21 => chk (0 ≤ (5 : Int) ∧ (5 : Int) < ((y1_1.1.length : Nat) : Int)) (chk (0 ≤ (6 : Int) ∧ (6 : Int) < ((y1_1.1.length : Nat) : Int)) (letP (wr ((wr (nthB y1_1.1 (6 : Int))) - (1 : Int))) fun u4_30 => chk (0 ≤ (7 : Int) ∧ (7 : Int) < ((y1_1.1.length : Nat) : Int)) (chk (0 ≤ (8 : Int) ∧ (8 : Int) < ((y1_1.1.length : Nat) : Int)) (chk (0 ≤ (10 : Int) ∧ (10 : Int) ≤ (((List.length y1_1.1) : Nat) : Int) ∧ (((List.length y1_1.1) : Nat) : Int) ≤ ((List.length y1_1.1 : Nat) : Int)) (letP ((y1_1.1.drop ((10 : Int)).toNat).take (((((List.length y1_1.1) : Nat) : Int)).toNat - ((10 : Int)).toNat)) fun l5_1 => chk (NumsOk l5_1) ((ppackS (⟨wr (nthB y1_1.1 (0 : Int)), wr (nthB y1_1.1 (1 : Int)), wr (nthB y1_1.1 (2 : Int)), u4_21, wr (nthB y1_1.1 (5 : Int)), u4_30, wr (nthB y1_1.1 (7 : Int)), decide ((nthB y1_1.1 (8 : Int)) = (1 : Int)), (numsTo l5_1 (List.length l5_1 / 8))⟩ : PktS)).bind fun y8_1 => (bif !(decide (y8_1.2 = (0 : Int))) then some ((⟨(0 : Int), (0 : Int), (0 : Int), (0 : Int), (0 : Int), (0 : Int), (0 : Int), false, ([] : List Int)⟩ : PktS), (2 : Int)) else (bEqS y8_1.1 b).bind fun y9_5 => (bif !y9_5 then some ((⟨(0 : Int), (0 : Int), (0 : Int), (0 : Int), (0 : Int), (0 : Int), (0 : Int), false, ([] : List Int)⟩ : PktS), (2 : Int)) else some ((⟨wr (nthB y1_1.1 (0 : Int)), wr (nthB y1_1.1 (1 : Int)), wr (nthB y1_1.1 (2 : Int)), u4_21, wr (nthB y1_1.1 (5 : Int)), u4_30, wr (nthB y1_1.1 (7 : Int)), decide ((nthB y1_1.1 (8 : Int)) = (1 : Int)), (numsTo l5_1 (List.length l5_1 / 8))⟩ : PktS), (0 : Int))))))))))))))))
def punpS (b : List U8) : Option (PktS × Int) :=
 (copenS b).bind fun y1_1 => (bif !y1_1.2 then (punpS_j0 y1_1 b) true else (bif decide ((((List.length y1_1.1) : Nat) : Int) < (10 : Int)) then (punpS_j0 y1_1 b) true else chk (0 ≤ (9 : Int) ∧ (9 : Int) < ((y1_1.1.length : Nat) : Int)) (letP (wr ((8 : Int) * (wr (nthB y1_1.1 (9 : Int))))) fun u2_14 => (punpS_j0 y1_1 b) (!(decide ((((List.length y1_1.1) : Nat) : Int) = (wr ((10 : Int) + u2_14))))))))
set_option maxRecDepth 100000 in
set_option maxHeartbeats 4000000 in
theorem punpF {b : List U8} (ba : Option Addr) (bc : Nat) {y : PktS × Int} (H : punpS b = some y) : FnY Tryz.prog 137 [.slice ba (List.length b) bc] ⟨[], [(ImmA ba bc b)]⟩ (Z := Option Addr × Nat) (fun y (za0, zc0) => .tuple #[.agg #[.int .i64 y.1.kind, .int .i64 y.1.src, .int .i64 y.1.dst, .int .i64 y.1.id, .int .i64 y.1.line, .int .i64 y.1.ptr, .int .i64 y.1.state, .bool y.1.flag, .slice za0 (List.length y.1.data) zc0], .int .i64 y.2]) (fun y (za0, zc0) => ⟨[], [(ArrA za0 zc0 y.1.data)]⟩) y := by
 unfold punpS at H
 refine xfM Tryz.func137 fun W0 F => ?_
 refine xn [] fun b0_0 => ?_
 refine xg [] [] [0] (gh_dup ba bc b) fun _ => ?_
 refine bindG H fun y1_1 hy1_1 H => ?_
 refine xc [] [] [0] (copenF ba bc hy1_1) fun ⟨t1_1_a0, t1_1_c0⟩ => ?_
 refine xj [101] (ι := Bool) (fun e0_32 => ⟨[(0, .slice ba (List.length b) bc), (2, .pointer (some ⟨b0_0, 0, none⟩)), (4, .slice t1_1_a0 (List.length y1_1.1) t1_1_c0), (32, .bool e0_32)], [⟨b0_0, #[.int .i64 (0), .int .i64 (0), .int .i64 (0), .int .i64 (0), .int .i64 (0), .int .i64 (0), .int .i64 (0), .bool false, .slice none 0 0], 176⟩], [(ImmA t1_1_a0 t1_1_c0 y1_1.1), (ImmA ba bc b)]⟩) (fun e0_32 => punpS_j0 y1_1 b e0_32 = some y) ?_ ?_
 · rintro e0_32 H
   replace H : punpS_j0 y1_1 b e0_32 = some y := H
   rw [punpS_j0] at H
   refine xs [] H ?_ ?_
   · intro H
     refine xg [1,0] [] [] (gh_nil (α := Int) none) fun _ => ?_
     exact xrM0 (someE H) [] [0] [] [0] (none, 0)
   · intro H
     refine chkG H fun q4_1_1 H => ?_
     refine xi [0,0,1] 0 (rI t1_1_a0 t1_1_c0 y1_1.1) q4_1_1 fun b1 o1 e1 => ?_
     refine xpl [2] 0 (ol_ld (rI t1_1_a0 t1_1_c0 y1_1.1) e1 q4_1_1 0 (fun _ => rfl)) ?_
     refine chkG H fun q4_5_1 H => ?_
     refine xi [3,4,5] 0 (rI t1_1_a0 t1_1_c0 y1_1.1) q4_5_1 fun b2 o2 e2 => ?_
     refine xpl [6] 0 (ol_ld (rI t1_1_a0 t1_1_c0 y1_1.1) e2 q4_5_1 0 (fun _ => rfl)) ?_
     refine chkG H fun q4_9_1 H => ?_
     refine xi [7,8,9] 0 (rI t1_1_a0 t1_1_c0 y1_1.1) q4_9_1 fun b3 o3 e3 => ?_
     refine xpl [10] 0 (ol_ld (rI t1_1_a0 t1_1_c0 y1_1.1) e3 q4_9_1 0 (fun _ => rfl)) ?_
     refine chkG H fun q4_13_1 H => ?_
     refine xi [11,12,13] 0 (rI t1_1_a0 t1_1_c0 y1_1.1) q4_13_1 fun b4 o4 e4 => ?_
     refine xpl [14] 0 (ol_ld (rI t1_1_a0 t1_1_c0 y1_1.1) e4 q4_13_1 0 (fun _ => rfl)) ?_
     refine letG H fun u4_16 hu4_16 H => ?_
     refine xw [15,16] 50 (congrArg (Value.int .i64) hu4_16) ?_
     refine chkG H fun q4_18_1 H => ?_
     refine xi [17,18] 0 (rI t1_1_a0 t1_1_c0 y1_1.1) q4_18_1 fun b5 o5 e5 => ?_
     refine xpl [19] 0 (ol_ld (rI t1_1_a0 t1_1_c0 y1_1.1) e5 q4_18_1 0 (fun _ => rfl)) ?_
     refine letG H fun u4_21 hu4_21 H => ?_
     refine xw [20,21] 55 (congrArg (Value.int .i64) hu4_21) ?_
     refine chkG H fun q4_23_1 H => ?_
     refine xi [22,23] 0 (rI t1_1_a0 t1_1_c0 y1_1.1) q4_23_1 fun b6 o6 e6 => ?_
     refine xpl [24] 0 (ol_ld (rI t1_1_a0 t1_1_c0 y1_1.1) e6 q4_23_1 0 (fun _ => rfl)) ?_
     refine chkG H fun q4_27_1 H => ?_
     refine xi [25,26,27] 0 (rI t1_1_a0 t1_1_c0 y1_1.1) q4_27_1 fun b7 o7 e7 => ?_
     refine xpl [28] 0 (ol_ld (rI t1_1_a0 t1_1_c0 y1_1.1) e7 q4_27_1 0 (fun _ => rfl)) ?_
     refine letG H fun u4_30 hu4_30 H => ?_
     refine xw [29,30,1] 64 (congrArg (Value.int .i64) hu4_30) ?_
     refine chkG H fun q4_32_1 H => ?_
     refine xi [31,32] 0 (rI t1_1_a0 t1_1_c0 y1_1.1) q4_32_1 fun b8 o8 e8 => ?_
     refine xpl [33] 0 (ol_ld (rI t1_1_a0 t1_1_c0 y1_1.1) e8 q4_32_1 0 (fun _ => rfl)) ?_
     refine chkG H fun q4_36_1 H => ?_
     refine xi [34,35,36] 0 (rI t1_1_a0 t1_1_c0 y1_1.1) q4_36_1 fun b9 o9 e9 => ?_
     refine xpl [37] 0 (ol_ld (rI t1_1_a0 t1_1_c0 y1_1.1) e9 q4_36_1 0 (fun _ => rfl)) ?_
     refine xn [38,39,40] fun b4_40 => ?_
     refine chkG H fun q5_1_1 H => ?_
     refine letG H fun l5_1 hl5_1 H => ?_
     refine xsl [41,0] 0 (rI t1_1_a0 t1_1_c0 y1_1.1) (mx := ((t1_1_c0 : Nat) : Int)) q5_1_1 (.inl rfl) hl5_1 fun a5_1 rl5_1 => ?_
     refine xc [] [] [] (chunkF a5_1 (List.length l5_1) ((((t1_1_c0 : Nat) : Int)).toNat - ((10 : Int)).toNat)) fun ⟨b5_2_1, b5_2_2⟩ => ?_
     refine chkG H fun q5_2_1 H => ?_
     refine xg [] [] [0] (gh_dup t1_1_a0 t1_1_c0 y1_1.1) fun _ => ?_
     refine xk [] [0] (cap_of rl5_1) fun hc1 => ?_
     refine xg [] [] [] (gh_nil (α := Int) none) fun _ => ?_
     refine xrgM [] [0,0] [1] [0,0] [0,0,0] (fun i => .slice (chA a5_1 i) 8 8) 77 (chunkIt b5_2_1 b5_2_2 a5_1 ((((t1_1_c0 : Nat) : Int)).toNat - ((10 : Int)).toNat) (List.length l5_1 / 8) l5_1 rl5_1 (nums_len q5_2_1) hc1 q5_2_1.2.1) [(6, .pointer (some ⟨b4_40, 0, none⟩))] (fun i => [(7, .slice (chA a5_1 i) 8 8), (6, .pointer (some ⟨b4_40, 0, none⟩))]) (fun i (z : Option Addr × Nat) => ⟨[⟨b4_40, #[.int .i64 (wr (nthB y1_1.1 (0 : Int))), .int .i64 (wr (nthB y1_1.1 (1 : Int))), .int .i64 (wr (nthB y1_1.1 (2 : Int))), .int .i64 u4_21, .int .i64 (wr (nthB y1_1.1 (5 : Int))), .int .i64 u4_30, .int .i64 (wr (nthB y1_1.1 (7 : Int))), .bool (decide ((nthB y1_1.1 (8 : Int)) = (1 : Int))), .slice z.1 (List.length (numsTo l5_1 i)) z.2], 176⟩, ⟨b0_0, #[.int .i64 (0), .int .i64 (0), .int .i64 (0), .int .i64 (0), .int .i64 (0), .int .i64 (0), .int .i64 (0), .bool false, .slice none 0 0], 176⟩], [(ArrA z.1 z.2 (numsTo l5_1 i)), (ImmA t1_1_a0 t1_1_c0 y1_1.1), (ImmA ba bc b)]⟩) (none, 0) ?_ ?_ ?_ (fun _ _ => rfl)
     · intro yl F N1 i z hi hN
       exact xe [] ⟨[(7, .slice (chA a5_1 i) 8 8), (6, .pointer (some ⟨b4_40, 0, none⟩))], [⟨b4_40, #[.int .i64 (wr (nthB y1_1.1 (0 : Int))), .int .i64 (wr (nthB y1_1.1 (1 : Int))), .int .i64 (wr (nthB y1_1.1 (2 : Int))), .int .i64 u4_21, .int .i64 (wr (nthB y1_1.1 (5 : Int))), .int .i64 u4_30, .int .i64 (wr (nthB y1_1.1 (7 : Int))), .bool (decide ((nthB y1_1.1 (8 : Int)) = (1 : Int))), .slice z.1 (List.length (numsTo l5_1 i)) z.2], 176⟩, ⟨b0_0, #[.int .i64 (0), .int .i64 (0), .int .i64 (0), .int .i64 (0), .int .i64 (0), .int .i64 (0), .int .i64 (0), .bool false, .slice none 0 0], 176⟩], [(ArrA z.1 z.2 (numsTo l5_1 i)), (ImmA t1_1_a0 t1_1_c0 y1_1.1), (ImmA ba bc b)]⟩ [0,0] [0,0,0] fun a w h => hN a w h.1 h.2
     · rintro yl F N1 i ⟨za, zc⟩ hi hN
       refine xw [0,1,0,2] 80 (congrArg (fun n : Nat => (.slice (chA a5_1 i) n 8 : Value)) (nums_one q5_2_1 hi)) ?_
       refine xc [3] [] [1] (pnumF (chA a5_1 i) 8 (rdb_ch rl5_1 (nums_len q5_2_1) hi) (nums_get q5_2_1 hi)) fun _ => ?_
       refine xn [4] fun bn => ?_
       refine xg [] [0] [] (gh_own bn 3 1 ([((pnumS ((List.drop (8 * i) l5_1).take 8)).getD 0)] : List Int) [()] (fun _ _ _ _ _ _ _ => trivial)) fun _ => ?_
       refine xa [5] [2,0] (a := za) (l := numsTo l5_1 i) (zs := numsTo l5_1 (i + 1)) (cap := zc) (rA (some ⟨bn, 0, none⟩) 1 ([((pnumS ((List.drop (8 * i) l5_1).take 8)).getD 0)] : List Int)) (nums_snoc l5_1 i) (nums_le q5_2_1 hi) fun ⟨a2, c2⟩ => ?_
       exact xe [6,7,0] ⟨[], [⟨b4_40, #[.int .i64 (wr (nthB y1_1.1 (0 : Int))), .int .i64 (wr (nthB y1_1.1 (1 : Int))), .int .i64 (wr (nthB y1_1.1 (2 : Int))), .int .i64 u4_21, .int .i64 (wr (nthB y1_1.1 (5 : Int))), .int .i64 u4_30, .int .i64 (wr (nthB y1_1.1 (7 : Int))), .bool (decide ((nthB y1_1.1 (8 : Int)) = (1 : Int))), .slice a2 (List.length (numsTo l5_1 (i + 1))) c2], 176⟩, ⟨b0_0, #[.int .i64 (0), .int .i64 (0), .int .i64 (0), .int .i64 (0), .int .i64 (0), .int .i64 (0), .int .i64 (0), .bool false, .slice none 0 0], 176⟩], [(ArrA a2 c2 (numsTo l5_1 (i + 1))), (ImmA t1_1_a0 t1_1_c0 y1_1.1), (ImmA ba bc b)]⟩ [0,0] [0,1,1] fun a w h => hN (a2, c2) a w h.2
     · rintro ⟨za1, zc1⟩ D1
       refine bindG H fun y8_1 hy8_1 H => ?_
       refine xc [2] [] [2] (ppackF za1 zc1 (rA za1 zc1 (numsTo l5_1 (List.length l5_1 / 8))) hy8_1) fun ⟨t8_1_a0, t8_1_c0⟩ => ?_
       refine xs [] H ?_ ?_
       · intro H
         refine xg [0,0,0,0,1,1,3] [] [] (gh_nil (α := Int) none) fun _ => ?_
         exact xrM (someE H) [] [3] [] [1] 3 (none, 0)
       · intro H
         refine bindG H fun y9_5 hy9_5 H => ?_
         refine xc [1,1,1] [] [0,4] (bEqF t8_1_a0 t8_1_c0 ba bc (rA t8_1_a0 t8_1_c0 y8_1.1) (rI ba bc b) hy9_5) fun _ => ?_
         refine xs [1,0] H ?_ ?_
         · intro H
           refine xg [1,3] [] [] (gh_nil (α := Int) none) fun _ => ?_
           exact xrM (someE H) [] [3] [] [1] 4 (none, 0)
         · intro H
           exact xrM (someE H) [0,2,3] [3] [] [3] 3 (za1, zc1)
 · intro N0 hN0
   refine xs [] H ?_ ?_
   · intro H
     exact xe [0,0,0,1,0,0,0,0,0,0,0,0,0,1] _ [0] [0,0] (hN0 (true) H)
   · intro H
     refine xs [1,1,1,0] H ?_ ?_
     · intro H
       exact xe [0,0,0,0,0,0,0,0,0,1] _ [0] [0,0] (hN0 (true) H)
     · intro H
       refine chkG H fun q2_11_1 H => ?_
       refine xi [1,1,1,1] 0 (rI t1_1_a0 t1_1_c0 y1_1.1) q2_11_1 fun b10 o10 e10 => ?_
       refine xpl [1] 0 (ol_ld (rI t1_1_a0 t1_1_c0 y1_1.1) e10 q2_11_1 0 (fun _ => rfl)) ?_
       refine letG H fun u2_14 hu2_14 H => ?_
       refine xw [1,1,1,300] 29 (congrArg (Value.int .i64) hu2_14) ?_
       exact xe [1,1,1,0] _ [0] [0,0] (hN0 (!(decide ((((List.length y1_1.1) : Nat) : Int) = (wr ((10 : Int) + u2_14))))) H)
def wireS (p : PktS) (bit : Int) (mask : Int) : Option (PktS × Int) :=
 (ppackS p).bind fun y1_1 => (bif !(decide (y1_1.2 = (0 : Int))) then some ((⟨(0 : Int), (0 : Int), (0 : Int), (0 : Int), (0 : Int), (0 : Int), (0 : Int), false, ([] : List Int)⟩ : PktS), (2 : Int)) else (cspoilS y1_1.1 bit mask).bind fun y4_3 => (punpS y4_3).bind fun y4_4 => some (y4_4.1, y4_4.2))
set_option maxRecDepth 100000 in
set_option maxHeartbeats 4000000 in
theorem wireF {p : PktS} {p0A : Asn} {bit : Int} {mask : Int} (p0a : Option Addr) (p0c : Nat) (hp0A : Rdb p0A p0a p0c p.data) {y : PktS × Int} (H : wireS p bit mask = some y) : FnY Tryz.prog 104 [.agg #[.int .i64 p.kind, .int .i64 p.src, .int .i64 p.dst, .int .i64 p.id, .int .i64 p.line, .int .i64 p.ptr, .int .i64 p.state, .bool p.flag, .slice p0a (List.length p.data) p0c], .int .i64 bit, .int .u16 mask] ⟨[], [p0A]⟩ (Z := Option Addr × Nat) (fun y (za0, zc0) => .tuple #[.agg #[.int .i64 y.1.kind, .int .i64 y.1.src, .int .i64 y.1.dst, .int .i64 y.1.id, .int .i64 y.1.line, .int .i64 y.1.ptr, .int .i64 y.1.state, .bool y.1.flag, .slice za0 (List.length y.1.data) zc0], .int .i64 y.2]) (fun y (za0, zc0) => ⟨[], [(ArrA za0 zc0 y.1.data), p0A]⟩) y := by
 unfold wireS at H
 refine xfY Tryz.func104 fun W0 F => ?_
 refine xn [] fun b0_0 => ?_
 refine xn [] fun b0_1 => ?_
 refine bindG H fun y1_1 hy1_1 H => ?_
 refine xc [1] [] [0] (ppackF p0a p0c hp0A hy1_1) fun ⟨t1_1_a0, t1_1_c0⟩ => ?_
 refine xs [] H ?_ ?_
 · intro H
   refine xg [1,0] [] [] (gh_nil (α := Int) none) fun _ => ?_
   exact xrY (someE H) [] [0] [] [0,1] (none, 0)
 · intro H
   refine bindG H fun y4_3 hy4_3 H => ?_
   refine xc [0] [] [0] (cspoilF t1_1_a0 t1_1_c0 (rA t1_1_a0 t1_1_c0 y1_1.1) hy4_3) fun ⟨t4_3_a0, t4_3_c0⟩ => ?_
   refine xg [] [] [0] (gh_frz t4_3_a0 t4_3_c0 y4_3) fun _ => ?_
   refine xg [] [] [0] (gh_dup t4_3_a0 t4_3_c0 y4_3) fun _ => ?_
   refine bindG H fun y4_4 hy4_4 H => ?_
   refine xc [] [] [0] (punpF t4_3_a0 t4_3_c0 hy4_4) fun ⟨t4_4_a0, t4_4_c0⟩ => ?_
   exact xrY (someE H) [0] [0] [] [0,2] (t4_4_a0, t4_4_c0)
end Go.Proofs.YtcidmgkfaioceaaGreat
namespace Go.Proofs.YtcidmgkfaioceaaGreat
open Go
set_option linter.unusedVariables false
set_option linter.unusedSimpArgs false
theorem w16 (n : Int) : IntKind.u16.wrap n = n % 65536 := by simp [IntKind.wrap, IntKind.bits, IntKind.signed]
theorem w8 (n : Int) : IntKind.u8.wrap n = n % 256 := by simp [IntKind.wrap, IntKind.bits, IntKind.signed]
theorem w32 (n : Int) : IntKind.u32.wrap n = n % 4294967296 := by simp [IntKind.wrap, IntKind.bits, IntKind.signed]
theorem ofInt_emod (k : Nat) (n : Int) : BitVec.ofInt k (n % 2 ^ k) = BitVec.ofInt k n := by
  apply BitVec.eq_of_toNat_eq
  simp [BitVec.toNat_ofInt]
theorem ofInt_toNat (k : Nat) (s : BitVec k) : BitVec.ofInt k ((s.toNat : Nat) : Int) = s := by
  apply BitVec.eq_of_toNat_eq
  simp [BitVec.toNat_ofInt]
theorem bx16 (x y : Int) : bxor .u16 x y = (((BitVec.ofInt 16 x ^^^ BitVec.ofInt 16 y).toNat : Nat) : Int) := by
  unfold bxor
  show IntKind.u16.wrap (((BitVec.ofInt 16 x ^^^ BitVec.ofInt 16 y).toNat : Nat) : Int) = _
  rw [w16]
  have := (BitVec.ofInt 16 x ^^^ BitVec.ofInt 16 y).isLt
  omega
theorem bx8 (x y : Int) : bxor .u8 x y = (((BitVec.ofInt 8 x ^^^ BitVec.ofInt 8 y).toNat : Nat) : Int) := by
  unfold bxor
  show IntKind.u8.wrap (((BitVec.ofInt 8 x ^^^ BitVec.ofInt 8 y).toNat : Nat) : Int) = _
  rw [w8]
  have := (BitVec.ofInt 8 x ^^^ BitVec.ofInt 8 y).isLt
  omega
theorem step16 (s : B16) : bxor .u16 (shlI .u16 ((s.toNat : Nat) : Int) 1) (IntKind.u16.wrap (shrI .u16 ((s.toNat : Nat) : Int) 15 * 4129)) = (((cR s).toNat : Nat) : Int) := by
  rw [bx16]
  congr 2
  unfold cR
  have hs := s.isLt
  congr 1
  · unfold shlI
    show BitVec.ofInt 16 (IntKind.u16.wrap (((s.toNat : Nat) : Int) * 2 ^ 1)) = _
    rw [w16]
    apply BitVec.eq_of_toNat_eq
    simp [BitVec.toNat_ofInt, BitVec.toNat_shiftLeft, Nat.shiftLeft_eq]
    omega
  · unfold shrI
    show BitVec.ofInt 16 (IntKind.u16.wrap (((s.toNat : Nat) : Int).fdiv (2 ^ 15) * 4129)) = _
    rw [w16, BitVec.msb_eq_decide]
    have e : ((s.toNat : Nat) : Int).fdiv (2 ^ 15) = ((s.toNat / 32768 : Nat) : Int) := by
      rw [Int.fdiv_eq_ediv_of_nonneg _ (by decide)]
      norm_cast
    rw [e]
    rcases Nat.lt_or_ge s.toNat 32768 with h | h
    · have : s.toNat / 32768 = 0 := by omega
      rw [this]
      simp [show ¬ 32768 ≤ s.toNat by omega]
    · have : s.toNat / 32768 = 1 := by omega
      rw [this]
      simp [h]
/-- A byte comes. -/
def cF (s : B16) (c : Int) : B16 := cRn 8 (s ^^^ (BitVec.ofInt 16 c <<< 8))
theorem sum_l3 (k : Int → Option Int) : ∀ (n : Nat) (i : Nat) (m : Nat) (s : B16), i + n = 8 → n < m → csumS_l3 k m ((s.toNat : Nat) : Int) ((i : Nat) : Int) = k (((cRn n s).toNat : Nat) : Int)
  | _, _, 0, _, _, h => by omega
  | 0, i, m + 1, s, h, _ => by
    obtain rfl : i = 8 := by omega
    rw [csumS_l3]
    rfl
  | n + 1, i, m + 1, s, h, hm => by
    rw [csumS_l3]
    dsimp only [letP]
    rw [decide_eq_true (by omega : ((i : Nat) : Int) < 8), cond_true, step16, chk_true (by unfold inR; omega)]
    have ih := sum_l3 k n (i + 1) m (cR s) (by omega) (by omega)
    rw [show (((i + 1 : Nat) : Nat) : Int) = ((i : Nat) : Int) + 1 by omega] at ih
    exact ih
theorem first16 (c : Int) (s : B16) : bxor .u16 ((s.toNat : Nat) : Int) (shlI .u16 (IntKind.u16.wrap c) 8) = (((s ^^^ (BitVec.ofInt 16 c <<< 8)).toNat : Nat) : Int) := by
  rw [bx16, ofInt_toNat]
  congr 3
  unfold shlI
  show BitVec.ofInt 16 (IntKind.u16.wrap (IntKind.u16.wrap c * 2 ^ 8)) = _
  rw [w16, w16]
  apply BitVec.eq_of_toNat_eq
  simp [BitVec.toNat_ofInt, BitVec.toNat_shiftLeft, Nat.shiftLeft_eq]
  omega
theorem nthB_get (b : List U8) {i : Nat} (hi : i < b.length) : nthB b ((i : Nat) : Int) = b[i] := by
  have hg : ∀ (m : List Int) (d : Int) (h : i < m.length), m.getD i d = m[i] := by intro m d h; simp [List.getD_eq_getElem?_getD, h]
  exact hg b _ hi
theorem sum_l1 (b : List U8) (hb : b.length ≤ 1099511627776) (k : Int → Option Int) : ∀ (n : Nat) (i : Nat) (m : Nat) (s : B16), i + n = b.length → n < m → csumS_l1 b k m ((s.toNat : Nat) : Int) ((i : Nat) : Int) = k ((((b.drop i).foldl cF s).toNat : Nat) : Int)
  | _, _, 0, _, _, h => by omega
  | 0, i, m + 1, s, h, _ => by
    rw [csumS_l1, decide_eq_false (by omega : ¬ ((i : Nat) : Int) < ((b.length : Nat) : Int)), cond_false, List.drop_eq_nil_of_le (by omega)]
    rfl
  | n + 1, i, m + 1, s, h, hm => by
    have hi : i < b.length := by omega
    rw [csumS_l1]
    dsimp only [letP]
    rw [decide_eq_true (by omega : ((i : Nat) : Int) < ((b.length : Nat) : Int)), cond_true, chk_true (by omega), first16]
    have h3 := sum_l3 (csumS_j2 ((i : Nat) : Int) (csumS_l1 b k m)) 8 0 9 (s ^^^ (BitVec.ofInt 16 (nthB b ((i : Nat) : Int)) <<< 8)) (by omega) (by omega)
    refine h3.trans ?_
    unfold csumS_j2
    rw [chk_true (by unfold inR; omega)]
    have ih := sum_l1 b hb k n (i + 1) m (cF s (nthB b ((i : Nat) : Int))) (by omega) (by omega)
    rw [show (((i + 1 : Nat) : Nat) : Int) = ((i : Nat) : Int) + 1 by omega] at ih
    refine ih.trans ?_
    rw [List.drop_eq_getElem_cons hi]
    have : nthB b ((i : Nat) : Int) = b[i] := nthB_get b hi
    rw [this]
    rfl
theorem csum_eq (b : List U8) (hb : b.length ≤ 1099511627776) : csumS b = some (((b.foldl cF 0xffff#16).toNat : Nat) : Int) := by
  have h := sum_l1 b hb csumS_j0 b.length 0 (b.length + 1) 0xffff#16 (by omega) (by omega)
  unfold csumS
  exact h
/-! The digits of bytes. -/
def bits8 (c : Int) : List Bool := [7, 6, 5, 4, 3, 2, 1, 0].map fun j => (BitVec.ofInt 8 c).getLsbD j
theorem valL8 (x : BitVec 8) : valL ([7, 6, 5, 4, 3, 2, 1, 0].map fun j => x.getLsbD j) = x.zeroExtend 16 <<< 8 := by
  revert x
  decide
theorem ofInt_8_16 (c : Int) : (BitVec.ofInt 8 c).zeroExtend 16 <<< 8 = BitVec.ofInt 16 c <<< 8 := by
  apply BitVec.eq_of_toNat_eq
  simp [BitVec.toNat_ofInt, BitVec.toNat_shiftLeft, Nat.shiftLeft_eq]
  omega
theorem cF_bits (s : B16) (c : Int) : cF s c = (bits8 c).foldl cG s := by
  rw [cG_absorb _ _ (by simp [bits8])]
  unfold cF
  congr 2
  unfold bits8
  rw [valL8, ofInt_8_16]
def bitsB (b : List U8) : List Bool := b.flatMap bits8
theorem cF_fold (b : List U8) : ∀ s, b.foldl cF s = (bitsB b).foldl cG s := by
  induction b with
  | nil => intro s; rfl
  | cons c b ih =>
    intro s
    show b.foldl cF (cF s c) = _
    rw [ih]
    refine (congrArg (fun t => (bitsB b).foldl cG t) (cF_bits s c)).trans ?_
    show _ = (bitsB (c :: b)).foldl cG s
    rw [show bitsB (c :: b) = bits8 c ++ bitsB b from rfl, List.foldl_append]
end Go.Proofs.YtcidmgkfaioceaaGreat
namespace Go.Proofs.YtcidmgkfaioceaaGreat
open Go
set_option linter.unusedVariables false
set_option linter.unusedSimpArgs false
def errB (y mask : Int) : Int := IntKind.u8.wrap (shrI .u32 (shlI .u32 (shlI .u32 (IntKind.u32.wrap mask) 8) (y + 8)) 24)
def sp1 (c : U8) (y mask : Int) : U8 := if y ≤ -8 ∨ 16 ≤ y then c else bxor .u8 c (errB y mask)
def spG (bit mask : Int) : List U8 → Nat → List U8
  | [], _ => []
  | c :: b, i => sp1 c (8 * ((i : Nat) : Int) - bit) mask :: spG bit mask b (i + 1)
theorem spG_len (bit mask : Int) : ∀ (b : List U8) (i : Nat), (spG bit mask b i).length = b.length
  | [], _ => rfl
  | c :: b, i => by unfold spG; show (spG bit mask b (i + 1)).length + 1 = b.length + 1; rw [spG_len bit mask b]
theorem spoil_l1 (bit mask : Int) (h0 : 0 ≤ bit) (h1 : bit < 65536) (n : Nat) (hn : n ≤ 65536) (k : List U8 → Option (List U8)) : ∀ (b pre : List U8) (m : Nat), pre.length + b.length = n → b.length < m →
    cspoilS_l1 bit mask k m (pre ++ b) ((n : Nat) : Int) ((pre.length : Nat) : Int) = k (pre ++ spG bit mask b pre.length)
  | _, _, 0, _, h => by omega
  | [], pre, m + 1, h, _ => by
    simp only [List.length_nil, Nat.add_zero] at h
    rw [cspoilS_l1, decide_eq_false (by omega : ¬ ((pre.length : Nat) : Int) < ((n : Nat) : Int)), cond_false]
    rfl
  | c :: b, pre, m + 1, h, hm => by
    simp only [List.length_cons] at h hm
    have hlen : (pre ++ c :: b).length = n := by simp; omega
    rw [cspoilS_l1, decide_eq_true (by omega : ((pre.length : Nat) : Int) < ((n : Nat) : Int)), cond_true, chk_true (by unfold inR; omega)]
    have hw : wr (8 * ((pre.length : Nat) : Int) - bit) = 8 * ((pre.length : Nat) : Int) - bit := wr_in (by omega) (by omega)
    rw [hw]
    have hnth : nthB (pre ++ c :: b) ((pre.length : Nat) : Int) = c := by
      have := nthB_get (pre ++ c :: b) (i := pre.length) (by simp)
      rw [this]
      simp
      rfl
    have go : ∀ d : U8, cspoilS_j2 ((pre.length : Nat) : Int) (cspoilS_l1 bit mask k m) ((n : Nat) : Int) (pre ++ d :: b) = k (pre ++ d :: spG bit mask b (pre.length + 1)) := by
      intro d
      unfold cspoilS_j2
      rw [chk_true (by unfold inR; omega)]
      have ih := spoil_l1 bit mask h0 h1 n hn k b (pre ++ [d]) m (by simp; omega) (by omega)
      rw [show (((pre ++ [d]).length : Nat) : Int) = ((pre.length : Nat) : Int) + 1 by simp] at ih
      rw [show (pre ++ [d]).length = pre.length + 1 by simp] at ih
      simpa using ih
    have j3 : ∀ e : Bool, e = decide (8 * ((pre.length : Nat) : Int) - bit ≤ -8 ∨ 16 ≤ 8 * ((pre.length : Nat) : Int) - bit) → cspoilS_j3 (cspoilS_j2 ((pre.length : Nat) : Int) (cspoilS_l1 bit mask k m) ((n : Nat) : Int)) (pre ++ c :: b) ((pre.length : Nat) : Int) mask bit e = k (pre ++ spG bit mask (c :: b) pre.length) := by
      intro e he
      unfold cspoilS_j3
      by_cases hd : 8 * ((pre.length : Nat) : Int) - bit ≤ -8 ∨ 16 ≤ 8 * ((pre.length : Nat) : Int) - bit
      · rw [he, decide_eq_true hd, cond_true, go c]
        have : sp1 c (8 * ((pre.length : Nat) : Int) - bit) mask = c := if_pos hd
        rw [show spG bit mask (c :: b) pre.length = sp1 c (8 * ((pre.length : Nat) : Int) - bit) mask :: spG bit mask b (pre.length + 1) from rfl, this]
      · rw [he, decide_eq_false hd, cond_false]
        dsimp only [letP]
        rw [hw, wr_in (by omega) (by omega), chk_true (by rw [hlen]; omega), chk_true (by omega), chk_true (by rw [hlen]; omega), hnth]
        have hs : setT (pre ++ c :: b) ((pre.length : Nat) : Int) (sp1 c (8 * ((pre.length : Nat) : Int) - bit) mask) = pre ++ sp1 c (8 * ((pre.length : Nat) : Int) - bit) mask :: b := by
          unfold setT
          rw [Int.toNat_natCast, List.set_append_right _ _ (Nat.le_refl _)]
          simp
        have he2 : sp1 c (8 * ((pre.length : Nat) : Int) - bit) mask = bxor .u8 c (IntKind.u8.wrap (shrI .u32 (shlI .u32 (shlI .u32 (IntKind.u32.wrap mask) 8) (8 * ((pre.length : Nat) : Int) - bit + 8)) 24)) := by
          unfold sp1 errB
          exact if_neg hd
        rw [he2] at hs
        refine (congrArg (cspoilS_j2 ((pre.length : Nat) : Int) (cspoilS_l1 bit mask k m) ((n : Nat) : Int)) hs).trans ?_
        exact (go _).trans (congrArg (fun d : U8 => k (pre ++ d :: spG bit mask b (pre.length + 1))) he2.symm)
    by_cases hd : 8 * ((pre.length : Nat) : Int) - bit ≤ -8
    · rw [decide_eq_true hd, cond_true]
      exact j3 true (by simp [hd])
    · rw [decide_eq_false hd, cond_false]
      exact j3 _ (by simp [hd])
theorem spoil_eq {b : List U8} {bit mask : Int} (h0 : 0 ≤ bit) (h1 : bit < 65536) (hn : b.length ≤ 65536) : cspoilS b bit mask = some (spG bit mask b 0) := by
  unfold cspoilS cloneBS
  rw [chk_true (by omega)]
  exact spoil_l1 bit mask h0 h1 b.length hn cspoilS_j0 b [] (b.length + 1) (by simp) (by omega)
/-! The digits that are turned. -/
def ebit (q mask : Int) : Bool := decide (0 ≤ q ∧ q < 16) && mask.toNat.testBit (15 - q).toNat
theorem err_bit {y mask : Int} (hy : ¬ (y ≤ -8 ∨ 16 ≤ y)) (h0 : 0 ≤ mask) (h1 : mask < 65536) {j : Nat} (hj : j < 8) : (BitVec.ofInt 8 (errB y mask)).getLsbD (7 - j) = ebit (y + ((j : Nat) : Int)) mask := by
  obtain ⟨M, rfl⟩ : ∃ M : Nat, mask = ((M : Nat) : Int) := ⟨mask.toNat, by omega⟩
  have hM : M < 2 ^ 16 := by omega
  obtain ⟨z, hz⟩ : ∃ z : Nat, y + 8 = ((z : Nat) : Int) := ⟨(y + 8).toNat, by omega⟩
  have hz2 : 0 < z ∧ z < 24 := by omega
  have e1 : errB y ((M : Nat) : Int) = (((M * 2 ^ (z + 8)) % 2 ^ 32 / 2 ^ 24 % 256 : Nat) : Int) := by
    unfold errB shrI shlI
    rw [hz]
    show IntKind.u8.wrap (Int.fdiv (IntKind.u32.wrap (IntKind.u32.wrap (IntKind.u32.wrap ((M : Nat) : Int) * 2 ^ (min 8 32)) * 2 ^ (min z 32))) (2 ^ (min 24 32))) = _
    rw [w8, w32, w32, w32, Nat.min_eq_left (show z ≤ 32 by omega), show (2 : Int) ^ (min 8 32) = 256 by rfl]
    rw [Int.emod_eq_of_lt (a := ((M : Nat) : Int)) (by omega) (by omega), Int.emod_eq_of_lt (a := ((M : Nat) : Int) * 256) (by omega) (by omega), Int.fdiv_eq_ediv_of_nonneg _ (by decide)]
    have : ((M : Nat) : Int) * 256 * 2 ^ z = ((M * 2 ^ (z + 8) : Nat) : Int) := by
      push_cast
      rw [show z + 8 = 8 + z by omega, Int.pow_add]
      simp [Int.mul_assoc]
    rw [this]
    generalize M * 2 ^ (z + 8) = A
    rw [Int.natCast_emod, Int.natCast_ediv, Int.natCast_emod]
    rfl
  rw [e1]
  have e2 : ∀ (x : Nat) (k : Nat), k < 8 → (BitVec.ofInt 8 ((x % 256 : Nat) : Int)).getLsbD k = (x % 256).testBit k := by
    intro x k hk
    rw [BitVec.ofInt_natCast, BitVec.getLsbD_ofNat]
    simp [hk]
  rw [e2 _ _ (by omega), show (256 : Nat) = 2 ^ 8 by rfl, Nat.testBit_mod_two_pow, Nat.testBit_div_two_pow, Nat.testBit_mod_two_pow, Nat.testBit_mul_two_pow]
  rw [decide_eq_true (show 7 - j < 8 by omega), decide_eq_true (show 7 - j + 24 < 32 by omega)]
  simp only [Bool.true_and]
  unfold ebit
  rw [Int.toNat_natCast]
  by_cases hq : 0 ≤ y + ((j : Nat) : Int) ∧ y + ((j : Nat) : Int) < 16
  · rw [decide_eq_true hq, decide_eq_true (show z + 8 ≤ 7 - j + 24 by omega), show 7 - j + 24 - (z + 8) = (15 - (y + ((j : Nat) : Int))).toNat by omega]
  · rw [decide_eq_false hq, Bool.false_and]
    by_cases hl : y + ((j : Nat) : Int) < 0
    · rw [Nat.testBit_lt_two_pow (i := 7 - j + 24 - (z + 8)) (Nat.lt_of_lt_of_le hM (Nat.pow_le_pow_right (by decide) (by omega))), Bool.and_false]
    · rw [decide_eq_false (show ¬ z + 8 ≤ 7 - j + 24 by omega), Bool.false_and]
def eb8 (y mask : Int) : List Bool := [0, 1, 2, 3, 4, 5, 6, 7].map fun j : Nat => ebit (y + ((j : Nat) : Int)) mask
theorem ofInt_bxor (c e : Int) : BitVec.ofInt 8 (bxor .u8 c e) = BitVec.ofInt 8 c ^^^ BitVec.ofInt 8 e := by
  rw [bx8, ofInt_toNat]
theorem sp1_bits (c : U8) {y mask : Int} (h0 : 0 ≤ mask) (h1 : mask < 65536) : bits8 (sp1 c y mask) = List.zipWith (· ^^ ·) (bits8 c) (eb8 y mask) := by
  by_cases hd : y ≤ -8 ∨ 16 ≤ y
  · have e0 : sp1 c y mask = c := if_pos hd
    have e1 : ∀ j : Nat, j < 8 → ebit (y + ((j : Nat) : Int)) mask = false := by
      intro j hj
      unfold ebit
      rw [decide_eq_false (by omega), Bool.false_and]
    rw [e0]
    unfold eb8
    simp only [List.map_cons, List.map_nil]
    rw [e1 0 (by omega), e1 1 (by omega), e1 2 (by omega), e1 3 (by omega), e1 4 (by omega), e1 5 (by omega), e1 6 (by omega), e1 7 (by omega)]
    unfold bits8
    simp
  · have e0 : sp1 c y mask = bxor .u8 c (errB y mask) := if_neg hd
    rw [e0]
    have hb : ∀ j : Nat, j < 8 → (BitVec.ofInt 8 (bxor .u8 c (errB y mask))).getLsbD (7 - j) = ((BitVec.ofInt 8 c).getLsbD (7 - j) ^^ ebit (y + ((j : Nat) : Int)) mask) := by
      intro j hj
      refine (congrArg (fun v : BitVec 8 => v.getLsbD (7 - j)) (ofInt_bxor c (errB y mask))).trans ?_
      rw [BitVec.getLsbD_xor, err_bit hd h0 h1 hj]
    unfold bits8 eb8
    simp only [List.map_cons, List.map_nil, List.zipWith_cons_cons, List.zipWith_nil_right]
    rw [← hb 0 (by omega), ← hb 1 (by omega), ← hb 2 (by omega), ← hb 3 (by omega), ← hb 4 (by omega), ← hb 5 (by omega), ← hb 6 (by omega), ← hb 7 (by omega)]
def ebR (bit mask : Int) (i n : Nat) : List Bool := (List.range (8 * n)).map fun p : Nat => ebit (8 * ((i : Nat) : Int) + ((p : Nat) : Int) - bit) mask
theorem ebR_succ (bit mask : Int) (i n : Nat) : ebR bit mask i (n + 1) = eb8 (8 * ((i : Nat) : Int) - bit) mask ++ ebR bit mask (i + 1) n := by
  unfold ebR eb8
  rw [show 8 * (n + 1) = 8 + 8 * n by omega, List.range_add, List.map_append, List.map_map]
  congr 1
  · rw [show List.range 8 = [0, 1, 2, 3, 4, 5, 6, 7] by rfl]
    refine List.map_congr_left fun p _ => ?_
    congr 1; omega
  · refine List.map_congr_left fun p _ => ?_
    show ebit (8 * ((i : Nat) : Int) + (((8 + p : Nat) : Nat) : Int) - bit) mask = _
    congr 1; omega
theorem bits8_len (c : Int) : (bits8 c).length = 8 := by simp [bits8]
theorem eb8_len (y mask : Int) : (eb8 y mask).length = 8 := by simp [eb8]
theorem bitsB_cons (c : U8) (b : List U8) : bitsB (c :: b) = bits8 c ++ bitsB b := rfl
theorem bitsB_len : ∀ b : List U8, (bitsB b).length = 8 * b.length
  | [] => rfl
  | c :: b => by rw [bitsB_cons, List.length_append]; have h1 := bits8_len c; have h2 := bitsB_len b; show _ = 8 * (b.length + 1); omega
theorem ebR_len (bit mask : Int) (i n : Nat) : (ebR bit mask i n).length = 8 * n := by simp [ebR]
theorem spG_bits {bit mask : Int} (h0 : 0 ≤ mask) (h1 : mask < 65536) : ∀ (b : List U8) (i : Nat), bitsB (spG bit mask b i) = List.zipWith (· ^^ ·) (bitsB b) (ebR bit mask i b.length)
  | [], i => rfl
  | c :: b, i => by
    rw [show spG bit mask (c :: b) i = sp1 c (8 * ((i : Nat) : Int) - bit) mask :: spG bit mask b (i + 1) from rfl, bitsB_cons, bitsB_cons, sp1_bits c h0 h1, spG_bits h0 h1 b (i + 1)]
    show _ = List.zipWith (· ^^ ·) (bits8 c ++ bitsB b) (ebR bit mask i (b.length + 1))
    rw [ebR_succ, List.zipWith_append ((bits8_len c).trans (eb8_len _ _).symm)]
/-- Does it turn a digit of n bytes? -/
def hits (n : Nat) (bit mask : Int) : Bool := (ebR bit mask 0 n).any id
theorem burst_found {b : List U8} {bit mask : Int} (hb : 0 ≤ bit) (h0 : 0 ≤ mask) (h1 : mask < 65536) (s : B16) (hx : (bitsB b).foldl cG s = 0#16) (hy : (bitsB (spG bit mask b 0)).foldl cG s = 0#16) : hits b.length bit mask = false := by
  rw [spG_bits h0 h1] at hy
  have h2 := cG_fold_xor (bitsB b) (ebR bit mask 0 b.length) (by rw [bitsB_len, ebR_len]) s 0#16
  rw [BitVec.xor_zero, hy, hx] at h2
  have h3 : (ebR bit mask 0 b.length).foldl cG 0#16 = 0#16 := by simpa using h2.symm
  have h4 := cG_burst2 (L := ebR bit mask 0 b.length) bit.toNat (fun p hp hq => by
    rw [ebR_len] at hp
    unfold ebR
    rw [List.getElem?_map, List.getElem?_range hp]
    simp only [Option.map_some, Option.some.injEq]
    unfold ebit
    rw [decide_eq_false (by omega), Bool.false_and]) h3
  unfold hits
  rw [List.any_eq_false]
  intro x hx
  simpa using h4 x hx
def BytesOk (b : List U8) : Prop := ∀ c : Int, List.Mem (α := Int) c b → 0 ≤ c ∧ c < 256
theorem bits8_inj {c d : Int} (h : bits8 c = bits8 d) : BitVec.ofInt 8 c = BitVec.ofInt 8 d := by
  unfold bits8 at h
  simp only [List.map_cons, List.map_nil, List.cons.injEq, and_true] at h
  obtain ⟨h7, h6, h5, h4, h3, h2, h1, h0⟩ := h
  apply BitVec.eq_of_getLsbD_eq
  intro i hi
  match i, hi with
  | 0, _ => exact h0
  | 1, _ => exact h1
  | 2, _ => exact h2
  | 3, _ => exact h3
  | 4, _ => exact h4
  | 5, _ => exact h5
  | 6, _ => exact h6
  | 7, _ => exact h7
theorem byte_back {c : Int} (h : 0 ≤ c ∧ c < 256) : (((BitVec.ofInt 8 c).toNat : Nat) : Int) = c := by
  simp [BitVec.toNat_ofInt]
  omega
theorem zip_false (x : List Bool) : ∀ e : List Bool, x.length = e.length → e.any id = false → List.zipWith (· ^^ ·) x e = x := by
  induction x with
  | nil => intro e h _; rfl
  | cons a x ih =>
    intro e h he
    cases e with
    | nil => simp at h
    | cons b e =>
      simp only [List.any_cons, id, Bool.or_eq_false_iff] at he
      simp only [List.zipWith_cons_cons, he.1, Bool.xor_false]
      rw [ih e (by simpa using h) he.2]
theorem no_hitG {bit mask : Int} (h0 : 0 ≤ mask) (h1 : mask < 65536) : ∀ (b : List U8) (i : Nat), BytesOk b → (ebR bit mask i b.length).any id = false → spG bit mask b i = b
  | [], _, _, _ => rfl
  | c :: b, i, hr, h => by
    rw [show (c :: b : List U8).length = b.length + 1 from rfl, ebR_succ, List.any_append, Bool.or_eq_false_iff] at h
    have ih := no_hitG h0 h1 b (i + 1) (fun d hd => hr d (List.Mem.tail _ hd)) h.2
    have hc : sp1 c (8 * ((i : Nat) : Int) - bit) mask = c := by
      by_cases hd : 8 * ((i : Nat) : Int) - bit ≤ -8 ∨ 16 ≤ 8 * ((i : Nat) : Int) - bit
      · exact if_pos hd
      · have e0 : sp1 c (8 * ((i : Nat) : Int) - bit) mask = bxor .u8 c (errB (8 * ((i : Nat) : Int) - bit) mask) := if_neg hd
        have e1 := (sp1_bits c (y := 8 * ((i : Nat) : Int) - bit) h0 h1).trans (zip_false _ _ ((bits8_len c).trans (eb8_len _ _).symm) h.1)
        have e2 := bits8_inj e1
        rw [e0] at e2 ⊢
        have e3 := ofInt_bxor c (errB (8 * ((i : Nat) : Int) - bit) mask)
        have e4 := bx8 c (errB (8 * ((i : Nat) : Int) - bit) mask)
        refine e4.trans ?_
        rw [← e3]
        refine (congrArg (fun v : BitVec 8 => ((v.toNat : Nat) : Int)) e2).trans ?_
        exact byte_back (hr c (List.Mem.head _))
    rw [show spG bit mask (c :: b) i = sp1 c (8 * ((i : Nat) : Int) - bit) mask :: spG bit mask b (i + 1) from rfl, hc, ih]
theorem no_hit {b : List U8} {bit mask : Int} (h0 : 0 ≤ mask) (h1 : mask < 65536) (hr : BytesOk b) (h : hits b.length bit mask = false) : spG bit mask b 0 = b := no_hitG h0 h1 b 0 hr h
end Go.Proofs.YtcidmgkfaioceaaGreat
namespace Go.Proofs.YtcidmgkfaioceaaGreat
open Go
set_option linter.unusedVariables false
set_option linter.unusedSimpArgs false
theorem conc2 (b t : List U8) (h : b.length + t.length ≤ 65536) : concS [b, t] = some (b ++ t) := by
  have l3 : ∀ (k : Int → Option (List U8)), concS_l3 [b, t] k 3 0 0 = k (((b.length + t.length : Nat) : Nat) : Int) := by
    intro k
    rw [concS_l3]
    dsimp only [letP]
    rw [show decide ((0 : Int) < ((([b, t] : List (List U8)).length : Nat) : Int)) = true from rfl, cond_true, chk_true (by show (0 : Int) ≤ 0 ∧ (0 : Int) < 2; decide)]
    rw [show nthT ([b, t] : List (List U8)) 0 = b from rfl, wr_in (by omega) (by omega), decide_eq_false (by omega), cond_false, chk_true (by decide)]
    rw [concS_l3]
    dsimp only [letP]
    rw [show decide ((0 : Int) + 1 < ((([b, t] : List (List U8)).length : Nat) : Int)) = true from rfl, cond_true, chk_true (by show (0 : Int) ≤ 0 + 1 ∧ (0 : Int) + 1 < 2; decide)]
    rw [show nthT ([b, t] : List (List U8)) (0 + 1) = t from rfl, wr_in (by omega) (by omega), decide_eq_false (by omega), cond_false, chk_true (by decide)]
    rw [concS_l3]
    rw [show decide ((0 : Int) + 1 + 1 < ((([b, t] : List (List U8)).length : Nat) : Int)) = false from rfl, cond_false]
    congr 1; omega
  have l2 : ∀ (k : List U8 → Option (List U8)), concS_l2 [b, t] k 3 [] 0 = k (b ++ t) := by
    intro k
    rw [concS_l2]
    dsimp only [letP]
    rw [show decide ((0 : Int) < ((([b, t] : List (List U8)).length : Nat) : Int)) = true from rfl, cond_true, chk_true (by show (0 : Int) ≤ 0 ∧ (0 : Int) < 2; decide)]
    rw [show nthT ([b, t] : List (List U8)) 0 = b from rfl, chk_true (by simp; omega), chk_true (by decide)]
    rw [concS_l2]
    dsimp only [letP]
    rw [show decide ((0 : Int) + 1 < ((([b, t] : List (List U8)).length : Nat) : Int)) = true from rfl, cond_true, chk_true (by show (0 : Int) ≤ 0 + 1 ∧ (0 : Int) + 1 < 2; decide)]
    rw [show nthT ([b, t] : List (List U8)) (0 + 1) = t from rfl, chk_true (by simp; omega), chk_true (by decide)]
    rw [concS_l2]
    rw [show decide ((0 : Int) + 1 + 1 < ((([b, t] : List (List U8)).length : Nat) : Int)) = false from rfl, cond_false]
    simp
  unfold concS
  show concS_l3 [b, t] (concS_j0 [b, t]) 3 0 0 = _
  rw [l3]
  unfold concS_j0
  rw [chk_true (by omega)]
  show concS_l2 [b, t] concS_j1 3 [] 0 = _
  rw [l2]
  rfl
def crcB (b : List U8) : B16 := b.foldl cF 0xffff#16
def hiB (s : B16) : U8 := ((s.toNat / 256 : Nat) : Int)
def loB (s : B16) : U8 := ((s.toNat % 256 : Nat) : Int)
def sealL (b : List U8) : List U8 := b ++ [hiB (crcB b), loB (crcB b)]
theorem sealL_len (b : List U8) : (sealL b).length = b.length + 2 := by simp [sealL]
theorem seal_eq {b : List U8} (hb : b.length ≤ 60000) : csealS b = some (sealL b) := by
  unfold csealS
  rw [csum_eq b (by omega)]
  show (concS [b, [IntKind.wrap .u8 (shrI .u16 (((crcB b).toNat : Nat) : Int) 8), IntKind.wrap .u8 (((crcB b).toNat : Nat) : Int)]]).bind _ = _
  have hs := (crcB b).isLt
  have e1 : IntKind.u8.wrap (shrI .u16 (((crcB b).toNat : Nat) : Int) 8) = hiB (crcB b) := by
    rw [w8]
    unfold shrI hiB
    show (Int.fdiv (((crcB b).toNat : Nat) : Int) (2 ^ (min 8 16))) % 256 = _
    rw [Int.fdiv_eq_ediv_of_nonneg _ (by decide), show (2 : Int) ^ (min 8 16) = 256 by rfl]
    omega
  have e2 : IntKind.u8.wrap (((crcB b).toNat : Nat) : Int) = loB (crcB b) := by
    rw [w8]
    unfold loB
    omega
  rw [e1, e2]
  have := conc2 b [hiB (crcB b), loB (crcB b)] (by simp; omega)
  refine (congrArg (fun o : Option (List U8) => o.bind fun y => some y) this).trans ?_
  rfl
theorem cR8_low (x : BitVec 8) : cRn 8 (x.zeroExtend 16) = x.zeroExtend 16 <<< 8 := by
  revert x; decide
theorem cF_seal (s : B16) : cF (cF s (hiB s)) (loB s) = 0#16 := by
  have hs := s.isLt
  have e1 : s ^^^ (BitVec.ofInt 16 (hiB s) <<< 8) = (BitVec.ofNat 8 s.toNat).zeroExtend 16 := by
    have h1 : BitVec.ofInt 16 (hiB s) <<< 8 = (s >>> 8) <<< 8 := by
      apply BitVec.eq_of_toNat_eq
      unfold hiB
      simp [BitVec.toNat_ofInt, BitVec.toNat_shiftLeft, Nat.shiftLeft_eq, BitVec.toNat_ushiftRight, Nat.shiftRight_eq_div_pow]
      omega
    refine (congrArg (fun v => s ^^^ v) h1).trans ?_
    apply BitVec.eq_of_getLsbD_eq
    intro i hi
    simp [BitVec.getLsbD_xor, BitVec.getLsbD_shiftLeft, BitVec.getLsbD_ushiftRight, BitVec.getLsbD_setWidth, BitVec.getLsbD_ofNat]
    rcases Nat.lt_or_ge i 8 with h8 | h8
    · simp [hi, h8, BitVec.getLsbD]
    · simp [hi, show ¬ i < 8 by omega, show 8 + (i - 8) = i by omega]
  have e2 : BitVec.ofInt 16 (loB s) <<< 8 = (BitVec.ofNat 8 s.toNat).zeroExtend 16 <<< 8 := by
    apply BitVec.eq_of_toNat_eq
    unfold loB
    simp [BitVec.toNat_ofInt, BitVec.toNat_shiftLeft, Nat.shiftLeft_eq]
    omega
  have e3 : cF s (hiB s) = (BitVec.ofNat 8 s.toNat).zeroExtend 16 <<< 8 := (congrArg (cRn 8) e1).trans (cR8_low _)
  show cRn 8 (cF s (hiB s) ^^^ BitVec.ofInt 16 (loB s) <<< 8) = 0#16
  refine (congrArg (cRn 8) (show cF s (hiB s) ^^^ BitVec.ofInt 16 (loB s) <<< 8 = 0#16 from ?_)).trans (cRn_zero 8)
  refine (congrArg (fun v => cF s (hiB s) ^^^ v) e2).trans ?_
  refine (congrArg (fun v => v ^^^ ((BitVec.ofNat 8 s.toNat).zeroExtend 16 <<< 8)) e3).trans ?_
  exact BitVec.xor_self
theorem cF_app (b t : List Int) (s : B16) : (b ++ t).foldl cF s = t.foldl cF (b.foldl cF s) := List.foldl_append ..
theorem seal_sum (b : List U8) : (bitsB (sealL b)).foldl cG 0xffff#16 = 0#16 := by
  rw [← cF_fold]
  unfold sealL
  exact (cF_app b [hiB (crcB b), loB (crcB b)] _).trans (cF_seal (crcB b))
/-! Equal bytes. -/
theorem bEq_true (a : List U8) : bEqS a a = some true := by simp [bEqS]
theorem bytesOf_inj : ∀ {a b : List Int}, (∀ c ∈ a, 0 ≤ c ∧ c < 256) → (∀ c ∈ b, 0 ≤ c ∧ c < 256) → Lib.bytesOf a = Lib.bytesOf b → a = b
  | [], [], _, _, _ => rfl
  | [], _ :: _, _, _, h => by simp [Lib.bytesOf] at h
  | _ :: _, [], _, _, h => by simp [Lib.bytesOf] at h
  | x :: a, y :: b, ha, hb, h => by
    simp only [Lib.bytesOf, List.map_cons, List.cons.injEq] at h
    have h1 := ha x (by simp)
    have h2 := hb y (by simp)
    have e : x = y := by
      have := congrArg UInt8.toNat h.1
      simp at this
      omega
    rw [e, bytesOf_inj (fun c hc => ha c (by simp [hc])) (fun c hc => hb c (by simp [hc])) h.2]
theorem bEq_eq {a b : List U8} (ha : BytesOk a) (hb : BytesOk b) (h : bEqS a b = some true) : a = b := by
  unfold bEqS at h
  simp only [Option.some.injEq, beq_iff_eq] at h
  have h2 : Lib.bytesOf a = Lib.bytesOf b := (Lib.strOfNums_toList a).symm.trans (h.trans (Lib.strOfNums_toList b))
  exact bytesOf_inj (a := a) (b := b) ha hb h2
theorem bEq_ne {a b : List U8} (ha : BytesOk a) (hb : BytesOk b) (h : a ≠ b) : bEqS a b = some false := by
  cases e : ((strOfNums a).toList == (strOfNums b).toList) with
  | true => exact absurd (bEq_eq ha hb (by unfold bEqS; rw [e])) h
  | false => unfold bEqS; rw [e]
theorem BytesOk.app {a b : List U8} (ha : BytesOk a) (hb : BytesOk b) : BytesOk (a ++ b) := fun c hc => by
  have : c ∈ ((a : List Int) ++ (b : List Int)) := hc
  rcases List.mem_append.1 this with h | h
  · exact ha c h
  · exact hb c h
theorem BytesOk.take {a : List U8} (ha : BytesOk a) (n : Nat) : BytesOk (a.take n) := fun c hc => ha c (List.mem_of_mem_take (l := (a : List Int)) (i := n) hc)
theorem sealL_ok {b : List U8} (hb : BytesOk b) : BytesOk (sealL b) := hb.app fun c hc => by
  have hs := (crcB b).isLt
  have : c ∈ ([((((crcB b).toNat / 256 : Nat) : Nat) : Int), ((((crcB b).toNat % 256 : Nat) : Nat) : Int)] : List Int) := hc
  simp at this
  omega
/-- Sealed bytes are opened. -/
theorem open_seal {b : List U8} (hl : b.length ≤ 60000) : copenS (sealL b) = some (b, true) := by
  unfold copenS
  dsimp only [letP]
  have e := sealL_len b
  have hw : wr ((((sealL b).length : Nat) : Int) - 2) = ((b.length : Nat) : Int) := by rw [e]; rw [wr_in] <;> omega
  rw [hw, decide_eq_false (by omega), cond_false, chk_true (by omega)]
  have ht : ((sealL b).drop (0 : Int).toNat).take (((b.length : Nat) : Int).toNat - (0 : Int).toNat) = b := by
    show ((sealL b).drop 0).take _ = b
    simp [sealL]
  rw [ht, seal_eq hl, Option.bind_some, bEq_true, Option.bind_some, Bool.not_true, cond_false, chk_true (by omega)]
  unfold cloneBS
  rw [chk_true (by omega)]
  rfl
/-- What is spoilt is not. -/
theorem open_spoilt {b : List U8} (hb : BytesOk b) (hl : b.length ≤ 60000) {bit mask : Int} (h : 0 ≤ bit) (h0 : 0 ≤ mask) (h1 : mask < 65536) (hh : hits (b.length + 2) bit mask = true) : copenS (spG bit mask (sealL b) 0) = some ([], false) := by
  have hlen : (spG bit mask (sealL b) 0).length = b.length + 2 := by rw [spG_len, sealL_len]
  generalize hy : spG bit mask (sealL b) 0 = y at hlen
  have hyb : BytesOk y := by
    rw [← hy]
    have g : ∀ (l : List U8) (i : Nat), BytesOk l → BytesOk (spG bit mask l i) := by
      intro l
      induction l with
      | nil => intro i _ c hc; cases hc
      | cons d l ih =>
        intro i hd c hc
        have hc2 : List.Mem (α := Int) c (sp1 d (8 * ((i : Nat) : Int) - bit) mask :: spG bit mask l (i + 1)) := hc
        cases hc2 with
        | head =>
          by_cases hq : 8 * ((i : Nat) : Int) - bit ≤ -8 ∨ 16 ≤ 8 * ((i : Nat) : Int) - bit
          · have : sp1 d (8 * ((i : Nat) : Int) - bit) mask = d := if_pos hq
            rw [this]
            exact hd _ (List.Mem.head _)
          · have : sp1 d (8 * ((i : Nat) : Int) - bit) mask = bxor .u8 d (errB (8 * ((i : Nat) : Int) - bit) mask) := if_neg hq
            rw [this]
            have e4 := bx8 d (errB (8 * ((i : Nat) : Int) - bit) mask)
            have := (BitVec.ofInt 8 d ^^^ BitVec.ofInt 8 (errB (8 * ((i : Nat) : Int) - bit) mask)).isLt
            rw [e4]
            omega
        | tail _ h => exact ih (i + 1) (fun c hc => hd c (List.Mem.tail _ hc)) c h
    exact g _ _ (sealL_ok hb)
  unfold copenS
  dsimp only [letP]
  have hw : wr (((y.length : Nat) : Int) - 2) = ((b.length : Nat) : Int) := by rw [hlen]; rw [wr_in] <;> omega
  rw [hw, decide_eq_false (by omega), cond_false, chk_true (by omega)]
  have ht : (y.drop (0 : Int).toNat).take (((b.length : Nat) : Int).toNat - (0 : Int).toNat) = y.take b.length := by
    show (y.drop 0).take _ = _
    simp
  rw [ht, seal_eq (by simp; omega), Option.bind_some]
  have hne : sealL (y.take b.length) ≠ y := by
    intro he
    have h2 := seal_sum (y.take b.length)
    rw [he, ← hy] at h2
    have h3 := burst_found (b := sealL b) h h0 h1 0xffff#16 (seal_sum b) h2
    rw [sealL_len, hh] at h3
    cases h3
  rw [bEq_ne (sealL_ok (hyb.take _)) hyb hne]
  rfl
end Go.Proofs.YtcidmgkfaioceaaGreat
namespace Go.Proofs.YtcidmgkfaioceaaGreat
open Go
set_option linter.unusedVariables false
set_option linter.unusedSimpArgs false
def in64 (x : Int) : Prop := -9223372036854775808 ≤ x ∧ x ≤ 9223372036854775807
def PLegal (p : PktS) : Prop := (0 ≤ p.src ∧ p.src < 6) ∧ (0 ≤ p.dst ∧ p.dst < 6) ∧ (0 ≤ p.id ∧ p.id < 4096) ∧ (1 ≤ p.kind ∧ p.kind < 10) ∧ (0 ≤ p.line ∧ p.line < 8) ∧ (-1 ≤ p.ptr ∧ p.ptr < 6) ∧ (0 ≤ p.state ∧ p.state < 3) ∧ p.data.length ≤ 4 ∧ ∀ d ∈ p.data, in64 d
instance (x : Int) : Decidable (in64 x) := by unfold in64; infer_instance
instance (p : PktS) : Decidable (PLegal p) := by unfold PLegal; infer_instance
theorem legal_chk {p : PktS} (h : PLegal p) : pchkS p = some 0 := by
  obtain ⟨h1, h2, h3, h4, h5, h6, h7, h8, h9⟩ := h
  have b : ∀ {n l m : Int}, l ≤ n ∧ n < m → pbelowS n l m = some true := by
    intro n l m h
    unfold pbelowS
    simp [h.1, h.2]
  unfold pchkS pchkS_j0 pchkS_j1
  simp [b h1, b h2, b h3, b h4, b h5, b h6, b h7, show ¬ (4 : Int) < ((p.data.length : Nat) : Int) by omega]
def wordL (n : Int) : List U8 := [56, 48, 40, 32, 24, 16, 8, 0].map fun y : Int => IntKind.wrap .u8 (shrI .i64 n y)
theorem word_eq (n : Int) : pwordS n = some (wordL n) := by
  simp [pwordS, pwordS_l1, letP, chk, inR, pwordS_j0, wordL]
  exact ⟨Nat.le_of_ble_eq_true rfl, Nat.le_of_ble_eq_true rfl, Nat.le_of_ble_eq_true rfl, Nat.le_of_ble_eq_true rfl, Nat.le_of_ble_eq_true rfl, Nat.le_of_ble_eq_true rfl, Nat.le_of_ble_eq_true rfl, Nat.le_of_ble_eq_true rfl, rfl⟩
def wordsL (l : List Int) : List U8 := l.flatMap wordL
theorem wordL_len (n : Int) : (wordL n).length = 8 := rfl
theorem wordsL_len : ∀ l : List Int, (wordsL l).length = 8 * l.length
  | [] => rfl
  | n :: l => by
    have h1 := wordL_len n
    have h2 := wordsL_len l
    show (wordL n ++ wordsL l).length = 8 * (l.length + 1)
    rw [List.length_append]; omega
theorem wordL_ok (n : Int) : BytesOk (wordL n) := fun c hc => by
  have hc2 : c ∈ ([56, 48, 40, 32, 24, 16, 8, 0].map fun y : Int => IntKind.wrap .u8 (shrI .i64 n y)) := hc
  obtain ⟨y, _, rfl⟩ := List.mem_map.1 hc2
  rw [w8]; omega
theorem wordsL_ok : ∀ l : List Int, BytesOk (wordsL l)
  | [] => fun c hc => by cases hc
  | n :: l => (wordL_ok n).app (wordsL_ok l)
def hdrL (p : PktS) : List U8 := [IntKind.wrap .u8 p.kind, IntKind.wrap .u8 p.src, IntKind.wrap .u8 p.dst, IntKind.wrap .u8 (shrI .i64 p.id (8 : Int)), IntKind.wrap .u8 p.id, IntKind.wrap .u8 p.line, IntKind.wrap .u8 (wr (p.ptr + (1 : Int))), IntKind.wrap .u8 p.state, (if p.flag then (1 : Int) else (0 : Int)), IntKind.wrap .u8 (((List.length p.data) : Nat) : Int)]
theorem pack_l1 (p : PktS) (hd : p.data.length ≤ 4) (k : List U8 → Option (List U8 × Int)) : ∀ (rest done : List Int) (m : Nat) (acc : List U8), p.data = done ++ rest → rest.length < m → acc.length + 8 * rest.length ≤ 1000 → ppackS_l1 p k m acc ((done.length : Nat) : Int) = k (acc ++ wordsL rest)
  | _, _, 0, _, _, h, _ => by omega
  | [], done, m + 1, acc, h, _, _ => by
    have : p.data.length = done.length := by rw [h]; simp
    rw [ppackS_l1, decide_eq_false (by omega), cond_false]
    show k acc = k (acc ++ [])
    rw [List.append_nil]
  | n :: rest, done, m + 1, acc, h, hm, ha => by
    simp only [List.length_cons] at hm ha
    have hl : p.data.length = done.length + (rest.length + 1) := by rw [h]; simp
    have hn : nth p.data ((done.length : Nat) : Int) = n := by unfold nth; rw [h]; simp [List.getD_eq_getElem?_getD]
    rw [ppackS_l1, decide_eq_true (by omega), cond_true, chk_true (by omega), hn, word_eq, Option.bind_some]
    dsimp only [letP]
    rw [chk_true (by rw [List.length_append, wordL_len]; omega), chk_true (by unfold inR; omega)]
    have ih := pack_l1 p hd k rest (done ++ [n]) m (acc ++ wordL n) (by rw [h]; simp) (by omega) (by rw [List.length_append, wordL_len]; omega)
    rw [show (((done ++ [n]).length : Nat) : Int) = ((done.length : Nat) : Int) + 1 by simp] at ih
    rw [ih, List.append_assoc]
    rfl
theorem pack_eq {p : PktS} (h : PLegal p) : ppackS p = some (sealL (hdrL p ++ wordsL p.data), 0) := by
  have hd := h.2.2.2.2.2.2.2.1
  unfold ppackS
  rw [legal_chk h]
  simp only [Option.bind_some, decide_true, Bool.not_true, cond_false]
  have hf : pflagS p.flag = some (if p.flag then (1 : Int) else (0 : Int)) := by unfold pflagS; cases p.flag <;> rfl
  rw [hf, Option.bind_some]
  have := pack_l1 p hd ppackS_j0 p.data [] (p.data.length + 1) (hdrL p) (by simp) (by omega) (by show 10 + _ ≤ _; omega)
  refine this.trans ?_
  unfold ppackS_j0
  rw [seal_eq (by rw [List.length_append, wordsL_len]; show 10 + _ ≤ _; omega)]
  rfl
/-! Back. -/
theorem bor64 {v b : Nat} (hv : v < 2 ^ 56) (hb : b < 256) : bor .u64 (shlI .u64 ((v : Nat) : Int) 8) (IntKind.wrap .u64 ((b : Nat) : Int)) = ((v * 256 + b : Nat) : Int) := by
  unfold bor shlI
  have w64 : ∀ n : Int, IntKind.u64.wrap n = n % 18446744073709551616 := IntKind.wrap_u64
  have e1 : IntKind.wrap .u64 (((v : Nat) : Int) * 2 ^ (min (8 : Int).toNat (IntKind.bits .u64))) = ((v <<< 8 : Nat) : Int) := by
    rw [w64, Nat.shiftLeft_eq]
    show (((v : Nat) : Int) * 2 ^ 8) % 18446744073709551616 = ((v * 2 ^ 8 : Nat) : Int)
    omega
  have e2 : IntKind.wrap .u64 ((b : Nat) : Int) = ((b : Nat) : Int) := by rw [w64]; omega
  rw [e1, e2]
  show IntKind.wrap .u64 (((BitVec.ofInt 64 ((v <<< 8 : Nat) : Int) ||| BitVec.ofInt 64 ((b : Nat) : Int)).toNat : Nat) : Int) = _
  rw [BitVec.ofInt_natCast, BitVec.ofInt_natCast, BitVec.toNat_or, BitVec.toNat_ofNat, BitVec.toNat_ofNat]
  have hs : v <<< 8 < 2 ^ 64 := by rw [Nat.shiftLeft_eq]; omega
  rw [Nat.mod_eq_of_lt hs, Nat.mod_eq_of_lt (by omega), ← Nat.shiftLeft_add_eq_or_of_lt (by omega), Nat.shiftLeft_eq, w64]
  omega
theorem num_l1 (b : List U8) (k : Int → Option Int) (bs : List Nat) (hb : b = bs.map fun n : Nat => (((n : Nat) : Int) : U8)) (hl : bs.length ≤ 8) (hr : ∀ n ∈ bs, n < 256) : ∀ (rest done : List Nat) (m : Nat) (v : Nat), bs = done ++ rest → rest.length < m → v < 256 ^ done.length →
    pnumS_l1 b k m ((v : Nat) : Int) ((done.length : Nat) : Int) = k (((rest.foldl (fun v n => v * 256 + n) v : Nat) : Nat) : Int)
  | _, _, 0, _, _, h, _ => by omega
  | [], done, m + 1, v, h, _, _ => by
    have hbl : b.length = bs.length := (congrArg List.length hb).trans (List.length_map ..)
    have : b.length = done.length := by rw [hbl, h]; simp
    rw [pnumS_l1, decide_eq_false (by omega), cond_false]
    rfl
  | n :: rest, done, m + 1, v, h, hm, hv => by
    simp only [List.length_cons] at hm
    have hbl : b.length = bs.length := (congrArg List.length hb).trans (List.length_map ..)
    have hl2 : b.length = done.length + (rest.length + 1) := by rw [hbl, h]; simp
    have hl3 : done.length + (rest.length + 1) ≤ 8 := by have := congrArg List.length h; simp at this; omega
    have hn : nthB b ((done.length : Nat) : Int) = ((n : Nat) : Int) := by
      have := nthB_get b (i := done.length) (by omega)
      rw [this]
      have e0 : bs[done.length]? = some n := by rw [h]; simp
      have e : b[done.length]? = some (((n : Nat) : Int) : U8) := (congrArg (fun l : List U8 => l[done.length]?) hb).trans ((List.getElem?_map ..).trans (by rw [e0]; rfl))
      have e2 := List.getElem?_eq_getElem (l := b) (i := done.length) (by omega)
      rw [e2] at e
      exact Option.some.inj e
    have hlt : n < 256 := hr n (by rw [h]; simp)
    rw [pnumS_l1, decide_eq_true (by omega), cond_true, chk_true (by omega)]
    dsimp only [letP]
    have hv56 : v < 2 ^ 56 := Nat.lt_of_lt_of_le hv (by
      have : (256 : Nat) ^ done.length ≤ 256 ^ 7 := Nat.pow_le_pow_right (by decide) (by omega)
      omega)
    rw [hn, bor64 hv56 hlt, chk_true (by unfold inR; omega)]
    have ih := num_l1 b k bs hb hl hr rest (done ++ [n]) m (v * 256 + n) (by rw [h]; simp) (by omega) (by
      rw [List.length_append, List.length_singleton, Nat.pow_succ]; omega)
    rw [show (((done ++ [n]).length : Nat) : Int) = ((done.length : Nat) : Int) + 1 by simp] at ih
    exact ih
theorem number_word {n : Int} (h : in64 n) : pnumS (wordL n) = some n := by
  unfold in64 at h
  obtain ⟨N, hN⟩ : ∃ N : Nat, ((N : Nat) : Int) = n % 18446744073709551616 := ⟨(n % 18446744073709551616).toNat, by omega⟩
  have hlt : N < 18446744073709551616 := by omega
  have hw : wordL n = ([N / 72057594037927936 % 256, N / 281474976710656 % 256, N / 1099511627776 % 256, N / 4294967296 % 256, N / 16777216 % 256, N / 65536 % 256, N / 256 % 256, N % 256].map fun n : Nat => (((n : Nat) : Int) : U8)) := by
    unfold wordL
    have e : ∀ (k : Nat), k ≤ 64 → IntKind.wrap .u8 (shrI .i64 n ((k : Nat) : Int)) = n / 2 ^ k % 256 := by
      intro k hk
      rw [w8]
      unfold shrI
      show (Int.fdiv n (2 ^ (min k 64))) % 256 = _
      rw [Nat.min_eq_left hk, Int.fdiv_eq_ediv_of_nonneg _ (by exact Int.le_of_lt (Int.pow_pos (by decide)))]
    simp only [List.map_cons, List.map_nil]
    have e56 := e 56 (by decide); have e48 := e 48 (by decide); have e40 := e 40 (by decide); have e32 := e 32 (by decide); have e24 := e 24 (by decide); have e16 := e 16 (by decide); have e8 := e 8 (by decide); have e0 := e 0 (by decide)
    have c : ∀ {x y : Int} {l m : List U8}, x = y → l = m → ((x : U8) :: l : List U8) = (y : U8) :: m := by intro x y l m h1 h2; subst h1; subst h2; rfl
    refine c (e56.trans ?_) (c (e48.trans ?_) (c (e40.trans ?_) (c (e32.trans ?_) (c (e24.trans ?_) (c (e16.trans ?_) (c (e8.trans ?_) (c (e0.trans ?_) rfl)))))))
    all_goals omega
  unfold pnumS
  have := num_l1 (wordL n) pnumS_j0 _ hw (by simp) (by intro x hx; simp at hx; omega) _ [] 9 0 rfl (by simp) (by simp)
  have e9 : (wordL n).length + 1 = 9 := by rw [wordL_len]
  rw [e9]
  refine this.trans ?_
  unfold pnumS_j0
  congr 1
  simp only [List.foldl_cons, List.foldl_nil]
  have dm : ∀ x y : Nat, y = x * 256 → N / y * 256 + N / x % 256 = N / x := by
    intro x y h
    subst h
    rw [← Nat.div_div_eq_div_mul]
    generalize N / x = q
    omega
  have e0 : 0 * 256 + N / 72057594037927936 % 256 = N / 72057594037927936 := by
    have : N / 72057594037927936 < 256 := Nat.div_lt_of_lt_mul (by omega)
    rw [Nat.zero_mul, Nat.zero_add, Nat.mod_eq_of_lt this]
  rw [e0, dm 281474976710656 72057594037927936 rfl, dm 1099511627776 281474976710656 rfl, dm 4294967296 1099511627776 rfl, dm 16777216 4294967296 rfl, dm 65536 16777216 rfl, dm 256 65536 rfl]
  have e1 : N / 256 * 256 + N % 256 = N := Nat.div_add_mod' N 256
  rw [e1, hN]
  show IntKind.wrap .i64 _ = n
  rw [IntKind.wrap_i64]
  omega
theorem wordsL_part : ∀ (l : List Int) (k : Nat) (n : Int), l[k]? = some n → ((wordsL l).drop (8 * k)).take 8 = wordL n
  | [], _, _, h => by simp at h
  | m :: l, 0, n, h => by
    simp at h
    subst h
    show ((wordL m ++ wordsL l).drop 0).take 8 = _
    rw [List.drop_zero, List.take_append_of_le_length (by rw [wordL_len]; omega), List.take_of_length_le (by rw [wordL_len]; omega)]
  | m :: l, k + 1, n, h => by
    simp at h
    show ((wordL m ++ wordsL l).drop (8 * (k + 1))).take 8 = _
    have e : (wordL m ++ wordsL l).drop (8 * (k + 1)) = (wordsL l).drop (8 * k) := by
      have hw := wordL_len m
      rw [List.drop_append, List.drop_eq_nil_of_le (by omega), List.nil_append]
      congr 1
    rw [e]
    exact wordsL_part l k n h
theorem nums_ok {l : List Int} (hl : l.length ≤ 4) (hr : ∀ d ∈ l, in64 d) : NumsOk (wordsL l) := by
  have hw := wordsL_len l
  refine ⟨by omega, by omega, fun k hk => ?_⟩
  have hk2 : k < l.length := by omega
  rw [wordsL_part l k l[k] (List.getElem?_eq_getElem hk2), number_word (hr _ (List.getElem_mem hk2))]
  rfl
theorem nums_eq {l : List Int} (hr : ∀ d ∈ l, in64 d) : numsTo (wordsL l) ((wordsL l).length / 8) = l := by
  have hw := wordsL_len l
  unfold numsTo
  rw [hw, Nat.mul_div_cancel_left _ (by decide : 0 < 8)]
  apply List.ext_getElem?
  intro k
  rw [List.getElem?_map]
  rcases Nat.lt_or_ge k l.length with hk | hk
  · rw [List.getElem?_range hk, List.getElem?_eq_getElem hk]
    simp only [Option.map_some, Option.some.injEq]
    rw [wordsL_part l k l[k] (List.getElem?_eq_getElem hk), number_word (hr _ (List.getElem_mem hk))]
    rfl
  · rw [List.getElem?_eq_none hk, List.getElem?_eq_none (by simpa using hk)]
    rfl
theorem hdr_ok (p : PktS) : BytesOk (hdrL p) := fun c hc => by
  have hc2 : c ∈ ([IntKind.wrap .u8 p.kind, IntKind.wrap .u8 p.src, IntKind.wrap .u8 p.dst, IntKind.wrap .u8 (shrI .i64 p.id (8 : Int)), IntKind.wrap .u8 p.id, IntKind.wrap .u8 p.line, IntKind.wrap .u8 (wr (p.ptr + (1 : Int))), IntKind.wrap .u8 p.state, (if p.flag then (1 : Int) else (0 : Int)), IntKind.wrap .u8 (((List.length p.data) : Nat) : Int)] : List Int) := hc
  simp only [List.mem_cons, List.not_mem_nil, or_false] at hc2
  have hf : 0 ≤ (if p.flag then (1 : Int) else 0) ∧ (if p.flag then (1 : Int) else 0) < 256 := by cases p.flag <;> decide
  rcases hc2 with rfl | rfl | rfl | rfl | rfl | rfl | rfl | rfl | rfl | rfl <;> first | (rw [w8]; omega) | exact hf
def pkt0 : PktS := ⟨0, 0, 0, 0, 0, 0, 0, false, []⟩
theorem bor_id {x : Int} (h : 0 ≤ x ∧ x < 4096) : bor .i64 (shlI .i64 (wr (IntKind.wrap .u8 (shrI .i64 x 8))) 8) (wr (IntKind.wrap .u8 x)) = x := by
  obtain ⟨n, rfl⟩ : ∃ n : Nat, x = ((n : Nat) : Int) := ⟨x.toNat, by omega⟩
  have e1 : IntKind.wrap .u8 (shrI .i64 ((n : Nat) : Int) 8) = ((n / 256 : Nat) : Int) := by
    rw [w8]
    unfold shrI
    show (Int.fdiv ((n : Nat) : Int) (2 ^ (min 8 64))) % 256 = _
    rw [Int.fdiv_eq_ediv_of_nonneg _ (by decide), show (2 : Int) ^ (min 8 64) = 256 by rfl]
    omega
  have e2 : IntKind.wrap .u8 ((n : Nat) : Int) = ((n % 256 : Nat) : Int) := by rw [w8]; omega
  rw [e1, e2, wr_in (by omega) (by omega), wr_in (by omega) (by omega)]
  unfold bor shlI
  have e3 : IntKind.wrap .i64 ((((n / 256 : Nat) : Nat) : Int) * 2 ^ (min (8 : Int).toNat (IntKind.bits .i64))) = (((n / 256) <<< 8 : Nat) : Int) := by
    rw [IntKind.wrap_i64, Nat.shiftLeft_eq]
    show (((((n / 256 : Nat) : Nat) : Int) * 2 ^ 8) + 9223372036854775808) % 18446744073709551616 - 9223372036854775808 = ((n / 256 * 2 ^ 8 : Nat) : Int)
    omega
  rw [e3]
  show IntKind.wrap .i64 (((BitVec.ofInt 64 (((n / 256) <<< 8 : Nat) : Int) ||| BitVec.ofInt 64 ((n % 256 : Nat) : Int)).toNat : Nat) : Int) = _
  have hs : (n / 256) <<< 8 < 2 ^ 64 := by rw [Nat.shiftLeft_eq]; omega
  rw [BitVec.ofInt_natCast, BitVec.ofInt_natCast, BitVec.toNat_or, BitVec.toNat_ofNat, BitVec.toNat_ofNat, Nat.mod_eq_of_lt hs, Nat.mod_eq_of_lt (by omega), ← Nat.shiftLeft_add_eq_or_of_lt (by omega), Nat.shiftLeft_eq, IntKind.wrap_i64]
  omega
theorem unpack_eq {p : PktS} (h : PLegal p) : punpS (sealL (hdrL p ++ wordsL p.data)) = some (p, 0) := by
  have hp := h
  obtain ⟨h1, h2, h3, h4, h5, h6, h7, h8, h9⟩ := h
  have hlen : (hdrL p ++ wordsL p.data).length = 10 + 8 * p.data.length := by rw [List.length_append, wordsL_len]; rfl
  unfold punpS
  rw [open_seal (by omega), Option.bind_some]
  simp only [Bool.not_true, cond_false]
  rw [decide_eq_false (by omega), cond_false, chk_true (by omega)]
  dsimp only [letP]
  have n9 : nthB (hdrL p ++ wordsL p.data) 9 = ((p.data.length : Nat) : Int) := by
    show IntKind.wrap .u8 ((p.data.length : Nat) : Int) = _
    rw [w8]; omega
  rw [n9, wr_in (x := ((p.data.length : Nat) : Int)) (by omega) (by omega), wr_in (x := 8 * ((p.data.length : Nat) : Int)) (by omega) (by omega), wr_in (x := 10 + 8 * ((p.data.length : Nat) : Int)) (by omega) (by omega), decide_eq_true (by omega), Bool.not_true]
  unfold punpS_j0
  dsimp only [letP]
  simp only [cond_false]
  rw [chk_true (by omega), chk_true (by omega), chk_true (by omega), chk_true (by omega), chk_true (by omega), chk_true (by omega), chk_true (by omega), chk_true (by omega), chk_true (by omega), chk_true (by omega)]
  have hdrop : ((hdrL p ++ wordsL p.data).drop (10 : Int).toNat).take ((((hdrL p ++ wordsL p.data).length : Nat) : Int).toNat - (10 : Int).toNat) = wordsL p.data := by
    rw [Int.toNat_natCast, hlen]
    show ((hdrL p ++ wordsL p.data).drop 10).take (10 + 8 * p.data.length - 10) = _
    rw [show (hdrL p ++ wordsL p.data).drop 10 = wordsL p.data from rfl, List.take_of_length_le (by rw [wordsL_len]; omega)]
  rw [hdrop, chk_true (nums_ok h8 h9)]
  have e0 : wr (nthB (hdrL p ++ wordsL p.data) 0) = p.kind := by
    show wr (IntKind.wrap .u8 p.kind) = _
    rw [w8, wr_in] <;> omega
  have e1 : wr (nthB (hdrL p ++ wordsL p.data) 1) = p.src := by
    show wr (IntKind.wrap .u8 p.src) = _
    rw [w8, wr_in] <;> omega
  have e2 : wr (nthB (hdrL p ++ wordsL p.data) 2) = p.dst := by
    show wr (IntKind.wrap .u8 p.dst) = _
    rw [w8, wr_in] <;> omega
  have e3 : bor .i64 (shlI .i64 (wr (nthB (hdrL p ++ wordsL p.data) 3)) 8) (wr (nthB (hdrL p ++ wordsL p.data) 4)) = p.id := bor_id h3
  have e5 : wr (nthB (hdrL p ++ wordsL p.data) 5) = p.line := by
    show wr (IntKind.wrap .u8 p.line) = _
    rw [w8, wr_in] <;> omega
  have e6 : wr (wr (nthB (hdrL p ++ wordsL p.data) 6) - 1) = p.ptr := by
    show wr (wr (IntKind.wrap .u8 (wr (p.ptr + 1))) - 1) = _
    rw [wr_in (x := p.ptr + 1) (by omega) (by omega), w8, wr_in (x := (p.ptr + 1) % 256) (by omega) (by omega), wr_in] <;> omega
  have e7 : wr (nthB (hdrL p ++ wordsL p.data) 7) = p.state := by
    show wr (IntKind.wrap .u8 p.state) = _
    rw [w8, wr_in] <;> omega
  have e8 : decide (nthB (hdrL p ++ wordsL p.data) 8 = 1) = p.flag := by
    show decide ((if p.flag then (1 : Int) else (0 : Int)) = 1) = _
    cases p.flag <;> rfl
  rw [e0, e1, e2, e3, e5, e6, e7, e8, nums_eq h9]
  have ep : (⟨p.kind, p.src, p.dst, p.id, p.line, p.ptr, p.state, p.flag, p.data⟩ : PktS) = p := rfl
  rw [ep, pack_eq hp, Option.bind_some]
  simp only [decide_true, Bool.not_true, cond_false]
  rw [bEq_true, Option.bind_some, Bool.not_true, cond_false]
/-- What comes of a packet on its way. -/
def wireP (p : PktS) (bit mask : Int) : Option (PktS × Int) :=
  if PLegal p ∧ (0 ≤ bit ∧ bit < 4096) ∧ 0 ≤ mask ∧ mask < 65536 then (if mask = 0 then some (p, 0) else if hits (10 + 8 * p.data.length + 2) bit mask then some (pkt0, 2) else some (p, 0)) else wireS p bit mask
theorem hits0 (n : Nat) (bit : Int) : hits n bit 0 = false := by
  unfold hits
  rw [List.any_eq_false]
  intro x hx
  unfold ebR at hx
  obtain ⟨q, _, rfl⟩ := List.mem_map.1 hx
  simp [ebit]
theorem wire_eq (p : PktS) (bit mask : Int) : wireS p bit mask = wireP p bit mask := by
  unfold wireP
  by_cases hc : PLegal p ∧ (0 ≤ bit ∧ bit < 4096) ∧ 0 ≤ mask ∧ mask < 65536
  · rw [if_pos hc]
    obtain ⟨hp, hb, hm⟩ := hc
    have h8 := hp.2.2.2.2.2.2.2.1
    have hlen : (hdrL p ++ wordsL p.data).length = 10 + 8 * p.data.length := by rw [List.length_append, wordsL_len]; rfl
    have hok : BytesOk (hdrL p ++ wordsL p.data) := (hdr_ok p).app (wordsL_ok _)
    have hw : wireS p bit mask = (punpS (spG bit mask (sealL (hdrL p ++ wordsL p.data)) 0)).bind fun y => some (y.1, y.2) := by
      unfold wireS
      rw [pack_eq hp, Option.bind_some]
      simp only [decide_true, Bool.not_true, cond_false]
      rw [spoil_eq hb.1 (by omega) (by rw [sealL_len]; omega), Option.bind_some]
    have hq : hits (10 + 8 * p.data.length + 2) bit mask = false → wireS p bit mask = some (p, 0) := by
      intro h
      rw [hw, no_hit hm.1 hm.2 (sealL_ok hok) (by rw [sealL_len, hlen]; exact h), unpack_eq hp]
      rfl
    by_cases h0 : mask = 0
    · rw [if_pos h0]
      subst h0
      exact hq (hits0 _ _)
    · rw [if_neg h0]
      cases hh : hits (10 + 8 * p.data.length + 2) bit mask with
      | false => exact hq hh
      | true =>
        rw [hw]
        unfold punpS
        rw [open_spoilt hok (by omega) hb.1 hm.1 hm.2 (by rw [hlen]; exact hh), Option.bind_some]
        rfl
  · rw [if_neg hc]
end Go.Proofs.YtcidmgkfaioceaaGreat
namespace Go.Proofs.YtcidmgkfaioceaaGreat
open Go Go.RowKit
set_option linter.unusedVariables false
theorem wirePF {p : PktS} {p0A : Asn} {bit : Int} {mask : Int} (p0a : Option Addr) (p0c : Nat) (hp0A : Rdb p0A p0a p0c p.data) {y : PktS × Int} (H : wireP p bit mask = some y) : FnY Tryz.prog 104 [.agg #[.int .i64 p.kind, .int .i64 p.src, .int .i64 p.dst, .int .i64 p.id, .int .i64 p.line, .int .i64 p.ptr, .int .i64 p.state, .bool p.flag, .slice p0a (List.length p.data) p0c], .int .i64 bit, .int .u16 mask] ⟨[], [p0A]⟩ (Z := Option Addr × Nat) (fun y (za0, zc0) => .tuple #[.agg #[.int .i64 y.1.kind, .int .i64 y.1.src, .int .i64 y.1.dst, .int .i64 y.1.id, .int .i64 y.1.line, .int .i64 y.1.ptr, .int .i64 y.1.state, .bool y.1.flag, .slice za0 (List.length y.1.data) zc0], .int .i64 y.2]) (fun y (za0, zc0) => ⟨[], [(ArrA za0 zc0 y.1.data), p0A]⟩) y := wireF p0a p0c hp0A ((wire_eq p bit mask).trans H)
end Go.Proofs.YtcidmgkfaioceaaGreat
namespace Go.Proofs.YtcidmgkfaioceaaGreat
open Go Go.RowKit
set_option linter.unusedVariables false
def fdelS_j0 (at_ : Int) (e0_asksr_cs3 : List ChanS) (y7_14 : Int × BoxS) : Option (Int × FabS) :=
 (bif !(decide (y7_14.1 = (0 : Int))) then some (y7_14.1, ({ cs := e0_asksr_cs3 } : FabS)) else (ffindS ({ cs := e0_asksr_cs3 } : FabS) at_).bind fun y10_2 => (optM y10_2.1 (fun k10_2 => chk (0 ≤ k10_2 ∧ k10_2 < ((List.length e0_asksr_cs3 : Nat) : Int)) ((poremS ((nthS e0_asksr_cs3 k10_2).pool) y10_2.2.1).bind fun y11_3 => some ((0 : Int), ({ cs := (setS e0_asksr_cs3 k10_2 (⟨y11_3.2.2, (nthS e0_asksr_cs3 k10_2).queue⟩ : ChanS)) } : FabS)))) (none)))
def fdelS (fc : FabS) (at_ : Int) (bit : Int) (mask : Int) : Option (Int × FabS) :=
 (fpktS fc at_).bind fun y1_2 => (bif !y1_2.2 then some ((3 : Int), fc) else (wireP y1_2.1 bit mask).bind fun y4_3 => (bif !(decide (y4_3.2 = (0 : Int))) then some (y4_3.2, fc) else chk (0 ≤ y4_3.1.dst ∧ y4_3.1.dst < ((((List.length fc.cs) / 2) : Nat) : Int)) ((preqS y4_3.1.kind).bind fun y7_10 => (bif y7_10 then (quputS ((nthS fc.cs (2 * y4_3.1.dst)).queue) y4_3.1).bind fun y7_14 => (fdelS_j0 at_) (setS fc.cs (2 * y4_3.1.dst) (⟨(nthS fc.cs (2 * y4_3.1.dst)).pool, y7_14.2⟩ : ChanS)) y7_14 else (quputS ((nthS fc.cs (2 * y4_3.1.dst + 1)).queue) y4_3.1).bind fun y7_14 => (fdelS_j0 at_) (setS fc.cs (2 * y4_3.1.dst + 1) (⟨(nthS fc.cs (2 * y4_3.1.dst + 1)).pool, y7_14.2⟩ : ChanS)) y7_14))))
set_option maxRecDepth 100000 in
set_option maxHeartbeats 4000000 in
theorem fdelF {fc : FabS} {at_ : Int} {bit : Int} {mask : Int} (f : Nat) {y : Int × FabS} (H : fdelS fc at_ bit mask = some y) : FnY Tryz.prog 60 [.pointer (some ⟨f, 0, none⟩), .int .i64 at_, .int .i64 bit, .int .u16 mask] ⟨[], [(FabA f fc)]⟩ (Z := Unit) (fun y _ => .int .i64 y.1) (fun y _ => ⟨[], [(FabA f y.2)]⟩) y := by
 unfold fdelS at H
 refine xfY Tryz.func60 fun W0 F => ?_
 refine xg [] [] [0] (gh_open (FabO f fc)) fun ⟨a_cs1, c_cs2, r_cs3⟩ => ?_
 refine bindG H fun y1_2 hy1_2 H => ?_
 refine xc [] [0] [0,0] (fpktF f a_cs1 c_cs2 r_cs3 hy1_2) fun ⟨t1_2_a0, t1_2_c0⟩ => ?_
 refine xn [] fun b1_6 => ?_
 refine xs [0] H ?_ ?_
 · intro H
   refine xg [1] [1] [1,1] (gh_shut (FabO f fc) (a_cs1, c_cs2, r_cs3)) fun _ => ?_
   exact xrY (someE H) [] [] [] [0] ()
 · intro H
   refine bindG H fun y4_3 hy4_3 H => ?_
   refine xc [0,0] [] [0] (wirePF t1_2_a0 t1_2_c0 (rA t1_2_a0 t1_2_c0 y1_2.1.data) hy4_3) fun ⟨t4_3_a0, t4_3_c0⟩ => ?_
   refine xs [0] H ?_ ?_
   · intro H
     refine xg [1] [1] [2,2] (gh_shut (FabO f fc) (a_cs1, c_cs2, r_cs3)) fun _ => ?_
     exact xrY (someE H) [] [] [] [0] ()
   · intro H
     refine xj [0,101] (ι := List ChanS × (Int × BoxS)) (fun (e0_asksr_cs3, y7_14) => ⟨[(0, .pointer (some ⟨f, 0, none⟩)), (1, .int .i64 at_), (12, .int .i64 y7_14.1)], [⟨f, #[.slice a_cs1 (List.length r_cs3) c_cs2], 137⟩], [(StA e0_asksr_cs3 (asks r_cs3)), (ArrA a_cs1 c_cs2 r_cs3)]⟩) (fun (e0_asksr_cs3, y7_14) => fdelS_j0 at_ e0_asksr_cs3 y7_14 = some y) ?_ ?_
     · rintro ⟨e0_asksr_cs3, y7_14⟩ H
       replace H : fdelS_j0 at_ e0_asksr_cs3 y7_14 = some y := H
       rw [fdelS_j0] at H
       refine xs [] H ?_ ?_
       · intro H
         refine xg [1] [0] [1,0] (gh_shut (FabO f ({ cs := e0_asksr_cs3 } : FabS)) (a_cs1, c_cs2, r_cs3)) fun _ => ?_
         exact xrY (someE H) [] [] [] [0] ()
       · intro H
         refine bindG H fun y10_2 hy10_2 H => ?_
         refine xc [0] [0] [1,0] (ffindF f a_cs1 c_cs2 r_cs3 hy10_2) fun _ => ?_
         refine optG H (fun hk10_2 H => ?_) fun k10_2 hk10_2 H => ?_
         · refine xw [300] 55 (v := .tuple #[(askV (asks r_cs3) y10_2.1), .int .i64 y10_2.2.1, .bool y10_2.2.2]) (v' := .tuple #[.agg #[.pointer none, .pointer none], .int .i64 y10_2.2.1, .bool y10_2.2.2]) (by rw [hk10_2]; rfl) ?_
           refine xn [] fun b10_7 => ?_
           exact (noneE H).elim
         · refine xw [300] 55 (v := .tuple #[(askV (asks r_cs3) y10_2.1), .int .i64 y10_2.2.1, .bool y10_2.2.2]) (v' := .tuple #[.agg #[.pointer (some ⟨(nthT (asks r_cs3) k10_2).p, 0, none⟩), .pointer (some ⟨(nthT (asks r_cs3) k10_2).q, 0, none⟩)], .int .i64 y10_2.2.1, .bool y10_2.2.2]) (by rw [hk10_2]; rfl) ?_
           refine xn [] fun b10_7 => ?_
           refine xk [0,0] [1] (st_len e0_asksr_cs3 (asks r_cs3)) fun hl11_3_1 => ?_
           refine chkG H fun q11_3_1 H => ?_
           refine xg [] [] [1] (gh_sfoc e0_asksr_cs3 (asks r_cs3) k10_2 (nthT (asks r_cs3) k10_2) rfl (rngB hl11_3_1 (rngE hl11_3_1 q11_3_1))) fun _ => ?_
           refine bindG H fun y11_3 hy11_3 H => ?_
           refine xc [] [] [0] (poremF (nthT (asks r_cs3) k10_2).p hy11_3) fun ⟨t11_3_a0, t11_3_c0⟩ => ?_
           refine xg [] [] [1,1,1] (gh_sunf e0_asksr_cs3 (asks r_cs3) k10_2 (nthT (asks r_cs3) k10_2) (⟨y11_3.2.2, (nthS e0_asksr_cs3 k10_2).queue⟩ : ChanS) rfl (rngB hl11_3_1 (rngE hl11_3_1 q11_3_1)) rfl) fun _ => ?_
           refine xg [] [1] [2,0] (gh_shut (FabO f ({ cs := (setS e0_asksr_cs3 k10_2 (⟨y11_3.2.2, (nthS e0_asksr_cs3 k10_2).queue⟩ : ChanS)) } : FabS)) (a_cs1, c_cs2, r_cs3)) fun _ => ?_
           exact xrY (someE H) [] [] [] [0] ()
     · intro N0 hN0
       refine xk [0,1,2,3,1,4,5,0,6] [3] (st_len fc.cs (asks r_cs3)) fun hl7_6_1 => ?_
       refine chkG H fun q7_6_1 H => ?_
       refine xi [] 2 (rA a_cs1 c_cs2 r_cs3) (rngE (asks_half hl7_6_1) q7_6_1) fun b1 o1 e1 => ?_
       refine xpl [7] 2 (ol_ldN (rA a_cs1 c_cs2 r_cs3) e1 (rngE (asks_half hl7_6_1) q7_6_1) 0 4 (fun _ => rfl)) ?_
       refine bindG H fun y7_10 hy7_10 H => ?_
       refine xq [8,9,0,10] (preq_fq hy7_10) ?_
       refine xsd [11] 44 H ?_ ?_
       · intro H
         refine xq [] (psort_t (nthT r_cs3 y4_3.1.dst)) ?_
         refine xk [12,13,0,14] [3] (st_len fc.cs (asks r_cs3)) fun hl7_14_1 => ?_
         refine xg [] [] [3] (gh_sfoc fc.cs (asks r_cs3) (2 * y4_3.1.dst) (⟨(nthT r_cs3 y4_3.1.dst).rp, (nthT r_cs3 y4_3.1.dst).rq⟩) (asks_req (rngE (asks_half hl7_6_1) q7_6_1)) (rng_req hl7_14_1 (rngE (asks_half hl7_6_1) q7_6_1))) fun _ => ?_
         refine bindG H fun y7_14 hy7_14 H => ?_
         refine xc [] [] [1,2] (quputF (nthT r_cs3 y4_3.1.dst).rq t4_3_a0 t4_3_c0 (rA t4_3_a0 t4_3_c0 y4_3.1.data) hy7_14) fun _ => ?_
         refine xg [15] [] [2,0,1] (gh_sunf fc.cs (asks r_cs3) (2 * y4_3.1.dst) (⟨(nthT r_cs3 y4_3.1.dst).rp, (nthT r_cs3 y4_3.1.dst).rq⟩) (⟨(nthS fc.cs (2 * y4_3.1.dst)).pool, y7_14.2⟩ : ChanS) (asks_req (rngE (asks_half hl7_6_1) q7_6_1)) (rng_req hl7_14_1 (rngE (asks_half hl7_6_1) q7_6_1)) rfl) fun _ => ?_
         exact xe [] _ [1] [0,2] (hN0 ((setS fc.cs (2 * y4_3.1.dst) (⟨(nthS fc.cs (2 * y4_3.1.dst)).pool, y7_14.2⟩ : ChanS)), y7_14) H)
       · intro H
         refine xq [] (psort_f (nthT r_cs3 y4_3.1.dst)) ?_
         refine xk [12,13,0,14] [3] (st_len fc.cs (asks r_cs3)) fun hl7_14_2 => ?_
         refine xg [] [] [3] (gh_sfoc fc.cs (asks r_cs3) (2 * y4_3.1.dst + 1) (⟨(nthT r_cs3 y4_3.1.dst).ap, (nthT r_cs3 y4_3.1.dst).aq⟩) (asks_ans (rngE (asks_half hl7_6_1) q7_6_1)) (rng_ans hl7_14_2 (rngE (asks_half hl7_6_1) q7_6_1))) fun _ => ?_
         refine bindG H fun y7_14 hy7_14 H => ?_
         refine xc [] [] [1,2] (quputF (nthT r_cs3 y4_3.1.dst).aq t4_3_a0 t4_3_c0 (rA t4_3_a0 t4_3_c0 y4_3.1.data) hy7_14) fun _ => ?_
         refine xg [15] [] [2,0,1] (gh_sunf fc.cs (asks r_cs3) (2 * y4_3.1.dst + 1) (⟨(nthT r_cs3 y4_3.1.dst).ap, (nthT r_cs3 y4_3.1.dst).aq⟩) (⟨(nthS fc.cs (2 * y4_3.1.dst + 1)).pool, y7_14.2⟩ : ChanS) (asks_ans (rngE (asks_half hl7_6_1) q7_6_1)) (rng_ans hl7_14_2 (rngE (asks_half hl7_6_1) q7_6_1)) rfl) fun _ => ?_
         exact xe [] _ [1] [0,2] (hN0 ((setS fc.cs (2 * y4_3.1.dst + 1) (⟨(nthS fc.cs (2 * y4_3.1.dst + 1)).pool, y7_14.2⟩ : ChanS)), y7_14) H)
def fnewS_j0 (e0_b1_1 : FabS) : Option (FabS) :=
 some e0_b1_1
def fnewS_l1 (c : CfgS) (k0 : FabS → Option (FabS)) : Nat → Int → FabS → Option (FabS)
 | 0, _, _ => none
 | m + 1, v1_8, v1_b1_1 => (bif decide (v1_8 < c.nodes) then (ponewS c.out).bind fun y4_7 => (qunewS c.inn).bind fun y4_10 => (ponewS c.out).bind fun y4_14 => (qunewS (1 : Int)).bind fun y4_15 => chk (((List.length v1_b1_1.cs) / 2) + 1 ≤ 1099511627776) (chk (inR (v1_8 + (1 : Int))) ((fnewS_l1 c k0 m) (v1_8 + (1 : Int)) ({ cs := ((v1_b1_1.cs ++ [(⟨y4_7, y4_10⟩ : ChanS)]) ++ [(⟨y4_14, y4_15⟩ : ChanS)]) } : FabS))) else k0 v1_b1_1)
def fnewS (c : CfgS) : Option (FabS) :=
 fnewS_l1 c fnewS_j0 (c.nodes.toNat + 1) (0 : Int) ({ cs := ([] : List ChanS) } : FabS)
set_option maxRecDepth 100000 in
set_option maxHeartbeats 4000000 in
theorem fnewF {c : CfgS} (c0a : Option Addr) (c0c : Nat) {y : FabS} (H : fnewS c = some y) : FnY Tryz.prog 40 [.agg #[.int .i64 c.nodes, .int .i64 c.lines, .int .i64 c.words, .int .i64 c.sets, .int .i64 c.ways, .int .i64 c.out, .int .i64 c.inn, .slice c0a (List.length c.init) c0c]] ⟨[], []⟩ (Z := Nat) (fun y (zb0 : Nat) => .pointer (some ⟨zb0, 0, none⟩)) (fun y (zb0 : Nat) => ⟨[], [(FabA zb0 y)]⟩) y := by
 unfold fnewS at H
 refine xfY Tryz.func40 fun W0 F => ?_
 refine xn [] fun b0_0 => ?_
 refine xn [] fun b1_1 => ?_
 refine xj [100] (ι := FabS) (fun e0_b1_1 => ⟨[(3, .pointer (some ⟨b1_1, 0, none⟩))], [], [(FabA b1_1 e0_b1_1)]⟩) (fun e0_b1_1 => fnewS_j0 e0_b1_1 = some y) ?_ ?_
 · rintro e0_b1_1 H
   replace H : fnewS_j0 e0_b1_1 = some y := H
   rw [fnewS_j0] at H
   exact xrY (someE H) [] [] [] [0] (b1_1)
 · intro N0 hN0
   refine xg [1] [] [] (gh_nil (α := PortR) none) fun _ => ?_
   refine xg [] [] [] (gh_snil (α := ChanS)) fun _ => ?_
   refine xg [] [0] [1,0] (gh_shut (FabO b1_1 ({ cs := ([] : List ChanS) } : FabS)) (none, 0, ([] : List PortR))) fun _ => ?_
   refine xl [] (ι := Int × FabS) (fun (v1_8, v1_b1_1) => ⟨[(1, .pointer (some ⟨b0_0, 0, none⟩)), (3, .pointer (some ⟨b1_1, 0, none⟩)), (7, .int .i64 c.nodes), (8, .int .i64 v1_8)], [⟨b0_0, #[.int .i64 c.nodes, .int .i64 c.lines, .int .i64 c.words, .int .i64 c.sets, .int .i64 c.ways, .int .i64 c.out, .int .i64 c.inn, .slice c0a (List.length c.init) c0c], 25⟩], [(FabA b1_1 v1_b1_1)]⟩) (fun m1 (v1_8, v1_b1_1) => fnewS_l1 c (fnewS_j0) m1 v1_8 v1_b1_1 = some y) [0] [0] ((c.nodes.toNat + 1)) ((0 : Int), ({ cs := ([] : List ChanS) } : FabS)) H ?_
   rintro N1 (_ | m1) ⟨v1_8, v1_b1_1⟩ H hN1
   · exact (noneE H).elim
   replace H : fnewS_l1 c (fnewS_j0) (m1 + 1) v1_8 v1_b1_1 = some y := H
   rw [fnewS_l1] at H
   refine xs [] H ?_ ?_
   · intro H
     refine xg [1,0,1,2,3,4] [] [0] (gh_open (FabO b1_1 v1_b1_1)) fun ⟨a_cs1, c_cs2, r_cs3⟩ => ?_
     refine bindG H fun y4_7 hy4_7 H => ?_
     refine xc [0,5,6,1,8,9,1,12,13,1,7] [] [] (ponewF hy4_7) fun t4_7_b0 => ?_
     refine bindG H fun y4_10 hy4_10 H => ?_
     refine xc [10] [] [] (qunewF hy4_10) fun t4_10_b0 => ?_
     refine bindG H fun y4_14 hy4_14 H => ?_
     refine xc [11,14] [] [] (ponewF hy4_14) fun t4_14_b0 => ?_
     refine bindG H fun y4_15 hy4_15 H => ?_
     refine xc [15] [] [] (qunewF hy4_15) fun t4_15_b0 => ?_
     refine xn [16,17,18] fun b4_18 => ?_
     refine xg [19] [0] [6] (gh_one b4_18 134 (⟨t4_7_b0, t4_10_b0, t4_14_b0, t4_15_b0⟩ : PortR) ()) fun _ => ?_
     refine xk [] [6] (st_len v1_b1_1.cs (asks r_cs3)) fun hl4_19_1 => ?_
     refine chkG H fun q4_19_1 H => ?_
     refine xa [] [5,0] (a := a_cs1) (l := r_cs3) (zs := (r_cs3 ++ [(⟨t4_7_b0, t4_10_b0, t4_14_b0, t4_15_b0⟩ : PortR)])) (cap := c_cs2) (rA (some ⟨b4_18, 0, none⟩) 1 ([(⟨t4_7_b0, t4_10_b0, t4_14_b0, t4_15_b0⟩ : PortR)])) rfl (apG (e := (⟨t4_7_b0, t4_10_b0, t4_14_b0, t4_15_b0⟩ : PortR)) (asks_half hl4_19_1) q4_19_1) fun ⟨a4_19, c4_19⟩ => ?_
     refine xg [] [] [5,4,4] (gh_ssnoc v1_b1_1.cs (asks r_cs3) (⟨y4_7, y4_10⟩ : ChanS) (⟨t4_7_b0, t4_10_b0⟩ : AskR)) fun _ => ?_
     refine xg [] [] [4,3,0] (gh_ssnoc (v1_b1_1.cs ++ [(⟨y4_7, y4_10⟩ : ChanS)]) ((asks r_cs3) ++ [(⟨t4_7_b0, t4_10_b0⟩ : AskR)]) (⟨y4_14, y4_15⟩ : ChanS) (⟨t4_14_b0, t4_15_b0⟩ : AskR)) fun _ => ?_
     refine xg [] [] [0] (gh_sre (l := ((v1_b1_1.cs ++ [(⟨y4_7, y4_10⟩ : ChanS)]) ++ [(⟨y4_14, y4_15⟩ : ChanS)])) rfl (asks_snoc r_cs3 (⟨t4_7_b0, t4_10_b0, t4_14_b0, t4_15_b0⟩ : PortR))) fun _ => ?_
     refine chkG H fun q5_0_1 H => ?_
     refine xd [20,21,22,0,0] (ap q5_0_1 an) ?_
     refine xg [] [0] [1,0] (gh_shut (FabO b1_1 ({ cs := ((v1_b1_1.cs ++ [(⟨y4_7, y4_10⟩ : ChanS)]) ++ [(⟨y4_14, y4_15⟩ : ChanS)]) } : FabS)) (a4_19, c4_19, (r_cs3 ++ [(⟨t4_7_b0, t4_10_b0, t4_14_b0, t4_15_b0⟩ : PortR)]))) fun _ => ?_
     exact xe [] _ [0] [0] (hN1 _ (v1_8 + (1 : Int), ({ cs := ((v1_b1_1.cs ++ [(⟨y4_7, y4_10⟩ : ChanS)]) ++ [(⟨y4_14, y4_15⟩ : ChanS)]) } : FabS)) (Nat.lt_succ_self _) H)
   · intro H
     exact xe [0] _ [] [0] (hN0 (v1_b1_1) H)
end Go.Proofs.YtcidmgkfaioceaaGreat
namespace Go.Proofs.YtcidmgkfaioceaaGreat
open Go Go.RowKit
set_option linter.unusedVariables false
structure CacheS where
 l : List Ent
 sets : Int
 ways : Int
 clock : Int
def CacheO (b : Nat) (c : CacheS) : Option Addr × Nat → Rs := fun (a_l, c_l) => ⟨[⟨b, #[.slice a_l (List.length c.l) c_l, .int .i64 c.sets, .int .i64 c.ways, .int .i64 c.clock], 117⟩], [(ArrA a_l c_l c.l)]⟩
abbrev CacheA (b : Nat) (c : CacheS) : Asn := ObA (CacheO b c)
def cnewS (sets : Int) (ways : Int) : Option (CacheS) :=
 letP (if (1 : Int) < sets then sets else (1 : Int)) fun u1_1 => letP (if (1 : Int) < ways then ways else (1 : Int)) fun u1_3 => some ({ l := ([] : List Ent), sets := u1_1, ways := u1_3, clock := 0 } : CacheS)
set_option maxRecDepth 100000 in
set_option maxHeartbeats 4000000 in
theorem cnewF {sets : Int} {ways : Int} {y : CacheS} (H : cnewS sets ways = some y) : FnY Tryz.prog 84 [.int .i64 sets, .int .i64 ways] ⟨[], []⟩ (Z := Nat) (fun y (zb0 : Nat) => .pointer (some ⟨zb0, 0, none⟩)) (fun y (zb0 : Nat) => ⟨[], [(CacheA zb0 y)]⟩) y := by
 unfold cnewS at H
 refine xfY Tryz.func84 fun W0 F => ?_
 refine letG H fun u1_1 hu1_1 H => ?_
 refine xw [304] 6 (congrArg (Value.int .i64) hu1_1) ?_
 refine letG H fun u1_3 hu1_3 H => ?_
 refine xw [302] 8 (congrArg (Value.int .i64) hu1_3) ?_
 refine xn [] fun b1_5 => ?_
 refine xg [] [] [] (gh_nil (α := Ent) none) fun _ => ?_
 refine xg [] [0] [0] (gh_shut (CacheO b1_5 ({ l := ([] : List Ent), sets := u1_1, ways := u1_3, clock := 0 } : CacheS)) (none, 0)) fun _ => ?_
 exact xrY (someE H) [] [] [] [0] (b1_5)
def cat1S (e : Ent) (lnv : Int) : Option (Bool) :=
 some (decide (e.line = lnv))
set_option maxRecDepth 100000 in
set_option maxHeartbeats 4000000 in
theorem cat1F {e : Ent} {lnv : Int} (e0a : Option Addr) (e0c : Nat) (ln : Nat) {y : Bool} (H : cat1S e lnv = some y) : FnY Tryz.prog 97 [.agg #[.int .i64 e.fwd, .int .i64 e.back, .int .i64 e.line, .int .i64 e.used, .bool e.dirty, .slice e0a (List.length e.data) e0c], .pointer (some ⟨ln, 0, none⟩)] ⟨[⟨ln, #[.int .i64 lnv], 3⟩], []⟩ (Z := Unit) (fun y _ => .bool y) (fun y _ => ⟨[⟨ln, #[.int .i64 lnv], 3⟩], []⟩) y := by
 unfold cat1S at H
 refine xfY Tryz.func97 fun W0 F => ?_
 refine xn [] fun b0_0 => ?_
 exact xrY (someE H) [0,1] [] [1] [] ()
def cidxS_j0 : Option (Int) :=
 some ((-1) : Int)
def cidxS_l1 (s : List Ent) (lnv : Int) (k0 : Option (Int)) : Nat → Int → Option (Int)
 | 0, _ => none
 | m + 1, v1_8 => (bif decide (v1_8 < (((List.length s) : Nat) : Int)) then chk (0 ≤ v1_8 ∧ v1_8 < ((s.length : Nat) : Int)) (letP (nthT s v1_8) fun x4_4 => (cat1S x4_4 lnv).bind fun y4_5 => (bif y4_5 then some v1_8 else chk (inR (v1_8 + (1 : Int))) ((cidxS_l1 s lnv k0 m) (v1_8 + (1 : Int))))) else k0)
def cidxS (s : List Ent) (lnv : Int) : Option (Int) :=
 cidxS_l1 s lnv cidxS_j0 (List.length s + 1) (0 : Int)
set_option maxRecDepth 100000 in
set_option maxHeartbeats 4000000 in
theorem cidxF {s : List Ent} {sA : Asn} {lnv : Int} (sa : Option Addr) (sc : Nat) (ln : Nat) (hsA : Rdb sA sa sc s) {y : Int} (H : cidxS s lnv = some y) : FnY Tryz.prog 96 [.slice sa (List.length s) sc, .func (.func 97) #[] #[.pointer (some ⟨ln, 0, none⟩)]] ⟨[⟨ln, #[.int .i64 lnv], 3⟩], [sA]⟩ (Z := Unit) (fun y _ => .int .i64 y) (fun y _ => ⟨[⟨ln, #[.int .i64 lnv], 3⟩], [sA]⟩) y := by
 unfold cidxS at H
 refine xfY Tryz.func96 fun W0 F => ?_
 refine xj [101] (ι := Unit) (fun _ => ⟨[], [⟨ln, #[.int .i64 lnv], 3⟩], [sA]⟩) (fun _ => cidxS_j0 = some y) ?_ ?_
 · rintro _ H
   replace H : cidxS_j0 = some y := H
   rw [cidxS_j0] at H
   exact xrY (someE H) [] [] [0] [0] ()
 · intro N0 hN0
   refine xl [] (ι := Int) (fun v1_8 => ⟨[(0, .slice sa (List.length s) sc), (1, .func (.func 97) #[] #[.pointer (some ⟨ln, 0, none⟩)]), (7, .int .i64 (((List.length s) : Nat) : Int)), (8, .int .i64 v1_8)], [⟨ln, #[.int .i64 lnv], 3⟩], [sA]⟩) (fun m1 v1_8 => cidxS_l1 s lnv (cidxS_j0) m1 v1_8 = some y) [0] [0] ((List.length s + 1)) ((0 : Int)) H ?_
   rintro N1 (_ | m1) v1_8 H hN1
   · exact (noneE H).elim
   replace H : cidxS_l1 s lnv (cidxS_j0) (m1 + 1) v1_8 = some y := H
   rw [cidxS_l1] at H
   refine xs [] H ?_ ?_
   · intro H
     refine chkG H fun q4_3_1 H => ?_
     refine xi [1] 0 hsA q4_3_1 fun b1 o1 e1 => ?_
     refine letG H fun x4_4 hx4_4 H => ?_
     refine xo [] [] [0] (oc_ldN hsA e1 q4_3_1 hx4_4 0 6) fun z4_4_1 => ?_
     refine bindG H fun y4_5 hy4_5 H => ?_
     refine xc [] [0] [] (cat1F z4_4_1.1 z4_4_1.2 ln hy4_5) fun _ => ?_
     refine xs [] H ?_ ?_
     · intro H
       exact xrY (someE H) [1] [] [0] [1] ()
     · intro H
       refine chkG H fun q6_0_1 H => ?_
       refine xd [0,0] (ap q6_0_1 an) ?_
       exact xe [] _ [0] [1] (hN1 _ (v1_8 + (1 : Int)) (Nat.lt_succ_self _) H)
   · intro H
     exact xe [0] _ [0] [0] (hN0 () H)
def catS (cc : CacheS) (line : Int) : Option (Int) :=
 (cidxS cc.l line).bind fun y1_5 => some y1_5
set_option maxRecDepth 100000 in
set_option maxHeartbeats 4000000 in
theorem catF {cc : CacheS} {line : Int} (c : Nat) (c_a_l : Option Addr) (c_c_l : Nat) {y : Int} (H : catS cc line = some y) : FnY Tryz.prog 53 [.pointer (some ⟨c, 0, none⟩), .int .i64 line] ⟨[⟨c, #[.slice c_a_l (List.length cc.l) c_c_l, .int .i64 cc.sets, .int .i64 cc.ways, .int .i64 cc.clock], 117⟩], [(ArrA c_a_l c_c_l cc.l)]⟩ (Z := Unit) (fun y _ => .int .i64 y) (fun y _ => ⟨[⟨c, #[.slice c_a_l (List.length cc.l) c_c_l, .int .i64 cc.sets, .int .i64 cc.ways, .int .i64 cc.clock], 117⟩], [(ArrA c_a_l c_c_l cc.l)]⟩) y := by
 unfold catS at H
 refine xfY Tryz.func53 fun W0 F => ?_
 refine xn [] fun b0_0 => ?_
 refine bindG H fun y1_5 hy1_5 H => ?_
 refine xc [1] [0] [0] (cidxF c_a_l c_c_l b0_0 (rA c_a_l c_c_l cc.l) hy1_5) fun _ => ?_
 exact xrY (someE H) [] [] [1] [0] ()
def cfindS (cc : CacheS) (line : Int) : Option (Ent × Bool) :=
 (catS cc line).bind fun y1_2 => (bif decide (y1_2 < (0 : Int)) then some ((⟨(0 : Int), (0 : Int), (0 : Int), (0 : Int), false, ([] : List Int)⟩ : Ent), false) else chk (0 ≤ y1_2 ∧ y1_2 < ((cc.l.length : Nat) : Int)) (letP (nthT cc.l y1_2) fun x4_6 => (ecloneS x4_6).bind fun y4_7 => some (y4_7, true)))
set_option maxRecDepth 100000 in
set_option maxHeartbeats 4000000 in
theorem cfindF {cc : CacheS} {line : Int} (c : Nat) (c_a_l : Option Addr) (c_c_l : Nat) {y : Ent × Bool} (H : cfindS cc line = some y) : FnY Tryz.prog 15 [.pointer (some ⟨c, 0, none⟩), .int .i64 line] ⟨[⟨c, #[.slice c_a_l (List.length cc.l) c_c_l, .int .i64 cc.sets, .int .i64 cc.ways, .int .i64 cc.clock], 117⟩], [(ArrA c_a_l c_c_l cc.l)]⟩ (Z := Option Addr × Nat) (fun y (za0, zc0) => .tuple #[.agg #[.int .i64 y.1.fwd, .int .i64 y.1.back, .int .i64 y.1.line, .int .i64 y.1.used, .bool y.1.dirty, .slice za0 (List.length y.1.data) zc0], .bool y.2]) (fun y (za0, zc0) => ⟨[⟨c, #[.slice c_a_l (List.length cc.l) c_c_l, .int .i64 cc.sets, .int .i64 cc.ways, .int .i64 cc.clock], 117⟩], [(ArrA za0 zc0 y.1.data), (ArrA c_a_l c_c_l cc.l)]⟩) y := by
 unfold cfindS at H
 refine xfY Tryz.func15 fun W0 F => ?_
 refine xn [] fun b0_0 => ?_
 refine bindG H fun y1_2 hy1_2 H => ?_
 refine xc [] [1] [0] (catF c c_a_l c_c_l hy1_2) fun _ => ?_
 refine xs [] H ?_ ?_
 · intro H
   refine xg [1,1] [] [] (gh_nil (α := Int) none) fun _ => ?_
   exact xrY (someE H) [] [1] [0] [0,0] (none, 0)
 · intro H
   refine chkG H fun q4_5_1 H => ?_
   refine xi [0,0] 0 (rA c_a_l c_c_l cc.l) q4_5_1 fun b1 o1 e1 => ?_
   refine letG H fun x4_6 hx4_6 H => ?_
   refine xo [] [] [0] (oc_ldN (rA c_a_l c_c_l cc.l) e1 q4_5_1 hx4_6 0 6) fun z4_6_1 => ?_
   refine bindG H fun y4_7 hy4_7 H => ?_
   refine xc [] [] [0] (ecloneF z4_6_1.1 z4_6_1.2 (rI z4_6_1.1 z4_6_1.2 x4_6.data) hy4_7) fun ⟨t4_7_a0, t4_7_c0⟩ => ?_
   exact xrY (someE H) [1] [1] [0] [0,1] (t4_7_a0, t4_7_c0)
def csetS_j0 (e0_5x : List Ent) : Option (List Ent) :=
 some e0_5x
def csetS_j2 (v1_5x : List Ent) (x4_1 : Ent) (v1_13 : Int) (r1 : (List Ent) → Int → Option (List Ent)) (e2_34 : Bool) : Option (List Ent) :=
 (bif e2_34 then chk ((v1_5x ++ ([x4_1])).length ≤ 1099511627776) (letP (v1_5x ++ ([x4_1])) fun l6_3 => chk (inR (v1_13 + (1 : Int))) (r1 l6_3 (v1_13 + (1 : Int)))) else chk (inR (v1_13 + (1 : Int))) (r1 v1_5x (v1_13 + (1 : Int))))
def csetS_l1 (cc : CacheS) (line : Int) (k0 : (List Ent) → Option (List Ent)) : Nat → (List Ent) → Int → Option (List Ent)
 | 0, _, _ => none
 | m + 1, v1_5x, v1_13 => (bif decide (v1_13 < (((List.length cc.l) : Nat) : Int)) then chk (0 ≤ v1_13 ∧ v1_13 < ((cc.l.length : Nat) : Int)) (letP (nthT cc.l v1_13) fun x4_1 => (bif decide ((0 : Int) ≤ line) then chk (1 ≤ cc.sets) (chk (1 ≤ cc.sets) ((csetS_j2 v1_5x x4_1 v1_13 (csetS_l1 cc line k0 m)) (decide ((x4_1.line.tmod cc.sets) = (line.tmod cc.sets))))) else (csetS_j2 v1_5x x4_1 v1_13 (csetS_l1 cc line k0 m)) false)) else k0 v1_5x)
def csetS (cc : CacheS) (line : Int) : Option (List Ent) :=
 csetS_l1 cc line csetS_j0 (List.length cc.l + 1) ([] : List Ent) (0 : Int)
set_option maxRecDepth 100000 in
set_option maxHeartbeats 4000000 in
theorem csetF {cc : CacheS} {line : Int} (c : Nat) (c_a_l : Option Addr) (c_c_l : Nat) {y : List Ent} (H : csetS cc line = some y) : FnY Tryz.prog 203 [.pointer (some ⟨c, 0, none⟩), .int .i64 line] ⟨[⟨c, #[.slice c_a_l (List.length cc.l) c_c_l, .int .i64 cc.sets, .int .i64 cc.ways, .int .i64 cc.clock], 117⟩], [(ArrA c_a_l c_c_l cc.l)]⟩ (Z := Option Addr × Nat) (fun y (za0, zc0) => .slice za0 (List.length y) zc0) (fun y (za0, zc0) => ⟨[⟨c, #[.slice c_a_l (List.length cc.l) c_c_l, .int .i64 cc.sets, .int .i64 cc.ways, .int .i64 cc.clock], 117⟩], [(ArrA za0 zc0 y), (ArrA c_a_l c_c_l cc.l)]⟩) y := by
 unfold csetS at H
 refine xfY Tryz.func203 fun W0 F => ?_
 refine xj [102] (ι := List Ent × Option Addr × Nat) (fun (e0_5x, e0_5a, e0_5c) => ⟨[(5, .slice e0_5a (List.length e0_5x) e0_5c)], [⟨c, #[.slice c_a_l (List.length cc.l) c_c_l, .int .i64 cc.sets, .int .i64 cc.ways, .int .i64 cc.clock], 117⟩], [(ArrA e0_5a e0_5c e0_5x), (ArrA c_a_l c_c_l cc.l)]⟩) (fun (e0_5x, e0_5a, e0_5c) => csetS_j0 e0_5x = some y) ?_ ?_
 · rintro ⟨e0_5x, e0_5a, e0_5c⟩ H
   replace H : csetS_j0 e0_5x = some y := H
   rw [csetS_j0] at H
   exact xrY (someE H) [] [] [0] [0,0] (e0_5a, e0_5c)
 · intro N0 hN0
   refine xg [0] [] [] (gh_nil (α := Ent) none) fun _ => ?_
   refine xl [] (ι := List Ent × Int × Option Addr × Nat) (fun (v1_5x, v1_13, v1_5a, v1_5c) => ⟨[(0, .pointer (some ⟨c, 0, none⟩)), (1, .int .i64 line), (5, .slice v1_5a (List.length v1_5x) v1_5c), (11, .slice c_a_l (List.length cc.l) c_c_l), (12, .int .i64 (((List.length cc.l) : Nat) : Int)), (13, .int .i64 v1_13)], [⟨c, #[.slice c_a_l (List.length cc.l) c_c_l, .int .i64 cc.sets, .int .i64 cc.ways, .int .i64 cc.clock], 117⟩], [(ArrA v1_5a v1_5c v1_5x), (ArrA c_a_l c_c_l cc.l)]⟩) (fun m1 (v1_5x, v1_13, v1_5a, v1_5c) => csetS_l1 cc line (csetS_j0) m1 v1_5x v1_13 = some y) [0] [0,0] ((List.length cc.l + 1)) (([] : List Ent), (0 : Int), none, 0) H ?_
   rintro N1 (_ | m1) ⟨v1_5x, v1_13, v1_5a, v1_5c⟩ H hN1
   · exact (noneE H).elim
   replace H : csetS_l1 cc line (csetS_j0) (m1 + 1) v1_5x v1_13 = some y := H
   rw [csetS_l1] at H
   refine xs [] H ?_ ?_
   · intro H
     refine chkG H fun q4_0_1 H => ?_
     refine xi [1] 1 (rA c_a_l c_c_l cc.l) q4_0_1 fun b1 o1 e1 => ?_
     refine letG H fun x4_1 hx4_1 H => ?_
     refine xo [] [] [1] (oc_ldN (rA c_a_l c_c_l cc.l) e1 q4_0_1 hx4_1 0 6) fun z4_1_1 => ?_
     refine xn [] fun b4_2 => ?_
     refine xj [0,100] (ι := Bool) (fun e2_34 => ⟨[(0, .pointer (some ⟨c, 0, none⟩)), (1, .int .i64 line), (5, .slice v1_5a (List.length v1_5x) v1_5c), (7, .pointer (some ⟨b4_2, 0, none⟩)), (11, .slice c_a_l (List.length cc.l) c_c_l), (12, .int .i64 (((List.length cc.l) : Nat) : Int)), (13, .int .i64 v1_13), (34, .bool e2_34)], [⟨b4_2, #[.int .i64 x4_1.fwd, .int .i64 x4_1.back, .int .i64 x4_1.line, .int .i64 x4_1.used, .bool x4_1.dirty, .slice z4_1_1.1 (List.length x4_1.data) z4_1_1.2], 42⟩, ⟨c, #[.slice c_a_l (List.length cc.l) c_c_l, .int .i64 cc.sets, .int .i64 cc.ways, .int .i64 cc.clock], 117⟩], [(ImmA z4_1_1.1 z4_1_1.2 x4_1.data), (ArrA c_a_l c_c_l cc.l), (ArrA v1_5a v1_5c v1_5x)]⟩) (fun e2_34 => csetS_j2 v1_5x x4_1 v1_13 (csetS_l1 cc line (csetS_j0) m1) e2_34 = some y) ?_ ?_
     · rintro e2_34 H
       replace H : csetS_j2 v1_5x x4_1 v1_13 (csetS_l1 cc line (csetS_j0) m1) e2_34 = some y := H
       rw [csetS_j2] at H
       refine xs [] H ?_ ?_
       · intro H
         refine xn [1,0] fun b6_2 => ?_
         refine xg [] [] [0] (gh_dup z4_1_1.1 z4_1_1.2 x4_1.data) fun _ => ?_
         refine xg [] [0] [0] (gh_one b6_2 42 x4_1 (z4_1_1.1, z4_1_1.2)) fun _ => ?_
         refine chkG H fun q6_3_1 H => ?_
         refine letG H fun l6_3 hl6_3 H => ?_
         refine xa [] [3,0] (a := v1_5a) (l := v1_5x) (zs := l6_3) (cap := v1_5c) (rA (some ⟨b6_2, 0, none⟩) 1 ([x4_1])) hl6_3 (hl6_3 ▸ q6_3_1) fun ⟨a6_3, c6_3⟩ => ?_
         refine chkG H fun q7_0_1 H => ?_
         refine xd [0] (ap q7_0_1 an) ?_
         exact xe [] _ [1] [0,2] (hN1 _ (l6_3, v1_13 + (1 : Int), a6_3, c6_3) (Nat.lt_succ_self _) H)
       · intro H
         refine chkG H fun q7_0_2 H => ?_
         refine xd [0,0] (ap q7_0_2 an) ?_
         exact xe [] _ [1] [2,1] (hN1 _ (v1_5x, v1_13 + (1 : Int), v1_5a, v1_5c) (Nat.lt_succ_self _) H)
     · intro N2 hN2
       refine xs [0,1,2,3] H ?_ ?_
       · intro H
         refine chkG H fun q5_9_1 H => ?_
         refine xp [1,4,1,0,5,1,6,1,7,1,8,1,1,9,1] (ov_rem (a := x4_1.line) (b := cc.sets) q5_9_1) ?_
         refine chkG H fun q5_15_1 H => ?_
         refine xp [10,1,11,1,12,1,13,1,14,1,1,15,1] (ov_rem (a := line) (b := cc.sets) q5_15_1) ?_
         exact xe [16,1,17,1] _ [0,0] [0,0,0] (hN2 (decide ((x4_1.line.tmod cc.sets) = (line.tmod cc.sets))) H)
       · intro H
         exact xe [0,4,0,5,0,6,0,7,0,8,0,9,0,10,0,11,0,12,0,13,0,14,0,15,0,16,0,17,0] _ [0,0] [0,0,0] (hN2 (false) H)
   · intro H
     exact xe [0] _ [0] [0,0] (hN0 (v1_5x, v1_5a, v1_5c) H)
def cfullS_j0 (e0_4 : Bool) : Option (Bool) :=
 some e0_4
def cfullS (cc : CacheS) (line : Int) : Option (Bool) :=
 (catS cc line).bind fun y1_2 => (bif decide (y1_2 < (0 : Int)) then (csetS cc line).bind fun y1_7 => cfullS_j0 (decide (cc.ways ≤ (((List.length y1_7) : Nat) : Int))) else cfullS_j0 false)
set_option maxRecDepth 100000 in
set_option maxHeartbeats 4000000 in
theorem cfullF {cc : CacheS} {line : Int} (c : Nat) (c_a_l : Option Addr) (c_c_l : Nat) {y : Bool} (H : cfullS cc line = some y) : FnY Tryz.prog 158 [.pointer (some ⟨c, 0, none⟩), .int .i64 line] ⟨[⟨c, #[.slice c_a_l (List.length cc.l) c_c_l, .int .i64 cc.sets, .int .i64 cc.ways, .int .i64 cc.clock], 117⟩], [(ArrA c_a_l c_c_l cc.l)]⟩ (Z := Unit) (fun y _ => .bool y) (fun y _ => ⟨[⟨c, #[.slice c_a_l (List.length cc.l) c_c_l, .int .i64 cc.sets, .int .i64 cc.ways, .int .i64 cc.clock], 117⟩], [(ArrA c_a_l c_c_l cc.l)]⟩) y := by
 unfold cfullS at H
 refine xfY Tryz.func158 fun W0 F => ?_
 refine xj [101] (ι := Bool) (fun e0_4 => ⟨[(4, .bool e0_4)], [⟨c, #[.slice c_a_l (List.length cc.l) c_c_l, .int .i64 cc.sets, .int .i64 cc.ways, .int .i64 cc.clock], 117⟩], [(ArrA c_a_l c_c_l cc.l)]⟩) (fun e0_4 => cfullS_j0 e0_4 = some y) ?_ ?_
 · rintro e0_4 H
   replace H : cfullS_j0 e0_4 = some y := H
   rw [cfullS_j0] at H
   exact xrY (someE H) [] [] [0] [0] ()
 · intro N0 hN0
   refine bindG H fun y1_2 hy1_2 H => ?_
   refine xc [0,1,2] [0] [0] (catF c c_a_l c_c_l hy1_2) fun _ => ?_
   refine xs [3,4,5] H ?_ ?_
   · intro H
     refine bindG H fun y1_7 hy1_7 H => ?_
     refine xc [1,6,1,9,1,10,1,11,1,12,1,0,7,1] [0] [0] (csetF c c_a_l c_c_l hy1_7) fun ⟨t1_7_a0, t1_7_c0⟩ => ?_
     exact xe [8,1,13,1,14,1,15] _ [0] [1] (hN0 (decide (cc.ways ≤ (((List.length y1_7) : Nat) : Int))) H)
   · intro H
     exact xe [0,6,0,7,0,8,0,9,0,10,0,11,0,12,0,13,0,14,0,15] _ [0] [0] (hN0 (false) H)
def ctouchS (cc : CacheS) (line : Int) : Option (Bool × CacheS) :=
 (catS cc line).bind fun y1_2 => (bif decide (y1_2 < (0 : Int)) then some (false, cc) else chk (0 ≤ y1_2 ∧ y1_2 < ((cc.l.length : Nat) : Int)) (letP (setT cc.l y1_2 ({ nthT cc.l y1_2 with used := (wr (cc.clock + (1 : Int))) })) fun l5_11 => some (true, ({ cc with l := l5_11, clock := wr (cc.clock + (1 : Int)) } : CacheS))))
set_option maxRecDepth 100000 in
set_option maxHeartbeats 4000000 in
theorem ctouchF {cc : CacheS} {line : Int} (c : Nat) {y : Bool × CacheS} (H : ctouchS cc line = some y) : FnY Tryz.prog 157 [.pointer (some ⟨c, 0, none⟩), .int .i64 line] ⟨[], [(CacheA c cc)]⟩ (Z := Unit) (fun y _ => .bool y.1) (fun y _ => ⟨[], [(CacheA c y.2)]⟩) y := by
 unfold ctouchS at H
 refine xfY Tryz.func157 fun W0 F => ?_
 refine xg [] [] [0] (gh_open (CacheO c cc)) fun ⟨a_l1, c_l2⟩ => ?_
 refine bindG H fun y1_2 hy1_2 H => ?_
 refine xc [] [0] [0] (catF c a_l1 c_l2 hy1_2) fun _ => ?_
 refine xs [] H ?_ ?_
 · intro H
   refine xg [1] [0] [0] (gh_shut (CacheO c cc) (a_l1, c_l2)) fun _ => ?_
   exact xrY (someE H) [] [] [] [0] ()
 · intro H
   refine chkG H fun q5_9_1 H => ?_
   refine xi [0,0,1,0,0,1,2,3,0,4,5,6,7,8,0,9] 0 (rA a_l1 c_l2 cc.l) q5_9_1 fun b1 o1 e1 => ?_
   refine letG H fun l5_11 hl5_11 H => ?_
   refine xo [10,11] [] [0] (oc_stf (cap := c_l2) (e := { nthT cc.l y1_2 with used := (wr (cc.clock + (1 : Int))) }) 3 [.int .i64 (wr (cc.clock + (1 : Int)))] e1 q5_9_1 (fun _ => rfl) (fun _ => rfl) hl5_11) fun _ => ?_
   refine xw [] 21 (congrArg (fun n : Nat => (.slice a_l1 n c_l2 : Value)) (set_len hl5_11)) ?_
   refine xg [] [0] [] (gh_cells c 117 (congrArg (fun n : Nat => (#[.slice a_l1 n c_l2, .int .i64 cc.sets, .int .i64 cc.ways, .int .i64 (wr (cc.clock + (1 : Int)))] : Array Value)) (set_len hl5_11))) fun _ => ?_
   refine xg [] [0] [0] (gh_shut (CacheO c ({ cc with l := l5_11, clock := wr (cc.clock + (1 : Int)) } : CacheS)) (a_l1, c_l2)) fun _ => ?_
   exact xrY (someE H) [] [] [] [0] ()
def cputS (cc : CacheS) (e : Ent) : Option (Int × CacheS) :=
 (ecloneS e).bind fun y1_1 => (bif decide (y1_1.line < (0 : Int)) then some ((1 : Int), cc) else (catS cc y1_1.line).bind fun y4_3 => (bif decide ((0 : Int) ≤ y4_3) then chk (0 ≤ y4_3 ∧ y4_3 < ((cc.l.length : Nat) : Int)) (chk (0 ≤ y4_3 ∧ y4_3 < ((cc.l.length : Nat) : Int)) (letP (setT cc.l y4_3 (⟨y1_1.fwd, y1_1.back, y1_1.line, (nthT cc.l y4_3).used, y1_1.dirty, y1_1.data⟩ : Ent)) fun l7_7 => some ((0 : Int), ({ cc with l := l7_7 } : CacheS)))) else (cfullS cc y1_1.line).bind fun y9_3 => (bif y9_3 then some ((5 : Int), cc) else chk ((cc.l ++ ([(⟨y1_1.fwd, y1_1.back, y1_1.line, wr (cc.clock + (1 : Int)), y1_1.dirty, y1_1.data⟩ : Ent)])).length ≤ 1099511627776) (letP (cc.l ++ ([(⟨y1_1.fwd, y1_1.back, y1_1.line, wr (cc.clock + (1 : Int)), y1_1.dirty, y1_1.data⟩ : Ent)])) fun l13_7 => some ((0 : Int), ({ cc with l := l13_7, clock := wr (cc.clock + (1 : Int)) } : CacheS))))))
set_option maxRecDepth 100000 in
set_option maxHeartbeats 4000000 in
theorem cputF {cc : CacheS} {e : Ent} {e0A : Asn} (c : Nat) (e0a : Option Addr) (e0c : Nat) (he0A : Rdb e0A e0a e0c e.data) {y : Int × CacheS} (H : cputS cc e = some y) : FnY Tryz.prog 193 [.pointer (some ⟨c, 0, none⟩), .agg #[.int .i64 e.fwd, .int .i64 e.back, .int .i64 e.line, .int .i64 e.used, .bool e.dirty, .slice e0a (List.length e.data) e0c]] ⟨[], [(CacheA c cc), e0A]⟩ (Z := Unit) (fun y _ => .int .i64 y.1) (fun y _ => ⟨[], [(CacheA c y.2), e0A]⟩) y := by
 unfold cputS at H
 refine xfY Tryz.func193 fun W0 F => ?_
 refine xn [] fun b0_0 => ?_
 refine bindG H fun y1_1 hy1_1 H => ?_
 refine xc [0] [] [1] (ecloneF e0a e0c he0A hy1_1) fun ⟨t1_1_a0, t1_1_c0⟩ => ?_
 refine xs [0,0] H ?_ ?_
 · intro H
   exact xrY (someE H) [1] [] [] [2,1] ()
 · intro H
   refine xg [0,0] [] [2] (gh_open (CacheO c cc)) fun ⟨a_l1, c_l2⟩ => ?_
   refine bindG H fun y4_3 hy4_3 H => ?_
   refine xc [] [0] [0] (catF c a_l1 c_l2 hy4_3) fun _ => ?_
   refine xs [] H ?_ ?_
   · intro H
     refine chkG H fun q6_5_1 H => ?_
     refine xi [1,0] 0 (rA a_l1 c_l2 cc.l) q6_5_1 fun b1 o1 e1 => ?_
     refine xpl [] 0 (ol_ld (rA a_l1 c_l2 cc.l) e1 q6_5_1 3 (fun _ => rfl)) ?_
     refine chkG H fun q7_6_1 H => ?_
     refine xi [1,0,1,2,3,0,4,5,1,6] 0 (rA a_l1 c_l2 cc.l) q7_6_1 fun b2 o2 e2 => ?_
     refine xg [7] [] [1] (gh_frz t1_1_a0 t1_1_c0 y1_1.data) fun _ => ?_
     refine xg [] [] [0] (gh_dup t1_1_a0 t1_1_c0 y1_1.data) fun _ => ?_
     refine letG H fun l7_7 hl7_7 H => ?_
     refine xo [] [] [2,0] (oc_st (α := Ent) (cap := c_l2) (e := (⟨y1_1.fwd, y1_1.back, y1_1.line, (nthT cc.l y4_3).used, y1_1.dirty, y1_1.data⟩ : Ent)) (t1_1_a0, t1_1_c0) e2 q7_6_1 hl7_7) fun _ => ?_
     refine xw [] 29 (congrArg (fun n : Nat => (.slice a_l1 n c_l2 : Value)) (set_len hl7_7)) ?_
     refine xg [] [0] [] (gh_cells c 117 (congrArg (fun n : Nat => (#[.slice a_l1 n c_l2, .int .i64 cc.sets, .int .i64 cc.ways, .int .i64 cc.clock] : Array Value)) (set_len hl7_7))) fun _ => ?_
     refine xg [] [0] [0] (gh_shut (CacheO c ({ cc with l := l7_7 } : CacheS)) (a_l1, c_l2)) fun _ => ?_
     exact xrY (someE H) [] [] [] [0,1] ()
   · intro H
     refine bindG H fun y9_3 hy9_3 H => ?_
     refine xc [0,1] [0] [0] (cfullF c a_l1 c_l2 hy9_3) fun _ => ?_
     refine xs [] H ?_ ?_
     · intro H
       refine xg [1] [0] [0] (gh_shut (CacheO c cc) (a_l1, c_l2)) fun _ => ?_
       exact xrY (someE H) [] [] [] [0,1] ()
     · intro H
       refine xn [0,0,1,0,0,1,0,1,2,3,4,0,5,1,6] fun b13_6 => ?_
       refine xg [7] [] [1] (gh_frz t1_1_a0 t1_1_c0 y1_1.data) fun _ => ?_
       refine xg [] [] [0] (gh_dup t1_1_a0 t1_1_c0 y1_1.data) fun _ => ?_
       refine xg [] [0] [0] (gh_one b13_6 42 (⟨y1_1.fwd, y1_1.back, y1_1.line, wr (cc.clock + (1 : Int)), y1_1.dirty, y1_1.data⟩ : Ent) (t1_1_a0, t1_1_c0)) fun _ => ?_
       refine chkG H fun q13_7_1 H => ?_
       refine letG H fun l13_7 hl13_7 H => ?_
       refine xa [] [2,0] (a := a_l1) (l := cc.l) (zs := l13_7) (cap := c_l2) (rA (some ⟨b13_6, 0, none⟩) 1 ([(⟨y1_1.fwd, y1_1.back, y1_1.line, wr (cc.clock + (1 : Int)), y1_1.dirty, y1_1.data⟩ : Ent)])) hl13_7 (hl13_7 ▸ q13_7_1) fun ⟨a13_7, c13_7⟩ => ?_
       refine xg [8,9,10,0] [0] [0] (gh_shut (CacheO c ({ cc with l := l13_7, clock := wr (cc.clock + (1 : Int)) } : CacheS)) (a13_7, c13_7)) fun _ => ?_
       exact xrY (someE H) [] [] [] [0,2] ()
end Go.Proofs.YtcidmgkfaioceaaGreat
namespace Go.Proofs.YtcidmgkfaioceaaGreat
open Go Go.RowKit
set_option linter.unusedVariables false
def esfS (lv : Ent) (n : Int) : Option (Ent) :=
 some (⟨n, lv.back, lv.line, lv.used, lv.dirty, lv.data⟩ : Ent)
set_option maxRecDepth 100000 in
set_option maxHeartbeats 4000000 in
theorem esfF {lv : Ent} {n : Int} (l : Nat) (l0a : Option Addr) (l0c : Nat) {y : Ent} (H : esfS lv n = some y) : FnY Tryz.prog 232 [.pointer (some ⟨l, 0, none⟩), .int .i64 n] ⟨[⟨l, #[.int .i64 lv.fwd, .int .i64 lv.back, .int .i64 lv.line, .int .i64 lv.used, .bool lv.dirty, .slice l0a (List.length lv.data) l0c], 42⟩], [(ImmA l0a l0c lv.data)]⟩ (Z := Option Addr × Nat) (fun y (za0, zc0) => .tuple #[]) (fun y (za0, zc0) => ⟨[⟨l, #[.int .i64 y.fwd, .int .i64 y.back, .int .i64 y.line, .int .i64 y.used, .bool y.dirty, .slice za0 (List.length y.data) zc0], 42⟩], [(ImmA za0 zc0 y.data)]⟩) y := by
 unfold esfS at H
 refine xfY Tryz.func232 fun W0 F => ?_
 refine xg [0] [] [0] (gh_dup l0a l0c lv.data) fun _ => ?_
 exact xrY (someE H) [] [] [0] [0] (l0a, l0c)
def esbS (lv : Ent) (n : Int) : Option (Ent) :=
 some (⟨lv.fwd, n, lv.line, lv.used, lv.dirty, lv.data⟩ : Ent)
set_option maxRecDepth 100000 in
set_option maxHeartbeats 4000000 in
theorem esbF {lv : Ent} {n : Int} (l : Nat) (l0a : Option Addr) (l0c : Nat) {y : Ent} (H : esbS lv n = some y) : FnY Tryz.prog 231 [.pointer (some ⟨l, 0, none⟩), .int .i64 n] ⟨[⟨l, #[.int .i64 lv.fwd, .int .i64 lv.back, .int .i64 lv.line, .int .i64 lv.used, .bool lv.dirty, .slice l0a (List.length lv.data) l0c], 42⟩], [(ImmA l0a l0c lv.data)]⟩ (Z := Option Addr × Nat) (fun y (za0, zc0) => .tuple #[]) (fun y (za0, zc0) => ⟨[⟨l, #[.int .i64 y.fwd, .int .i64 y.back, .int .i64 y.line, .int .i64 y.used, .bool y.dirty, .slice za0 (List.length y.data) zc0], 42⟩], [(ImmA za0 zc0 y.data)]⟩) y := by
 unfold esbS at H
 refine xfY Tryz.func231 fun W0 F => ?_
 refine xg [0] [] [0] (gh_dup l0a l0c lv.data) fun _ => ?_
 exact xrY (someE H) [] [] [0] [0] (l0a, l0c)
def ewriteS_j0 (ev : Ent) (at_ : Int) (value : Int) (e0_19 : Bool) : Option (Bool × Ent) :=
 (bif e0_19 then some (false, ev) else (cloneS ev.data).bind fun y3_5 => chk (0 ≤ at_ ∧ at_ < ((y3_5.length : Nat) : Int)) (letP (setT y3_5 at_ value) fun l4_7 => some (true, (⟨ev.fwd, ev.back, ev.line, ev.used, ev.dirty, l4_7⟩ : Ent))))
def ewriteS (ev : Ent) (at_ : Int) (value : Int) : Option (Bool × Ent) :=
 (bif !ev.dirty then (ewriteS_j0 ev at_ value) true else (eisS ev at_).bind fun y1_10 => (ewriteS_j0 ev at_ value) !y1_10)
set_option maxRecDepth 100000 in
set_option maxHeartbeats 4000000 in
theorem ewriteF {ev : Ent} {at_ : Int} {value : Int} (e : Nat) (e0a : Option Addr) (e0c : Nat) {y : Bool × Ent} (H : ewriteS ev at_ value = some y) : FnY Tryz.prog 192 [.pointer (some ⟨e, 0, none⟩), .int .i64 at_, .int .i64 value] ⟨[⟨e, #[.int .i64 ev.fwd, .int .i64 ev.back, .int .i64 ev.line, .int .i64 ev.used, .bool ev.dirty, .slice e0a (List.length ev.data) e0c], 42⟩], [(ImmA e0a e0c ev.data)]⟩ (Z := Option Addr × Nat) (fun y (za0, zc0) => .bool y.1) (fun y (za0, zc0) => ⟨[⟨e, #[.int .i64 y.2.fwd, .int .i64 y.2.back, .int .i64 y.2.line, .int .i64 y.2.used, .bool y.2.dirty, .slice za0 (List.length y.2.data) zc0], 42⟩], [(ImmA za0 zc0 y.2.data)]⟩) y := by
 unfold ewriteS at H
 refine xfY Tryz.func192 fun W0 F => ?_
 refine xj [102] (ι := Bool) (fun e0_19 => ⟨[(0, .pointer (some ⟨e, 0, none⟩)), (1, .int .i64 at_), (2, .int .i64 value), (19, .bool e0_19)], [⟨e, #[.int .i64 ev.fwd, .int .i64 ev.back, .int .i64 ev.line, .int .i64 ev.used, .bool ev.dirty, .slice e0a (List.length ev.data) e0c], 42⟩], [(ImmA e0a e0c ev.data)]⟩) (fun e0_19 => ewriteS_j0 ev at_ value e0_19 = some y) ?_ ?_
 · rintro e0_19 H
   replace H : ewriteS_j0 ev at_ value e0_19 = some y := H
   rw [ewriteS_j0] at H
   refine xs [] H ?_ ?_
   · intro H
     refine xg [1] [] [0] (gh_dup e0a e0c ev.data) fun _ => ?_
     exact xrY (someE H) [] [] [0] [0] (e0a, e0c)
   · intro H
     refine bindG H fun y3_5 hy3_5 H => ?_
     refine xc [0,0] [] [0] (cloneF e0a e0c (rI e0a e0c ev.data) hy3_5) fun ⟨t3_5_a0, t3_5_c0⟩ => ?_
     refine chkG H fun q4_6_1 H => ?_
     refine xi [0,0] 0 (rA t3_5_a0 t3_5_c0 y3_5) q4_6_1 fun b1 o1 e1 => ?_
     refine letG H fun l4_7 hl4_7 H => ?_
     refine xo [] [] [0,2] (oc_st (α := Int) (cap := t3_5_c0) (e := value) () e1 q4_6_1 hl4_7) fun _ => ?_
     refine xw [300] 31 (congrArg (fun n : Nat => (.slice t3_5_a0 n t3_5_c0 : Value)) (set_len hl4_7)) ?_
     refine xg [300] [0] [] (gh_cells e 42 (congrArg (fun n : Nat => (#[.int .i64 ev.fwd, .int .i64 ev.back, .int .i64 ev.line, .int .i64 ev.used, .bool ev.dirty, .slice t3_5_a0 n t3_5_c0] : Array Value)) (set_len hl4_7))) fun _ => ?_
     refine xg [] [] [0] (gh_frz t3_5_a0 t3_5_c0 l4_7) fun _ => ?_
     refine xg [] [] [0] (gh_dup t3_5_a0 t3_5_c0 l4_7) fun _ => ?_
     exact xrY (someE H) [] [] [0] [0] (t3_5_a0, t3_5_c0)
 · intro N0 hN0
   refine xs [0] H ?_ ?_
   · intro H
     exact xe [0,0,0,0,0,0,1] _ [0] [0] (hN0 (true) H)
   · intro H
     refine bindG H fun y1_10 hy1_10 H => ?_
     refine xc [1,1,1,0,1,1] [] [] (eisF e0a e0c hy1_10) fun _ => ?_
     exact xe [1,0] _ [0] [0] (hN0 (!y1_10) H)
def cdropS (cc : CacheS) (line : Int) : Option (Ent × Bool × CacheS) :=
 (cfindS cc line).bind fun y1_2 => (bif y1_2.2 then (catS cc line).bind fun y3_2 => (delES cc.l y3_2 (wr (y3_2 + (1 : Int)))).bind fun y4_8 => some (y1_2.1, y1_2.2, ({ cc with l := y4_8 } : CacheS)) else some (y1_2.1, y1_2.2, cc))
set_option maxRecDepth 100000 in
set_option maxHeartbeats 4000000 in
theorem cdropF {cc : CacheS} {line : Int} (c : Nat) {y : Ent × Bool × CacheS} (H : cdropS cc line = some y) : FnY Tryz.prog 233 [.pointer (some ⟨c, 0, none⟩), .int .i64 line] ⟨[], [(CacheA c cc)]⟩ (Z := Option Addr × Nat) (fun y (za0, zc0) => .tuple #[.agg #[.int .i64 y.1.fwd, .int .i64 y.1.back, .int .i64 y.1.line, .int .i64 y.1.used, .bool y.1.dirty, .slice za0 (List.length y.1.data) zc0], .bool y.2.1]) (fun y (za0, zc0) => ⟨[], [(ArrA za0 zc0 y.1.data), (CacheA c y.2.2)]⟩) y := by
 unfold cdropS at H
 refine xfY Tryz.func233 fun W0 F => ?_
 refine xn [] fun b0_0 => ?_
 refine xg [] [] [0] (gh_open (CacheO c cc)) fun ⟨a_l1, c_l2⟩ => ?_
 refine bindG H fun y1_2 hy1_2 H => ?_
 refine xc [] [0] [0] (cfindF c a_l1 c_l2 hy1_2) fun ⟨t1_2_a0, t1_2_c0⟩ => ?_
 refine xn [] fun b1_6 => ?_
 refine xs [0] H ?_ ?_
 · intro H
   refine bindG H fun y3_2 hy3_2 H => ?_
   refine xc [1] [1] [1] (catF c a_l1 c_l2 hy3_2) fun _ => ?_
   refine bindG H fun y4_8 hy4_8 H => ?_
   refine xc [0,1] [] [0] (delEF a_l1 c_l2 hy4_8) fun ⟨t4_8_a0, t4_8_c0⟩ => ?_
   refine xg [0,1,2] [0] [0] (gh_shut (CacheO c ({ cc with l := y4_8 } : CacheS)) (t4_8_a0, t4_8_c0)) fun _ => ?_
   exact xrY (someE H) [] [1] [] [1,0] (t1_2_a0, t1_2_c0)
 · intro H
   refine xg [0,0,2] [1] [1] (gh_shut (CacheO c cc) (a_l1, c_l2)) fun _ => ?_
   exact xrY (someE H) [] [1] [] [1,0] (t1_2_a0, t1_2_c0)
def cvic1S (a : Ent) (b : Ent) : Option (Int) :=
 some (wr (a.used - b.used))
set_option maxRecDepth 100000 in
set_option maxHeartbeats 4000000 in
theorem cvic1F {a : Ent} {b : Ent} (a0a : Option Addr) (a0c : Nat) (b0a : Option Addr) (b0c : Nat) {y : Int} (H : cvic1S a b = some y) : FnY Tryz.prog 205 [.agg #[.int .i64 a.fwd, .int .i64 a.back, .int .i64 a.line, .int .i64 a.used, .bool a.dirty, .slice a0a (List.length a.data) a0c], .agg #[.int .i64 b.fwd, .int .i64 b.back, .int .i64 b.line, .int .i64 b.used, .bool b.dirty, .slice b0a (List.length b.data) b0c]] ⟨[], []⟩ (Z := Unit) (fun y _ => .int .i64 y) (fun y _ => ⟨[], []⟩) y := by
 unfold cvic1S at H
 refine xfY Tryz.func205 fun W0 F => ?_
 refine xn [] fun b0_0 => ?_
 refine xn [] fun b0_1 => ?_
 exact xrY (someE H) [1,0,1] [] [] [] ()
def cminS_j0 (e0_b3_3_0 : Int) (e0_b3_3_1 : Int) (e0_b3_3_2 : Int) (e0_b3_3_3 : Int) (e0_b3_3_4 : Bool) (e0_b3_3_5x : List Int) : Option (Ent) :=
 some (⟨e0_b3_3_0, e0_b3_3_1, e0_b3_3_2, e0_b3_3_3, e0_b3_3_4, e0_b3_3_5x⟩ : Ent)
def cminS_l1 (s : List Ent) (k0 : Int → Int → Int → Int → Bool → (List Int) → Option (Ent)) : Nat → Int → Int → Int → Int → Int → Bool → (List Int) → Option (Ent)
 | 0, _, _, _, _, _, _, _ => none
 | m + 1, v1_6, v1_b3_3_0, v1_b3_3_1, v1_b3_3_2, v1_b3_3_3, v1_b3_3_4, v1_b3_3_5x => (bif decide (v1_6 < (((List.length s) : Nat) : Int)) then chk (0 ≤ v1_6 ∧ v1_6 < ((s.length : Nat) : Int)) (letP (nthT s v1_6) fun x7_4 => (cvic1S x7_4 (⟨v1_b3_3_0, v1_b3_3_1, v1_b3_3_2, v1_b3_3_3, v1_b3_3_4, v1_b3_3_5x⟩ : Ent)).bind fun y7_6 => (bif decide (y7_6 < (0 : Int)) then chk (0 ≤ v1_6 ∧ v1_6 < ((s.length : Nat) : Int)) (letP (nthT s v1_6) fun x8_3 => chk (inR (v1_6 + (1 : Int))) ((cminS_l1 s k0 m) (v1_6 + (1 : Int)) x8_3.fwd x8_3.back x8_3.line x8_3.used x8_3.dirty x8_3.data)) else chk (inR (v1_6 + (1 : Int))) ((cminS_l1 s k0 m) (v1_6 + (1 : Int)) v1_b3_3_0 v1_b3_3_1 v1_b3_3_2 v1_b3_3_3 v1_b3_3_4 v1_b3_3_5x))) else k0 v1_b3_3_0 v1_b3_3_1 v1_b3_3_2 v1_b3_3_3 v1_b3_3_4 v1_b3_3_5x)
def cminS (s : List Ent) : Option (Ent) :=
 (bif decide ((((List.length s) : Nat) : Int) < (1 : Int)) then none else chk (0 ≤ (0 : Int) ∧ (0 : Int) < ((s.length : Nat) : Int)) (letP (nthT s (0 : Int)) fun x3_2 => cminS_l1 s cminS_j0 (List.length s + 1) (1 : Int) x3_2.fwd x3_2.back x3_2.line x3_2.used x3_2.dirty x3_2.data))
set_option maxRecDepth 100000 in
set_option maxHeartbeats 4000000 in
theorem cminF {s : List Ent} {sA : Asn} (sa : Option Addr) (sc : Nat) (hsA : Rdb sA sa sc s) {y : Ent} (H : cminS s = some y) : FnY Tryz.prog 204 [.slice sa (List.length s) sc, .func (.func 205) #[] #[]] ⟨[], [sA]⟩ (Z := Option Addr × Nat) (fun y (za0, zc0) => .agg #[.int .i64 y.fwd, .int .i64 y.back, .int .i64 y.line, .int .i64 y.used, .bool y.dirty, .slice za0 (List.length y.data) zc0]) (fun y (za0, zc0) => ⟨[], [(ImmA za0 zc0 y.data), sA]⟩) y := by
 unfold cminS at H
 refine xfY Tryz.func204 fun W0 F => ?_
 refine xn [] fun b0_0 => ?_
 refine xs [] H ?_ ?_
 · intro H
   exact (noneE H).elim
 · intro H
   refine chkG H fun q3_1_1 H => ?_
   refine xi [0] 0 hsA q3_1_1 fun b1 o1 e1 => ?_
   refine letG H fun x3_2 hx3_2 H => ?_
   refine xo [] [] [0] (oc_ldN hsA e1 q3_1_1 hx3_2 0 6) fun z3_2_1 => ?_
   refine xn [] fun b3_3 => ?_
   refine xj [0,100] (ι := Int × Int × Int × Int × Bool × List Int × Option Addr × Nat) (fun (e0_b3_3_0, e0_b3_3_1, e0_b3_3_2, e0_b3_3_3, e0_b3_3_4, e0_b3_3_5x, e0_b3_3_5a, e0_b3_3_5c) => ⟨[(4, .pointer (some ⟨b0_0, 0, none⟩)), (5, .pointer (some ⟨b3_3, 0, none⟩))], [⟨b3_3, #[.int .i64 e0_b3_3_0, .int .i64 e0_b3_3_1, .int .i64 e0_b3_3_2, .int .i64 e0_b3_3_3, .bool e0_b3_3_4, .slice e0_b3_3_5a (List.length e0_b3_3_5x) e0_b3_3_5c], 42⟩, ⟨b0_0, #[.int .i64 (0), .int .i64 (0), .int .i64 (0), .int .i64 (0), .bool false, .slice none 0 0], 42⟩], [(ImmA e0_b3_3_5a e0_b3_3_5c e0_b3_3_5x), sA]⟩) (fun (e0_b3_3_0, e0_b3_3_1, e0_b3_3_2, e0_b3_3_3, e0_b3_3_4, e0_b3_3_5x, e0_b3_3_5a, e0_b3_3_5c) => cminS_j0 e0_b3_3_0 e0_b3_3_1 e0_b3_3_2 e0_b3_3_3 e0_b3_3_4 e0_b3_3_5x = some y) ?_ ?_
   · rintro ⟨e0_b3_3_0, e0_b3_3_1, e0_b3_3_2, e0_b3_3_3, e0_b3_3_4, e0_b3_3_5x, e0_b3_3_5a, e0_b3_3_5c⟩ H
     replace H : cminS_j0 e0_b3_3_0 e0_b3_3_1 e0_b3_3_2 e0_b3_3_3 e0_b3_3_4 e0_b3_3_5x = some y := H
     rw [cminS_j0] at H
     refine xg [0,1] [] [0] (gh_dup e0_b3_3_5a e0_b3_3_5c e0_b3_3_5x) fun _ => ?_
     exact xrY (someE H) [] [1] [] [0,1] (e0_b3_3_5a, e0_b3_3_5c)
   · intro N0 hN0
     refine xl [] (ι := Int × Int × Int × Int × Int × Bool × List Int × Option Addr × Nat) (fun (v1_6, v1_b3_3_0, v1_b3_3_1, v1_b3_3_2, v1_b3_3_3, v1_b3_3_4, v1_b3_3_5x, v1_b3_3_5a, v1_b3_3_5c) => ⟨[(0, .slice sa (List.length s) sc), (1, .func (.func 205) #[] #[]), (4, .pointer (some ⟨b0_0, 0, none⟩)), (5, .pointer (some ⟨b3_3, 0, none⟩)), (6, .int .i64 v1_6)], [⟨b3_3, #[.int .i64 v1_b3_3_0, .int .i64 v1_b3_3_1, .int .i64 v1_b3_3_2, .int .i64 v1_b3_3_3, .bool v1_b3_3_4, .slice v1_b3_3_5a (List.length v1_b3_3_5x) v1_b3_3_5c], 42⟩, ⟨b0_0, #[.int .i64 (0), .int .i64 (0), .int .i64 (0), .int .i64 (0), .bool false, .slice none 0 0], 42⟩], [(ImmA v1_b3_3_5a v1_b3_3_5c v1_b3_3_5x), sA]⟩) (fun m1 (v1_6, v1_b3_3_0, v1_b3_3_1, v1_b3_3_2, v1_b3_3_3, v1_b3_3_4, v1_b3_3_5x, v1_b3_3_5a, v1_b3_3_5c) => cminS_l1 s (cminS_j0) m1 v1_6 v1_b3_3_0 v1_b3_3_1 v1_b3_3_2 v1_b3_3_3 v1_b3_3_4 v1_b3_3_5x = some y) [0,0] [0,0] ((List.length s + 1)) ((1 : Int), x3_2.fwd, x3_2.back, x3_2.line, x3_2.used, x3_2.dirty, x3_2.data, z3_2_1.1, z3_2_1.2) H ?_
     rintro N1 (_ | m1) ⟨v1_6, v1_b3_3_0, v1_b3_3_1, v1_b3_3_2, v1_b3_3_3, v1_b3_3_4, v1_b3_3_5x, v1_b3_3_5a, v1_b3_3_5c⟩ H hN1
     · exact (noneE H).elim
     replace H : cminS_l1 s (cminS_j0) (m1 + 1) v1_6 v1_b3_3_0 v1_b3_3_1 v1_b3_3_2 v1_b3_3_3 v1_b3_3_4 v1_b3_3_5x = some y := H
     rw [cminS_l1] at H
     refine xs [] H ?_ ?_
     · intro H
       refine chkG H fun q7_3_1 H => ?_
       refine xi [1,0,1,2,3] 1 hsA q7_3_1 fun b2 o2 e2 => ?_
       refine letG H fun x7_4 hx7_4 H => ?_
       refine xo [5,0,4] [] [1] (oc_ldN hsA e2 q7_3_1 hx7_4 0 6) fun z7_4_1 => ?_
       refine bindG H fun y7_6 hy7_6 H => ?_
       refine xc [6] [] [] (cvic1F z7_4_1.1 z7_4_1.2 v1_b3_3_5a v1_b3_3_5c hy7_6) fun _ => ?_
       refine xs [7] H ?_ ?_
       · intro H
         refine chkG H fun q8_2_1 H => ?_
         refine xi [1] 1 hsA q8_2_1 fun b3 o3 e3 => ?_
         refine letG H fun x8_3 hx8_3 H => ?_
         refine xo [] [] [1] (oc_ldN hsA e3 q8_2_1 hx8_3 0 6) fun z8_3_1 => ?_
         refine chkG H fun q6_1_1 H => ?_
         refine xd [0,0] (ap q6_1_1 an) ?_
         exact xe [] _ [0,0] [0,0] (hN1 _ (v1_6 + (1 : Int), x8_3.fwd, x8_3.back, x8_3.line, x8_3.used, x8_3.dirty, x8_3.data, z8_3_1.1, z8_3_1.2) (Nat.lt_succ_self _) H)
       · intro H
         refine chkG H fun q6_1_2 H => ?_
         refine xd [0,0] (ap q6_1_2 an) ?_
         refine xg [] [] [2] (gh_dup v1_b3_3_5a v1_b3_3_5c v1_b3_3_5x) fun _ => ?_
         exact xe [] _ [0,0] [0,2] (hN1 _ (v1_6 + (1 : Int), v1_b3_3_0, v1_b3_3_1, v1_b3_3_2, v1_b3_3_3, v1_b3_3_4, v1_b3_3_5x, v1_b3_3_5a, v1_b3_3_5c) (Nat.lt_succ_self _) H)
     · intro H
       exact xe [0] _ [0,0] [0,0] (hN0 (v1_b3_3_0, v1_b3_3_1, v1_b3_3_2, v1_b3_3_3, v1_b3_3_4, v1_b3_3_5x, v1_b3_3_5a, v1_b3_3_5c) H)
def cvicS (cc : CacheS) (line : Int) : Option (Int × Bool) :=
 (csetS cc line).bind fun y1_2 => (bif decide ((((List.length y1_2) : Nat) : Int) = (0 : Int)) then some ((0 : Int), false) else (cminS y1_2).bind fun y4_1 => some (y4_1.line, true))
set_option maxRecDepth 100000 in
set_option maxHeartbeats 4000000 in
theorem cvicF {cc : CacheS} {line : Int} (c : Nat) (c_a_l : Option Addr) (c_c_l : Nat) {y : Int × Bool} (H : cvicS cc line = some y) : FnY Tryz.prog 159 [.pointer (some ⟨c, 0, none⟩), .int .i64 line] ⟨[⟨c, #[.slice c_a_l (List.length cc.l) c_c_l, .int .i64 cc.sets, .int .i64 cc.ways, .int .i64 cc.clock], 117⟩], [(ArrA c_a_l c_c_l cc.l)]⟩ (Z := Unit) (fun y _ => .tuple #[.int .i64 y.1, .bool y.2]) (fun y _ => ⟨[⟨c, #[.slice c_a_l (List.length cc.l) c_c_l, .int .i64 cc.sets, .int .i64 cc.ways, .int .i64 cc.clock], 117⟩], [(ArrA c_a_l c_c_l cc.l)]⟩) y := by
 unfold cvicS at H
 refine xfY Tryz.func159 fun W0 F => ?_
 refine bindG H fun y1_2 hy1_2 H => ?_
 refine xc [] [0] [0] (csetF c c_a_l c_c_l hy1_2) fun ⟨t1_2_a0, t1_2_c0⟩ => ?_
 refine xs [] H ?_ ?_
 · intro H
   exact xrY (someE H) [1] [] [0] [1] ()
 · intro H
   refine bindG H fun y4_1 hy4_1 H => ?_
   refine xc [0] [] [0] (cminF t1_2_a0 t1_2_c0 (rA t1_2_a0 t1_2_c0 y1_2) hy4_1) fun ⟨t4_1_a0, t4_1_c0⟩ => ?_
   exact xrY (someE H) [] [] [0] [2] ()
end Go.Proofs.YtcidmgkfaioceaaGreat
