/- The law TurnsPlay: its walk. -/
import Derived.Test.YtpcffplbedbpkaaTuB
import Derived.Test.YtpcffplbedbpkaaKsA
import Derived.Test.YtpcffplbedbpkaaRTuA
namespace Go.Proofs.Ytpcffplbedbpkaa
open Go Go.RowKit
set_option linter.unusedVariables false
set_option linter.unusedSimpArgs false
def wakes10S : Option (Bool) :=
  (tnewS).bind fun y1_0 => (townerS y1_0 (3 : Int)).bind fun y2_4 => (bif decide (y2_4 = ((-1) : Int)) then (taskS y1_0 (3 : Int) (1 : Int) (0 : Int)).bind fun y2_9 => (bif y2_9.1 then (townerS y2_9.2 (3 : Int)).bind fun y2_13 => (bif decide (y2_13 = (1 : Int)) then (taskS y2_9.2 (3 : Int) (2 : Int) (0 : Int)).bind fun y2_18 => some !y2_18.1 else some false) else some false) else some false)
noncomputable def C18 (p : List Nat) : Code := codeAt (bodyOf Try.f18) p
set_option maxRecDepth 100000 in
set_option maxHeartbeats 8000000 in
theorem W10F_tr {W0 : World} {Γ : List Asn}   (y : Bool) (H : wakes10S = some y) : Tr Try.prog 18 #[] W0 (Γ) (fun r Δ => r = .bool y ∧ Δ = Γ) := by
  unfold wakes10S at H
  refine Tr.enter (fn := Try.f18) (c := C18 []) (args := []) 24 Try.func18 (by kernel_rfl) (by kernel_rfl) ?_
  refine At.env [] trivial ?_
  refine at_seq (x := C18 [0]) (y := C18 [1]) (by kernel_rfl) ?_
  refine at_region (id := 0) 1 (by kernel_rfl) (by kernel_rfl) ?_
  refine s_pure 0 (.bool false) (by kernel_rfl) (by kernel_rfl) (fun _ => by kernel_rfl) ?_
  refine ops_end ?_
  refine At.env [] trivial ?_
  refine at_then_normal ?_
  refine at_seq (x := C18 [1,0]) (y := C18 [1,1]) (by kernel_rfl) ?_
  refine at_region (id := 1) 2 (by kernel_rfl) (by kernel_rfl) ?_
  obtain ⟨y1_0, hy1_0, H⟩ := bindE H
  refine s_call 2 11 #[] (by kernel_rfl) (by kernel_rfl) (fun _ => by kernel_rfl) (TNewF_tr  y1_0 hy1_0) ?_
  rintro _ _ ⟨b1_0, rfl, rfl⟩
  refine s_pure 1 (.pointer (some ⟨b1_0, 0, none⟩)) (by kernel_rfl) (by kernel_rfl) (fun _ => by kernel_rfl) ?_
  refine ops_end ?_
  refine At.env [(1, .pointer (some ⟨b1_0, 0, none⟩))] ⟨by kernel_rfl, trivial⟩ ?_
  refine at_then_normal ?_
  refine at_seq (x := C18 [1,1,0]) (y := C18 [1,1,1]) (by kernel_rfl) ?_
  refine at_region (id := 2) 22 (by kernel_rfl) (by kernel_rfl) ?_
  refine s_pure 3 (.pointer (some ⟨b1_0, 0, none⟩)) (by kernel_rfl) (by kernel_rfl) (fun _ => by kernel_rfl) ?_
  refine s_pure 4 (.bool true) (by kernel_rfl) (by kernel_rfl) (fun _ => by kernel_rfl) ?_
  refine s_pure 5 (.bool true) (by kernel_rfl) (by kernel_rfl) (fun _ => by kernel_rfl) ?_
  refine s_pure 6 (.pointer (some ⟨b1_0, 0, none⟩)) (by kernel_rfl) (by kernel_rfl) (fun _ => by kernel_rfl) ?_
  obtain ⟨y2_4, hy2_4, H⟩ := bindE H
  refine s_call 7 17 #[.pointer (some ⟨b1_0, 0, none⟩), .int .i64 (3)] (by kernel_rfl) (by kernel_rfl) (fun _ => by kernel_rfl) (TOwnerF_tr b1_0 y1_0 (3 : Int) y2_4 hy2_4) ?_
  rintro _ _ ⟨rfl, rfl⟩
  refine s_pure 8 (.bool (decide (y2_4 = ((-1) : Int)))) (by kernel_rfl) (by kernel_rfl) (fun _ => by kernel_rfl) ?_
  refine s_pure 9 (.bool (decide (y2_4 = ((-1) : Int)))) (by kernel_rfl) (by kernel_rfl) (fun _ => by kernel_rfl) ?_
  rcases Bool.eq_false_or_eq_true (decide (y2_4 = ((-1) : Int))) with h1 | h1
  · replace H := bifT H h1
    refine s_pure 10 (.bool true) (by kernel_rfl) (by kernel_rfl) (run_eq (v := .bool (decide (y2_4 = ((-1) : Int)))) (fun _ => by kernel_rfl) (congrArg Value.bool h1)) ?_
    refine s_pure 11 (.pointer (some ⟨b1_0, 0, none⟩)) (by kernel_rfl) (by kernel_rfl) (fun _ => by kernel_rfl) ?_
    obtain ⟨y2_9, hy2_9, H⟩ := bindE H
    refine s_call 12 13 #[.pointer (some ⟨b1_0, 0, none⟩), .int .i64 (3), .int .i64 (1), .int .i64 (0)] (by kernel_rfl) (by kernel_rfl) (fun _ => by kernel_rfl) (TAskF_tr b1_0 y1_0 (3 : Int) (1 : Int) (0 : Int) y2_9 hy2_9) ?_
    rintro _ _ ⟨rfl, rfl⟩
    refine s_pure 13 (.bool y2_9.1) (by kernel_rfl) (by kernel_rfl) (fun _ => by kernel_rfl) ?_
    rcases Bool.eq_false_or_eq_true (y2_9.1) with h2 | h2
    · replace H := bifT H h2
      refine s_pure 14 (.bool true) (by kernel_rfl) (by kernel_rfl) (run_eq (v := .bool (y2_9.1)) (fun _ => by kernel_rfl) (congrArg Value.bool h2)) ?_
      refine s_pure 15 (.pointer (some ⟨b1_0, 0, none⟩)) (by kernel_rfl) (by kernel_rfl) (fun _ => by kernel_rfl) ?_
      obtain ⟨y2_13, hy2_13, H⟩ := bindE H
      refine s_call 16 17 #[.pointer (some ⟨b1_0, 0, none⟩), .int .i64 (3)] (by kernel_rfl) (by kernel_rfl) (fun _ => by kernel_rfl) (TOwnerF_tr b1_0 y2_9.2 (3 : Int) y2_13 hy2_13) ?_
      rintro _ _ ⟨rfl, rfl⟩
      refine s_pure 17 (.bool (decide (y2_13 = (1 : Int)))) (by kernel_rfl) (by kernel_rfl) (fun _ => by kernel_rfl) ?_
      refine s_pure 18 (.bool (decide (y2_13 = (1 : Int)))) (by kernel_rfl) (by kernel_rfl) (fun _ => by kernel_rfl) ?_
      rcases Bool.eq_false_or_eq_true (decide (y2_13 = (1 : Int))) with h3 | h3
      · replace H := bifT H h3
        refine s_pure 19 (.bool true) (by kernel_rfl) (by kernel_rfl) (run_eq (v := .bool (decide (y2_13 = (1 : Int)))) (fun _ => by kernel_rfl) (congrArg Value.bool h3)) ?_
        refine s_pure 20 (.pointer (some ⟨b1_0, 0, none⟩)) (by kernel_rfl) (by kernel_rfl) (fun _ => by kernel_rfl) ?_
        obtain ⟨y2_18, hy2_18, H⟩ := bindE H
        refine s_call 21 13 #[.pointer (some ⟨b1_0, 0, none⟩), .int .i64 (3), .int .i64 (2), .int .i64 (0)] (by kernel_rfl) (by kernel_rfl) (fun _ => by kernel_rfl) (TAskF_tr b1_0 y2_9.2 (3 : Int) (2 : Int) (0 : Int) y2_18 hy2_18) ?_
        rintro _ _ ⟨rfl, rfl⟩
        refine s_pure 22 (.bool !y2_18.1) (by kernel_rfl) (by kernel_rfl) (fun _ => by kernel_rfl) ?_
        refine s_pure 23 (.bool !y2_18.1) (by kernel_rfl) (by kernel_rfl) (fun _ => by kernel_rfl) ?_
        refine s_pure 0 (.bool !y2_18.1) (by kernel_rfl) (by kernel_rfl) (fun _ => by kernel_rfl) ?_
        refine ops_end ?_
        refine At.env [(0, .bool !y2_18.1)] ⟨by kernel_rfl, trivial⟩ ?_
        refine at_then_normal ?_
        refine at_ret (by kernel_rfl) ?_
        obtain rfl := someE H
        refine at_backR [.bool !y2_18.1] (Γ) (rs := [.tmp 0]) (by kernel_rfl) (.cons (.tmp (by kernel_rfl)) .nil) (fun w hw => (Sat.less (.drop .here .refl) hw)) ?_
        exact ⟨rfl, rfl⟩
      · replace H := bifF H h3
        refine s_pure 19 (.bool false) (by kernel_rfl) (by kernel_rfl) (run_eq (v := .bool (decide (y2_13 = (1 : Int)))) (fun _ => by kernel_rfl) (congrArg Value.bool h3)) ?_
        refine s_pass 20 (by kernel_rfl) (by kernel_rfl) ?_
        refine s_pass 21 (by kernel_rfl) (by kernel_rfl) ?_
        refine s_pass 22 (by kernel_rfl) (by kernel_rfl) ?_
        refine s_pure 23 (.bool false) (by kernel_rfl) (by kernel_rfl) (fun _ => by kernel_rfl) ?_
        refine s_pure 0 (.bool false) (by kernel_rfl) (by kernel_rfl) (fun _ => by kernel_rfl) ?_
        refine ops_end ?_
        refine At.env [(0, .bool false)] ⟨by kernel_rfl, trivial⟩ ?_
        refine at_then_normal ?_
        refine at_ret (by kernel_rfl) ?_
        obtain rfl := someE H
        refine at_backR [.bool false] (Γ) (rs := [.tmp 0]) (by kernel_rfl) (.cons (.tmp (by kernel_rfl)) .nil) (fun w hw => (Sat.less (.drop .here .refl) hw)) ?_
        exact ⟨rfl, rfl⟩
    · replace H := bifF H h2
      refine s_pure 14 (.bool false) (by kernel_rfl) (by kernel_rfl) (run_eq (v := .bool (y2_9.1)) (fun _ => by kernel_rfl) (congrArg Value.bool h2)) ?_
      refine s_pass 15 (by kernel_rfl) (by kernel_rfl) ?_
      refine s_pass 16 (by kernel_rfl) (by kernel_rfl) ?_
      refine s_pass 17 (by kernel_rfl) (by kernel_rfl) ?_
      refine s_pure 18 (.bool false) (by kernel_rfl) (by kernel_rfl) (fun _ => by kernel_rfl) ?_
      refine s_pure 19 (.bool false) (by kernel_rfl) (by kernel_rfl) (fun _ => by kernel_rfl) ?_
      refine s_pass 20 (by kernel_rfl) (by kernel_rfl) ?_
      refine s_pass 21 (by kernel_rfl) (by kernel_rfl) ?_
      refine s_pass 22 (by kernel_rfl) (by kernel_rfl) ?_
      refine s_pure 23 (.bool false) (by kernel_rfl) (by kernel_rfl) (fun _ => by kernel_rfl) ?_
      refine s_pure 0 (.bool false) (by kernel_rfl) (by kernel_rfl) (fun _ => by kernel_rfl) ?_
      refine ops_end ?_
      refine At.env [(0, .bool false)] ⟨by kernel_rfl, trivial⟩ ?_
      refine at_then_normal ?_
      refine at_ret (by kernel_rfl) ?_
      obtain rfl := someE H
      refine at_backR [.bool false] (Γ) (rs := [.tmp 0]) (by kernel_rfl) (.cons (.tmp (by kernel_rfl)) .nil) (fun w hw => (Sat.less (.drop .here .refl) hw)) ?_
      exact ⟨rfl, rfl⟩
  · replace H := bifF H h1
    refine s_pure 10 (.bool false) (by kernel_rfl) (by kernel_rfl) (run_eq (v := .bool (decide (y2_4 = ((-1) : Int)))) (fun _ => by kernel_rfl) (congrArg Value.bool h1)) ?_
    refine s_pass 11 (by kernel_rfl) (by kernel_rfl) ?_
    refine s_pass 12 (by kernel_rfl) (by kernel_rfl) ?_
    refine s_pure 13 (.bool false) (by kernel_rfl) (by kernel_rfl) (fun _ => by kernel_rfl) ?_
    refine s_pure 14 (.bool false) (by kernel_rfl) (by kernel_rfl) (fun _ => by kernel_rfl) ?_
    refine s_pass 15 (by kernel_rfl) (by kernel_rfl) ?_
    refine s_pass 16 (by kernel_rfl) (by kernel_rfl) ?_
    refine s_pass 17 (by kernel_rfl) (by kernel_rfl) ?_
    refine s_pure 18 (.bool false) (by kernel_rfl) (by kernel_rfl) (fun _ => by kernel_rfl) ?_
    refine s_pure 19 (.bool false) (by kernel_rfl) (by kernel_rfl) (fun _ => by kernel_rfl) ?_
    refine s_pass 20 (by kernel_rfl) (by kernel_rfl) ?_
    refine s_pass 21 (by kernel_rfl) (by kernel_rfl) ?_
    refine s_pass 22 (by kernel_rfl) (by kernel_rfl) ?_
    refine s_pure 23 (.bool false) (by kernel_rfl) (by kernel_rfl) (fun _ => by kernel_rfl) ?_
    refine s_pure 0 (.bool false) (by kernel_rfl) (by kernel_rfl) (fun _ => by kernel_rfl) ?_
    refine ops_end ?_
    refine At.env [(0, .bool false)] ⟨by kernel_rfl, trivial⟩ ?_
    refine at_then_normal ?_
    refine at_ret (by kernel_rfl) ?_
    obtain rfl := someE H
    refine at_backR [.bool false] (Γ) (rs := [.tmp 0]) (by kernel_rfl) (.cons (.tmp (by kernel_rfl)) .nil) (fun w hw => (Sat.less (.drop .here .refl) hw)) ?_
    exact ⟨rfl, rfl⟩
def turnsPlayS_k63 (v0_5 : Int) (r0 : Int → RTurnsS → TurnsS → Option (Bool)) (e62_b1_2 : RTurnsS) (e62_b1_0 : TurnsS) (e63_17 : Int) : Option (Bool) :=
  chk (inR (v0_5 + (1 : Int))) (r0 (v0_5 + (1 : Int)) e62_b1_2 e62_b1_0)
def turnsPlayS_l63 (e62_b1_0 : TurnsS) (e62_b1_2 : RTurnsS) (k63 : Int → Option (Bool)) : Nat → Int → Option (Bool)
  | 0 => fun _ => none
  | m + 1 => fun v63_17 => (bif decide (v63_17 < (4 : Int)) then (townerS e62_b1_0 v63_17).bind fun y34_2 => (rownerS e62_b1_2 v63_17).bind fun y34_5 => (bif !(decide (y34_2 = y34_5)) then some false else (twaitingS e62_b1_0 v63_17).bind fun y34_10 => (rwaitingS e62_b1_2 v63_17).bind fun y34_13 => (bif !(decide (y34_10 = y34_13)) then some false else chk (inR (v63_17 + (1 : Int))) ((turnsPlayS_l63 e62_b1_0 e62_b1_2 k63 m) (v63_17 + (1 : Int))))) else k63 v63_17)
def turnsPlayS_j62 (v0_5 : Int) (r0 : Int → RTurnsS → TurnsS → Option (Bool)) (e62_b1_2 : RTurnsS) (e62_b1_0 : TurnsS) : Option (Bool) :=
  (treadyS e62_b1_0).bind fun y29_1 => (rreadyS e62_b1_2).bind fun y29_3 => (ksameS y29_1 y29_3).bind fun y29_4 => (bif !y29_4 then some false else turnsPlayS_l63 e62_b1_0 e62_b1_2 (turnsPlayS_k63 v0_5 r0 e62_b1_2 e62_b1_0) 64 (-1))
def turnsPlayS_j67 (v0_b1_0 : TurnsS) (y8_2 : Int) (e66_9 : Int) (v0_5 : Int) (r0 : Int → RTurnsS → TurnsS → Option (Bool)) (e67_10 : Int) (e67_b1_2 : RTurnsS) : Option (Bool) :=
  (treleaseS v0_b1_0 y8_2 e66_9).bind fun y27_3 => (bif !(decide (y27_3.1 = e67_10)) then some false else turnsPlayS_j62 v0_5 r0 e67_b1_2 y27_3.2)
def turnsPlayS_j66 (v0_b1_2 : RTurnsS) (y8_2 : Int) (v0_b1_0 : TurnsS) (v0_5 : Int) (r0 : Int → RTurnsS → TurnsS → Option (Bool)) (e66_9 : Int) : Option (Bool) :=
  (rreleaseS v0_b1_2 y8_2 e66_9).bind fun y25_3 => (bif y25_3.1 then turnsPlayS_j67 v0_b1_0 y8_2 e66_9 v0_5 r0 0 y25_3.2 else turnsPlayS_j67 v0_b1_0 y8_2 e66_9 v0_5 r0 6 y25_3.2)
def turnsPlayS_j65 (l : List (List Int)) (v0_5 : Int) (v0_b1_2 : RTurnsS) (y8_2 : Int) (v0_b1_0 : TurnsS) (r0 : Int → RTurnsS → TurnsS → Option (Bool)) (e65_89 : Bool) : Option (Bool) :=
  (bif e65_89 then (withinS (nth (nthR l v0_5) 2) (5 : Int)).bind fun y21_2 => (bif decide (((nth (nthR l v0_5) 0).tmod (2 : Int)) = (0 : Int)) then (rownerS v0_b1_2 y8_2).bind fun y22_7 => (bif !(decide (y22_7 = ((-1) : Int))) then (rownerS v0_b1_2 y8_2).bind fun y23_2 => turnsPlayS_j66 v0_b1_2 y8_2 v0_b1_0 v0_5 r0 y23_2 else turnsPlayS_j66 v0_b1_2 y8_2 v0_b1_0 v0_5 r0 y21_2) else turnsPlayS_j66 v0_b1_2 y8_2 v0_b1_0 v0_5 r0 y21_2) else (tnextS v0_b1_0 y8_2).bind fun y10_2 => (rnextS v0_b1_2 y8_2).bind fun y11_2 => (bif !(decide (y10_2.1 = y11_2.1)) then some false else (bif !(decide (y10_2.2.1 = y11_2.2.1)) then some false else (bif !(y10_2.2.2.1 == y11_2.2.2.1) then some false else turnsPlayS_j62 v0_5 r0 y11_2.2.2.2 y10_2.2.2.2))))
def turnsPlayS_j64 (l : List (List Int)) (v0_5 : Int) (v0_b1_0 : TurnsS) (y8_2 : Int) (v0_b1_2 : RTurnsS) (r0 : Int → RTurnsS → TurnsS → Option (Bool)) (y9_2 : Int) (e64_70 : Bool) : Option (Bool) :=
  (bif e64_70 then (withinS (nth (nthR l v0_5) 2) (5 : Int)).bind fun y16_2 => (taskS v0_b1_0 y8_2 y16_2 (nth (nthR l v0_5) 3)).bind fun y17_5 => (raskS v0_b1_2 y8_2 y16_2 (nth (nthR l v0_5) 3)).bind fun y17_11 => (bif !(y17_5.1 == y17_11.1) then some false else turnsPlayS_j62 v0_5 r0 y17_11.2 y17_5.2) else (bif decide (y9_2 = (2 : Int)) then turnsPlayS_j65 l v0_5 v0_b1_2 y8_2 v0_b1_0 r0 (decide (y9_2 = (2 : Int))) else turnsPlayS_j65 l v0_5 v0_b1_2 y8_2 v0_b1_0 r0 (decide (y9_2 = (3 : Int)))))
def turnsPlayS_j61 (v0_5 : Int) (l : List (List Int)) (v0_b1_0 : TurnsS) (v0_b1_2 : RTurnsS) (r0 : Int → RTurnsS → TurnsS → Option (Bool)) (k0 : Int → RTurnsS → TurnsS → Option (Bool)) (e61_30 : Bool) : Option (Bool) :=
  (bif e61_30 then chk (0 ≤ v0_5 ∧ v0_5 < ((List.length (l) : Nat) : Int)) (chk ((nthR l v0_5).length = 4) ((withinS (nth (nthR l v0_5) 1) (3 : Int)).bind fun y8_2 => (withinS (nth (nthR l v0_5) 0) (5 : Int)).bind fun y9_2 => (bif decide (y9_2 = (0 : Int)) then turnsPlayS_j64 l v0_5 v0_b1_0 y8_2 v0_b1_2 r0 y9_2 (decide (y9_2 = (0 : Int))) else turnsPlayS_j64 l v0_5 v0_b1_0 y8_2 v0_b1_2 r0 y9_2 (decide (y9_2 = (1 : Int)))))) else k0 v0_5 v0_b1_2 v0_b1_0)
def turnsPlayS_k0 (e0_5 : Int) (e0_b1_2 : RTurnsS) (e0_b1_0 : TurnsS) : Option (Bool) :=
  (wakes10S).bind fun y36_0 => some y36_0
def turnsPlayS_l0 (l : List (List Int)) (k0 : Int → RTurnsS → TurnsS → Option (Bool)) : Nat → Int → RTurnsS → TurnsS → Option (Bool)
  | 0 => fun _ _ _ => none
  | m + 1 => fun v0_5 v0_b1_2 v0_b1_0 => (bif decide (v0_5 < (((List.length l) : Nat) : Int)) then turnsPlayS_j61 v0_5 l v0_b1_0 v0_b1_2 (turnsPlayS_l0 l k0 m) k0 (decide (v0_5 < (30 : Int))) else turnsPlayS_j61 v0_5 l v0_b1_0 v0_b1_2 (turnsPlayS_l0 l k0 m) k0 false)
def turnsPlayS (l : List (List Int)) : Option (Bool) :=
  (tnewS).bind fun y1_0 => turnsPlayS_l0 l (turnsPlayS_k0 ) 64 0 (⟨[], []⟩ : RTurnsS) y1_0
noncomputable def C9 (p : List Nat) : Code := codeAt (bodyOf Try.f9) p
set_option maxRecDepth 100000 in
set_option maxHeartbeats 8000000 in
theorem TurnsPlayF_tr {W0 : World} {Γ : List Asn} (la : Option Addr) (lcap : Nat) (l : List (List Int)) (hrla : Reads W0 Γ la (rowsV l)) (hkl : ∀ x ∈ l, x.length = 4) (y : Bool) (H : turnsPlayS l = some y) : Tr Try.prog 9 #[.slice la (List.length l) lcap] W0 (Γ) (fun r Δ => r = .bool y ∧ Δ = Γ) := by
  unfold turnsPlayS at H
  refine Tr.enter (fn := Try.f9) (c := C9 []) (args := [.slice la (List.length l) lcap]) 145 Try.func9 (by kernel_rfl) (by kernel_rfl) ?_
  refine At.env [(0, .slice la (List.length l) lcap)] ⟨by kernel_rfl, trivial⟩ ?_
  refine at_seq (x := C9 [0]) (y := C9 [1]) (by kernel_rfl) ?_
  refine at_region (id := 0) 1 (by kernel_rfl) (by kernel_rfl) ?_
  refine s_pure 2 (.bool false) (by kernel_rfl) (by kernel_rfl) (fun _ => by kernel_rfl) ?_
  refine ops_end ?_
  refine At.env [(0, .slice la (List.length l) lcap)] ⟨by kernel_rfl, trivial⟩ ?_
  refine at_then_normal ?_
  refine at_seq (x := C9 [1,0]) (y := C9 [1,1]) (by kernel_rfl) ?_
  refine at_region (id := 1) 5 (by kernel_rfl) (by kernel_rfl) ?_
  obtain ⟨y1_0, hy1_0, H⟩ := bindE H
  refine s_call 18 11 #[] (by kernel_rfl) (by kernel_rfl) (fun _ => by kernel_rfl) (TNewF_tr  y1_0 hy1_0) ?_
  rintro _ _ ⟨b1_0, rfl, rfl⟩
  refine s_pure 19 (.agg #[.slice none 0 0, .slice none 0 0]) (by kernel_rfl) (by kernel_rfl) (fun _ => by kernel_rfl) ?_
  refine s_step 20 (by kernel_rfl) (by kernel_rfl) (st_new (T := 67) (cells := #[.slice none 0 0, .slice none 0 0]) (fun a => .pointer (some a)) (fun _ => by kernel_rfl)) ?_
  rintro _ _ ⟨b1_2, rfl, rfl⟩
  refine At.conv (Γ' := (RTurnsA b1_2 (⟨[], []⟩ : RTurnsS)) :: (TurnsA b1_0 y1_0) :: Γ) (fun w hw => RTurnsA.new hw) ?_
  refine s_pure 3 (.pointer (some ⟨b1_0, 0, none⟩)) (by kernel_rfl) (by kernel_rfl) (fun _ => by kernel_rfl) ?_
  refine s_pure 4 (.pointer (some ⟨b1_2, 0, none⟩)) (by kernel_rfl) (by kernel_rfl) (fun _ => by kernel_rfl) ?_
  refine ops_end ?_
  refine At.env [(0, .slice la (List.length l) lcap), (3, .pointer (some ⟨b1_0, 0, none⟩)), (4, .pointer (some ⟨b1_2, 0, none⟩))] ⟨by kernel_rfl, by kernel_rfl, by kernel_rfl, trivial⟩ ?_
  refine at_then_normal ?_
  refine at_seq (x := C9 [1,1,0]) (y := C9 [1,1,1]) (by kernel_rfl) ?_
  refine at_seq (x := C9 [1,1,0,0]) (y := C9 [1,1,0,1]) (by kernel_rfl) ?_
  refine at_region (id := 2) 2 (by kernel_rfl) (by kernel_rfl) ?_
  refine s_pure 21 (.pointer (some ⟨b1_0, 0, none⟩)) (by kernel_rfl) (by kernel_rfl) (fun _ => by kernel_rfl) ?_
  refine s_pure 22 (.bool false) (by kernel_rfl) (by kernel_rfl) (fun _ => by kernel_rfl) ?_
  refine ops_end ?_
  refine At.env [(0, .slice la (List.length l) lcap), (3, .pointer (some ⟨b1_0, 0, none⟩)), (4, .pointer (some ⟨b1_2, 0, none⟩)), (22, .bool false)] ⟨by kernel_rfl, by kernel_rfl, by kernel_rfl, by kernel_rfl, trivial⟩ ?_
  refine at_then_normal ?_
  refine at_false (t := false) (x := C9 [1,1,0,1,0]) (y := C9 [1,1,0,1,1]) (o := .tmp 22) (by kernel_rfl) (by kernel_rfl) (by kernel_rfl) rfl ?_
  refine at_skip (by kernel_rfl) ?_
  refine at_then_normal ?_
  refine at_seq (x := C9 [1,1,1,0]) (y := C9 [1,1,1,1]) (by kernel_rfl) ?_
  refine at_seq (x := C9 [1,1,1,0,0]) (y := C9 [1,1,1,0,1]) (by kernel_rfl) ?_
  refine at_region (id := 4) 1 (by kernel_rfl) (by kernel_rfl) ?_
  refine s_pure 5 (.int .i64 (0)) (by kernel_rfl) (by kernel_rfl) (fun _ => by kernel_rfl) ?_
  refine ops_end ?_
  refine At.env [(0, .slice la (List.length l) lcap), (3, .pointer (some ⟨b1_0, 0, none⟩)), (4, .pointer (some ⟨b1_2, 0, none⟩)), (5, .int .i64 (0))] ⟨by kernel_rfl, by kernel_rfl, by kernel_rfl, by kernel_rfl, trivial⟩ ?_
  refine at_then_normal ?_
  refine at_block (i := 0) (x := C9 [1,1,1,0,1,0]) (by kernel_rfl) ?_
  refine At.conv (Γ' := (RTurnsA b1_2 (⟨[], []⟩ : RTurnsS)) :: (TurnsA b1_0 y1_0) :: Γ) (fun w hw => (Sat.less (.take .here (.take .here .refl)) hw)) ?_
  refine at_loopR (x := C9 [1,1,1,0,1,0,0]) (fun mm ff ΔΔ => ∃ (fuel : Nat) (v0_5 : Int) (v0_b1_2 : RTurnsS) (v0_b1_0 : TurnsS), turnsPlayS_l0 l (turnsPlayS_k0 ) fuel v0_5 v0_b1_2 v0_b1_0 = some y ∧ fuel = mm ∧ ff = [(0, .slice la (List.length l) lcap), (3, .pointer (some ⟨b1_0, 0, none⟩)), (4, .pointer (some ⟨b1_2, 0, none⟩)), (5, .int .i64 v0_5)] ∧ (RTurnsA b1_2 v0_b1_2) :: (TurnsA b1_0 v0_b1_0) :: Γ = ΔΔ) (64) (by kernel_rfl) [(0, .slice la (List.length l) lcap), (3, .pointer (some ⟨b1_0, 0, none⟩)), (4, .pointer (some ⟨b1_2, 0, none⟩)), (5, .int .i64 0)] ⟨by kernel_rfl, by kernel_rfl, by kernel_rfl, by kernel_rfl, trivial⟩ ⟨64, 0, (⟨[], []⟩ : RTurnsS), y1_0, H, rfl, rfl, rfl⟩ ?_
  rintro _ _ _ ⟨fuel1, v0_5, v0_b1_2, v0_b1_0, H, rfl, rfl, rfl⟩
  rcases fuel1 with _ | fuel1
  · exact (noneE H).elim
  rw [turnsPlayS_l0] at H
  refine at_seq (x := C9 [1,1,1,0,1,0,0,0]) (y := C9 [1,1,1,0,1,0,0,1]) (by kernel_rfl) ?_
  refine at_seq_join (x := C9 [1,1,1,0,1,0,0,0,0]) (y := C9 [1,1,1,0,1,0,0,0,1]) (fun ff ΔΔ => ∃ (e61_30 : Bool), turnsPlayS_j61 v0_5 l v0_b1_0 v0_b1_2 (turnsPlayS_l0 l (turnsPlayS_k0 ) fuel1) (turnsPlayS_k0 ) e61_30 = some y ∧ ff = [(0, .slice la (List.length l) lcap), (3, .pointer (some ⟨b1_0, 0, none⟩)), (4, .pointer (some ⟨b1_2, 0, none⟩)), (5, .int .i64 v0_5), (30, .bool e61_30)] ∧ (RTurnsA b1_2 v0_b1_2) :: (TurnsA b1_0 v0_b1_0) :: Γ = ΔΔ) (by kernel_rfl) ?_ ?_
  · rintro _ _ ⟨e61_30, H, rfl, rfl⟩
    rw [turnsPlayS_j61] at H
    rcases Bool.eq_false_or_eq_true (e61_30) with h1 | h1
    · replace H := bifT H h1
      refine at_true (t := e61_30) (x := C9 [1,1,1,0,1,0,0,0,1,0]) (y := C9 [1,1,1,0,1,0,0,0,1,1]) (o := .tmp 30) (by kernel_rfl) (by kernel_rfl) (by kernel_rfl) h1 ?_
      refine at_skip (by kernel_rfl) ?_
      refine at_then_normal ?_
      refine at_seq (x := C9 [1,1,1,0,1,0,0,1,0]) (y := C9 [1,1,1,0,1,0,0,1,1]) (by kernel_rfl) ?_
      refine at_block (i := 1) (x := C9 [1,1,1,0,1,0,0,1,0,0]) (by kernel_rfl) ?_
      refine at_seq (x := C9 [1,1,1,0,1,0,0,1,0,0,0]) (y := C9 [1,1,1,0,1,0,0,1,0,0,1]) (by kernel_rfl) ?_
      refine at_region (id := 7) 6 (by kernel_rfl) (by kernel_rfl) ?_
      refine s_pure 33 (.slice la (List.length l) lcap) (by kernel_rfl) (by kernel_rfl) (fun _ => by kernel_rfl) ?_
      refine s_pure 34 (.int .i64 v0_5) (by kernel_rfl) (by kernel_rfl) (fun _ => by kernel_rfl) ?_
      obtain ⟨hc7_2_0, H⟩ := chkE H
      refine reads_atN (k := 4) hkl (by decide) (Reads.conv (fun w hw => hw.less (.drop .here (.drop .here .refl))) hrla) (by have := hc7_2_0; omega) ?_
      intro bb1 oo1 ha1
      refine s_pure 35 (.pointer (some ⟨bb1, oo1 + ((v0_5).toNat * 4), none⟩)) (by kernel_rfl) (by kernel_rfl) (index_at (t := 62) (sz := 4) (E := 69) (a := la) (m := (List.length l)) (c := lcap) (b := bb1) (off := oo1) (i := (v0_5).toNat) (tinfo 69) (fun _ => by kernel_rfl) (by kernel_rfl) (by kernel_rfl) (by kernel_rfl) ha1 (idx_cast hc7_2_0) (idx_nat hc7_2_0) rfl) ?_
      obtain ⟨hc7_3_0, H⟩ := chkE H
      refine s_load 36 (.agg #[.int .i64 (nth (nthR l v0_5) 0), .int .i64 (nth (nthR l v0_5) 1), .int .i64 (nth (nthR l v0_5) 2), .int .i64 (nth (nthR l v0_5) 3)]) (by kernel_rfl) (by kernel_rfl) (loadN_at (k := 4) (row := [.int .i64 (nth (nthR l v0_5) 0), .int .i64 (nth (nthR l v0_5) 1), .int .i64 (nth (nthR l v0_5) 2), .int .i64 (nth (nthR l v0_5) 3)]) (off := oo1) (i := (v0_5).toNat) (fun _ => by kernel_rfl) rfl rfl (fun j v hj => reads_cell (k := 4) (Reads.conv (fun w hw => hw.less (.drop .here (.drop .here .refl))) hrla) (rowsV_rows hkl) ha1 (rowsV_get hc7_2_0) (by rw [rowV_4 hc7_3_0]; exact hj))) ?_
      refine s_step 6 (by kernel_rfl) (by kernel_rfl) (st_new (T := 69) (cells := #[.int .i64 (0), .int .i64 (0), .int .i64 (0), .int .i64 (0)]) (fun a => .pointer (some a)) (fun _ => by kernel_rfl)) ?_
      rintro _ _ ⟨b7_4, rfl, rfl⟩
      refine s_do (by kernel_rfl) (by kernel_rfl) (st_store (off := 0) (vs := [.int .i64 (nth (nthR l v0_5) 0), .int .i64 (nth (nthR l v0_5) 1), .int .i64 (nth (nthR l v0_5) 2), .int .i64 (nth (nthR l v0_5) 3)]) (c' := #[.int .i64 (nth (nthR l v0_5) 0), .int .i64 (nth (nthR l v0_5) 1), .int .i64 (nth (nthR l v0_5) 2), .int .i64 (nth (nthR l v0_5) 3)]) (fun _ => by kernel_rfl) .here (by kernel_rfl) (by kernel_rfl) (by kernel_rfl)) ?_
      rintro _ _ ⟨rfl, rfl⟩
      refine ops_end ?_
      refine At.env [(0, .slice la (List.length l) lcap), (3, .pointer (some ⟨b1_0, 0, none⟩)), (4, .pointer (some ⟨b1_2, 0, none⟩)), (5, .int .i64 v0_5), (6, .pointer (some ⟨b7_4, 0, none⟩))] ⟨by kernel_rfl, by kernel_rfl, by kernel_rfl, by kernel_rfl, by kernel_rfl, trivial⟩ ?_
      refine at_then_normal ?_
      refine at_seq (x := C9 [1,1,1,0,1,0,0,1,0,0,1,0]) (y := C9 [1,1,1,0,1,0,0,1,0,0,1,1]) (by kernel_rfl) ?_
      refine at_region (id := 8) 4 (by kernel_rfl) (by kernel_rfl) ?_
      refine s_pure 37 (.pointer (some ⟨b7_4, 1, none⟩)) (by kernel_rfl) (by kernel_rfl) (fun _ => by kernel_rfl) ?_
      refine s_load 38 (.int .i64 (nth (nthR l v0_5) 1)) (by kernel_rfl) (by kernel_rfl) (load1 (off := 1) (fun _ => by kernel_rfl) (holds_own .here) (by kernel_rfl)) ?_
      obtain ⟨y8_2, hy8_2, H⟩ := bindE H
      refine s_quiet 39 (.int .i64 y8_2) 12 #[.int .i64 (nth (nthR l v0_5) 1), .int .i64 (3)] (by kernel_rfl) (by kernel_rfl) (fun _ => by kernel_rfl) (WithinF_tr (nth (nthR l v0_5) 1) (3 : Int) y8_2 hy8_2) ?_
      refine s_pure 7 (.int .i64 y8_2) (by kernel_rfl) (by kernel_rfl) (fun _ => by kernel_rfl) ?_
      refine ops_end ?_
      refine At.env [(0, .slice la (List.length l) lcap), (3, .pointer (some ⟨b1_0, 0, none⟩)), (4, .pointer (some ⟨b1_2, 0, none⟩)), (5, .int .i64 v0_5), (6, .pointer (some ⟨b7_4, 0, none⟩)), (7, .int .i64 y8_2)] ⟨by kernel_rfl, by kernel_rfl, by kernel_rfl, by kernel_rfl, by kernel_rfl, by kernel_rfl, trivial⟩ ?_
      refine at_then_normal ?_
      refine at_seq_join (x := C9 [1,1,1,0,1,0,0,1,0,0,1,1,0]) (y := C9 [1,1,1,0,1,0,0,1,0,0,1,1,1]) (fun ff ΔΔ => ∃ (e62_b1_2 : RTurnsS) (e62_b1_0 : TurnsS), turnsPlayS_j62 v0_5 (turnsPlayS_l0 l (turnsPlayS_k0 ) fuel1) e62_b1_2 e62_b1_0 = some y ∧ ff = [(0, .slice la (List.length l) lcap), (3, .pointer (some ⟨b1_0, 0, none⟩)), (4, .pointer (some ⟨b1_2, 0, none⟩)), (5, .int .i64 v0_5)] ∧ (RTurnsA b1_2 e62_b1_2) :: (TurnsA b1_0 e62_b1_0) :: Γ = ΔΔ) (by kernel_rfl) ?_ ?_
      · rintro _ _ ⟨e62_b1_2, e62_b1_0, H, rfl, rfl⟩
        rw [turnsPlayS_j62] at H
        refine at_seq (x := C9 [1,1,1,0,1,0,0,1,0,0,1,1,1,0]) (y := C9 [1,1,1,0,1,0,0,1,0,0,1,1,1,1]) (by kernel_rfl) ?_
        refine at_seq (x := C9 [1,1,1,0,1,0,0,1,0,0,1,1,1,0,0]) (y := C9 [1,1,1,0,1,0,0,1,0,0,1,1,1,0,1]) (by kernel_rfl) ?_
        refine at_region (id := 29) 6 (by kernel_rfl) (by kernel_rfl) ?_
        refine s_pure 118 (.pointer (some ⟨b1_0, 0, none⟩)) (by kernel_rfl) (by kernel_rfl) (fun _ => by kernel_rfl) ?_
        obtain ⟨y29_1, hy29_1, H⟩ := bindE H
        refine s_call 119 33 #[.pointer (some ⟨b1_0, 0, none⟩)] (by kernel_rfl) (by kernel_rfl) (fun _ => by kernel_rfl) (Tr.conv (Γ' := (TurnsA b1_0 e62_b1_0) :: (RTurnsA b1_2 e62_b1_2) :: Γ) (fun w hw => (Sat.less (.take (.there .here) (.take .here .refl)) hw)) (TReadyF_tr b1_0 e62_b1_0 y29_1 hy29_1)) ?_
        rintro _ _ ⟨a29_1_00, c29_1_00, rfl, rfl⟩
        refine s_pure 120 (.pointer (some ⟨b1_2, 0, none⟩)) (by kernel_rfl) (by kernel_rfl) (fun _ => by kernel_rfl) ?_
        refine RTurnsA.tox (.there (.there .here)) ?_
        intro x29_3
        obtain ⟨y29_3, hy29_3, H⟩ := bindE H
        refine s_call 121 39 #[.pointer (some ⟨b1_2, 0, none⟩)] (by kernel_rfl) (by kernel_rfl) (fun _ => by kernel_rfl) (RReadyF_tr b1_2 x29_3 e62_b1_2 y29_3 hy29_3) ?_
        rintro _ _ ⟨a29_3_00, c29_3_00, rfl, rfl⟩
        obtain ⟨y29_4, hy29_4, H⟩ := bindE H
        refine s_call 122 34 #[.slice a29_1_00 (List.length y29_1) c29_1_00, .slice a29_3_00 (List.length y29_3) c29_3_00] (by kernel_rfl) (by kernel_rfl) (fun _ => by kernel_rfl) (KSameF_tr a29_1_00 c29_1_00 y29_1 a29_3_00 c29_3_00 y29_3 (RowsA.reads (k := 1) (.there (.there .here))) (RowsA.reads (k := 1) .here) y29_4 hy29_4) ?_
        rintro _ _ ⟨rfl, rfl⟩
        refine s_pure 123 (.bool !y29_4) (by kernel_rfl) (by kernel_rfl) (fun _ => by kernel_rfl) ?_
        refine ops_end ?_
        refine At.env [(0, .slice la (List.length l) lcap), (3, .pointer (some ⟨b1_0, 0, none⟩)), (4, .pointer (some ⟨b1_2, 0, none⟩)), (5, .int .i64 v0_5), (123, .bool !y29_4)] ⟨by kernel_rfl, by kernel_rfl, by kernel_rfl, by kernel_rfl, by kernel_rfl, trivial⟩ ?_
        refine at_then_normal ?_
        rcases Bool.eq_false_or_eq_true (!y29_4) with h2 | h2
        · replace H := bifT H h2
          refine at_true (t := !y29_4) (x := C9 [1,1,1,0,1,0,0,1,0,0,1,1,1,0,1,0]) (y := C9 [1,1,1,0,1,0,0,1,0,0,1,1,1,0,1,1]) (o := .tmp 123) (by kernel_rfl) (by kernel_rfl) (by kernel_rfl) h2 ?_
          refine at_seq (x := C9 [1,1,1,0,1,0,0,1,0,0,1,1,1,0,1,0,0]) (y := C9 [1,1,1,0,1,0,0,1,0,0,1,1,1,0,1,0,1]) (by kernel_rfl) ?_
          refine at_region (id := 30) 1 (by kernel_rfl) (by kernel_rfl) ?_
          refine s_pure 2 (.bool false) (by kernel_rfl) (by kernel_rfl) (fun _ => by kernel_rfl) ?_
          refine ops_end ?_
          refine At.env [(2, .bool false)] ⟨by kernel_rfl, trivial⟩ ?_
          refine at_then_normal ?_
          refine at_ret (by kernel_rfl) ?_
          refine at_then_ret ?_
          refine at_in_ret ?_
          refine at_then_ret ?_
          refine at_then_ret ?_
          refine at_in_ret ?_
          refine at_then_ret ?_
          obtain rfl := someE H
          refine at_backR [.bool false] (Γ) (rs := [.tmp 2]) (by kernel_rfl) (.cons (.tmp (by kernel_rfl)) .nil) (fun w hw => (Sat.less (.drop .here (.drop .here (.drop .here (.drop .here .refl)))) hw)) ?_
          exact ⟨rfl, rfl⟩
        · replace H := bifF H h2
          refine at_false (t := !y29_4) (x := C9 [1,1,1,0,1,0,0,1,0,0,1,1,1,0,1,0]) (y := C9 [1,1,1,0,1,0,0,1,0,0,1,1,1,0,1,1]) (o := .tmp 123) (by kernel_rfl) (by kernel_rfl) (by kernel_rfl) h2 ?_
          refine at_skip (by kernel_rfl) ?_
          refine at_then_normal ?_
          refine at_seq (x := C9 [1,1,1,0,1,0,0,1,0,0,1,1,1,1,0]) (y := C9 [1,1,1,0,1,0,0,1,0,0,1,1,1,1,1]) (by kernel_rfl) ?_
          refine at_region (id := 31) 1 (by kernel_rfl) (by kernel_rfl) ?_
          refine s_pure 17 (.int .i64 (-1)) (by kernel_rfl) (by kernel_rfl) (fun _ => by kernel_rfl) ?_
          refine ops_end ?_
          refine At.env [(0, .slice la (List.length l) lcap), (3, .pointer (some ⟨b1_0, 0, none⟩)), (4, .pointer (some ⟨b1_2, 0, none⟩)), (5, .int .i64 v0_5), (17, .int .i64 (-1))] ⟨by kernel_rfl, by kernel_rfl, by kernel_rfl, by kernel_rfl, by kernel_rfl, trivial⟩ ?_
          refine at_then_normal ?_
          refine at_block (i := 3) (x := C9 [1,1,1,0,1,0,0,1,0,0,1,1,1,1,1,0]) (by kernel_rfl) ?_
          refine At.conv (Γ' := (RTurnsXA b1_2 x29_3 e62_b1_2) :: (TurnsA b1_0 e62_b1_0) :: Γ) (fun w hw => (Sat.less (.take (.there .here) (.take (.there (.there .here)) (.drop .here (.drop .here .refl)))) hw)) ?_
          refine at_loopR (x := C9 [1,1,1,0,1,0,0,1,0,0,1,1,1,1,1,0,0]) (fun mm ff ΔΔ => ∃ (fuel : Nat) (v63_17 : Int), turnsPlayS_l63 e62_b1_0 e62_b1_2 (turnsPlayS_k63 v0_5 (turnsPlayS_l0 l (turnsPlayS_k0 ) fuel1) e62_b1_2 e62_b1_0) fuel v63_17 = some y ∧ fuel = mm ∧ ff = [(0, .slice la (List.length l) lcap), (3, .pointer (some ⟨b1_0, 0, none⟩)), (4, .pointer (some ⟨b1_2, 0, none⟩)), (5, .int .i64 v0_5), (17, .int .i64 v63_17)] ∧ (RTurnsXA b1_2 x29_3 e62_b1_2) :: (TurnsA b1_0 e62_b1_0) :: Γ = ΔΔ) (64) (by kernel_rfl) [(0, .slice la (List.length l) lcap), (3, .pointer (some ⟨b1_0, 0, none⟩)), (4, .pointer (some ⟨b1_2, 0, none⟩)), (5, .int .i64 v0_5), (17, .int .i64 (-1))] ⟨by kernel_rfl, by kernel_rfl, by kernel_rfl, by kernel_rfl, by kernel_rfl, trivial⟩ ⟨64, (-1), H, rfl, rfl, rfl⟩ ?_
          rintro _ _ _ ⟨fuel2, v63_17, H, rfl, rfl, rfl⟩
          rcases fuel2 with _ | fuel2
          · exact (noneE H).elim
          rw [turnsPlayS_l63] at H
          refine at_seq (x := C9 [1,1,1,0,1,0,0,1,0,0,1,1,1,1,1,0,0,0]) (y := C9 [1,1,1,0,1,0,0,1,0,0,1,1,1,1,1,0,0,1]) (by kernel_rfl) ?_
          refine at_seq (x := C9 [1,1,1,0,1,0,0,1,0,0,1,1,1,1,1,0,0,0,0]) (y := C9 [1,1,1,0,1,0,0,1,0,0,1,1,1,1,1,0,0,0,1]) (by kernel_rfl) ?_
          refine at_region (id := 32) 2 (by kernel_rfl) (by kernel_rfl) ?_
          refine s_pure 124 (.int .i64 v63_17) (by kernel_rfl) (by kernel_rfl) (fun _ => by kernel_rfl) ?_
          refine s_pure 125 (.bool (decide (v63_17 < (4 : Int)))) (by kernel_rfl) (by kernel_rfl) (fun _ => by kernel_rfl) ?_
          refine ops_end ?_
          refine At.env [(0, .slice la (List.length l) lcap), (3, .pointer (some ⟨b1_0, 0, none⟩)), (4, .pointer (some ⟨b1_2, 0, none⟩)), (5, .int .i64 v0_5), (17, .int .i64 v63_17), (125, .bool (decide (v63_17 < (4 : Int))))] ⟨by kernel_rfl, by kernel_rfl, by kernel_rfl, by kernel_rfl, by kernel_rfl, by kernel_rfl, trivial⟩ ?_
          refine at_then_normal ?_
          rcases Bool.eq_false_or_eq_true (decide (v63_17 < (4 : Int))) with h3 | h3
          · replace H := bifT H h3
            refine at_true (t := decide (v63_17 < (4 : Int))) (x := C9 [1,1,1,0,1,0,0,1,0,0,1,1,1,1,1,0,0,0,1,0]) (y := C9 [1,1,1,0,1,0,0,1,0,0,1,1,1,1,1,0,0,0,1,1]) (o := .tmp 125) (by kernel_rfl) (by kernel_rfl) (by kernel_rfl) h3 ?_
            refine at_skip (by kernel_rfl) ?_
            refine at_then_normal ?_
            refine at_seq (x := C9 [1,1,1,0,1,0,0,1,0,0,1,1,1,1,1,0,0,1,0]) (y := C9 [1,1,1,0,1,0,0,1,0,0,1,1,1,1,1,0,0,1,1]) (by kernel_rfl) ?_
            refine at_block (i := 4) (x := C9 [1,1,1,0,1,0,0,1,0,0,1,1,1,1,1,0,0,1,0,0]) (by kernel_rfl) ?_
            refine at_seq (x := C9 [1,1,1,0,1,0,0,1,0,0,1,1,1,1,1,0,0,1,0,0,0]) (y := C9 [1,1,1,0,1,0,0,1,0,0,1,1,1,1,1,0,0,1,0,0,1]) (by kernel_rfl) ?_
            refine at_region (id := 34) 16 (by kernel_rfl) (by kernel_rfl) ?_
            refine s_pure 128 (.pointer (some ⟨b1_0, 0, none⟩)) (by kernel_rfl) (by kernel_rfl) (fun _ => by kernel_rfl) ?_
            refine s_pure 129 (.int .i64 v63_17) (by kernel_rfl) (by kernel_rfl) (fun _ => by kernel_rfl) ?_
            obtain ⟨y34_2, hy34_2, H⟩ := bindE H
            refine s_call 130 17 #[.pointer (some ⟨b1_0, 0, none⟩), .int .i64 v63_17] (by kernel_rfl) (by kernel_rfl) (fun _ => by kernel_rfl) (Tr.conv (Γ' := (TurnsA b1_0 e62_b1_0) :: (RTurnsXA b1_2 x29_3 e62_b1_2) :: Γ) (fun w hw => (Sat.less (.take (.there .here) (.take .here .refl)) hw)) (TOwnerF_tr b1_0 e62_b1_0 v63_17 y34_2 hy34_2)) ?_
            rintro _ _ ⟨rfl, rfl⟩
            refine s_pure 131 (.pointer (some ⟨b1_2, 0, none⟩)) (by kernel_rfl) (by kernel_rfl) (fun _ => by kernel_rfl) ?_
            refine s_pure 132 (.int .i64 v63_17) (by kernel_rfl) (by kernel_rfl) (fun _ => by kernel_rfl) ?_
            obtain ⟨y34_5, hy34_5, H⟩ := bindE H
            refine s_call 133 36 #[.pointer (some ⟨b1_2, 0, none⟩), .int .i64 v63_17] (by kernel_rfl) (by kernel_rfl) (fun _ => by kernel_rfl) (Tr.conv (Γ' := (RTurnsXA b1_2 x29_3 e62_b1_2) :: (TurnsA b1_0 e62_b1_0) :: Γ) (fun w hw => (Sat.less (.take (.there .here) (.take .here .refl)) hw)) (ROwnerF_tr b1_2 x29_3 e62_b1_2 v63_17 y34_5 hy34_5)) ?_
            rintro _ _ ⟨rfl, rfl⟩
            refine s_pure 134 (.bool (!(decide (y34_2 = y34_5)))) (by kernel_rfl) (by kernel_rfl) (fun _ => by kernel_rfl) ?_
            rcases Bool.eq_false_or_eq_true (!(decide (y34_2 = y34_5))) with h4 | h4
            · replace H := bifT H h4
              refine s_pure 135 (.bool true) (by kernel_rfl) (by kernel_rfl) (run_eq (v := .bool (!(decide (y34_2 = y34_5)))) (fun _ => by kernel_rfl) (congrArg Value.bool h4)) ?_
              refine s_pass 136 (by kernel_rfl) (by kernel_rfl) ?_
              refine s_pass 137 (by kernel_rfl) (by kernel_rfl) ?_
              refine s_pass 138 (by kernel_rfl) (by kernel_rfl) ?_
              refine s_pass 139 (by kernel_rfl) (by kernel_rfl) ?_
              refine s_pass 140 (by kernel_rfl) (by kernel_rfl) ?_
              refine s_pass 141 (by kernel_rfl) (by kernel_rfl) ?_
              refine s_pass 142 (by kernel_rfl) (by kernel_rfl) ?_
              refine s_pure 143 (.bool true) (by kernel_rfl) (by kernel_rfl) (fun _ => by kernel_rfl) ?_
              refine ops_end ?_
              refine At.env [(0, .slice la (List.length l) lcap), (3, .pointer (some ⟨b1_0, 0, none⟩)), (4, .pointer (some ⟨b1_2, 0, none⟩)), (5, .int .i64 v0_5), (17, .int .i64 v63_17), (143, .bool true)] ⟨by kernel_rfl, by kernel_rfl, by kernel_rfl, by kernel_rfl, by kernel_rfl, by kernel_rfl, trivial⟩ ?_
              refine at_then_normal ?_
              refine at_true (t := true) (x := C9 [1,1,1,0,1,0,0,1,0,0,1,1,1,1,1,0,0,1,0,0,1,0]) (y := C9 [1,1,1,0,1,0,0,1,0,0,1,1,1,1,1,0,0,1,0,0,1,1]) (o := .tmp 143) (by kernel_rfl) (by kernel_rfl) (by kernel_rfl) rfl ?_
              refine at_seq (x := C9 [1,1,1,0,1,0,0,1,0,0,1,1,1,1,1,0,0,1,0,0,1,0,0]) (y := C9 [1,1,1,0,1,0,0,1,0,0,1,1,1,1,1,0,0,1,0,0,1,0,1]) (by kernel_rfl) ?_
              refine at_region (id := 35) 1 (by kernel_rfl) (by kernel_rfl) ?_
              refine s_pure 2 (.bool false) (by kernel_rfl) (by kernel_rfl) (fun _ => by kernel_rfl) ?_
              refine ops_end ?_
              refine At.env [(2, .bool false)] ⟨by kernel_rfl, trivial⟩ ?_
              refine at_then_normal ?_
              refine at_ret (by kernel_rfl) ?_
              refine at_in_ret ?_
              refine at_then_ret ?_
              refine at_then_ret ?_
              refine at_in_ret ?_
              refine at_in_ret ?_
              refine at_then_ret ?_
              refine at_then_ret ?_
              refine at_in_ret ?_
              refine at_then_ret ?_
              obtain rfl := someE H
              refine at_backR [.bool false] (Γ) (rs := [.tmp 2]) (by kernel_rfl) (.cons (.tmp (by kernel_rfl)) .nil) (fun w hw => (Sat.less (.drop .here (.drop .here .refl)) hw)) ?_
              exact ⟨rfl, rfl⟩
            · replace H := bifF H h4
              refine s_pure 135 (.bool false) (by kernel_rfl) (by kernel_rfl) (run_eq (v := .bool (!(decide (y34_2 = y34_5)))) (fun _ => by kernel_rfl) (congrArg Value.bool h4)) ?_
              refine s_pure 136 (.pointer (some ⟨b1_0, 0, none⟩)) (by kernel_rfl) (by kernel_rfl) (fun _ => by kernel_rfl) ?_
              refine s_pure 137 (.int .i64 v63_17) (by kernel_rfl) (by kernel_rfl) (fun _ => by kernel_rfl) ?_
              obtain ⟨y34_10, hy34_10, H⟩ := bindE H
              refine s_call 138 14 #[.pointer (some ⟨b1_0, 0, none⟩), .int .i64 v63_17] (by kernel_rfl) (by kernel_rfl) (fun _ => by kernel_rfl) (Tr.conv (Γ' := (TurnsA b1_0 e62_b1_0) :: (RTurnsXA b1_2 x29_3 e62_b1_2) :: Γ) (fun w hw => (Sat.less (.take (.there .here) (.take .here .refl)) hw)) (TWaitingF_tr b1_0 e62_b1_0 v63_17 y34_10 hy34_10)) ?_
              rintro _ _ ⟨rfl, rfl⟩
              refine s_pure 139 (.pointer (some ⟨b1_2, 0, none⟩)) (by kernel_rfl) (by kernel_rfl) (fun _ => by kernel_rfl) ?_
              refine s_pure 140 (.int .i64 v63_17) (by kernel_rfl) (by kernel_rfl) (fun _ => by kernel_rfl) ?_
              obtain ⟨y34_13, hy34_13, H⟩ := bindE H
              refine s_call 141 40 #[.pointer (some ⟨b1_2, 0, none⟩), .int .i64 v63_17] (by kernel_rfl) (by kernel_rfl) (fun _ => by kernel_rfl) (Tr.conv (Γ' := (RTurnsXA b1_2 x29_3 e62_b1_2) :: (TurnsA b1_0 e62_b1_0) :: Γ) (fun w hw => (Sat.less (.take (.there .here) (.take .here .refl)) hw)) (RWaitingF_tr b1_2 x29_3 e62_b1_2 v63_17 y34_13 hy34_13)) ?_
              rintro _ _ ⟨rfl, rfl⟩
              refine s_pure 142 (.bool (!(decide (y34_10 = y34_13)))) (by kernel_rfl) (by kernel_rfl) (fun _ => by kernel_rfl) ?_
              refine s_pure 143 (.bool (!(decide (y34_10 = y34_13)))) (by kernel_rfl) (by kernel_rfl) (fun _ => by kernel_rfl) ?_
              refine ops_end ?_
              refine At.env [(0, .slice la (List.length l) lcap), (3, .pointer (some ⟨b1_0, 0, none⟩)), (4, .pointer (some ⟨b1_2, 0, none⟩)), (5, .int .i64 v0_5), (17, .int .i64 v63_17), (143, .bool (!(decide (y34_10 = y34_13))))] ⟨by kernel_rfl, by kernel_rfl, by kernel_rfl, by kernel_rfl, by kernel_rfl, by kernel_rfl, trivial⟩ ?_
              refine at_then_normal ?_
              rcases Bool.eq_false_or_eq_true (!(decide (y34_10 = y34_13))) with h5 | h5
              · replace H := bifT H h5
                refine at_true (t := !(decide (y34_10 = y34_13))) (x := C9 [1,1,1,0,1,0,0,1,0,0,1,1,1,1,1,0,0,1,0,0,1,0]) (y := C9 [1,1,1,0,1,0,0,1,0,0,1,1,1,1,1,0,0,1,0,0,1,1]) (o := .tmp 143) (by kernel_rfl) (by kernel_rfl) (by kernel_rfl) h5 ?_
                refine at_seq (x := C9 [1,1,1,0,1,0,0,1,0,0,1,1,1,1,1,0,0,1,0,0,1,0,0]) (y := C9 [1,1,1,0,1,0,0,1,0,0,1,1,1,1,1,0,0,1,0,0,1,0,1]) (by kernel_rfl) ?_
                refine at_region (id := 35) 1 (by kernel_rfl) (by kernel_rfl) ?_
                refine s_pure 2 (.bool false) (by kernel_rfl) (by kernel_rfl) (fun _ => by kernel_rfl) ?_
                refine ops_end ?_
                refine At.env [(2, .bool false)] ⟨by kernel_rfl, trivial⟩ ?_
                refine at_then_normal ?_
                refine at_ret (by kernel_rfl) ?_
                refine at_in_ret ?_
                refine at_then_ret ?_
                refine at_then_ret ?_
                refine at_in_ret ?_
                refine at_in_ret ?_
                refine at_then_ret ?_
                refine at_then_ret ?_
                refine at_in_ret ?_
                refine at_then_ret ?_
                obtain rfl := someE H
                refine at_backR [.bool false] (Γ) (rs := [.tmp 2]) (by kernel_rfl) (.cons (.tmp (by kernel_rfl)) .nil) (fun w hw => (Sat.less (.drop .here (.drop .here .refl)) hw)) ?_
                exact ⟨rfl, rfl⟩
              · replace H := bifF H h5
                refine at_false (t := !(decide (y34_10 = y34_13))) (x := C9 [1,1,1,0,1,0,0,1,0,0,1,1,1,1,1,0,0,1,0,0,1,0]) (y := C9 [1,1,1,0,1,0,0,1,0,0,1,1,1,1,1,0,0,1,0,0,1,1]) (o := .tmp 143) (by kernel_rfl) (by kernel_rfl) (by kernel_rfl) h5 ?_
                refine at_skip (by kernel_rfl) ?_
                refine at_in_normal ?_
                refine at_then_normal ?_
                refine at_region (id := 33) 3 (by kernel_rfl) (by kernel_rfl) ?_
                refine s_pure 126 (.int .i64 v63_17) (by kernel_rfl) (by kernel_rfl) (fun _ => by kernel_rfl) ?_
                obtain ⟨hc33_1_0, H⟩ := chkE H
                refine s_pure 127 (.int .i64 (v63_17 + (1 : Int))) (by kernel_rfl) (by kernel_rfl) (run_eq (v := .int .i64 (IntKind.i64.wrap (v63_17 + (1 : Int)))) (fun _ => by kernel_rfl) (by rw [inR.wrap hc33_1_0])) ?_
                refine s_pure 17 (.int .i64 (v63_17 + (1 : Int))) (by kernel_rfl) (by kernel_rfl) (fun _ => by kernel_rfl) ?_
                refine ops_end ?_
                refine At.env [(0, .slice la (List.length l) lcap), (3, .pointer (some ⟨b1_0, 0, none⟩)), (4, .pointer (some ⟨b1_2, 0, none⟩)), (5, .int .i64 v0_5), (17, .int .i64 (v63_17 + (1 : Int)))] ⟨by kernel_rfl, by kernel_rfl, by kernel_rfl, by kernel_rfl, by kernel_rfl, trivial⟩ ?_
                refine at_round_normal ?_
                exact at_roundR fuel2 [(0, .slice la (List.length l) lcap), (3, .pointer (some ⟨b1_0, 0, none⟩)), (4, .pointer (some ⟨b1_2, 0, none⟩)), (5, .int .i64 v0_5), (17, .int .i64 (v63_17 + (1 : Int)))] ((RTurnsXA b1_2 x29_3 e62_b1_2) :: (TurnsA b1_0 e62_b1_0) :: Γ) (Nat.lt_succ_self _) ⟨by kernel_rfl, by kernel_rfl, by kernel_rfl, by kernel_rfl, by kernel_rfl, trivial⟩ (fun w hw => (Sat.less (.take .here (.take .here .refl)) hw)) ⟨fuel2, v63_17 + (1 : Int), H, rfl, rfl, rfl⟩
          · replace H := bifF H h3
            refine at_false (t := decide (v63_17 < (4 : Int))) (x := C9 [1,1,1,0,1,0,0,1,0,0,1,1,1,1,1,0,0,0,1,0]) (y := C9 [1,1,1,0,1,0,0,1,0,0,1,1,1,1,1,0,0,0,1,1]) (o := .tmp 125) (by kernel_rfl) (by kernel_rfl) (by kernel_rfl) h3 ?_
            refine at_exit (i := 3) (by kernel_rfl) ?_
            refine at_then_exit ?_
            refine at_then_exit ?_
            rw [turnsPlayS_k63] at H
            refine At.env [(0, .slice la (List.length l) lcap), (3, .pointer (some ⟨b1_0, 0, none⟩)), (4, .pointer (some ⟨b1_2, 0, none⟩)), (5, .int .i64 v0_5), (17, .int .i64 v63_17)] ⟨by kernel_rfl, by kernel_rfl, by kernel_rfl, by kernel_rfl, by kernel_rfl, trivial⟩ ?_
            refine At.conv (Γ' := (RTurnsXA b1_2 x29_3 e62_b1_2) :: (TurnsA b1_0 e62_b1_0) :: Γ) (fun w hw => (Sat.less (.take .here (.take .here .refl)) hw)) ?_
            refine at_in_here ?_
            refine at_in_normal ?_
            refine at_then_normal ?_
            refine at_region (id := 6) 3 (by kernel_rfl) (by kernel_rfl) ?_
            refine s_pure 31 (.int .i64 v0_5) (by kernel_rfl) (by kernel_rfl) (fun _ => by kernel_rfl) ?_
            obtain ⟨hc6_1_0, H⟩ := chkE H
            refine s_pure 32 (.int .i64 (v0_5 + (1 : Int))) (by kernel_rfl) (by kernel_rfl) (run_eq (v := .int .i64 (IntKind.i64.wrap (v0_5 + (1 : Int)))) (fun _ => by kernel_rfl) (by rw [inR.wrap hc6_1_0])) ?_
            refine s_pure 5 (.int .i64 (v0_5 + (1 : Int))) (by kernel_rfl) (by kernel_rfl) (fun _ => by kernel_rfl) ?_
            refine ops_end ?_
            refine At.env [(0, .slice la (List.length l) lcap), (3, .pointer (some ⟨b1_0, 0, none⟩)), (4, .pointer (some ⟨b1_2, 0, none⟩)), (5, .int .i64 (v0_5 + (1 : Int)))] ⟨by kernel_rfl, by kernel_rfl, by kernel_rfl, by kernel_rfl, trivial⟩ ?_
            refine at_round_normal ?_
            refine At.conv (Γ' := (RTurnsA b1_2 e62_b1_2) :: (TurnsA b1_0 e62_b1_0) :: Γ) (fun w hw => RTurnsXA.shut (hw.pull .here)) ?_
            exact at_roundR fuel1 [(0, .slice la (List.length l) lcap), (3, .pointer (some ⟨b1_0, 0, none⟩)), (4, .pointer (some ⟨b1_2, 0, none⟩)), (5, .int .i64 (v0_5 + (1 : Int)))] ((RTurnsA b1_2 e62_b1_2) :: (TurnsA b1_0 e62_b1_0) :: Γ) (Nat.lt_succ_self _) ⟨by kernel_rfl, by kernel_rfl, by kernel_rfl, by kernel_rfl, trivial⟩ (fun w hw => (Sat.less (.take .here (.take .here .refl)) hw)) ⟨fuel1, v0_5 + (1 : Int), e62_b1_2, e62_b1_0, H, rfl, rfl, rfl⟩
      · refine at_seq (x := C9 [1,1,1,0,1,0,0,1,0,0,1,1,0,0]) (y := C9 [1,1,1,0,1,0,0,1,0,0,1,1,0,1]) (by kernel_rfl) ?_
        refine at_region (id := 9) 3 (by kernel_rfl) (by kernel_rfl) ?_
        refine s_pure 40 (.pointer (some ⟨b7_4, 0, none⟩)) (by kernel_rfl) (by kernel_rfl) (fun _ => by kernel_rfl) ?_
        refine s_load 41 (.int .i64 (nth (nthR l v0_5) 0)) (by kernel_rfl) (by kernel_rfl) (load1 (off := 0) (fun _ => by kernel_rfl) (holds_own .here) (by kernel_rfl)) ?_
        obtain ⟨y9_2, hy9_2, H⟩ := bindE H
        refine s_quiet 42 (.int .i64 y9_2) 12 #[.int .i64 (nth (nthR l v0_5) 0), .int .i64 (5)] (by kernel_rfl) (by kernel_rfl) (fun _ => by kernel_rfl) (WithinF_tr (nth (nthR l v0_5) 0) (5 : Int) y9_2 hy9_2) ?_
        refine ops_end ?_
        refine At.env [(0, .slice la (List.length l) lcap), (3, .pointer (some ⟨b1_0, 0, none⟩)), (4, .pointer (some ⟨b1_2, 0, none⟩)), (5, .int .i64 v0_5), (6, .pointer (some ⟨b7_4, 0, none⟩)), (7, .int .i64 y8_2), (42, .int .i64 y9_2)] ⟨by kernel_rfl, by kernel_rfl, by kernel_rfl, by kernel_rfl, by kernel_rfl, by kernel_rfl, by kernel_rfl, trivial⟩ ?_
        refine at_then_normal ?_
        refine at_block (i := 2) (x := C9 [1,1,1,0,1,0,0,1,0,0,1,1,0,1,0]) (by kernel_rfl) ?_
        refine at_seq_join (x := C9 [1,1,1,0,1,0,0,1,0,0,1,1,0,1,0,0]) (y := C9 [1,1,1,0,1,0,0,1,0,0,1,1,0,1,0,1]) (fun ff ΔΔ => ∃ (e64_70 : Bool), turnsPlayS_j64 l v0_5 v0_b1_0 y8_2 v0_b1_2 (turnsPlayS_l0 l (turnsPlayS_k0 ) fuel1) y9_2 e64_70 = some y ∧ ff = [(0, .slice la (List.length l) lcap), (3, .pointer (some ⟨b1_0, 0, none⟩)), (4, .pointer (some ⟨b1_2, 0, none⟩)), (5, .int .i64 v0_5), (6, .pointer (some ⟨b7_4, 0, none⟩)), (7, .int .i64 y8_2), (42, .int .i64 y9_2), (70, .bool e64_70)] ∧ (Asn.own b7_4 (.cells #[.int .i64 (nth (nthR l v0_5) 0), .int .i64 (nth (nthR l v0_5) 1), .int .i64 (nth (nthR l v0_5) 2), .int .i64 (nth (nthR l v0_5) 3)] 69 (0, 0))) :: (RTurnsA b1_2 v0_b1_2) :: (TurnsA b1_0 v0_b1_0) :: Γ = ΔΔ) (by kernel_rfl) ?_ ?_
        · rintro _ _ ⟨e64_70, H, rfl, rfl⟩
          rw [turnsPlayS_j64] at H
          rcases Bool.eq_false_or_eq_true (e64_70) with h6 | h6
          · replace H := bifT H h6
            refine at_true (t := e64_70) (x := C9 [1,1,1,0,1,0,0,1,0,0,1,1,0,1,0,1,0]) (y := C9 [1,1,1,0,1,0,0,1,0,0,1,1,0,1,0,1,1]) (o := .tmp 70) (by kernel_rfl) (by kernel_rfl) (by kernel_rfl) h6 ?_
            refine at_seq (x := C9 [1,1,1,0,1,0,0,1,0,0,1,1,0,1,0,1,0,0]) (y := C9 [1,1,1,0,1,0,0,1,0,0,1,1,0,1,0,1,0,1]) (by kernel_rfl) ?_
            refine at_region (id := 16) 4 (by kernel_rfl) (by kernel_rfl) ?_
            refine s_pure 73 (.pointer (some ⟨b7_4, 2, none⟩)) (by kernel_rfl) (by kernel_rfl) (fun _ => by kernel_rfl) ?_
            refine s_load 74 (.int .i64 (nth (nthR l v0_5) 2)) (by kernel_rfl) (by kernel_rfl) (load1 (off := 2) (fun _ => by kernel_rfl) (holds_own .here) (by kernel_rfl)) ?_
            obtain ⟨y16_2, hy16_2, H⟩ := bindE H
            refine s_quiet 75 (.int .i64 y16_2) 12 #[.int .i64 (nth (nthR l v0_5) 2), .int .i64 (5)] (by kernel_rfl) (by kernel_rfl) (fun _ => by kernel_rfl) (WithinF_tr (nth (nthR l v0_5) 2) (5 : Int) y16_2 hy16_2) ?_
            refine s_pure 8 (.int .i64 y16_2) (by kernel_rfl) (by kernel_rfl) (fun _ => by kernel_rfl) ?_
            refine ops_end ?_
            refine At.env [(0, .slice la (List.length l) lcap), (3, .pointer (some ⟨b1_0, 0, none⟩)), (4, .pointer (some ⟨b1_2, 0, none⟩)), (5, .int .i64 v0_5), (6, .pointer (some ⟨b7_4, 0, none⟩)), (7, .int .i64 y8_2), (8, .int .i64 y16_2)] ⟨by kernel_rfl, by kernel_rfl, by kernel_rfl, by kernel_rfl, by kernel_rfl, by kernel_rfl, by kernel_rfl, trivial⟩ ?_
            refine at_then_normal ?_
            refine at_seq (x := C9 [1,1,1,0,1,0,0,1,0,0,1,1,0,1,0,1,0,1,0]) (y := C9 [1,1,1,0,1,0,0,1,0,0,1,1,0,1,0,1,0,1,1]) (by kernel_rfl) ?_
            refine at_region_draw (id := 17) (by kernel_rfl) (by kernel_rfl) ?_
            refine d_pure 0 76 (.pointer (some ⟨b1_0, 0, none⟩)) (by kernel_rfl) (by kernel_rfl) (by kernel_rfl) (fun _ => by kernel_rfl) ?_
            refine d_pure 1 77 (.int .i64 y8_2) (by kernel_rfl) (by kernel_rfl) (by kernel_rfl) (fun _ => by kernel_rfl) ?_
            refine d_pure 2 78 (.int .i64 y16_2) (by kernel_rfl) (by kernel_rfl) (by kernel_rfl) (fun _ => by kernel_rfl) ?_
            refine d_pure 3 79 (.pointer (some ⟨b7_4, 3, none⟩)) (by kernel_rfl) (by kernel_rfl) (by kernel_rfl) (fun _ => by kernel_rfl) ?_
            refine d_load 4 80 (.int .i64 (nth (nthR l v0_5) 3)) (by kernel_rfl) (by kernel_rfl) (by kernel_rfl) (load1 (off := 3) (fun _ => by kernel_rfl) (holds_own .here) (by kernel_rfl)) ?_
            refine d_pure 6 82 (.pointer (some ⟨b1_2, 0, none⟩)) (by kernel_rfl) (by kernel_rfl) (by kernel_rfl) (fun _ => by kernel_rfl) ?_
            refine d_pure 7 83 (.int .i64 y8_2) (by kernel_rfl) (by kernel_rfl) (by kernel_rfl) (fun _ => by kernel_rfl) ?_
            refine d_pure 8 84 (.int .i64 y16_2) (by kernel_rfl) (by kernel_rfl) (by kernel_rfl) (fun _ => by kernel_rfl) ?_
            refine d_pure 9 85 (.pointer (some ⟨b7_4, 3, none⟩)) (by kernel_rfl) (by kernel_rfl) (by kernel_rfl) (fun _ => by kernel_rfl) ?_
            refine d_load 10 86 (.int .i64 (nth (nthR l v0_5) 3)) (by kernel_rfl) (by kernel_rfl) (by kernel_rfl) (load1 (off := 3) (fun _ => by kernel_rfl) (holds_own .here) (by kernel_rfl)) ?_
            obtain ⟨y17_5, hy17_5, H⟩ := bindE H
            refine d_call 5 81 [0, 1, 2, 4, 3] [9, 8, 7, 6] [10] 13 #[.pointer (some ⟨b1_0, 0, none⟩), .int .i64 y8_2, .int .i64 y16_2, .int .i64 (nth (nthR l v0_5) 3)] (by kernel_rfl) (by kernel_rfl) (by kernel_rfl) (fun _ => by kernel_rfl) (Tr.conv (Γ' := (TurnsA b1_0 v0_b1_0) :: (Asn.own b7_4 (.cells #[.int .i64 (nth (nthR l v0_5) 0), .int .i64 (nth (nthR l v0_5) 1), .int .i64 (nth (nthR l v0_5) 2), .int .i64 (nth (nthR l v0_5) 3)] 69 (0, 0))) :: (RTurnsA b1_2 v0_b1_2) :: Γ) (fun w hw => (Sat.less (.take (.there (.there .here)) (.take .here (.take .here .refl))) hw)) (TAskF_tr b1_0 v0_b1_0 y8_2 y16_2 (nth (nthR l v0_5) 3) y17_5 hy17_5)) ?_
            rintro _ _ ⟨rfl, rfl⟩
            refine ⟨(stable_cons 10 86 (.int .i64 (nth (nthR l v0_5) 3)) (by kernel_rfl) (by kernel_rfl) (by kernel_rfl) (load1 (off := 3) (fun _ => by kernel_rfl) (holds_own (.there .here)) (by kernel_rfl)) stable_nil), ?_⟩
            obtain ⟨y17_11, hy17_11, H⟩ := bindE H
            refine d_call 11 87 [6, 7, 8, 10, 5, 9, 0, 1, 2, 4, 3] [] [] 35 #[.pointer (some ⟨b1_2, 0, none⟩), .int .i64 y8_2, .int .i64 y16_2, .int .i64 (nth (nthR l v0_5) 3)] (by kernel_rfl) (by kernel_rfl) (by kernel_rfl) (fun _ => by kernel_rfl) (Tr.conv (Γ' := (RTurnsA b1_2 v0_b1_2) :: (TurnsA b1_0 y17_5.2) :: (Asn.own b7_4 (.cells #[.int .i64 (nth (nthR l v0_5) 0), .int .i64 (nth (nthR l v0_5) 1), .int .i64 (nth (nthR l v0_5) 2), .int .i64 (nth (nthR l v0_5) 3)] 69 (0, 0))) :: Γ) (fun w hw => (Sat.less (.take (.there (.there .here)) (.take .here (.take .here .refl))) hw)) (RAskF_tr b1_2 v0_b1_2 y8_2 y16_2 (nth (nthR l v0_5) 3) y17_11 hy17_11)) ?_
            rintro _ _ ⟨rfl, rfl⟩
            refine ⟨stable_nil, ?_⟩
            refine d_pure 12 88 (.bool (!(y17_5.1 == y17_11.1))) (by kernel_rfl) (by kernel_rfl) (by kernel_rfl) (fun _ => by kernel_rfl) ?_
            refine draw_end (by kernel_rfl) ?_
            refine At.env [(0, .slice la (List.length l) lcap), (3, .pointer (some ⟨b1_0, 0, none⟩)), (4, .pointer (some ⟨b1_2, 0, none⟩)), (5, .int .i64 v0_5), (88, .bool (!(y17_5.1 == y17_11.1)))] ⟨by kernel_rfl, by kernel_rfl, by kernel_rfl, by kernel_rfl, by kernel_rfl, trivial⟩ ?_
            refine at_then_normal ?_
            rcases Bool.eq_false_or_eq_true (!(y17_5.1 == y17_11.1)) with h7 | h7
            · replace H := bifT H h7
              refine at_true (t := !(y17_5.1 == y17_11.1)) (x := C9 [1,1,1,0,1,0,0,1,0,0,1,1,0,1,0,1,0,1,1,0]) (y := C9 [1,1,1,0,1,0,0,1,0,0,1,1,0,1,0,1,0,1,1,1]) (o := .tmp 88) (by kernel_rfl) (by kernel_rfl) (by kernel_rfl) h7 ?_
              refine at_seq (x := C9 [1,1,1,0,1,0,0,1,0,0,1,1,0,1,0,1,0,1,1,0,0]) (y := C9 [1,1,1,0,1,0,0,1,0,0,1,1,0,1,0,1,0,1,1,0,1]) (by kernel_rfl) ?_
              refine at_region (id := 18) 1 (by kernel_rfl) (by kernel_rfl) ?_
              refine s_pure 2 (.bool false) (by kernel_rfl) (by kernel_rfl) (fun _ => by kernel_rfl) ?_
              refine ops_end ?_
              refine At.env [(2, .bool false)] ⟨by kernel_rfl, trivial⟩ ?_
              refine at_then_normal ?_
              refine at_ret (by kernel_rfl) ?_
              refine at_in_ret ?_
              refine at_then_ret ?_
              refine at_in_ret ?_
              refine at_then_ret ?_
              refine at_then_ret ?_
              refine at_in_ret ?_
              refine at_then_ret ?_
              obtain rfl := someE H
              refine at_backR [.bool false] (Γ) (rs := [.tmp 2]) (by kernel_rfl) (.cons (.tmp (by kernel_rfl)) .nil) (fun w hw => (Sat.less (.drop .here (.drop .here (.drop .here .refl))) hw)) ?_
              exact ⟨rfl, rfl⟩
            · replace H := bifF H h7
              refine at_false (t := !(y17_5.1 == y17_11.1)) (x := C9 [1,1,1,0,1,0,0,1,0,0,1,1,0,1,0,1,0,1,1,0]) (y := C9 [1,1,1,0,1,0,0,1,0,0,1,1,0,1,0,1,0,1,1,1]) (o := .tmp 88) (by kernel_rfl) (by kernel_rfl) (by kernel_rfl) h7 ?_
              refine at_skip (by kernel_rfl) ?_
              refine at_in_normal ?_
              refine at_round_normal ?_
              exact at_join_mk [(0, .slice la (List.length l) lcap), (3, .pointer (some ⟨b1_0, 0, none⟩)), (4, .pointer (some ⟨b1_2, 0, none⟩)), (5, .int .i64 v0_5)] ((RTurnsA b1_2 y17_11.2) :: (TurnsA b1_0 y17_5.2) :: Γ) ⟨by kernel_rfl, by kernel_rfl, by kernel_rfl, by kernel_rfl, trivial⟩ (fun w hw => (Sat.less (.take .here (.take .here (.drop .here .refl))) hw)) ⟨y17_11.2, y17_5.2, H, rfl, rfl⟩
          · replace H := bifF H h6
            refine at_false (t := e64_70) (x := C9 [1,1,1,0,1,0,0,1,0,0,1,1,0,1,0,1,0]) (y := C9 [1,1,1,0,1,0,0,1,0,0,1,1,0,1,0,1,1]) (o := .tmp 70) (by kernel_rfl) (by kernel_rfl) (by kernel_rfl) h6 ?_
            refine at_seq_join (x := C9 [1,1,1,0,1,0,0,1,0,0,1,1,0,1,0,1,1,0]) (y := C9 [1,1,1,0,1,0,0,1,0,0,1,1,0,1,0,1,1,1]) (fun ff ΔΔ => ∃ (e65_89 : Bool), turnsPlayS_j65 l v0_5 v0_b1_2 y8_2 v0_b1_0 (turnsPlayS_l0 l (turnsPlayS_k0 ) fuel1) e65_89 = some y ∧ ff = [(0, .slice la (List.length l) lcap), (3, .pointer (some ⟨b1_0, 0, none⟩)), (4, .pointer (some ⟨b1_2, 0, none⟩)), (5, .int .i64 v0_5), (6, .pointer (some ⟨b7_4, 0, none⟩)), (7, .int .i64 y8_2), (89, .bool e65_89)] ∧ (Asn.own b7_4 (.cells #[.int .i64 (nth (nthR l v0_5) 0), .int .i64 (nth (nthR l v0_5) 1), .int .i64 (nth (nthR l v0_5) 2), .int .i64 (nth (nthR l v0_5) 3)] 69 (0, 0))) :: (RTurnsA b1_2 v0_b1_2) :: (TurnsA b1_0 v0_b1_0) :: Γ = ΔΔ) (by kernel_rfl) ?_ ?_
            · rintro _ _ ⟨e65_89, H, rfl, rfl⟩
              rw [turnsPlayS_j65] at H
              rcases Bool.eq_false_or_eq_true (e65_89) with h8 | h8
              · replace H := bifT H h8
                refine at_true (t := e65_89) (x := C9 [1,1,1,0,1,0,0,1,0,0,1,1,0,1,0,1,1,1,0]) (y := C9 [1,1,1,0,1,0,0,1,0,0,1,1,0,1,0,1,1,1,1]) (o := .tmp 89) (by kernel_rfl) (by kernel_rfl) (by kernel_rfl) h8 ?_
                refine at_seq (x := C9 [1,1,1,0,1,0,0,1,0,0,1,1,0,1,0,1,1,1,0,0]) (y := C9 [1,1,1,0,1,0,0,1,0,0,1,1,0,1,0,1,1,1,0,1]) (by kernel_rfl) ?_
                refine at_region (id := 21) 4 (by kernel_rfl) (by kernel_rfl) ?_
                refine s_pure 92 (.pointer (some ⟨b7_4, 2, none⟩)) (by kernel_rfl) (by kernel_rfl) (fun _ => by kernel_rfl) ?_
                refine s_load 93 (.int .i64 (nth (nthR l v0_5) 2)) (by kernel_rfl) (by kernel_rfl) (load1 (off := 2) (fun _ => by kernel_rfl) (holds_own .here) (by kernel_rfl)) ?_
                obtain ⟨y21_2, hy21_2, H⟩ := bindE H
                refine s_quiet 94 (.int .i64 y21_2) 12 #[.int .i64 (nth (nthR l v0_5) 2), .int .i64 (5)] (by kernel_rfl) (by kernel_rfl) (fun _ => by kernel_rfl) (WithinF_tr (nth (nthR l v0_5) 2) (5 : Int) y21_2 hy21_2) ?_
                refine s_pure 9 (.int .i64 y21_2) (by kernel_rfl) (by kernel_rfl) (fun _ => by kernel_rfl) ?_
                refine ops_end ?_
                refine At.env [(0, .slice la (List.length l) lcap), (3, .pointer (some ⟨b1_0, 0, none⟩)), (4, .pointer (some ⟨b1_2, 0, none⟩)), (5, .int .i64 v0_5), (6, .pointer (some ⟨b7_4, 0, none⟩)), (7, .int .i64 y8_2), (9, .int .i64 y21_2)] ⟨by kernel_rfl, by kernel_rfl, by kernel_rfl, by kernel_rfl, by kernel_rfl, by kernel_rfl, by kernel_rfl, trivial⟩ ?_
                refine at_then_normal ?_
                refine at_seq_join (x := C9 [1,1,1,0,1,0,0,1,0,0,1,1,0,1,0,1,1,1,0,1,0]) (y := C9 [1,1,1,0,1,0,0,1,0,0,1,1,0,1,0,1,1,1,0,1,1]) (fun ff ΔΔ => ∃ (e66_9 : Int), turnsPlayS_j66 v0_b1_2 y8_2 v0_b1_0 v0_5 (turnsPlayS_l0 l (turnsPlayS_k0 ) fuel1) e66_9 = some y ∧ ff = [(0, .slice la (List.length l) lcap), (3, .pointer (some ⟨b1_0, 0, none⟩)), (4, .pointer (some ⟨b1_2, 0, none⟩)), (5, .int .i64 v0_5), (7, .int .i64 y8_2), (9, .int .i64 e66_9)] ∧ (RTurnsA b1_2 v0_b1_2) :: (TurnsA b1_0 v0_b1_0) :: Γ = ΔΔ) (by kernel_rfl) ?_ ?_
                · rintro _ _ ⟨e66_9, H, rfl, rfl⟩
                  rw [turnsPlayS_j66] at H
                  refine at_seq (x := C9 [1,1,1,0,1,0,0,1,0,0,1,1,0,1,0,1,1,1,0,1,1,0]) (y := C9 [1,1,1,0,1,0,0,1,0,0,1,1,0,1,0,1,1,1,0,1,1,1]) (by kernel_rfl) ?_
                  refine at_region (id := 24) 1 (by kernel_rfl) (by kernel_rfl) ?_
                  refine s_pure 10 (.int .i64 (6)) (by kernel_rfl) (by kernel_rfl) (fun _ => by kernel_rfl) ?_
                  refine ops_end ?_
                  refine At.env [(0, .slice la (List.length l) lcap), (3, .pointer (some ⟨b1_0, 0, none⟩)), (4, .pointer (some ⟨b1_2, 0, none⟩)), (5, .int .i64 v0_5), (7, .int .i64 y8_2), (9, .int .i64 e66_9), (10, .int .i64 (6))] ⟨by kernel_rfl, by kernel_rfl, by kernel_rfl, by kernel_rfl, by kernel_rfl, by kernel_rfl, by kernel_rfl, trivial⟩ ?_
                  refine at_then_normal ?_
                  refine at_seq_join (x := C9 [1,1,1,0,1,0,0,1,0,0,1,1,0,1,0,1,1,1,0,1,1,1,0]) (y := C9 [1,1,1,0,1,0,0,1,0,0,1,1,0,1,0,1,1,1,0,1,1,1,1]) (fun ff ΔΔ => ∃ (e67_10 : Int) (e67_b1_2 : RTurnsS), turnsPlayS_j67 v0_b1_0 y8_2 e66_9 v0_5 (turnsPlayS_l0 l (turnsPlayS_k0 ) fuel1) e67_10 e67_b1_2 = some y ∧ ff = [(0, .slice la (List.length l) lcap), (3, .pointer (some ⟨b1_0, 0, none⟩)), (4, .pointer (some ⟨b1_2, 0, none⟩)), (5, .int .i64 v0_5), (7, .int .i64 y8_2), (9, .int .i64 e66_9), (10, .int .i64 e67_10)] ∧ (RTurnsA b1_2 e67_b1_2) :: (TurnsA b1_0 v0_b1_0) :: Γ = ΔΔ) (by kernel_rfl) ?_ ?_
                  · rintro _ _ ⟨e67_10, e67_b1_2, H, rfl, rfl⟩
                    rw [turnsPlayS_j67] at H
                    refine at_seq (x := C9 [1,1,1,0,1,0,0,1,0,0,1,1,0,1,0,1,1,1,0,1,1,1,1,0]) (y := C9 [1,1,1,0,1,0,0,1,0,0,1,1,0,1,0,1,1,1,0,1,1,1,1,1]) (by kernel_rfl) ?_
                    refine at_region (id := 27) 6 (by kernel_rfl) (by kernel_rfl) ?_
                    refine s_pure 112 (.pointer (some ⟨b1_0, 0, none⟩)) (by kernel_rfl) (by kernel_rfl) (fun _ => by kernel_rfl) ?_
                    refine s_pure 113 (.int .i64 y8_2) (by kernel_rfl) (by kernel_rfl) (fun _ => by kernel_rfl) ?_
                    refine s_pure 114 (.int .i64 e66_9) (by kernel_rfl) (by kernel_rfl) (fun _ => by kernel_rfl) ?_
                    obtain ⟨y27_3, hy27_3, H⟩ := bindE H
                    refine s_call 115 15 #[.pointer (some ⟨b1_0, 0, none⟩), .int .i64 y8_2, .int .i64 e66_9] (by kernel_rfl) (by kernel_rfl) (fun _ => by kernel_rfl) (Tr.conv (Γ' := (TurnsA b1_0 v0_b1_0) :: (RTurnsA b1_2 e67_b1_2) :: Γ) (fun w hw => (Sat.less (.take (.there .here) (.take .here .refl)) hw)) (TReleaseF_tr b1_0 v0_b1_0 y8_2 e66_9 y27_3 hy27_3)) ?_
                    rintro _ _ ⟨rfl, rfl⟩
                    refine s_pure 116 (.int .i64 e67_10) (by kernel_rfl) (by kernel_rfl) (fun _ => by kernel_rfl) ?_
                    refine s_pure 117 (.bool (!(decide (y27_3.1 = e67_10)))) (by kernel_rfl) (by kernel_rfl) (fun _ => by kernel_rfl) ?_
                    refine ops_end ?_
                    refine At.env [(0, .slice la (List.length l) lcap), (3, .pointer (some ⟨b1_0, 0, none⟩)), (4, .pointer (some ⟨b1_2, 0, none⟩)), (5, .int .i64 v0_5), (117, .bool (!(decide (y27_3.1 = e67_10))))] ⟨by kernel_rfl, by kernel_rfl, by kernel_rfl, by kernel_rfl, by kernel_rfl, trivial⟩ ?_
                    refine at_then_normal ?_
                    rcases Bool.eq_false_or_eq_true (!(decide (y27_3.1 = e67_10))) with h9 | h9
                    · replace H := bifT H h9
                      refine at_true (t := !(decide (y27_3.1 = e67_10))) (x := C9 [1,1,1,0,1,0,0,1,0,0,1,1,0,1,0,1,1,1,0,1,1,1,1,1,0]) (y := C9 [1,1,1,0,1,0,0,1,0,0,1,1,0,1,0,1,1,1,0,1,1,1,1,1,1]) (o := .tmp 117) (by kernel_rfl) (by kernel_rfl) (by kernel_rfl) h9 ?_
                      refine at_seq (x := C9 [1,1,1,0,1,0,0,1,0,0,1,1,0,1,0,1,1,1,0,1,1,1,1,1,0,0]) (y := C9 [1,1,1,0,1,0,0,1,0,0,1,1,0,1,0,1,1,1,0,1,1,1,1,1,0,1]) (by kernel_rfl) ?_
                      refine at_region (id := 28) 1 (by kernel_rfl) (by kernel_rfl) ?_
                      refine s_pure 2 (.bool false) (by kernel_rfl) (by kernel_rfl) (fun _ => by kernel_rfl) ?_
                      refine ops_end ?_
                      refine At.env [(2, .bool false)] ⟨by kernel_rfl, trivial⟩ ?_
                      refine at_then_normal ?_
                      refine at_ret (by kernel_rfl) ?_
                      refine at_in_ret ?_
                      refine at_then_ret ?_
                      refine at_in_ret ?_
                      refine at_then_ret ?_
                      refine at_then_ret ?_
                      refine at_in_ret ?_
                      refine at_then_ret ?_
                      obtain rfl := someE H
                      refine at_backR [.bool false] (Γ) (rs := [.tmp 2]) (by kernel_rfl) (.cons (.tmp (by kernel_rfl)) .nil) (fun w hw => (Sat.less (.drop .here (.drop .here .refl)) hw)) ?_
                      exact ⟨rfl, rfl⟩
                    · replace H := bifF H h9
                      refine at_false (t := !(decide (y27_3.1 = e67_10))) (x := C9 [1,1,1,0,1,0,0,1,0,0,1,1,0,1,0,1,1,1,0,1,1,1,1,1,0]) (y := C9 [1,1,1,0,1,0,0,1,0,0,1,1,0,1,0,1,1,1,0,1,1,1,1,1,1]) (o := .tmp 117) (by kernel_rfl) (by kernel_rfl) (by kernel_rfl) h9 ?_
                      refine at_skip (by kernel_rfl) ?_
                      refine at_in_normal ?_
                      refine at_round_normal ?_
                      exact at_join_mk [(0, .slice la (List.length l) lcap), (3, .pointer (some ⟨b1_0, 0, none⟩)), (4, .pointer (some ⟨b1_2, 0, none⟩)), (5, .int .i64 v0_5)] ((RTurnsA b1_2 e67_b1_2) :: (TurnsA b1_0 y27_3.2) :: Γ) ⟨by kernel_rfl, by kernel_rfl, by kernel_rfl, by kernel_rfl, trivial⟩ (fun w hw => (Sat.less (.take (.there .here) (.take .here .refl)) hw)) ⟨e67_b1_2, y27_3.2, H, rfl, rfl⟩
                  · refine at_seq (x := C9 [1,1,1,0,1,0,0,1,0,0,1,1,0,1,0,1,1,1,0,1,1,1,0,0]) (y := C9 [1,1,1,0,1,0,0,1,0,0,1,1,0,1,0,1,1,1,0,1,1,1,0,1]) (by kernel_rfl) ?_
                    refine at_region (id := 25) 4 (by kernel_rfl) (by kernel_rfl) ?_
                    refine s_pure 108 (.pointer (some ⟨b1_2, 0, none⟩)) (by kernel_rfl) (by kernel_rfl) (fun _ => by kernel_rfl) ?_
                    refine s_pure 109 (.int .i64 y8_2) (by kernel_rfl) (by kernel_rfl) (fun _ => by kernel_rfl) ?_
                    refine s_pure 110 (.int .i64 e66_9) (by kernel_rfl) (by kernel_rfl) (fun _ => by kernel_rfl) ?_
                    obtain ⟨y25_3, hy25_3, H⟩ := bindE H
                    refine s_call 111 37 #[.pointer (some ⟨b1_2, 0, none⟩), .int .i64 y8_2, .int .i64 e66_9] (by kernel_rfl) (by kernel_rfl) (fun _ => by kernel_rfl) (RReleaseF_tr b1_2 v0_b1_2 y8_2 e66_9 y25_3 hy25_3) ?_
                    rintro _ _ ⟨rfl, rfl⟩
                    refine ops_end ?_
                    refine At.env [(0, .slice la (List.length l) lcap), (3, .pointer (some ⟨b1_0, 0, none⟩)), (4, .pointer (some ⟨b1_2, 0, none⟩)), (5, .int .i64 v0_5), (7, .int .i64 y8_2), (9, .int .i64 e66_9), (10, .int .i64 (6)), (111, .bool y25_3.1)] ⟨by kernel_rfl, by kernel_rfl, by kernel_rfl, by kernel_rfl, by kernel_rfl, by kernel_rfl, by kernel_rfl, by kernel_rfl, trivial⟩ ?_
                    refine at_then_normal ?_
                    rcases Bool.eq_false_or_eq_true (y25_3.1) with h10 | h10
                    · replace H := bifT H h10
                      refine at_true (t := y25_3.1) (x := C9 [1,1,1,0,1,0,0,1,0,0,1,1,0,1,0,1,1,1,0,1,1,1,0,1,0]) (y := C9 [1,1,1,0,1,0,0,1,0,0,1,1,0,1,0,1,1,1,0,1,1,1,0,1,1]) (o := .tmp 111) (by kernel_rfl) (by kernel_rfl) (by kernel_rfl) h10 ?_
                      refine at_region (id := 26) 1 (by kernel_rfl) (by kernel_rfl) ?_
                      refine s_pure 10 (.int .i64 (0)) (by kernel_rfl) (by kernel_rfl) (fun _ => by kernel_rfl) ?_
                      refine ops_end ?_
                      refine At.env [(0, .slice la (List.length l) lcap), (3, .pointer (some ⟨b1_0, 0, none⟩)), (4, .pointer (some ⟨b1_2, 0, none⟩)), (5, .int .i64 v0_5), (7, .int .i64 y8_2), (9, .int .i64 e66_9), (10, .int .i64 (0))] ⟨by kernel_rfl, by kernel_rfl, by kernel_rfl, by kernel_rfl, by kernel_rfl, by kernel_rfl, by kernel_rfl, trivial⟩ ?_
                      refine at_round_normal ?_
                      exact at_join_mk [(0, .slice la (List.length l) lcap), (3, .pointer (some ⟨b1_0, 0, none⟩)), (4, .pointer (some ⟨b1_2, 0, none⟩)), (5, .int .i64 v0_5), (7, .int .i64 y8_2), (9, .int .i64 e66_9), (10, .int .i64 0)] ((RTurnsA b1_2 y25_3.2) :: (TurnsA b1_0 v0_b1_0) :: Γ) ⟨by kernel_rfl, by kernel_rfl, by kernel_rfl, by kernel_rfl, by kernel_rfl, by kernel_rfl, by kernel_rfl, trivial⟩ (fun w hw => (Sat.less (.take .here (.take .here .refl)) hw)) ⟨0, y25_3.2, H, rfl, rfl⟩
                    · replace H := bifF H h10
                      refine at_false (t := y25_3.1) (x := C9 [1,1,1,0,1,0,0,1,0,0,1,1,0,1,0,1,1,1,0,1,1,1,0,1,0]) (y := C9 [1,1,1,0,1,0,0,1,0,0,1,1,0,1,0,1,1,1,0,1,1,1,0,1,1]) (o := .tmp 111) (by kernel_rfl) (by kernel_rfl) (by kernel_rfl) h10 ?_
                      refine at_skip (by kernel_rfl) ?_
                      refine at_round_normal ?_
                      exact at_join_mk [(0, .slice la (List.length l) lcap), (3, .pointer (some ⟨b1_0, 0, none⟩)), (4, .pointer (some ⟨b1_2, 0, none⟩)), (5, .int .i64 v0_5), (7, .int .i64 y8_2), (9, .int .i64 e66_9), (10, .int .i64 6)] ((RTurnsA b1_2 y25_3.2) :: (TurnsA b1_0 v0_b1_0) :: Γ) ⟨by kernel_rfl, by kernel_rfl, by kernel_rfl, by kernel_rfl, by kernel_rfl, by kernel_rfl, by kernel_rfl, trivial⟩ (fun w hw => (Sat.less (.take .here (.take .here .refl)) hw)) ⟨6, y25_3.2, H, rfl, rfl⟩
                · refine at_seq (x := C9 [1,1,1,0,1,0,0,1,0,0,1,1,0,1,0,1,1,1,0,1,0,0]) (y := C9 [1,1,1,0,1,0,0,1,0,0,1,1,0,1,0,1,1,1,0,1,0,1]) (by kernel_rfl) ?_
                  refine at_region (id := 22) 10 (by kernel_rfl) (by kernel_rfl) ?_
                  refine s_pure 95 (.pointer (some ⟨b7_4, 0, none⟩)) (by kernel_rfl) (by kernel_rfl) (fun _ => by kernel_rfl) ?_
                  refine s_load 96 (.int .i64 (nth (nthR l v0_5) 0)) (by kernel_rfl) (by kernel_rfl) (load1 (off := 0) (fun _ => by kernel_rfl) (holds_own .here) (by kernel_rfl)) ?_
                  refine s_pure 97 (.int .i64 ((nth (nthR l v0_5) 0).tmod (2 : Int))) (by kernel_rfl) (by kernel_rfl) (run_remP (a := nth (nthR l v0_5) 0) (b := 2) (fun _ => by kernel_rfl) (by decide)) ?_
                  refine s_pure 98 (.bool (decide (((nth (nthR l v0_5) 0).tmod (2 : Int)) = (0 : Int)))) (by kernel_rfl) (by kernel_rfl) (fun _ => by kernel_rfl) ?_
                  rcases Bool.eq_false_or_eq_true (decide (((nth (nthR l v0_5) 0).tmod (2 : Int)) = (0 : Int))) with h11 | h11
                  · replace H := bifT H h11
                    refine s_pure 99 (.bool true) (by kernel_rfl) (by kernel_rfl) (run_eq (v := .bool (decide (((nth (nthR l v0_5) 0).tmod (2 : Int)) = (0 : Int)))) (fun _ => by kernel_rfl) (congrArg Value.bool h11)) ?_
                    refine s_pure 100 (.pointer (some ⟨b1_2, 0, none⟩)) (by kernel_rfl) (by kernel_rfl) (fun _ => by kernel_rfl) ?_
                    refine s_pure 101 (.int .i64 y8_2) (by kernel_rfl) (by kernel_rfl) (fun _ => by kernel_rfl) ?_
                    refine RTurnsA.tox (.there .here) ?_
                    intro x22_7
                    obtain ⟨y22_7, hy22_7, H⟩ := bindE H
                    refine s_call 102 36 #[.pointer (some ⟨b1_2, 0, none⟩), .int .i64 y8_2] (by kernel_rfl) (by kernel_rfl) (fun _ => by kernel_rfl) (ROwnerF_tr b1_2 x22_7 v0_b1_2 y8_2 y22_7 hy22_7) ?_
                    rintro _ _ ⟨rfl, rfl⟩
                    refine s_pure 103 (.bool (!(decide (y22_7 = ((-1) : Int))))) (by kernel_rfl) (by kernel_rfl) (fun _ => by kernel_rfl) ?_
                    refine s_pure 104 (.bool (!(decide (y22_7 = ((-1) : Int))))) (by kernel_rfl) (by kernel_rfl) (fun _ => by kernel_rfl) ?_
                    refine ops_end ?_
                    refine At.env [(0, .slice la (List.length l) lcap), (3, .pointer (some ⟨b1_0, 0, none⟩)), (4, .pointer (some ⟨b1_2, 0, none⟩)), (5, .int .i64 v0_5), (7, .int .i64 y8_2), (9, .int .i64 y21_2), (104, .bool (!(decide (y22_7 = ((-1) : Int)))))] ⟨by kernel_rfl, by kernel_rfl, by kernel_rfl, by kernel_rfl, by kernel_rfl, by kernel_rfl, by kernel_rfl, trivial⟩ ?_
                    refine at_then_normal ?_
                    rcases Bool.eq_false_or_eq_true (!(decide (y22_7 = ((-1) : Int)))) with h12 | h12
                    · replace H := bifT H h12
                      refine at_true (t := !(decide (y22_7 = ((-1) : Int)))) (x := C9 [1,1,1,0,1,0,0,1,0,0,1,1,0,1,0,1,1,1,0,1,0,1,0]) (y := C9 [1,1,1,0,1,0,0,1,0,0,1,1,0,1,0,1,1,1,0,1,0,1,1]) (o := .tmp 104) (by kernel_rfl) (by kernel_rfl) (by kernel_rfl) h12 ?_
                      refine at_region (id := 23) 4 (by kernel_rfl) (by kernel_rfl) ?_
                      refine s_pure 105 (.pointer (some ⟨b1_2, 0, none⟩)) (by kernel_rfl) (by kernel_rfl) (fun _ => by kernel_rfl) ?_
                      refine s_pure 106 (.int .i64 y8_2) (by kernel_rfl) (by kernel_rfl) (fun _ => by kernel_rfl) ?_
                      obtain ⟨y23_2, hy23_2, H⟩ := bindE H
                      refine s_call 107 36 #[.pointer (some ⟨b1_2, 0, none⟩), .int .i64 y8_2] (by kernel_rfl) (by kernel_rfl) (fun _ => by kernel_rfl) (ROwnerF_tr b1_2 x22_7 v0_b1_2 y8_2 y23_2 hy23_2) ?_
                      rintro _ _ ⟨rfl, rfl⟩
                      refine s_pure 9 (.int .i64 y23_2) (by kernel_rfl) (by kernel_rfl) (fun _ => by kernel_rfl) ?_
                      refine ops_end ?_
                      refine At.env [(0, .slice la (List.length l) lcap), (3, .pointer (some ⟨b1_0, 0, none⟩)), (4, .pointer (some ⟨b1_2, 0, none⟩)), (5, .int .i64 v0_5), (7, .int .i64 y8_2), (9, .int .i64 y23_2)] ⟨by kernel_rfl, by kernel_rfl, by kernel_rfl, by kernel_rfl, by kernel_rfl, by kernel_rfl, trivial⟩ ?_
                      refine at_round_normal ?_
                      refine At.conv (Γ' := (RTurnsA b1_2 v0_b1_2) :: (Asn.own b7_4 (.cells #[.int .i64 (nth (nthR l v0_5) 0), .int .i64 (nth (nthR l v0_5) 1), .int .i64 (nth (nthR l v0_5) 2), .int .i64 (nth (nthR l v0_5) 3)] 69 (0, 0))) :: (TurnsA b1_0 v0_b1_0) :: Γ) (fun w hw => RTurnsXA.shut (hw.pull .here)) ?_
                      exact at_join_mk [(0, .slice la (List.length l) lcap), (3, .pointer (some ⟨b1_0, 0, none⟩)), (4, .pointer (some ⟨b1_2, 0, none⟩)), (5, .int .i64 v0_5), (7, .int .i64 y8_2), (9, .int .i64 y23_2)] ((RTurnsA b1_2 v0_b1_2) :: (TurnsA b1_0 v0_b1_0) :: Γ) ⟨by kernel_rfl, by kernel_rfl, by kernel_rfl, by kernel_rfl, by kernel_rfl, by kernel_rfl, trivial⟩ (fun w hw => (Sat.less (.take .here (.take (.there .here) (.drop .here .refl))) hw)) ⟨y23_2, H, rfl, rfl⟩
                    · replace H := bifF H h12
                      refine at_false (t := !(decide (y22_7 = ((-1) : Int)))) (x := C9 [1,1,1,0,1,0,0,1,0,0,1,1,0,1,0,1,1,1,0,1,0,1,0]) (y := C9 [1,1,1,0,1,0,0,1,0,0,1,1,0,1,0,1,1,1,0,1,0,1,1]) (o := .tmp 104) (by kernel_rfl) (by kernel_rfl) (by kernel_rfl) h12 ?_
                      refine at_skip (by kernel_rfl) ?_
                      refine at_round_normal ?_
                      refine At.conv (Γ' := (RTurnsA b1_2 v0_b1_2) :: (Asn.own b7_4 (.cells #[.int .i64 (nth (nthR l v0_5) 0), .int .i64 (nth (nthR l v0_5) 1), .int .i64 (nth (nthR l v0_5) 2), .int .i64 (nth (nthR l v0_5) 3)] 69 (0, 0))) :: (TurnsA b1_0 v0_b1_0) :: Γ) (fun w hw => RTurnsXA.shut (hw.pull .here)) ?_
                      exact at_join_mk [(0, .slice la (List.length l) lcap), (3, .pointer (some ⟨b1_0, 0, none⟩)), (4, .pointer (some ⟨b1_2, 0, none⟩)), (5, .int .i64 v0_5), (7, .int .i64 y8_2), (9, .int .i64 y21_2)] ((RTurnsA b1_2 v0_b1_2) :: (TurnsA b1_0 v0_b1_0) :: Γ) ⟨by kernel_rfl, by kernel_rfl, by kernel_rfl, by kernel_rfl, by kernel_rfl, by kernel_rfl, trivial⟩ (fun w hw => (Sat.less (.take .here (.take (.there .here) (.drop .here .refl))) hw)) ⟨y21_2, H, rfl, rfl⟩
                  · replace H := bifF H h11
                    refine s_pure 99 (.bool false) (by kernel_rfl) (by kernel_rfl) (run_eq (v := .bool (decide (((nth (nthR l v0_5) 0).tmod (2 : Int)) = (0 : Int)))) (fun _ => by kernel_rfl) (congrArg Value.bool h11)) ?_
                    refine s_pass 100 (by kernel_rfl) (by kernel_rfl) ?_
                    refine s_pass 101 (by kernel_rfl) (by kernel_rfl) ?_
                    refine s_pass 102 (by kernel_rfl) (by kernel_rfl) ?_
                    refine s_pass 103 (by kernel_rfl) (by kernel_rfl) ?_
                    refine s_pure 104 (.bool false) (by kernel_rfl) (by kernel_rfl) (fun _ => by kernel_rfl) ?_
                    refine ops_end ?_
                    refine At.env [(0, .slice la (List.length l) lcap), (3, .pointer (some ⟨b1_0, 0, none⟩)), (4, .pointer (some ⟨b1_2, 0, none⟩)), (5, .int .i64 v0_5), (7, .int .i64 y8_2), (9, .int .i64 y21_2), (104, .bool false)] ⟨by kernel_rfl, by kernel_rfl, by kernel_rfl, by kernel_rfl, by kernel_rfl, by kernel_rfl, by kernel_rfl, trivial⟩ ?_
                    refine at_then_normal ?_
                    refine at_false (t := false) (x := C9 [1,1,1,0,1,0,0,1,0,0,1,1,0,1,0,1,1,1,0,1,0,1,0]) (y := C9 [1,1,1,0,1,0,0,1,0,0,1,1,0,1,0,1,1,1,0,1,0,1,1]) (o := .tmp 104) (by kernel_rfl) (by kernel_rfl) (by kernel_rfl) rfl ?_
                    refine at_skip (by kernel_rfl) ?_
                    refine at_round_normal ?_
                    exact at_join_mk [(0, .slice la (List.length l) lcap), (3, .pointer (some ⟨b1_0, 0, none⟩)), (4, .pointer (some ⟨b1_2, 0, none⟩)), (5, .int .i64 v0_5), (7, .int .i64 y8_2), (9, .int .i64 y21_2)] ((RTurnsA b1_2 v0_b1_2) :: (TurnsA b1_0 v0_b1_0) :: Γ) ⟨by kernel_rfl, by kernel_rfl, by kernel_rfl, by kernel_rfl, by kernel_rfl, by kernel_rfl, trivial⟩ (fun w hw => (Sat.less (.take (.there .here) (.take (.there .here) (.drop .here .refl))) hw)) ⟨y21_2, H, rfl, rfl⟩
              · replace H := bifF H h8
                refine at_false (t := e65_89) (x := C9 [1,1,1,0,1,0,0,1,0,0,1,1,0,1,0,1,1,1,0]) (y := C9 [1,1,1,0,1,0,0,1,0,0,1,1,0,1,0,1,1,1,1]) (o := .tmp 89) (by kernel_rfl) (by kernel_rfl) (by kernel_rfl) h8 ?_
                refine at_seq (x := C9 [1,1,1,0,1,0,0,1,0,0,1,1,0,1,0,1,1,1,1,0]) (y := C9 [1,1,1,0,1,0,0,1,0,0,1,1,0,1,0,1,1,1,1,1]) (by kernel_rfl) ?_
                refine at_region (id := 10) 10 (by kernel_rfl) (by kernel_rfl) ?_
                refine s_pure 44 (.pointer (some ⟨b1_0, 0, none⟩)) (by kernel_rfl) (by kernel_rfl) (fun _ => by kernel_rfl) ?_
                refine s_pure 45 (.int .i64 y8_2) (by kernel_rfl) (by kernel_rfl) (fun _ => by kernel_rfl) ?_
                obtain ⟨y10_2, hy10_2, H⟩ := bindE H
                refine s_call 46 16 #[.pointer (some ⟨b1_0, 0, none⟩), .int .i64 y8_2] (by kernel_rfl) (by kernel_rfl) (fun _ => by kernel_rfl) (Tr.conv (Γ' := (TurnsA b1_0 v0_b1_0) :: (Asn.own b7_4 (.cells #[.int .i64 (nth (nthR l v0_5) 0), .int .i64 (nth (nthR l v0_5) 1), .int .i64 (nth (nthR l v0_5) 2), .int .i64 (nth (nthR l v0_5) 3)] 69 (0, 0))) :: (RTurnsA b1_2 v0_b1_2) :: Γ) (fun w hw => (Sat.less (.take (.there (.there .here)) (.take .here (.take .here .refl))) hw)) (TNextF_tr b1_0 v0_b1_0 y8_2 y10_2 hy10_2)) ?_
                rintro _ _ ⟨rfl, rfl⟩
                refine s_pure 43 (.tuple #[.int .i64 y10_2.1, .int .i64 y10_2.2.1, .bool y10_2.2.2.1]) (by kernel_rfl) (by kernel_rfl) (fun _ => by kernel_rfl) ?_
                refine s_pure 47 (.int .i64 y10_2.1) (by kernel_rfl) (by kernel_rfl) (fun _ => by kernel_rfl) ?_
                refine s_pure 48 (.int .i64 y10_2.2.1) (by kernel_rfl) (by kernel_rfl) (fun _ => by kernel_rfl) ?_
                refine s_pure 49 (.bool y10_2.2.2.1) (by kernel_rfl) (by kernel_rfl) (fun _ => by kernel_rfl) ?_
                refine s_pure 11 (.int .i64 y10_2.1) (by kernel_rfl) (by kernel_rfl) (fun _ => by kernel_rfl) ?_
                refine s_pure 12 (.int .i64 y10_2.2.1) (by kernel_rfl) (by kernel_rfl) (fun _ => by kernel_rfl) ?_
                refine s_pure 13 (.bool y10_2.2.2.1) (by kernel_rfl) (by kernel_rfl) (fun _ => by kernel_rfl) ?_
                refine ops_end ?_
                refine At.env [(0, .slice la (List.length l) lcap), (3, .pointer (some ⟨b1_0, 0, none⟩)), (4, .pointer (some ⟨b1_2, 0, none⟩)), (5, .int .i64 v0_5), (7, .int .i64 y8_2), (11, .int .i64 y10_2.1), (12, .int .i64 y10_2.2.1), (13, .bool y10_2.2.2.1)] ⟨by kernel_rfl, by kernel_rfl, by kernel_rfl, by kernel_rfl, by kernel_rfl, by kernel_rfl, by kernel_rfl, by kernel_rfl, trivial⟩ ?_
                refine at_then_normal ?_
                refine at_seq (x := C9 [1,1,1,0,1,0,0,1,0,0,1,1,0,1,0,1,1,1,1,1,0]) (y := C9 [1,1,1,0,1,0,0,1,0,0,1,1,0,1,0,1,1,1,1,1,1]) (by kernel_rfl) ?_
                refine at_region (id := 11) 10 (by kernel_rfl) (by kernel_rfl) ?_
                refine s_pure 51 (.pointer (some ⟨b1_2, 0, none⟩)) (by kernel_rfl) (by kernel_rfl) (fun _ => by kernel_rfl) ?_
                refine s_pure 52 (.int .i64 y8_2) (by kernel_rfl) (by kernel_rfl) (fun _ => by kernel_rfl) ?_
                obtain ⟨y11_2, hy11_2, H⟩ := bindE H
                refine s_call 53 38 #[.pointer (some ⟨b1_2, 0, none⟩), .int .i64 y8_2] (by kernel_rfl) (by kernel_rfl) (fun _ => by kernel_rfl) (Tr.conv (Γ' := (RTurnsA b1_2 v0_b1_2) :: (TurnsA b1_0 y10_2.2.2.2) :: (Asn.own b7_4 (.cells #[.int .i64 (nth (nthR l v0_5) 0), .int .i64 (nth (nthR l v0_5) 1), .int .i64 (nth (nthR l v0_5) 2), .int .i64 (nth (nthR l v0_5) 3)] 69 (0, 0))) :: Γ) (fun w hw => (Sat.less (.take (.there (.there .here)) (.take .here (.take .here .refl))) hw)) (RNextF_tr b1_2 v0_b1_2 y8_2 y11_2 hy11_2)) ?_
                rintro _ _ ⟨rfl, rfl⟩
                refine s_pure 50 (.tuple #[.int .i64 y11_2.1, .int .i64 y11_2.2.1, .bool y11_2.2.2.1]) (by kernel_rfl) (by kernel_rfl) (fun _ => by kernel_rfl) ?_
                refine s_pure 54 (.int .i64 y11_2.1) (by kernel_rfl) (by kernel_rfl) (fun _ => by kernel_rfl) ?_
                refine s_pure 55 (.int .i64 y11_2.2.1) (by kernel_rfl) (by kernel_rfl) (fun _ => by kernel_rfl) ?_
                refine s_pure 56 (.bool y11_2.2.2.1) (by kernel_rfl) (by kernel_rfl) (fun _ => by kernel_rfl) ?_
                refine s_pure 14 (.int .i64 y11_2.1) (by kernel_rfl) (by kernel_rfl) (fun _ => by kernel_rfl) ?_
                refine s_pure 15 (.int .i64 y11_2.2.1) (by kernel_rfl) (by kernel_rfl) (fun _ => by kernel_rfl) ?_
                refine s_pure 16 (.bool y11_2.2.2.1) (by kernel_rfl) (by kernel_rfl) (fun _ => by kernel_rfl) ?_
                refine ops_end ?_
                refine At.env [(0, .slice la (List.length l) lcap), (3, .pointer (some ⟨b1_0, 0, none⟩)), (4, .pointer (some ⟨b1_2, 0, none⟩)), (5, .int .i64 v0_5), (11, .int .i64 y10_2.1), (12, .int .i64 y10_2.2.1), (13, .bool y10_2.2.2.1), (14, .int .i64 y11_2.1), (15, .int .i64 y11_2.2.1), (16, .bool y11_2.2.2.1)] ⟨by kernel_rfl, by kernel_rfl, by kernel_rfl, by kernel_rfl, by kernel_rfl, by kernel_rfl, by kernel_rfl, by kernel_rfl, by kernel_rfl, by kernel_rfl, trivial⟩ ?_
                refine at_then_normal ?_
                refine at_seq (x := C9 [1,1,1,0,1,0,0,1,0,0,1,1,0,1,0,1,1,1,1,1,1,0]) (y := C9 [1,1,1,0,1,0,0,1,0,0,1,1,0,1,0,1,1,1,1,1,1,1]) (by kernel_rfl) ?_
                refine at_region (id := 12) 13 (by kernel_rfl) (by kernel_rfl) ?_
                refine s_pure 57 (.int .i64 y10_2.1) (by kernel_rfl) (by kernel_rfl) (fun _ => by kernel_rfl) ?_
                refine s_pure 58 (.int .i64 y11_2.1) (by kernel_rfl) (by kernel_rfl) (fun _ => by kernel_rfl) ?_
                refine s_pure 59 (.bool (!(decide (y10_2.1 = y11_2.1)))) (by kernel_rfl) (by kernel_rfl) (fun _ => by kernel_rfl) ?_
                rcases Bool.eq_false_or_eq_true (!(decide (y10_2.1 = y11_2.1))) with h13 | h13
                · replace H := bifT H h13
                  refine s_pure 60 (.bool true) (by kernel_rfl) (by kernel_rfl) (run_eq (v := .bool (!(decide (y10_2.1 = y11_2.1)))) (fun _ => by kernel_rfl) (congrArg Value.bool h13)) ?_
                  refine s_pass 61 (by kernel_rfl) (by kernel_rfl) ?_
                  refine s_pass 62 (by kernel_rfl) (by kernel_rfl) ?_
                  refine s_pass 63 (by kernel_rfl) (by kernel_rfl) ?_
                  refine s_pure 64 (.bool true) (by kernel_rfl) (by kernel_rfl) (fun _ => by kernel_rfl) ?_
                  refine s_pure 65 (.bool true) (by kernel_rfl) (by kernel_rfl) (fun _ => by kernel_rfl) ?_
                  refine s_pass 66 (by kernel_rfl) (by kernel_rfl) ?_
                  refine s_pass 67 (by kernel_rfl) (by kernel_rfl) ?_
                  refine s_pass 68 (by kernel_rfl) (by kernel_rfl) ?_
                  refine s_pure 69 (.bool true) (by kernel_rfl) (by kernel_rfl) (fun _ => by kernel_rfl) ?_
                  refine ops_end ?_
                  refine At.env [(0, .slice la (List.length l) lcap), (3, .pointer (some ⟨b1_0, 0, none⟩)), (4, .pointer (some ⟨b1_2, 0, none⟩)), (5, .int .i64 v0_5), (69, .bool true)] ⟨by kernel_rfl, by kernel_rfl, by kernel_rfl, by kernel_rfl, by kernel_rfl, trivial⟩ ?_
                  refine at_then_normal ?_
                  refine at_true (t := true) (x := C9 [1,1,1,0,1,0,0,1,0,0,1,1,0,1,0,1,1,1,1,1,1,1,0]) (y := C9 [1,1,1,0,1,0,0,1,0,0,1,1,0,1,0,1,1,1,1,1,1,1,1]) (o := .tmp 69) (by kernel_rfl) (by kernel_rfl) (by kernel_rfl) rfl ?_
                  refine at_seq (x := C9 [1,1,1,0,1,0,0,1,0,0,1,1,0,1,0,1,1,1,1,1,1,1,0,0]) (y := C9 [1,1,1,0,1,0,0,1,0,0,1,1,0,1,0,1,1,1,1,1,1,1,0,1]) (by kernel_rfl) ?_
                  refine at_region (id := 13) 1 (by kernel_rfl) (by kernel_rfl) ?_
                  refine s_pure 2 (.bool false) (by kernel_rfl) (by kernel_rfl) (fun _ => by kernel_rfl) ?_
                  refine ops_end ?_
                  refine At.env [(2, .bool false)] ⟨by kernel_rfl, trivial⟩ ?_
                  refine at_then_normal ?_
                  refine at_ret (by kernel_rfl) ?_
                  refine at_in_ret ?_
                  refine at_then_ret ?_
                  refine at_in_ret ?_
                  refine at_then_ret ?_
                  refine at_then_ret ?_
                  refine at_in_ret ?_
                  refine at_then_ret ?_
                  obtain rfl := someE H
                  refine at_backR [.bool false] (Γ) (rs := [.tmp 2]) (by kernel_rfl) (.cons (.tmp (by kernel_rfl)) .nil) (fun w hw => (Sat.less (.drop .here (.drop .here (.drop .here .refl))) hw)) ?_
                  exact ⟨rfl, rfl⟩
                · replace H := bifF H h13
                  refine s_pure 60 (.bool false) (by kernel_rfl) (by kernel_rfl) (run_eq (v := .bool (!(decide (y10_2.1 = y11_2.1)))) (fun _ => by kernel_rfl) (congrArg Value.bool h13)) ?_
                  refine s_pure 61 (.int .i64 y10_2.2.1) (by kernel_rfl) (by kernel_rfl) (fun _ => by kernel_rfl) ?_
                  refine s_pure 62 (.int .i64 y11_2.2.1) (by kernel_rfl) (by kernel_rfl) (fun _ => by kernel_rfl) ?_
                  refine s_pure 63 (.bool (!(decide (y10_2.2.1 = y11_2.2.1)))) (by kernel_rfl) (by kernel_rfl) (fun _ => by kernel_rfl) ?_
                  refine s_pure 64 (.bool (!(decide (y10_2.2.1 = y11_2.2.1)))) (by kernel_rfl) (by kernel_rfl) (fun _ => by kernel_rfl) ?_
                  rcases Bool.eq_false_or_eq_true (!(decide (y10_2.2.1 = y11_2.2.1))) with h14 | h14
                  · replace H := bifT H h14
                    refine s_pure 65 (.bool true) (by kernel_rfl) (by kernel_rfl) (run_eq (v := .bool (!(decide (y10_2.2.1 = y11_2.2.1)))) (fun _ => by kernel_rfl) (congrArg Value.bool h14)) ?_
                    refine s_pass 66 (by kernel_rfl) (by kernel_rfl) ?_
                    refine s_pass 67 (by kernel_rfl) (by kernel_rfl) ?_
                    refine s_pass 68 (by kernel_rfl) (by kernel_rfl) ?_
                    refine s_pure 69 (.bool true) (by kernel_rfl) (by kernel_rfl) (fun _ => by kernel_rfl) ?_
                    refine ops_end ?_
                    refine At.env [(0, .slice la (List.length l) lcap), (3, .pointer (some ⟨b1_0, 0, none⟩)), (4, .pointer (some ⟨b1_2, 0, none⟩)), (5, .int .i64 v0_5), (69, .bool true)] ⟨by kernel_rfl, by kernel_rfl, by kernel_rfl, by kernel_rfl, by kernel_rfl, trivial⟩ ?_
                    refine at_then_normal ?_
                    refine at_true (t := true) (x := C9 [1,1,1,0,1,0,0,1,0,0,1,1,0,1,0,1,1,1,1,1,1,1,0]) (y := C9 [1,1,1,0,1,0,0,1,0,0,1,1,0,1,0,1,1,1,1,1,1,1,1]) (o := .tmp 69) (by kernel_rfl) (by kernel_rfl) (by kernel_rfl) rfl ?_
                    refine at_seq (x := C9 [1,1,1,0,1,0,0,1,0,0,1,1,0,1,0,1,1,1,1,1,1,1,0,0]) (y := C9 [1,1,1,0,1,0,0,1,0,0,1,1,0,1,0,1,1,1,1,1,1,1,0,1]) (by kernel_rfl) ?_
                    refine at_region (id := 13) 1 (by kernel_rfl) (by kernel_rfl) ?_
                    refine s_pure 2 (.bool false) (by kernel_rfl) (by kernel_rfl) (fun _ => by kernel_rfl) ?_
                    refine ops_end ?_
                    refine At.env [(2, .bool false)] ⟨by kernel_rfl, trivial⟩ ?_
                    refine at_then_normal ?_
                    refine at_ret (by kernel_rfl) ?_
                    refine at_in_ret ?_
                    refine at_then_ret ?_
                    refine at_in_ret ?_
                    refine at_then_ret ?_
                    refine at_then_ret ?_
                    refine at_in_ret ?_
                    refine at_then_ret ?_
                    obtain rfl := someE H
                    refine at_backR [.bool false] (Γ) (rs := [.tmp 2]) (by kernel_rfl) (.cons (.tmp (by kernel_rfl)) .nil) (fun w hw => (Sat.less (.drop .here (.drop .here (.drop .here .refl))) hw)) ?_
                    exact ⟨rfl, rfl⟩
                  · replace H := bifF H h14
                    refine s_pure 65 (.bool false) (by kernel_rfl) (by kernel_rfl) (run_eq (v := .bool (!(decide (y10_2.2.1 = y11_2.2.1)))) (fun _ => by kernel_rfl) (congrArg Value.bool h14)) ?_
                    refine s_pure 66 (.bool y10_2.2.2.1) (by kernel_rfl) (by kernel_rfl) (fun _ => by kernel_rfl) ?_
                    refine s_pure 67 (.bool y11_2.2.2.1) (by kernel_rfl) (by kernel_rfl) (fun _ => by kernel_rfl) ?_
                    refine s_pure 68 (.bool (!(y10_2.2.2.1 == y11_2.2.2.1))) (by kernel_rfl) (by kernel_rfl) (fun _ => by kernel_rfl) ?_
                    refine s_pure 69 (.bool (!(y10_2.2.2.1 == y11_2.2.2.1))) (by kernel_rfl) (by kernel_rfl) (fun _ => by kernel_rfl) ?_
                    refine ops_end ?_
                    refine At.env [(0, .slice la (List.length l) lcap), (3, .pointer (some ⟨b1_0, 0, none⟩)), (4, .pointer (some ⟨b1_2, 0, none⟩)), (5, .int .i64 v0_5), (69, .bool (!(y10_2.2.2.1 == y11_2.2.2.1)))] ⟨by kernel_rfl, by kernel_rfl, by kernel_rfl, by kernel_rfl, by kernel_rfl, trivial⟩ ?_
                    refine at_then_normal ?_
                    rcases Bool.eq_false_or_eq_true (!(y10_2.2.2.1 == y11_2.2.2.1)) with h15 | h15
                    · replace H := bifT H h15
                      refine at_true (t := !(y10_2.2.2.1 == y11_2.2.2.1)) (x := C9 [1,1,1,0,1,0,0,1,0,0,1,1,0,1,0,1,1,1,1,1,1,1,0]) (y := C9 [1,1,1,0,1,0,0,1,0,0,1,1,0,1,0,1,1,1,1,1,1,1,1]) (o := .tmp 69) (by kernel_rfl) (by kernel_rfl) (by kernel_rfl) h15 ?_
                      refine at_seq (x := C9 [1,1,1,0,1,0,0,1,0,0,1,1,0,1,0,1,1,1,1,1,1,1,0,0]) (y := C9 [1,1,1,0,1,0,0,1,0,0,1,1,0,1,0,1,1,1,1,1,1,1,0,1]) (by kernel_rfl) ?_
                      refine at_region (id := 13) 1 (by kernel_rfl) (by kernel_rfl) ?_
                      refine s_pure 2 (.bool false) (by kernel_rfl) (by kernel_rfl) (fun _ => by kernel_rfl) ?_
                      refine ops_end ?_
                      refine At.env [(2, .bool false)] ⟨by kernel_rfl, trivial⟩ ?_
                      refine at_then_normal ?_
                      refine at_ret (by kernel_rfl) ?_
                      refine at_in_ret ?_
                      refine at_then_ret ?_
                      refine at_in_ret ?_
                      refine at_then_ret ?_
                      refine at_then_ret ?_
                      refine at_in_ret ?_
                      refine at_then_ret ?_
                      obtain rfl := someE H
                      refine at_backR [.bool false] (Γ) (rs := [.tmp 2]) (by kernel_rfl) (.cons (.tmp (by kernel_rfl)) .nil) (fun w hw => (Sat.less (.drop .here (.drop .here (.drop .here .refl))) hw)) ?_
                      exact ⟨rfl, rfl⟩
                    · replace H := bifF H h15
                      refine at_false (t := !(y10_2.2.2.1 == y11_2.2.2.1)) (x := C9 [1,1,1,0,1,0,0,1,0,0,1,1,0,1,0,1,1,1,1,1,1,1,0]) (y := C9 [1,1,1,0,1,0,0,1,0,0,1,1,0,1,0,1,1,1,1,1,1,1,1]) (o := .tmp 69) (by kernel_rfl) (by kernel_rfl) (by kernel_rfl) h15 ?_
                      refine at_skip (by kernel_rfl) ?_
                      refine at_in_normal ?_
                      refine at_round_normal ?_
                      exact at_join_mk [(0, .slice la (List.length l) lcap), (3, .pointer (some ⟨b1_0, 0, none⟩)), (4, .pointer (some ⟨b1_2, 0, none⟩)), (5, .int .i64 v0_5)] ((RTurnsA b1_2 y11_2.2.2.2) :: (TurnsA b1_0 y10_2.2.2.2) :: Γ) ⟨by kernel_rfl, by kernel_rfl, by kernel_rfl, by kernel_rfl, trivial⟩ (fun w hw => (Sat.less (.take .here (.take .here (.drop .here .refl))) hw)) ⟨y11_2.2.2.2, y10_2.2.2.2, H, rfl, rfl⟩
            · refine at_seq (x := C9 [1,1,1,0,1,0,0,1,0,0,1,1,0,1,0,1,1,0,0]) (y := C9 [1,1,1,0,1,0,0,1,0,0,1,1,0,1,0,1,1,0,1]) (by kernel_rfl) ?_
              refine at_region (id := 19) 2 (by kernel_rfl) (by kernel_rfl) ?_
              refine s_pure 90 (.bool (decide (y9_2 = (2 : Int)))) (by kernel_rfl) (by kernel_rfl) (fun _ => by kernel_rfl) ?_
              refine s_pure 89 (.bool (decide (y9_2 = (2 : Int)))) (by kernel_rfl) (by kernel_rfl) (fun _ => by kernel_rfl) ?_
              refine ops_end ?_
              refine At.env [(0, .slice la (List.length l) lcap), (3, .pointer (some ⟨b1_0, 0, none⟩)), (4, .pointer (some ⟨b1_2, 0, none⟩)), (5, .int .i64 v0_5), (6, .pointer (some ⟨b7_4, 0, none⟩)), (7, .int .i64 y8_2), (42, .int .i64 y9_2), (89, .bool (decide (y9_2 = (2 : Int))))] ⟨by kernel_rfl, by kernel_rfl, by kernel_rfl, by kernel_rfl, by kernel_rfl, by kernel_rfl, by kernel_rfl, by kernel_rfl, trivial⟩ ?_
              refine at_then_normal ?_
              rcases Bool.eq_false_or_eq_true (decide (y9_2 = (2 : Int))) with h16 | h16
              · replace H := bifT H h16
                refine at_true (t := decide (y9_2 = (2 : Int))) (x := C9 [1,1,1,0,1,0,0,1,0,0,1,1,0,1,0,1,1,0,1,0]) (y := C9 [1,1,1,0,1,0,0,1,0,0,1,1,0,1,0,1,1,0,1,1]) (o := .tmp 89) (by kernel_rfl) (by kernel_rfl) (by kernel_rfl) h16 ?_
                refine at_skip (by kernel_rfl) ?_
                refine at_round_normal ?_
                exact at_join_mk [(0, .slice la (List.length l) lcap), (3, .pointer (some ⟨b1_0, 0, none⟩)), (4, .pointer (some ⟨b1_2, 0, none⟩)), (5, .int .i64 v0_5), (6, .pointer (some ⟨b7_4, 0, none⟩)), (7, .int .i64 y8_2), (89, .bool (decide (y9_2 = (2 : Int))))] ((Asn.own b7_4 (.cells #[.int .i64 (nth (nthR l v0_5) 0), .int .i64 (nth (nthR l v0_5) 1), .int .i64 (nth (nthR l v0_5) 2), .int .i64 (nth (nthR l v0_5) 3)] 69 (0, 0))) :: (RTurnsA b1_2 v0_b1_2) :: (TurnsA b1_0 v0_b1_0) :: Γ) ⟨by kernel_rfl, by kernel_rfl, by kernel_rfl, by kernel_rfl, by kernel_rfl, by kernel_rfl, by kernel_rfl, trivial⟩ (fun w hw => (Sat.less (.take .here (.take .here (.take .here .refl))) hw)) ⟨decide (y9_2 = (2 : Int)), H, rfl, rfl⟩
              · replace H := bifF H h16
                refine at_false (t := decide (y9_2 = (2 : Int))) (x := C9 [1,1,1,0,1,0,0,1,0,0,1,1,0,1,0,1,1,0,1,0]) (y := C9 [1,1,1,0,1,0,0,1,0,0,1,1,0,1,0,1,1,0,1,1]) (o := .tmp 89) (by kernel_rfl) (by kernel_rfl) (by kernel_rfl) h16 ?_
                refine at_region (id := 20) 2 (by kernel_rfl) (by kernel_rfl) ?_
                refine s_pure 91 (.bool (decide (y9_2 = (3 : Int)))) (by kernel_rfl) (by kernel_rfl) (fun _ => by kernel_rfl) ?_
                refine s_pure 89 (.bool (decide (y9_2 = (3 : Int)))) (by kernel_rfl) (by kernel_rfl) (fun _ => by kernel_rfl) ?_
                refine ops_end ?_
                refine At.env [(0, .slice la (List.length l) lcap), (3, .pointer (some ⟨b1_0, 0, none⟩)), (4, .pointer (some ⟨b1_2, 0, none⟩)), (5, .int .i64 v0_5), (6, .pointer (some ⟨b7_4, 0, none⟩)), (7, .int .i64 y8_2), (89, .bool (decide (y9_2 = (3 : Int))))] ⟨by kernel_rfl, by kernel_rfl, by kernel_rfl, by kernel_rfl, by kernel_rfl, by kernel_rfl, by kernel_rfl, trivial⟩ ?_
                refine at_round_normal ?_
                exact at_join_mk [(0, .slice la (List.length l) lcap), (3, .pointer (some ⟨b1_0, 0, none⟩)), (4, .pointer (some ⟨b1_2, 0, none⟩)), (5, .int .i64 v0_5), (6, .pointer (some ⟨b7_4, 0, none⟩)), (7, .int .i64 y8_2), (89, .bool (decide (y9_2 = (3 : Int))))] ((Asn.own b7_4 (.cells #[.int .i64 (nth (nthR l v0_5) 0), .int .i64 (nth (nthR l v0_5) 1), .int .i64 (nth (nthR l v0_5) 2), .int .i64 (nth (nthR l v0_5) 3)] 69 (0, 0))) :: (RTurnsA b1_2 v0_b1_2) :: (TurnsA b1_0 v0_b1_0) :: Γ) ⟨by kernel_rfl, by kernel_rfl, by kernel_rfl, by kernel_rfl, by kernel_rfl, by kernel_rfl, by kernel_rfl, trivial⟩ (fun w hw => (Sat.less (.take .here (.take .here (.take .here .refl))) hw)) ⟨decide (y9_2 = (3 : Int)), H, rfl, rfl⟩
        · refine at_seq (x := C9 [1,1,1,0,1,0,0,1,0,0,1,1,0,1,0,0,0]) (y := C9 [1,1,1,0,1,0,0,1,0,0,1,1,0,1,0,0,1]) (by kernel_rfl) ?_
          refine at_region (id := 14) 2 (by kernel_rfl) (by kernel_rfl) ?_
          refine s_pure 71 (.bool (decide (y9_2 = (0 : Int)))) (by kernel_rfl) (by kernel_rfl) (fun _ => by kernel_rfl) ?_
          refine s_pure 70 (.bool (decide (y9_2 = (0 : Int)))) (by kernel_rfl) (by kernel_rfl) (fun _ => by kernel_rfl) ?_
          refine ops_end ?_
          refine At.env [(0, .slice la (List.length l) lcap), (3, .pointer (some ⟨b1_0, 0, none⟩)), (4, .pointer (some ⟨b1_2, 0, none⟩)), (5, .int .i64 v0_5), (6, .pointer (some ⟨b7_4, 0, none⟩)), (7, .int .i64 y8_2), (42, .int .i64 y9_2), (70, .bool (decide (y9_2 = (0 : Int))))] ⟨by kernel_rfl, by kernel_rfl, by kernel_rfl, by kernel_rfl, by kernel_rfl, by kernel_rfl, by kernel_rfl, by kernel_rfl, trivial⟩ ?_
          refine at_then_normal ?_
          rcases Bool.eq_false_or_eq_true (decide (y9_2 = (0 : Int))) with h17 | h17
          · replace H := bifT H h17
            refine at_true (t := decide (y9_2 = (0 : Int))) (x := C9 [1,1,1,0,1,0,0,1,0,0,1,1,0,1,0,0,1,0]) (y := C9 [1,1,1,0,1,0,0,1,0,0,1,1,0,1,0,0,1,1]) (o := .tmp 70) (by kernel_rfl) (by kernel_rfl) (by kernel_rfl) h17 ?_
            refine at_skip (by kernel_rfl) ?_
            refine at_round_normal ?_
            exact at_join_mk [(0, .slice la (List.length l) lcap), (3, .pointer (some ⟨b1_0, 0, none⟩)), (4, .pointer (some ⟨b1_2, 0, none⟩)), (5, .int .i64 v0_5), (6, .pointer (some ⟨b7_4, 0, none⟩)), (7, .int .i64 y8_2), (42, .int .i64 y9_2), (70, .bool (decide (y9_2 = (0 : Int))))] ((Asn.own b7_4 (.cells #[.int .i64 (nth (nthR l v0_5) 0), .int .i64 (nth (nthR l v0_5) 1), .int .i64 (nth (nthR l v0_5) 2), .int .i64 (nth (nthR l v0_5) 3)] 69 (0, 0))) :: (RTurnsA b1_2 v0_b1_2) :: (TurnsA b1_0 v0_b1_0) :: Γ) ⟨by kernel_rfl, by kernel_rfl, by kernel_rfl, by kernel_rfl, by kernel_rfl, by kernel_rfl, by kernel_rfl, by kernel_rfl, trivial⟩ (fun w hw => (Sat.less (.take .here (.take .here (.take .here .refl))) hw)) ⟨decide (y9_2 = (0 : Int)), H, rfl, rfl⟩
          · replace H := bifF H h17
            refine at_false (t := decide (y9_2 = (0 : Int))) (x := C9 [1,1,1,0,1,0,0,1,0,0,1,1,0,1,0,0,1,0]) (y := C9 [1,1,1,0,1,0,0,1,0,0,1,1,0,1,0,0,1,1]) (o := .tmp 70) (by kernel_rfl) (by kernel_rfl) (by kernel_rfl) h17 ?_
            refine at_region (id := 15) 2 (by kernel_rfl) (by kernel_rfl) ?_
            refine s_pure 72 (.bool (decide (y9_2 = (1 : Int)))) (by kernel_rfl) (by kernel_rfl) (fun _ => by kernel_rfl) ?_
            refine s_pure 70 (.bool (decide (y9_2 = (1 : Int)))) (by kernel_rfl) (by kernel_rfl) (fun _ => by kernel_rfl) ?_
            refine ops_end ?_
            refine At.env [(0, .slice la (List.length l) lcap), (3, .pointer (some ⟨b1_0, 0, none⟩)), (4, .pointer (some ⟨b1_2, 0, none⟩)), (5, .int .i64 v0_5), (6, .pointer (some ⟨b7_4, 0, none⟩)), (7, .int .i64 y8_2), (42, .int .i64 y9_2), (70, .bool (decide (y9_2 = (1 : Int))))] ⟨by kernel_rfl, by kernel_rfl, by kernel_rfl, by kernel_rfl, by kernel_rfl, by kernel_rfl, by kernel_rfl, by kernel_rfl, trivial⟩ ?_
            refine at_round_normal ?_
            exact at_join_mk [(0, .slice la (List.length l) lcap), (3, .pointer (some ⟨b1_0, 0, none⟩)), (4, .pointer (some ⟨b1_2, 0, none⟩)), (5, .int .i64 v0_5), (6, .pointer (some ⟨b7_4, 0, none⟩)), (7, .int .i64 y8_2), (42, .int .i64 y9_2), (70, .bool (decide (y9_2 = (1 : Int))))] ((Asn.own b7_4 (.cells #[.int .i64 (nth (nthR l v0_5) 0), .int .i64 (nth (nthR l v0_5) 1), .int .i64 (nth (nthR l v0_5) 2), .int .i64 (nth (nthR l v0_5) 3)] 69 (0, 0))) :: (RTurnsA b1_2 v0_b1_2) :: (TurnsA b1_0 v0_b1_0) :: Γ) ⟨by kernel_rfl, by kernel_rfl, by kernel_rfl, by kernel_rfl, by kernel_rfl, by kernel_rfl, by kernel_rfl, by kernel_rfl, trivial⟩ (fun w hw => (Sat.less (.take .here (.take .here (.take .here .refl))) hw)) ⟨decide (y9_2 = (1 : Int)), H, rfl, rfl⟩
    · replace H := bifF H h1
      refine at_false (t := e61_30) (x := C9 [1,1,1,0,1,0,0,0,1,0]) (y := C9 [1,1,1,0,1,0,0,0,1,1]) (o := .tmp 30) (by kernel_rfl) (by kernel_rfl) (by kernel_rfl) h1 ?_
      refine at_exit (i := 0) (by kernel_rfl) ?_
      refine at_then_exit ?_
      refine at_then_exit ?_
      rw [turnsPlayS_k0] at H
      refine At.env [(0, .slice la (List.length l) lcap), (3, .pointer (some ⟨b1_0, 0, none⟩)), (4, .pointer (some ⟨b1_2, 0, none⟩)), (5, .int .i64 v0_5)] ⟨by kernel_rfl, by kernel_rfl, by kernel_rfl, by kernel_rfl, trivial⟩ ?_
      refine At.conv (Γ' := (RTurnsA b1_2 v0_b1_2) :: (TurnsA b1_0 v0_b1_0) :: Γ) (fun w hw => (Sat.less (.take .here (.take .here .refl)) hw)) ?_
      refine at_in_here ?_
      refine at_then_normal ?_
      refine at_seq (x := C9 [1,1,1,1,0]) (y := C9 [1,1,1,1,1]) (by kernel_rfl) ?_
      refine at_region (id := 36) 2 (by kernel_rfl) (by kernel_rfl) ?_
      obtain ⟨y36_0, hy36_0, H⟩ := bindE H
      refine s_call 144 18 #[] (by kernel_rfl) (by kernel_rfl) (fun _ => by kernel_rfl) (W10F_tr  y36_0 hy36_0) ?_
      rintro _ _ ⟨rfl, rfl⟩
      refine s_pure 2 (.bool y36_0) (by kernel_rfl) (by kernel_rfl) (fun _ => by kernel_rfl) ?_
      refine ops_end ?_
      refine At.env [(2, .bool y36_0)] ⟨by kernel_rfl, trivial⟩ ?_
      refine at_then_normal ?_
      refine at_ret (by kernel_rfl) ?_
      obtain rfl := someE H
      refine at_backR [.bool y36_0] (Γ) (rs := [.tmp 2]) (by kernel_rfl) (.cons (.tmp (by kernel_rfl)) .nil) (fun w hw => (Sat.less (.drop .here (.drop .here .refl)) hw)) ?_
      exact ⟨rfl, rfl⟩
  · refine at_region (id := 5) 8 (by kernel_rfl) (by kernel_rfl) ?_
    refine s_pure 23 (.int .i64 v0_5) (by kernel_rfl) (by kernel_rfl) (fun _ => by kernel_rfl) ?_
    refine s_pure 24 (.slice la (List.length l) lcap) (by kernel_rfl) (by kernel_rfl) (fun _ => by kernel_rfl) ?_
    refine s_pure 25 (.int .i64 (((List.length l) : Nat) : Int)) (by kernel_rfl) (by kernel_rfl) (fun _ => by kernel_rfl) ?_
    refine s_pure 26 (.bool (decide (v0_5 < (((List.length l) : Nat) : Int)))) (by kernel_rfl) (by kernel_rfl) (fun _ => by kernel_rfl) ?_
    rcases Bool.eq_false_or_eq_true (decide (v0_5 < (((List.length l) : Nat) : Int))) with h18 | h18
    · replace H := bifT H h18
      refine s_pure 27 (.bool true) (by kernel_rfl) (by kernel_rfl) (run_eq (v := .bool (decide (v0_5 < (((List.length l) : Nat) : Int)))) (fun _ => by kernel_rfl) (congrArg Value.bool h18)) ?_
      refine s_pure 28 (.int .i64 v0_5) (by kernel_rfl) (by kernel_rfl) (fun _ => by kernel_rfl) ?_
      refine s_pure 29 (.bool (decide (v0_5 < (30 : Int)))) (by kernel_rfl) (by kernel_rfl) (fun _ => by kernel_rfl) ?_
      refine s_pure 30 (.bool (decide (v0_5 < (30 : Int)))) (by kernel_rfl) (by kernel_rfl) (fun _ => by kernel_rfl) ?_
      refine ops_end ?_
      refine At.env [(0, .slice la (List.length l) lcap), (3, .pointer (some ⟨b1_0, 0, none⟩)), (4, .pointer (some ⟨b1_2, 0, none⟩)), (5, .int .i64 v0_5), (30, .bool (decide (v0_5 < (30 : Int))))] ⟨by kernel_rfl, by kernel_rfl, by kernel_rfl, by kernel_rfl, by kernel_rfl, trivial⟩ ?_
      refine at_round_normal ?_
      exact at_join_mk [(0, .slice la (List.length l) lcap), (3, .pointer (some ⟨b1_0, 0, none⟩)), (4, .pointer (some ⟨b1_2, 0, none⟩)), (5, .int .i64 v0_5), (30, .bool (decide (v0_5 < (30 : Int))))] ((RTurnsA b1_2 v0_b1_2) :: (TurnsA b1_0 v0_b1_0) :: Γ) ⟨by kernel_rfl, by kernel_rfl, by kernel_rfl, by kernel_rfl, by kernel_rfl, trivial⟩ (fun w hw => (Sat.less (.take .here (.take .here .refl)) hw)) ⟨decide (v0_5 < (30 : Int)), H, rfl, rfl⟩
    · replace H := bifF H h18
      refine s_pure 27 (.bool false) (by kernel_rfl) (by kernel_rfl) (run_eq (v := .bool (decide (v0_5 < (((List.length l) : Nat) : Int)))) (fun _ => by kernel_rfl) (congrArg Value.bool h18)) ?_
      refine s_pass 28 (by kernel_rfl) (by kernel_rfl) ?_
      refine s_pass 29 (by kernel_rfl) (by kernel_rfl) ?_
      refine s_pure 30 (.bool false) (by kernel_rfl) (by kernel_rfl) (fun _ => by kernel_rfl) ?_
      refine ops_end ?_
      refine At.env [(0, .slice la (List.length l) lcap), (3, .pointer (some ⟨b1_0, 0, none⟩)), (4, .pointer (some ⟨b1_2, 0, none⟩)), (5, .int .i64 v0_5), (30, .bool false)] ⟨by kernel_rfl, by kernel_rfl, by kernel_rfl, by kernel_rfl, by kernel_rfl, trivial⟩ ?_
      refine at_round_normal ?_
      exact at_join_mk [(0, .slice la (List.length l) lcap), (3, .pointer (some ⟨b1_0, 0, none⟩)), (4, .pointer (some ⟨b1_2, 0, none⟩)), (5, .int .i64 v0_5), (30, .bool false)] ((RTurnsA b1_2 v0_b1_2) :: (TurnsA b1_0 v0_b1_0) :: Γ) ⟨by kernel_rfl, by kernel_rfl, by kernel_rfl, by kernel_rfl, by kernel_rfl, trivial⟩ (fun w hw => (Sat.less (.take .here (.take .here .refl)) hw)) ⟨false, H, rfl, rfl⟩
end Go.Proofs.Ytpcffplbedbpkaa
