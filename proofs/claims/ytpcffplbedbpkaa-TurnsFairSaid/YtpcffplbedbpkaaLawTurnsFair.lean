/- The law TurnsFair: its walk. -/
import Derived.Test.YtpcffplbedbpkaaTuB
import Derived.Test.YtpcffplbedbpkaaKsA
import Derived.Test.YtpcffplbedbpkaaSlLists
namespace Go.Proofs.Ytpcffplbedbpkaa
open Go Go.RowKit
set_option linter.unusedVariables false
set_option linter.unusedSimpArgs false
def wakes10S : Option (Bool) :=
  (tnewS).bind fun y1_0 => (townerS y1_0 (3 : Int)).bind fun y2_4 => (bif decide (y2_4 = ((-1) : Int)) then (taskS y1_0 (3 : Int) (1 : Int) (0 : Int)).bind fun y2_9 => (bif y2_9.1 then (townerS y2_9.2 (3 : Int)).bind fun y2_13 => (bif decide (y2_13 = (1 : Int)) then (taskS y2_9.2 (3 : Int) (2 : Int) (0 : Int)).bind fun y2_18 => some !y2_18.1 else some false) else some false) else some false)
noncomputable def C18 (p : List Nat) : Code := codeAt (bodyOf Try.f18) p
set_option maxRecDepth 100000 in
set_option maxHeartbeats 8000000 in
theorem W10F_tr {W0 : World} {Γ : List Asn}   (y : Bool) (H : wakes10S = some y) : Tr Try.prog 18 #[] W0 (Γ) (fun r Δ => r = .bool y ∧ Δ = Γ) := by
  unfold wakes10S at H
  refine Tr.enter (fn := Try.f18) (c := C18 []) (args := []) 24 Try.func18 (by kernel_rfl) (by kernel_rfl) ?_
  refine At.env [] trivial ?_
  refine at_seq (x := C18 [0]) (y := C18 [1]) (by kernel_rfl) ?_
  refine at_region (id := 0) 1 (by kernel_rfl) (by kernel_rfl) ?_
  refine s_pure 0 (.bool false) (by kernel_rfl) (by kernel_rfl) (fun _ => by kernel_rfl) ?_
  refine ops_end ?_
  refine At.env [] trivial ?_
  refine at_then_normal ?_
  refine at_seq (x := C18 [1,0]) (y := C18 [1,1]) (by kernel_rfl) ?_
  refine at_region (id := 1) 2 (by kernel_rfl) (by kernel_rfl) ?_
  obtain ⟨y1_0, hy1_0, H⟩ := bindE H
  refine s_call 2 11 #[] (by kernel_rfl) (by kernel_rfl) (fun _ => by kernel_rfl) (TNewF_tr  y1_0 hy1_0) ?_
  rintro _ _ ⟨b1_0, rfl, rfl⟩
  refine s_pure 1 (.pointer (some ⟨b1_0, 0, none⟩)) (by kernel_rfl) (by kernel_rfl) (fun _ => by kernel_rfl) ?_
  refine ops_end ?_
  refine At.env [(1, .pointer (some ⟨b1_0, 0, none⟩))] ⟨by kernel_rfl, trivial⟩ ?_
  refine at_then_normal ?_
  refine at_seq (x := C18 [1,1,0]) (y := C18 [1,1,1]) (by kernel_rfl) ?_
  refine at_region (id := 2) 22 (by kernel_rfl) (by kernel_rfl) ?_
  refine s_pure 3 (.pointer (some ⟨b1_0, 0, none⟩)) (by kernel_rfl) (by kernel_rfl) (fun _ => by kernel_rfl) ?_
  refine s_pure 4 (.bool true) (by kernel_rfl) (by kernel_rfl) (fun _ => by kernel_rfl) ?_
  refine s_pure 5 (.bool true) (by kernel_rfl) (by kernel_rfl) (fun _ => by kernel_rfl) ?_
  refine s_pure 6 (.pointer (some ⟨b1_0, 0, none⟩)) (by kernel_rfl) (by kernel_rfl) (fun _ => by kernel_rfl) ?_
  obtain ⟨y2_4, hy2_4, H⟩ := bindE H
  refine s_call 7 17 #[.pointer (some ⟨b1_0, 0, none⟩), .int .i64 (3)] (by kernel_rfl) (by kernel_rfl) (fun _ => by kernel_rfl) (TOwnerF_tr b1_0 y1_0 (3 : Int) y2_4 hy2_4) ?_
  rintro _ _ ⟨rfl, rfl⟩
  refine s_pure 8 (.bool (decide (y2_4 = ((-1) : Int)))) (by kernel_rfl) (by kernel_rfl) (fun _ => by kernel_rfl) ?_
  refine s_pure 9 (.bool (decide (y2_4 = ((-1) : Int)))) (by kernel_rfl) (by kernel_rfl) (fun _ => by kernel_rfl) ?_
  rcases Bool.eq_false_or_eq_true (decide (y2_4 = ((-1) : Int))) with h1 | h1
  · replace H := bifT H h1
    refine s_pure 10 (.bool true) (by kernel_rfl) (by kernel_rfl) (run_eq (v := .bool (decide (y2_4 = ((-1) : Int)))) (fun _ => by kernel_rfl) (congrArg Value.bool h1)) ?_
    refine s_pure 11 (.pointer (some ⟨b1_0, 0, none⟩)) (by kernel_rfl) (by kernel_rfl) (fun _ => by kernel_rfl) ?_
    obtain ⟨y2_9, hy2_9, H⟩ := bindE H
    refine s_call 12 13 #[.pointer (some ⟨b1_0, 0, none⟩), .int .i64 (3), .int .i64 (1), .int .i64 (0)] (by kernel_rfl) (by kernel_rfl) (fun _ => by kernel_rfl) (TAskF_tr b1_0 y1_0 (3 : Int) (1 : Int) (0 : Int) y2_9 hy2_9) ?_
    rintro _ _ ⟨rfl, rfl⟩
    refine s_pure 13 (.bool y2_9.1) (by kernel_rfl) (by kernel_rfl) (fun _ => by kernel_rfl) ?_
    rcases Bool.eq_false_or_eq_true (y2_9.1) with h2 | h2
    · replace H := bifT H h2
      refine s_pure 14 (.bool true) (by kernel_rfl) (by kernel_rfl) (run_eq (v := .bool (y2_9.1)) (fun _ => by kernel_rfl) (congrArg Value.bool h2)) ?_
      refine s_pure 15 (.pointer (some ⟨b1_0, 0, none⟩)) (by kernel_rfl) (by kernel_rfl) (fun _ => by kernel_rfl) ?_
      obtain ⟨y2_13, hy2_13, H⟩ := bindE H
      refine s_call 16 17 #[.pointer (some ⟨b1_0, 0, none⟩), .int .i64 (3)] (by kernel_rfl) (by kernel_rfl) (fun _ => by kernel_rfl) (TOwnerF_tr b1_0 y2_9.2 (3 : Int) y2_13 hy2_13) ?_
      rintro _ _ ⟨rfl, rfl⟩
      refine s_pure 17 (.bool (decide (y2_13 = (1 : Int)))) (by kernel_rfl) (by kernel_rfl) (fun _ => by kernel_rfl) ?_
      refine s_pure 18 (.bool (decide (y2_13 = (1 : Int)))) (by kernel_rfl) (by kernel_rfl) (fun _ => by kernel_rfl) ?_
      rcases Bool.eq_false_or_eq_true (decide (y2_13 = (1 : Int))) with h3 | h3
      · replace H := bifT H h3
        refine s_pure 19 (.bool true) (by kernel_rfl) (by kernel_rfl) (run_eq (v := .bool (decide (y2_13 = (1 : Int)))) (fun _ => by kernel_rfl) (congrArg Value.bool h3)) ?_
        refine s_pure 20 (.pointer (some ⟨b1_0, 0, none⟩)) (by kernel_rfl) (by kernel_rfl) (fun _ => by kernel_rfl) ?_
        obtain ⟨y2_18, hy2_18, H⟩ := bindE H
        refine s_call 21 13 #[.pointer (some ⟨b1_0, 0, none⟩), .int .i64 (3), .int .i64 (2), .int .i64 (0)] (by kernel_rfl) (by kernel_rfl) (fun _ => by kernel_rfl) (TAskF_tr b1_0 y2_9.2 (3 : Int) (2 : Int) (0 : Int) y2_18 hy2_18) ?_
        rintro _ _ ⟨rfl, rfl⟩
        refine s_pure 22 (.bool !y2_18.1) (by kernel_rfl) (by kernel_rfl) (fun _ => by kernel_rfl) ?_
        refine s_pure 23 (.bool !y2_18.1) (by kernel_rfl) (by kernel_rfl) (fun _ => by kernel_rfl) ?_
        refine s_pure 0 (.bool !y2_18.1) (by kernel_rfl) (by kernel_rfl) (fun _ => by kernel_rfl) ?_
        refine ops_end ?_
        refine At.env [(0, .bool !y2_18.1)] ⟨by kernel_rfl, trivial⟩ ?_
        refine at_then_normal ?_
        refine at_ret (by kernel_rfl) ?_
        obtain rfl := someE H
        refine at_backR [.bool !y2_18.1] (Γ) (rs := [.tmp 0]) (by kernel_rfl) (.cons (.tmp (by kernel_rfl)) .nil) (fun w hw => (Sat.less (.drop .here .refl) hw)) ?_
        exact ⟨rfl, rfl⟩
      · replace H := bifF H h3
        refine s_pure 19 (.bool false) (by kernel_rfl) (by kernel_rfl) (run_eq (v := .bool (decide (y2_13 = (1 : Int)))) (fun _ => by kernel_rfl) (congrArg Value.bool h3)) ?_
        refine s_pass 20 (by kernel_rfl) (by kernel_rfl) ?_
        refine s_pass 21 (by kernel_rfl) (by kernel_rfl) ?_
        refine s_pass 22 (by kernel_rfl) (by kernel_rfl) ?_
        refine s_pure 23 (.bool false) (by kernel_rfl) (by kernel_rfl) (fun _ => by kernel_rfl) ?_
        refine s_pure 0 (.bool false) (by kernel_rfl) (by kernel_rfl) (fun _ => by kernel_rfl) ?_
        refine ops_end ?_
        refine At.env [(0, .bool false)] ⟨by kernel_rfl, trivial⟩ ?_
        refine at_then_normal ?_
        refine at_ret (by kernel_rfl) ?_
        obtain rfl := someE H
        refine at_backR [.bool false] (Γ) (rs := [.tmp 0]) (by kernel_rfl) (.cons (.tmp (by kernel_rfl)) .nil) (fun w hw => (Sat.less (.drop .here .refl) hw)) ?_
        exact ⟨rfl, rfl⟩
    · replace H := bifF H h2
      refine s_pure 14 (.bool false) (by kernel_rfl) (by kernel_rfl) (run_eq (v := .bool (y2_9.1)) (fun _ => by kernel_rfl) (congrArg Value.bool h2)) ?_
      refine s_pass 15 (by kernel_rfl) (by kernel_rfl) ?_
      refine s_pass 16 (by kernel_rfl) (by kernel_rfl) ?_
      refine s_pass 17 (by kernel_rfl) (by kernel_rfl) ?_
      refine s_pure 18 (.bool false) (by kernel_rfl) (by kernel_rfl) (fun _ => by kernel_rfl) ?_
      refine s_pure 19 (.bool false) (by kernel_rfl) (by kernel_rfl) (fun _ => by kernel_rfl) ?_
      refine s_pass 20 (by kernel_rfl) (by kernel_rfl) ?_
      refine s_pass 21 (by kernel_rfl) (by kernel_rfl) ?_
      refine s_pass 22 (by kernel_rfl) (by kernel_rfl) ?_
      refine s_pure 23 (.bool false) (by kernel_rfl) (by kernel_rfl) (fun _ => by kernel_rfl) ?_
      refine s_pure 0 (.bool false) (by kernel_rfl) (by kernel_rfl) (fun _ => by kernel_rfl) ?_
      refine ops_end ?_
      refine At.env [(0, .bool false)] ⟨by kernel_rfl, trivial⟩ ?_
      refine at_then_normal ?_
      refine at_ret (by kernel_rfl) ?_
      obtain rfl := someE H
      refine at_backR [.bool false] (Γ) (rs := [.tmp 0]) (by kernel_rfl) (.cons (.tmp (by kernel_rfl)) .nil) (fun w hw => (Sat.less (.drop .here .refl) hw)) ?_
      exact ⟨rfl, rfl⟩
  · replace H := bifF H h1
    refine s_pure 10 (.bool false) (by kernel_rfl) (by kernel_rfl) (run_eq (v := .bool (decide (y2_4 = ((-1) : Int)))) (fun _ => by kernel_rfl) (congrArg Value.bool h1)) ?_
    refine s_pass 11 (by kernel_rfl) (by kernel_rfl) ?_
    refine s_pass 12 (by kernel_rfl) (by kernel_rfl) ?_
    refine s_pure 13 (.bool false) (by kernel_rfl) (by kernel_rfl) (fun _ => by kernel_rfl) ?_
    refine s_pure 14 (.bool false) (by kernel_rfl) (by kernel_rfl) (fun _ => by kernel_rfl) ?_
    refine s_pass 15 (by kernel_rfl) (by kernel_rfl) ?_
    refine s_pass 16 (by kernel_rfl) (by kernel_rfl) ?_
    refine s_pass 17 (by kernel_rfl) (by kernel_rfl) ?_
    refine s_pure 18 (.bool false) (by kernel_rfl) (by kernel_rfl) (fun _ => by kernel_rfl) ?_
    refine s_pure 19 (.bool false) (by kernel_rfl) (by kernel_rfl) (fun _ => by kernel_rfl) ?_
    refine s_pass 20 (by kernel_rfl) (by kernel_rfl) ?_
    refine s_pass 21 (by kernel_rfl) (by kernel_rfl) ?_
    refine s_pass 22 (by kernel_rfl) (by kernel_rfl) ?_
    refine s_pure 23 (.bool false) (by kernel_rfl) (by kernel_rfl) (fun _ => by kernel_rfl) ?_
    refine s_pure 0 (.bool false) (by kernel_rfl) (by kernel_rfl) (fun _ => by kernel_rfl) ?_
    refine ops_end ?_
    refine At.env [(0, .bool false)] ⟨by kernel_rfl, trivial⟩ ?_
    refine at_then_normal ?_
    refine at_ret (by kernel_rfl) ?_
    obtain rfl := someE H
    refine at_backR [.bool false] (Γ) (rs := [.tmp 0]) (by kernel_rfl) (.cons (.tmp (by kernel_rfl)) .nil) (fun w hw => (Sat.less (.drop .here .refl) hw)) ?_
    exact ⟨rfl, rfl⟩
def turnsFairS_k3 (v1_67 : Int) (r1 : Int → TurnsS → Option (Bool)) (e3_74 : Int) (e3_b1_0 : TurnsS) : Option (Bool) :=
  (twaitingS e3_b1_0 v1_67).bind fun y31_2 => (bif !(decide (y31_2 = (0 : Int))) then some false else (townerS e3_b1_0 v1_67).bind fun y31_7 => (bif !(decide (y31_7 = ((-1) : Int))) then some false else chk (inR (v1_67 + (1 : Int))) (r1 (v1_67 + (1 : Int)) e3_b1_0)))
def turnsFairS_l3 (e0_b4_0 : List (List Int)) (v1_67 : Int) (k3 : Int → TurnsS → Option (Bool)) : Nat → Int → TurnsS → Option (Bool)
  | 0 => fun _ _ => none
  | m + 1 => fun v3_74 v3_b1_0 => (bif decide (v3_74 < (((List.length (lget e0_b4_0 v1_67)) : Nat) : Int)) then chk (0 ≤ v3_74 ∧ v3_74 < (((lget e0_b4_0 v1_67).length : Nat) : Int)) ((townerS v3_b1_0 v1_67).bind fun y20_2 => (bif !(decide (y20_2 = (nth (lget e0_b4_0 v1_67) v3_74))) then some false else chk ((0 ≤ v1_67 ∧ v1_67 < (3 : Int)) ∧ 0 ≤ v1_67 ∧ v1_67 < ((e0_b4_0.length : Nat) : Int)) (letP (wr ((((List.length (lget e0_b4_0 v1_67)) : Nat) : Int) - (1 : Int))) fun u20_13 => (twaitingS v3_b1_0 v1_67).bind fun y20_8 => (bif !(decide (y20_8 = (wr (u20_13 - v3_74)))) then some false else (tnextS v3_b1_0 v1_67).bind fun y22_2 => (bif y22_2.2.2.1 then some false else letP (wr ((nth (lget e0_b4_0 v1_67) v3_74) + (1 : Int))) fun u25_3 => (treleaseS y22_2.2.2.2 v1_67 u25_3).bind fun y25_4 => (bif !(decide (y25_4.1 = (6 : Int))) then some false else (treleaseS y25_4.2 v1_67 (nth (lget e0_b4_0 v1_67) v3_74)).bind fun y25_10 => (bif !(decide (y25_10.1 = (0 : Int))) then some false else (townerS y25_10.2 v1_67).bind fun y25_16 => (bif !(decide (y25_16 = ((-1) : Int))) then some false else (tnextS y25_10.2 v1_67).bind fun y27_2 => chk (inR (v3_74 + (1 : Int))) (chk ((0 ≤ v1_67 ∧ v1_67 < (3 : Int)) ∧ 0 ≤ v1_67 ∧ v1_67 < ((e0_b4_0.length : Nat) : Int)) ((bif !(y27_2.2.2.1 == (decide ((v3_74 + (1 : Int)) < (((List.length (lget e0_b4_0 v1_67)) : Nat) : Int)))) then some false else (bif y27_2.2.2.1 then chk ((0 ≤ v1_67 ∧ v1_67 < (3 : Int)) ∧ 0 ≤ v1_67 ∧ v1_67 < ((e0_b4_0.length : Nat) : Int)) (chk (inR (v3_74 + (1 : Int))) (chk (0 ≤ (v3_74 + (1 : Int)) ∧ (v3_74 + (1 : Int)) < (((lget e0_b4_0 v1_67).length : Nat) : Int)) ((bif !(decide (y27_2.1 = (nth (lget e0_b4_0 v1_67) (v3_74 + (1 : Int))))) then some false else chk (inR (v3_74 + (1 : Int))) ((turnsFairS_l3 e0_b4_0 v1_67 k3 m) (v3_74 + (1 : Int)) y27_2.2.2.2))))) else chk (inR (v3_74 + (1 : Int))) ((turnsFairS_l3 e0_b4_0 v1_67 k3 m) (v3_74 + (1 : Int)) y27_2.2.2.2))))))))))))) else k3 v3_74 v3_b1_0)
def turnsFairS_k1 (e1_67 : Int) (e1_b1_0 : TurnsS) : Option (Bool) :=
  (treadyS e1_b1_0).bind fun y34_1 => (bif decide ((((List.length y34_1) : Nat) : Int) = (0 : Int)) then (wakes10S).bind fun y34_5 => some y34_5 else some false)
def turnsFairS_l1 (e0_b4_0 : List (List Int)) (k1 : Int → TurnsS → Option (Bool)) : Nat → Int → TurnsS → Option (Bool)
  | 0 => fun _ _ => none
  | m + 1 => fun v1_67 v1_b1_0 => (bif decide (v1_67 < (3 : Int)) then chk ((0 ≤ v1_67 ∧ v1_67 < (3 : Int)) ∧ 0 ≤ v1_67 ∧ v1_67 < ((e0_b4_0.length : Nat) : Int)) (turnsFairS_l3 e0_b4_0 v1_67 (turnsFairS_k3 v1_67 (turnsFairS_l1 e0_b4_0 k1 m)) 64 0 v1_b1_0) else k1 v1_67 v1_b1_0)
def turnsFairS_k0 (e0_7 : Int) (e0_b4_0 : List (List Int)) (e0_b1_0 : TurnsS) : Option (Bool) :=
  turnsFairS_l1 e0_b4_0 (turnsFairS_k1 ) 64 0 e0_b1_0
def turnsFairS_l0 (asks : List Int) (lines : List Int) (k0 : Int → (List (List Int)) → TurnsS → Option (Bool)) : Nat → Int → (List (List Int)) → TurnsS → Option (Bool)
  | 0 => fun _ _ _ => none
  | m + 1 => fun v0_7 v0_b4_0 v0_b1_0 => (bif decide (v0_7 < (((List.length asks) : Nat) : Int)) then (bif decide (v0_7 < (20 : Int)) then (bif decide (v0_7 < (((List.length lines) : Nat) : Int)) then chk (0 ≤ v0_7 ∧ v0_7 < ((lines.length : Nat) : Int)) ((withinS (nth lines v0_7) (3 : Int)).bind fun y10_4 => chk (0 ≤ v0_7 ∧ v0_7 < ((asks.length : Nat) : Int)) ((withinS (nth asks v0_7) (9 : Int)).bind fun y11_6 => chk ((0 ≤ y10_4 ∧ y10_4 < (3 : Int)) ∧ 0 ≤ y10_4 ∧ y10_4 < ((v0_b4_0.length : Nat) : Int)) ((taskS v0_b1_0 y10_4 y11_6 v0_7).bind fun y11_8 => (bif !(y11_8.1 == (decide ((((List.length (lget v0_b4_0 y10_4)) : Nat) : Int) = (0 : Int)))) then some false else chk ((0 ≤ y10_4 ∧ y10_4 < (3 : Int)) ∧ 0 ≤ y10_4 ∧ y10_4 < ((v0_b4_0.length : Nat) : Int)) (chk (0 ≤ v0_7 ∧ v0_7 < ((asks.length : Nat) : Int)) ((withinS (nth asks v0_7) (9 : Int)).bind fun y13_8 => letP ([y13_8] : List Int) fun l13_9 => chk (((lget v0_b4_0 y10_4) ++ l13_9).length ≤ 1099511627776) (letP ((lget v0_b4_0 y10_4) ++ l13_9) fun l13_10 => chk ((0 ≤ y10_4 ∧ y10_4 < (3 : Int)) ∧ 0 ≤ y10_4 ∧ y10_4 < ((v0_b4_0.length : Nat) : Int)) (letP (lset v0_b4_0 y10_4 l13_10) fun ls13_12 => chk (inR (v0_7 + (1 : Int))) ((turnsFairS_l0 asks lines k0 m) (v0_7 + (1 : Int)) ls13_12 y11_8.2))))))))) else chk (0 ≤ v0_7 ∧ v0_7 < ((asks.length : Nat) : Int)) ((withinS (nth asks v0_7) (9 : Int)).bind fun y11_6 => chk ((0 ≤ (0 : Int) ∧ (0 : Int) < (3 : Int)) ∧ 0 ≤ (0 : Int) ∧ (0 : Int) < ((v0_b4_0.length : Nat) : Int)) ((taskS v0_b1_0 (0 : Int) y11_6 v0_7).bind fun y11_8 => (bif !(y11_8.1 == (decide ((((List.length (lget v0_b4_0 (0 : Int))) : Nat) : Int) = (0 : Int)))) then some false else chk ((0 ≤ (0 : Int) ∧ (0 : Int) < (3 : Int)) ∧ 0 ≤ (0 : Int) ∧ (0 : Int) < ((v0_b4_0.length : Nat) : Int)) (chk (0 ≤ v0_7 ∧ v0_7 < ((asks.length : Nat) : Int)) ((withinS (nth asks v0_7) (9 : Int)).bind fun y13_8 => letP ([y13_8] : List Int) fun l13_9 => chk (((lget v0_b4_0 (0 : Int)) ++ l13_9).length ≤ 1099511627776) (letP ((lget v0_b4_0 (0 : Int)) ++ l13_9) fun l13_10 => chk ((0 ≤ (0 : Int) ∧ (0 : Int) < (3 : Int)) ∧ 0 ≤ (0 : Int) ∧ (0 : Int) < ((v0_b4_0.length : Nat) : Int)) (letP (lset v0_b4_0 (0 : Int) l13_10) fun ls13_12 => chk (inR (v0_7 + (1 : Int))) ((turnsFairS_l0 asks lines k0 m) (v0_7 + (1 : Int)) ls13_12 y11_8.2))))))))) else k0 v0_7 v0_b4_0 v0_b1_0) else k0 v0_7 v0_b4_0 v0_b1_0)
def turnsFairS (asks : List Int) (lines : List Int) : Option (Bool) :=
  (tnewS).bind fun y1_0 => turnsFairS_l0 asks lines (turnsFairS_k0 ) 64 0 (List.replicate 3 [] : List (List Int)) y1_0
noncomputable def C10 (p : List Nat) : Code := codeAt (bodyOf Try.f10) p
set_option maxRecDepth 100000 in
set_option maxHeartbeats 8000000 in
theorem TurnsFairF_tr {W0 : World} {Γ : List Asn} (asksa : Option Addr) (askscap : Nat) (asks : List Int) (linesa : Option Addr) (linescap : Nat) (lines : List Int) (hrasksa : Reads W0 Γ asksa (ints asks)) (hrlinesa : Reads W0 Γ linesa (ints lines)) (y : Bool) (H : turnsFairS asks lines = some y) : Tr Try.prog 10 #[.slice asksa (List.length asks) askscap, .slice linesa (List.length lines) linescap] W0 (Γ) (fun r Δ => r = .bool y ∧ Δ = Γ) := by
  unfold turnsFairS at H
  refine Tr.enter (fn := Try.f10) (c := C10 []) (args := [.slice asksa (List.length asks) askscap, .slice linesa (List.length lines) linescap]) 173 Try.func10 (by kernel_rfl) (by kernel_rfl) ?_
  refine At.env [(0, .slice asksa (List.length asks) askscap), (1, .slice linesa (List.length lines) linescap)] ⟨by kernel_rfl, by kernel_rfl, trivial⟩ ?_
  refine at_seq (x := C10 [0]) (y := C10 [1]) (by kernel_rfl) ?_
  refine at_region (id := 0) 1 (by kernel_rfl) (by kernel_rfl) ?_
  refine s_pure 4 (.bool false) (by kernel_rfl) (by kernel_rfl) (fun _ => by kernel_rfl) ?_
  refine ops_end ?_
  refine At.env [(0, .slice asksa (List.length asks) askscap), (1, .slice linesa (List.length lines) linescap)] ⟨by kernel_rfl, by kernel_rfl, trivial⟩ ?_
  refine at_then_normal ?_
  refine at_seq (x := C10 [1,0]) (y := C10 [1,1]) (by kernel_rfl) ?_
  refine at_region (id := 1) 2 (by kernel_rfl) (by kernel_rfl) ?_
  obtain ⟨y1_0, hy1_0, H⟩ := bindE H
  refine s_call 18 11 #[] (by kernel_rfl) (by kernel_rfl) (fun _ => by kernel_rfl) (TNewF_tr  y1_0 hy1_0) ?_
  rintro _ _ ⟨b1_0, rfl, rfl⟩
  refine s_pure 5 (.pointer (some ⟨b1_0, 0, none⟩)) (by kernel_rfl) (by kernel_rfl) (fun _ => by kernel_rfl) ?_
  refine ops_end ?_
  refine At.env [(0, .slice asksa (List.length asks) askscap), (1, .slice linesa (List.length lines) linescap), (5, .pointer (some ⟨b1_0, 0, none⟩))] ⟨by kernel_rfl, by kernel_rfl, by kernel_rfl, trivial⟩ ?_
  refine at_then_normal ?_
  refine at_seq (x := C10 [1,1,0]) (y := C10 [1,1,1]) (by kernel_rfl) ?_
  refine at_seq (x := C10 [1,1,0,0]) (y := C10 [1,1,0,1]) (by kernel_rfl) ?_
  refine at_region (id := 2) 2 (by kernel_rfl) (by kernel_rfl) ?_
  refine s_pure 19 (.pointer (some ⟨b1_0, 0, none⟩)) (by kernel_rfl) (by kernel_rfl) (fun _ => by kernel_rfl) ?_
  refine s_pure 20 (.bool false) (by kernel_rfl) (by kernel_rfl) (fun _ => by kernel_rfl) ?_
  refine ops_end ?_
  refine At.env [(0, .slice asksa (List.length asks) askscap), (1, .slice linesa (List.length lines) linescap), (5, .pointer (some ⟨b1_0, 0, none⟩)), (20, .bool false)] ⟨by kernel_rfl, by kernel_rfl, by kernel_rfl, by kernel_rfl, trivial⟩ ?_
  refine at_then_normal ?_
  refine at_false (t := false) (x := C10 [1,1,0,1,0]) (y := C10 [1,1,0,1,1]) (o := .tmp 20) (by kernel_rfl) (by kernel_rfl) (by kernel_rfl) rfl ?_
  refine at_skip (by kernel_rfl) ?_
  refine at_then_normal ?_
  refine at_seq (x := C10 [1,1,1,0]) (y := C10 [1,1,1,1]) (by kernel_rfl) ?_
  refine at_region (id := 4) 1 (by kernel_rfl) (by kernel_rfl) ?_
  refine s_step 6 (by kernel_rfl) (by kernel_rfl) (st_new (T := 72) (cells := #[.slice none 0 0, .slice none 0 0, .slice none 0 0]) (fun a => .pointer (some a)) (fun _ => by kernel_rfl)) ?_
  rintro _ _ ⟨b4_0, rfl, rfl⟩
  refine At.conv (Γ' := (ListsA b4_0 72 (List.replicate 3 [] : List (List Int))) :: (TurnsA b1_0 y1_0) :: Γ) (fun w hw => lists_new 3 rfl hw) ?_
  refine ops_end ?_
  refine At.env [(0, .slice asksa (List.length asks) askscap), (1, .slice linesa (List.length lines) linescap), (5, .pointer (some ⟨b1_0, 0, none⟩)), (6, .pointer (some ⟨b4_0, 0, none⟩))] ⟨by kernel_rfl, by kernel_rfl, by kernel_rfl, by kernel_rfl, trivial⟩ ?_
  refine at_then_normal ?_
  refine at_seq (x := C10 [1,1,1,1,0]) (y := C10 [1,1,1,1,1]) (by kernel_rfl) ?_
  refine at_seq (x := C10 [1,1,1,1,0,0]) (y := C10 [1,1,1,1,0,1]) (by kernel_rfl) ?_
  refine at_region (id := 5) 1 (by kernel_rfl) (by kernel_rfl) ?_
  refine s_pure 7 (.int .i64 (0)) (by kernel_rfl) (by kernel_rfl) (fun _ => by kernel_rfl) ?_
  refine ops_end ?_
  refine At.env [(0, .slice asksa (List.length asks) askscap), (1, .slice linesa (List.length lines) linescap), (5, .pointer (some ⟨b1_0, 0, none⟩)), (6, .pointer (some ⟨b4_0, 0, none⟩)), (7, .int .i64 (0))] ⟨by kernel_rfl, by kernel_rfl, by kernel_rfl, by kernel_rfl, by kernel_rfl, trivial⟩ ?_
  refine at_then_normal ?_
  refine at_block (i := 0) (x := C10 [1,1,1,1,0,1,0]) (by kernel_rfl) ?_
  refine At.conv (Γ' := (ListsA b4_0 72 (List.replicate 3 [] : List (List Int))) :: (TurnsA b1_0 y1_0) :: Γ) (fun w hw => (Sat.less (.take .here (.take .here .refl)) hw)) ?_
  refine at_loopR (x := C10 [1,1,1,1,0,1,0,0]) (fun mm ff ΔΔ => ∃ (fuel : Nat) (v0_7 : Int) (v0_b4_0 : List (List Int)) (v0_b1_0 : TurnsS), turnsFairS_l0 asks lines (turnsFairS_k0 ) fuel v0_7 v0_b4_0 v0_b1_0 = some y ∧ fuel = mm ∧ ff = [(0, .slice asksa (List.length asks) askscap), (1, .slice linesa (List.length lines) linescap), (5, .pointer (some ⟨b1_0, 0, none⟩)), (6, .pointer (some ⟨b4_0, 0, none⟩)), (7, .int .i64 v0_7)] ∧ (ListsA b4_0 72 v0_b4_0) :: (TurnsA b1_0 v0_b1_0) :: Γ = ΔΔ) (64) (by kernel_rfl) [(0, .slice asksa (List.length asks) askscap), (1, .slice linesa (List.length lines) linescap), (5, .pointer (some ⟨b1_0, 0, none⟩)), (6, .pointer (some ⟨b4_0, 0, none⟩)), (7, .int .i64 0)] ⟨by kernel_rfl, by kernel_rfl, by kernel_rfl, by kernel_rfl, by kernel_rfl, trivial⟩ ⟨64, 0, (List.replicate 3 [] : List (List Int)), y1_0, H, rfl, rfl, rfl⟩ ?_
  rintro _ _ _ ⟨fuel1, v0_7, v0_b4_0, v0_b1_0, H, rfl, rfl, rfl⟩
  rcases fuel1 with _ | fuel1
  · exact (noneE H).elim
  rw [turnsFairS_l0] at H
  refine at_seq (x := C10 [1,1,1,1,0,1,0,0,0]) (y := C10 [1,1,1,1,0,1,0,0,1]) (by kernel_rfl) ?_
  refine at_seq (x := C10 [1,1,1,1,0,1,0,0,0,0]) (y := C10 [1,1,1,1,0,1,0,0,0,1]) (by kernel_rfl) ?_
  refine at_region (id := 6) 8 (by kernel_rfl) (by kernel_rfl) ?_
  refine s_pure 21 (.int .i64 v0_7) (by kernel_rfl) (by kernel_rfl) (fun _ => by kernel_rfl) ?_
  refine s_pure 22 (.slice asksa (List.length asks) askscap) (by kernel_rfl) (by kernel_rfl) (fun _ => by kernel_rfl) ?_
  refine s_pure 23 (.int .i64 (((List.length asks) : Nat) : Int)) (by kernel_rfl) (by kernel_rfl) (fun _ => by kernel_rfl) ?_
  refine s_pure 24 (.bool (decide (v0_7 < (((List.length asks) : Nat) : Int)))) (by kernel_rfl) (by kernel_rfl) (fun _ => by kernel_rfl) ?_
  rcases Bool.eq_false_or_eq_true (decide (v0_7 < (((List.length asks) : Nat) : Int))) with h1 | h1
  · replace H := bifT H h1
    refine s_pure 25 (.bool true) (by kernel_rfl) (by kernel_rfl) (run_eq (v := .bool (decide (v0_7 < (((List.length asks) : Nat) : Int)))) (fun _ => by kernel_rfl) (congrArg Value.bool h1)) ?_
    refine s_pure 26 (.int .i64 v0_7) (by kernel_rfl) (by kernel_rfl) (fun _ => by kernel_rfl) ?_
    refine s_pure 27 (.bool (decide (v0_7 < (20 : Int)))) (by kernel_rfl) (by kernel_rfl) (fun _ => by kernel_rfl) ?_
    refine s_pure 28 (.bool (decide (v0_7 < (20 : Int)))) (by kernel_rfl) (by kernel_rfl) (fun _ => by kernel_rfl) ?_
    refine ops_end ?_
    refine At.env [(0, .slice asksa (List.length asks) askscap), (1, .slice linesa (List.length lines) linescap), (5, .pointer (some ⟨b1_0, 0, none⟩)), (6, .pointer (some ⟨b4_0, 0, none⟩)), (7, .int .i64 v0_7), (28, .bool (decide (v0_7 < (20 : Int))))] ⟨by kernel_rfl, by kernel_rfl, by kernel_rfl, by kernel_rfl, by kernel_rfl, by kernel_rfl, trivial⟩ ?_
    refine at_then_normal ?_
    rcases Bool.eq_false_or_eq_true (decide (v0_7 < (20 : Int))) with h2 | h2
    · replace H := bifT H h2
      refine at_true (t := decide (v0_7 < (20 : Int))) (x := C10 [1,1,1,1,0,1,0,0,0,1,0]) (y := C10 [1,1,1,1,0,1,0,0,0,1,1]) (o := .tmp 28) (by kernel_rfl) (by kernel_rfl) (by kernel_rfl) h2 ?_
      refine at_skip (by kernel_rfl) ?_
      refine at_then_normal ?_
      refine at_seq (x := C10 [1,1,1,1,0,1,0,0,1,0]) (y := C10 [1,1,1,1,0,1,0,0,1,1]) (by kernel_rfl) ?_
      refine at_block (i := 1) (x := C10 [1,1,1,1,0,1,0,0,1,0,0]) (by kernel_rfl) ?_
      refine at_seq (x := C10 [1,1,1,1,0,1,0,0,1,0,0,0]) (y := C10 [1,1,1,1,0,1,0,0,1,0,0,1]) (by kernel_rfl) ?_
      refine at_region (id := 8) 1 (by kernel_rfl) (by kernel_rfl) ?_
      refine s_pure 8 (.int .i64 (0)) (by kernel_rfl) (by kernel_rfl) (fun _ => by kernel_rfl) ?_
      refine ops_end ?_
      refine At.env [(0, .slice asksa (List.length asks) askscap), (1, .slice linesa (List.length lines) linescap), (5, .pointer (some ⟨b1_0, 0, none⟩)), (6, .pointer (some ⟨b4_0, 0, none⟩)), (7, .int .i64 v0_7), (8, .int .i64 (0))] ⟨by kernel_rfl, by kernel_rfl, by kernel_rfl, by kernel_rfl, by kernel_rfl, by kernel_rfl, trivial⟩ ?_
      refine at_then_normal ?_
      refine at_seq (x := C10 [1,1,1,1,0,1,0,0,1,0,0,1,0]) (y := C10 [1,1,1,1,0,1,0,0,1,0,0,1,1]) (by kernel_rfl) ?_
      refine at_seq (x := C10 [1,1,1,1,0,1,0,0,1,0,0,1,0,0]) (y := C10 [1,1,1,1,0,1,0,0,1,0,0,1,0,1]) (by kernel_rfl) ?_
      refine at_region (id := 9) 4 (by kernel_rfl) (by kernel_rfl) ?_
      refine s_pure 31 (.int .i64 v0_7) (by kernel_rfl) (by kernel_rfl) (fun _ => by kernel_rfl) ?_
      refine s_pure 32 (.slice linesa (List.length lines) linescap) (by kernel_rfl) (by kernel_rfl) (fun _ => by kernel_rfl) ?_
      refine s_pure 33 (.int .i64 (((List.length lines) : Nat) : Int)) (by kernel_rfl) (by kernel_rfl) (fun _ => by kernel_rfl) ?_
      refine s_pure 34 (.bool (decide (v0_7 < (((List.length lines) : Nat) : Int)))) (by kernel_rfl) (by kernel_rfl) (fun _ => by kernel_rfl) ?_
      refine ops_end ?_
      refine At.env [(0, .slice asksa (List.length asks) askscap), (1, .slice linesa (List.length lines) linescap), (5, .pointer (some ⟨b1_0, 0, none⟩)), (6, .pointer (some ⟨b4_0, 0, none⟩)), (7, .int .i64 v0_7), (8, .int .i64 (0)), (34, .bool (decide (v0_7 < (((List.length lines) : Nat) : Int))))] ⟨by kernel_rfl, by kernel_rfl, by kernel_rfl, by kernel_rfl, by kernel_rfl, by kernel_rfl, by kernel_rfl, trivial⟩ ?_
      refine at_then_normal ?_
      rcases Bool.eq_false_or_eq_true (decide (v0_7 < (((List.length lines) : Nat) : Int))) with h3 | h3
      · replace H := bifT H h3
        refine at_true (t := decide (v0_7 < (((List.length lines) : Nat) : Int))) (x := C10 [1,1,1,1,0,1,0,0,1,0,0,1,0,1,0]) (y := C10 [1,1,1,1,0,1,0,0,1,0,0,1,0,1,1]) (o := .tmp 34) (by kernel_rfl) (by kernel_rfl) (by kernel_rfl) h3 ?_
        refine at_region (id := 10) 6 (by kernel_rfl) (by kernel_rfl) ?_
        refine s_pure 35 (.slice linesa (List.length lines) linescap) (by kernel_rfl) (by kernel_rfl) (fun _ => by kernel_rfl) ?_
        refine s_pure 36 (.int .i64 v0_7) (by kernel_rfl) (by kernel_rfl) (fun _ => by kernel_rfl) ?_
        obtain ⟨hc10_2_0, H⟩ := chkE H
        refine reads_at (Reads.conv (fun w hw => hw.less (.drop .here (.drop .here .refl))) hrlinesa) (by have := hc10_2_0; omega) ?_
        intro bb1 oo1 ha1
        refine s_pure 37 (.pointer (some ⟨bb1, oo1 + ((v0_7).toNat * 1 + 0), none⟩)) (by kernel_rfl) (by kernel_rfl) (index_at (t := 22) (sz := 1) (E := 3) (a := linesa) (m := (List.length lines)) (c := linescap) (b := bb1) (off := oo1) (i := (v0_7).toNat) (tinfo 3) (fun _ => by kernel_rfl) (by kernel_rfl) (by kernel_rfl) (by kernel_rfl) ha1 (idx_cast hc10_2_0) (idx_nat hc10_2_0) rfl) ?_
        refine s_load 38 (.int .i64 (nth lines v0_7)) (by kernel_rfl) (by kernel_rfl) (load1_at (off := oo1 + ((v0_7).toNat * 1 + 0)) (v := .int .i64 (nth lines v0_7)) (fun _ => by kernel_rfl) rfl (reads_cell (k := 1) (Reads.conv (fun w hw => hw.less (.drop .here (.drop .here .refl))) hrlinesa) (ints_rows _) ha1 (nth_row hc10_2_0) (show [(.int .i64 (nth lines v0_7) : Value)][0]? = some _ from rfl))) ?_
        obtain ⟨y10_4, hy10_4, H⟩ := bindE H
        refine s_quiet 39 (.int .i64 y10_4) 12 #[.int .i64 (nth lines v0_7), .int .i64 (3)] (by kernel_rfl) (by kernel_rfl) (fun _ => by kernel_rfl) (WithinF_tr (nth lines v0_7) (3 : Int) y10_4 hy10_4) ?_
        refine s_pure 8 (.int .i64 y10_4) (by kernel_rfl) (by kernel_rfl) (fun _ => by kernel_rfl) ?_
        refine ops_end ?_
        refine At.env [(0, .slice asksa (List.length asks) askscap), (1, .slice linesa (List.length lines) linescap), (5, .pointer (some ⟨b1_0, 0, none⟩)), (6, .pointer (some ⟨b4_0, 0, none⟩)), (7, .int .i64 v0_7), (8, .int .i64 y10_4)] ⟨by kernel_rfl, by kernel_rfl, by kernel_rfl, by kernel_rfl, by kernel_rfl, by kernel_rfl, trivial⟩ ?_
        refine at_then_normal ?_
        refine at_seq (x := C10 [1,1,1,1,0,1,0,0,1,0,0,1,1,0]) (y := C10 [1,1,1,1,0,1,0,0,1,0,0,1,1,1]) (by kernel_rfl) ?_
        refine at_seq (x := C10 [1,1,1,1,0,1,0,0,1,0,0,1,1,0,0]) (y := C10 [1,1,1,1,0,1,0,0,1,0,0,1,1,0,1]) (by kernel_rfl) ?_
        refine at_region_draw (id := 11) (by kernel_rfl) (by kernel_rfl) ?_
        refine d_pure 0 40 (.pointer (some ⟨b1_0, 0, none⟩)) (by kernel_rfl) (by kernel_rfl) (by kernel_rfl) (fun _ => by kernel_rfl) ?_
        refine d_pure 1 41 (.int .i64 y10_4) (by kernel_rfl) (by kernel_rfl) (by kernel_rfl) (fun _ => by kernel_rfl) ?_
        refine d_pure 2 42 (.slice asksa (List.length asks) askscap) (by kernel_rfl) (by kernel_rfl) (by kernel_rfl) (fun _ => by kernel_rfl) ?_
        refine d_pure 3 43 (.int .i64 v0_7) (by kernel_rfl) (by kernel_rfl) (by kernel_rfl) (fun _ => by kernel_rfl) ?_
        obtain ⟨hc11_4_0, H⟩ := chkE H
        refine reads_at_draw (Reads.conv (fun w hw => hw.less (.drop .here (.drop .here .refl))) hrasksa) (by have := hc11_4_0; omega) ?_
        intro bb2 oo2 ha2
        refine d_pure 4 44 (.pointer (some ⟨bb2, oo2 + ((v0_7).toNat * 1 + 0), none⟩)) (by kernel_rfl) (by kernel_rfl) (by kernel_rfl) (index_at (t := 22) (sz := 1) (E := 3) (a := asksa) (m := (List.length asks)) (c := askscap) (b := bb2) (off := oo2) (i := (v0_7).toNat) (tinfo 3) (fun _ => by kernel_rfl) (by kernel_rfl) (by kernel_rfl) (by kernel_rfl) ha2 (idx_cast hc11_4_0) (idx_nat hc11_4_0) rfl) ?_
        refine d_load 5 45 (.int .i64 (nth asks v0_7)) (by kernel_rfl) (by kernel_rfl) (by kernel_rfl) (load1_at (off := oo2 + ((v0_7).toNat * 1 + 0)) (v := .int .i64 (nth asks v0_7)) (fun _ => by kernel_rfl) rfl (reads_cell (k := 1) (Reads.conv (fun w hw => hw.less (.drop .here (.drop .here .refl))) hrasksa) (ints_rows _) ha2 (nth_row hc11_4_0) (show [(.int .i64 (nth asks v0_7) : Value)][0]? = some _ from rfl))) ?_
        obtain ⟨y11_6, hy11_6, H⟩ := bindE H
        refine d_quiet 6 46 (.int .i64 y11_6) 12 #[.int .i64 (nth asks v0_7), .int .i64 (9)] (by kernel_rfl) (by kernel_rfl) (by kernel_rfl) (fun _ => by kernel_rfl) (fun _ => (WithinF_tr (nth asks v0_7) (9 : Int) y11_6 hy11_6)) ?_
        refine d_pure 7 47 (.int .i64 v0_7) (by kernel_rfl) (by kernel_rfl) (by kernel_rfl) (fun _ => by kernel_rfl) ?_
        refine d_pure 9 49 (.int .i64 y10_4) (by kernel_rfl) (by kernel_rfl) (by kernel_rfl) (fun _ => by kernel_rfl) ?_
        obtain ⟨hc11_10_0, H⟩ := chkE H
        refine d_pure 10 50 (.pointer (some ⟨b4_0, (y10_4).toNat, none⟩)) (by kernel_rfl) (by kernel_rfl) (by kernel_rfl) (index_arr (t := 72) (E := 22) (m := 3) (tinfo 22) (fun _ => by kernel_rfl) (by kernel_rfl) (by kernel_rfl) (by kernel_rfl) hc11_10_0.1) ?_
        refine Draw.lfocus hc11_10_0.2 .here ?_
        intro a11_11 c11_11
        refine d_load 11 51 (.slice a11_11 (List.length (lget v0_b4_0 y10_4)) c11_11) (by kernel_rfl) (by kernel_rfl) (by kernel_rfl) (lists_load (i := y10_4) (fun _ => by kernel_rfl) (.there .here)) ?_
        refine d_pure 12 52 (.int .i64 (((List.length (lget v0_b4_0 y10_4)) : Nat) : Int)) (by kernel_rfl) (by kernel_rfl) (by kernel_rfl) (fun _ => by kernel_rfl) ?_
        refine d_pure 13 53 (.bool (decide ((((List.length (lget v0_b4_0 y10_4)) : Nat) : Int) = (0 : Int)))) (by kernel_rfl) (by kernel_rfl) (by kernel_rfl) (fun _ => by kernel_rfl) ?_
        obtain ⟨y11_8, hy11_8, H⟩ := bindE H
        refine d_call 8 48 [0, 1, 6, 7, 5, 4, 2, 3] [13, 12, 10, 9] [11] 13 #[.pointer (some ⟨b1_0, 0, none⟩), .int .i64 y10_4, .int .i64 y11_6, .int .i64 v0_7] (by kernel_rfl) (by kernel_rfl) (by kernel_rfl) (fun _ => by kernel_rfl) (Tr.conv (Γ' := (TurnsA b1_0 v0_b1_0) :: (IntsA a11_11 c11_11 (lget v0_b4_0 y10_4)) :: (ListsX b4_0 72 v0_b4_0 y10_4 a11_11 c11_11) :: Γ) (fun w hw => (Sat.less (.take (.there (.there .here)) (.take .here (.take .here .refl))) hw)) (TAskF_tr b1_0 v0_b1_0 y10_4 y11_6 v0_7 y11_8 hy11_8)) ?_
        rintro _ _ ⟨rfl, rfl⟩
        refine ⟨(stable_cons 11 51 (.slice a11_11 (List.length (lget v0_b4_0 y10_4)) c11_11) (by kernel_rfl) (by kernel_rfl) (by kernel_rfl) (lists_load (i := y10_4) (fun _ => by kernel_rfl) (.there (.there .here))) stable_nil), ?_⟩
        refine d_pure 14 54 (.bool (!(y11_8.1 == (decide ((((List.length (lget v0_b4_0 y10_4)) : Nat) : Int) = (0 : Int)))))) (by kernel_rfl) (by kernel_rfl) (by kernel_rfl) (fun _ => by kernel_rfl) ?_
        refine draw_end (by kernel_rfl) ?_
        refine At.env [(0, .slice asksa (List.length asks) askscap), (1, .slice linesa (List.length lines) linescap), (5, .pointer (some ⟨b1_0, 0, none⟩)), (6, .pointer (some ⟨b4_0, 0, none⟩)), (7, .int .i64 v0_7), (8, .int .i64 y10_4), (40, .pointer (some ⟨b1_0, 0, none⟩)), (41, .int .i64 y10_4), (42, .slice asksa (List.length asks) askscap), (43, .int .i64 v0_7), (44, .pointer (some ⟨bb2, oo2 + ((v0_7).toNat * 1 + 0), none⟩)), (45, .int .i64 (nth asks v0_7)), (46, .int .i64 y11_6), (47, .int .i64 v0_7), (48, .bool y11_8.1), (49, .int .i64 y10_4), (50, .pointer (some ⟨b4_0, (y10_4).toNat, none⟩)), (51, .slice a11_11 (List.length (lget v0_b4_0 y10_4)) c11_11), (52, .int .i64 (((List.length (lget v0_b4_0 y10_4)) : Nat) : Int)), (53, .bool (decide ((((List.length (lget v0_b4_0 y10_4)) : Nat) : Int) = (0 : Int)))), (54, .bool (!(y11_8.1 == (decide ((((List.length (lget v0_b4_0 y10_4)) : Nat) : Int) = (0 : Int))))))] ⟨by kernel_rfl, by kernel_rfl, by kernel_rfl, by kernel_rfl, by kernel_rfl, by kernel_rfl, by kernel_rfl, by kernel_rfl, by kernel_rfl, by kernel_rfl, by kernel_rfl, by kernel_rfl, by kernel_rfl, by kernel_rfl, by kernel_rfl, by kernel_rfl, by kernel_rfl, by kernel_rfl, by kernel_rfl, by kernel_rfl, by kernel_rfl, trivial⟩ ?_
        refine at_then_normal ?_
        rcases Bool.eq_false_or_eq_true (!(y11_8.1 == (decide ((((List.length (lget v0_b4_0 y10_4)) : Nat) : Int) = (0 : Int))))) with h4 | h4
        · replace H := bifT H h4
          refine at_true (t := !(y11_8.1 == (decide ((((List.length (lget v0_b4_0 y10_4)) : Nat) : Int) = (0 : Int))))) (x := C10 [1,1,1,1,0,1,0,0,1,0,0,1,1,0,1,0]) (y := C10 [1,1,1,1,0,1,0,0,1,0,0,1,1,0,1,1]) (o := .tmp 54) (by kernel_rfl) (by kernel_rfl) (by kernel_rfl) h4 ?_
          refine at_seq (x := C10 [1,1,1,1,0,1,0,0,1,0,0,1,1,0,1,0,0]) (y := C10 [1,1,1,1,0,1,0,0,1,0,0,1,1,0,1,0,1]) (by kernel_rfl) ?_
          refine at_region (id := 12) 1 (by kernel_rfl) (by kernel_rfl) ?_
          refine s_pure 4 (.bool false) (by kernel_rfl) (by kernel_rfl) (fun _ => by kernel_rfl) ?_
          refine ops_end ?_
          refine At.env [(4, .bool false)] ⟨by kernel_rfl, trivial⟩ ?_
          refine at_then_normal ?_
          refine at_ret (by kernel_rfl) ?_
          refine at_then_ret ?_
          refine at_in_ret ?_
          refine at_then_ret ?_
          refine at_then_ret ?_
          refine at_in_ret ?_
          refine at_then_ret ?_
          obtain rfl := someE H
          refine at_backR [.bool false] (Γ) (rs := [.tmp 4]) (by kernel_rfl) (.cons (.tmp (by kernel_rfl)) .nil) (fun w hw => (Sat.less (.drop .here (.drop .here (.drop .here .refl))) hw)) ?_
          exact ⟨rfl, rfl⟩
        · replace H := bifF H h4
          refine at_false (t := !(y11_8.1 == (decide ((((List.length (lget v0_b4_0 y10_4)) : Nat) : Int) = (0 : Int))))) (x := C10 [1,1,1,1,0,1,0,0,1,0,0,1,1,0,1,0]) (y := C10 [1,1,1,1,0,1,0,0,1,0,0,1,1,0,1,1]) (o := .tmp 54) (by kernel_rfl) (by kernel_rfl) (by kernel_rfl) h4 ?_
          refine at_skip (by kernel_rfl) ?_
          refine at_then_normal ?_
          refine at_region_draw (id := 13) (by kernel_rfl) (by kernel_rfl) ?_
          refine d_pure 0 55 (.int .i64 y10_4) (by kernel_rfl) (by kernel_rfl) (by kernel_rfl) (fun _ => by kernel_rfl) ?_
          refine d_pure 1 56 (.int .i64 y10_4) (by kernel_rfl) (by kernel_rfl) (by kernel_rfl) (fun _ => by kernel_rfl) ?_
          obtain ⟨hc13_2_0, H⟩ := chkE H
          refine d_pure 2 57 (.pointer (some ⟨b4_0, (y10_4).toNat, none⟩)) (by kernel_rfl) (by kernel_rfl) (by kernel_rfl) (index_arr (t := 72) (E := 22) (m := 3) (tinfo 22) (fun _ => by kernel_rfl) (by kernel_rfl) (by kernel_rfl) (by kernel_rfl) hc13_2_0.1) ?_
          refine d_load 3 58 (.slice a11_11 (List.length (lget v0_b4_0 y10_4)) c11_11) (by kernel_rfl) (by kernel_rfl) (by kernel_rfl) (lists_load (i := y10_4) (fun _ => by kernel_rfl) (.there (.there .here))) ?_
          refine d_pure 4 59 (.slice asksa (List.length asks) askscap) (by kernel_rfl) (by kernel_rfl) (by kernel_rfl) (fun _ => by kernel_rfl) ?_
          refine d_pure 5 60 (.int .i64 v0_7) (by kernel_rfl) (by kernel_rfl) (by kernel_rfl) (fun _ => by kernel_rfl) ?_
          obtain ⟨hc13_6_0, H⟩ := chkE H
          refine reads_at_draw (Reads.conv (fun w hw => hw.less (.drop .here (.drop .here (.drop .here .refl)))) hrasksa) (by have := hc13_6_0; omega) ?_
          intro bb3 oo3 ha3
          refine d_pure 6 61 (.pointer (some ⟨bb3, oo3 + ((v0_7).toNat * 1 + 0), none⟩)) (by kernel_rfl) (by kernel_rfl) (by kernel_rfl) (index_at (t := 22) (sz := 1) (E := 3) (a := asksa) (m := (List.length asks)) (c := askscap) (b := bb3) (off := oo3) (i := (v0_7).toNat) (tinfo 3) (fun _ => by kernel_rfl) (by kernel_rfl) (by kernel_rfl) (by kernel_rfl) ha3 (idx_cast hc13_6_0) (idx_nat hc13_6_0) rfl) ?_
          refine d_load 7 62 (.int .i64 (nth asks v0_7)) (by kernel_rfl) (by kernel_rfl) (by kernel_rfl) (load1_at (off := oo3 + ((v0_7).toNat * 1 + 0)) (v := .int .i64 (nth asks v0_7)) (fun _ => by kernel_rfl) rfl (reads_cell (k := 1) (Reads.conv (fun w hw => hw.less (.drop .here (.drop .here (.drop .here .refl)))) hrasksa) (ints_rows _) ha3 (nth_row hc13_6_0) (show [(.int .i64 (nth asks v0_7) : Value)][0]? = some _ from rfl))) ?_
          obtain ⟨y13_8, hy13_8, H⟩ := bindE H
          refine d_quiet 8 63 (.int .i64 y13_8) 12 #[.int .i64 (nth asks v0_7), .int .i64 (9)] (by kernel_rfl) (by kernel_rfl) (by kernel_rfl) (fun _ => by kernel_rfl) (fun _ => (WithinF_tr (nth asks v0_7) (9 : Int) y13_8 hy13_8)) ?_
          obtain ⟨l13_9, hl13_9, H⟩ := letE H
          refine d_step 9 64 [8, 7, 6, 4, 5] [2, 1, 0] [3] (by kernel_rfl) (by kernel_rfl) (by kernel_rfl) (st_new_ints (T := 3) (xs := l13_9) 1 hl13_9 (fun _ => by kernel_rfl) (by kernel_rfl)) ?_
          rintro _ _ ⟨b13_9, rfl, rfl⟩
          refine ⟨(stable_cons 3 58 (.slice a11_11 (List.length (lget v0_b4_0 y10_4)) c11_11) (by kernel_rfl) (by kernel_rfl) (by kernel_rfl) (lists_load (i := y10_4) (fun _ => by kernel_rfl) (.there (.there (.there .here)))) stable_nil), ?_⟩
          obtain ⟨hc13_10_0, H⟩ := chkE H
          obtain ⟨l13_10, hl13_10, H⟩ := letE H
          refine d_step 10 65 [3, 9, 8, 2, 7, 1, 6, 4, 5] [0] [] (by kernel_rfl) (by kernel_rfl) (by kernel_rfl) (st_append_ints (xs := lget v0_b4_0 y10_4) (ys := l13_9) (zs := l13_10) (m1 := (List.length (lget v0_b4_0 y10_4))) (m2 := (List.length l13_9)) (m := List.length l13_10) (cap2 := 1) 22 22 3 (tinfo 3) (fun _ => by kernel_rfl) (by kernel_rfl) (by kernel_rfl) (by kernel_rfl) (by kernel_rfl) (by kernel_rfl) (.there (.there .here)) (RowsA.reads (k := 1) .here) (by first | rfl | simp) (by first | rfl | simp) (by rw [← hl13_10]; first | done | simp) (by rw [← hl13_10]; first | done | simp) (by rw [← hl13_10]; exact hc13_10_0)) ?_
          rintro _ _ ⟨a13_10, c13_10, rfl, rfl⟩
          refine ⟨stable_nil, ?_⟩
          obtain ⟨hc13_11_0, H⟩ := chkE H
          refine d_pure 11 66 (.pointer (some ⟨b4_0, (y10_4).toNat, none⟩)) (by kernel_rfl) (by kernel_rfl) (by kernel_rfl) (index_arr (t := 72) (E := 22) (m := 3) (tinfo 22) (fun _ => by kernel_rfl) (by kernel_rfl) (by kernel_rfl) (by kernel_rfl) hc13_11_0.1) ?_
          obtain ⟨ls13_12, hls13_12, H⟩ := letE H
          refine d_do 12 [11, 10, 0, 1, 2, 3, 4, 5, 6, 7, 8, 9] [] [] (by kernel_rfl) (by kernel_rfl) (by kernel_rfl) (st_lists (i := y10_4) (v := l13_10) (fun _ => by kernel_rfl) (.there (.there (.there .here))) .here) ?_
          rintro _ _ ⟨rfl, rfl⟩
          rw [hls13_12]
          refine ⟨stable_nil, ?_⟩
          refine draw_end (by kernel_rfl) ?_
          refine At.env [(0, .slice asksa (List.length asks) askscap), (1, .slice linesa (List.length lines) linescap), (5, .pointer (some ⟨b1_0, 0, none⟩)), (6, .pointer (some ⟨b4_0, 0, none⟩)), (7, .int .i64 v0_7), (40, .pointer (some ⟨b1_0, 0, none⟩)), (41, .int .i64 y10_4), (42, .slice asksa (List.length asks) askscap), (43, .int .i64 v0_7), (44, .pointer (some ⟨bb2, oo2 + ((v0_7).toNat * 1 + 0), none⟩)), (45, .int .i64 (nth asks v0_7)), (46, .int .i64 y11_6), (47, .int .i64 v0_7), (48, .bool y11_8.1), (49, .int .i64 y10_4), (50, .pointer (some ⟨b4_0, (y10_4).toNat, none⟩)), (51, .slice a11_11 (List.length (lget v0_b4_0 y10_4)) c11_11), (52, .int .i64 (((List.length (lget v0_b4_0 y10_4)) : Nat) : Int)), (53, .bool (decide ((((List.length (lget v0_b4_0 y10_4)) : Nat) : Int) = (0 : Int)))), (55, .int .i64 y10_4), (56, .int .i64 y10_4), (57, .pointer (some ⟨b4_0, (y10_4).toNat, none⟩)), (58, .slice a11_11 (List.length (lget v0_b4_0 y10_4)) c11_11), (59, .slice asksa (List.length asks) askscap), (60, .int .i64 v0_7), (61, .pointer (some ⟨bb3, oo3 + ((v0_7).toNat * 1 + 0), none⟩)), (62, .int .i64 (nth asks v0_7)), (63, .int .i64 y13_8), (64, .slice (some ⟨b13_9, 0, none⟩) (List.length l13_9) 1), (65, .slice a13_10 (List.length l13_10) c13_10), (66, .pointer (some ⟨b4_0, (y10_4).toNat, none⟩))] ⟨by kernel_rfl, by kernel_rfl, by kernel_rfl, by kernel_rfl, by kernel_rfl, by kernel_rfl, by kernel_rfl, by kernel_rfl, by kernel_rfl, by kernel_rfl, by kernel_rfl, by kernel_rfl, by kernel_rfl, by kernel_rfl, by kernel_rfl, by kernel_rfl, by kernel_rfl, by kernel_rfl, by kernel_rfl, by kernel_rfl, by kernel_rfl, by kernel_rfl, by kernel_rfl, by kernel_rfl, by kernel_rfl, by kernel_rfl, by kernel_rfl, by kernel_rfl, by kernel_rfl, by kernel_rfl, by kernel_rfl, trivial⟩ ?_
          refine at_in_normal ?_
          refine at_then_normal ?_
          refine at_region (id := 7) 3 (by kernel_rfl) (by kernel_rfl) ?_
          refine s_pure 29 (.int .i64 v0_7) (by kernel_rfl) (by kernel_rfl) (fun _ => by kernel_rfl) ?_
          obtain ⟨hc7_1_0, H⟩ := chkE H
          refine s_pure 30 (.int .i64 (v0_7 + (1 : Int))) (by kernel_rfl) (by kernel_rfl) (run_eq (v := .int .i64 (IntKind.i64.wrap (v0_7 + (1 : Int)))) (fun _ => by kernel_rfl) (by rw [inR.wrap hc7_1_0])) ?_
          refine s_pure 7 (.int .i64 (v0_7 + (1 : Int))) (by kernel_rfl) (by kernel_rfl) (fun _ => by kernel_rfl) ?_
          refine ops_end ?_
          refine At.env [(0, .slice asksa (List.length asks) askscap), (1, .slice linesa (List.length lines) linescap), (5, .pointer (some ⟨b1_0, 0, none⟩)), (6, .pointer (some ⟨b4_0, 0, none⟩)), (7, .int .i64 (v0_7 + (1 : Int))), (40, .pointer (some ⟨b1_0, 0, none⟩)), (41, .int .i64 y10_4), (42, .slice asksa (List.length asks) askscap), (43, .int .i64 v0_7), (44, .pointer (some ⟨bb2, oo2 + ((v0_7).toNat * 1 + 0), none⟩)), (45, .int .i64 (nth asks v0_7)), (46, .int .i64 y11_6), (47, .int .i64 v0_7), (48, .bool y11_8.1), (49, .int .i64 y10_4), (50, .pointer (some ⟨b4_0, (y10_4).toNat, none⟩)), (51, .slice a11_11 (List.length (lget v0_b4_0 y10_4)) c11_11), (52, .int .i64 (((List.length (lget v0_b4_0 y10_4)) : Nat) : Int)), (53, .bool (decide ((((List.length (lget v0_b4_0 y10_4)) : Nat) : Int) = (0 : Int)))), (55, .int .i64 y10_4), (56, .int .i64 y10_4), (57, .pointer (some ⟨b4_0, (y10_4).toNat, none⟩)), (58, .slice a11_11 (List.length (lget v0_b4_0 y10_4)) c11_11), (59, .slice asksa (List.length asks) askscap), (60, .int .i64 v0_7), (61, .pointer (some ⟨bb3, oo3 + ((v0_7).toNat * 1 + 0), none⟩)), (62, .int .i64 (nth asks v0_7)), (63, .int .i64 y13_8), (64, .slice (some ⟨b13_9, 0, none⟩) (List.length l13_9) 1), (65, .slice a13_10 (List.length l13_10) c13_10), (66, .pointer (some ⟨b4_0, (y10_4).toNat, none⟩))] ⟨by kernel_rfl, by kernel_rfl, by kernel_rfl, by kernel_rfl, by kernel_rfl, by kernel_rfl, by kernel_rfl, by kernel_rfl, by kernel_rfl, by kernel_rfl, by kernel_rfl, by kernel_rfl, by kernel_rfl, by kernel_rfl, by kernel_rfl, by kernel_rfl, by kernel_rfl, by kernel_rfl, by kernel_rfl, by kernel_rfl, by kernel_rfl, by kernel_rfl, by kernel_rfl, by kernel_rfl, by kernel_rfl, by kernel_rfl, by kernel_rfl, by kernel_rfl, by kernel_rfl, by kernel_rfl, by kernel_rfl, trivial⟩ ?_
          refine at_round_normal ?_
          exact at_roundR fuel1 [(0, .slice asksa (List.length asks) askscap), (1, .slice linesa (List.length lines) linescap), (5, .pointer (some ⟨b1_0, 0, none⟩)), (6, .pointer (some ⟨b4_0, 0, none⟩)), (7, .int .i64 (v0_7 + (1 : Int)))] ((ListsA b4_0 72 ls13_12) :: (TurnsA b1_0 y11_8.2) :: Γ) (Nat.lt_succ_self _) ⟨by kernel_rfl, by kernel_rfl, by kernel_rfl, by kernel_rfl, by kernel_rfl, trivial⟩ (fun w hw => (Sat.less (.take .here (.take (.there .here) (.drop .here .refl))) hw)) ⟨fuel1, v0_7 + (1 : Int), ls13_12, y11_8.2, H, rfl, rfl, rfl⟩
      · replace H := bifF H h3
        refine at_false (t := decide (v0_7 < (((List.length lines) : Nat) : Int))) (x := C10 [1,1,1,1,0,1,0,0,1,0,0,1,0,1,0]) (y := C10 [1,1,1,1,0,1,0,0,1,0,0,1,0,1,1]) (o := .tmp 34) (by kernel_rfl) (by kernel_rfl) (by kernel_rfl) h3 ?_
        refine at_skip (by kernel_rfl) ?_
        refine at_then_normal ?_
        refine at_seq (x := C10 [1,1,1,1,0,1,0,0,1,0,0,1,1,0]) (y := C10 [1,1,1,1,0,1,0,0,1,0,0,1,1,1]) (by kernel_rfl) ?_
        refine at_seq (x := C10 [1,1,1,1,0,1,0,0,1,0,0,1,1,0,0]) (y := C10 [1,1,1,1,0,1,0,0,1,0,0,1,1,0,1]) (by kernel_rfl) ?_
        refine at_region_draw (id := 11) (by kernel_rfl) (by kernel_rfl) ?_
        refine d_pure 0 40 (.pointer (some ⟨b1_0, 0, none⟩)) (by kernel_rfl) (by kernel_rfl) (by kernel_rfl) (fun _ => by kernel_rfl) ?_
        refine d_pure 1 41 (.int .i64 (0)) (by kernel_rfl) (by kernel_rfl) (by kernel_rfl) (fun _ => by kernel_rfl) ?_
        refine d_pure 2 42 (.slice asksa (List.length asks) askscap) (by kernel_rfl) (by kernel_rfl) (by kernel_rfl) (fun _ => by kernel_rfl) ?_
        refine d_pure 3 43 (.int .i64 v0_7) (by kernel_rfl) (by kernel_rfl) (by kernel_rfl) (fun _ => by kernel_rfl) ?_
        obtain ⟨hc11_4_0, H⟩ := chkE H
        refine reads_at_draw (Reads.conv (fun w hw => hw.less (.drop .here (.drop .here .refl))) hrasksa) (by have := hc11_4_0; omega) ?_
        intro bb4 oo4 ha4
        refine d_pure 4 44 (.pointer (some ⟨bb4, oo4 + ((v0_7).toNat * 1 + 0), none⟩)) (by kernel_rfl) (by kernel_rfl) (by kernel_rfl) (index_at (t := 22) (sz := 1) (E := 3) (a := asksa) (m := (List.length asks)) (c := askscap) (b := bb4) (off := oo4) (i := (v0_7).toNat) (tinfo 3) (fun _ => by kernel_rfl) (by kernel_rfl) (by kernel_rfl) (by kernel_rfl) ha4 (idx_cast hc11_4_0) (idx_nat hc11_4_0) rfl) ?_
        refine d_load 5 45 (.int .i64 (nth asks v0_7)) (by kernel_rfl) (by kernel_rfl) (by kernel_rfl) (load1_at (off := oo4 + ((v0_7).toNat * 1 + 0)) (v := .int .i64 (nth asks v0_7)) (fun _ => by kernel_rfl) rfl (reads_cell (k := 1) (Reads.conv (fun w hw => hw.less (.drop .here (.drop .here .refl))) hrasksa) (ints_rows _) ha4 (nth_row hc11_4_0) (show [(.int .i64 (nth asks v0_7) : Value)][0]? = some _ from rfl))) ?_
        obtain ⟨y11_6, hy11_6, H⟩ := bindE H
        refine d_quiet 6 46 (.int .i64 y11_6) 12 #[.int .i64 (nth asks v0_7), .int .i64 (9)] (by kernel_rfl) (by kernel_rfl) (by kernel_rfl) (fun _ => by kernel_rfl) (fun _ => (WithinF_tr (nth asks v0_7) (9 : Int) y11_6 hy11_6)) ?_
        refine d_pure 7 47 (.int .i64 v0_7) (by kernel_rfl) (by kernel_rfl) (by kernel_rfl) (fun _ => by kernel_rfl) ?_
        refine d_pure 9 49 (.int .i64 (0)) (by kernel_rfl) (by kernel_rfl) (by kernel_rfl) (fun _ => by kernel_rfl) ?_
        obtain ⟨hc11_10_0, H⟩ := chkE H
        refine d_pure 10 50 (.pointer (some ⟨b4_0, ((0 : Int)).toNat, none⟩)) (by kernel_rfl) (by kernel_rfl) (by kernel_rfl) (index_arr (t := 72) (E := 22) (m := 3) (tinfo 22) (fun _ => by kernel_rfl) (by kernel_rfl) (by kernel_rfl) (by kernel_rfl) hc11_10_0.1) ?_
        refine Draw.lfocus hc11_10_0.2 .here ?_
        intro a11_11 c11_11
        refine d_load 11 51 (.slice a11_11 (List.length (lget v0_b4_0 (0 : Int))) c11_11) (by kernel_rfl) (by kernel_rfl) (by kernel_rfl) (lists_load (i := (0 : Int)) (fun _ => by kernel_rfl) (.there .here)) ?_
        refine d_pure 12 52 (.int .i64 (((List.length (lget v0_b4_0 (0 : Int))) : Nat) : Int)) (by kernel_rfl) (by kernel_rfl) (by kernel_rfl) (fun _ => by kernel_rfl) ?_
        refine d_pure 13 53 (.bool (decide ((((List.length (lget v0_b4_0 (0 : Int))) : Nat) : Int) = (0 : Int)))) (by kernel_rfl) (by kernel_rfl) (by kernel_rfl) (fun _ => by kernel_rfl) ?_
        obtain ⟨y11_8, hy11_8, H⟩ := bindE H
        refine d_call 8 48 [0, 1, 6, 7, 5, 4, 2, 3] [13, 12, 10, 9] [11] 13 #[.pointer (some ⟨b1_0, 0, none⟩), .int .i64 (0), .int .i64 y11_6, .int .i64 v0_7] (by kernel_rfl) (by kernel_rfl) (by kernel_rfl) (fun _ => by kernel_rfl) (Tr.conv (Γ' := (TurnsA b1_0 v0_b1_0) :: (IntsA a11_11 c11_11 (lget v0_b4_0 (0 : Int))) :: (ListsX b4_0 72 v0_b4_0 (0 : Int) a11_11 c11_11) :: Γ) (fun w hw => (Sat.less (.take (.there (.there .here)) (.take .here (.take .here .refl))) hw)) (TAskF_tr b1_0 v0_b1_0 (0 : Int) y11_6 v0_7 y11_8 hy11_8)) ?_
        rintro _ _ ⟨rfl, rfl⟩
        refine ⟨(stable_cons 11 51 (.slice a11_11 (List.length (lget v0_b4_0 (0 : Int))) c11_11) (by kernel_rfl) (by kernel_rfl) (by kernel_rfl) (lists_load (i := (0 : Int)) (fun _ => by kernel_rfl) (.there (.there .here))) stable_nil), ?_⟩
        refine d_pure 14 54 (.bool (!(y11_8.1 == (decide ((((List.length (lget v0_b4_0 (0 : Int))) : Nat) : Int) = (0 : Int)))))) (by kernel_rfl) (by kernel_rfl) (by kernel_rfl) (fun _ => by kernel_rfl) ?_
        refine draw_end (by kernel_rfl) ?_
        refine At.env [(0, .slice asksa (List.length asks) askscap), (1, .slice linesa (List.length lines) linescap), (5, .pointer (some ⟨b1_0, 0, none⟩)), (6, .pointer (some ⟨b4_0, 0, none⟩)), (7, .int .i64 v0_7), (8, .int .i64 (0)), (40, .pointer (some ⟨b1_0, 0, none⟩)), (41, .int .i64 (0)), (42, .slice asksa (List.length asks) askscap), (43, .int .i64 v0_7), (44, .pointer (some ⟨bb4, oo4 + ((v0_7).toNat * 1 + 0), none⟩)), (45, .int .i64 (nth asks v0_7)), (46, .int .i64 y11_6), (47, .int .i64 v0_7), (48, .bool y11_8.1), (49, .int .i64 (0)), (50, .pointer (some ⟨b4_0, ((0 : Int)).toNat, none⟩)), (51, .slice a11_11 (List.length (lget v0_b4_0 (0 : Int))) c11_11), (52, .int .i64 (((List.length (lget v0_b4_0 (0 : Int))) : Nat) : Int)), (53, .bool (decide ((((List.length (lget v0_b4_0 (0 : Int))) : Nat) : Int) = (0 : Int)))), (54, .bool (!(y11_8.1 == (decide ((((List.length (lget v0_b4_0 (0 : Int))) : Nat) : Int) = (0 : Int))))))] ⟨by kernel_rfl, by kernel_rfl, by kernel_rfl, by kernel_rfl, by kernel_rfl, by kernel_rfl, by kernel_rfl, by kernel_rfl, by kernel_rfl, by kernel_rfl, by kernel_rfl, by kernel_rfl, by kernel_rfl, by kernel_rfl, by kernel_rfl, by kernel_rfl, by kernel_rfl, by kernel_rfl, by kernel_rfl, by kernel_rfl, by kernel_rfl, trivial⟩ ?_
        refine at_then_normal ?_
        rcases Bool.eq_false_or_eq_true (!(y11_8.1 == (decide ((((List.length (lget v0_b4_0 (0 : Int))) : Nat) : Int) = (0 : Int))))) with h5 | h5
        · replace H := bifT H h5
          refine at_true (t := !(y11_8.1 == (decide ((((List.length (lget v0_b4_0 (0 : Int))) : Nat) : Int) = (0 : Int))))) (x := C10 [1,1,1,1,0,1,0,0,1,0,0,1,1,0,1,0]) (y := C10 [1,1,1,1,0,1,0,0,1,0,0,1,1,0,1,1]) (o := .tmp 54) (by kernel_rfl) (by kernel_rfl) (by kernel_rfl) h5 ?_
          refine at_seq (x := C10 [1,1,1,1,0,1,0,0,1,0,0,1,1,0,1,0,0]) (y := C10 [1,1,1,1,0,1,0,0,1,0,0,1,1,0,1,0,1]) (by kernel_rfl) ?_
          refine at_region (id := 12) 1 (by kernel_rfl) (by kernel_rfl) ?_
          refine s_pure 4 (.bool false) (by kernel_rfl) (by kernel_rfl) (fun _ => by kernel_rfl) ?_
          refine ops_end ?_
          refine At.env [(4, .bool false)] ⟨by kernel_rfl, trivial⟩ ?_
          refine at_then_normal ?_
          refine at_ret (by kernel_rfl) ?_
          refine at_then_ret ?_
          refine at_in_ret ?_
          refine at_then_ret ?_
          refine at_then_ret ?_
          refine at_in_ret ?_
          refine at_then_ret ?_
          obtain rfl := someE H
          refine at_backR [.bool false] (Γ) (rs := [.tmp 4]) (by kernel_rfl) (.cons (.tmp (by kernel_rfl)) .nil) (fun w hw => (Sat.less (.drop .here (.drop .here (.drop .here .refl))) hw)) ?_
          exact ⟨rfl, rfl⟩
        · replace H := bifF H h5
          refine at_false (t := !(y11_8.1 == (decide ((((List.length (lget v0_b4_0 (0 : Int))) : Nat) : Int) = (0 : Int))))) (x := C10 [1,1,1,1,0,1,0,0,1,0,0,1,1,0,1,0]) (y := C10 [1,1,1,1,0,1,0,0,1,0,0,1,1,0,1,1]) (o := .tmp 54) (by kernel_rfl) (by kernel_rfl) (by kernel_rfl) h5 ?_
          refine at_skip (by kernel_rfl) ?_
          refine at_then_normal ?_
          refine at_region_draw (id := 13) (by kernel_rfl) (by kernel_rfl) ?_
          refine d_pure 0 55 (.int .i64 (0)) (by kernel_rfl) (by kernel_rfl) (by kernel_rfl) (fun _ => by kernel_rfl) ?_
          refine d_pure 1 56 (.int .i64 (0)) (by kernel_rfl) (by kernel_rfl) (by kernel_rfl) (fun _ => by kernel_rfl) ?_
          obtain ⟨hc13_2_0, H⟩ := chkE H
          refine d_pure 2 57 (.pointer (some ⟨b4_0, ((0 : Int)).toNat, none⟩)) (by kernel_rfl) (by kernel_rfl) (by kernel_rfl) (index_arr (t := 72) (E := 22) (m := 3) (tinfo 22) (fun _ => by kernel_rfl) (by kernel_rfl) (by kernel_rfl) (by kernel_rfl) hc13_2_0.1) ?_
          refine d_load 3 58 (.slice a11_11 (List.length (lget v0_b4_0 (0 : Int))) c11_11) (by kernel_rfl) (by kernel_rfl) (by kernel_rfl) (lists_load (i := (0 : Int)) (fun _ => by kernel_rfl) (.there (.there .here))) ?_
          refine d_pure 4 59 (.slice asksa (List.length asks) askscap) (by kernel_rfl) (by kernel_rfl) (by kernel_rfl) (fun _ => by kernel_rfl) ?_
          refine d_pure 5 60 (.int .i64 v0_7) (by kernel_rfl) (by kernel_rfl) (by kernel_rfl) (fun _ => by kernel_rfl) ?_
          obtain ⟨hc13_6_0, H⟩ := chkE H
          refine reads_at_draw (Reads.conv (fun w hw => hw.less (.drop .here (.drop .here (.drop .here .refl)))) hrasksa) (by have := hc13_6_0; omega) ?_
          intro bb5 oo5 ha5
          refine d_pure 6 61 (.pointer (some ⟨bb5, oo5 + ((v0_7).toNat * 1 + 0), none⟩)) (by kernel_rfl) (by kernel_rfl) (by kernel_rfl) (index_at (t := 22) (sz := 1) (E := 3) (a := asksa) (m := (List.length asks)) (c := askscap) (b := bb5) (off := oo5) (i := (v0_7).toNat) (tinfo 3) (fun _ => by kernel_rfl) (by kernel_rfl) (by kernel_rfl) (by kernel_rfl) ha5 (idx_cast hc13_6_0) (idx_nat hc13_6_0) rfl) ?_
          refine d_load 7 62 (.int .i64 (nth asks v0_7)) (by kernel_rfl) (by kernel_rfl) (by kernel_rfl) (load1_at (off := oo5 + ((v0_7).toNat * 1 + 0)) (v := .int .i64 (nth asks v0_7)) (fun _ => by kernel_rfl) rfl (reads_cell (k := 1) (Reads.conv (fun w hw => hw.less (.drop .here (.drop .here (.drop .here .refl)))) hrasksa) (ints_rows _) ha5 (nth_row hc13_6_0) (show [(.int .i64 (nth asks v0_7) : Value)][0]? = some _ from rfl))) ?_
          obtain ⟨y13_8, hy13_8, H⟩ := bindE H
          refine d_quiet 8 63 (.int .i64 y13_8) 12 #[.int .i64 (nth asks v0_7), .int .i64 (9)] (by kernel_rfl) (by kernel_rfl) (by kernel_rfl) (fun _ => by kernel_rfl) (fun _ => (WithinF_tr (nth asks v0_7) (9 : Int) y13_8 hy13_8)) ?_
          obtain ⟨l13_9, hl13_9, H⟩ := letE H
          refine d_step 9 64 [8, 7, 6, 4, 5] [2, 1, 0] [3] (by kernel_rfl) (by kernel_rfl) (by kernel_rfl) (st_new_ints (T := 3) (xs := l13_9) 1 hl13_9 (fun _ => by kernel_rfl) (by kernel_rfl)) ?_
          rintro _ _ ⟨b13_9, rfl, rfl⟩
          refine ⟨(stable_cons 3 58 (.slice a11_11 (List.length (lget v0_b4_0 (0 : Int))) c11_11) (by kernel_rfl) (by kernel_rfl) (by kernel_rfl) (lists_load (i := (0 : Int)) (fun _ => by kernel_rfl) (.there (.there (.there .here)))) stable_nil), ?_⟩
          obtain ⟨hc13_10_0, H⟩ := chkE H
          obtain ⟨l13_10, hl13_10, H⟩ := letE H
          refine d_step 10 65 [3, 9, 8, 2, 7, 1, 6, 4, 5] [0] [] (by kernel_rfl) (by kernel_rfl) (by kernel_rfl) (st_append_ints (xs := lget v0_b4_0 (0 : Int)) (ys := l13_9) (zs := l13_10) (m1 := (List.length (lget v0_b4_0 (0 : Int)))) (m2 := (List.length l13_9)) (m := List.length l13_10) (cap2 := 1) 22 22 3 (tinfo 3) (fun _ => by kernel_rfl) (by kernel_rfl) (by kernel_rfl) (by kernel_rfl) (by kernel_rfl) (by kernel_rfl) (.there (.there .here)) (RowsA.reads (k := 1) .here) (by first | rfl | simp) (by first | rfl | simp) (by rw [← hl13_10]; first | done | simp) (by rw [← hl13_10]; first | done | simp) (by rw [← hl13_10]; exact hc13_10_0)) ?_
          rintro _ _ ⟨a13_10, c13_10, rfl, rfl⟩
          refine ⟨stable_nil, ?_⟩
          obtain ⟨hc13_11_0, H⟩ := chkE H
          refine d_pure 11 66 (.pointer (some ⟨b4_0, ((0 : Int)).toNat, none⟩)) (by kernel_rfl) (by kernel_rfl) (by kernel_rfl) (index_arr (t := 72) (E := 22) (m := 3) (tinfo 22) (fun _ => by kernel_rfl) (by kernel_rfl) (by kernel_rfl) (by kernel_rfl) hc13_11_0.1) ?_
          obtain ⟨ls13_12, hls13_12, H⟩ := letE H
          refine d_do 12 [11, 10, 0, 1, 2, 3, 4, 5, 6, 7, 8, 9] [] [] (by kernel_rfl) (by kernel_rfl) (by kernel_rfl) (st_lists (i := (0 : Int)) (v := l13_10) (fun _ => by kernel_rfl) (.there (.there (.there .here))) .here) ?_
          rintro _ _ ⟨rfl, rfl⟩
          rw [hls13_12]
          refine ⟨stable_nil, ?_⟩
          refine draw_end (by kernel_rfl) ?_
          refine At.env [(0, .slice asksa (List.length asks) askscap), (1, .slice linesa (List.length lines) linescap), (5, .pointer (some ⟨b1_0, 0, none⟩)), (6, .pointer (some ⟨b4_0, 0, none⟩)), (7, .int .i64 v0_7), (40, .pointer (some ⟨b1_0, 0, none⟩)), (41, .int .i64 (0)), (42, .slice asksa (List.length asks) askscap), (43, .int .i64 v0_7), (44, .pointer (some ⟨bb4, oo4 + ((v0_7).toNat * 1 + 0), none⟩)), (45, .int .i64 (nth asks v0_7)), (46, .int .i64 y11_6), (47, .int .i64 v0_7), (48, .bool y11_8.1), (49, .int .i64 (0)), (50, .pointer (some ⟨b4_0, ((0 : Int)).toNat, none⟩)), (51, .slice a11_11 (List.length (lget v0_b4_0 (0 : Int))) c11_11), (52, .int .i64 (((List.length (lget v0_b4_0 (0 : Int))) : Nat) : Int)), (53, .bool (decide ((((List.length (lget v0_b4_0 (0 : Int))) : Nat) : Int) = (0 : Int)))), (55, .int .i64 (0)), (56, .int .i64 (0)), (57, .pointer (some ⟨b4_0, ((0 : Int)).toNat, none⟩)), (58, .slice a11_11 (List.length (lget v0_b4_0 (0 : Int))) c11_11), (59, .slice asksa (List.length asks) askscap), (60, .int .i64 v0_7), (61, .pointer (some ⟨bb5, oo5 + ((v0_7).toNat * 1 + 0), none⟩)), (62, .int .i64 (nth asks v0_7)), (63, .int .i64 y13_8), (64, .slice (some ⟨b13_9, 0, none⟩) (List.length l13_9) 1), (65, .slice a13_10 (List.length l13_10) c13_10), (66, .pointer (some ⟨b4_0, ((0 : Int)).toNat, none⟩))] ⟨by kernel_rfl, by kernel_rfl, by kernel_rfl, by kernel_rfl, by kernel_rfl, by kernel_rfl, by kernel_rfl, by kernel_rfl, by kernel_rfl, by kernel_rfl, by kernel_rfl, by kernel_rfl, by kernel_rfl, by kernel_rfl, by kernel_rfl, by kernel_rfl, by kernel_rfl, by kernel_rfl, by kernel_rfl, by kernel_rfl, by kernel_rfl, by kernel_rfl, by kernel_rfl, by kernel_rfl, by kernel_rfl, by kernel_rfl, by kernel_rfl, by kernel_rfl, by kernel_rfl, by kernel_rfl, by kernel_rfl, trivial⟩ ?_
          refine at_in_normal ?_
          refine at_then_normal ?_
          refine at_region (id := 7) 3 (by kernel_rfl) (by kernel_rfl) ?_
          refine s_pure 29 (.int .i64 v0_7) (by kernel_rfl) (by kernel_rfl) (fun _ => by kernel_rfl) ?_
          obtain ⟨hc7_1_0, H⟩ := chkE H
          refine s_pure 30 (.int .i64 (v0_7 + (1 : Int))) (by kernel_rfl) (by kernel_rfl) (run_eq (v := .int .i64 (IntKind.i64.wrap (v0_7 + (1 : Int)))) (fun _ => by kernel_rfl) (by rw [inR.wrap hc7_1_0])) ?_
          refine s_pure 7 (.int .i64 (v0_7 + (1 : Int))) (by kernel_rfl) (by kernel_rfl) (fun _ => by kernel_rfl) ?_
          refine ops_end ?_
          refine At.env [(0, .slice asksa (List.length asks) askscap), (1, .slice linesa (List.length lines) linescap), (5, .pointer (some ⟨b1_0, 0, none⟩)), (6, .pointer (some ⟨b4_0, 0, none⟩)), (7, .int .i64 (v0_7 + (1 : Int))), (40, .pointer (some ⟨b1_0, 0, none⟩)), (41, .int .i64 (0)), (42, .slice asksa (List.length asks) askscap), (43, .int .i64 v0_7), (44, .pointer (some ⟨bb4, oo4 + ((v0_7).toNat * 1 + 0), none⟩)), (45, .int .i64 (nth asks v0_7)), (46, .int .i64 y11_6), (47, .int .i64 v0_7), (48, .bool y11_8.1), (49, .int .i64 (0)), (50, .pointer (some ⟨b4_0, ((0 : Int)).toNat, none⟩)), (51, .slice a11_11 (List.length (lget v0_b4_0 (0 : Int))) c11_11), (52, .int .i64 (((List.length (lget v0_b4_0 (0 : Int))) : Nat) : Int)), (53, .bool (decide ((((List.length (lget v0_b4_0 (0 : Int))) : Nat) : Int) = (0 : Int)))), (55, .int .i64 (0)), (56, .int .i64 (0)), (57, .pointer (some ⟨b4_0, ((0 : Int)).toNat, none⟩)), (58, .slice a11_11 (List.length (lget v0_b4_0 (0 : Int))) c11_11), (59, .slice asksa (List.length asks) askscap), (60, .int .i64 v0_7), (61, .pointer (some ⟨bb5, oo5 + ((v0_7).toNat * 1 + 0), none⟩)), (62, .int .i64 (nth asks v0_7)), (63, .int .i64 y13_8), (64, .slice (some ⟨b13_9, 0, none⟩) (List.length l13_9) 1), (65, .slice a13_10 (List.length l13_10) c13_10), (66, .pointer (some ⟨b4_0, ((0 : Int)).toNat, none⟩))] ⟨by kernel_rfl, by kernel_rfl, by kernel_rfl, by kernel_rfl, by kernel_rfl, by kernel_rfl, by kernel_rfl, by kernel_rfl, by kernel_rfl, by kernel_rfl, by kernel_rfl, by kernel_rfl, by kernel_rfl, by kernel_rfl, by kernel_rfl, by kernel_rfl, by kernel_rfl, by kernel_rfl, by kernel_rfl, by kernel_rfl, by kernel_rfl, by kernel_rfl, by kernel_rfl, by kernel_rfl, by kernel_rfl, by kernel_rfl, by kernel_rfl, by kernel_rfl, by kernel_rfl, by kernel_rfl, by kernel_rfl, trivial⟩ ?_
          refine at_round_normal ?_
          exact at_roundR fuel1 [(0, .slice asksa (List.length asks) askscap), (1, .slice linesa (List.length lines) linescap), (5, .pointer (some ⟨b1_0, 0, none⟩)), (6, .pointer (some ⟨b4_0, 0, none⟩)), (7, .int .i64 (v0_7 + (1 : Int)))] ((ListsA b4_0 72 ls13_12) :: (TurnsA b1_0 y11_8.2) :: Γ) (Nat.lt_succ_self _) ⟨by kernel_rfl, by kernel_rfl, by kernel_rfl, by kernel_rfl, by kernel_rfl, trivial⟩ (fun w hw => (Sat.less (.take .here (.take (.there .here) (.drop .here .refl))) hw)) ⟨fuel1, v0_7 + (1 : Int), ls13_12, y11_8.2, H, rfl, rfl, rfl⟩
    · replace H := bifF H h2
      refine at_false (t := decide (v0_7 < (20 : Int))) (x := C10 [1,1,1,1,0,1,0,0,0,1,0]) (y := C10 [1,1,1,1,0,1,0,0,0,1,1]) (o := .tmp 28) (by kernel_rfl) (by kernel_rfl) (by kernel_rfl) h2 ?_
      refine at_exit (i := 0) (by kernel_rfl) ?_
      refine at_then_exit ?_
      refine at_then_exit ?_
      rw [turnsFairS_k0] at H
      refine At.env [(0, .slice asksa (List.length asks) askscap), (1, .slice linesa (List.length lines) linescap), (5, .pointer (some ⟨b1_0, 0, none⟩)), (6, .pointer (some ⟨b4_0, 0, none⟩)), (7, .int .i64 v0_7)] ⟨by kernel_rfl, by kernel_rfl, by kernel_rfl, by kernel_rfl, by kernel_rfl, trivial⟩ ?_
      refine At.conv (Γ' := (ListsA b4_0 72 v0_b4_0) :: (TurnsA b1_0 v0_b1_0) :: Γ) (fun w hw => (Sat.less (.take .here (.take .here .refl)) hw)) ?_
      refine at_in_here ?_
      refine at_then_normal ?_
      refine at_seq (x := C10 [1,1,1,1,1,0]) (y := C10 [1,1,1,1,1,1]) (by kernel_rfl) ?_
      refine at_seq (x := C10 [1,1,1,1,1,0,0]) (y := C10 [1,1,1,1,1,0,1]) (by kernel_rfl) ?_
      refine at_region (id := 14) 1 (by kernel_rfl) (by kernel_rfl) ?_
      refine s_pure 67 (.int .i64 (0)) (by kernel_rfl) (by kernel_rfl) (fun _ => by kernel_rfl) ?_
      refine ops_end ?_
      refine At.env [(5, .pointer (some ⟨b1_0, 0, none⟩)), (6, .pointer (some ⟨b4_0, 0, none⟩)), (67, .int .i64 (0))] ⟨by kernel_rfl, by kernel_rfl, by kernel_rfl, trivial⟩ ?_
      refine at_then_normal ?_
      refine at_block (i := 2) (x := C10 [1,1,1,1,1,0,1,0]) (by kernel_rfl) ?_
      refine At.conv (Γ' := (ListsA b4_0 72 v0_b4_0) :: (TurnsA b1_0 v0_b1_0) :: Γ) (fun w hw => (Sat.less (.take .here (.take .here .refl)) hw)) ?_
      refine at_loopR (x := C10 [1,1,1,1,1,0,1,0,0]) (fun mm ff ΔΔ => ∃ (fuel : Nat) (v1_67 : Int) (v1_b1_0 : TurnsS), turnsFairS_l1 v0_b4_0 (turnsFairS_k1 ) fuel v1_67 v1_b1_0 = some y ∧ fuel = mm ∧ ff = [(5, .pointer (some ⟨b1_0, 0, none⟩)), (6, .pointer (some ⟨b4_0, 0, none⟩)), (67, .int .i64 v1_67)] ∧ (ListsA b4_0 72 v0_b4_0) :: (TurnsA b1_0 v1_b1_0) :: Γ = ΔΔ) (64) (by kernel_rfl) [(5, .pointer (some ⟨b1_0, 0, none⟩)), (6, .pointer (some ⟨b4_0, 0, none⟩)), (67, .int .i64 0)] ⟨by kernel_rfl, by kernel_rfl, by kernel_rfl, trivial⟩ ⟨64, 0, v0_b1_0, H, rfl, rfl, rfl⟩ ?_
      rintro _ _ _ ⟨fuel2, v1_67, v1_b1_0, H, rfl, rfl, rfl⟩
      rcases fuel2 with _ | fuel2
      · exact (noneE H).elim
      rw [turnsFairS_l1] at H
      refine at_seq (x := C10 [1,1,1,1,1,0,1,0,0,0]) (y := C10 [1,1,1,1,1,0,1,0,0,1]) (by kernel_rfl) ?_
      refine at_region (id := 15) 1 (by kernel_rfl) (by kernel_rfl) ?_
      refine s_pure 68 (.bool (decide (v1_67 < (3 : Int)))) (by kernel_rfl) (by kernel_rfl) (fun _ => by kernel_rfl) ?_
      refine ops_end ?_
      refine At.env [(5, .pointer (some ⟨b1_0, 0, none⟩)), (6, .pointer (some ⟨b4_0, 0, none⟩)), (67, .int .i64 v1_67), (68, .bool (decide (v1_67 < (3 : Int))))] ⟨by kernel_rfl, by kernel_rfl, by kernel_rfl, by kernel_rfl, trivial⟩ ?_
      refine at_then_normal ?_
      refine at_seq (x := C10 [1,1,1,1,1,0,1,0,0,1,0]) (y := C10 [1,1,1,1,1,0,1,0,0,1,1]) (by kernel_rfl) ?_
      rcases Bool.eq_false_or_eq_true (decide (v1_67 < (3 : Int))) with h6 | h6
      · replace H := bifT H h6
        refine at_true (t := decide (v1_67 < (3 : Int))) (x := C10 [1,1,1,1,1,0,1,0,0,1,0,0]) (y := C10 [1,1,1,1,1,0,1,0,0,1,0,1]) (o := .tmp 68) (by kernel_rfl) (by kernel_rfl) (by kernel_rfl) h6 ?_
        refine at_skip (by kernel_rfl) ?_
        refine at_then_normal ?_
        refine at_seq (x := C10 [1,1,1,1,1,0,1,0,0,1,1,0]) (y := C10 [1,1,1,1,1,0,1,0,0,1,1,1]) (by kernel_rfl) ?_
        refine at_block (i := 3) (x := C10 [1,1,1,1,1,0,1,0,0,1,1,0,0]) (by kernel_rfl) ?_
        refine at_seq (x := C10 [1,1,1,1,1,0,1,0,0,1,1,0,0,0]) (y := C10 [1,1,1,1,1,0,1,0,0,1,1,0,0,1]) (by kernel_rfl) ?_
        refine at_region (id := 16) 2 (by kernel_rfl) (by kernel_rfl) ?_
        refine s_pure 69 (.int .i64 v1_67) (by kernel_rfl) (by kernel_rfl) (fun _ => by kernel_rfl) ?_
        refine s_pure 9 (.int .i64 v1_67) (by kernel_rfl) (by kernel_rfl) (fun _ => by kernel_rfl) ?_
        refine ops_end ?_
        refine At.env [(5, .pointer (some ⟨b1_0, 0, none⟩)), (6, .pointer (some ⟨b4_0, 0, none⟩)), (9, .int .i64 v1_67), (67, .int .i64 v1_67)] ⟨by kernel_rfl, by kernel_rfl, by kernel_rfl, by kernel_rfl, trivial⟩ ?_
        refine at_then_normal ?_
        refine at_seq (x := C10 [1,1,1,1,1,0,1,0,0,1,1,0,0,1,0]) (y := C10 [1,1,1,1,1,0,1,0,0,1,1,0,0,1,1]) (by kernel_rfl) ?_
        refine at_seq (x := C10 [1,1,1,1,1,0,1,0,0,1,1,0,0,1,0,0]) (y := C10 [1,1,1,1,1,0,1,0,0,1,1,0,0,1,0,1]) (by kernel_rfl) ?_
        refine at_region (id := 17) 5 (by kernel_rfl) (by kernel_rfl) ?_
        refine s_pure 70 (.int .i64 v1_67) (by kernel_rfl) (by kernel_rfl) (fun _ => by kernel_rfl) ?_
        obtain ⟨hc17_1_0, H⟩ := chkE H
        refine s_pure 71 (.pointer (some ⟨b4_0, (v1_67).toNat, none⟩)) (by kernel_rfl) (by kernel_rfl) (index_arr (t := 72) (E := 22) (m := 3) (tinfo 22) (fun _ => by kernel_rfl) (by kernel_rfl) (by kernel_rfl) (by kernel_rfl) hc17_1_0.1) ?_
        refine At.lfocus hc17_1_0.2 .here ?_
        intro a17_2 c17_2
        refine s_load 72 (.slice a17_2 (List.length (lget v0_b4_0 v1_67)) c17_2) (by kernel_rfl) (by kernel_rfl) (lists_load (i := v1_67) (fun _ => by kernel_rfl) (.there .here)) ?_
        refine s_pure 73 (.int .i64 (((List.length (lget v0_b4_0 v1_67)) : Nat) : Int)) (by kernel_rfl) (by kernel_rfl) (fun _ => by kernel_rfl) ?_
        refine s_pure 74 (.int .i64 (0)) (by kernel_rfl) (by kernel_rfl) (fun _ => by kernel_rfl) ?_
        refine ops_end ?_
        refine At.env [(5, .pointer (some ⟨b1_0, 0, none⟩)), (6, .pointer (some ⟨b4_0, 0, none⟩)), (9, .int .i64 v1_67), (67, .int .i64 v1_67), (72, .slice a17_2 (List.length (lget v0_b4_0 v1_67)) c17_2), (73, .int .i64 (((List.length (lget v0_b4_0 v1_67)) : Nat) : Int)), (74, .int .i64 (0))] ⟨by kernel_rfl, by kernel_rfl, by kernel_rfl, by kernel_rfl, by kernel_rfl, by kernel_rfl, by kernel_rfl, trivial⟩ ?_
        refine at_then_normal ?_
        refine at_block (i := 4) (x := C10 [1,1,1,1,1,0,1,0,0,1,1,0,0,1,0,1,0]) (by kernel_rfl) ?_
        refine At.conv (Γ' := (IntsA a17_2 c17_2 (lget v0_b4_0 v1_67)) :: (ListsX b4_0 72 v0_b4_0 v1_67 a17_2 c17_2) :: (TurnsA b1_0 v1_b1_0) :: Γ) (fun w hw => (Sat.less (.take .here (.take .here (.take .here .refl))) hw)) ?_
        refine at_loopR (x := C10 [1,1,1,1,1,0,1,0,0,1,1,0,0,1,0,1,0,0]) (fun mm ff ΔΔ => ∃ (fuel : Nat) (v3_74 : Int) (v3_b1_0 : TurnsS), turnsFairS_l3 v0_b4_0 v1_67 (turnsFairS_k3 v1_67 (turnsFairS_l1 v0_b4_0 (turnsFairS_k1 ) fuel2)) fuel v3_74 v3_b1_0 = some y ∧ fuel = mm ∧ ff = [(5, .pointer (some ⟨b1_0, 0, none⟩)), (6, .pointer (some ⟨b4_0, 0, none⟩)), (9, .int .i64 v1_67), (67, .int .i64 v1_67), (72, .slice a17_2 (List.length (lget v0_b4_0 v1_67)) c17_2), (73, .int .i64 (((List.length (lget v0_b4_0 v1_67)) : Nat) : Int)), (74, .int .i64 v3_74)] ∧ (IntsA a17_2 c17_2 (lget v0_b4_0 v1_67)) :: (ListsX b4_0 72 v0_b4_0 v1_67 a17_2 c17_2) :: (TurnsA b1_0 v3_b1_0) :: Γ = ΔΔ) (64) (by kernel_rfl) [(5, .pointer (some ⟨b1_0, 0, none⟩)), (6, .pointer (some ⟨b4_0, 0, none⟩)), (9, .int .i64 v1_67), (67, .int .i64 v1_67), (72, .slice a17_2 (List.length (lget v0_b4_0 v1_67)) c17_2), (73, .int .i64 (((List.length (lget v0_b4_0 v1_67)) : Nat) : Int)), (74, .int .i64 0)] ⟨by kernel_rfl, by kernel_rfl, by kernel_rfl, by kernel_rfl, by kernel_rfl, by kernel_rfl, by kernel_rfl, trivial⟩ ⟨64, 0, v1_b1_0, H, rfl, rfl, rfl⟩ ?_
        rintro _ _ _ ⟨fuel3, v3_74, v3_b1_0, H, rfl, rfl, rfl⟩
        rcases fuel3 with _ | fuel3
        · exact (noneE H).elim
        rw [turnsFairS_l3] at H
        refine at_seq (x := C10 [1,1,1,1,1,0,1,0,0,1,1,0,0,1,0,1,0,0,0]) (y := C10 [1,1,1,1,1,0,1,0,0,1,1,0,0,1,0,1,0,0,1]) (by kernel_rfl) ?_
        refine at_region (id := 18) 1 (by kernel_rfl) (by kernel_rfl) ?_
        refine s_pure 75 (.bool (decide (v3_74 < (((List.length (lget v0_b4_0 v1_67)) : Nat) : Int)))) (by kernel_rfl) (by kernel_rfl) (fun _ => by kernel_rfl) ?_
        refine ops_end ?_
        refine At.env [(5, .pointer (some ⟨b1_0, 0, none⟩)), (6, .pointer (some ⟨b4_0, 0, none⟩)), (9, .int .i64 v1_67), (67, .int .i64 v1_67), (72, .slice a17_2 (List.length (lget v0_b4_0 v1_67)) c17_2), (73, .int .i64 (((List.length (lget v0_b4_0 v1_67)) : Nat) : Int)), (74, .int .i64 v3_74), (75, .bool (decide (v3_74 < (((List.length (lget v0_b4_0 v1_67)) : Nat) : Int))))] ⟨by kernel_rfl, by kernel_rfl, by kernel_rfl, by kernel_rfl, by kernel_rfl, by kernel_rfl, by kernel_rfl, by kernel_rfl, trivial⟩ ?_
        refine at_then_normal ?_
        refine at_seq (x := C10 [1,1,1,1,1,0,1,0,0,1,1,0,0,1,0,1,0,0,1,0]) (y := C10 [1,1,1,1,1,0,1,0,0,1,1,0,0,1,0,1,0,0,1,1]) (by kernel_rfl) ?_
        rcases Bool.eq_false_or_eq_true (decide (v3_74 < (((List.length (lget v0_b4_0 v1_67)) : Nat) : Int))) with h7 | h7
        · replace H := bifT H h7
          refine at_true (t := decide (v3_74 < (((List.length (lget v0_b4_0 v1_67)) : Nat) : Int))) (x := C10 [1,1,1,1,1,0,1,0,0,1,1,0,0,1,0,1,0,0,1,0,0]) (y := C10 [1,1,1,1,1,0,1,0,0,1,1,0,0,1,0,1,0,0,1,0,1]) (o := .tmp 75) (by kernel_rfl) (by kernel_rfl) (by kernel_rfl) h7 ?_
          refine at_skip (by kernel_rfl) ?_
          refine at_then_normal ?_
          refine at_seq (x := C10 [1,1,1,1,1,0,1,0,0,1,1,0,0,1,0,1,0,0,1,1,0]) (y := C10 [1,1,1,1,1,0,1,0,0,1,1,0,0,1,0,1,0,0,1,1,1]) (by kernel_rfl) ?_
          refine at_block (i := 5) (x := C10 [1,1,1,1,1,0,1,0,0,1,1,0,0,1,0,1,0,0,1,1,0,0]) (by kernel_rfl) ?_
          refine at_seq (x := C10 [1,1,1,1,1,0,1,0,0,1,1,0,0,1,0,1,0,0,1,1,0,0,0]) (y := C10 [1,1,1,1,1,0,1,0,0,1,1,0,0,1,0,1,0,0,1,1,0,0,1]) (by kernel_rfl) ?_
          refine at_region (id := 19) 5 (by kernel_rfl) (by kernel_rfl) ?_
          refine s_pure 76 (.int .i64 v3_74) (by kernel_rfl) (by kernel_rfl) (fun _ => by kernel_rfl) ?_
          obtain ⟨hc19_1_0, H⟩ := chkE H
          refine rows_at .here (by have := hc19_1_0; simp only [ints_length]; omega) ?_
          intro bb6 oo6 ha6
          refine s_pure 77 (.pointer (some ⟨bb6, oo6 + ((v3_74).toNat * 1 + 0), none⟩)) (by kernel_rfl) (by kernel_rfl) (index_at (t := 22) (sz := 1) (E := 3) (a := a17_2) (m := (List.length (lget v0_b4_0 v1_67))) (c := c17_2) (b := bb6) (off := oo6) (i := (v3_74).toNat) (tinfo 3) (fun _ => by kernel_rfl) (by kernel_rfl) (by kernel_rfl) (by kernel_rfl) ha6 (idx_cast hc19_1_0) (idx_nat hc19_1_0) rfl) ?_
          refine s_load 78 (.int .i64 (nth (lget v0_b4_0 v1_67) v3_74)) (by kernel_rfl) (by kernel_rfl) (load1_at (off := oo6 + ((v3_74).toNat * 1 + 0)) (v := .int .i64 (nth (lget v0_b4_0 v1_67) v3_74)) (fun _ => by kernel_rfl) rfl (reads_cell (k := 1) (RowsA.reads (k := 1) .here) (ints_rows _) ha6 (nth_row hc19_1_0) (show [(.int .i64 (nth (lget v0_b4_0 v1_67) v3_74) : Value)][0]? = some _ from rfl))) ?_
          refine s_pure 10 (.int .i64 v3_74) (by kernel_rfl) (by kernel_rfl) (fun _ => by kernel_rfl) ?_
          refine s_pure 11 (.int .i64 (nth (lget v0_b4_0 v1_67) v3_74)) (by kernel_rfl) (by kernel_rfl) (fun _ => by kernel_rfl) ?_
          refine ops_end ?_
          refine At.env [(5, .pointer (some ⟨b1_0, 0, none⟩)), (6, .pointer (some ⟨b4_0, 0, none⟩)), (9, .int .i64 v1_67), (10, .int .i64 v3_74), (11, .int .i64 (nth (lget v0_b4_0 v1_67) v3_74)), (67, .int .i64 v1_67), (72, .slice a17_2 (List.length (lget v0_b4_0 v1_67)) c17_2), (73, .int .i64 (((List.length (lget v0_b4_0 v1_67)) : Nat) : Int)), (74, .int .i64 v3_74)] ⟨by kernel_rfl, by kernel_rfl, by kernel_rfl, by kernel_rfl, by kernel_rfl, by kernel_rfl, by kernel_rfl, by kernel_rfl, by kernel_rfl, trivial⟩ ?_
          refine at_then_normal ?_
          refine at_seq (x := C10 [1,1,1,1,1,0,1,0,0,1,1,0,0,1,0,1,0,0,1,1,0,0,1,0]) (y := C10 [1,1,1,1,1,0,1,0,0,1,1,0,0,1,0,1,0,0,1,1,0,0,1,1]) (by kernel_rfl) ?_
          refine at_seq (x := C10 [1,1,1,1,1,0,1,0,0,1,1,0,0,1,0,1,0,0,1,1,0,0,1,0,0]) (y := C10 [1,1,1,1,1,0,1,0,0,1,1,0,0,1,0,1,0,0,1,1,0,0,1,0,1]) (by kernel_rfl) ?_
          refine at_region_draw (id := 20) (by kernel_rfl) (by kernel_rfl) ?_
          refine d_pure 0 79 (.pointer (some ⟨b1_0, 0, none⟩)) (by kernel_rfl) (by kernel_rfl) (by kernel_rfl) (fun _ => by kernel_rfl) ?_
          refine d_pure 1 80 (.int .i64 v1_67) (by kernel_rfl) (by kernel_rfl) (by kernel_rfl) (fun _ => by kernel_rfl) ?_
          refine d_pure 3 82 (.int .i64 (nth (lget v0_b4_0 v1_67) v3_74)) (by kernel_rfl) (by kernel_rfl) (by kernel_rfl) (fun _ => by kernel_rfl) ?_
          obtain ⟨y20_2, hy20_2, H⟩ := bindE H
          refine d_call 2 81 [0, 1] [3] [] 17 #[.pointer (some ⟨b1_0, 0, none⟩), .int .i64 v1_67] (by kernel_rfl) (by kernel_rfl) (by kernel_rfl) (fun _ => by kernel_rfl) (Tr.conv (Γ' := (TurnsA b1_0 v3_b1_0) :: (IntsA a17_2 c17_2 (lget v0_b4_0 v1_67)) :: (ListsX b4_0 72 v0_b4_0 v1_67 a17_2 c17_2) :: Γ) (fun w hw => (Sat.less (.take (.there (.there .here)) (.take .here (.take .here .refl))) hw)) (TOwnerF_tr b1_0 v3_b1_0 v1_67 y20_2 hy20_2)) ?_
          rintro _ _ ⟨rfl, rfl⟩
          refine ⟨stable_nil, ?_⟩
          refine d_pure 4 83 (.bool (!(decide (y20_2 = (nth (lget v0_b4_0 v1_67) v3_74))))) (by kernel_rfl) (by kernel_rfl) (by kernel_rfl) (fun _ => by kernel_rfl) ?_
          rcases Bool.eq_false_or_eq_true (!(decide (y20_2 = (nth (lget v0_b4_0 v1_67) v3_74)))) with h8 | h8
          · replace H := bifT H h8
            refine d_pure 5 84 (.bool true) (by kernel_rfl) (by kernel_rfl) (by kernel_rfl) (run_eq (v := .bool (!(decide (y20_2 = (nth (lget v0_b4_0 v1_67) v3_74))))) (fun _ => by kernel_rfl) (congrArg Value.bool h8)) ?_
            refine d_off 6 85 (by kernel_rfl) (by kernel_rfl) (by kernel_rfl) ?_
            refine d_off 7 86 (by kernel_rfl) (by kernel_rfl) (by kernel_rfl) ?_
            refine d_off 8 87 (by kernel_rfl) (by kernel_rfl) (by kernel_rfl) ?_
            refine d_off 9 88 (by kernel_rfl) (by kernel_rfl) (by kernel_rfl) ?_
            refine d_off 10 89 (by kernel_rfl) (by kernel_rfl) (by kernel_rfl) ?_
            refine d_off 11 90 (by kernel_rfl) (by kernel_rfl) (by kernel_rfl) ?_
            refine d_off 12 91 (by kernel_rfl) (by kernel_rfl) (by kernel_rfl) ?_
            refine d_off 13 92 (by kernel_rfl) (by kernel_rfl) (by kernel_rfl) ?_
            refine d_off 14 93 (by kernel_rfl) (by kernel_rfl) (by kernel_rfl) ?_
            refine d_off 15 94 (by kernel_rfl) (by kernel_rfl) (by kernel_rfl) ?_
            refine d_off 16 95 (by kernel_rfl) (by kernel_rfl) (by kernel_rfl) ?_
            refine d_pure 17 96 (.bool true) (by kernel_rfl) (by kernel_rfl) (by kernel_rfl) (fun _ => by kernel_rfl) ?_
            refine draw_end (by kernel_rfl) ?_
            refine At.env [(5, .pointer (some ⟨b1_0, 0, none⟩)), (6, .pointer (some ⟨b4_0, 0, none⟩)), (9, .int .i64 v1_67), (10, .int .i64 v3_74), (11, .int .i64 (nth (lget v0_b4_0 v1_67) v3_74)), (67, .int .i64 v1_67), (72, .slice a17_2 (List.length (lget v0_b4_0 v1_67)) c17_2), (73, .int .i64 (((List.length (lget v0_b4_0 v1_67)) : Nat) : Int)), (74, .int .i64 v3_74), (79, .pointer (some ⟨b1_0, 0, none⟩)), (80, .int .i64 v1_67), (81, .int .i64 y20_2), (82, .int .i64 (nth (lget v0_b4_0 v1_67) v3_74)), (83, .bool (!(decide (y20_2 = (nth (lget v0_b4_0 v1_67) v3_74))))), (84, .bool true), (96, .bool true)] ⟨by kernel_rfl, by kernel_rfl, by kernel_rfl, by kernel_rfl, by kernel_rfl, by kernel_rfl, by kernel_rfl, by kernel_rfl, by kernel_rfl, by kernel_rfl, by kernel_rfl, by kernel_rfl, by kernel_rfl, by kernel_rfl, by kernel_rfl, by kernel_rfl, trivial⟩ ?_
            refine at_then_normal ?_
            refine at_true (t := true) (x := C10 [1,1,1,1,1,0,1,0,0,1,1,0,0,1,0,1,0,0,1,1,0,0,1,0,1,0]) (y := C10 [1,1,1,1,1,0,1,0,0,1,1,0,0,1,0,1,0,0,1,1,0,0,1,0,1,1]) (o := .tmp 96) (by kernel_rfl) (by kernel_rfl) (by kernel_rfl) rfl ?_
            refine at_seq (x := C10 [1,1,1,1,1,0,1,0,0,1,1,0,0,1,0,1,0,0,1,1,0,0,1,0,1,0,0]) (y := C10 [1,1,1,1,1,0,1,0,0,1,1,0,0,1,0,1,0,0,1,1,0,0,1,0,1,0,1]) (by kernel_rfl) ?_
            refine at_region (id := 21) 1 (by kernel_rfl) (by kernel_rfl) ?_
            refine s_pure 4 (.bool false) (by kernel_rfl) (by kernel_rfl) (fun _ => by kernel_rfl) ?_
            refine ops_end ?_
            refine At.env [(4, .bool false)] ⟨by kernel_rfl, trivial⟩ ?_
            refine at_then_normal ?_
            refine at_ret (by kernel_rfl) ?_
            refine at_then_ret ?_
            refine at_in_ret ?_
            refine at_then_ret ?_
            refine at_then_ret ?_
            refine at_in_ret ?_
            refine at_then_ret ?_
            refine at_in_ret ?_
            refine at_then_ret ?_
            refine at_then_ret ?_
            refine at_in_ret ?_
            refine at_then_ret ?_
            obtain rfl := someE H
            refine at_backR [.bool false] (Γ) (rs := [.tmp 4]) (by kernel_rfl) (.cons (.tmp (by kernel_rfl)) .nil) (fun w hw => (Sat.less (.drop .here (.drop .here (.drop .here .refl))) hw)) ?_
            exact ⟨rfl, rfl⟩
          · replace H := bifF H h8
            refine d_pure 5 84 (.bool false) (by kernel_rfl) (by kernel_rfl) (by kernel_rfl) (run_eq (v := .bool (!(decide (y20_2 = (nth (lget v0_b4_0 v1_67) v3_74))))) (fun _ => by kernel_rfl) (congrArg Value.bool h8)) ?_
            refine d_pure 6 85 (.pointer (some ⟨b1_0, 0, none⟩)) (by kernel_rfl) (by kernel_rfl) (by kernel_rfl) (fun _ => by kernel_rfl) ?_
            refine d_pure 7 86 (.int .i64 v1_67) (by kernel_rfl) (by kernel_rfl) (by kernel_rfl) (fun _ => by kernel_rfl) ?_
            refine d_pure 9 88 (.int .i64 v1_67) (by kernel_rfl) (by kernel_rfl) (by kernel_rfl) (fun _ => by kernel_rfl) ?_
            obtain ⟨hc20_10_0, H⟩ := chkE H
            refine d_pure 10 89 (.pointer (some ⟨b4_0, (v1_67).toNat, none⟩)) (by kernel_rfl) (by kernel_rfl) (by kernel_rfl) (index_arr (t := 72) (E := 22) (m := 3) (tinfo 22) (fun _ => by kernel_rfl) (by kernel_rfl) (by kernel_rfl) (by kernel_rfl) hc20_10_0.1) ?_
            refine d_load 11 90 (.slice a17_2 (List.length (lget v0_b4_0 v1_67)) c17_2) (by kernel_rfl) (by kernel_rfl) (by kernel_rfl) (lists_load (i := v1_67) (fun _ => by kernel_rfl) (.there (.there .here))) ?_
            refine d_pure 12 91 (.int .i64 (((List.length (lget v0_b4_0 v1_67)) : Nat) : Int)) (by kernel_rfl) (by kernel_rfl) (by kernel_rfl) (fun _ => by kernel_rfl) ?_
            obtain ⟨u20_13, hu20_13, H⟩ := letE H
            refine d_pure 13 92 (.int .i64 u20_13) (by kernel_rfl) (by kernel_rfl) (by kernel_rfl) (run_eq (v := .int .i64 (wr ((((List.length (lget v0_b4_0 v1_67)) : Nat) : Int) - (1 : Int)))) (fun _ => by kernel_rfl) (by rw [hu20_13])) ?_
            refine d_pure 14 93 (.int .i64 v3_74) (by kernel_rfl) (by kernel_rfl) (by kernel_rfl) (fun _ => by kernel_rfl) ?_
            refine d_pure 15 94 (.int .i64 (wr (u20_13 - v3_74))) (by kernel_rfl) (by kernel_rfl) (by kernel_rfl) (fun _ => by kernel_rfl) ?_
            obtain ⟨y20_8, hy20_8, H⟩ := bindE H
            refine d_call 8 87 [6, 7, 5, 4, 2, 3, 0, 1] [15, 14, 13, 12, 10, 9] [11] 14 #[.pointer (some ⟨b1_0, 0, none⟩), .int .i64 v1_67] (by kernel_rfl) (by kernel_rfl) (by kernel_rfl) (fun _ => by kernel_rfl) (TWaitingF_tr b1_0 v3_b1_0 v1_67 y20_8 hy20_8) ?_
            rintro _ _ ⟨rfl, rfl⟩
            refine ⟨(stable_cons 11 90 (.slice a17_2 (List.length (lget v0_b4_0 v1_67)) c17_2) (by kernel_rfl) (by kernel_rfl) (by kernel_rfl) (lists_load (i := v1_67) (fun _ => by kernel_rfl) (.there (.there .here))) stable_nil), ?_⟩
            refine d_pure 16 95 (.bool (!(decide (y20_8 = (wr (u20_13 - v3_74)))))) (by kernel_rfl) (by kernel_rfl) (by kernel_rfl) (fun _ => by kernel_rfl) ?_
            refine d_pure 17 96 (.bool (!(decide (y20_8 = (wr (u20_13 - v3_74)))))) (by kernel_rfl) (by kernel_rfl) (by kernel_rfl) (fun _ => by kernel_rfl) ?_
            refine draw_end (by kernel_rfl) ?_
            refine At.env [(5, .pointer (some ⟨b1_0, 0, none⟩)), (6, .pointer (some ⟨b4_0, 0, none⟩)), (9, .int .i64 v1_67), (10, .int .i64 v3_74), (11, .int .i64 (nth (lget v0_b4_0 v1_67) v3_74)), (67, .int .i64 v1_67), (72, .slice a17_2 (List.length (lget v0_b4_0 v1_67)) c17_2), (73, .int .i64 (((List.length (lget v0_b4_0 v1_67)) : Nat) : Int)), (74, .int .i64 v3_74), (79, .pointer (some ⟨b1_0, 0, none⟩)), (80, .int .i64 v1_67), (81, .int .i64 y20_2), (82, .int .i64 (nth (lget v0_b4_0 v1_67) v3_74)), (83, .bool (!(decide (y20_2 = (nth (lget v0_b4_0 v1_67) v3_74))))), (84, .bool false), (85, .pointer (some ⟨b1_0, 0, none⟩)), (86, .int .i64 v1_67), (87, .int .i64 y20_8), (88, .int .i64 v1_67), (89, .pointer (some ⟨b4_0, (v1_67).toNat, none⟩)), (90, .slice a17_2 (List.length (lget v0_b4_0 v1_67)) c17_2), (91, .int .i64 (((List.length (lget v0_b4_0 v1_67)) : Nat) : Int)), (92, .int .i64 u20_13), (93, .int .i64 v3_74), (94, .int .i64 (wr (u20_13 - v3_74))), (95, .bool (!(decide (y20_8 = (wr (u20_13 - v3_74)))))), (96, .bool (!(decide (y20_8 = (wr (u20_13 - v3_74))))))] ⟨by kernel_rfl, by kernel_rfl, by kernel_rfl, by kernel_rfl, by kernel_rfl, by kernel_rfl, by kernel_rfl, by kernel_rfl, by kernel_rfl, by kernel_rfl, by kernel_rfl, by kernel_rfl, by kernel_rfl, by kernel_rfl, by kernel_rfl, by kernel_rfl, by kernel_rfl, by kernel_rfl, by kernel_rfl, by kernel_rfl, by kernel_rfl, by kernel_rfl, by kernel_rfl, by kernel_rfl, by kernel_rfl, by kernel_rfl, by kernel_rfl, trivial⟩ ?_
            refine at_then_normal ?_
            rcases Bool.eq_false_or_eq_true (!(decide (y20_8 = (wr (u20_13 - v3_74))))) with h9 | h9
            · replace H := bifT H h9
              refine at_true (t := !(decide (y20_8 = (wr (u20_13 - v3_74))))) (x := C10 [1,1,1,1,1,0,1,0,0,1,1,0,0,1,0,1,0,0,1,1,0,0,1,0,1,0]) (y := C10 [1,1,1,1,1,0,1,0,0,1,1,0,0,1,0,1,0,0,1,1,0,0,1,0,1,1]) (o := .tmp 96) (by kernel_rfl) (by kernel_rfl) (by kernel_rfl) h9 ?_
              refine at_seq (x := C10 [1,1,1,1,1,0,1,0,0,1,1,0,0,1,0,1,0,0,1,1,0,0,1,0,1,0,0]) (y := C10 [1,1,1,1,1,0,1,0,0,1,1,0,0,1,0,1,0,0,1,1,0,0,1,0,1,0,1]) (by kernel_rfl) ?_
              refine at_region (id := 21) 1 (by kernel_rfl) (by kernel_rfl) ?_
              refine s_pure 4 (.bool false) (by kernel_rfl) (by kernel_rfl) (fun _ => by kernel_rfl) ?_
              refine ops_end ?_
              refine At.env [(4, .bool false)] ⟨by kernel_rfl, trivial⟩ ?_
              refine at_then_normal ?_
              refine at_ret (by kernel_rfl) ?_
              refine at_then_ret ?_
              refine at_in_ret ?_
              refine at_then_ret ?_
              refine at_then_ret ?_
              refine at_in_ret ?_
              refine at_then_ret ?_
              refine at_in_ret ?_
              refine at_then_ret ?_
              refine at_then_ret ?_
              refine at_in_ret ?_
              refine at_then_ret ?_
              obtain rfl := someE H
              refine at_backR [.bool false] (Γ) (rs := [.tmp 4]) (by kernel_rfl) (.cons (.tmp (by kernel_rfl)) .nil) (fun w hw => (Sat.less (.drop .here (.drop .here (.drop .here .refl))) hw)) ?_
              exact ⟨rfl, rfl⟩
            · replace H := bifF H h9
              refine at_false (t := !(decide (y20_8 = (wr (u20_13 - v3_74))))) (x := C10 [1,1,1,1,1,0,1,0,0,1,1,0,0,1,0,1,0,0,1,1,0,0,1,0,1,0]) (y := C10 [1,1,1,1,1,0,1,0,0,1,1,0,0,1,0,1,0,0,1,1,0,0,1,0,1,1]) (o := .tmp 96) (by kernel_rfl) (by kernel_rfl) (by kernel_rfl) h9 ?_
              refine at_skip (by kernel_rfl) ?_
              refine at_then_normal ?_
              refine at_seq (x := C10 [1,1,1,1,1,0,1,0,0,1,1,0,0,1,0,1,0,0,1,1,0,0,1,1,0]) (y := C10 [1,1,1,1,1,0,1,0,0,1,1,0,0,1,0,1,0,0,1,1,0,0,1,1,1]) (by kernel_rfl) ?_
              refine at_seq (x := C10 [1,1,1,1,1,0,1,0,0,1,1,0,0,1,0,1,0,0,1,1,0,0,1,1,0,0]) (y := C10 [1,1,1,1,1,0,1,0,0,1,1,0,0,1,0,1,0,0,1,1,0,0,1,1,0,1]) (by kernel_rfl) ?_
              refine at_region (id := 22) 10 (by kernel_rfl) (by kernel_rfl) ?_
              refine s_pure 98 (.pointer (some ⟨b1_0, 0, none⟩)) (by kernel_rfl) (by kernel_rfl) (fun _ => by kernel_rfl) ?_
              refine s_pure 99 (.int .i64 v1_67) (by kernel_rfl) (by kernel_rfl) (fun _ => by kernel_rfl) ?_
              obtain ⟨y22_2, hy22_2, H⟩ := bindE H
              refine s_call 100 16 #[.pointer (some ⟨b1_0, 0, none⟩), .int .i64 v1_67] (by kernel_rfl) (by kernel_rfl) (fun _ => by kernel_rfl) (TNextF_tr b1_0 v3_b1_0 v1_67 y22_2 hy22_2) ?_
              rintro _ _ ⟨rfl, rfl⟩
              refine s_pure 97 (.tuple #[.int .i64 y22_2.1, .int .i64 y22_2.2.1, .bool y22_2.2.2.1]) (by kernel_rfl) (by kernel_rfl) (fun _ => by kernel_rfl) ?_
              refine s_pure 101 (.int .i64 y22_2.1) (by kernel_rfl) (by kernel_rfl) (fun _ => by kernel_rfl) ?_
              refine s_pure 102 (.int .i64 y22_2.2.1) (by kernel_rfl) (by kernel_rfl) (fun _ => by kernel_rfl) ?_
              refine s_pure 103 (.bool y22_2.2.2.1) (by kernel_rfl) (by kernel_rfl) (fun _ => by kernel_rfl) ?_
              refine s_pure 12 (.int .i64 y22_2.1) (by kernel_rfl) (by kernel_rfl) (fun _ => by kernel_rfl) ?_
              refine s_pure 13 (.int .i64 y22_2.2.1) (by kernel_rfl) (by kernel_rfl) (fun _ => by kernel_rfl) ?_
              refine s_pure 14 (.bool y22_2.2.2.1) (by kernel_rfl) (by kernel_rfl) (fun _ => by kernel_rfl) ?_
              refine ops_end ?_
              refine At.env [(5, .pointer (some ⟨b1_0, 0, none⟩)), (6, .pointer (some ⟨b4_0, 0, none⟩)), (9, .int .i64 v1_67), (10, .int .i64 v3_74), (11, .int .i64 (nth (lget v0_b4_0 v1_67) v3_74)), (14, .bool y22_2.2.2.1), (67, .int .i64 v1_67), (72, .slice a17_2 (List.length (lget v0_b4_0 v1_67)) c17_2), (73, .int .i64 (((List.length (lget v0_b4_0 v1_67)) : Nat) : Int)), (74, .int .i64 v3_74), (79, .pointer (some ⟨b1_0, 0, none⟩)), (80, .int .i64 v1_67), (81, .int .i64 y20_2), (82, .int .i64 (nth (lget v0_b4_0 v1_67) v3_74)), (83, .bool (!(decide (y20_2 = (nth (lget v0_b4_0 v1_67) v3_74))))), (84, .bool false), (85, .pointer (some ⟨b1_0, 0, none⟩)), (86, .int .i64 v1_67), (87, .int .i64 y20_8), (88, .int .i64 v1_67), (89, .pointer (some ⟨b4_0, (v1_67).toNat, none⟩)), (90, .slice a17_2 (List.length (lget v0_b4_0 v1_67)) c17_2), (91, .int .i64 (((List.length (lget v0_b4_0 v1_67)) : Nat) : Int)), (92, .int .i64 u20_13), (93, .int .i64 v3_74), (94, .int .i64 (wr (u20_13 - v3_74))), (95, .bool (!(decide (y20_8 = (wr (u20_13 - v3_74))))))] ⟨by kernel_rfl, by kernel_rfl, by kernel_rfl, by kernel_rfl, by kernel_rfl, by kernel_rfl, by kernel_rfl, by kernel_rfl, by kernel_rfl, by kernel_rfl, by kernel_rfl, by kernel_rfl, by kernel_rfl, by kernel_rfl, by kernel_rfl, by kernel_rfl, by kernel_rfl, by kernel_rfl, by kernel_rfl, by kernel_rfl, by kernel_rfl, by kernel_rfl, by kernel_rfl, by kernel_rfl, by kernel_rfl, by kernel_rfl, by kernel_rfl, trivial⟩ ?_
              refine at_then_normal ?_
              refine at_seq (x := C10 [1,1,1,1,1,0,1,0,0,1,1,0,0,1,0,1,0,0,1,1,0,0,1,1,0,1,0]) (y := C10 [1,1,1,1,1,0,1,0,0,1,1,0,0,1,0,1,0,0,1,1,0,0,1,1,0,1,1]) (by kernel_rfl) ?_
              refine at_region (id := 23) 1 (by kernel_rfl) (by kernel_rfl) ?_
              refine s_pure 104 (.bool y22_2.2.2.1) (by kernel_rfl) (by kernel_rfl) (fun _ => by kernel_rfl) ?_
              refine ops_end ?_
              refine At.env [(5, .pointer (some ⟨b1_0, 0, none⟩)), (6, .pointer (some ⟨b4_0, 0, none⟩)), (9, .int .i64 v1_67), (10, .int .i64 v3_74), (11, .int .i64 (nth (lget v0_b4_0 v1_67) v3_74)), (67, .int .i64 v1_67), (72, .slice a17_2 (List.length (lget v0_b4_0 v1_67)) c17_2), (73, .int .i64 (((List.length (lget v0_b4_0 v1_67)) : Nat) : Int)), (74, .int .i64 v3_74), (79, .pointer (some ⟨b1_0, 0, none⟩)), (80, .int .i64 v1_67), (81, .int .i64 y20_2), (82, .int .i64 (nth (lget v0_b4_0 v1_67) v3_74)), (83, .bool (!(decide (y20_2 = (nth (lget v0_b4_0 v1_67) v3_74))))), (84, .bool false), (85, .pointer (some ⟨b1_0, 0, none⟩)), (86, .int .i64 v1_67), (87, .int .i64 y20_8), (88, .int .i64 v1_67), (89, .pointer (some ⟨b4_0, (v1_67).toNat, none⟩)), (90, .slice a17_2 (List.length (lget v0_b4_0 v1_67)) c17_2), (91, .int .i64 (((List.length (lget v0_b4_0 v1_67)) : Nat) : Int)), (92, .int .i64 u20_13), (93, .int .i64 v3_74), (94, .int .i64 (wr (u20_13 - v3_74))), (95, .bool (!(decide (y20_8 = (wr (u20_13 - v3_74)))))), (104, .bool y22_2.2.2.1)] ⟨by kernel_rfl, by kernel_rfl, by kernel_rfl, by kernel_rfl, by kernel_rfl, by kernel_rfl, by kernel_rfl, by kernel_rfl, by kernel_rfl, by kernel_rfl, by kernel_rfl, by kernel_rfl, by kernel_rfl, by kernel_rfl, by kernel_rfl, by kernel_rfl, by kernel_rfl, by kernel_rfl, by kernel_rfl, by kernel_rfl, by kernel_rfl, by kernel_rfl, by kernel_rfl, by kernel_rfl, by kernel_rfl, by kernel_rfl, by kernel_rfl, trivial⟩ ?_
              refine at_then_normal ?_
              rcases Bool.eq_false_or_eq_true (y22_2.2.2.1) with h10 | h10
              · replace H := bifT H h10
                refine at_true (t := y22_2.2.2.1) (x := C10 [1,1,1,1,1,0,1,0,0,1,1,0,0,1,0,1,0,0,1,1,0,0,1,1,0,1,1,0]) (y := C10 [1,1,1,1,1,0,1,0,0,1,1,0,0,1,0,1,0,0,1,1,0,0,1,1,0,1,1,1]) (o := .tmp 104) (by kernel_rfl) (by kernel_rfl) (by kernel_rfl) h10 ?_
                refine at_seq (x := C10 [1,1,1,1,1,0,1,0,0,1,1,0,0,1,0,1,0,0,1,1,0,0,1,1,0,1,1,0,0]) (y := C10 [1,1,1,1,1,0,1,0,0,1,1,0,0,1,0,1,0,0,1,1,0,0,1,1,0,1,1,0,1]) (by kernel_rfl) ?_
                refine at_region (id := 24) 1 (by kernel_rfl) (by kernel_rfl) ?_
                refine s_pure 4 (.bool false) (by kernel_rfl) (by kernel_rfl) (fun _ => by kernel_rfl) ?_
                refine ops_end ?_
                refine At.env [(4, .bool false)] ⟨by kernel_rfl, trivial⟩ ?_
                refine at_then_normal ?_
                refine at_ret (by kernel_rfl) ?_
                refine at_then_ret ?_
                refine at_in_ret ?_
                refine at_then_ret ?_
                refine at_then_ret ?_
                refine at_in_ret ?_
                refine at_then_ret ?_
                refine at_in_ret ?_
                refine at_then_ret ?_
                refine at_then_ret ?_
                refine at_in_ret ?_
                refine at_then_ret ?_
                obtain rfl := someE H
                refine at_backR [.bool false] (Γ) (rs := [.tmp 4]) (by kernel_rfl) (.cons (.tmp (by kernel_rfl)) .nil) (fun w hw => (Sat.less (.drop .here (.drop .here (.drop .here .refl))) hw)) ?_
                exact ⟨rfl, rfl⟩
              · replace H := bifF H h10
                refine at_false (t := y22_2.2.2.1) (x := C10 [1,1,1,1,1,0,1,0,0,1,1,0,0,1,0,1,0,0,1,1,0,0,1,1,0,1,1,0]) (y := C10 [1,1,1,1,1,0,1,0,0,1,1,0,0,1,0,1,0,0,1,1,0,0,1,1,0,1,1,1]) (o := .tmp 104) (by kernel_rfl) (by kernel_rfl) (by kernel_rfl) h10 ?_
                refine at_skip (by kernel_rfl) ?_
                refine at_then_normal ?_
                refine at_seq (x := C10 [1,1,1,1,1,0,1,0,0,1,1,0,0,1,0,1,0,0,1,1,0,0,1,1,1,0]) (y := C10 [1,1,1,1,1,0,1,0,0,1,1,0,0,1,0,1,0,0,1,1,0,0,1,1,1,1]) (by kernel_rfl) ?_
                refine at_seq (x := C10 [1,1,1,1,1,0,1,0,0,1,1,0,0,1,0,1,0,0,1,1,0,0,1,1,1,0,0]) (y := C10 [1,1,1,1,1,0,1,0,0,1,1,0,0,1,0,1,0,0,1,1,0,0,1,1,1,0,1]) (by kernel_rfl) ?_
                refine at_region (id := 25) 19 (by kernel_rfl) (by kernel_rfl) ?_
                refine s_pure 105 (.pointer (some ⟨b1_0, 0, none⟩)) (by kernel_rfl) (by kernel_rfl) (fun _ => by kernel_rfl) ?_
                refine s_pure 106 (.int .i64 v1_67) (by kernel_rfl) (by kernel_rfl) (fun _ => by kernel_rfl) ?_
                refine s_pure 107 (.int .i64 (nth (lget v0_b4_0 v1_67) v3_74)) (by kernel_rfl) (by kernel_rfl) (fun _ => by kernel_rfl) ?_
                obtain ⟨u25_3, hu25_3, H⟩ := letE H
                refine s_pure 108 (.int .i64 u25_3) (by kernel_rfl) (by kernel_rfl) (run_eq (v := .int .i64 (wr ((nth (lget v0_b4_0 v1_67) v3_74) + (1 : Int)))) (fun _ => by kernel_rfl) (by rw [hu25_3])) ?_
                obtain ⟨y25_4, hy25_4, H⟩ := bindE H
                refine s_call 109 15 #[.pointer (some ⟨b1_0, 0, none⟩), .int .i64 v1_67, .int .i64 u25_3] (by kernel_rfl) (by kernel_rfl) (fun _ => by kernel_rfl) (TReleaseF_tr b1_0 y22_2.2.2.2 v1_67 u25_3 y25_4 hy25_4) ?_
                rintro _ _ ⟨rfl, rfl⟩
                refine s_pure 110 (.bool (!(decide (y25_4.1 = (6 : Int))))) (by kernel_rfl) (by kernel_rfl) (fun _ => by kernel_rfl) ?_
                rcases Bool.eq_false_or_eq_true (!(decide (y25_4.1 = (6 : Int)))) with h11 | h11
                · replace H := bifT H h11
                  refine s_pure 111 (.bool true) (by kernel_rfl) (by kernel_rfl) (run_eq (v := .bool (!(decide (y25_4.1 = (6 : Int))))) (fun _ => by kernel_rfl) (congrArg Value.bool h11)) ?_
                  refine s_pass 112 (by kernel_rfl) (by kernel_rfl) ?_
                  refine s_pass 113 (by kernel_rfl) (by kernel_rfl) ?_
                  refine s_pass 114 (by kernel_rfl) (by kernel_rfl) ?_
                  refine s_pass 115 (by kernel_rfl) (by kernel_rfl) ?_
                  refine s_pass 116 (by kernel_rfl) (by kernel_rfl) ?_
                  refine s_pure 117 (.bool true) (by kernel_rfl) (by kernel_rfl) (fun _ => by kernel_rfl) ?_
                  refine s_pure 118 (.bool true) (by kernel_rfl) (by kernel_rfl) (fun _ => by kernel_rfl) ?_
                  refine s_pass 119 (by kernel_rfl) (by kernel_rfl) ?_
                  refine s_pass 120 (by kernel_rfl) (by kernel_rfl) ?_
                  refine s_pass 121 (by kernel_rfl) (by kernel_rfl) ?_
                  refine s_pass 122 (by kernel_rfl) (by kernel_rfl) ?_
                  refine s_pure 123 (.bool true) (by kernel_rfl) (by kernel_rfl) (fun _ => by kernel_rfl) ?_
                  refine ops_end ?_
                  refine At.env [(5, .pointer (some ⟨b1_0, 0, none⟩)), (6, .pointer (some ⟨b4_0, 0, none⟩)), (9, .int .i64 v1_67), (10, .int .i64 v3_74), (67, .int .i64 v1_67), (72, .slice a17_2 (List.length (lget v0_b4_0 v1_67)) c17_2), (73, .int .i64 (((List.length (lget v0_b4_0 v1_67)) : Nat) : Int)), (74, .int .i64 v3_74), (79, .pointer (some ⟨b1_0, 0, none⟩)), (80, .int .i64 v1_67), (81, .int .i64 y20_2), (82, .int .i64 (nth (lget v0_b4_0 v1_67) v3_74)), (83, .bool (!(decide (y20_2 = (nth (lget v0_b4_0 v1_67) v3_74))))), (84, .bool false), (85, .pointer (some ⟨b1_0, 0, none⟩)), (86, .int .i64 v1_67), (87, .int .i64 y20_8), (88, .int .i64 v1_67), (89, .pointer (some ⟨b4_0, (v1_67).toNat, none⟩)), (90, .slice a17_2 (List.length (lget v0_b4_0 v1_67)) c17_2), (91, .int .i64 (((List.length (lget v0_b4_0 v1_67)) : Nat) : Int)), (92, .int .i64 u20_13), (93, .int .i64 v3_74), (94, .int .i64 (wr (u20_13 - v3_74))), (95, .bool (!(decide (y20_8 = (wr (u20_13 - v3_74)))))), (123, .bool true)] ⟨by kernel_rfl, by kernel_rfl, by kernel_rfl, by kernel_rfl, by kernel_rfl, by kernel_rfl, by kernel_rfl, by kernel_rfl, by kernel_rfl, by kernel_rfl, by kernel_rfl, by kernel_rfl, by kernel_rfl, by kernel_rfl, by kernel_rfl, by kernel_rfl, by kernel_rfl, by kernel_rfl, by kernel_rfl, by kernel_rfl, by kernel_rfl, by kernel_rfl, by kernel_rfl, by kernel_rfl, by kernel_rfl, by kernel_rfl, trivial⟩ ?_
                  refine at_then_normal ?_
                  refine at_true (t := true) (x := C10 [1,1,1,1,1,0,1,0,0,1,1,0,0,1,0,1,0,0,1,1,0,0,1,1,1,0,1,0]) (y := C10 [1,1,1,1,1,0,1,0,0,1,1,0,0,1,0,1,0,0,1,1,0,0,1,1,1,0,1,1]) (o := .tmp 123) (by kernel_rfl) (by kernel_rfl) (by kernel_rfl) rfl ?_
                  refine at_seq (x := C10 [1,1,1,1,1,0,1,0,0,1,1,0,0,1,0,1,0,0,1,1,0,0,1,1,1,0,1,0,0]) (y := C10 [1,1,1,1,1,0,1,0,0,1,1,0,0,1,0,1,0,0,1,1,0,0,1,1,1,0,1,0,1]) (by kernel_rfl) ?_
                  refine at_region (id := 26) 1 (by kernel_rfl) (by kernel_rfl) ?_
                  refine s_pure 4 (.bool false) (by kernel_rfl) (by kernel_rfl) (fun _ => by kernel_rfl) ?_
                  refine ops_end ?_
                  refine At.env [(4, .bool false)] ⟨by kernel_rfl, trivial⟩ ?_
                  refine at_then_normal ?_
                  refine at_ret (by kernel_rfl) ?_
                  refine at_then_ret ?_
                  refine at_in_ret ?_
                  refine at_then_ret ?_
                  refine at_then_ret ?_
                  refine at_in_ret ?_
                  refine at_then_ret ?_
                  refine at_in_ret ?_
                  refine at_then_ret ?_
                  refine at_then_ret ?_
                  refine at_in_ret ?_
                  refine at_then_ret ?_
                  obtain rfl := someE H
                  refine at_backR [.bool false] (Γ) (rs := [.tmp 4]) (by kernel_rfl) (.cons (.tmp (by kernel_rfl)) .nil) (fun w hw => (Sat.less (.drop .here (.drop .here (.drop .here .refl))) hw)) ?_
                  exact ⟨rfl, rfl⟩
                · replace H := bifF H h11
                  refine s_pure 111 (.bool false) (by kernel_rfl) (by kernel_rfl) (run_eq (v := .bool (!(decide (y25_4.1 = (6 : Int))))) (fun _ => by kernel_rfl) (congrArg Value.bool h11)) ?_
                  refine s_pure 112 (.pointer (some ⟨b1_0, 0, none⟩)) (by kernel_rfl) (by kernel_rfl) (fun _ => by kernel_rfl) ?_
                  refine s_pure 113 (.int .i64 v1_67) (by kernel_rfl) (by kernel_rfl) (fun _ => by kernel_rfl) ?_
                  refine s_pure 114 (.int .i64 (nth (lget v0_b4_0 v1_67) v3_74)) (by kernel_rfl) (by kernel_rfl) (fun _ => by kernel_rfl) ?_
                  obtain ⟨y25_10, hy25_10, H⟩ := bindE H
                  refine s_call 115 15 #[.pointer (some ⟨b1_0, 0, none⟩), .int .i64 v1_67, .int .i64 (nth (lget v0_b4_0 v1_67) v3_74)] (by kernel_rfl) (by kernel_rfl) (fun _ => by kernel_rfl) (TReleaseF_tr b1_0 y25_4.2 v1_67 (nth (lget v0_b4_0 v1_67) v3_74) y25_10 hy25_10) ?_
                  rintro _ _ ⟨rfl, rfl⟩
                  refine s_pure 116 (.bool (!(decide (y25_10.1 = (0 : Int))))) (by kernel_rfl) (by kernel_rfl) (fun _ => by kernel_rfl) ?_
                  refine s_pure 117 (.bool (!(decide (y25_10.1 = (0 : Int))))) (by kernel_rfl) (by kernel_rfl) (fun _ => by kernel_rfl) ?_
                  rcases Bool.eq_false_or_eq_true (!(decide (y25_10.1 = (0 : Int)))) with h12 | h12
                  · replace H := bifT H h12
                    refine s_pure 118 (.bool true) (by kernel_rfl) (by kernel_rfl) (run_eq (v := .bool (!(decide (y25_10.1 = (0 : Int))))) (fun _ => by kernel_rfl) (congrArg Value.bool h12)) ?_
                    refine s_pass 119 (by kernel_rfl) (by kernel_rfl) ?_
                    refine s_pass 120 (by kernel_rfl) (by kernel_rfl) ?_
                    refine s_pass 121 (by kernel_rfl) (by kernel_rfl) ?_
                    refine s_pass 122 (by kernel_rfl) (by kernel_rfl) ?_
                    refine s_pure 123 (.bool true) (by kernel_rfl) (by kernel_rfl) (fun _ => by kernel_rfl) ?_
                    refine ops_end ?_
                    refine At.env [(5, .pointer (some ⟨b1_0, 0, none⟩)), (6, .pointer (some ⟨b4_0, 0, none⟩)), (9, .int .i64 v1_67), (10, .int .i64 v3_74), (67, .int .i64 v1_67), (72, .slice a17_2 (List.length (lget v0_b4_0 v1_67)) c17_2), (73, .int .i64 (((List.length (lget v0_b4_0 v1_67)) : Nat) : Int)), (74, .int .i64 v3_74), (79, .pointer (some ⟨b1_0, 0, none⟩)), (80, .int .i64 v1_67), (81, .int .i64 y20_2), (82, .int .i64 (nth (lget v0_b4_0 v1_67) v3_74)), (83, .bool (!(decide (y20_2 = (nth (lget v0_b4_0 v1_67) v3_74))))), (84, .bool false), (85, .pointer (some ⟨b1_0, 0, none⟩)), (86, .int .i64 v1_67), (87, .int .i64 y20_8), (88, .int .i64 v1_67), (89, .pointer (some ⟨b4_0, (v1_67).toNat, none⟩)), (90, .slice a17_2 (List.length (lget v0_b4_0 v1_67)) c17_2), (91, .int .i64 (((List.length (lget v0_b4_0 v1_67)) : Nat) : Int)), (92, .int .i64 u20_13), (93, .int .i64 v3_74), (94, .int .i64 (wr (u20_13 - v3_74))), (95, .bool (!(decide (y20_8 = (wr (u20_13 - v3_74)))))), (123, .bool true)] ⟨by kernel_rfl, by kernel_rfl, by kernel_rfl, by kernel_rfl, by kernel_rfl, by kernel_rfl, by kernel_rfl, by kernel_rfl, by kernel_rfl, by kernel_rfl, by kernel_rfl, by kernel_rfl, by kernel_rfl, by kernel_rfl, by kernel_rfl, by kernel_rfl, by kernel_rfl, by kernel_rfl, by kernel_rfl, by kernel_rfl, by kernel_rfl, by kernel_rfl, by kernel_rfl, by kernel_rfl, by kernel_rfl, by kernel_rfl, trivial⟩ ?_
                    refine at_then_normal ?_
                    refine at_true (t := true) (x := C10 [1,1,1,1,1,0,1,0,0,1,1,0,0,1,0,1,0,0,1,1,0,0,1,1,1,0,1,0]) (y := C10 [1,1,1,1,1,0,1,0,0,1,1,0,0,1,0,1,0,0,1,1,0,0,1,1,1,0,1,1]) (o := .tmp 123) (by kernel_rfl) (by kernel_rfl) (by kernel_rfl) rfl ?_
                    refine at_seq (x := C10 [1,1,1,1,1,0,1,0,0,1,1,0,0,1,0,1,0,0,1,1,0,0,1,1,1,0,1,0,0]) (y := C10 [1,1,1,1,1,0,1,0,0,1,1,0,0,1,0,1,0,0,1,1,0,0,1,1,1,0,1,0,1]) (by kernel_rfl) ?_
                    refine at_region (id := 26) 1 (by kernel_rfl) (by kernel_rfl) ?_
                    refine s_pure 4 (.bool false) (by kernel_rfl) (by kernel_rfl) (fun _ => by kernel_rfl) ?_
                    refine ops_end ?_
                    refine At.env [(4, .bool false)] ⟨by kernel_rfl, trivial⟩ ?_
                    refine at_then_normal ?_
                    refine at_ret (by kernel_rfl) ?_
                    refine at_then_ret ?_
                    refine at_in_ret ?_
                    refine at_then_ret ?_
                    refine at_then_ret ?_
                    refine at_in_ret ?_
                    refine at_then_ret ?_
                    refine at_in_ret ?_
                    refine at_then_ret ?_
                    refine at_then_ret ?_
                    refine at_in_ret ?_
                    refine at_then_ret ?_
                    obtain rfl := someE H
                    refine at_backR [.bool false] (Γ) (rs := [.tmp 4]) (by kernel_rfl) (.cons (.tmp (by kernel_rfl)) .nil) (fun w hw => (Sat.less (.drop .here (.drop .here (.drop .here .refl))) hw)) ?_
                    exact ⟨rfl, rfl⟩
                  · replace H := bifF H h12
                    refine s_pure 118 (.bool false) (by kernel_rfl) (by kernel_rfl) (run_eq (v := .bool (!(decide (y25_10.1 = (0 : Int))))) (fun _ => by kernel_rfl) (congrArg Value.bool h12)) ?_
                    refine s_pure 119 (.pointer (some ⟨b1_0, 0, none⟩)) (by kernel_rfl) (by kernel_rfl) (fun _ => by kernel_rfl) ?_
                    refine s_pure 120 (.int .i64 v1_67) (by kernel_rfl) (by kernel_rfl) (fun _ => by kernel_rfl) ?_
                    obtain ⟨y25_16, hy25_16, H⟩ := bindE H
                    refine s_call 121 17 #[.pointer (some ⟨b1_0, 0, none⟩), .int .i64 v1_67] (by kernel_rfl) (by kernel_rfl) (fun _ => by kernel_rfl) (TOwnerF_tr b1_0 y25_10.2 v1_67 y25_16 hy25_16) ?_
                    rintro _ _ ⟨rfl, rfl⟩
                    refine s_pure 122 (.bool (!(decide (y25_16 = ((-1) : Int))))) (by kernel_rfl) (by kernel_rfl) (fun _ => by kernel_rfl) ?_
                    refine s_pure 123 (.bool (!(decide (y25_16 = ((-1) : Int))))) (by kernel_rfl) (by kernel_rfl) (fun _ => by kernel_rfl) ?_
                    refine ops_end ?_
                    refine At.env [(5, .pointer (some ⟨b1_0, 0, none⟩)), (6, .pointer (some ⟨b4_0, 0, none⟩)), (9, .int .i64 v1_67), (10, .int .i64 v3_74), (67, .int .i64 v1_67), (72, .slice a17_2 (List.length (lget v0_b4_0 v1_67)) c17_2), (73, .int .i64 (((List.length (lget v0_b4_0 v1_67)) : Nat) : Int)), (74, .int .i64 v3_74), (79, .pointer (some ⟨b1_0, 0, none⟩)), (80, .int .i64 v1_67), (81, .int .i64 y20_2), (82, .int .i64 (nth (lget v0_b4_0 v1_67) v3_74)), (83, .bool (!(decide (y20_2 = (nth (lget v0_b4_0 v1_67) v3_74))))), (84, .bool false), (85, .pointer (some ⟨b1_0, 0, none⟩)), (86, .int .i64 v1_67), (87, .int .i64 y20_8), (88, .int .i64 v1_67), (89, .pointer (some ⟨b4_0, (v1_67).toNat, none⟩)), (90, .slice a17_2 (List.length (lget v0_b4_0 v1_67)) c17_2), (91, .int .i64 (((List.length (lget v0_b4_0 v1_67)) : Nat) : Int)), (92, .int .i64 u20_13), (93, .int .i64 v3_74), (94, .int .i64 (wr (u20_13 - v3_74))), (95, .bool (!(decide (y20_8 = (wr (u20_13 - v3_74)))))), (123, .bool (!(decide (y25_16 = ((-1) : Int)))))] ⟨by kernel_rfl, by kernel_rfl, by kernel_rfl, by kernel_rfl, by kernel_rfl, by kernel_rfl, by kernel_rfl, by kernel_rfl, by kernel_rfl, by kernel_rfl, by kernel_rfl, by kernel_rfl, by kernel_rfl, by kernel_rfl, by kernel_rfl, by kernel_rfl, by kernel_rfl, by kernel_rfl, by kernel_rfl, by kernel_rfl, by kernel_rfl, by kernel_rfl, by kernel_rfl, by kernel_rfl, by kernel_rfl, by kernel_rfl, trivial⟩ ?_
                    refine at_then_normal ?_
                    rcases Bool.eq_false_or_eq_true (!(decide (y25_16 = ((-1) : Int)))) with h13 | h13
                    · replace H := bifT H h13
                      refine at_true (t := !(decide (y25_16 = ((-1) : Int)))) (x := C10 [1,1,1,1,1,0,1,0,0,1,1,0,0,1,0,1,0,0,1,1,0,0,1,1,1,0,1,0]) (y := C10 [1,1,1,1,1,0,1,0,0,1,1,0,0,1,0,1,0,0,1,1,0,0,1,1,1,0,1,1]) (o := .tmp 123) (by kernel_rfl) (by kernel_rfl) (by kernel_rfl) h13 ?_
                      refine at_seq (x := C10 [1,1,1,1,1,0,1,0,0,1,1,0,0,1,0,1,0,0,1,1,0,0,1,1,1,0,1,0,0]) (y := C10 [1,1,1,1,1,0,1,0,0,1,1,0,0,1,0,1,0,0,1,1,0,0,1,1,1,0,1,0,1]) (by kernel_rfl) ?_
                      refine at_region (id := 26) 1 (by kernel_rfl) (by kernel_rfl) ?_
                      refine s_pure 4 (.bool false) (by kernel_rfl) (by kernel_rfl) (fun _ => by kernel_rfl) ?_
                      refine ops_end ?_
                      refine At.env [(4, .bool false)] ⟨by kernel_rfl, trivial⟩ ?_
                      refine at_then_normal ?_
                      refine at_ret (by kernel_rfl) ?_
                      refine at_then_ret ?_
                      refine at_in_ret ?_
                      refine at_then_ret ?_
                      refine at_then_ret ?_
                      refine at_in_ret ?_
                      refine at_then_ret ?_
                      refine at_in_ret ?_
                      refine at_then_ret ?_
                      refine at_then_ret ?_
                      refine at_in_ret ?_
                      refine at_then_ret ?_
                      obtain rfl := someE H
                      refine at_backR [.bool false] (Γ) (rs := [.tmp 4]) (by kernel_rfl) (.cons (.tmp (by kernel_rfl)) .nil) (fun w hw => (Sat.less (.drop .here (.drop .here (.drop .here .refl))) hw)) ?_
                      exact ⟨rfl, rfl⟩
                    · replace H := bifF H h13
                      refine at_false (t := !(decide (y25_16 = ((-1) : Int)))) (x := C10 [1,1,1,1,1,0,1,0,0,1,1,0,0,1,0,1,0,0,1,1,0,0,1,1,1,0,1,0]) (y := C10 [1,1,1,1,1,0,1,0,0,1,1,0,0,1,0,1,0,0,1,1,0,0,1,1,1,0,1,1]) (o := .tmp 123) (by kernel_rfl) (by kernel_rfl) (by kernel_rfl) h13 ?_
                      refine at_skip (by kernel_rfl) ?_
                      refine at_then_normal ?_
                      refine at_seq (x := C10 [1,1,1,1,1,0,1,0,0,1,1,0,0,1,0,1,0,0,1,1,0,0,1,1,1,1,0]) (y := C10 [1,1,1,1,1,0,1,0,0,1,1,0,0,1,0,1,0,0,1,1,0,0,1,1,1,1,1]) (by kernel_rfl) ?_
                      refine at_region (id := 27) 10 (by kernel_rfl) (by kernel_rfl) ?_
                      refine s_pure 125 (.pointer (some ⟨b1_0, 0, none⟩)) (by kernel_rfl) (by kernel_rfl) (fun _ => by kernel_rfl) ?_
                      refine s_pure 126 (.int .i64 v1_67) (by kernel_rfl) (by kernel_rfl) (fun _ => by kernel_rfl) ?_
                      obtain ⟨y27_2, hy27_2, H⟩ := bindE H
                      refine s_call 127 16 #[.pointer (some ⟨b1_0, 0, none⟩), .int .i64 v1_67] (by kernel_rfl) (by kernel_rfl) (fun _ => by kernel_rfl) (TNextF_tr b1_0 y25_10.2 v1_67 y27_2 hy27_2) ?_
                      rintro _ _ ⟨rfl, rfl⟩
                      refine s_pure 124 (.tuple #[.int .i64 y27_2.1, .int .i64 y27_2.2.1, .bool y27_2.2.2.1]) (by kernel_rfl) (by kernel_rfl) (fun _ => by kernel_rfl) ?_
                      refine s_pure 128 (.int .i64 y27_2.1) (by kernel_rfl) (by kernel_rfl) (fun _ => by kernel_rfl) ?_
                      refine s_pure 129 (.int .i64 y27_2.2.1) (by kernel_rfl) (by kernel_rfl) (fun _ => by kernel_rfl) ?_
                      refine s_pure 130 (.bool y27_2.2.2.1) (by kernel_rfl) (by kernel_rfl) (fun _ => by kernel_rfl) ?_
                      refine s_pure 15 (.int .i64 y27_2.1) (by kernel_rfl) (by kernel_rfl) (fun _ => by kernel_rfl) ?_
                      refine s_pure 16 (.int .i64 y27_2.2.1) (by kernel_rfl) (by kernel_rfl) (fun _ => by kernel_rfl) ?_
                      refine s_pure 17 (.bool y27_2.2.2.1) (by kernel_rfl) (by kernel_rfl) (fun _ => by kernel_rfl) ?_
                      refine ops_end ?_
                      refine At.env [(5, .pointer (some ⟨b1_0, 0, none⟩)), (6, .pointer (some ⟨b4_0, 0, none⟩)), (9, .int .i64 v1_67), (10, .int .i64 v3_74), (15, .int .i64 y27_2.1), (17, .bool y27_2.2.2.1), (67, .int .i64 v1_67), (72, .slice a17_2 (List.length (lget v0_b4_0 v1_67)) c17_2), (73, .int .i64 (((List.length (lget v0_b4_0 v1_67)) : Nat) : Int)), (74, .int .i64 v3_74), (79, .pointer (some ⟨b1_0, 0, none⟩)), (80, .int .i64 v1_67), (81, .int .i64 y20_2), (82, .int .i64 (nth (lget v0_b4_0 v1_67) v3_74)), (83, .bool (!(decide (y20_2 = (nth (lget v0_b4_0 v1_67) v3_74))))), (84, .bool false), (85, .pointer (some ⟨b1_0, 0, none⟩)), (86, .int .i64 v1_67), (87, .int .i64 y20_8), (88, .int .i64 v1_67), (89, .pointer (some ⟨b4_0, (v1_67).toNat, none⟩)), (90, .slice a17_2 (List.length (lget v0_b4_0 v1_67)) c17_2), (91, .int .i64 (((List.length (lget v0_b4_0 v1_67)) : Nat) : Int)), (92, .int .i64 u20_13), (93, .int .i64 v3_74), (94, .int .i64 (wr (u20_13 - v3_74))), (95, .bool (!(decide (y20_8 = (wr (u20_13 - v3_74))))))] ⟨by kernel_rfl, by kernel_rfl, by kernel_rfl, by kernel_rfl, by kernel_rfl, by kernel_rfl, by kernel_rfl, by kernel_rfl, by kernel_rfl, by kernel_rfl, by kernel_rfl, by kernel_rfl, by kernel_rfl, by kernel_rfl, by kernel_rfl, by kernel_rfl, by kernel_rfl, by kernel_rfl, by kernel_rfl, by kernel_rfl, by kernel_rfl, by kernel_rfl, by kernel_rfl, by kernel_rfl, by kernel_rfl, by kernel_rfl, by kernel_rfl, trivial⟩ ?_
                      refine at_then_normal ?_
                      refine at_seq (x := C10 [1,1,1,1,1,0,1,0,0,1,1,0,0,1,0,1,0,0,1,1,0,0,1,1,1,1,1,0]) (y := C10 [1,1,1,1,1,0,1,0,0,1,1,0,0,1,0,1,0,0,1,1,0,0,1,1,1,1,1,1]) (by kernel_rfl) ?_
                      refine at_region (id := 28) 23 (by kernel_rfl) (by kernel_rfl) ?_
                      refine s_pure 131 (.bool y27_2.2.2.1) (by kernel_rfl) (by kernel_rfl) (fun _ => by kernel_rfl) ?_
                      refine s_pure 132 (.int .i64 v3_74) (by kernel_rfl) (by kernel_rfl) (fun _ => by kernel_rfl) ?_
                      obtain ⟨hc28_2_0, H⟩ := chkE H
                      refine s_pure 133 (.int .i64 (v3_74 + (1 : Int))) (by kernel_rfl) (by kernel_rfl) (run_eq (v := .int .i64 (IntKind.i64.wrap (v3_74 + (1 : Int)))) (fun _ => by kernel_rfl) (by rw [inR.wrap hc28_2_0])) ?_
                      refine s_pure 134 (.int .i64 v1_67) (by kernel_rfl) (by kernel_rfl) (fun _ => by kernel_rfl) ?_
                      obtain ⟨hc28_4_0, H⟩ := chkE H
                      refine s_pure 135 (.pointer (some ⟨b4_0, (v1_67).toNat, none⟩)) (by kernel_rfl) (by kernel_rfl) (index_arr (t := 72) (E := 22) (m := 3) (tinfo 22) (fun _ => by kernel_rfl) (by kernel_rfl) (by kernel_rfl) (by kernel_rfl) hc28_4_0.1) ?_
                      refine s_load 136 (.slice a17_2 (List.length (lget v0_b4_0 v1_67)) c17_2) (by kernel_rfl) (by kernel_rfl) (lists_load (i := v1_67) (fun _ => by kernel_rfl) (.there (.there .here))) ?_
                      refine s_pure 137 (.int .i64 (((List.length (lget v0_b4_0 v1_67)) : Nat) : Int)) (by kernel_rfl) (by kernel_rfl) (fun _ => by kernel_rfl) ?_
                      refine s_pure 138 (.bool (decide ((v3_74 + (1 : Int)) < (((List.length (lget v0_b4_0 v1_67)) : Nat) : Int)))) (by kernel_rfl) (by kernel_rfl) (fun _ => by kernel_rfl) ?_
                      refine s_pure 139 (.bool (!(y27_2.2.2.1 == (decide ((v3_74 + (1 : Int)) < (((List.length (lget v0_b4_0 v1_67)) : Nat) : Int)))))) (by kernel_rfl) (by kernel_rfl) (fun _ => by kernel_rfl) ?_
                      rcases Bool.eq_false_or_eq_true (!(y27_2.2.2.1 == (decide ((v3_74 + (1 : Int)) < (((List.length (lget v0_b4_0 v1_67)) : Nat) : Int))))) with h14 | h14
                      · replace H := bifT H h14
                        refine s_pure 140 (.bool true) (by kernel_rfl) (by kernel_rfl) (run_eq (v := .bool (!(y27_2.2.2.1 == (decide ((v3_74 + (1 : Int)) < (((List.length (lget v0_b4_0 v1_67)) : Nat) : Int)))))) (fun _ => by kernel_rfl) (congrArg Value.bool h14)) ?_
                        refine s_pass 141 (by kernel_rfl) (by kernel_rfl) ?_
                        refine s_pass 142 (by kernel_rfl) (by kernel_rfl) ?_
                        refine s_pass 143 (by kernel_rfl) (by kernel_rfl) ?_
                        refine s_pass 144 (by kernel_rfl) (by kernel_rfl) ?_
                        refine s_pass 145 (by kernel_rfl) (by kernel_rfl) ?_
                        refine s_pass 146 (by kernel_rfl) (by kernel_rfl) ?_
                        refine s_pass 147 (by kernel_rfl) (by kernel_rfl) ?_
                        refine s_pass 148 (by kernel_rfl) (by kernel_rfl) ?_
                        refine s_pass 149 (by kernel_rfl) (by kernel_rfl) ?_
                        refine s_pass 150 (by kernel_rfl) (by kernel_rfl) ?_
                        refine s_pass 151 (by kernel_rfl) (by kernel_rfl) ?_
                        refine s_pass 152 (by kernel_rfl) (by kernel_rfl) ?_
                        refine s_pure 153 (.bool true) (by kernel_rfl) (by kernel_rfl) (fun _ => by kernel_rfl) ?_
                        refine ops_end ?_
                        refine At.env [(5, .pointer (some ⟨b1_0, 0, none⟩)), (6, .pointer (some ⟨b4_0, 0, none⟩)), (9, .int .i64 v1_67), (67, .int .i64 v1_67), (72, .slice a17_2 (List.length (lget v0_b4_0 v1_67)) c17_2), (73, .int .i64 (((List.length (lget v0_b4_0 v1_67)) : Nat) : Int)), (74, .int .i64 v3_74), (79, .pointer (some ⟨b1_0, 0, none⟩)), (80, .int .i64 v1_67), (81, .int .i64 y20_2), (82, .int .i64 (nth (lget v0_b4_0 v1_67) v3_74)), (83, .bool (!(decide (y20_2 = (nth (lget v0_b4_0 v1_67) v3_74))))), (84, .bool false), (85, .pointer (some ⟨b1_0, 0, none⟩)), (86, .int .i64 v1_67), (87, .int .i64 y20_8), (88, .int .i64 v1_67), (89, .pointer (some ⟨b4_0, (v1_67).toNat, none⟩)), (90, .slice a17_2 (List.length (lget v0_b4_0 v1_67)) c17_2), (91, .int .i64 (((List.length (lget v0_b4_0 v1_67)) : Nat) : Int)), (92, .int .i64 u20_13), (93, .int .i64 v3_74), (94, .int .i64 (wr (u20_13 - v3_74))), (95, .bool (!(decide (y20_8 = (wr (u20_13 - v3_74)))))), (153, .bool true)] ⟨by kernel_rfl, by kernel_rfl, by kernel_rfl, by kernel_rfl, by kernel_rfl, by kernel_rfl, by kernel_rfl, by kernel_rfl, by kernel_rfl, by kernel_rfl, by kernel_rfl, by kernel_rfl, by kernel_rfl, by kernel_rfl, by kernel_rfl, by kernel_rfl, by kernel_rfl, by kernel_rfl, by kernel_rfl, by kernel_rfl, by kernel_rfl, by kernel_rfl, by kernel_rfl, by kernel_rfl, by kernel_rfl, trivial⟩ ?_
                        refine at_then_normal ?_
                        refine at_true (t := true) (x := C10 [1,1,1,1,1,0,1,0,0,1,1,0,0,1,0,1,0,0,1,1,0,0,1,1,1,1,1,1,0]) (y := C10 [1,1,1,1,1,0,1,0,0,1,1,0,0,1,0,1,0,0,1,1,0,0,1,1,1,1,1,1,1]) (o := .tmp 153) (by kernel_rfl) (by kernel_rfl) (by kernel_rfl) rfl ?_
                        refine at_seq (x := C10 [1,1,1,1,1,0,1,0,0,1,1,0,0,1,0,1,0,0,1,1,0,0,1,1,1,1,1,1,0,0]) (y := C10 [1,1,1,1,1,0,1,0,0,1,1,0,0,1,0,1,0,0,1,1,0,0,1,1,1,1,1,1,0,1]) (by kernel_rfl) ?_
                        refine at_region (id := 29) 1 (by kernel_rfl) (by kernel_rfl) ?_
                        refine s_pure 4 (.bool false) (by kernel_rfl) (by kernel_rfl) (fun _ => by kernel_rfl) ?_
                        refine ops_end ?_
                        refine At.env [(4, .bool false)] ⟨by kernel_rfl, trivial⟩ ?_
                        refine at_then_normal ?_
                        refine at_ret (by kernel_rfl) ?_
                        refine at_in_ret ?_
                        refine at_then_ret ?_
                        refine at_then_ret ?_
                        refine at_in_ret ?_
                        refine at_then_ret ?_
                        refine at_in_ret ?_
                        refine at_then_ret ?_
                        refine at_then_ret ?_
                        refine at_in_ret ?_
                        refine at_then_ret ?_
                        obtain rfl := someE H
                        refine at_backR [.bool false] (Γ) (rs := [.tmp 4]) (by kernel_rfl) (.cons (.tmp (by kernel_rfl)) .nil) (fun w hw => (Sat.less (.drop .here (.drop .here (.drop .here .refl))) hw)) ?_
                        exact ⟨rfl, rfl⟩
                      · replace H := bifF H h14
                        refine s_pure 140 (.bool false) (by kernel_rfl) (by kernel_rfl) (run_eq (v := .bool (!(y27_2.2.2.1 == (decide ((v3_74 + (1 : Int)) < (((List.length (lget v0_b4_0 v1_67)) : Nat) : Int)))))) (fun _ => by kernel_rfl) (congrArg Value.bool h14)) ?_
                        refine s_pure 141 (.bool y27_2.2.2.1) (by kernel_rfl) (by kernel_rfl) (fun _ => by kernel_rfl) ?_
                        rcases Bool.eq_false_or_eq_true (y27_2.2.2.1) with h15 | h15
                        · replace H := bifT H h15
                          refine s_pure 142 (.bool true) (by kernel_rfl) (by kernel_rfl) (run_eq (v := .bool (y27_2.2.2.1)) (fun _ => by kernel_rfl) (congrArg Value.bool h15)) ?_
                          refine s_pure 143 (.int .i64 y27_2.1) (by kernel_rfl) (by kernel_rfl) (fun _ => by kernel_rfl) ?_
                          refine s_pure 144 (.int .i64 v1_67) (by kernel_rfl) (by kernel_rfl) (fun _ => by kernel_rfl) ?_
                          obtain ⟨hc28_14_0, H⟩ := chkE H
                          refine s_pure 145 (.pointer (some ⟨b4_0, (v1_67).toNat, none⟩)) (by kernel_rfl) (by kernel_rfl) (index_arr (t := 72) (E := 22) (m := 3) (tinfo 22) (fun _ => by kernel_rfl) (by kernel_rfl) (by kernel_rfl) (by kernel_rfl) hc28_14_0.1) ?_
                          refine s_load 146 (.slice a17_2 (List.length (lget v0_b4_0 v1_67)) c17_2) (by kernel_rfl) (by kernel_rfl) (lists_load (i := v1_67) (fun _ => by kernel_rfl) (.there (.there .here))) ?_
                          refine s_pure 147 (.int .i64 v3_74) (by kernel_rfl) (by kernel_rfl) (fun _ => by kernel_rfl) ?_
                          obtain ⟨hc28_17_0, H⟩ := chkE H
                          refine s_pure 148 (.int .i64 (v3_74 + (1 : Int))) (by kernel_rfl) (by kernel_rfl) (run_eq (v := .int .i64 (IntKind.i64.wrap (v3_74 + (1 : Int)))) (fun _ => by kernel_rfl) (by rw [inR.wrap hc28_17_0])) ?_
                          obtain ⟨hc28_18_0, H⟩ := chkE H
                          refine rows_at (.there .here) (by have := hc28_18_0; simp only [ints_length]; omega) ?_
                          intro bb7 oo7 ha7
                          refine s_pure 149 (.pointer (some ⟨bb7, oo7 + (((v3_74 + (1 : Int))).toNat * 1 + 0), none⟩)) (by kernel_rfl) (by kernel_rfl) (index_at (t := 22) (sz := 1) (E := 3) (a := a17_2) (m := (List.length (lget v0_b4_0 v1_67))) (c := c17_2) (b := bb7) (off := oo7) (i := ((v3_74 + (1 : Int))).toNat) (tinfo 3) (fun _ => by kernel_rfl) (by kernel_rfl) (by kernel_rfl) (by kernel_rfl) ha7 (idx_cast hc28_18_0) (idx_nat hc28_18_0) rfl) ?_
                          refine s_load 150 (.int .i64 (nth (lget v0_b4_0 v1_67) (v3_74 + (1 : Int)))) (by kernel_rfl) (by kernel_rfl) (load1_at (off := oo7 + (((v3_74 + (1 : Int))).toNat * 1 + 0)) (v := .int .i64 (nth (lget v0_b4_0 v1_67) (v3_74 + (1 : Int)))) (fun _ => by kernel_rfl) rfl (reads_cell (k := 1) (RowsA.reads (k := 1) (.there .here)) (ints_rows _) ha7 (nth_row hc28_18_0) (show [(.int .i64 (nth (lget v0_b4_0 v1_67) (v3_74 + (1 : Int))) : Value)][0]? = some _ from rfl))) ?_
                          refine s_pure 151 (.bool (!(decide (y27_2.1 = (nth (lget v0_b4_0 v1_67) (v3_74 + (1 : Int))))))) (by kernel_rfl) (by kernel_rfl) (fun _ => by kernel_rfl) ?_
                          refine s_pure 152 (.bool (!(decide (y27_2.1 = (nth (lget v0_b4_0 v1_67) (v3_74 + (1 : Int))))))) (by kernel_rfl) (by kernel_rfl) (fun _ => by kernel_rfl) ?_
                          refine s_pure 153 (.bool (!(decide (y27_2.1 = (nth (lget v0_b4_0 v1_67) (v3_74 + (1 : Int))))))) (by kernel_rfl) (by kernel_rfl) (fun _ => by kernel_rfl) ?_
                          refine ops_end ?_
                          refine At.env [(5, .pointer (some ⟨b1_0, 0, none⟩)), (6, .pointer (some ⟨b4_0, 0, none⟩)), (9, .int .i64 v1_67), (67, .int .i64 v1_67), (72, .slice a17_2 (List.length (lget v0_b4_0 v1_67)) c17_2), (73, .int .i64 (((List.length (lget v0_b4_0 v1_67)) : Nat) : Int)), (74, .int .i64 v3_74), (79, .pointer (some ⟨b1_0, 0, none⟩)), (80, .int .i64 v1_67), (81, .int .i64 y20_2), (82, .int .i64 (nth (lget v0_b4_0 v1_67) v3_74)), (83, .bool (!(decide (y20_2 = (nth (lget v0_b4_0 v1_67) v3_74))))), (84, .bool false), (85, .pointer (some ⟨b1_0, 0, none⟩)), (86, .int .i64 v1_67), (87, .int .i64 y20_8), (88, .int .i64 v1_67), (89, .pointer (some ⟨b4_0, (v1_67).toNat, none⟩)), (90, .slice a17_2 (List.length (lget v0_b4_0 v1_67)) c17_2), (91, .int .i64 (((List.length (lget v0_b4_0 v1_67)) : Nat) : Int)), (92, .int .i64 u20_13), (93, .int .i64 v3_74), (94, .int .i64 (wr (u20_13 - v3_74))), (95, .bool (!(decide (y20_8 = (wr (u20_13 - v3_74)))))), (153, .bool (!(decide (y27_2.1 = (nth (lget v0_b4_0 v1_67) (v3_74 + (1 : Int)))))))] ⟨by kernel_rfl, by kernel_rfl, by kernel_rfl, by kernel_rfl, by kernel_rfl, by kernel_rfl, by kernel_rfl, by kernel_rfl, by kernel_rfl, by kernel_rfl, by kernel_rfl, by kernel_rfl, by kernel_rfl, by kernel_rfl, by kernel_rfl, by kernel_rfl, by kernel_rfl, by kernel_rfl, by kernel_rfl, by kernel_rfl, by kernel_rfl, by kernel_rfl, by kernel_rfl, by kernel_rfl, by kernel_rfl, trivial⟩ ?_
                          refine at_then_normal ?_
                          rcases Bool.eq_false_or_eq_true (!(decide (y27_2.1 = (nth (lget v0_b4_0 v1_67) (v3_74 + (1 : Int)))))) with h16 | h16
                          · replace H := bifT H h16
                            refine at_true (t := !(decide (y27_2.1 = (nth (lget v0_b4_0 v1_67) (v3_74 + (1 : Int)))))) (x := C10 [1,1,1,1,1,0,1,0,0,1,1,0,0,1,0,1,0,0,1,1,0,0,1,1,1,1,1,1,0]) (y := C10 [1,1,1,1,1,0,1,0,0,1,1,0,0,1,0,1,0,0,1,1,0,0,1,1,1,1,1,1,1]) (o := .tmp 153) (by kernel_rfl) (by kernel_rfl) (by kernel_rfl) h16 ?_
                            refine at_seq (x := C10 [1,1,1,1,1,0,1,0,0,1,1,0,0,1,0,1,0,0,1,1,0,0,1,1,1,1,1,1,0,0]) (y := C10 [1,1,1,1,1,0,1,0,0,1,1,0,0,1,0,1,0,0,1,1,0,0,1,1,1,1,1,1,0,1]) (by kernel_rfl) ?_
                            refine at_region (id := 29) 1 (by kernel_rfl) (by kernel_rfl) ?_
                            refine s_pure 4 (.bool false) (by kernel_rfl) (by kernel_rfl) (fun _ => by kernel_rfl) ?_
                            refine ops_end ?_
                            refine At.env [(4, .bool false)] ⟨by kernel_rfl, trivial⟩ ?_
                            refine at_then_normal ?_
                            refine at_ret (by kernel_rfl) ?_
                            refine at_in_ret ?_
                            refine at_then_ret ?_
                            refine at_then_ret ?_
                            refine at_in_ret ?_
                            refine at_then_ret ?_
                            refine at_in_ret ?_
                            refine at_then_ret ?_
                            refine at_then_ret ?_
                            refine at_in_ret ?_
                            refine at_then_ret ?_
                            obtain rfl := someE H
                            refine at_backR [.bool false] (Γ) (rs := [.tmp 4]) (by kernel_rfl) (.cons (.tmp (by kernel_rfl)) .nil) (fun w hw => (Sat.less (.drop .here (.drop .here (.drop .here .refl))) hw)) ?_
                            exact ⟨rfl, rfl⟩
                          · replace H := bifF H h16
                            refine at_false (t := !(decide (y27_2.1 = (nth (lget v0_b4_0 v1_67) (v3_74 + (1 : Int)))))) (x := C10 [1,1,1,1,1,0,1,0,0,1,1,0,0,1,0,1,0,0,1,1,0,0,1,1,1,1,1,1,0]) (y := C10 [1,1,1,1,1,0,1,0,0,1,1,0,0,1,0,1,0,0,1,1,0,0,1,1,1,1,1,1,1]) (o := .tmp 153) (by kernel_rfl) (by kernel_rfl) (by kernel_rfl) h16 ?_
                            refine at_skip (by kernel_rfl) ?_
                            refine at_in_normal ?_
                            refine at_then_normal ?_
                            refine at_region (id := 30) 2 (by kernel_rfl) (by kernel_rfl) ?_
                            obtain ⟨hc30_0_0, H⟩ := chkE H
                            refine s_pure 154 (.int .i64 (v3_74 + (1 : Int))) (by kernel_rfl) (by kernel_rfl) (run_eq (v := .int .i64 (IntKind.i64.wrap (v3_74 + (1 : Int)))) (fun _ => by kernel_rfl) (by rw [inR.wrap hc30_0_0])) ?_
                            refine s_pure 74 (.int .i64 (v3_74 + (1 : Int))) (by kernel_rfl) (by kernel_rfl) (fun _ => by kernel_rfl) ?_
                            refine ops_end ?_
                            refine At.env [(5, .pointer (some ⟨b1_0, 0, none⟩)), (6, .pointer (some ⟨b4_0, 0, none⟩)), (9, .int .i64 v1_67), (67, .int .i64 v1_67), (72, .slice a17_2 (List.length (lget v0_b4_0 v1_67)) c17_2), (73, .int .i64 (((List.length (lget v0_b4_0 v1_67)) : Nat) : Int)), (74, .int .i64 (v3_74 + (1 : Int))), (79, .pointer (some ⟨b1_0, 0, none⟩)), (80, .int .i64 v1_67), (81, .int .i64 y20_2), (82, .int .i64 (nth (lget v0_b4_0 v1_67) v3_74)), (83, .bool (!(decide (y20_2 = (nth (lget v0_b4_0 v1_67) v3_74))))), (84, .bool false), (85, .pointer (some ⟨b1_0, 0, none⟩)), (86, .int .i64 v1_67), (87, .int .i64 y20_8), (88, .int .i64 v1_67), (89, .pointer (some ⟨b4_0, (v1_67).toNat, none⟩)), (90, .slice a17_2 (List.length (lget v0_b4_0 v1_67)) c17_2), (91, .int .i64 (((List.length (lget v0_b4_0 v1_67)) : Nat) : Int)), (92, .int .i64 u20_13), (93, .int .i64 v3_74), (94, .int .i64 (wr (u20_13 - v3_74))), (95, .bool (!(decide (y20_8 = (wr (u20_13 - v3_74))))))] ⟨by kernel_rfl, by kernel_rfl, by kernel_rfl, by kernel_rfl, by kernel_rfl, by kernel_rfl, by kernel_rfl, by kernel_rfl, by kernel_rfl, by kernel_rfl, by kernel_rfl, by kernel_rfl, by kernel_rfl, by kernel_rfl, by kernel_rfl, by kernel_rfl, by kernel_rfl, by kernel_rfl, by kernel_rfl, by kernel_rfl, by kernel_rfl, by kernel_rfl, by kernel_rfl, by kernel_rfl, trivial⟩ ?_
                            refine at_round_normal ?_
                            exact at_roundR fuel3 [(5, .pointer (some ⟨b1_0, 0, none⟩)), (6, .pointer (some ⟨b4_0, 0, none⟩)), (9, .int .i64 v1_67), (67, .int .i64 v1_67), (72, .slice a17_2 (List.length (lget v0_b4_0 v1_67)) c17_2), (73, .int .i64 (((List.length (lget v0_b4_0 v1_67)) : Nat) : Int)), (74, .int .i64 (v3_74 + (1 : Int)))] ((IntsA a17_2 c17_2 (lget v0_b4_0 v1_67)) :: (ListsX b4_0 72 v0_b4_0 v1_67 a17_2 c17_2) :: (TurnsA b1_0 y27_2.2.2.2) :: Γ) (Nat.lt_succ_self _) ⟨by kernel_rfl, by kernel_rfl, by kernel_rfl, by kernel_rfl, by kernel_rfl, by kernel_rfl, by kernel_rfl, trivial⟩ (fun w hw => (Sat.less (.take (.there .here) (.take (.there .here) (.take .here .refl))) hw)) ⟨fuel3, v3_74 + (1 : Int), y27_2.2.2.2, H, rfl, rfl, rfl⟩
                        · replace H := bifF H h15
                          refine s_pure 142 (.bool false) (by kernel_rfl) (by kernel_rfl) (run_eq (v := .bool (y27_2.2.2.1)) (fun _ => by kernel_rfl) (congrArg Value.bool h15)) ?_
                          refine s_pass 143 (by kernel_rfl) (by kernel_rfl) ?_
                          refine s_pass 144 (by kernel_rfl) (by kernel_rfl) ?_
                          refine s_pass 145 (by kernel_rfl) (by kernel_rfl) ?_
                          refine s_pass 146 (by kernel_rfl) (by kernel_rfl) ?_
                          refine s_pass 147 (by kernel_rfl) (by kernel_rfl) ?_
                          refine s_pass 148 (by kernel_rfl) (by kernel_rfl) ?_
                          refine s_pass 149 (by kernel_rfl) (by kernel_rfl) ?_
                          refine s_pass 150 (by kernel_rfl) (by kernel_rfl) ?_
                          refine s_pass 151 (by kernel_rfl) (by kernel_rfl) ?_
                          refine s_pure 152 (.bool false) (by kernel_rfl) (by kernel_rfl) (fun _ => by kernel_rfl) ?_
                          refine s_pure 153 (.bool false) (by kernel_rfl) (by kernel_rfl) (fun _ => by kernel_rfl) ?_
                          refine ops_end ?_
                          refine At.env [(5, .pointer (some ⟨b1_0, 0, none⟩)), (6, .pointer (some ⟨b4_0, 0, none⟩)), (9, .int .i64 v1_67), (67, .int .i64 v1_67), (72, .slice a17_2 (List.length (lget v0_b4_0 v1_67)) c17_2), (73, .int .i64 (((List.length (lget v0_b4_0 v1_67)) : Nat) : Int)), (74, .int .i64 v3_74), (79, .pointer (some ⟨b1_0, 0, none⟩)), (80, .int .i64 v1_67), (81, .int .i64 y20_2), (82, .int .i64 (nth (lget v0_b4_0 v1_67) v3_74)), (83, .bool (!(decide (y20_2 = (nth (lget v0_b4_0 v1_67) v3_74))))), (84, .bool false), (85, .pointer (some ⟨b1_0, 0, none⟩)), (86, .int .i64 v1_67), (87, .int .i64 y20_8), (88, .int .i64 v1_67), (89, .pointer (some ⟨b4_0, (v1_67).toNat, none⟩)), (90, .slice a17_2 (List.length (lget v0_b4_0 v1_67)) c17_2), (91, .int .i64 (((List.length (lget v0_b4_0 v1_67)) : Nat) : Int)), (92, .int .i64 u20_13), (93, .int .i64 v3_74), (94, .int .i64 (wr (u20_13 - v3_74))), (95, .bool (!(decide (y20_8 = (wr (u20_13 - v3_74)))))), (153, .bool false)] ⟨by kernel_rfl, by kernel_rfl, by kernel_rfl, by kernel_rfl, by kernel_rfl, by kernel_rfl, by kernel_rfl, by kernel_rfl, by kernel_rfl, by kernel_rfl, by kernel_rfl, by kernel_rfl, by kernel_rfl, by kernel_rfl, by kernel_rfl, by kernel_rfl, by kernel_rfl, by kernel_rfl, by kernel_rfl, by kernel_rfl, by kernel_rfl, by kernel_rfl, by kernel_rfl, by kernel_rfl, by kernel_rfl, trivial⟩ ?_
                          refine at_then_normal ?_
                          refine at_false (t := false) (x := C10 [1,1,1,1,1,0,1,0,0,1,1,0,0,1,0,1,0,0,1,1,0,0,1,1,1,1,1,1,0]) (y := C10 [1,1,1,1,1,0,1,0,0,1,1,0,0,1,0,1,0,0,1,1,0,0,1,1,1,1,1,1,1]) (o := .tmp 153) (by kernel_rfl) (by kernel_rfl) (by kernel_rfl) rfl ?_
                          refine at_skip (by kernel_rfl) ?_
                          refine at_in_normal ?_
                          refine at_then_normal ?_
                          refine at_region (id := 30) 2 (by kernel_rfl) (by kernel_rfl) ?_
                          obtain ⟨hc30_0_0, H⟩ := chkE H
                          refine s_pure 154 (.int .i64 (v3_74 + (1 : Int))) (by kernel_rfl) (by kernel_rfl) (run_eq (v := .int .i64 (IntKind.i64.wrap (v3_74 + (1 : Int)))) (fun _ => by kernel_rfl) (by rw [inR.wrap hc30_0_0])) ?_
                          refine s_pure 74 (.int .i64 (v3_74 + (1 : Int))) (by kernel_rfl) (by kernel_rfl) (fun _ => by kernel_rfl) ?_
                          refine ops_end ?_
                          refine At.env [(5, .pointer (some ⟨b1_0, 0, none⟩)), (6, .pointer (some ⟨b4_0, 0, none⟩)), (9, .int .i64 v1_67), (67, .int .i64 v1_67), (72, .slice a17_2 (List.length (lget v0_b4_0 v1_67)) c17_2), (73, .int .i64 (((List.length (lget v0_b4_0 v1_67)) : Nat) : Int)), (74, .int .i64 (v3_74 + (1 : Int))), (79, .pointer (some ⟨b1_0, 0, none⟩)), (80, .int .i64 v1_67), (81, .int .i64 y20_2), (82, .int .i64 (nth (lget v0_b4_0 v1_67) v3_74)), (83, .bool (!(decide (y20_2 = (nth (lget v0_b4_0 v1_67) v3_74))))), (84, .bool false), (85, .pointer (some ⟨b1_0, 0, none⟩)), (86, .int .i64 v1_67), (87, .int .i64 y20_8), (88, .int .i64 v1_67), (89, .pointer (some ⟨b4_0, (v1_67).toNat, none⟩)), (90, .slice a17_2 (List.length (lget v0_b4_0 v1_67)) c17_2), (91, .int .i64 (((List.length (lget v0_b4_0 v1_67)) : Nat) : Int)), (92, .int .i64 u20_13), (93, .int .i64 v3_74), (94, .int .i64 (wr (u20_13 - v3_74))), (95, .bool (!(decide (y20_8 = (wr (u20_13 - v3_74))))))] ⟨by kernel_rfl, by kernel_rfl, by kernel_rfl, by kernel_rfl, by kernel_rfl, by kernel_rfl, by kernel_rfl, by kernel_rfl, by kernel_rfl, by kernel_rfl, by kernel_rfl, by kernel_rfl, by kernel_rfl, by kernel_rfl, by kernel_rfl, by kernel_rfl, by kernel_rfl, by kernel_rfl, by kernel_rfl, by kernel_rfl, by kernel_rfl, by kernel_rfl, by kernel_rfl, by kernel_rfl, trivial⟩ ?_
                          refine at_round_normal ?_
                          exact at_roundR fuel3 [(5, .pointer (some ⟨b1_0, 0, none⟩)), (6, .pointer (some ⟨b4_0, 0, none⟩)), (9, .int .i64 v1_67), (67, .int .i64 v1_67), (72, .slice a17_2 (List.length (lget v0_b4_0 v1_67)) c17_2), (73, .int .i64 (((List.length (lget v0_b4_0 v1_67)) : Nat) : Int)), (74, .int .i64 (v3_74 + (1 : Int)))] ((IntsA a17_2 c17_2 (lget v0_b4_0 v1_67)) :: (ListsX b4_0 72 v0_b4_0 v1_67 a17_2 c17_2) :: (TurnsA b1_0 y27_2.2.2.2) :: Γ) (Nat.lt_succ_self _) ⟨by kernel_rfl, by kernel_rfl, by kernel_rfl, by kernel_rfl, by kernel_rfl, by kernel_rfl, by kernel_rfl, trivial⟩ (fun w hw => (Sat.less (.take (.there .here) (.take (.there .here) (.take .here .refl))) hw)) ⟨fuel3, v3_74 + (1 : Int), y27_2.2.2.2, H, rfl, rfl, rfl⟩
        · replace H := bifF H h7
          refine at_false (t := decide (v3_74 < (((List.length (lget v0_b4_0 v1_67)) : Nat) : Int))) (x := C10 [1,1,1,1,1,0,1,0,0,1,1,0,0,1,0,1,0,0,1,0,0]) (y := C10 [1,1,1,1,1,0,1,0,0,1,1,0,0,1,0,1,0,0,1,0,1]) (o := .tmp 75) (by kernel_rfl) (by kernel_rfl) (by kernel_rfl) h7 ?_
          refine at_exit (i := 4) (by kernel_rfl) ?_
          refine at_then_exit ?_
          refine at_then_exit ?_
          rw [turnsFairS_k3] at H
          refine At.env [(5, .pointer (some ⟨b1_0, 0, none⟩)), (6, .pointer (some ⟨b4_0, 0, none⟩)), (9, .int .i64 v1_67), (67, .int .i64 v1_67), (72, .slice a17_2 (List.length (lget v0_b4_0 v1_67)) c17_2), (73, .int .i64 (((List.length (lget v0_b4_0 v1_67)) : Nat) : Int)), (74, .int .i64 v3_74)] ⟨by kernel_rfl, by kernel_rfl, by kernel_rfl, by kernel_rfl, by kernel_rfl, by kernel_rfl, by kernel_rfl, trivial⟩ ?_
          refine At.conv (Γ' := (IntsA a17_2 c17_2 (lget v0_b4_0 v1_67)) :: (ListsX b4_0 72 v0_b4_0 v1_67 a17_2 c17_2) :: (TurnsA b1_0 v3_b1_0) :: Γ) (fun w hw => (Sat.less (.take .here (.take .here (.take .here .refl))) hw)) ?_
          refine at_in_here ?_
          refine at_then_normal ?_
          refine at_seq (x := C10 [1,1,1,1,1,0,1,0,0,1,1,0,0,1,1,0]) (y := C10 [1,1,1,1,1,0,1,0,0,1,1,0,0,1,1,1]) (by kernel_rfl) ?_
          refine at_region (id := 31) 10 (by kernel_rfl) (by kernel_rfl) ?_
          refine s_pure 155 (.pointer (some ⟨b1_0, 0, none⟩)) (by kernel_rfl) (by kernel_rfl) (fun _ => by kernel_rfl) ?_
          refine s_pure 156 (.int .i64 v1_67) (by kernel_rfl) (by kernel_rfl) (fun _ => by kernel_rfl) ?_
          obtain ⟨y31_2, hy31_2, H⟩ := bindE H
          refine s_call 157 14 #[.pointer (some ⟨b1_0, 0, none⟩), .int .i64 v1_67] (by kernel_rfl) (by kernel_rfl) (fun _ => by kernel_rfl) (Tr.conv (Γ' := (TurnsA b1_0 v3_b1_0) :: (IntsA a17_2 c17_2 (lget v0_b4_0 v1_67)) :: (ListsX b4_0 72 v0_b4_0 v1_67 a17_2 c17_2) :: Γ) (fun w hw => (Sat.less (.take (.there (.there .here)) (.take .here (.take .here .refl))) hw)) (TWaitingF_tr b1_0 v3_b1_0 v1_67 y31_2 hy31_2)) ?_
          rintro _ _ ⟨rfl, rfl⟩
          refine s_pure 158 (.bool (!(decide (y31_2 = (0 : Int))))) (by kernel_rfl) (by kernel_rfl) (fun _ => by kernel_rfl) ?_
          rcases Bool.eq_false_or_eq_true (!(decide (y31_2 = (0 : Int)))) with h17 | h17
          · replace H := bifT H h17
            refine s_pure 159 (.bool true) (by kernel_rfl) (by kernel_rfl) (run_eq (v := .bool (!(decide (y31_2 = (0 : Int))))) (fun _ => by kernel_rfl) (congrArg Value.bool h17)) ?_
            refine s_pass 160 (by kernel_rfl) (by kernel_rfl) ?_
            refine s_pass 161 (by kernel_rfl) (by kernel_rfl) ?_
            refine s_pass 162 (by kernel_rfl) (by kernel_rfl) ?_
            refine s_pass 163 (by kernel_rfl) (by kernel_rfl) ?_
            refine s_pure 164 (.bool true) (by kernel_rfl) (by kernel_rfl) (fun _ => by kernel_rfl) ?_
            refine ops_end ?_
            refine At.env [(5, .pointer (some ⟨b1_0, 0, none⟩)), (6, .pointer (some ⟨b4_0, 0, none⟩)), (67, .int .i64 v1_67), (164, .bool true)] ⟨by kernel_rfl, by kernel_rfl, by kernel_rfl, by kernel_rfl, trivial⟩ ?_
            refine at_then_normal ?_
            refine at_true (t := true) (x := C10 [1,1,1,1,1,0,1,0,0,1,1,0,0,1,1,1,0]) (y := C10 [1,1,1,1,1,0,1,0,0,1,1,0,0,1,1,1,1]) (o := .tmp 164) (by kernel_rfl) (by kernel_rfl) (by kernel_rfl) rfl ?_
            refine at_seq (x := C10 [1,1,1,1,1,0,1,0,0,1,1,0,0,1,1,1,0,0]) (y := C10 [1,1,1,1,1,0,1,0,0,1,1,0,0,1,1,1,0,1]) (by kernel_rfl) ?_
            refine at_region (id := 32) 1 (by kernel_rfl) (by kernel_rfl) ?_
            refine s_pure 4 (.bool false) (by kernel_rfl) (by kernel_rfl) (fun _ => by kernel_rfl) ?_
            refine ops_end ?_
            refine At.env [(4, .bool false)] ⟨by kernel_rfl, trivial⟩ ?_
            refine at_then_normal ?_
            refine at_ret (by kernel_rfl) ?_
            refine at_in_ret ?_
            refine at_then_ret ?_
            refine at_then_ret ?_
            refine at_in_ret ?_
            refine at_then_ret ?_
            obtain rfl := someE H
            refine at_backR [.bool false] (Γ) (rs := [.tmp 4]) (by kernel_rfl) (.cons (.tmp (by kernel_rfl)) .nil) (fun w hw => (Sat.less (.drop .here (.drop .here (.drop .here .refl))) hw)) ?_
            exact ⟨rfl, rfl⟩
          · replace H := bifF H h17
            refine s_pure 159 (.bool false) (by kernel_rfl) (by kernel_rfl) (run_eq (v := .bool (!(decide (y31_2 = (0 : Int))))) (fun _ => by kernel_rfl) (congrArg Value.bool h17)) ?_
            refine s_pure 160 (.pointer (some ⟨b1_0, 0, none⟩)) (by kernel_rfl) (by kernel_rfl) (fun _ => by kernel_rfl) ?_
            refine s_pure 161 (.int .i64 v1_67) (by kernel_rfl) (by kernel_rfl) (fun _ => by kernel_rfl) ?_
            obtain ⟨y31_7, hy31_7, H⟩ := bindE H
            refine s_call 162 17 #[.pointer (some ⟨b1_0, 0, none⟩), .int .i64 v1_67] (by kernel_rfl) (by kernel_rfl) (fun _ => by kernel_rfl) (TOwnerF_tr b1_0 v3_b1_0 v1_67 y31_7 hy31_7) ?_
            rintro _ _ ⟨rfl, rfl⟩
            refine s_pure 163 (.bool (!(decide (y31_7 = ((-1) : Int))))) (by kernel_rfl) (by kernel_rfl) (fun _ => by kernel_rfl) ?_
            refine s_pure 164 (.bool (!(decide (y31_7 = ((-1) : Int))))) (by kernel_rfl) (by kernel_rfl) (fun _ => by kernel_rfl) ?_
            refine ops_end ?_
            refine At.env [(5, .pointer (some ⟨b1_0, 0, none⟩)), (6, .pointer (some ⟨b4_0, 0, none⟩)), (67, .int .i64 v1_67), (164, .bool (!(decide (y31_7 = ((-1) : Int)))))] ⟨by kernel_rfl, by kernel_rfl, by kernel_rfl, by kernel_rfl, trivial⟩ ?_
            refine at_then_normal ?_
            rcases Bool.eq_false_or_eq_true (!(decide (y31_7 = ((-1) : Int)))) with h18 | h18
            · replace H := bifT H h18
              refine at_true (t := !(decide (y31_7 = ((-1) : Int)))) (x := C10 [1,1,1,1,1,0,1,0,0,1,1,0,0,1,1,1,0]) (y := C10 [1,1,1,1,1,0,1,0,0,1,1,0,0,1,1,1,1]) (o := .tmp 164) (by kernel_rfl) (by kernel_rfl) (by kernel_rfl) h18 ?_
              refine at_seq (x := C10 [1,1,1,1,1,0,1,0,0,1,1,0,0,1,1,1,0,0]) (y := C10 [1,1,1,1,1,0,1,0,0,1,1,0,0,1,1,1,0,1]) (by kernel_rfl) ?_
              refine at_region (id := 32) 1 (by kernel_rfl) (by kernel_rfl) ?_
              refine s_pure 4 (.bool false) (by kernel_rfl) (by kernel_rfl) (fun _ => by kernel_rfl) ?_
              refine ops_end ?_
              refine At.env [(4, .bool false)] ⟨by kernel_rfl, trivial⟩ ?_
              refine at_then_normal ?_
              refine at_ret (by kernel_rfl) ?_
              refine at_in_ret ?_
              refine at_then_ret ?_
              refine at_then_ret ?_
              refine at_in_ret ?_
              refine at_then_ret ?_
              obtain rfl := someE H
              refine at_backR [.bool false] (Γ) (rs := [.tmp 4]) (by kernel_rfl) (.cons (.tmp (by kernel_rfl)) .nil) (fun w hw => (Sat.less (.drop .here (.drop .here (.drop .here .refl))) hw)) ?_
              exact ⟨rfl, rfl⟩
            · replace H := bifF H h18
              refine at_false (t := !(decide (y31_7 = ((-1) : Int)))) (x := C10 [1,1,1,1,1,0,1,0,0,1,1,0,0,1,1,1,0]) (y := C10 [1,1,1,1,1,0,1,0,0,1,1,0,0,1,1,1,1]) (o := .tmp 164) (by kernel_rfl) (by kernel_rfl) (by kernel_rfl) h18 ?_
              refine at_skip (by kernel_rfl) ?_
              refine at_in_normal ?_
              refine at_then_normal ?_
              refine at_region (id := 33) 2 (by kernel_rfl) (by kernel_rfl) ?_
              obtain ⟨hc33_0_0, H⟩ := chkE H
              refine s_pure 165 (.int .i64 (v1_67 + (1 : Int))) (by kernel_rfl) (by kernel_rfl) (run_eq (v := .int .i64 (IntKind.i64.wrap (v1_67 + (1 : Int)))) (fun _ => by kernel_rfl) (by rw [inR.wrap hc33_0_0])) ?_
              refine s_pure 67 (.int .i64 (v1_67 + (1 : Int))) (by kernel_rfl) (by kernel_rfl) (fun _ => by kernel_rfl) ?_
              refine ops_end ?_
              refine At.env [(5, .pointer (some ⟨b1_0, 0, none⟩)), (6, .pointer (some ⟨b4_0, 0, none⟩)), (67, .int .i64 (v1_67 + (1 : Int)))] ⟨by kernel_rfl, by kernel_rfl, by kernel_rfl, trivial⟩ ?_
              refine at_round_normal ?_
              refine At.conv (Γ' := (ListsA b4_0 72 v0_b4_0) :: (TurnsA b1_0 v3_b1_0) :: Γ) (fun w hw => ListsA.unfocus (Sat.less (.take (.there .here) (.take (.there .here) (.take .here .refl))) hw)) ?_
              exact at_roundR fuel2 [(5, .pointer (some ⟨b1_0, 0, none⟩)), (6, .pointer (some ⟨b4_0, 0, none⟩)), (67, .int .i64 (v1_67 + (1 : Int)))] ((ListsA b4_0 72 v0_b4_0) :: (TurnsA b1_0 v3_b1_0) :: Γ) (Nat.lt_succ_self _) ⟨by kernel_rfl, by kernel_rfl, by kernel_rfl, trivial⟩ (fun w hw => (Sat.less (.take .here (.take .here .refl)) hw)) ⟨fuel2, v1_67 + (1 : Int), v3_b1_0, H, rfl, rfl, rfl⟩
      · replace H := bifF H h6
        refine at_false (t := decide (v1_67 < (3 : Int))) (x := C10 [1,1,1,1,1,0,1,0,0,1,0,0]) (y := C10 [1,1,1,1,1,0,1,0,0,1,0,1]) (o := .tmp 68) (by kernel_rfl) (by kernel_rfl) (by kernel_rfl) h6 ?_
        refine at_exit (i := 2) (by kernel_rfl) ?_
        refine at_then_exit ?_
        refine at_then_exit ?_
        rw [turnsFairS_k1] at H
        refine At.env [(5, .pointer (some ⟨b1_0, 0, none⟩)), (6, .pointer (some ⟨b4_0, 0, none⟩)), (67, .int .i64 v1_67)] ⟨by kernel_rfl, by kernel_rfl, by kernel_rfl, trivial⟩ ?_
        refine At.conv (Γ' := (ListsA b4_0 72 v0_b4_0) :: (TurnsA b1_0 v1_b1_0) :: Γ) (fun w hw => (Sat.less (.take .here (.take .here .refl)) hw)) ?_
        refine at_in_here ?_
        refine at_then_normal ?_
        refine at_seq (x := C10 [1,1,1,1,1,1,0]) (y := C10 [1,1,1,1,1,1,1]) (by kernel_rfl) ?_
        refine at_region (id := 34) 8 (by kernel_rfl) (by kernel_rfl) ?_
        refine s_pure 166 (.pointer (some ⟨b1_0, 0, none⟩)) (by kernel_rfl) (by kernel_rfl) (fun _ => by kernel_rfl) ?_
        obtain ⟨y34_1, hy34_1, H⟩ := bindE H
        refine s_call 167 33 #[.pointer (some ⟨b1_0, 0, none⟩)] (by kernel_rfl) (by kernel_rfl) (fun _ => by kernel_rfl) (Tr.conv (Γ' := (TurnsA b1_0 v1_b1_0) :: (ListsA b4_0 72 v0_b4_0) :: Γ) (fun w hw => (Sat.less (.take (.there .here) (.take .here .refl)) hw)) (TReadyF_tr b1_0 v1_b1_0 y34_1 hy34_1)) ?_
        rintro _ _ ⟨a34_1_00, c34_1_00, rfl, rfl⟩
        refine s_pure 168 (.int .i64 (((List.length y34_1) : Nat) : Int)) (by kernel_rfl) (by kernel_rfl) (fun _ => by kernel_rfl) ?_
        refine s_pure 169 (.bool (decide ((((List.length y34_1) : Nat) : Int) = (0 : Int)))) (by kernel_rfl) (by kernel_rfl) (fun _ => by kernel_rfl) ?_
        rcases Bool.eq_false_or_eq_true (decide ((((List.length y34_1) : Nat) : Int) = (0 : Int))) with h19 | h19
        · replace H := bifT H h19
          refine s_pure 170 (.bool true) (by kernel_rfl) (by kernel_rfl) (run_eq (v := .bool (decide ((((List.length y34_1) : Nat) : Int) = (0 : Int)))) (fun _ => by kernel_rfl) (congrArg Value.bool h19)) ?_
          obtain ⟨y34_5, hy34_5, H⟩ := bindE H
          refine s_call 171 18 #[] (by kernel_rfl) (by kernel_rfl) (fun _ => by kernel_rfl) (W10F_tr  y34_5 hy34_5) ?_
          rintro _ _ ⟨rfl, rfl⟩
          refine s_pure 172 (.bool y34_5) (by kernel_rfl) (by kernel_rfl) (fun _ => by kernel_rfl) ?_
          refine s_pure 4 (.bool y34_5) (by kernel_rfl) (by kernel_rfl) (fun _ => by kernel_rfl) ?_
          refine ops_end ?_
          refine At.env [(4, .bool y34_5)] ⟨by kernel_rfl, trivial⟩ ?_
          refine at_then_normal ?_
          refine at_ret (by kernel_rfl) ?_
          obtain rfl := someE H
          refine at_backR [.bool y34_5] (Γ) (rs := [.tmp 4]) (by kernel_rfl) (.cons (.tmp (by kernel_rfl)) .nil) (fun w hw => (Sat.less (.drop .here (.drop .here (.drop .here .refl))) hw)) ?_
          exact ⟨rfl, rfl⟩
        · replace H := bifF H h19
          refine s_pure 170 (.bool false) (by kernel_rfl) (by kernel_rfl) (run_eq (v := .bool (decide ((((List.length y34_1) : Nat) : Int) = (0 : Int)))) (fun _ => by kernel_rfl) (congrArg Value.bool h19)) ?_
          refine s_pass 171 (by kernel_rfl) (by kernel_rfl) ?_
          refine s_pure 172 (.bool false) (by kernel_rfl) (by kernel_rfl) (fun _ => by kernel_rfl) ?_
          refine s_pure 4 (.bool false) (by kernel_rfl) (by kernel_rfl) (fun _ => by kernel_rfl) ?_
          refine ops_end ?_
          refine At.env [(4, .bool false)] ⟨by kernel_rfl, trivial⟩ ?_
          refine at_then_normal ?_
          refine at_ret (by kernel_rfl) ?_
          obtain rfl := someE H
          refine at_backR [.bool false] (Γ) (rs := [.tmp 4]) (by kernel_rfl) (.cons (.tmp (by kernel_rfl)) .nil) (fun w hw => (Sat.less (.drop .here (.drop .here (.drop .here .refl))) hw)) ?_
          exact ⟨rfl, rfl⟩
  · replace H := bifF H h1
    refine s_pure 25 (.bool false) (by kernel_rfl) (by kernel_rfl) (run_eq (v := .bool (decide (v0_7 < (((List.length asks) : Nat) : Int)))) (fun _ => by kernel_rfl) (congrArg Value.bool h1)) ?_
    refine s_pass 26 (by kernel_rfl) (by kernel_rfl) ?_
    refine s_pass 27 (by kernel_rfl) (by kernel_rfl) ?_
    refine s_pure 28 (.bool false) (by kernel_rfl) (by kernel_rfl) (fun _ => by kernel_rfl) ?_
    refine ops_end ?_
    refine At.env [(0, .slice asksa (List.length asks) askscap), (1, .slice linesa (List.length lines) linescap), (5, .pointer (some ⟨b1_0, 0, none⟩)), (6, .pointer (some ⟨b4_0, 0, none⟩)), (7, .int .i64 v0_7), (28, .bool false)] ⟨by kernel_rfl, by kernel_rfl, by kernel_rfl, by kernel_rfl, by kernel_rfl, by kernel_rfl, trivial⟩ ?_
    refine at_then_normal ?_
    refine at_false (t := false) (x := C10 [1,1,1,1,0,1,0,0,0,1,0]) (y := C10 [1,1,1,1,0,1,0,0,0,1,1]) (o := .tmp 28) (by kernel_rfl) (by kernel_rfl) (by kernel_rfl) rfl ?_
    refine at_exit (i := 0) (by kernel_rfl) ?_
    refine at_then_exit ?_
    refine at_then_exit ?_
    rw [turnsFairS_k0] at H
    refine At.env [(0, .slice asksa (List.length asks) askscap), (1, .slice linesa (List.length lines) linescap), (5, .pointer (some ⟨b1_0, 0, none⟩)), (6, .pointer (some ⟨b4_0, 0, none⟩)), (7, .int .i64 v0_7)] ⟨by kernel_rfl, by kernel_rfl, by kernel_rfl, by kernel_rfl, by kernel_rfl, trivial⟩ ?_
    refine At.conv (Γ' := (ListsA b4_0 72 v0_b4_0) :: (TurnsA b1_0 v0_b1_0) :: Γ) (fun w hw => (Sat.less (.take .here (.take .here .refl)) hw)) ?_
    refine at_in_here ?_
    refine at_then_normal ?_
    refine at_seq (x := C10 [1,1,1,1,1,0]) (y := C10 [1,1,1,1,1,1]) (by kernel_rfl) ?_
    refine at_seq (x := C10 [1,1,1,1,1,0,0]) (y := C10 [1,1,1,1,1,0,1]) (by kernel_rfl) ?_
    refine at_region (id := 14) 1 (by kernel_rfl) (by kernel_rfl) ?_
    refine s_pure 67 (.int .i64 (0)) (by kernel_rfl) (by kernel_rfl) (fun _ => by kernel_rfl) ?_
    refine ops_end ?_
    refine At.env [(5, .pointer (some ⟨b1_0, 0, none⟩)), (6, .pointer (some ⟨b4_0, 0, none⟩)), (67, .int .i64 (0))] ⟨by kernel_rfl, by kernel_rfl, by kernel_rfl, trivial⟩ ?_
    refine at_then_normal ?_
    refine at_block (i := 2) (x := C10 [1,1,1,1,1,0,1,0]) (by kernel_rfl) ?_
    refine At.conv (Γ' := (ListsA b4_0 72 v0_b4_0) :: (TurnsA b1_0 v0_b1_0) :: Γ) (fun w hw => (Sat.less (.take .here (.take .here .refl)) hw)) ?_
    refine at_loopR (x := C10 [1,1,1,1,1,0,1,0,0]) (fun mm ff ΔΔ => ∃ (fuel : Nat) (v1_67 : Int) (v1_b1_0 : TurnsS), turnsFairS_l1 v0_b4_0 (turnsFairS_k1 ) fuel v1_67 v1_b1_0 = some y ∧ fuel = mm ∧ ff = [(5, .pointer (some ⟨b1_0, 0, none⟩)), (6, .pointer (some ⟨b4_0, 0, none⟩)), (67, .int .i64 v1_67)] ∧ (ListsA b4_0 72 v0_b4_0) :: (TurnsA b1_0 v1_b1_0) :: Γ = ΔΔ) (64) (by kernel_rfl) [(5, .pointer (some ⟨b1_0, 0, none⟩)), (6, .pointer (some ⟨b4_0, 0, none⟩)), (67, .int .i64 0)] ⟨by kernel_rfl, by kernel_rfl, by kernel_rfl, trivial⟩ ⟨64, 0, v0_b1_0, H, rfl, rfl, rfl⟩ ?_
    rintro _ _ _ ⟨fuel4, v1_67, v1_b1_0, H, rfl, rfl, rfl⟩
    rcases fuel4 with _ | fuel4
    · exact (noneE H).elim
    rw [turnsFairS_l1] at H
    refine at_seq (x := C10 [1,1,1,1,1,0,1,0,0,0]) (y := C10 [1,1,1,1,1,0,1,0,0,1]) (by kernel_rfl) ?_
    refine at_region (id := 15) 1 (by kernel_rfl) (by kernel_rfl) ?_
    refine s_pure 68 (.bool (decide (v1_67 < (3 : Int)))) (by kernel_rfl) (by kernel_rfl) (fun _ => by kernel_rfl) ?_
    refine ops_end ?_
    refine At.env [(5, .pointer (some ⟨b1_0, 0, none⟩)), (6, .pointer (some ⟨b4_0, 0, none⟩)), (67, .int .i64 v1_67), (68, .bool (decide (v1_67 < (3 : Int))))] ⟨by kernel_rfl, by kernel_rfl, by kernel_rfl, by kernel_rfl, trivial⟩ ?_
    refine at_then_normal ?_
    refine at_seq (x := C10 [1,1,1,1,1,0,1,0,0,1,0]) (y := C10 [1,1,1,1,1,0,1,0,0,1,1]) (by kernel_rfl) ?_
    rcases Bool.eq_false_or_eq_true (decide (v1_67 < (3 : Int))) with h20 | h20
    · replace H := bifT H h20
      refine at_true (t := decide (v1_67 < (3 : Int))) (x := C10 [1,1,1,1,1,0,1,0,0,1,0,0]) (y := C10 [1,1,1,1,1,0,1,0,0,1,0,1]) (o := .tmp 68) (by kernel_rfl) (by kernel_rfl) (by kernel_rfl) h20 ?_
      refine at_skip (by kernel_rfl) ?_
      refine at_then_normal ?_
      refine at_seq (x := C10 [1,1,1,1,1,0,1,0,0,1,1,0]) (y := C10 [1,1,1,1,1,0,1,0,0,1,1,1]) (by kernel_rfl) ?_
      refine at_block (i := 3) (x := C10 [1,1,1,1,1,0,1,0,0,1,1,0,0]) (by kernel_rfl) ?_
      refine at_seq (x := C10 [1,1,1,1,1,0,1,0,0,1,1,0,0,0]) (y := C10 [1,1,1,1,1,0,1,0,0,1,1,0,0,1]) (by kernel_rfl) ?_
      refine at_region (id := 16) 2 (by kernel_rfl) (by kernel_rfl) ?_
      refine s_pure 69 (.int .i64 v1_67) (by kernel_rfl) (by kernel_rfl) (fun _ => by kernel_rfl) ?_
      refine s_pure 9 (.int .i64 v1_67) (by kernel_rfl) (by kernel_rfl) (fun _ => by kernel_rfl) ?_
      refine ops_end ?_
      refine At.env [(5, .pointer (some ⟨b1_0, 0, none⟩)), (6, .pointer (some ⟨b4_0, 0, none⟩)), (9, .int .i64 v1_67), (67, .int .i64 v1_67)] ⟨by kernel_rfl, by kernel_rfl, by kernel_rfl, by kernel_rfl, trivial⟩ ?_
      refine at_then_normal ?_
      refine at_seq (x := C10 [1,1,1,1,1,0,1,0,0,1,1,0,0,1,0]) (y := C10 [1,1,1,1,1,0,1,0,0,1,1,0,0,1,1]) (by kernel_rfl) ?_
      refine at_seq (x := C10 [1,1,1,1,1,0,1,0,0,1,1,0,0,1,0,0]) (y := C10 [1,1,1,1,1,0,1,0,0,1,1,0,0,1,0,1]) (by kernel_rfl) ?_
      refine at_region (id := 17) 5 (by kernel_rfl) (by kernel_rfl) ?_
      refine s_pure 70 (.int .i64 v1_67) (by kernel_rfl) (by kernel_rfl) (fun _ => by kernel_rfl) ?_
      obtain ⟨hc17_1_0, H⟩ := chkE H
      refine s_pure 71 (.pointer (some ⟨b4_0, (v1_67).toNat, none⟩)) (by kernel_rfl) (by kernel_rfl) (index_arr (t := 72) (E := 22) (m := 3) (tinfo 22) (fun _ => by kernel_rfl) (by kernel_rfl) (by kernel_rfl) (by kernel_rfl) hc17_1_0.1) ?_
      refine At.lfocus hc17_1_0.2 .here ?_
      intro a17_2 c17_2
      refine s_load 72 (.slice a17_2 (List.length (lget v0_b4_0 v1_67)) c17_2) (by kernel_rfl) (by kernel_rfl) (lists_load (i := v1_67) (fun _ => by kernel_rfl) (.there .here)) ?_
      refine s_pure 73 (.int .i64 (((List.length (lget v0_b4_0 v1_67)) : Nat) : Int)) (by kernel_rfl) (by kernel_rfl) (fun _ => by kernel_rfl) ?_
      refine s_pure 74 (.int .i64 (0)) (by kernel_rfl) (by kernel_rfl) (fun _ => by kernel_rfl) ?_
      refine ops_end ?_
      refine At.env [(5, .pointer (some ⟨b1_0, 0, none⟩)), (6, .pointer (some ⟨b4_0, 0, none⟩)), (9, .int .i64 v1_67), (67, .int .i64 v1_67), (72, .slice a17_2 (List.length (lget v0_b4_0 v1_67)) c17_2), (73, .int .i64 (((List.length (lget v0_b4_0 v1_67)) : Nat) : Int)), (74, .int .i64 (0))] ⟨by kernel_rfl, by kernel_rfl, by kernel_rfl, by kernel_rfl, by kernel_rfl, by kernel_rfl, by kernel_rfl, trivial⟩ ?_
      refine at_then_normal ?_
      refine at_block (i := 4) (x := C10 [1,1,1,1,1,0,1,0,0,1,1,0,0,1,0,1,0]) (by kernel_rfl) ?_
      refine At.conv (Γ' := (IntsA a17_2 c17_2 (lget v0_b4_0 v1_67)) :: (ListsX b4_0 72 v0_b4_0 v1_67 a17_2 c17_2) :: (TurnsA b1_0 v1_b1_0) :: Γ) (fun w hw => (Sat.less (.take .here (.take .here (.take .here .refl))) hw)) ?_
      refine at_loopR (x := C10 [1,1,1,1,1,0,1,0,0,1,1,0,0,1,0,1,0,0]) (fun mm ff ΔΔ => ∃ (fuel : Nat) (v3_74 : Int) (v3_b1_0 : TurnsS), turnsFairS_l3 v0_b4_0 v1_67 (turnsFairS_k3 v1_67 (turnsFairS_l1 v0_b4_0 (turnsFairS_k1 ) fuel4)) fuel v3_74 v3_b1_0 = some y ∧ fuel = mm ∧ ff = [(5, .pointer (some ⟨b1_0, 0, none⟩)), (6, .pointer (some ⟨b4_0, 0, none⟩)), (9, .int .i64 v1_67), (67, .int .i64 v1_67), (72, .slice a17_2 (List.length (lget v0_b4_0 v1_67)) c17_2), (73, .int .i64 (((List.length (lget v0_b4_0 v1_67)) : Nat) : Int)), (74, .int .i64 v3_74)] ∧ (IntsA a17_2 c17_2 (lget v0_b4_0 v1_67)) :: (ListsX b4_0 72 v0_b4_0 v1_67 a17_2 c17_2) :: (TurnsA b1_0 v3_b1_0) :: Γ = ΔΔ) (64) (by kernel_rfl) [(5, .pointer (some ⟨b1_0, 0, none⟩)), (6, .pointer (some ⟨b4_0, 0, none⟩)), (9, .int .i64 v1_67), (67, .int .i64 v1_67), (72, .slice a17_2 (List.length (lget v0_b4_0 v1_67)) c17_2), (73, .int .i64 (((List.length (lget v0_b4_0 v1_67)) : Nat) : Int)), (74, .int .i64 0)] ⟨by kernel_rfl, by kernel_rfl, by kernel_rfl, by kernel_rfl, by kernel_rfl, by kernel_rfl, by kernel_rfl, trivial⟩ ⟨64, 0, v1_b1_0, H, rfl, rfl, rfl⟩ ?_
      rintro _ _ _ ⟨fuel5, v3_74, v3_b1_0, H, rfl, rfl, rfl⟩
      rcases fuel5 with _ | fuel5
      · exact (noneE H).elim
      rw [turnsFairS_l3] at H
      refine at_seq (x := C10 [1,1,1,1,1,0,1,0,0,1,1,0,0,1,0,1,0,0,0]) (y := C10 [1,1,1,1,1,0,1,0,0,1,1,0,0,1,0,1,0,0,1]) (by kernel_rfl) ?_
      refine at_region (id := 18) 1 (by kernel_rfl) (by kernel_rfl) ?_
      refine s_pure 75 (.bool (decide (v3_74 < (((List.length (lget v0_b4_0 v1_67)) : Nat) : Int)))) (by kernel_rfl) (by kernel_rfl) (fun _ => by kernel_rfl) ?_
      refine ops_end ?_
      refine At.env [(5, .pointer (some ⟨b1_0, 0, none⟩)), (6, .pointer (some ⟨b4_0, 0, none⟩)), (9, .int .i64 v1_67), (67, .int .i64 v1_67), (72, .slice a17_2 (List.length (lget v0_b4_0 v1_67)) c17_2), (73, .int .i64 (((List.length (lget v0_b4_0 v1_67)) : Nat) : Int)), (74, .int .i64 v3_74), (75, .bool (decide (v3_74 < (((List.length (lget v0_b4_0 v1_67)) : Nat) : Int))))] ⟨by kernel_rfl, by kernel_rfl, by kernel_rfl, by kernel_rfl, by kernel_rfl, by kernel_rfl, by kernel_rfl, by kernel_rfl, trivial⟩ ?_
      refine at_then_normal ?_
      refine at_seq (x := C10 [1,1,1,1,1,0,1,0,0,1,1,0,0,1,0,1,0,0,1,0]) (y := C10 [1,1,1,1,1,0,1,0,0,1,1,0,0,1,0,1,0,0,1,1]) (by kernel_rfl) ?_
      rcases Bool.eq_false_or_eq_true (decide (v3_74 < (((List.length (lget v0_b4_0 v1_67)) : Nat) : Int))) with h21 | h21
      · replace H := bifT H h21
        refine at_true (t := decide (v3_74 < (((List.length (lget v0_b4_0 v1_67)) : Nat) : Int))) (x := C10 [1,1,1,1,1,0,1,0,0,1,1,0,0,1,0,1,0,0,1,0,0]) (y := C10 [1,1,1,1,1,0,1,0,0,1,1,0,0,1,0,1,0,0,1,0,1]) (o := .tmp 75) (by kernel_rfl) (by kernel_rfl) (by kernel_rfl) h21 ?_
        refine at_skip (by kernel_rfl) ?_
        refine at_then_normal ?_
        refine at_seq (x := C10 [1,1,1,1,1,0,1,0,0,1,1,0,0,1,0,1,0,0,1,1,0]) (y := C10 [1,1,1,1,1,0,1,0,0,1,1,0,0,1,0,1,0,0,1,1,1]) (by kernel_rfl) ?_
        refine at_block (i := 5) (x := C10 [1,1,1,1,1,0,1,0,0,1,1,0,0,1,0,1,0,0,1,1,0,0]) (by kernel_rfl) ?_
        refine at_seq (x := C10 [1,1,1,1,1,0,1,0,0,1,1,0,0,1,0,1,0,0,1,1,0,0,0]) (y := C10 [1,1,1,1,1,0,1,0,0,1,1,0,0,1,0,1,0,0,1,1,0,0,1]) (by kernel_rfl) ?_
        refine at_region (id := 19) 5 (by kernel_rfl) (by kernel_rfl) ?_
        refine s_pure 76 (.int .i64 v3_74) (by kernel_rfl) (by kernel_rfl) (fun _ => by kernel_rfl) ?_
        obtain ⟨hc19_1_0, H⟩ := chkE H
        refine rows_at .here (by have := hc19_1_0; simp only [ints_length]; omega) ?_
        intro bb8 oo8 ha8
        refine s_pure 77 (.pointer (some ⟨bb8, oo8 + ((v3_74).toNat * 1 + 0), none⟩)) (by kernel_rfl) (by kernel_rfl) (index_at (t := 22) (sz := 1) (E := 3) (a := a17_2) (m := (List.length (lget v0_b4_0 v1_67))) (c := c17_2) (b := bb8) (off := oo8) (i := (v3_74).toNat) (tinfo 3) (fun _ => by kernel_rfl) (by kernel_rfl) (by kernel_rfl) (by kernel_rfl) ha8 (idx_cast hc19_1_0) (idx_nat hc19_1_0) rfl) ?_
        refine s_load 78 (.int .i64 (nth (lget v0_b4_0 v1_67) v3_74)) (by kernel_rfl) (by kernel_rfl) (load1_at (off := oo8 + ((v3_74).toNat * 1 + 0)) (v := .int .i64 (nth (lget v0_b4_0 v1_67) v3_74)) (fun _ => by kernel_rfl) rfl (reads_cell (k := 1) (RowsA.reads (k := 1) .here) (ints_rows _) ha8 (nth_row hc19_1_0) (show [(.int .i64 (nth (lget v0_b4_0 v1_67) v3_74) : Value)][0]? = some _ from rfl))) ?_
        refine s_pure 10 (.int .i64 v3_74) (by kernel_rfl) (by kernel_rfl) (fun _ => by kernel_rfl) ?_
        refine s_pure 11 (.int .i64 (nth (lget v0_b4_0 v1_67) v3_74)) (by kernel_rfl) (by kernel_rfl) (fun _ => by kernel_rfl) ?_
        refine ops_end ?_
        refine At.env [(5, .pointer (some ⟨b1_0, 0, none⟩)), (6, .pointer (some ⟨b4_0, 0, none⟩)), (9, .int .i64 v1_67), (10, .int .i64 v3_74), (11, .int .i64 (nth (lget v0_b4_0 v1_67) v3_74)), (67, .int .i64 v1_67), (72, .slice a17_2 (List.length (lget v0_b4_0 v1_67)) c17_2), (73, .int .i64 (((List.length (lget v0_b4_0 v1_67)) : Nat) : Int)), (74, .int .i64 v3_74)] ⟨by kernel_rfl, by kernel_rfl, by kernel_rfl, by kernel_rfl, by kernel_rfl, by kernel_rfl, by kernel_rfl, by kernel_rfl, by kernel_rfl, trivial⟩ ?_
        refine at_then_normal ?_
        refine at_seq (x := C10 [1,1,1,1,1,0,1,0,0,1,1,0,0,1,0,1,0,0,1,1,0,0,1,0]) (y := C10 [1,1,1,1,1,0,1,0,0,1,1,0,0,1,0,1,0,0,1,1,0,0,1,1]) (by kernel_rfl) ?_
        refine at_seq (x := C10 [1,1,1,1,1,0,1,0,0,1,1,0,0,1,0,1,0,0,1,1,0,0,1,0,0]) (y := C10 [1,1,1,1,1,0,1,0,0,1,1,0,0,1,0,1,0,0,1,1,0,0,1,0,1]) (by kernel_rfl) ?_
        refine at_region_draw (id := 20) (by kernel_rfl) (by kernel_rfl) ?_
        refine d_pure 0 79 (.pointer (some ⟨b1_0, 0, none⟩)) (by kernel_rfl) (by kernel_rfl) (by kernel_rfl) (fun _ => by kernel_rfl) ?_
        refine d_pure 1 80 (.int .i64 v1_67) (by kernel_rfl) (by kernel_rfl) (by kernel_rfl) (fun _ => by kernel_rfl) ?_
        refine d_pure 3 82 (.int .i64 (nth (lget v0_b4_0 v1_67) v3_74)) (by kernel_rfl) (by kernel_rfl) (by kernel_rfl) (fun _ => by kernel_rfl) ?_
        obtain ⟨y20_2, hy20_2, H⟩ := bindE H
        refine d_call 2 81 [0, 1] [3] [] 17 #[.pointer (some ⟨b1_0, 0, none⟩), .int .i64 v1_67] (by kernel_rfl) (by kernel_rfl) (by kernel_rfl) (fun _ => by kernel_rfl) (Tr.conv (Γ' := (TurnsA b1_0 v3_b1_0) :: (IntsA a17_2 c17_2 (lget v0_b4_0 v1_67)) :: (ListsX b4_0 72 v0_b4_0 v1_67 a17_2 c17_2) :: Γ) (fun w hw => (Sat.less (.take (.there (.there .here)) (.take .here (.take .here .refl))) hw)) (TOwnerF_tr b1_0 v3_b1_0 v1_67 y20_2 hy20_2)) ?_
        rintro _ _ ⟨rfl, rfl⟩
        refine ⟨stable_nil, ?_⟩
        refine d_pure 4 83 (.bool (!(decide (y20_2 = (nth (lget v0_b4_0 v1_67) v3_74))))) (by kernel_rfl) (by kernel_rfl) (by kernel_rfl) (fun _ => by kernel_rfl) ?_
        rcases Bool.eq_false_or_eq_true (!(decide (y20_2 = (nth (lget v0_b4_0 v1_67) v3_74)))) with h22 | h22
        · replace H := bifT H h22
          refine d_pure 5 84 (.bool true) (by kernel_rfl) (by kernel_rfl) (by kernel_rfl) (run_eq (v := .bool (!(decide (y20_2 = (nth (lget v0_b4_0 v1_67) v3_74))))) (fun _ => by kernel_rfl) (congrArg Value.bool h22)) ?_
          refine d_off 6 85 (by kernel_rfl) (by kernel_rfl) (by kernel_rfl) ?_
          refine d_off 7 86 (by kernel_rfl) (by kernel_rfl) (by kernel_rfl) ?_
          refine d_off 8 87 (by kernel_rfl) (by kernel_rfl) (by kernel_rfl) ?_
          refine d_off 9 88 (by kernel_rfl) (by kernel_rfl) (by kernel_rfl) ?_
          refine d_off 10 89 (by kernel_rfl) (by kernel_rfl) (by kernel_rfl) ?_
          refine d_off 11 90 (by kernel_rfl) (by kernel_rfl) (by kernel_rfl) ?_
          refine d_off 12 91 (by kernel_rfl) (by kernel_rfl) (by kernel_rfl) ?_
          refine d_off 13 92 (by kernel_rfl) (by kernel_rfl) (by kernel_rfl) ?_
          refine d_off 14 93 (by kernel_rfl) (by kernel_rfl) (by kernel_rfl) ?_
          refine d_off 15 94 (by kernel_rfl) (by kernel_rfl) (by kernel_rfl) ?_
          refine d_off 16 95 (by kernel_rfl) (by kernel_rfl) (by kernel_rfl) ?_
          refine d_pure 17 96 (.bool true) (by kernel_rfl) (by kernel_rfl) (by kernel_rfl) (fun _ => by kernel_rfl) ?_
          refine draw_end (by kernel_rfl) ?_
          refine At.env [(5, .pointer (some ⟨b1_0, 0, none⟩)), (6, .pointer (some ⟨b4_0, 0, none⟩)), (9, .int .i64 v1_67), (10, .int .i64 v3_74), (11, .int .i64 (nth (lget v0_b4_0 v1_67) v3_74)), (67, .int .i64 v1_67), (72, .slice a17_2 (List.length (lget v0_b4_0 v1_67)) c17_2), (73, .int .i64 (((List.length (lget v0_b4_0 v1_67)) : Nat) : Int)), (74, .int .i64 v3_74), (79, .pointer (some ⟨b1_0, 0, none⟩)), (80, .int .i64 v1_67), (81, .int .i64 y20_2), (82, .int .i64 (nth (lget v0_b4_0 v1_67) v3_74)), (83, .bool (!(decide (y20_2 = (nth (lget v0_b4_0 v1_67) v3_74))))), (84, .bool true), (96, .bool true)] ⟨by kernel_rfl, by kernel_rfl, by kernel_rfl, by kernel_rfl, by kernel_rfl, by kernel_rfl, by kernel_rfl, by kernel_rfl, by kernel_rfl, by kernel_rfl, by kernel_rfl, by kernel_rfl, by kernel_rfl, by kernel_rfl, by kernel_rfl, by kernel_rfl, trivial⟩ ?_
          refine at_then_normal ?_
          refine at_true (t := true) (x := C10 [1,1,1,1,1,0,1,0,0,1,1,0,0,1,0,1,0,0,1,1,0,0,1,0,1,0]) (y := C10 [1,1,1,1,1,0,1,0,0,1,1,0,0,1,0,1,0,0,1,1,0,0,1,0,1,1]) (o := .tmp 96) (by kernel_rfl) (by kernel_rfl) (by kernel_rfl) rfl ?_
          refine at_seq (x := C10 [1,1,1,1,1,0,1,0,0,1,1,0,0,1,0,1,0,0,1,1,0,0,1,0,1,0,0]) (y := C10 [1,1,1,1,1,0,1,0,0,1,1,0,0,1,0,1,0,0,1,1,0,0,1,0,1,0,1]) (by kernel_rfl) ?_
          refine at_region (id := 21) 1 (by kernel_rfl) (by kernel_rfl) ?_
          refine s_pure 4 (.bool false) (by kernel_rfl) (by kernel_rfl) (fun _ => by kernel_rfl) ?_
          refine ops_end ?_
          refine At.env [(4, .bool false)] ⟨by kernel_rfl, trivial⟩ ?_
          refine at_then_normal ?_
          refine at_ret (by kernel_rfl) ?_
          refine at_then_ret ?_
          refine at_in_ret ?_
          refine at_then_ret ?_
          refine at_then_ret ?_
          refine at_in_ret ?_
          refine at_then_ret ?_
          refine at_in_ret ?_
          refine at_then_ret ?_
          refine at_then_ret ?_
          refine at_in_ret ?_
          refine at_then_ret ?_
          obtain rfl := someE H
          refine at_backR [.bool false] (Γ) (rs := [.tmp 4]) (by kernel_rfl) (.cons (.tmp (by kernel_rfl)) .nil) (fun w hw => (Sat.less (.drop .here (.drop .here (.drop .here .refl))) hw)) ?_
          exact ⟨rfl, rfl⟩
        · replace H := bifF H h22
          refine d_pure 5 84 (.bool false) (by kernel_rfl) (by kernel_rfl) (by kernel_rfl) (run_eq (v := .bool (!(decide (y20_2 = (nth (lget v0_b4_0 v1_67) v3_74))))) (fun _ => by kernel_rfl) (congrArg Value.bool h22)) ?_
          refine d_pure 6 85 (.pointer (some ⟨b1_0, 0, none⟩)) (by kernel_rfl) (by kernel_rfl) (by kernel_rfl) (fun _ => by kernel_rfl) ?_
          refine d_pure 7 86 (.int .i64 v1_67) (by kernel_rfl) (by kernel_rfl) (by kernel_rfl) (fun _ => by kernel_rfl) ?_
          refine d_pure 9 88 (.int .i64 v1_67) (by kernel_rfl) (by kernel_rfl) (by kernel_rfl) (fun _ => by kernel_rfl) ?_
          obtain ⟨hc20_10_0, H⟩ := chkE H
          refine d_pure 10 89 (.pointer (some ⟨b4_0, (v1_67).toNat, none⟩)) (by kernel_rfl) (by kernel_rfl) (by kernel_rfl) (index_arr (t := 72) (E := 22) (m := 3) (tinfo 22) (fun _ => by kernel_rfl) (by kernel_rfl) (by kernel_rfl) (by kernel_rfl) hc20_10_0.1) ?_
          refine d_load 11 90 (.slice a17_2 (List.length (lget v0_b4_0 v1_67)) c17_2) (by kernel_rfl) (by kernel_rfl) (by kernel_rfl) (lists_load (i := v1_67) (fun _ => by kernel_rfl) (.there (.there .here))) ?_
          refine d_pure 12 91 (.int .i64 (((List.length (lget v0_b4_0 v1_67)) : Nat) : Int)) (by kernel_rfl) (by kernel_rfl) (by kernel_rfl) (fun _ => by kernel_rfl) ?_
          obtain ⟨u20_13, hu20_13, H⟩ := letE H
          refine d_pure 13 92 (.int .i64 u20_13) (by kernel_rfl) (by kernel_rfl) (by kernel_rfl) (run_eq (v := .int .i64 (wr ((((List.length (lget v0_b4_0 v1_67)) : Nat) : Int) - (1 : Int)))) (fun _ => by kernel_rfl) (by rw [hu20_13])) ?_
          refine d_pure 14 93 (.int .i64 v3_74) (by kernel_rfl) (by kernel_rfl) (by kernel_rfl) (fun _ => by kernel_rfl) ?_
          refine d_pure 15 94 (.int .i64 (wr (u20_13 - v3_74))) (by kernel_rfl) (by kernel_rfl) (by kernel_rfl) (fun _ => by kernel_rfl) ?_
          obtain ⟨y20_8, hy20_8, H⟩ := bindE H
          refine d_call 8 87 [6, 7, 5, 4, 2, 3, 0, 1] [15, 14, 13, 12, 10, 9] [11] 14 #[.pointer (some ⟨b1_0, 0, none⟩), .int .i64 v1_67] (by kernel_rfl) (by kernel_rfl) (by kernel_rfl) (fun _ => by kernel_rfl) (TWaitingF_tr b1_0 v3_b1_0 v1_67 y20_8 hy20_8) ?_
          rintro _ _ ⟨rfl, rfl⟩
          refine ⟨(stable_cons 11 90 (.slice a17_2 (List.length (lget v0_b4_0 v1_67)) c17_2) (by kernel_rfl) (by kernel_rfl) (by kernel_rfl) (lists_load (i := v1_67) (fun _ => by kernel_rfl) (.there (.there .here))) stable_nil), ?_⟩
          refine d_pure 16 95 (.bool (!(decide (y20_8 = (wr (u20_13 - v3_74)))))) (by kernel_rfl) (by kernel_rfl) (by kernel_rfl) (fun _ => by kernel_rfl) ?_
          refine d_pure 17 96 (.bool (!(decide (y20_8 = (wr (u20_13 - v3_74)))))) (by kernel_rfl) (by kernel_rfl) (by kernel_rfl) (fun _ => by kernel_rfl) ?_
          refine draw_end (by kernel_rfl) ?_
          refine At.env [(5, .pointer (some ⟨b1_0, 0, none⟩)), (6, .pointer (some ⟨b4_0, 0, none⟩)), (9, .int .i64 v1_67), (10, .int .i64 v3_74), (11, .int .i64 (nth (lget v0_b4_0 v1_67) v3_74)), (67, .int .i64 v1_67), (72, .slice a17_2 (List.length (lget v0_b4_0 v1_67)) c17_2), (73, .int .i64 (((List.length (lget v0_b4_0 v1_67)) : Nat) : Int)), (74, .int .i64 v3_74), (79, .pointer (some ⟨b1_0, 0, none⟩)), (80, .int .i64 v1_67), (81, .int .i64 y20_2), (82, .int .i64 (nth (lget v0_b4_0 v1_67) v3_74)), (83, .bool (!(decide (y20_2 = (nth (lget v0_b4_0 v1_67) v3_74))))), (84, .bool false), (85, .pointer (some ⟨b1_0, 0, none⟩)), (86, .int .i64 v1_67), (87, .int .i64 y20_8), (88, .int .i64 v1_67), (89, .pointer (some ⟨b4_0, (v1_67).toNat, none⟩)), (90, .slice a17_2 (List.length (lget v0_b4_0 v1_67)) c17_2), (91, .int .i64 (((List.length (lget v0_b4_0 v1_67)) : Nat) : Int)), (92, .int .i64 u20_13), (93, .int .i64 v3_74), (94, .int .i64 (wr (u20_13 - v3_74))), (95, .bool (!(decide (y20_8 = (wr (u20_13 - v3_74)))))), (96, .bool (!(decide (y20_8 = (wr (u20_13 - v3_74))))))] ⟨by kernel_rfl, by kernel_rfl, by kernel_rfl, by kernel_rfl, by kernel_rfl, by kernel_rfl, by kernel_rfl, by kernel_rfl, by kernel_rfl, by kernel_rfl, by kernel_rfl, by kernel_rfl, by kernel_rfl, by kernel_rfl, by kernel_rfl, by kernel_rfl, by kernel_rfl, by kernel_rfl, by kernel_rfl, by kernel_rfl, by kernel_rfl, by kernel_rfl, by kernel_rfl, by kernel_rfl, by kernel_rfl, by kernel_rfl, by kernel_rfl, trivial⟩ ?_
          refine at_then_normal ?_
          rcases Bool.eq_false_or_eq_true (!(decide (y20_8 = (wr (u20_13 - v3_74))))) with h23 | h23
          · replace H := bifT H h23
            refine at_true (t := !(decide (y20_8 = (wr (u20_13 - v3_74))))) (x := C10 [1,1,1,1,1,0,1,0,0,1,1,0,0,1,0,1,0,0,1,1,0,0,1,0,1,0]) (y := C10 [1,1,1,1,1,0,1,0,0,1,1,0,0,1,0,1,0,0,1,1,0,0,1,0,1,1]) (o := .tmp 96) (by kernel_rfl) (by kernel_rfl) (by kernel_rfl) h23 ?_
            refine at_seq (x := C10 [1,1,1,1,1,0,1,0,0,1,1,0,0,1,0,1,0,0,1,1,0,0,1,0,1,0,0]) (y := C10 [1,1,1,1,1,0,1,0,0,1,1,0,0,1,0,1,0,0,1,1,0,0,1,0,1,0,1]) (by kernel_rfl) ?_
            refine at_region (id := 21) 1 (by kernel_rfl) (by kernel_rfl) ?_
            refine s_pure 4 (.bool false) (by kernel_rfl) (by kernel_rfl) (fun _ => by kernel_rfl) ?_
            refine ops_end ?_
            refine At.env [(4, .bool false)] ⟨by kernel_rfl, trivial⟩ ?_
            refine at_then_normal ?_
            refine at_ret (by kernel_rfl) ?_
            refine at_then_ret ?_
            refine at_in_ret ?_
            refine at_then_ret ?_
            refine at_then_ret ?_
            refine at_in_ret ?_
            refine at_then_ret ?_
            refine at_in_ret ?_
            refine at_then_ret ?_
            refine at_then_ret ?_
            refine at_in_ret ?_
            refine at_then_ret ?_
            obtain rfl := someE H
            refine at_backR [.bool false] (Γ) (rs := [.tmp 4]) (by kernel_rfl) (.cons (.tmp (by kernel_rfl)) .nil) (fun w hw => (Sat.less (.drop .here (.drop .here (.drop .here .refl))) hw)) ?_
            exact ⟨rfl, rfl⟩
          · replace H := bifF H h23
            refine at_false (t := !(decide (y20_8 = (wr (u20_13 - v3_74))))) (x := C10 [1,1,1,1,1,0,1,0,0,1,1,0,0,1,0,1,0,0,1,1,0,0,1,0,1,0]) (y := C10 [1,1,1,1,1,0,1,0,0,1,1,0,0,1,0,1,0,0,1,1,0,0,1,0,1,1]) (o := .tmp 96) (by kernel_rfl) (by kernel_rfl) (by kernel_rfl) h23 ?_
            refine at_skip (by kernel_rfl) ?_
            refine at_then_normal ?_
            refine at_seq (x := C10 [1,1,1,1,1,0,1,0,0,1,1,0,0,1,0,1,0,0,1,1,0,0,1,1,0]) (y := C10 [1,1,1,1,1,0,1,0,0,1,1,0,0,1,0,1,0,0,1,1,0,0,1,1,1]) (by kernel_rfl) ?_
            refine at_seq (x := C10 [1,1,1,1,1,0,1,0,0,1,1,0,0,1,0,1,0,0,1,1,0,0,1,1,0,0]) (y := C10 [1,1,1,1,1,0,1,0,0,1,1,0,0,1,0,1,0,0,1,1,0,0,1,1,0,1]) (by kernel_rfl) ?_
            refine at_region (id := 22) 10 (by kernel_rfl) (by kernel_rfl) ?_
            refine s_pure 98 (.pointer (some ⟨b1_0, 0, none⟩)) (by kernel_rfl) (by kernel_rfl) (fun _ => by kernel_rfl) ?_
            refine s_pure 99 (.int .i64 v1_67) (by kernel_rfl) (by kernel_rfl) (fun _ => by kernel_rfl) ?_
            obtain ⟨y22_2, hy22_2, H⟩ := bindE H
            refine s_call 100 16 #[.pointer (some ⟨b1_0, 0, none⟩), .int .i64 v1_67] (by kernel_rfl) (by kernel_rfl) (fun _ => by kernel_rfl) (TNextF_tr b1_0 v3_b1_0 v1_67 y22_2 hy22_2) ?_
            rintro _ _ ⟨rfl, rfl⟩
            refine s_pure 97 (.tuple #[.int .i64 y22_2.1, .int .i64 y22_2.2.1, .bool y22_2.2.2.1]) (by kernel_rfl) (by kernel_rfl) (fun _ => by kernel_rfl) ?_
            refine s_pure 101 (.int .i64 y22_2.1) (by kernel_rfl) (by kernel_rfl) (fun _ => by kernel_rfl) ?_
            refine s_pure 102 (.int .i64 y22_2.2.1) (by kernel_rfl) (by kernel_rfl) (fun _ => by kernel_rfl) ?_
            refine s_pure 103 (.bool y22_2.2.2.1) (by kernel_rfl) (by kernel_rfl) (fun _ => by kernel_rfl) ?_
            refine s_pure 12 (.int .i64 y22_2.1) (by kernel_rfl) (by kernel_rfl) (fun _ => by kernel_rfl) ?_
            refine s_pure 13 (.int .i64 y22_2.2.1) (by kernel_rfl) (by kernel_rfl) (fun _ => by kernel_rfl) ?_
            refine s_pure 14 (.bool y22_2.2.2.1) (by kernel_rfl) (by kernel_rfl) (fun _ => by kernel_rfl) ?_
            refine ops_end ?_
            refine At.env [(5, .pointer (some ⟨b1_0, 0, none⟩)), (6, .pointer (some ⟨b4_0, 0, none⟩)), (9, .int .i64 v1_67), (10, .int .i64 v3_74), (11, .int .i64 (nth (lget v0_b4_0 v1_67) v3_74)), (14, .bool y22_2.2.2.1), (67, .int .i64 v1_67), (72, .slice a17_2 (List.length (lget v0_b4_0 v1_67)) c17_2), (73, .int .i64 (((List.length (lget v0_b4_0 v1_67)) : Nat) : Int)), (74, .int .i64 v3_74), (79, .pointer (some ⟨b1_0, 0, none⟩)), (80, .int .i64 v1_67), (81, .int .i64 y20_2), (82, .int .i64 (nth (lget v0_b4_0 v1_67) v3_74)), (83, .bool (!(decide (y20_2 = (nth (lget v0_b4_0 v1_67) v3_74))))), (84, .bool false), (85, .pointer (some ⟨b1_0, 0, none⟩)), (86, .int .i64 v1_67), (87, .int .i64 y20_8), (88, .int .i64 v1_67), (89, .pointer (some ⟨b4_0, (v1_67).toNat, none⟩)), (90, .slice a17_2 (List.length (lget v0_b4_0 v1_67)) c17_2), (91, .int .i64 (((List.length (lget v0_b4_0 v1_67)) : Nat) : Int)), (92, .int .i64 u20_13), (93, .int .i64 v3_74), (94, .int .i64 (wr (u20_13 - v3_74))), (95, .bool (!(decide (y20_8 = (wr (u20_13 - v3_74))))))] ⟨by kernel_rfl, by kernel_rfl, by kernel_rfl, by kernel_rfl, by kernel_rfl, by kernel_rfl, by kernel_rfl, by kernel_rfl, by kernel_rfl, by kernel_rfl, by kernel_rfl, by kernel_rfl, by kernel_rfl, by kernel_rfl, by kernel_rfl, by kernel_rfl, by kernel_rfl, by kernel_rfl, by kernel_rfl, by kernel_rfl, by kernel_rfl, by kernel_rfl, by kernel_rfl, by kernel_rfl, by kernel_rfl, by kernel_rfl, by kernel_rfl, trivial⟩ ?_
            refine at_then_normal ?_
            refine at_seq (x := C10 [1,1,1,1,1,0,1,0,0,1,1,0,0,1,0,1,0,0,1,1,0,0,1,1,0,1,0]) (y := C10 [1,1,1,1,1,0,1,0,0,1,1,0,0,1,0,1,0,0,1,1,0,0,1,1,0,1,1]) (by kernel_rfl) ?_
            refine at_region (id := 23) 1 (by kernel_rfl) (by kernel_rfl) ?_
            refine s_pure 104 (.bool y22_2.2.2.1) (by kernel_rfl) (by kernel_rfl) (fun _ => by kernel_rfl) ?_
            refine ops_end ?_
            refine At.env [(5, .pointer (some ⟨b1_0, 0, none⟩)), (6, .pointer (some ⟨b4_0, 0, none⟩)), (9, .int .i64 v1_67), (10, .int .i64 v3_74), (11, .int .i64 (nth (lget v0_b4_0 v1_67) v3_74)), (67, .int .i64 v1_67), (72, .slice a17_2 (List.length (lget v0_b4_0 v1_67)) c17_2), (73, .int .i64 (((List.length (lget v0_b4_0 v1_67)) : Nat) : Int)), (74, .int .i64 v3_74), (79, .pointer (some ⟨b1_0, 0, none⟩)), (80, .int .i64 v1_67), (81, .int .i64 y20_2), (82, .int .i64 (nth (lget v0_b4_0 v1_67) v3_74)), (83, .bool (!(decide (y20_2 = (nth (lget v0_b4_0 v1_67) v3_74))))), (84, .bool false), (85, .pointer (some ⟨b1_0, 0, none⟩)), (86, .int .i64 v1_67), (87, .int .i64 y20_8), (88, .int .i64 v1_67), (89, .pointer (some ⟨b4_0, (v1_67).toNat, none⟩)), (90, .slice a17_2 (List.length (lget v0_b4_0 v1_67)) c17_2), (91, .int .i64 (((List.length (lget v0_b4_0 v1_67)) : Nat) : Int)), (92, .int .i64 u20_13), (93, .int .i64 v3_74), (94, .int .i64 (wr (u20_13 - v3_74))), (95, .bool (!(decide (y20_8 = (wr (u20_13 - v3_74)))))), (104, .bool y22_2.2.2.1)] ⟨by kernel_rfl, by kernel_rfl, by kernel_rfl, by kernel_rfl, by kernel_rfl, by kernel_rfl, by kernel_rfl, by kernel_rfl, by kernel_rfl, by kernel_rfl, by kernel_rfl, by kernel_rfl, by kernel_rfl, by kernel_rfl, by kernel_rfl, by kernel_rfl, by kernel_rfl, by kernel_rfl, by kernel_rfl, by kernel_rfl, by kernel_rfl, by kernel_rfl, by kernel_rfl, by kernel_rfl, by kernel_rfl, by kernel_rfl, by kernel_rfl, trivial⟩ ?_
            refine at_then_normal ?_
            rcases Bool.eq_false_or_eq_true (y22_2.2.2.1) with h24 | h24
            · replace H := bifT H h24
              refine at_true (t := y22_2.2.2.1) (x := C10 [1,1,1,1,1,0,1,0,0,1,1,0,0,1,0,1,0,0,1,1,0,0,1,1,0,1,1,0]) (y := C10 [1,1,1,1,1,0,1,0,0,1,1,0,0,1,0,1,0,0,1,1,0,0,1,1,0,1,1,1]) (o := .tmp 104) (by kernel_rfl) (by kernel_rfl) (by kernel_rfl) h24 ?_
              refine at_seq (x := C10 [1,1,1,1,1,0,1,0,0,1,1,0,0,1,0,1,0,0,1,1,0,0,1,1,0,1,1,0,0]) (y := C10 [1,1,1,1,1,0,1,0,0,1,1,0,0,1,0,1,0,0,1,1,0,0,1,1,0,1,1,0,1]) (by kernel_rfl) ?_
              refine at_region (id := 24) 1 (by kernel_rfl) (by kernel_rfl) ?_
              refine s_pure 4 (.bool false) (by kernel_rfl) (by kernel_rfl) (fun _ => by kernel_rfl) ?_
              refine ops_end ?_
              refine At.env [(4, .bool false)] ⟨by kernel_rfl, trivial⟩ ?_
              refine at_then_normal ?_
              refine at_ret (by kernel_rfl) ?_
              refine at_then_ret ?_
              refine at_in_ret ?_
              refine at_then_ret ?_
              refine at_then_ret ?_
              refine at_in_ret ?_
              refine at_then_ret ?_
              refine at_in_ret ?_
              refine at_then_ret ?_
              refine at_then_ret ?_
              refine at_in_ret ?_
              refine at_then_ret ?_
              obtain rfl := someE H
              refine at_backR [.bool false] (Γ) (rs := [.tmp 4]) (by kernel_rfl) (.cons (.tmp (by kernel_rfl)) .nil) (fun w hw => (Sat.less (.drop .here (.drop .here (.drop .here .refl))) hw)) ?_
              exact ⟨rfl, rfl⟩
            · replace H := bifF H h24
              refine at_false (t := y22_2.2.2.1) (x := C10 [1,1,1,1,1,0,1,0,0,1,1,0,0,1,0,1,0,0,1,1,0,0,1,1,0,1,1,0]) (y := C10 [1,1,1,1,1,0,1,0,0,1,1,0,0,1,0,1,0,0,1,1,0,0,1,1,0,1,1,1]) (o := .tmp 104) (by kernel_rfl) (by kernel_rfl) (by kernel_rfl) h24 ?_
              refine at_skip (by kernel_rfl) ?_
              refine at_then_normal ?_
              refine at_seq (x := C10 [1,1,1,1,1,0,1,0,0,1,1,0,0,1,0,1,0,0,1,1,0,0,1,1,1,0]) (y := C10 [1,1,1,1,1,0,1,0,0,1,1,0,0,1,0,1,0,0,1,1,0,0,1,1,1,1]) (by kernel_rfl) ?_
              refine at_seq (x := C10 [1,1,1,1,1,0,1,0,0,1,1,0,0,1,0,1,0,0,1,1,0,0,1,1,1,0,0]) (y := C10 [1,1,1,1,1,0,1,0,0,1,1,0,0,1,0,1,0,0,1,1,0,0,1,1,1,0,1]) (by kernel_rfl) ?_
              refine at_region (id := 25) 19 (by kernel_rfl) (by kernel_rfl) ?_
              refine s_pure 105 (.pointer (some ⟨b1_0, 0, none⟩)) (by kernel_rfl) (by kernel_rfl) (fun _ => by kernel_rfl) ?_
              refine s_pure 106 (.int .i64 v1_67) (by kernel_rfl) (by kernel_rfl) (fun _ => by kernel_rfl) ?_
              refine s_pure 107 (.int .i64 (nth (lget v0_b4_0 v1_67) v3_74)) (by kernel_rfl) (by kernel_rfl) (fun _ => by kernel_rfl) ?_
              obtain ⟨u25_3, hu25_3, H⟩ := letE H
              refine s_pure 108 (.int .i64 u25_3) (by kernel_rfl) (by kernel_rfl) (run_eq (v := .int .i64 (wr ((nth (lget v0_b4_0 v1_67) v3_74) + (1 : Int)))) (fun _ => by kernel_rfl) (by rw [hu25_3])) ?_
              obtain ⟨y25_4, hy25_4, H⟩ := bindE H
              refine s_call 109 15 #[.pointer (some ⟨b1_0, 0, none⟩), .int .i64 v1_67, .int .i64 u25_3] (by kernel_rfl) (by kernel_rfl) (fun _ => by kernel_rfl) (TReleaseF_tr b1_0 y22_2.2.2.2 v1_67 u25_3 y25_4 hy25_4) ?_
              rintro _ _ ⟨rfl, rfl⟩
              refine s_pure 110 (.bool (!(decide (y25_4.1 = (6 : Int))))) (by kernel_rfl) (by kernel_rfl) (fun _ => by kernel_rfl) ?_
              rcases Bool.eq_false_or_eq_true (!(decide (y25_4.1 = (6 : Int)))) with h25 | h25
              · replace H := bifT H h25
                refine s_pure 111 (.bool true) (by kernel_rfl) (by kernel_rfl) (run_eq (v := .bool (!(decide (y25_4.1 = (6 : Int))))) (fun _ => by kernel_rfl) (congrArg Value.bool h25)) ?_
                refine s_pass 112 (by kernel_rfl) (by kernel_rfl) ?_
                refine s_pass 113 (by kernel_rfl) (by kernel_rfl) ?_
                refine s_pass 114 (by kernel_rfl) (by kernel_rfl) ?_
                refine s_pass 115 (by kernel_rfl) (by kernel_rfl) ?_
                refine s_pass 116 (by kernel_rfl) (by kernel_rfl) ?_
                refine s_pure 117 (.bool true) (by kernel_rfl) (by kernel_rfl) (fun _ => by kernel_rfl) ?_
                refine s_pure 118 (.bool true) (by kernel_rfl) (by kernel_rfl) (fun _ => by kernel_rfl) ?_
                refine s_pass 119 (by kernel_rfl) (by kernel_rfl) ?_
                refine s_pass 120 (by kernel_rfl) (by kernel_rfl) ?_
                refine s_pass 121 (by kernel_rfl) (by kernel_rfl) ?_
                refine s_pass 122 (by kernel_rfl) (by kernel_rfl) ?_
                refine s_pure 123 (.bool true) (by kernel_rfl) (by kernel_rfl) (fun _ => by kernel_rfl) ?_
                refine ops_end ?_
                refine At.env [(5, .pointer (some ⟨b1_0, 0, none⟩)), (6, .pointer (some ⟨b4_0, 0, none⟩)), (9, .int .i64 v1_67), (10, .int .i64 v3_74), (67, .int .i64 v1_67), (72, .slice a17_2 (List.length (lget v0_b4_0 v1_67)) c17_2), (73, .int .i64 (((List.length (lget v0_b4_0 v1_67)) : Nat) : Int)), (74, .int .i64 v3_74), (79, .pointer (some ⟨b1_0, 0, none⟩)), (80, .int .i64 v1_67), (81, .int .i64 y20_2), (82, .int .i64 (nth (lget v0_b4_0 v1_67) v3_74)), (83, .bool (!(decide (y20_2 = (nth (lget v0_b4_0 v1_67) v3_74))))), (84, .bool false), (85, .pointer (some ⟨b1_0, 0, none⟩)), (86, .int .i64 v1_67), (87, .int .i64 y20_8), (88, .int .i64 v1_67), (89, .pointer (some ⟨b4_0, (v1_67).toNat, none⟩)), (90, .slice a17_2 (List.length (lget v0_b4_0 v1_67)) c17_2), (91, .int .i64 (((List.length (lget v0_b4_0 v1_67)) : Nat) : Int)), (92, .int .i64 u20_13), (93, .int .i64 v3_74), (94, .int .i64 (wr (u20_13 - v3_74))), (95, .bool (!(decide (y20_8 = (wr (u20_13 - v3_74)))))), (123, .bool true)] ⟨by kernel_rfl, by kernel_rfl, by kernel_rfl, by kernel_rfl, by kernel_rfl, by kernel_rfl, by kernel_rfl, by kernel_rfl, by kernel_rfl, by kernel_rfl, by kernel_rfl, by kernel_rfl, by kernel_rfl, by kernel_rfl, by kernel_rfl, by kernel_rfl, by kernel_rfl, by kernel_rfl, by kernel_rfl, by kernel_rfl, by kernel_rfl, by kernel_rfl, by kernel_rfl, by kernel_rfl, by kernel_rfl, by kernel_rfl, trivial⟩ ?_
                refine at_then_normal ?_
                refine at_true (t := true) (x := C10 [1,1,1,1,1,0,1,0,0,1,1,0,0,1,0,1,0,0,1,1,0,0,1,1,1,0,1,0]) (y := C10 [1,1,1,1,1,0,1,0,0,1,1,0,0,1,0,1,0,0,1,1,0,0,1,1,1,0,1,1]) (o := .tmp 123) (by kernel_rfl) (by kernel_rfl) (by kernel_rfl) rfl ?_
                refine at_seq (x := C10 [1,1,1,1,1,0,1,0,0,1,1,0,0,1,0,1,0,0,1,1,0,0,1,1,1,0,1,0,0]) (y := C10 [1,1,1,1,1,0,1,0,0,1,1,0,0,1,0,1,0,0,1,1,0,0,1,1,1,0,1,0,1]) (by kernel_rfl) ?_
                refine at_region (id := 26) 1 (by kernel_rfl) (by kernel_rfl) ?_
                refine s_pure 4 (.bool false) (by kernel_rfl) (by kernel_rfl) (fun _ => by kernel_rfl) ?_
                refine ops_end ?_
                refine At.env [(4, .bool false)] ⟨by kernel_rfl, trivial⟩ ?_
                refine at_then_normal ?_
                refine at_ret (by kernel_rfl) ?_
                refine at_then_ret ?_
                refine at_in_ret ?_
                refine at_then_ret ?_
                refine at_then_ret ?_
                refine at_in_ret ?_
                refine at_then_ret ?_
                refine at_in_ret ?_
                refine at_then_ret ?_
                refine at_then_ret ?_
                refine at_in_ret ?_
                refine at_then_ret ?_
                obtain rfl := someE H
                refine at_backR [.bool false] (Γ) (rs := [.tmp 4]) (by kernel_rfl) (.cons (.tmp (by kernel_rfl)) .nil) (fun w hw => (Sat.less (.drop .here (.drop .here (.drop .here .refl))) hw)) ?_
                exact ⟨rfl, rfl⟩
              · replace H := bifF H h25
                refine s_pure 111 (.bool false) (by kernel_rfl) (by kernel_rfl) (run_eq (v := .bool (!(decide (y25_4.1 = (6 : Int))))) (fun _ => by kernel_rfl) (congrArg Value.bool h25)) ?_
                refine s_pure 112 (.pointer (some ⟨b1_0, 0, none⟩)) (by kernel_rfl) (by kernel_rfl) (fun _ => by kernel_rfl) ?_
                refine s_pure 113 (.int .i64 v1_67) (by kernel_rfl) (by kernel_rfl) (fun _ => by kernel_rfl) ?_
                refine s_pure 114 (.int .i64 (nth (lget v0_b4_0 v1_67) v3_74)) (by kernel_rfl) (by kernel_rfl) (fun _ => by kernel_rfl) ?_
                obtain ⟨y25_10, hy25_10, H⟩ := bindE H
                refine s_call 115 15 #[.pointer (some ⟨b1_0, 0, none⟩), .int .i64 v1_67, .int .i64 (nth (lget v0_b4_0 v1_67) v3_74)] (by kernel_rfl) (by kernel_rfl) (fun _ => by kernel_rfl) (TReleaseF_tr b1_0 y25_4.2 v1_67 (nth (lget v0_b4_0 v1_67) v3_74) y25_10 hy25_10) ?_
                rintro _ _ ⟨rfl, rfl⟩
                refine s_pure 116 (.bool (!(decide (y25_10.1 = (0 : Int))))) (by kernel_rfl) (by kernel_rfl) (fun _ => by kernel_rfl) ?_
                refine s_pure 117 (.bool (!(decide (y25_10.1 = (0 : Int))))) (by kernel_rfl) (by kernel_rfl) (fun _ => by kernel_rfl) ?_
                rcases Bool.eq_false_or_eq_true (!(decide (y25_10.1 = (0 : Int)))) with h26 | h26
                · replace H := bifT H h26
                  refine s_pure 118 (.bool true) (by kernel_rfl) (by kernel_rfl) (run_eq (v := .bool (!(decide (y25_10.1 = (0 : Int))))) (fun _ => by kernel_rfl) (congrArg Value.bool h26)) ?_
                  refine s_pass 119 (by kernel_rfl) (by kernel_rfl) ?_
                  refine s_pass 120 (by kernel_rfl) (by kernel_rfl) ?_
                  refine s_pass 121 (by kernel_rfl) (by kernel_rfl) ?_
                  refine s_pass 122 (by kernel_rfl) (by kernel_rfl) ?_
                  refine s_pure 123 (.bool true) (by kernel_rfl) (by kernel_rfl) (fun _ => by kernel_rfl) ?_
                  refine ops_end ?_
                  refine At.env [(5, .pointer (some ⟨b1_0, 0, none⟩)), (6, .pointer (some ⟨b4_0, 0, none⟩)), (9, .int .i64 v1_67), (10, .int .i64 v3_74), (67, .int .i64 v1_67), (72, .slice a17_2 (List.length (lget v0_b4_0 v1_67)) c17_2), (73, .int .i64 (((List.length (lget v0_b4_0 v1_67)) : Nat) : Int)), (74, .int .i64 v3_74), (79, .pointer (some ⟨b1_0, 0, none⟩)), (80, .int .i64 v1_67), (81, .int .i64 y20_2), (82, .int .i64 (nth (lget v0_b4_0 v1_67) v3_74)), (83, .bool (!(decide (y20_2 = (nth (lget v0_b4_0 v1_67) v3_74))))), (84, .bool false), (85, .pointer (some ⟨b1_0, 0, none⟩)), (86, .int .i64 v1_67), (87, .int .i64 y20_8), (88, .int .i64 v1_67), (89, .pointer (some ⟨b4_0, (v1_67).toNat, none⟩)), (90, .slice a17_2 (List.length (lget v0_b4_0 v1_67)) c17_2), (91, .int .i64 (((List.length (lget v0_b4_0 v1_67)) : Nat) : Int)), (92, .int .i64 u20_13), (93, .int .i64 v3_74), (94, .int .i64 (wr (u20_13 - v3_74))), (95, .bool (!(decide (y20_8 = (wr (u20_13 - v3_74)))))), (123, .bool true)] ⟨by kernel_rfl, by kernel_rfl, by kernel_rfl, by kernel_rfl, by kernel_rfl, by kernel_rfl, by kernel_rfl, by kernel_rfl, by kernel_rfl, by kernel_rfl, by kernel_rfl, by kernel_rfl, by kernel_rfl, by kernel_rfl, by kernel_rfl, by kernel_rfl, by kernel_rfl, by kernel_rfl, by kernel_rfl, by kernel_rfl, by kernel_rfl, by kernel_rfl, by kernel_rfl, by kernel_rfl, by kernel_rfl, by kernel_rfl, trivial⟩ ?_
                  refine at_then_normal ?_
                  refine at_true (t := true) (x := C10 [1,1,1,1,1,0,1,0,0,1,1,0,0,1,0,1,0,0,1,1,0,0,1,1,1,0,1,0]) (y := C10 [1,1,1,1,1,0,1,0,0,1,1,0,0,1,0,1,0,0,1,1,0,0,1,1,1,0,1,1]) (o := .tmp 123) (by kernel_rfl) (by kernel_rfl) (by kernel_rfl) rfl ?_
                  refine at_seq (x := C10 [1,1,1,1,1,0,1,0,0,1,1,0,0,1,0,1,0,0,1,1,0,0,1,1,1,0,1,0,0]) (y := C10 [1,1,1,1,1,0,1,0,0,1,1,0,0,1,0,1,0,0,1,1,0,0,1,1,1,0,1,0,1]) (by kernel_rfl) ?_
                  refine at_region (id := 26) 1 (by kernel_rfl) (by kernel_rfl) ?_
                  refine s_pure 4 (.bool false) (by kernel_rfl) (by kernel_rfl) (fun _ => by kernel_rfl) ?_
                  refine ops_end ?_
                  refine At.env [(4, .bool false)] ⟨by kernel_rfl, trivial⟩ ?_
                  refine at_then_normal ?_
                  refine at_ret (by kernel_rfl) ?_
                  refine at_then_ret ?_
                  refine at_in_ret ?_
                  refine at_then_ret ?_
                  refine at_then_ret ?_
                  refine at_in_ret ?_
                  refine at_then_ret ?_
                  refine at_in_ret ?_
                  refine at_then_ret ?_
                  refine at_then_ret ?_
                  refine at_in_ret ?_
                  refine at_then_ret ?_
                  obtain rfl := someE H
                  refine at_backR [.bool false] (Γ) (rs := [.tmp 4]) (by kernel_rfl) (.cons (.tmp (by kernel_rfl)) .nil) (fun w hw => (Sat.less (.drop .here (.drop .here (.drop .here .refl))) hw)) ?_
                  exact ⟨rfl, rfl⟩
                · replace H := bifF H h26
                  refine s_pure 118 (.bool false) (by kernel_rfl) (by kernel_rfl) (run_eq (v := .bool (!(decide (y25_10.1 = (0 : Int))))) (fun _ => by kernel_rfl) (congrArg Value.bool h26)) ?_
                  refine s_pure 119 (.pointer (some ⟨b1_0, 0, none⟩)) (by kernel_rfl) (by kernel_rfl) (fun _ => by kernel_rfl) ?_
                  refine s_pure 120 (.int .i64 v1_67) (by kernel_rfl) (by kernel_rfl) (fun _ => by kernel_rfl) ?_
                  obtain ⟨y25_16, hy25_16, H⟩ := bindE H
                  refine s_call 121 17 #[.pointer (some ⟨b1_0, 0, none⟩), .int .i64 v1_67] (by kernel_rfl) (by kernel_rfl) (fun _ => by kernel_rfl) (TOwnerF_tr b1_0 y25_10.2 v1_67 y25_16 hy25_16) ?_
                  rintro _ _ ⟨rfl, rfl⟩
                  refine s_pure 122 (.bool (!(decide (y25_16 = ((-1) : Int))))) (by kernel_rfl) (by kernel_rfl) (fun _ => by kernel_rfl) ?_
                  refine s_pure 123 (.bool (!(decide (y25_16 = ((-1) : Int))))) (by kernel_rfl) (by kernel_rfl) (fun _ => by kernel_rfl) ?_
                  refine ops_end ?_
                  refine At.env [(5, .pointer (some ⟨b1_0, 0, none⟩)), (6, .pointer (some ⟨b4_0, 0, none⟩)), (9, .int .i64 v1_67), (10, .int .i64 v3_74), (67, .int .i64 v1_67), (72, .slice a17_2 (List.length (lget v0_b4_0 v1_67)) c17_2), (73, .int .i64 (((List.length (lget v0_b4_0 v1_67)) : Nat) : Int)), (74, .int .i64 v3_74), (79, .pointer (some ⟨b1_0, 0, none⟩)), (80, .int .i64 v1_67), (81, .int .i64 y20_2), (82, .int .i64 (nth (lget v0_b4_0 v1_67) v3_74)), (83, .bool (!(decide (y20_2 = (nth (lget v0_b4_0 v1_67) v3_74))))), (84, .bool false), (85, .pointer (some ⟨b1_0, 0, none⟩)), (86, .int .i64 v1_67), (87, .int .i64 y20_8), (88, .int .i64 v1_67), (89, .pointer (some ⟨b4_0, (v1_67).toNat, none⟩)), (90, .slice a17_2 (List.length (lget v0_b4_0 v1_67)) c17_2), (91, .int .i64 (((List.length (lget v0_b4_0 v1_67)) : Nat) : Int)), (92, .int .i64 u20_13), (93, .int .i64 v3_74), (94, .int .i64 (wr (u20_13 - v3_74))), (95, .bool (!(decide (y20_8 = (wr (u20_13 - v3_74)))))), (123, .bool (!(decide (y25_16 = ((-1) : Int)))))] ⟨by kernel_rfl, by kernel_rfl, by kernel_rfl, by kernel_rfl, by kernel_rfl, by kernel_rfl, by kernel_rfl, by kernel_rfl, by kernel_rfl, by kernel_rfl, by kernel_rfl, by kernel_rfl, by kernel_rfl, by kernel_rfl, by kernel_rfl, by kernel_rfl, by kernel_rfl, by kernel_rfl, by kernel_rfl, by kernel_rfl, by kernel_rfl, by kernel_rfl, by kernel_rfl, by kernel_rfl, by kernel_rfl, by kernel_rfl, trivial⟩ ?_
                  refine at_then_normal ?_
                  rcases Bool.eq_false_or_eq_true (!(decide (y25_16 = ((-1) : Int)))) with h27 | h27
                  · replace H := bifT H h27
                    refine at_true (t := !(decide (y25_16 = ((-1) : Int)))) (x := C10 [1,1,1,1,1,0,1,0,0,1,1,0,0,1,0,1,0,0,1,1,0,0,1,1,1,0,1,0]) (y := C10 [1,1,1,1,1,0,1,0,0,1,1,0,0,1,0,1,0,0,1,1,0,0,1,1,1,0,1,1]) (o := .tmp 123) (by kernel_rfl) (by kernel_rfl) (by kernel_rfl) h27 ?_
                    refine at_seq (x := C10 [1,1,1,1,1,0,1,0,0,1,1,0,0,1,0,1,0,0,1,1,0,0,1,1,1,0,1,0,0]) (y := C10 [1,1,1,1,1,0,1,0,0,1,1,0,0,1,0,1,0,0,1,1,0,0,1,1,1,0,1,0,1]) (by kernel_rfl) ?_
                    refine at_region (id := 26) 1 (by kernel_rfl) (by kernel_rfl) ?_
                    refine s_pure 4 (.bool false) (by kernel_rfl) (by kernel_rfl) (fun _ => by kernel_rfl) ?_
                    refine ops_end ?_
                    refine At.env [(4, .bool false)] ⟨by kernel_rfl, trivial⟩ ?_
                    refine at_then_normal ?_
                    refine at_ret (by kernel_rfl) ?_
                    refine at_then_ret ?_
                    refine at_in_ret ?_
                    refine at_then_ret ?_
                    refine at_then_ret ?_
                    refine at_in_ret ?_
                    refine at_then_ret ?_
                    refine at_in_ret ?_
                    refine at_then_ret ?_
                    refine at_then_ret ?_
                    refine at_in_ret ?_
                    refine at_then_ret ?_
                    obtain rfl := someE H
                    refine at_backR [.bool false] (Γ) (rs := [.tmp 4]) (by kernel_rfl) (.cons (.tmp (by kernel_rfl)) .nil) (fun w hw => (Sat.less (.drop .here (.drop .here (.drop .here .refl))) hw)) ?_
                    exact ⟨rfl, rfl⟩
                  · replace H := bifF H h27
                    refine at_false (t := !(decide (y25_16 = ((-1) : Int)))) (x := C10 [1,1,1,1,1,0,1,0,0,1,1,0,0,1,0,1,0,0,1,1,0,0,1,1,1,0,1,0]) (y := C10 [1,1,1,1,1,0,1,0,0,1,1,0,0,1,0,1,0,0,1,1,0,0,1,1,1,0,1,1]) (o := .tmp 123) (by kernel_rfl) (by kernel_rfl) (by kernel_rfl) h27 ?_
                    refine at_skip (by kernel_rfl) ?_
                    refine at_then_normal ?_
                    refine at_seq (x := C10 [1,1,1,1,1,0,1,0,0,1,1,0,0,1,0,1,0,0,1,1,0,0,1,1,1,1,0]) (y := C10 [1,1,1,1,1,0,1,0,0,1,1,0,0,1,0,1,0,0,1,1,0,0,1,1,1,1,1]) (by kernel_rfl) ?_
                    refine at_region (id := 27) 10 (by kernel_rfl) (by kernel_rfl) ?_
                    refine s_pure 125 (.pointer (some ⟨b1_0, 0, none⟩)) (by kernel_rfl) (by kernel_rfl) (fun _ => by kernel_rfl) ?_
                    refine s_pure 126 (.int .i64 v1_67) (by kernel_rfl) (by kernel_rfl) (fun _ => by kernel_rfl) ?_
                    obtain ⟨y27_2, hy27_2, H⟩ := bindE H
                    refine s_call 127 16 #[.pointer (some ⟨b1_0, 0, none⟩), .int .i64 v1_67] (by kernel_rfl) (by kernel_rfl) (fun _ => by kernel_rfl) (TNextF_tr b1_0 y25_10.2 v1_67 y27_2 hy27_2) ?_
                    rintro _ _ ⟨rfl, rfl⟩
                    refine s_pure 124 (.tuple #[.int .i64 y27_2.1, .int .i64 y27_2.2.1, .bool y27_2.2.2.1]) (by kernel_rfl) (by kernel_rfl) (fun _ => by kernel_rfl) ?_
                    refine s_pure 128 (.int .i64 y27_2.1) (by kernel_rfl) (by kernel_rfl) (fun _ => by kernel_rfl) ?_
                    refine s_pure 129 (.int .i64 y27_2.2.1) (by kernel_rfl) (by kernel_rfl) (fun _ => by kernel_rfl) ?_
                    refine s_pure 130 (.bool y27_2.2.2.1) (by kernel_rfl) (by kernel_rfl) (fun _ => by kernel_rfl) ?_
                    refine s_pure 15 (.int .i64 y27_2.1) (by kernel_rfl) (by kernel_rfl) (fun _ => by kernel_rfl) ?_
                    refine s_pure 16 (.int .i64 y27_2.2.1) (by kernel_rfl) (by kernel_rfl) (fun _ => by kernel_rfl) ?_
                    refine s_pure 17 (.bool y27_2.2.2.1) (by kernel_rfl) (by kernel_rfl) (fun _ => by kernel_rfl) ?_
                    refine ops_end ?_
                    refine At.env [(5, .pointer (some ⟨b1_0, 0, none⟩)), (6, .pointer (some ⟨b4_0, 0, none⟩)), (9, .int .i64 v1_67), (10, .int .i64 v3_74), (15, .int .i64 y27_2.1), (17, .bool y27_2.2.2.1), (67, .int .i64 v1_67), (72, .slice a17_2 (List.length (lget v0_b4_0 v1_67)) c17_2), (73, .int .i64 (((List.length (lget v0_b4_0 v1_67)) : Nat) : Int)), (74, .int .i64 v3_74), (79, .pointer (some ⟨b1_0, 0, none⟩)), (80, .int .i64 v1_67), (81, .int .i64 y20_2), (82, .int .i64 (nth (lget v0_b4_0 v1_67) v3_74)), (83, .bool (!(decide (y20_2 = (nth (lget v0_b4_0 v1_67) v3_74))))), (84, .bool false), (85, .pointer (some ⟨b1_0, 0, none⟩)), (86, .int .i64 v1_67), (87, .int .i64 y20_8), (88, .int .i64 v1_67), (89, .pointer (some ⟨b4_0, (v1_67).toNat, none⟩)), (90, .slice a17_2 (List.length (lget v0_b4_0 v1_67)) c17_2), (91, .int .i64 (((List.length (lget v0_b4_0 v1_67)) : Nat) : Int)), (92, .int .i64 u20_13), (93, .int .i64 v3_74), (94, .int .i64 (wr (u20_13 - v3_74))), (95, .bool (!(decide (y20_8 = (wr (u20_13 - v3_74))))))] ⟨by kernel_rfl, by kernel_rfl, by kernel_rfl, by kernel_rfl, by kernel_rfl, by kernel_rfl, by kernel_rfl, by kernel_rfl, by kernel_rfl, by kernel_rfl, by kernel_rfl, by kernel_rfl, by kernel_rfl, by kernel_rfl, by kernel_rfl, by kernel_rfl, by kernel_rfl, by kernel_rfl, by kernel_rfl, by kernel_rfl, by kernel_rfl, by kernel_rfl, by kernel_rfl, by kernel_rfl, by kernel_rfl, by kernel_rfl, by kernel_rfl, trivial⟩ ?_
                    refine at_then_normal ?_
                    refine at_seq (x := C10 [1,1,1,1,1,0,1,0,0,1,1,0,0,1,0,1,0,0,1,1,0,0,1,1,1,1,1,0]) (y := C10 [1,1,1,1,1,0,1,0,0,1,1,0,0,1,0,1,0,0,1,1,0,0,1,1,1,1,1,1]) (by kernel_rfl) ?_
                    refine at_region (id := 28) 23 (by kernel_rfl) (by kernel_rfl) ?_
                    refine s_pure 131 (.bool y27_2.2.2.1) (by kernel_rfl) (by kernel_rfl) (fun _ => by kernel_rfl) ?_
                    refine s_pure 132 (.int .i64 v3_74) (by kernel_rfl) (by kernel_rfl) (fun _ => by kernel_rfl) ?_
                    obtain ⟨hc28_2_0, H⟩ := chkE H
                    refine s_pure 133 (.int .i64 (v3_74 + (1 : Int))) (by kernel_rfl) (by kernel_rfl) (run_eq (v := .int .i64 (IntKind.i64.wrap (v3_74 + (1 : Int)))) (fun _ => by kernel_rfl) (by rw [inR.wrap hc28_2_0])) ?_
                    refine s_pure 134 (.int .i64 v1_67) (by kernel_rfl) (by kernel_rfl) (fun _ => by kernel_rfl) ?_
                    obtain ⟨hc28_4_0, H⟩ := chkE H
                    refine s_pure 135 (.pointer (some ⟨b4_0, (v1_67).toNat, none⟩)) (by kernel_rfl) (by kernel_rfl) (index_arr (t := 72) (E := 22) (m := 3) (tinfo 22) (fun _ => by kernel_rfl) (by kernel_rfl) (by kernel_rfl) (by kernel_rfl) hc28_4_0.1) ?_
                    refine s_load 136 (.slice a17_2 (List.length (lget v0_b4_0 v1_67)) c17_2) (by kernel_rfl) (by kernel_rfl) (lists_load (i := v1_67) (fun _ => by kernel_rfl) (.there (.there .here))) ?_
                    refine s_pure 137 (.int .i64 (((List.length (lget v0_b4_0 v1_67)) : Nat) : Int)) (by kernel_rfl) (by kernel_rfl) (fun _ => by kernel_rfl) ?_
                    refine s_pure 138 (.bool (decide ((v3_74 + (1 : Int)) < (((List.length (lget v0_b4_0 v1_67)) : Nat) : Int)))) (by kernel_rfl) (by kernel_rfl) (fun _ => by kernel_rfl) ?_
                    refine s_pure 139 (.bool (!(y27_2.2.2.1 == (decide ((v3_74 + (1 : Int)) < (((List.length (lget v0_b4_0 v1_67)) : Nat) : Int)))))) (by kernel_rfl) (by kernel_rfl) (fun _ => by kernel_rfl) ?_
                    rcases Bool.eq_false_or_eq_true (!(y27_2.2.2.1 == (decide ((v3_74 + (1 : Int)) < (((List.length (lget v0_b4_0 v1_67)) : Nat) : Int))))) with h28 | h28
                    · replace H := bifT H h28
                      refine s_pure 140 (.bool true) (by kernel_rfl) (by kernel_rfl) (run_eq (v := .bool (!(y27_2.2.2.1 == (decide ((v3_74 + (1 : Int)) < (((List.length (lget v0_b4_0 v1_67)) : Nat) : Int)))))) (fun _ => by kernel_rfl) (congrArg Value.bool h28)) ?_
                      refine s_pass 141 (by kernel_rfl) (by kernel_rfl) ?_
                      refine s_pass 142 (by kernel_rfl) (by kernel_rfl) ?_
                      refine s_pass 143 (by kernel_rfl) (by kernel_rfl) ?_
                      refine s_pass 144 (by kernel_rfl) (by kernel_rfl) ?_
                      refine s_pass 145 (by kernel_rfl) (by kernel_rfl) ?_
                      refine s_pass 146 (by kernel_rfl) (by kernel_rfl) ?_
                      refine s_pass 147 (by kernel_rfl) (by kernel_rfl) ?_
                      refine s_pass 148 (by kernel_rfl) (by kernel_rfl) ?_
                      refine s_pass 149 (by kernel_rfl) (by kernel_rfl) ?_
                      refine s_pass 150 (by kernel_rfl) (by kernel_rfl) ?_
                      refine s_pass 151 (by kernel_rfl) (by kernel_rfl) ?_
                      refine s_pass 152 (by kernel_rfl) (by kernel_rfl) ?_
                      refine s_pure 153 (.bool true) (by kernel_rfl) (by kernel_rfl) (fun _ => by kernel_rfl) ?_
                      refine ops_end ?_
                      refine At.env [(5, .pointer (some ⟨b1_0, 0, none⟩)), (6, .pointer (some ⟨b4_0, 0, none⟩)), (9, .int .i64 v1_67), (67, .int .i64 v1_67), (72, .slice a17_2 (List.length (lget v0_b4_0 v1_67)) c17_2), (73, .int .i64 (((List.length (lget v0_b4_0 v1_67)) : Nat) : Int)), (74, .int .i64 v3_74), (79, .pointer (some ⟨b1_0, 0, none⟩)), (80, .int .i64 v1_67), (81, .int .i64 y20_2), (82, .int .i64 (nth (lget v0_b4_0 v1_67) v3_74)), (83, .bool (!(decide (y20_2 = (nth (lget v0_b4_0 v1_67) v3_74))))), (84, .bool false), (85, .pointer (some ⟨b1_0, 0, none⟩)), (86, .int .i64 v1_67), (87, .int .i64 y20_8), (88, .int .i64 v1_67), (89, .pointer (some ⟨b4_0, (v1_67).toNat, none⟩)), (90, .slice a17_2 (List.length (lget v0_b4_0 v1_67)) c17_2), (91, .int .i64 (((List.length (lget v0_b4_0 v1_67)) : Nat) : Int)), (92, .int .i64 u20_13), (93, .int .i64 v3_74), (94, .int .i64 (wr (u20_13 - v3_74))), (95, .bool (!(decide (y20_8 = (wr (u20_13 - v3_74)))))), (153, .bool true)] ⟨by kernel_rfl, by kernel_rfl, by kernel_rfl, by kernel_rfl, by kernel_rfl, by kernel_rfl, by kernel_rfl, by kernel_rfl, by kernel_rfl, by kernel_rfl, by kernel_rfl, by kernel_rfl, by kernel_rfl, by kernel_rfl, by kernel_rfl, by kernel_rfl, by kernel_rfl, by kernel_rfl, by kernel_rfl, by kernel_rfl, by kernel_rfl, by kernel_rfl, by kernel_rfl, by kernel_rfl, by kernel_rfl, trivial⟩ ?_
                      refine at_then_normal ?_
                      refine at_true (t := true) (x := C10 [1,1,1,1,1,0,1,0,0,1,1,0,0,1,0,1,0,0,1,1,0,0,1,1,1,1,1,1,0]) (y := C10 [1,1,1,1,1,0,1,0,0,1,1,0,0,1,0,1,0,0,1,1,0,0,1,1,1,1,1,1,1]) (o := .tmp 153) (by kernel_rfl) (by kernel_rfl) (by kernel_rfl) rfl ?_
                      refine at_seq (x := C10 [1,1,1,1,1,0,1,0,0,1,1,0,0,1,0,1,0,0,1,1,0,0,1,1,1,1,1,1,0,0]) (y := C10 [1,1,1,1,1,0,1,0,0,1,1,0,0,1,0,1,0,0,1,1,0,0,1,1,1,1,1,1,0,1]) (by kernel_rfl) ?_
                      refine at_region (id := 29) 1 (by kernel_rfl) (by kernel_rfl) ?_
                      refine s_pure 4 (.bool false) (by kernel_rfl) (by kernel_rfl) (fun _ => by kernel_rfl) ?_
                      refine ops_end ?_
                      refine At.env [(4, .bool false)] ⟨by kernel_rfl, trivial⟩ ?_
                      refine at_then_normal ?_
                      refine at_ret (by kernel_rfl) ?_
                      refine at_in_ret ?_
                      refine at_then_ret ?_
                      refine at_then_ret ?_
                      refine at_in_ret ?_
                      refine at_then_ret ?_
                      refine at_in_ret ?_
                      refine at_then_ret ?_
                      refine at_then_ret ?_
                      refine at_in_ret ?_
                      refine at_then_ret ?_
                      obtain rfl := someE H
                      refine at_backR [.bool false] (Γ) (rs := [.tmp 4]) (by kernel_rfl) (.cons (.tmp (by kernel_rfl)) .nil) (fun w hw => (Sat.less (.drop .here (.drop .here (.drop .here .refl))) hw)) ?_
                      exact ⟨rfl, rfl⟩
                    · replace H := bifF H h28
                      refine s_pure 140 (.bool false) (by kernel_rfl) (by kernel_rfl) (run_eq (v := .bool (!(y27_2.2.2.1 == (decide ((v3_74 + (1 : Int)) < (((List.length (lget v0_b4_0 v1_67)) : Nat) : Int)))))) (fun _ => by kernel_rfl) (congrArg Value.bool h28)) ?_
                      refine s_pure 141 (.bool y27_2.2.2.1) (by kernel_rfl) (by kernel_rfl) (fun _ => by kernel_rfl) ?_
                      rcases Bool.eq_false_or_eq_true (y27_2.2.2.1) with h29 | h29
                      · replace H := bifT H h29
                        refine s_pure 142 (.bool true) (by kernel_rfl) (by kernel_rfl) (run_eq (v := .bool (y27_2.2.2.1)) (fun _ => by kernel_rfl) (congrArg Value.bool h29)) ?_
                        refine s_pure 143 (.int .i64 y27_2.1) (by kernel_rfl) (by kernel_rfl) (fun _ => by kernel_rfl) ?_
                        refine s_pure 144 (.int .i64 v1_67) (by kernel_rfl) (by kernel_rfl) (fun _ => by kernel_rfl) ?_
                        obtain ⟨hc28_14_0, H⟩ := chkE H
                        refine s_pure 145 (.pointer (some ⟨b4_0, (v1_67).toNat, none⟩)) (by kernel_rfl) (by kernel_rfl) (index_arr (t := 72) (E := 22) (m := 3) (tinfo 22) (fun _ => by kernel_rfl) (by kernel_rfl) (by kernel_rfl) (by kernel_rfl) hc28_14_0.1) ?_
                        refine s_load 146 (.slice a17_2 (List.length (lget v0_b4_0 v1_67)) c17_2) (by kernel_rfl) (by kernel_rfl) (lists_load (i := v1_67) (fun _ => by kernel_rfl) (.there (.there .here))) ?_
                        refine s_pure 147 (.int .i64 v3_74) (by kernel_rfl) (by kernel_rfl) (fun _ => by kernel_rfl) ?_
                        obtain ⟨hc28_17_0, H⟩ := chkE H
                        refine s_pure 148 (.int .i64 (v3_74 + (1 : Int))) (by kernel_rfl) (by kernel_rfl) (run_eq (v := .int .i64 (IntKind.i64.wrap (v3_74 + (1 : Int)))) (fun _ => by kernel_rfl) (by rw [inR.wrap hc28_17_0])) ?_
                        obtain ⟨hc28_18_0, H⟩ := chkE H
                        refine rows_at (.there .here) (by have := hc28_18_0; simp only [ints_length]; omega) ?_
                        intro bb9 oo9 ha9
                        refine s_pure 149 (.pointer (some ⟨bb9, oo9 + (((v3_74 + (1 : Int))).toNat * 1 + 0), none⟩)) (by kernel_rfl) (by kernel_rfl) (index_at (t := 22) (sz := 1) (E := 3) (a := a17_2) (m := (List.length (lget v0_b4_0 v1_67))) (c := c17_2) (b := bb9) (off := oo9) (i := ((v3_74 + (1 : Int))).toNat) (tinfo 3) (fun _ => by kernel_rfl) (by kernel_rfl) (by kernel_rfl) (by kernel_rfl) ha9 (idx_cast hc28_18_0) (idx_nat hc28_18_0) rfl) ?_
                        refine s_load 150 (.int .i64 (nth (lget v0_b4_0 v1_67) (v3_74 + (1 : Int)))) (by kernel_rfl) (by kernel_rfl) (load1_at (off := oo9 + (((v3_74 + (1 : Int))).toNat * 1 + 0)) (v := .int .i64 (nth (lget v0_b4_0 v1_67) (v3_74 + (1 : Int)))) (fun _ => by kernel_rfl) rfl (reads_cell (k := 1) (RowsA.reads (k := 1) (.there .here)) (ints_rows _) ha9 (nth_row hc28_18_0) (show [(.int .i64 (nth (lget v0_b4_0 v1_67) (v3_74 + (1 : Int))) : Value)][0]? = some _ from rfl))) ?_
                        refine s_pure 151 (.bool (!(decide (y27_2.1 = (nth (lget v0_b4_0 v1_67) (v3_74 + (1 : Int))))))) (by kernel_rfl) (by kernel_rfl) (fun _ => by kernel_rfl) ?_
                        refine s_pure 152 (.bool (!(decide (y27_2.1 = (nth (lget v0_b4_0 v1_67) (v3_74 + (1 : Int))))))) (by kernel_rfl) (by kernel_rfl) (fun _ => by kernel_rfl) ?_
                        refine s_pure 153 (.bool (!(decide (y27_2.1 = (nth (lget v0_b4_0 v1_67) (v3_74 + (1 : Int))))))) (by kernel_rfl) (by kernel_rfl) (fun _ => by kernel_rfl) ?_
                        refine ops_end ?_
                        refine At.env [(5, .pointer (some ⟨b1_0, 0, none⟩)), (6, .pointer (some ⟨b4_0, 0, none⟩)), (9, .int .i64 v1_67), (67, .int .i64 v1_67), (72, .slice a17_2 (List.length (lget v0_b4_0 v1_67)) c17_2), (73, .int .i64 (((List.length (lget v0_b4_0 v1_67)) : Nat) : Int)), (74, .int .i64 v3_74), (79, .pointer (some ⟨b1_0, 0, none⟩)), (80, .int .i64 v1_67), (81, .int .i64 y20_2), (82, .int .i64 (nth (lget v0_b4_0 v1_67) v3_74)), (83, .bool (!(decide (y20_2 = (nth (lget v0_b4_0 v1_67) v3_74))))), (84, .bool false), (85, .pointer (some ⟨b1_0, 0, none⟩)), (86, .int .i64 v1_67), (87, .int .i64 y20_8), (88, .int .i64 v1_67), (89, .pointer (some ⟨b4_0, (v1_67).toNat, none⟩)), (90, .slice a17_2 (List.length (lget v0_b4_0 v1_67)) c17_2), (91, .int .i64 (((List.length (lget v0_b4_0 v1_67)) : Nat) : Int)), (92, .int .i64 u20_13), (93, .int .i64 v3_74), (94, .int .i64 (wr (u20_13 - v3_74))), (95, .bool (!(decide (y20_8 = (wr (u20_13 - v3_74)))))), (153, .bool (!(decide (y27_2.1 = (nth (lget v0_b4_0 v1_67) (v3_74 + (1 : Int)))))))] ⟨by kernel_rfl, by kernel_rfl, by kernel_rfl, by kernel_rfl, by kernel_rfl, by kernel_rfl, by kernel_rfl, by kernel_rfl, by kernel_rfl, by kernel_rfl, by kernel_rfl, by kernel_rfl, by kernel_rfl, by kernel_rfl, by kernel_rfl, by kernel_rfl, by kernel_rfl, by kernel_rfl, by kernel_rfl, by kernel_rfl, by kernel_rfl, by kernel_rfl, by kernel_rfl, by kernel_rfl, by kernel_rfl, trivial⟩ ?_
                        refine at_then_normal ?_
                        rcases Bool.eq_false_or_eq_true (!(decide (y27_2.1 = (nth (lget v0_b4_0 v1_67) (v3_74 + (1 : Int)))))) with h30 | h30
                        · replace H := bifT H h30
                          refine at_true (t := !(decide (y27_2.1 = (nth (lget v0_b4_0 v1_67) (v3_74 + (1 : Int)))))) (x := C10 [1,1,1,1,1,0,1,0,0,1,1,0,0,1,0,1,0,0,1,1,0,0,1,1,1,1,1,1,0]) (y := C10 [1,1,1,1,1,0,1,0,0,1,1,0,0,1,0,1,0,0,1,1,0,0,1,1,1,1,1,1,1]) (o := .tmp 153) (by kernel_rfl) (by kernel_rfl) (by kernel_rfl) h30 ?_
                          refine at_seq (x := C10 [1,1,1,1,1,0,1,0,0,1,1,0,0,1,0,1,0,0,1,1,0,0,1,1,1,1,1,1,0,0]) (y := C10 [1,1,1,1,1,0,1,0,0,1,1,0,0,1,0,1,0,0,1,1,0,0,1,1,1,1,1,1,0,1]) (by kernel_rfl) ?_
                          refine at_region (id := 29) 1 (by kernel_rfl) (by kernel_rfl) ?_
                          refine s_pure 4 (.bool false) (by kernel_rfl) (by kernel_rfl) (fun _ => by kernel_rfl) ?_
                          refine ops_end ?_
                          refine At.env [(4, .bool false)] ⟨by kernel_rfl, trivial⟩ ?_
                          refine at_then_normal ?_
                          refine at_ret (by kernel_rfl) ?_
                          refine at_in_ret ?_
                          refine at_then_ret ?_
                          refine at_then_ret ?_
                          refine at_in_ret ?_
                          refine at_then_ret ?_
                          refine at_in_ret ?_
                          refine at_then_ret ?_
                          refine at_then_ret ?_
                          refine at_in_ret ?_
                          refine at_then_ret ?_
                          obtain rfl := someE H
                          refine at_backR [.bool false] (Γ) (rs := [.tmp 4]) (by kernel_rfl) (.cons (.tmp (by kernel_rfl)) .nil) (fun w hw => (Sat.less (.drop .here (.drop .here (.drop .here .refl))) hw)) ?_
                          exact ⟨rfl, rfl⟩
                        · replace H := bifF H h30
                          refine at_false (t := !(decide (y27_2.1 = (nth (lget v0_b4_0 v1_67) (v3_74 + (1 : Int)))))) (x := C10 [1,1,1,1,1,0,1,0,0,1,1,0,0,1,0,1,0,0,1,1,0,0,1,1,1,1,1,1,0]) (y := C10 [1,1,1,1,1,0,1,0,0,1,1,0,0,1,0,1,0,0,1,1,0,0,1,1,1,1,1,1,1]) (o := .tmp 153) (by kernel_rfl) (by kernel_rfl) (by kernel_rfl) h30 ?_
                          refine at_skip (by kernel_rfl) ?_
                          refine at_in_normal ?_
                          refine at_then_normal ?_
                          refine at_region (id := 30) 2 (by kernel_rfl) (by kernel_rfl) ?_
                          obtain ⟨hc30_0_0, H⟩ := chkE H
                          refine s_pure 154 (.int .i64 (v3_74 + (1 : Int))) (by kernel_rfl) (by kernel_rfl) (run_eq (v := .int .i64 (IntKind.i64.wrap (v3_74 + (1 : Int)))) (fun _ => by kernel_rfl) (by rw [inR.wrap hc30_0_0])) ?_
                          refine s_pure 74 (.int .i64 (v3_74 + (1 : Int))) (by kernel_rfl) (by kernel_rfl) (fun _ => by kernel_rfl) ?_
                          refine ops_end ?_
                          refine At.env [(5, .pointer (some ⟨b1_0, 0, none⟩)), (6, .pointer (some ⟨b4_0, 0, none⟩)), (9, .int .i64 v1_67), (67, .int .i64 v1_67), (72, .slice a17_2 (List.length (lget v0_b4_0 v1_67)) c17_2), (73, .int .i64 (((List.length (lget v0_b4_0 v1_67)) : Nat) : Int)), (74, .int .i64 (v3_74 + (1 : Int))), (79, .pointer (some ⟨b1_0, 0, none⟩)), (80, .int .i64 v1_67), (81, .int .i64 y20_2), (82, .int .i64 (nth (lget v0_b4_0 v1_67) v3_74)), (83, .bool (!(decide (y20_2 = (nth (lget v0_b4_0 v1_67) v3_74))))), (84, .bool false), (85, .pointer (some ⟨b1_0, 0, none⟩)), (86, .int .i64 v1_67), (87, .int .i64 y20_8), (88, .int .i64 v1_67), (89, .pointer (some ⟨b4_0, (v1_67).toNat, none⟩)), (90, .slice a17_2 (List.length (lget v0_b4_0 v1_67)) c17_2), (91, .int .i64 (((List.length (lget v0_b4_0 v1_67)) : Nat) : Int)), (92, .int .i64 u20_13), (93, .int .i64 v3_74), (94, .int .i64 (wr (u20_13 - v3_74))), (95, .bool (!(decide (y20_8 = (wr (u20_13 - v3_74))))))] ⟨by kernel_rfl, by kernel_rfl, by kernel_rfl, by kernel_rfl, by kernel_rfl, by kernel_rfl, by kernel_rfl, by kernel_rfl, by kernel_rfl, by kernel_rfl, by kernel_rfl, by kernel_rfl, by kernel_rfl, by kernel_rfl, by kernel_rfl, by kernel_rfl, by kernel_rfl, by kernel_rfl, by kernel_rfl, by kernel_rfl, by kernel_rfl, by kernel_rfl, by kernel_rfl, by kernel_rfl, trivial⟩ ?_
                          refine at_round_normal ?_
                          exact at_roundR fuel5 [(5, .pointer (some ⟨b1_0, 0, none⟩)), (6, .pointer (some ⟨b4_0, 0, none⟩)), (9, .int .i64 v1_67), (67, .int .i64 v1_67), (72, .slice a17_2 (List.length (lget v0_b4_0 v1_67)) c17_2), (73, .int .i64 (((List.length (lget v0_b4_0 v1_67)) : Nat) : Int)), (74, .int .i64 (v3_74 + (1 : Int)))] ((IntsA a17_2 c17_2 (lget v0_b4_0 v1_67)) :: (ListsX b4_0 72 v0_b4_0 v1_67 a17_2 c17_2) :: (TurnsA b1_0 y27_2.2.2.2) :: Γ) (Nat.lt_succ_self _) ⟨by kernel_rfl, by kernel_rfl, by kernel_rfl, by kernel_rfl, by kernel_rfl, by kernel_rfl, by kernel_rfl, trivial⟩ (fun w hw => (Sat.less (.take (.there .here) (.take (.there .here) (.take .here .refl))) hw)) ⟨fuel5, v3_74 + (1 : Int), y27_2.2.2.2, H, rfl, rfl, rfl⟩
                      · replace H := bifF H h29
                        refine s_pure 142 (.bool false) (by kernel_rfl) (by kernel_rfl) (run_eq (v := .bool (y27_2.2.2.1)) (fun _ => by kernel_rfl) (congrArg Value.bool h29)) ?_
                        refine s_pass 143 (by kernel_rfl) (by kernel_rfl) ?_
                        refine s_pass 144 (by kernel_rfl) (by kernel_rfl) ?_
                        refine s_pass 145 (by kernel_rfl) (by kernel_rfl) ?_
                        refine s_pass 146 (by kernel_rfl) (by kernel_rfl) ?_
                        refine s_pass 147 (by kernel_rfl) (by kernel_rfl) ?_
                        refine s_pass 148 (by kernel_rfl) (by kernel_rfl) ?_
                        refine s_pass 149 (by kernel_rfl) (by kernel_rfl) ?_
                        refine s_pass 150 (by kernel_rfl) (by kernel_rfl) ?_
                        refine s_pass 151 (by kernel_rfl) (by kernel_rfl) ?_
                        refine s_pure 152 (.bool false) (by kernel_rfl) (by kernel_rfl) (fun _ => by kernel_rfl) ?_
                        refine s_pure 153 (.bool false) (by kernel_rfl) (by kernel_rfl) (fun _ => by kernel_rfl) ?_
                        refine ops_end ?_
                        refine At.env [(5, .pointer (some ⟨b1_0, 0, none⟩)), (6, .pointer (some ⟨b4_0, 0, none⟩)), (9, .int .i64 v1_67), (67, .int .i64 v1_67), (72, .slice a17_2 (List.length (lget v0_b4_0 v1_67)) c17_2), (73, .int .i64 (((List.length (lget v0_b4_0 v1_67)) : Nat) : Int)), (74, .int .i64 v3_74), (79, .pointer (some ⟨b1_0, 0, none⟩)), (80, .int .i64 v1_67), (81, .int .i64 y20_2), (82, .int .i64 (nth (lget v0_b4_0 v1_67) v3_74)), (83, .bool (!(decide (y20_2 = (nth (lget v0_b4_0 v1_67) v3_74))))), (84, .bool false), (85, .pointer (some ⟨b1_0, 0, none⟩)), (86, .int .i64 v1_67), (87, .int .i64 y20_8), (88, .int .i64 v1_67), (89, .pointer (some ⟨b4_0, (v1_67).toNat, none⟩)), (90, .slice a17_2 (List.length (lget v0_b4_0 v1_67)) c17_2), (91, .int .i64 (((List.length (lget v0_b4_0 v1_67)) : Nat) : Int)), (92, .int .i64 u20_13), (93, .int .i64 v3_74), (94, .int .i64 (wr (u20_13 - v3_74))), (95, .bool (!(decide (y20_8 = (wr (u20_13 - v3_74)))))), (153, .bool false)] ⟨by kernel_rfl, by kernel_rfl, by kernel_rfl, by kernel_rfl, by kernel_rfl, by kernel_rfl, by kernel_rfl, by kernel_rfl, by kernel_rfl, by kernel_rfl, by kernel_rfl, by kernel_rfl, by kernel_rfl, by kernel_rfl, by kernel_rfl, by kernel_rfl, by kernel_rfl, by kernel_rfl, by kernel_rfl, by kernel_rfl, by kernel_rfl, by kernel_rfl, by kernel_rfl, by kernel_rfl, by kernel_rfl, trivial⟩ ?_
                        refine at_then_normal ?_
                        refine at_false (t := false) (x := C10 [1,1,1,1,1,0,1,0,0,1,1,0,0,1,0,1,0,0,1,1,0,0,1,1,1,1,1,1,0]) (y := C10 [1,1,1,1,1,0,1,0,0,1,1,0,0,1,0,1,0,0,1,1,0,0,1,1,1,1,1,1,1]) (o := .tmp 153) (by kernel_rfl) (by kernel_rfl) (by kernel_rfl) rfl ?_
                        refine at_skip (by kernel_rfl) ?_
                        refine at_in_normal ?_
                        refine at_then_normal ?_
                        refine at_region (id := 30) 2 (by kernel_rfl) (by kernel_rfl) ?_
                        obtain ⟨hc30_0_0, H⟩ := chkE H
                        refine s_pure 154 (.int .i64 (v3_74 + (1 : Int))) (by kernel_rfl) (by kernel_rfl) (run_eq (v := .int .i64 (IntKind.i64.wrap (v3_74 + (1 : Int)))) (fun _ => by kernel_rfl) (by rw [inR.wrap hc30_0_0])) ?_
                        refine s_pure 74 (.int .i64 (v3_74 + (1 : Int))) (by kernel_rfl) (by kernel_rfl) (fun _ => by kernel_rfl) ?_
                        refine ops_end ?_
                        refine At.env [(5, .pointer (some ⟨b1_0, 0, none⟩)), (6, .pointer (some ⟨b4_0, 0, none⟩)), (9, .int .i64 v1_67), (67, .int .i64 v1_67), (72, .slice a17_2 (List.length (lget v0_b4_0 v1_67)) c17_2), (73, .int .i64 (((List.length (lget v0_b4_0 v1_67)) : Nat) : Int)), (74, .int .i64 (v3_74 + (1 : Int))), (79, .pointer (some ⟨b1_0, 0, none⟩)), (80, .int .i64 v1_67), (81, .int .i64 y20_2), (82, .int .i64 (nth (lget v0_b4_0 v1_67) v3_74)), (83, .bool (!(decide (y20_2 = (nth (lget v0_b4_0 v1_67) v3_74))))), (84, .bool false), (85, .pointer (some ⟨b1_0, 0, none⟩)), (86, .int .i64 v1_67), (87, .int .i64 y20_8), (88, .int .i64 v1_67), (89, .pointer (some ⟨b4_0, (v1_67).toNat, none⟩)), (90, .slice a17_2 (List.length (lget v0_b4_0 v1_67)) c17_2), (91, .int .i64 (((List.length (lget v0_b4_0 v1_67)) : Nat) : Int)), (92, .int .i64 u20_13), (93, .int .i64 v3_74), (94, .int .i64 (wr (u20_13 - v3_74))), (95, .bool (!(decide (y20_8 = (wr (u20_13 - v3_74))))))] ⟨by kernel_rfl, by kernel_rfl, by kernel_rfl, by kernel_rfl, by kernel_rfl, by kernel_rfl, by kernel_rfl, by kernel_rfl, by kernel_rfl, by kernel_rfl, by kernel_rfl, by kernel_rfl, by kernel_rfl, by kernel_rfl, by kernel_rfl, by kernel_rfl, by kernel_rfl, by kernel_rfl, by kernel_rfl, by kernel_rfl, by kernel_rfl, by kernel_rfl, by kernel_rfl, by kernel_rfl, trivial⟩ ?_
                        refine at_round_normal ?_
                        exact at_roundR fuel5 [(5, .pointer (some ⟨b1_0, 0, none⟩)), (6, .pointer (some ⟨b4_0, 0, none⟩)), (9, .int .i64 v1_67), (67, .int .i64 v1_67), (72, .slice a17_2 (List.length (lget v0_b4_0 v1_67)) c17_2), (73, .int .i64 (((List.length (lget v0_b4_0 v1_67)) : Nat) : Int)), (74, .int .i64 (v3_74 + (1 : Int)))] ((IntsA a17_2 c17_2 (lget v0_b4_0 v1_67)) :: (ListsX b4_0 72 v0_b4_0 v1_67 a17_2 c17_2) :: (TurnsA b1_0 y27_2.2.2.2) :: Γ) (Nat.lt_succ_self _) ⟨by kernel_rfl, by kernel_rfl, by kernel_rfl, by kernel_rfl, by kernel_rfl, by kernel_rfl, by kernel_rfl, trivial⟩ (fun w hw => (Sat.less (.take (.there .here) (.take (.there .here) (.take .here .refl))) hw)) ⟨fuel5, v3_74 + (1 : Int), y27_2.2.2.2, H, rfl, rfl, rfl⟩
      · replace H := bifF H h21
        refine at_false (t := decide (v3_74 < (((List.length (lget v0_b4_0 v1_67)) : Nat) : Int))) (x := C10 [1,1,1,1,1,0,1,0,0,1,1,0,0,1,0,1,0,0,1,0,0]) (y := C10 [1,1,1,1,1,0,1,0,0,1,1,0,0,1,0,1,0,0,1,0,1]) (o := .tmp 75) (by kernel_rfl) (by kernel_rfl) (by kernel_rfl) h21 ?_
        refine at_exit (i := 4) (by kernel_rfl) ?_
        refine at_then_exit ?_
        refine at_then_exit ?_
        rw [turnsFairS_k3] at H
        refine At.env [(5, .pointer (some ⟨b1_0, 0, none⟩)), (6, .pointer (some ⟨b4_0, 0, none⟩)), (9, .int .i64 v1_67), (67, .int .i64 v1_67), (72, .slice a17_2 (List.length (lget v0_b4_0 v1_67)) c17_2), (73, .int .i64 (((List.length (lget v0_b4_0 v1_67)) : Nat) : Int)), (74, .int .i64 v3_74)] ⟨by kernel_rfl, by kernel_rfl, by kernel_rfl, by kernel_rfl, by kernel_rfl, by kernel_rfl, by kernel_rfl, trivial⟩ ?_
        refine At.conv (Γ' := (IntsA a17_2 c17_2 (lget v0_b4_0 v1_67)) :: (ListsX b4_0 72 v0_b4_0 v1_67 a17_2 c17_2) :: (TurnsA b1_0 v3_b1_0) :: Γ) (fun w hw => (Sat.less (.take .here (.take .here (.take .here .refl))) hw)) ?_
        refine at_in_here ?_
        refine at_then_normal ?_
        refine at_seq (x := C10 [1,1,1,1,1,0,1,0,0,1,1,0,0,1,1,0]) (y := C10 [1,1,1,1,1,0,1,0,0,1,1,0,0,1,1,1]) (by kernel_rfl) ?_
        refine at_region (id := 31) 10 (by kernel_rfl) (by kernel_rfl) ?_
        refine s_pure 155 (.pointer (some ⟨b1_0, 0, none⟩)) (by kernel_rfl) (by kernel_rfl) (fun _ => by kernel_rfl) ?_
        refine s_pure 156 (.int .i64 v1_67) (by kernel_rfl) (by kernel_rfl) (fun _ => by kernel_rfl) ?_
        obtain ⟨y31_2, hy31_2, H⟩ := bindE H
        refine s_call 157 14 #[.pointer (some ⟨b1_0, 0, none⟩), .int .i64 v1_67] (by kernel_rfl) (by kernel_rfl) (fun _ => by kernel_rfl) (Tr.conv (Γ' := (TurnsA b1_0 v3_b1_0) :: (IntsA a17_2 c17_2 (lget v0_b4_0 v1_67)) :: (ListsX b4_0 72 v0_b4_0 v1_67 a17_2 c17_2) :: Γ) (fun w hw => (Sat.less (.take (.there (.there .here)) (.take .here (.take .here .refl))) hw)) (TWaitingF_tr b1_0 v3_b1_0 v1_67 y31_2 hy31_2)) ?_
        rintro _ _ ⟨rfl, rfl⟩
        refine s_pure 158 (.bool (!(decide (y31_2 = (0 : Int))))) (by kernel_rfl) (by kernel_rfl) (fun _ => by kernel_rfl) ?_
        rcases Bool.eq_false_or_eq_true (!(decide (y31_2 = (0 : Int)))) with h31 | h31
        · replace H := bifT H h31
          refine s_pure 159 (.bool true) (by kernel_rfl) (by kernel_rfl) (run_eq (v := .bool (!(decide (y31_2 = (0 : Int))))) (fun _ => by kernel_rfl) (congrArg Value.bool h31)) ?_
          refine s_pass 160 (by kernel_rfl) (by kernel_rfl) ?_
          refine s_pass 161 (by kernel_rfl) (by kernel_rfl) ?_
          refine s_pass 162 (by kernel_rfl) (by kernel_rfl) ?_
          refine s_pass 163 (by kernel_rfl) (by kernel_rfl) ?_
          refine s_pure 164 (.bool true) (by kernel_rfl) (by kernel_rfl) (fun _ => by kernel_rfl) ?_
          refine ops_end ?_
          refine At.env [(5, .pointer (some ⟨b1_0, 0, none⟩)), (6, .pointer (some ⟨b4_0, 0, none⟩)), (67, .int .i64 v1_67), (164, .bool true)] ⟨by kernel_rfl, by kernel_rfl, by kernel_rfl, by kernel_rfl, trivial⟩ ?_
          refine at_then_normal ?_
          refine at_true (t := true) (x := C10 [1,1,1,1,1,0,1,0,0,1,1,0,0,1,1,1,0]) (y := C10 [1,1,1,1,1,0,1,0,0,1,1,0,0,1,1,1,1]) (o := .tmp 164) (by kernel_rfl) (by kernel_rfl) (by kernel_rfl) rfl ?_
          refine at_seq (x := C10 [1,1,1,1,1,0,1,0,0,1,1,0,0,1,1,1,0,0]) (y := C10 [1,1,1,1,1,0,1,0,0,1,1,0,0,1,1,1,0,1]) (by kernel_rfl) ?_
          refine at_region (id := 32) 1 (by kernel_rfl) (by kernel_rfl) ?_
          refine s_pure 4 (.bool false) (by kernel_rfl) (by kernel_rfl) (fun _ => by kernel_rfl) ?_
          refine ops_end ?_
          refine At.env [(4, .bool false)] ⟨by kernel_rfl, trivial⟩ ?_
          refine at_then_normal ?_
          refine at_ret (by kernel_rfl) ?_
          refine at_in_ret ?_
          refine at_then_ret ?_
          refine at_then_ret ?_
          refine at_in_ret ?_
          refine at_then_ret ?_
          obtain rfl := someE H
          refine at_backR [.bool false] (Γ) (rs := [.tmp 4]) (by kernel_rfl) (.cons (.tmp (by kernel_rfl)) .nil) (fun w hw => (Sat.less (.drop .here (.drop .here (.drop .here .refl))) hw)) ?_
          exact ⟨rfl, rfl⟩
        · replace H := bifF H h31
          refine s_pure 159 (.bool false) (by kernel_rfl) (by kernel_rfl) (run_eq (v := .bool (!(decide (y31_2 = (0 : Int))))) (fun _ => by kernel_rfl) (congrArg Value.bool h31)) ?_
          refine s_pure 160 (.pointer (some ⟨b1_0, 0, none⟩)) (by kernel_rfl) (by kernel_rfl) (fun _ => by kernel_rfl) ?_
          refine s_pure 161 (.int .i64 v1_67) (by kernel_rfl) (by kernel_rfl) (fun _ => by kernel_rfl) ?_
          obtain ⟨y31_7, hy31_7, H⟩ := bindE H
          refine s_call 162 17 #[.pointer (some ⟨b1_0, 0, none⟩), .int .i64 v1_67] (by kernel_rfl) (by kernel_rfl) (fun _ => by kernel_rfl) (TOwnerF_tr b1_0 v3_b1_0 v1_67 y31_7 hy31_7) ?_
          rintro _ _ ⟨rfl, rfl⟩
          refine s_pure 163 (.bool (!(decide (y31_7 = ((-1) : Int))))) (by kernel_rfl) (by kernel_rfl) (fun _ => by kernel_rfl) ?_
          refine s_pure 164 (.bool (!(decide (y31_7 = ((-1) : Int))))) (by kernel_rfl) (by kernel_rfl) (fun _ => by kernel_rfl) ?_
          refine ops_end ?_
          refine At.env [(5, .pointer (some ⟨b1_0, 0, none⟩)), (6, .pointer (some ⟨b4_0, 0, none⟩)), (67, .int .i64 v1_67), (164, .bool (!(decide (y31_7 = ((-1) : Int)))))] ⟨by kernel_rfl, by kernel_rfl, by kernel_rfl, by kernel_rfl, trivial⟩ ?_
          refine at_then_normal ?_
          rcases Bool.eq_false_or_eq_true (!(decide (y31_7 = ((-1) : Int)))) with h32 | h32
          · replace H := bifT H h32
            refine at_true (t := !(decide (y31_7 = ((-1) : Int)))) (x := C10 [1,1,1,1,1,0,1,0,0,1,1,0,0,1,1,1,0]) (y := C10 [1,1,1,1,1,0,1,0,0,1,1,0,0,1,1,1,1]) (o := .tmp 164) (by kernel_rfl) (by kernel_rfl) (by kernel_rfl) h32 ?_
            refine at_seq (x := C10 [1,1,1,1,1,0,1,0,0,1,1,0,0,1,1,1,0,0]) (y := C10 [1,1,1,1,1,0,1,0,0,1,1,0,0,1,1,1,0,1]) (by kernel_rfl) ?_
            refine at_region (id := 32) 1 (by kernel_rfl) (by kernel_rfl) ?_
            refine s_pure 4 (.bool false) (by kernel_rfl) (by kernel_rfl) (fun _ => by kernel_rfl) ?_
            refine ops_end ?_
            refine At.env [(4, .bool false)] ⟨by kernel_rfl, trivial⟩ ?_
            refine at_then_normal ?_
            refine at_ret (by kernel_rfl) ?_
            refine at_in_ret ?_
            refine at_then_ret ?_
            refine at_then_ret ?_
            refine at_in_ret ?_
            refine at_then_ret ?_
            obtain rfl := someE H
            refine at_backR [.bool false] (Γ) (rs := [.tmp 4]) (by kernel_rfl) (.cons (.tmp (by kernel_rfl)) .nil) (fun w hw => (Sat.less (.drop .here (.drop .here (.drop .here .refl))) hw)) ?_
            exact ⟨rfl, rfl⟩
          · replace H := bifF H h32
            refine at_false (t := !(decide (y31_7 = ((-1) : Int)))) (x := C10 [1,1,1,1,1,0,1,0,0,1,1,0,0,1,1,1,0]) (y := C10 [1,1,1,1,1,0,1,0,0,1,1,0,0,1,1,1,1]) (o := .tmp 164) (by kernel_rfl) (by kernel_rfl) (by kernel_rfl) h32 ?_
            refine at_skip (by kernel_rfl) ?_
            refine at_in_normal ?_
            refine at_then_normal ?_
            refine at_region (id := 33) 2 (by kernel_rfl) (by kernel_rfl) ?_
            obtain ⟨hc33_0_0, H⟩ := chkE H
            refine s_pure 165 (.int .i64 (v1_67 + (1 : Int))) (by kernel_rfl) (by kernel_rfl) (run_eq (v := .int .i64 (IntKind.i64.wrap (v1_67 + (1 : Int)))) (fun _ => by kernel_rfl) (by rw [inR.wrap hc33_0_0])) ?_
            refine s_pure 67 (.int .i64 (v1_67 + (1 : Int))) (by kernel_rfl) (by kernel_rfl) (fun _ => by kernel_rfl) ?_
            refine ops_end ?_
            refine At.env [(5, .pointer (some ⟨b1_0, 0, none⟩)), (6, .pointer (some ⟨b4_0, 0, none⟩)), (67, .int .i64 (v1_67 + (1 : Int)))] ⟨by kernel_rfl, by kernel_rfl, by kernel_rfl, trivial⟩ ?_
            refine at_round_normal ?_
            refine At.conv (Γ' := (ListsA b4_0 72 v0_b4_0) :: (TurnsA b1_0 v3_b1_0) :: Γ) (fun w hw => ListsA.unfocus (Sat.less (.take (.there .here) (.take (.there .here) (.take .here .refl))) hw)) ?_
            exact at_roundR fuel4 [(5, .pointer (some ⟨b1_0, 0, none⟩)), (6, .pointer (some ⟨b4_0, 0, none⟩)), (67, .int .i64 (v1_67 + (1 : Int)))] ((ListsA b4_0 72 v0_b4_0) :: (TurnsA b1_0 v3_b1_0) :: Γ) (Nat.lt_succ_self _) ⟨by kernel_rfl, by kernel_rfl, by kernel_rfl, trivial⟩ (fun w hw => (Sat.less (.take .here (.take .here .refl)) hw)) ⟨fuel4, v1_67 + (1 : Int), v3_b1_0, H, rfl, rfl, rfl⟩
    · replace H := bifF H h20
      refine at_false (t := decide (v1_67 < (3 : Int))) (x := C10 [1,1,1,1,1,0,1,0,0,1,0,0]) (y := C10 [1,1,1,1,1,0,1,0,0,1,0,1]) (o := .tmp 68) (by kernel_rfl) (by kernel_rfl) (by kernel_rfl) h20 ?_
      refine at_exit (i := 2) (by kernel_rfl) ?_
      refine at_then_exit ?_
      refine at_then_exit ?_
      rw [turnsFairS_k1] at H
      refine At.env [(5, .pointer (some ⟨b1_0, 0, none⟩)), (6, .pointer (some ⟨b4_0, 0, none⟩)), (67, .int .i64 v1_67)] ⟨by kernel_rfl, by kernel_rfl, by kernel_rfl, trivial⟩ ?_
      refine At.conv (Γ' := (ListsA b4_0 72 v0_b4_0) :: (TurnsA b1_0 v1_b1_0) :: Γ) (fun w hw => (Sat.less (.take .here (.take .here .refl)) hw)) ?_
      refine at_in_here ?_
      refine at_then_normal ?_
      refine at_seq (x := C10 [1,1,1,1,1,1,0]) (y := C10 [1,1,1,1,1,1,1]) (by kernel_rfl) ?_
      refine at_region (id := 34) 8 (by kernel_rfl) (by kernel_rfl) ?_
      refine s_pure 166 (.pointer (some ⟨b1_0, 0, none⟩)) (by kernel_rfl) (by kernel_rfl) (fun _ => by kernel_rfl) ?_
      obtain ⟨y34_1, hy34_1, H⟩ := bindE H
      refine s_call 167 33 #[.pointer (some ⟨b1_0, 0, none⟩)] (by kernel_rfl) (by kernel_rfl) (fun _ => by kernel_rfl) (Tr.conv (Γ' := (TurnsA b1_0 v1_b1_0) :: (ListsA b4_0 72 v0_b4_0) :: Γ) (fun w hw => (Sat.less (.take (.there .here) (.take .here .refl)) hw)) (TReadyF_tr b1_0 v1_b1_0 y34_1 hy34_1)) ?_
      rintro _ _ ⟨a34_1_00, c34_1_00, rfl, rfl⟩
      refine s_pure 168 (.int .i64 (((List.length y34_1) : Nat) : Int)) (by kernel_rfl) (by kernel_rfl) (fun _ => by kernel_rfl) ?_
      refine s_pure 169 (.bool (decide ((((List.length y34_1) : Nat) : Int) = (0 : Int)))) (by kernel_rfl) (by kernel_rfl) (fun _ => by kernel_rfl) ?_
      rcases Bool.eq_false_or_eq_true (decide ((((List.length y34_1) : Nat) : Int) = (0 : Int))) with h33 | h33
      · replace H := bifT H h33
        refine s_pure 170 (.bool true) (by kernel_rfl) (by kernel_rfl) (run_eq (v := .bool (decide ((((List.length y34_1) : Nat) : Int) = (0 : Int)))) (fun _ => by kernel_rfl) (congrArg Value.bool h33)) ?_
        obtain ⟨y34_5, hy34_5, H⟩ := bindE H
        refine s_call 171 18 #[] (by kernel_rfl) (by kernel_rfl) (fun _ => by kernel_rfl) (W10F_tr  y34_5 hy34_5) ?_
        rintro _ _ ⟨rfl, rfl⟩
        refine s_pure 172 (.bool y34_5) (by kernel_rfl) (by kernel_rfl) (fun _ => by kernel_rfl) ?_
        refine s_pure 4 (.bool y34_5) (by kernel_rfl) (by kernel_rfl) (fun _ => by kernel_rfl) ?_
        refine ops_end ?_
        refine At.env [(4, .bool y34_5)] ⟨by kernel_rfl, trivial⟩ ?_
        refine at_then_normal ?_
        refine at_ret (by kernel_rfl) ?_
        obtain rfl := someE H
        refine at_backR [.bool y34_5] (Γ) (rs := [.tmp 4]) (by kernel_rfl) (.cons (.tmp (by kernel_rfl)) .nil) (fun w hw => (Sat.less (.drop .here (.drop .here (.drop .here .refl))) hw)) ?_
        exact ⟨rfl, rfl⟩
      · replace H := bifF H h33
        refine s_pure 170 (.bool false) (by kernel_rfl) (by kernel_rfl) (run_eq (v := .bool (decide ((((List.length y34_1) : Nat) : Int) = (0 : Int)))) (fun _ => by kernel_rfl) (congrArg Value.bool h33)) ?_
        refine s_pass 171 (by kernel_rfl) (by kernel_rfl) ?_
        refine s_pure 172 (.bool false) (by kernel_rfl) (by kernel_rfl) (fun _ => by kernel_rfl) ?_
        refine s_pure 4 (.bool false) (by kernel_rfl) (by kernel_rfl) (fun _ => by kernel_rfl) ?_
        refine ops_end ?_
        refine At.env [(4, .bool false)] ⟨by kernel_rfl, trivial⟩ ?_
        refine at_then_normal ?_
        refine at_ret (by kernel_rfl) ?_
        obtain rfl := someE H
        refine at_backR [.bool false] (Γ) (rs := [.tmp 4]) (by kernel_rfl) (.cons (.tmp (by kernel_rfl)) .nil) (fun w hw => (Sat.less (.drop .here (.drop .here (.drop .here .refl))) hw)) ?_
        exact ⟨rfl, rfl⟩
end Go.Proofs.Ytpcffplbedbpkaa
