/- The law TurnsReady: its walk. -/
import Derived.Test.YtpcffplbedbpkaaTuB
import Derived.Test.YtpcffplbedbpkaaKsA
namespace Go.Proofs.Ytpcffplbedbpkaa
open Go Go.RowKit
set_option linter.unusedVariables false
set_option linter.unusedSimpArgs false
def wakes10S : Option (Bool) :=
  (tnewS).bind fun y1_0 => (townerS y1_0 (3 : Int)).bind fun y2_4 => (bif decide (y2_4 = ((-1) : Int)) then (taskS y1_0 (3 : Int) (1 : Int) (0 : Int)).bind fun y2_9 => (bif y2_9.1 then (townerS y2_9.2 (3 : Int)).bind fun y2_13 => (bif decide (y2_13 = (1 : Int)) then (taskS y2_9.2 (3 : Int) (2 : Int) (0 : Int)).bind fun y2_18 => some !y2_18.1 else some false) else some false) else some false)
noncomputable def C18 (p : List Nat) : Code := codeAt (bodyOf Try.f18) p
set_option maxRecDepth 100000 in
set_option maxHeartbeats 8000000 in
theorem W10F_tr {W0 : World} {Γ : List Asn}   (y : Bool) (H : wakes10S = some y) : Tr Try.prog 18 #[] W0 (Γ) (fun r Δ => r = .bool y ∧ Δ = Γ) := by
  unfold wakes10S at H
  refine Tr.enter (fn := Try.f18) (c := C18 []) (args := []) 24 Try.func18 (by kernel_rfl) (by kernel_rfl) ?_
  refine At.env [] trivial ?_
  refine at_seq (x := C18 [0]) (y := C18 [1]) (by kernel_rfl) ?_
  refine at_region (id := 0) 1 (by kernel_rfl) (by kernel_rfl) ?_
  refine s_pure 0 (.bool false) (by kernel_rfl) (by kernel_rfl) (fun _ => by kernel_rfl) ?_
  refine ops_end ?_
  refine At.env [] trivial ?_
  refine at_then_normal ?_
  refine at_seq (x := C18 [1,0]) (y := C18 [1,1]) (by kernel_rfl) ?_
  refine at_region (id := 1) 2 (by kernel_rfl) (by kernel_rfl) ?_
  obtain ⟨y1_0, hy1_0, H⟩ := bindE H
  refine s_call 2 11 #[] (by kernel_rfl) (by kernel_rfl) (fun _ => by kernel_rfl) (TNewF_tr  y1_0 hy1_0) ?_
  rintro _ _ ⟨b1_0, rfl, rfl⟩
  refine s_pure 1 (.pointer (some ⟨b1_0, 0, none⟩)) (by kernel_rfl) (by kernel_rfl) (fun _ => by kernel_rfl) ?_
  refine ops_end ?_
  refine At.env [(1, .pointer (some ⟨b1_0, 0, none⟩))] ⟨by kernel_rfl, trivial⟩ ?_
  refine at_then_normal ?_
  refine at_seq (x := C18 [1,1,0]) (y := C18 [1,1,1]) (by kernel_rfl) ?_
  refine at_region (id := 2) 22 (by kernel_rfl) (by kernel_rfl) ?_
  refine s_pure 3 (.pointer (some ⟨b1_0, 0, none⟩)) (by kernel_rfl) (by kernel_rfl) (fun _ => by kernel_rfl) ?_
  refine s_pure 4 (.bool true) (by kernel_rfl) (by kernel_rfl) (fun _ => by kernel_rfl) ?_
  refine s_pure 5 (.bool true) (by kernel_rfl) (by kernel_rfl) (fun _ => by kernel_rfl) ?_
  refine s_pure 6 (.pointer (some ⟨b1_0, 0, none⟩)) (by kernel_rfl) (by kernel_rfl) (fun _ => by kernel_rfl) ?_
  obtain ⟨y2_4, hy2_4, H⟩ := bindE H
  refine s_call 7 17 #[.pointer (some ⟨b1_0, 0, none⟩), .int .i64 (3)] (by kernel_rfl) (by kernel_rfl) (fun _ => by kernel_rfl) (TOwnerF_tr b1_0 y1_0 (3 : Int) y2_4 hy2_4) ?_
  rintro _ _ ⟨rfl, rfl⟩
  refine s_pure 8 (.bool (decide (y2_4 = ((-1) : Int)))) (by kernel_rfl) (by kernel_rfl) (fun _ => by kernel_rfl) ?_
  refine s_pure 9 (.bool (decide (y2_4 = ((-1) : Int)))) (by kernel_rfl) (by kernel_rfl) (fun _ => by kernel_rfl) ?_
  rcases Bool.eq_false_or_eq_true (decide (y2_4 = ((-1) : Int))) with h1 | h1
  · replace H := bifT H h1
    refine s_pure 10 (.bool true) (by kernel_rfl) (by kernel_rfl) (run_eq (v := .bool (decide (y2_4 = ((-1) : Int)))) (fun _ => by kernel_rfl) (congrArg Value.bool h1)) ?_
    refine s_pure 11 (.pointer (some ⟨b1_0, 0, none⟩)) (by kernel_rfl) (by kernel_rfl) (fun _ => by kernel_rfl) ?_
    obtain ⟨y2_9, hy2_9, H⟩ := bindE H
    refine s_call 12 13 #[.pointer (some ⟨b1_0, 0, none⟩), .int .i64 (3), .int .i64 (1), .int .i64 (0)] (by kernel_rfl) (by kernel_rfl) (fun _ => by kernel_rfl) (TAskF_tr b1_0 y1_0 (3 : Int) (1 : Int) (0 : Int) y2_9 hy2_9) ?_
    rintro _ _ ⟨rfl, rfl⟩
    refine s_pure 13 (.bool y2_9.1) (by kernel_rfl) (by kernel_rfl) (fun _ => by kernel_rfl) ?_
    rcases Bool.eq_false_or_eq_true (y2_9.1) with h2 | h2
    · replace H := bifT H h2
      refine s_pure 14 (.bool true) (by kernel_rfl) (by kernel_rfl) (run_eq (v := .bool (y2_9.1)) (fun _ => by kernel_rfl) (congrArg Value.bool h2)) ?_
      refine s_pure 15 (.pointer (some ⟨b1_0, 0, none⟩)) (by kernel_rfl) (by kernel_rfl) (fun _ => by kernel_rfl) ?_
      obtain ⟨y2_13, hy2_13, H⟩ := bindE H
      refine s_call 16 17 #[.pointer (some ⟨b1_0, 0, none⟩), .int .i64 (3)] (by kernel_rfl) (by kernel_rfl) (fun _ => by kernel_rfl) (TOwnerF_tr b1_0 y2_9.2 (3 : Int) y2_13 hy2_13) ?_
      rintro _ _ ⟨rfl, rfl⟩
      refine s_pure 17 (.bool (decide (y2_13 = (1 : Int)))) (by kernel_rfl) (by kernel_rfl) (fun _ => by kernel_rfl) ?_
      refine s_pure 18 (.bool (decide (y2_13 = (1 : Int)))) (by kernel_rfl) (by kernel_rfl) (fun _ => by kernel_rfl) ?_
      rcases Bool.eq_false_or_eq_true (decide (y2_13 = (1 : Int))) with h3 | h3
      · replace H := bifT H h3
        refine s_pure 19 (.bool true) (by kernel_rfl) (by kernel_rfl) (run_eq (v := .bool (decide (y2_13 = (1 : Int)))) (fun _ => by kernel_rfl) (congrArg Value.bool h3)) ?_
        refine s_pure 20 (.pointer (some ⟨b1_0, 0, none⟩)) (by kernel_rfl) (by kernel_rfl) (fun _ => by kernel_rfl) ?_
        obtain ⟨y2_18, hy2_18, H⟩ := bindE H
        refine s_call 21 13 #[.pointer (some ⟨b1_0, 0, none⟩), .int .i64 (3), .int .i64 (2), .int .i64 (0)] (by kernel_rfl) (by kernel_rfl) (fun _ => by kernel_rfl) (TAskF_tr b1_0 y2_9.2 (3 : Int) (2 : Int) (0 : Int) y2_18 hy2_18) ?_
        rintro _ _ ⟨rfl, rfl⟩
        refine s_pure 22 (.bool !y2_18.1) (by kernel_rfl) (by kernel_rfl) (fun _ => by kernel_rfl) ?_
        refine s_pure 23 (.bool !y2_18.1) (by kernel_rfl) (by kernel_rfl) (fun _ => by kernel_rfl) ?_
        refine s_pure 0 (.bool !y2_18.1) (by kernel_rfl) (by kernel_rfl) (fun _ => by kernel_rfl) ?_
        refine ops_end ?_
        refine At.env [(0, .bool !y2_18.1)] ⟨by kernel_rfl, trivial⟩ ?_
        refine at_then_normal ?_
        refine at_ret (by kernel_rfl) ?_
        obtain rfl := someE H
        refine at_backR [.bool !y2_18.1] (Γ) (rs := [.tmp 0]) (by kernel_rfl) (.cons (.tmp (by kernel_rfl)) .nil) (fun w hw => (Sat.less (.drop .here .refl) hw)) ?_
        exact ⟨rfl, rfl⟩
      · replace H := bifF H h3
        refine s_pure 19 (.bool false) (by kernel_rfl) (by kernel_rfl) (run_eq (v := .bool (decide (y2_13 = (1 : Int)))) (fun _ => by kernel_rfl) (congrArg Value.bool h3)) ?_
        refine s_pass 20 (by kernel_rfl) (by kernel_rfl) ?_
        refine s_pass 21 (by kernel_rfl) (by kernel_rfl) ?_
        refine s_pass 22 (by kernel_rfl) (by kernel_rfl) ?_
        refine s_pure 23 (.bool false) (by kernel_rfl) (by kernel_rfl) (fun _ => by kernel_rfl) ?_
        refine s_pure 0 (.bool false) (by kernel_rfl) (by kernel_rfl) (fun _ => by kernel_rfl) ?_
        refine ops_end ?_
        refine At.env [(0, .bool false)] ⟨by kernel_rfl, trivial⟩ ?_
        refine at_then_normal ?_
        refine at_ret (by kernel_rfl) ?_
        obtain rfl := someE H
        refine at_backR [.bool false] (Γ) (rs := [.tmp 0]) (by kernel_rfl) (.cons (.tmp (by kernel_rfl)) .nil) (fun w hw => (Sat.less (.drop .here .refl) hw)) ?_
        exact ⟨rfl, rfl⟩
    · replace H := bifF H h2
      refine s_pure 14 (.bool false) (by kernel_rfl) (by kernel_rfl) (run_eq (v := .bool (y2_9.1)) (fun _ => by kernel_rfl) (congrArg Value.bool h2)) ?_
      refine s_pass 15 (by kernel_rfl) (by kernel_rfl) ?_
      refine s_pass 16 (by kernel_rfl) (by kernel_rfl) ?_
      refine s_pass 17 (by kernel_rfl) (by kernel_rfl) ?_
      refine s_pure 18 (.bool false) (by kernel_rfl) (by kernel_rfl) (fun _ => by kernel_rfl) ?_
      refine s_pure 19 (.bool false) (by kernel_rfl) (by kernel_rfl) (fun _ => by kernel_rfl) ?_
      refine s_pass 20 (by kernel_rfl) (by kernel_rfl) ?_
      refine s_pass 21 (by kernel_rfl) (by kernel_rfl) ?_
      refine s_pass 22 (by kernel_rfl) (by kernel_rfl) ?_
      refine s_pure 23 (.bool false) (by kernel_rfl) (by kernel_rfl) (fun _ => by kernel_rfl) ?_
      refine s_pure 0 (.bool false) (by kernel_rfl) (by kernel_rfl) (fun _ => by kernel_rfl) ?_
      refine ops_end ?_
      refine At.env [(0, .bool false)] ⟨by kernel_rfl, trivial⟩ ?_
      refine at_then_normal ?_
      refine at_ret (by kernel_rfl) ?_
      obtain rfl := someE H
      refine at_backR [.bool false] (Γ) (rs := [.tmp 0]) (by kernel_rfl) (.cons (.tmp (by kernel_rfl)) .nil) (fun w hw => (Sat.less (.drop .here .refl) hw)) ?_
      exact ⟨rfl, rfl⟩
  · replace H := bifF H h1
    refine s_pure 10 (.bool false) (by kernel_rfl) (by kernel_rfl) (run_eq (v := .bool (decide (y2_4 = ((-1) : Int)))) (fun _ => by kernel_rfl) (congrArg Value.bool h1)) ?_
    refine s_pass 11 (by kernel_rfl) (by kernel_rfl) ?_
    refine s_pass 12 (by kernel_rfl) (by kernel_rfl) ?_
    refine s_pure 13 (.bool false) (by kernel_rfl) (by kernel_rfl) (fun _ => by kernel_rfl) ?_
    refine s_pure 14 (.bool false) (by kernel_rfl) (by kernel_rfl) (fun _ => by kernel_rfl) ?_
    refine s_pass 15 (by kernel_rfl) (by kernel_rfl) ?_
    refine s_pass 16 (by kernel_rfl) (by kernel_rfl) ?_
    refine s_pass 17 (by kernel_rfl) (by kernel_rfl) ?_
    refine s_pure 18 (.bool false) (by kernel_rfl) (by kernel_rfl) (fun _ => by kernel_rfl) ?_
    refine s_pure 19 (.bool false) (by kernel_rfl) (by kernel_rfl) (fun _ => by kernel_rfl) ?_
    refine s_pass 20 (by kernel_rfl) (by kernel_rfl) ?_
    refine s_pass 21 (by kernel_rfl) (by kernel_rfl) ?_
    refine s_pass 22 (by kernel_rfl) (by kernel_rfl) ?_
    refine s_pure 23 (.bool false) (by kernel_rfl) (by kernel_rfl) (fun _ => by kernel_rfl) ?_
    refine s_pure 0 (.bool false) (by kernel_rfl) (by kernel_rfl) (fun _ => by kernel_rfl) ?_
    refine ops_end ?_
    refine At.env [(0, .bool false)] ⟨by kernel_rfl, trivial⟩ ?_
    refine at_then_normal ?_
    refine at_ret (by kernel_rfl) ?_
    obtain rfl := someE H
    refine at_backR [.bool false] (Γ) (rs := [.tmp 0]) (by kernel_rfl) (.cons (.tmp (by kernel_rfl)) .nil) (fun w hw => (Sat.less (.drop .here .refl) hw)) ?_
    exact ⟨rfl, rfl⟩
def turnsReadyS_k3 (e3_8x : List Int) (e3_b1_0 : TurnsS) : Option (Bool) :=
  (wakes10S).bind fun y33_0 => some y33_0
def turnsReadyS_l3 (k3 : (List Int) → TurnsS → Option (Bool)) : Nat → (List Int) → TurnsS → Option (Bool)
  | 0 => fun _ _ => none
  | m + 1 => fun v3_8x v3_b1_0 => (bif decide ((0 : Int) < (((List.length v3_8x) : Nat) : Int)) then chk (0 ≤ (0 : Int) ∧ (0 : Int) < ((v3_8x.length : Nat) : Int)) ((tnextS v3_b1_0 (nth v3_8x (0 : Int))).bind fun y27_4 => (bif !y27_4.2.2.1 then some false else chk (0 ≤ (0 : Int) ∧ (0 : Int) < ((v3_8x.length : Nat) : Int)) ((townerS y27_4.2.2.2 (nth v3_8x (0 : Int))).bind fun y28_7 => (bif decide (y28_7 = ((-1) : Int)) then some false else chk (0 ≤ (1 : Int) ∧ (1 : Int) ≤ (((List.length v3_8x) : Nat) : Int) ∧ (((List.length v3_8x) : Nat) : Int) ≤ ((v3_8x.length : Nat) : Int)) (letP ((v3_8x.drop ((1 : Int)).toNat).take ((List.length v3_8x) - ((1 : Int)).toNat)) fun l30_1 => (treadyS y27_4.2.2.2).bind fun y31_1 => (ksameS y31_1 l30_1).bind fun y31_3 => (bif !y31_3 then some false else (turnsReadyS_l3  k3 m) l30_1 y27_4.2.2.2)))))) else k3 v3_8x v3_b1_0)
def turnsReadyS_k2 (e1_b1_0 : TurnsS) (e2_8x : List Int) (e2_9 : Int) : Option (Bool) :=
  (treadyS e1_b1_0).bind fun y24_1 => (ksameS y24_1 e2_8x).bind fun y24_3 => (bif !y24_3 then some false else turnsReadyS_l3 (turnsReadyS_k3 ) 64 e2_8x e1_b1_0)
def turnsReadyS_l2 (e0_m4_0 : List (Int × Int)) (k2 : (List Int) → Int → Option (Bool)) : Nat → (List Int) → Int → Option (Bool)
  | 0 => fun _ _ => none
  | m + 1 => fun v2_8x v2_9 => (bif decide (v2_9 < (6 : Int)) then letP (mget e0_m4_0 v2_9) fun y22_2 => (bif decide ((1 : Int) < (y22_2.getD 0)) then letP ([v2_9] : List Int) fun l23_2 => chk ((v2_8x ++ l23_2).length ≤ 1099511627776) (letP (v2_8x ++ l23_2) fun l23_3 => chk (inR (v2_9 + (1 : Int))) ((turnsReadyS_l2 e0_m4_0 k2 m) l23_3 (v2_9 + (1 : Int)))) else chk (inR (v2_9 + (1 : Int))) ((turnsReadyS_l2 e0_m4_0 k2 m) v2_8x (v2_9 + (1 : Int)))) else k2 v2_8x v2_9)
def turnsReadyS_k1 (e0_m4_0 : List (Int × Int)) (e1_7 : Int) (e1_b1_0 : TurnsS) : Option (Bool) :=
  turnsReadyS_l2 e0_m4_0 (turnsReadyS_k2 e1_b1_0) 64 ([] : List Int) 0
def turnsReadyS_l1 (e0_m4_0 : List (Int × Int)) (k1 : Int → TurnsS → Option (Bool)) : Nat → Int → TurnsS → Option (Bool)
  | 0 => fun _ _ => none
  | m + 1 => fun v1_7 v1_b1_0 => (bif decide (v1_7 < (6 : Int)) then letP (mget e0_m4_0 v1_7) fun y16_2 => (bif decide ((0 : Int) < (y16_2.getD 0)) then (townerS v1_b1_0 v1_7).bind fun y16_9 => (treleaseS v1_b1_0 v1_7 y16_9).bind fun y16_10 => (bif !(decide (y16_10.1 = (0 : Int))) then some false else chk (inR (v1_7 + (1 : Int))) ((turnsReadyS_l1 e0_m4_0 k1 m) (v1_7 + (1 : Int)) y16_10.2)) else chk (inR (v1_7 + (1 : Int))) ((turnsReadyS_l1 e0_m4_0 k1 m) (v1_7 + (1 : Int)) v1_b1_0)) else k1 v1_7 v1_b1_0)
def turnsReadyS_k0 (e0_5 : Int) (e0_m4_0 : List (Int × Int)) (e0_b1_0 : TurnsS) : Option (Bool) :=
  (treadyS e0_b1_0).bind fun y11_1 => (bif !(decide ((((List.length y11_1) : Nat) : Int) = (0 : Int))) then some false else turnsReadyS_l1 e0_m4_0 (turnsReadyS_k1 e0_m4_0) 64 0 e0_b1_0)
def turnsReadyS_l0 (lines : List Int) (k0 : Int → (List (Int × Int)) → TurnsS → Option (Bool)) : Nat → Int → (List (Int × Int)) → TurnsS → Option (Bool)
  | 0 => fun _ _ _ => none
  | m + 1 => fun v0_5 v0_m4_0 v0_b1_0 => (bif decide (v0_5 < (((List.length lines) : Nat) : Int)) then (bif decide (v0_5 < (20 : Int)) then chk (0 ≤ v0_5 ∧ v0_5 < ((lines.length : Nat) : Int)) ((withinS (nth lines v0_5) (6 : Int)).bind fun y8_4 => (taskS v0_b1_0 y8_4 (v0_5.tmod (4 : Int)) v0_5).bind fun y9_5 => letP (mget v0_m4_0 y8_4) fun y10_2 => chk (inR (v0_5 + (1 : Int))) ((turnsReadyS_l0 lines k0 m) (v0_5 + (1 : Int)) (mset v0_m4_0 y8_4 (wr ((y10_2.getD 0) + (1 : Int)))) y9_5.2)) else k0 v0_5 v0_m4_0 v0_b1_0) else k0 v0_5 v0_m4_0 v0_b1_0)
def turnsReadyS (lines : List Int) : Option (Bool) :=
  (tnewS).bind fun y1_0 => turnsReadyS_l0 lines (turnsReadyS_k0 ) 64 0 ([] : List (Int × Int)) y1_0
noncomputable def C8 (p : List Nat) : Code := codeAt (bodyOf Try.f8) p
set_option maxRecDepth 100000 in
set_option maxHeartbeats 8000000 in
theorem TurnsReadyF_tr {W0 : World} {Γ : List Asn} (linesa : Option Addr) (linescap : Nat) (lines : List Int) (hrlinesa : Reads W0 Γ linesa (ints lines)) (y : Bool) (H : turnsReadyS lines = some y) : Tr Try.prog 8 #[.slice linesa (List.length lines) linescap] W0 (Γ) (fun r Δ => r = .bool y ∧ Δ = Γ) := by
  unfold turnsReadyS at H
  refine Tr.enter (fn := Try.f8) (c := C8 []) (args := [.slice linesa (List.length lines) linescap]) 110 Try.func8 (by kernel_rfl) (by kernel_rfl) ?_
  refine At.env [(0, .slice linesa (List.length lines) linescap)] ⟨by kernel_rfl, trivial⟩ ?_
  refine at_seq (x := C8 [0]) (y := C8 [1]) (by kernel_rfl) ?_
  refine at_region (id := 0) 1 (by kernel_rfl) (by kernel_rfl) ?_
  refine s_pure 2 (.bool false) (by kernel_rfl) (by kernel_rfl) (fun _ => by kernel_rfl) ?_
  refine ops_end ?_
  refine At.env [(0, .slice linesa (List.length lines) linescap)] ⟨by kernel_rfl, trivial⟩ ?_
  refine at_then_normal ?_
  refine at_seq (x := C8 [1,0]) (y := C8 [1,1]) (by kernel_rfl) ?_
  refine at_region (id := 1) 2 (by kernel_rfl) (by kernel_rfl) ?_
  obtain ⟨y1_0, hy1_0, H⟩ := bindE H
  refine s_call 13 11 #[] (by kernel_rfl) (by kernel_rfl) (fun _ => by kernel_rfl) (TNewF_tr  y1_0 hy1_0) ?_
  rintro _ _ ⟨b1_0, rfl, rfl⟩
  refine s_pure 3 (.pointer (some ⟨b1_0, 0, none⟩)) (by kernel_rfl) (by kernel_rfl) (fun _ => by kernel_rfl) ?_
  refine ops_end ?_
  refine At.env [(0, .slice linesa (List.length lines) linescap), (3, .pointer (some ⟨b1_0, 0, none⟩))] ⟨by kernel_rfl, by kernel_rfl, trivial⟩ ?_
  refine at_then_normal ?_
  refine at_seq (x := C8 [1,1,0]) (y := C8 [1,1,1]) (by kernel_rfl) ?_
  refine at_seq (x := C8 [1,1,0,0]) (y := C8 [1,1,0,1]) (by kernel_rfl) ?_
  refine at_region (id := 2) 2 (by kernel_rfl) (by kernel_rfl) ?_
  refine s_pure 14 (.pointer (some ⟨b1_0, 0, none⟩)) (by kernel_rfl) (by kernel_rfl) (fun _ => by kernel_rfl) ?_
  refine s_pure 15 (.bool false) (by kernel_rfl) (by kernel_rfl) (fun _ => by kernel_rfl) ?_
  refine ops_end ?_
  refine At.env [(0, .slice linesa (List.length lines) linescap), (3, .pointer (some ⟨b1_0, 0, none⟩)), (15, .bool false)] ⟨by kernel_rfl, by kernel_rfl, by kernel_rfl, trivial⟩ ?_
  refine at_then_normal ?_
  refine at_false (t := false) (x := C8 [1,1,0,1,0]) (y := C8 [1,1,0,1,1]) (o := .tmp 15) (by kernel_rfl) (by kernel_rfl) (by kernel_rfl) rfl ?_
  refine at_skip (by kernel_rfl) ?_
  refine at_then_normal ?_
  refine at_seq (x := C8 [1,1,1,0]) (y := C8 [1,1,1,1]) (by kernel_rfl) ?_
  refine at_region (id := 4) 2 (by kernel_rfl) (by kernel_rfl) ?_
  refine s_step 16 (by kernel_rfl) (by kernel_rfl) (st_kmap_make (t := 58) (fun _ => by kernel_rfl)) ?_
  rintro _ _ ⟨m4_0, rfl, rfl⟩
  refine At.conv (Γ' := (IMapA m4_0 ([] : List (Int × Int))) :: (TurnsA b1_0 y1_0) :: Γ) (fun w hw => hw) ?_
  refine s_pure 4 (.map (some m4_0)) (by kernel_rfl) (by kernel_rfl) (fun _ => by kernel_rfl) ?_
  refine ops_end ?_
  refine At.env [(0, .slice linesa (List.length lines) linescap), (3, .pointer (some ⟨b1_0, 0, none⟩)), (4, .map (some m4_0))] ⟨by kernel_rfl, by kernel_rfl, by kernel_rfl, trivial⟩ ?_
  refine at_then_normal ?_
  refine at_seq (x := C8 [1,1,1,1,0]) (y := C8 [1,1,1,1,1]) (by kernel_rfl) ?_
  refine at_seq (x := C8 [1,1,1,1,0,0]) (y := C8 [1,1,1,1,0,1]) (by kernel_rfl) ?_
  refine at_region (id := 5) 1 (by kernel_rfl) (by kernel_rfl) ?_
  refine s_pure 5 (.int .i64 (0)) (by kernel_rfl) (by kernel_rfl) (fun _ => by kernel_rfl) ?_
  refine ops_end ?_
  refine At.env [(0, .slice linesa (List.length lines) linescap), (3, .pointer (some ⟨b1_0, 0, none⟩)), (4, .map (some m4_0)), (5, .int .i64 (0))] ⟨by kernel_rfl, by kernel_rfl, by kernel_rfl, by kernel_rfl, trivial⟩ ?_
  refine at_then_normal ?_
  refine at_block (i := 0) (x := C8 [1,1,1,1,0,1,0]) (by kernel_rfl) ?_
  refine At.conv (Γ' := (IMapA m4_0 ([] : List (Int × Int))) :: (TurnsA b1_0 y1_0) :: Γ) (fun w hw => (Sat.less (.take .here (.take .here .refl)) hw)) ?_
  refine at_loopR (x := C8 [1,1,1,1,0,1,0,0]) (fun mm ff ΔΔ => ∃ (fuel : Nat) (v0_5 : Int) (v0_m4_0 : List (Int × Int)) (v0_b1_0 : TurnsS), turnsReadyS_l0 lines (turnsReadyS_k0 ) fuel v0_5 v0_m4_0 v0_b1_0 = some y ∧ fuel = mm ∧ ff = [(0, .slice linesa (List.length lines) linescap), (3, .pointer (some ⟨b1_0, 0, none⟩)), (4, .map (some m4_0)), (5, .int .i64 v0_5)] ∧ (IMapA m4_0 v0_m4_0) :: (TurnsA b1_0 v0_b1_0) :: Γ = ΔΔ) (64) (by kernel_rfl) [(0, .slice linesa (List.length lines) linescap), (3, .pointer (some ⟨b1_0, 0, none⟩)), (4, .map (some m4_0)), (5, .int .i64 0)] ⟨by kernel_rfl, by kernel_rfl, by kernel_rfl, by kernel_rfl, trivial⟩ ⟨64, 0, ([] : List (Int × Int)), y1_0, H, rfl, rfl, rfl⟩ ?_
  rintro _ _ _ ⟨fuel1, v0_5, v0_m4_0, v0_b1_0, H, rfl, rfl, rfl⟩
  rcases fuel1 with _ | fuel1
  · exact (noneE H).elim
  rw [turnsReadyS_l0] at H
  refine at_seq (x := C8 [1,1,1,1,0,1,0,0,0]) (y := C8 [1,1,1,1,0,1,0,0,1]) (by kernel_rfl) ?_
  refine at_seq (x := C8 [1,1,1,1,0,1,0,0,0,0]) (y := C8 [1,1,1,1,0,1,0,0,0,1]) (by kernel_rfl) ?_
  refine at_region (id := 6) 8 (by kernel_rfl) (by kernel_rfl) ?_
  refine s_pure 17 (.int .i64 v0_5) (by kernel_rfl) (by kernel_rfl) (fun _ => by kernel_rfl) ?_
  refine s_pure 18 (.slice linesa (List.length lines) linescap) (by kernel_rfl) (by kernel_rfl) (fun _ => by kernel_rfl) ?_
  refine s_pure 19 (.int .i64 (((List.length lines) : Nat) : Int)) (by kernel_rfl) (by kernel_rfl) (fun _ => by kernel_rfl) ?_
  refine s_pure 20 (.bool (decide (v0_5 < (((List.length lines) : Nat) : Int)))) (by kernel_rfl) (by kernel_rfl) (fun _ => by kernel_rfl) ?_
  rcases Bool.eq_false_or_eq_true (decide (v0_5 < (((List.length lines) : Nat) : Int))) with h1 | h1
  · replace H := bifT H h1
    refine s_pure 21 (.bool true) (by kernel_rfl) (by kernel_rfl) (run_eq (v := .bool (decide (v0_5 < (((List.length lines) : Nat) : Int)))) (fun _ => by kernel_rfl) (congrArg Value.bool h1)) ?_
    refine s_pure 22 (.int .i64 v0_5) (by kernel_rfl) (by kernel_rfl) (fun _ => by kernel_rfl) ?_
    refine s_pure 23 (.bool (decide (v0_5 < (20 : Int)))) (by kernel_rfl) (by kernel_rfl) (fun _ => by kernel_rfl) ?_
    refine s_pure 24 (.bool (decide (v0_5 < (20 : Int)))) (by kernel_rfl) (by kernel_rfl) (fun _ => by kernel_rfl) ?_
    refine ops_end ?_
    refine At.env [(0, .slice linesa (List.length lines) linescap), (3, .pointer (some ⟨b1_0, 0, none⟩)), (4, .map (some m4_0)), (5, .int .i64 v0_5), (24, .bool (decide (v0_5 < (20 : Int))))] ⟨by kernel_rfl, by kernel_rfl, by kernel_rfl, by kernel_rfl, by kernel_rfl, trivial⟩ ?_
    refine at_then_normal ?_
    rcases Bool.eq_false_or_eq_true (decide (v0_5 < (20 : Int))) with h2 | h2
    · replace H := bifT H h2
      refine at_true (t := decide (v0_5 < (20 : Int))) (x := C8 [1,1,1,1,0,1,0,0,0,1,0]) (y := C8 [1,1,1,1,0,1,0,0,0,1,1]) (o := .tmp 24) (by kernel_rfl) (by kernel_rfl) (by kernel_rfl) h2 ?_
      refine at_skip (by kernel_rfl) ?_
      refine at_then_normal ?_
      refine at_seq (x := C8 [1,1,1,1,0,1,0,0,1,0]) (y := C8 [1,1,1,1,0,1,0,0,1,1]) (by kernel_rfl) ?_
      refine at_block (i := 1) (x := C8 [1,1,1,1,0,1,0,0,1,0,0]) (by kernel_rfl) ?_
      refine at_seq (x := C8 [1,1,1,1,0,1,0,0,1,0,0,0]) (y := C8 [1,1,1,1,0,1,0,0,1,0,0,1]) (by kernel_rfl) ?_
      refine at_region (id := 8) 6 (by kernel_rfl) (by kernel_rfl) ?_
      refine s_pure 27 (.slice linesa (List.length lines) linescap) (by kernel_rfl) (by kernel_rfl) (fun _ => by kernel_rfl) ?_
      refine s_pure 28 (.int .i64 v0_5) (by kernel_rfl) (by kernel_rfl) (fun _ => by kernel_rfl) ?_
      obtain ⟨hc8_2_0, H⟩ := chkE H
      refine reads_at (Reads.conv (fun w hw => hw.less (.drop .here (.drop .here .refl))) hrlinesa) (by have := hc8_2_0; omega) ?_
      intro bb1 oo1 ha1
      refine s_pure 29 (.pointer (some ⟨bb1, oo1 + ((v0_5).toNat * 1 + 0), none⟩)) (by kernel_rfl) (by kernel_rfl) (index_at (t := 22) (sz := 1) (E := 3) (a := linesa) (m := (List.length lines)) (c := linescap) (b := bb1) (off := oo1) (i := (v0_5).toNat) (tinfo 3) (fun _ => by kernel_rfl) (by kernel_rfl) (by kernel_rfl) (by kernel_rfl) ha1 (idx_cast hc8_2_0) (idx_nat hc8_2_0) rfl) ?_
      refine s_load 30 (.int .i64 (nth lines v0_5)) (by kernel_rfl) (by kernel_rfl) (load1_at (off := oo1 + ((v0_5).toNat * 1 + 0)) (v := .int .i64 (nth lines v0_5)) (fun _ => by kernel_rfl) rfl (reads_cell (k := 1) (Reads.conv (fun w hw => hw.less (.drop .here (.drop .here .refl))) hrlinesa) (ints_rows _) ha1 (nth_row hc8_2_0) (show [(.int .i64 (nth lines v0_5) : Value)][0]? = some _ from rfl))) ?_
      obtain ⟨y8_4, hy8_4, H⟩ := bindE H
      refine s_quiet 31 (.int .i64 y8_4) 12 #[.int .i64 (nth lines v0_5), .int .i64 (6)] (by kernel_rfl) (by kernel_rfl) (fun _ => by kernel_rfl) (WithinF_tr (nth lines v0_5) (6 : Int) y8_4 hy8_4) ?_
      refine s_pure 6 (.int .i64 y8_4) (by kernel_rfl) (by kernel_rfl) (fun _ => by kernel_rfl) ?_
      refine ops_end ?_
      refine At.env [(0, .slice linesa (List.length lines) linescap), (3, .pointer (some ⟨b1_0, 0, none⟩)), (4, .map (some m4_0)), (5, .int .i64 v0_5), (6, .int .i64 y8_4)] ⟨by kernel_rfl, by kernel_rfl, by kernel_rfl, by kernel_rfl, by kernel_rfl, trivial⟩ ?_
      refine at_then_normal ?_
      refine at_seq (x := C8 [1,1,1,1,0,1,0,0,1,0,0,1,0]) (y := C8 [1,1,1,1,0,1,0,0,1,0,0,1,1]) (by kernel_rfl) ?_
      refine at_region (id := 9) 6 (by kernel_rfl) (by kernel_rfl) ?_
      refine s_pure 32 (.pointer (some ⟨b1_0, 0, none⟩)) (by kernel_rfl) (by kernel_rfl) (fun _ => by kernel_rfl) ?_
      refine s_pure 33 (.int .i64 y8_4) (by kernel_rfl) (by kernel_rfl) (fun _ => by kernel_rfl) ?_
      refine s_pure 34 (.int .i64 v0_5) (by kernel_rfl) (by kernel_rfl) (fun _ => by kernel_rfl) ?_
      refine s_pure 35 (.int .i64 (v0_5.tmod (4 : Int))) (by kernel_rfl) (by kernel_rfl) (run_remP (a := v0_5) (b := 4) (fun _ => by kernel_rfl) (by decide)) ?_
      refine s_pure 36 (.int .i64 v0_5) (by kernel_rfl) (by kernel_rfl) (fun _ => by kernel_rfl) ?_
      obtain ⟨y9_5, hy9_5, H⟩ := bindE H
      refine s_call 37 13 #[.pointer (some ⟨b1_0, 0, none⟩), .int .i64 y8_4, .int .i64 (v0_5.tmod (4 : Int)), .int .i64 v0_5] (by kernel_rfl) (by kernel_rfl) (fun _ => by kernel_rfl) (Tr.conv (Γ' := (TurnsA b1_0 v0_b1_0) :: (IMapA m4_0 v0_m4_0) :: Γ) (fun w hw => (Sat.less (.take (.there .here) (.take .here .refl)) hw)) (TAskF_tr b1_0 v0_b1_0 y8_4 (v0_5.tmod (4 : Int)) v0_5 y9_5 hy9_5)) ?_
      rintro _ _ ⟨rfl, rfl⟩
      refine ops_end ?_
      refine At.env [(0, .slice linesa (List.length lines) linescap), (3, .pointer (some ⟨b1_0, 0, none⟩)), (4, .map (some m4_0)), (5, .int .i64 v0_5), (6, .int .i64 y8_4)] ⟨by kernel_rfl, by kernel_rfl, by kernel_rfl, by kernel_rfl, by kernel_rfl, trivial⟩ ?_
      refine at_then_normal ?_
      refine at_region (id := 10) 5 (by kernel_rfl) (by kernel_rfl) ?_
      refine s_pure 38 (.map (some m4_0)) (by kernel_rfl) (by kernel_rfl) (fun _ => by kernel_rfl) ?_
      refine s_pure 39 (.int .i64 y8_4) (by kernel_rfl) (by kernel_rfl) (fun _ => by kernel_rfl) ?_
      obtain ⟨y10_2, hy10_2, H⟩ := letE H
      refine s_load 40 (.int .i64 (y10_2.getD 0)) (by kernel_rfl) (by kernel_rfl) (imap_lookup1 (t := 58) (Kt := 3) (V := 3) (ik := .i64) (k := y8_4) (info := tinfo 3) hy10_2 (fun _ => by kernel_rfl) (by kernel_rfl) (by kernel_rfl) (by kernel_rfl) (by kernel_rfl) (.there .here)) ?_
      refine s_pure 41 (.int .i64 (wr ((y10_2.getD 0) + (1 : Int)))) (by kernel_rfl) (by kernel_rfl) (fun _ => by kernel_rfl) ?_
      refine s_do (by kernel_rfl) (by kernel_rfl) (st_iset (t := 58) (Kt := 3) (V := 3) (ik := .i64) (k := y8_4) (x := wr ((y10_2.getD 0) + (1 : Int))) (fun _ => by kernel_rfl) (by kernel_rfl) (by kernel_rfl) (.there .here)) ?_
      rintro _ _ ⟨rfl, rfl⟩
      refine ops_end ?_
      refine At.env [(0, .slice linesa (List.length lines) linescap), (3, .pointer (some ⟨b1_0, 0, none⟩)), (4, .map (some m4_0)), (5, .int .i64 v0_5)] ⟨by kernel_rfl, by kernel_rfl, by kernel_rfl, by kernel_rfl, trivial⟩ ?_
      refine at_in_normal ?_
      refine at_then_normal ?_
      refine at_region (id := 7) 3 (by kernel_rfl) (by kernel_rfl) ?_
      refine s_pure 25 (.int .i64 v0_5) (by kernel_rfl) (by kernel_rfl) (fun _ => by kernel_rfl) ?_
      obtain ⟨hc7_1_0, H⟩ := chkE H
      refine s_pure 26 (.int .i64 (v0_5 + (1 : Int))) (by kernel_rfl) (by kernel_rfl) (run_eq (v := .int .i64 (IntKind.i64.wrap (v0_5 + (1 : Int)))) (fun _ => by kernel_rfl) (by rw [inR.wrap hc7_1_0])) ?_
      refine s_pure 5 (.int .i64 (v0_5 + (1 : Int))) (by kernel_rfl) (by kernel_rfl) (fun _ => by kernel_rfl) ?_
      refine ops_end ?_
      refine At.env [(0, .slice linesa (List.length lines) linescap), (3, .pointer (some ⟨b1_0, 0, none⟩)), (4, .map (some m4_0)), (5, .int .i64 (v0_5 + (1 : Int)))] ⟨by kernel_rfl, by kernel_rfl, by kernel_rfl, by kernel_rfl, trivial⟩ ?_
      refine at_round_normal ?_
      exact at_roundR fuel1 [(0, .slice linesa (List.length lines) linescap), (3, .pointer (some ⟨b1_0, 0, none⟩)), (4, .map (some m4_0)), (5, .int .i64 (v0_5 + (1 : Int)))] ((IMapA m4_0 (mset v0_m4_0 y8_4 (wr ((y10_2.getD 0) + (1 : Int))))) :: (TurnsA b1_0 y9_5.2) :: Γ) (Nat.lt_succ_self _) ⟨by kernel_rfl, by kernel_rfl, by kernel_rfl, by kernel_rfl, trivial⟩ (fun w hw => (Sat.less (.take .here (.take .here .refl)) hw)) ⟨fuel1, v0_5 + (1 : Int), mset v0_m4_0 y8_4 (wr ((y10_2.getD 0) + (1 : Int))), y9_5.2, H, rfl, rfl, rfl⟩
    · replace H := bifF H h2
      refine at_false (t := decide (v0_5 < (20 : Int))) (x := C8 [1,1,1,1,0,1,0,0,0,1,0]) (y := C8 [1,1,1,1,0,1,0,0,0,1,1]) (o := .tmp 24) (by kernel_rfl) (by kernel_rfl) (by kernel_rfl) h2 ?_
      refine at_exit (i := 0) (by kernel_rfl) ?_
      refine at_then_exit ?_
      refine at_then_exit ?_
      rw [turnsReadyS_k0] at H
      refine At.env [(0, .slice linesa (List.length lines) linescap), (3, .pointer (some ⟨b1_0, 0, none⟩)), (4, .map (some m4_0)), (5, .int .i64 v0_5)] ⟨by kernel_rfl, by kernel_rfl, by kernel_rfl, by kernel_rfl, trivial⟩ ?_
      refine At.conv (Γ' := (IMapA m4_0 v0_m4_0) :: (TurnsA b1_0 v0_b1_0) :: Γ) (fun w hw => (Sat.less (.take .here (.take .here .refl)) hw)) ?_
      refine at_in_here ?_
      refine at_then_normal ?_
      refine at_seq (x := C8 [1,1,1,1,1,0]) (y := C8 [1,1,1,1,1,1]) (by kernel_rfl) ?_
      refine at_seq (x := C8 [1,1,1,1,1,0,0]) (y := C8 [1,1,1,1,1,0,1]) (by kernel_rfl) ?_
      refine at_region (id := 11) 4 (by kernel_rfl) (by kernel_rfl) ?_
      refine s_pure 42 (.pointer (some ⟨b1_0, 0, none⟩)) (by kernel_rfl) (by kernel_rfl) (fun _ => by kernel_rfl) ?_
      obtain ⟨y11_1, hy11_1, H⟩ := bindE H
      refine s_call 43 33 #[.pointer (some ⟨b1_0, 0, none⟩)] (by kernel_rfl) (by kernel_rfl) (fun _ => by kernel_rfl) (Tr.conv (Γ' := (TurnsA b1_0 v0_b1_0) :: (IMapA m4_0 v0_m4_0) :: Γ) (fun w hw => (Sat.less (.take (.there .here) (.take .here .refl)) hw)) (TReadyF_tr b1_0 v0_b1_0 y11_1 hy11_1)) ?_
      rintro _ _ ⟨a11_1_00, c11_1_00, rfl, rfl⟩
      refine s_pure 44 (.int .i64 (((List.length y11_1) : Nat) : Int)) (by kernel_rfl) (by kernel_rfl) (fun _ => by kernel_rfl) ?_
      refine s_pure 45 (.bool (!(decide ((((List.length y11_1) : Nat) : Int) = (0 : Int))))) (by kernel_rfl) (by kernel_rfl) (fun _ => by kernel_rfl) ?_
      refine ops_end ?_
      refine At.env [(3, .pointer (some ⟨b1_0, 0, none⟩)), (4, .map (some m4_0)), (45, .bool (!(decide ((((List.length y11_1) : Nat) : Int) = (0 : Int)))))] ⟨by kernel_rfl, by kernel_rfl, by kernel_rfl, trivial⟩ ?_
      refine at_then_normal ?_
      rcases Bool.eq_false_or_eq_true (!(decide ((((List.length y11_1) : Nat) : Int) = (0 : Int)))) with h3 | h3
      · replace H := bifT H h3
        refine at_true (t := !(decide ((((List.length y11_1) : Nat) : Int) = (0 : Int)))) (x := C8 [1,1,1,1,1,0,1,0]) (y := C8 [1,1,1,1,1,0,1,1]) (o := .tmp 45) (by kernel_rfl) (by kernel_rfl) (by kernel_rfl) h3 ?_
        refine at_seq (x := C8 [1,1,1,1,1,0,1,0,0]) (y := C8 [1,1,1,1,1,0,1,0,1]) (by kernel_rfl) ?_
        refine at_region (id := 12) 1 (by kernel_rfl) (by kernel_rfl) ?_
        refine s_pure 2 (.bool false) (by kernel_rfl) (by kernel_rfl) (fun _ => by kernel_rfl) ?_
        refine ops_end ?_
        refine At.env [(2, .bool false)] ⟨by kernel_rfl, trivial⟩ ?_
        refine at_then_normal ?_
        refine at_ret (by kernel_rfl) ?_
        refine at_then_ret ?_
        obtain rfl := someE H
        refine at_backR [.bool false] (Γ) (rs := [.tmp 2]) (by kernel_rfl) (.cons (.tmp (by kernel_rfl)) .nil) (fun w hw => (Sat.less (.drop .here (.drop .here (.drop .here .refl))) hw)) ?_
        exact ⟨rfl, rfl⟩
      · replace H := bifF H h3
        refine at_false (t := !(decide ((((List.length y11_1) : Nat) : Int) = (0 : Int)))) (x := C8 [1,1,1,1,1,0,1,0]) (y := C8 [1,1,1,1,1,0,1,1]) (o := .tmp 45) (by kernel_rfl) (by kernel_rfl) (by kernel_rfl) h3 ?_
        refine at_skip (by kernel_rfl) ?_
        refine at_then_normal ?_
        refine at_seq (x := C8 [1,1,1,1,1,1,0]) (y := C8 [1,1,1,1,1,1,1]) (by kernel_rfl) ?_
        refine at_seq (x := C8 [1,1,1,1,1,1,0,0]) (y := C8 [1,1,1,1,1,1,0,1]) (by kernel_rfl) ?_
        refine at_region (id := 13) 1 (by kernel_rfl) (by kernel_rfl) ?_
        refine s_pure 7 (.int .i64 (0)) (by kernel_rfl) (by kernel_rfl) (fun _ => by kernel_rfl) ?_
        refine ops_end ?_
        refine At.env [(3, .pointer (some ⟨b1_0, 0, none⟩)), (4, .map (some m4_0)), (7, .int .i64 (0))] ⟨by kernel_rfl, by kernel_rfl, by kernel_rfl, trivial⟩ ?_
        refine at_then_normal ?_
        refine at_block (i := 2) (x := C8 [1,1,1,1,1,1,0,1,0]) (by kernel_rfl) ?_
        refine At.conv (Γ' := (TurnsA b1_0 v0_b1_0) :: (IMapA m4_0 v0_m4_0) :: Γ) (fun w hw => (Sat.less (.take (.there .here) (.take (.there .here) (.drop .here .refl))) hw)) ?_
        refine at_loopR (x := C8 [1,1,1,1,1,1,0,1,0,0]) (fun mm ff ΔΔ => ∃ (fuel : Nat) (v1_7 : Int) (v1_b1_0 : TurnsS), turnsReadyS_l1 v0_m4_0 (turnsReadyS_k1 v0_m4_0) fuel v1_7 v1_b1_0 = some y ∧ fuel = mm ∧ ff = [(3, .pointer (some ⟨b1_0, 0, none⟩)), (4, .map (some m4_0)), (7, .int .i64 v1_7)] ∧ (TurnsA b1_0 v1_b1_0) :: (IMapA m4_0 v0_m4_0) :: Γ = ΔΔ) (64) (by kernel_rfl) [(3, .pointer (some ⟨b1_0, 0, none⟩)), (4, .map (some m4_0)), (7, .int .i64 0)] ⟨by kernel_rfl, by kernel_rfl, by kernel_rfl, trivial⟩ ⟨64, 0, v0_b1_0, H, rfl, rfl, rfl⟩ ?_
        rintro _ _ _ ⟨fuel2, v1_7, v1_b1_0, H, rfl, rfl, rfl⟩
        rcases fuel2 with _ | fuel2
        · exact (noneE H).elim
        rw [turnsReadyS_l1] at H
        refine at_seq (x := C8 [1,1,1,1,1,1,0,1,0,0,0]) (y := C8 [1,1,1,1,1,1,0,1,0,0,1]) (by kernel_rfl) ?_
        refine at_seq (x := C8 [1,1,1,1,1,1,0,1,0,0,0,0]) (y := C8 [1,1,1,1,1,1,0,1,0,0,0,1]) (by kernel_rfl) ?_
        refine at_region (id := 14) 2 (by kernel_rfl) (by kernel_rfl) ?_
        refine s_pure 46 (.int .i64 v1_7) (by kernel_rfl) (by kernel_rfl) (fun _ => by kernel_rfl) ?_
        refine s_pure 47 (.bool (decide (v1_7 < (6 : Int)))) (by kernel_rfl) (by kernel_rfl) (fun _ => by kernel_rfl) ?_
        refine ops_end ?_
        refine At.env [(3, .pointer (some ⟨b1_0, 0, none⟩)), (4, .map (some m4_0)), (7, .int .i64 v1_7), (47, .bool (decide (v1_7 < (6 : Int))))] ⟨by kernel_rfl, by kernel_rfl, by kernel_rfl, by kernel_rfl, trivial⟩ ?_
        refine at_then_normal ?_
        rcases Bool.eq_false_or_eq_true (decide (v1_7 < (6 : Int))) with h4 | h4
        · replace H := bifT H h4
          refine at_true (t := decide (v1_7 < (6 : Int))) (x := C8 [1,1,1,1,1,1,0,1,0,0,0,1,0]) (y := C8 [1,1,1,1,1,1,0,1,0,0,0,1,1]) (o := .tmp 47) (by kernel_rfl) (by kernel_rfl) (by kernel_rfl) h4 ?_
          refine at_skip (by kernel_rfl) ?_
          refine at_then_normal ?_
          refine at_seq (x := C8 [1,1,1,1,1,1,0,1,0,0,1,0]) (y := C8 [1,1,1,1,1,1,0,1,0,0,1,1]) (by kernel_rfl) ?_
          refine at_block (i := 3) (x := C8 [1,1,1,1,1,1,0,1,0,0,1,0,0]) (by kernel_rfl) ?_
          refine at_seq (x := C8 [1,1,1,1,1,1,0,1,0,0,1,0,0,0]) (y := C8 [1,1,1,1,1,1,0,1,0,0,1,0,0,1]) (by kernel_rfl) ?_
          refine at_region (id := 16) 13 (by kernel_rfl) (by kernel_rfl) ?_
          refine s_pure 50 (.map (some m4_0)) (by kernel_rfl) (by kernel_rfl) (fun _ => by kernel_rfl) ?_
          refine s_pure 51 (.int .i64 v1_7) (by kernel_rfl) (by kernel_rfl) (fun _ => by kernel_rfl) ?_
          obtain ⟨y16_2, hy16_2, H⟩ := letE H
          refine s_load 52 (.int .i64 (y16_2.getD 0)) (by kernel_rfl) (by kernel_rfl) (imap_lookup1 (t := 58) (Kt := 3) (V := 3) (ik := .i64) (k := v1_7) (info := tinfo 3) hy16_2 (fun _ => by kernel_rfl) (by kernel_rfl) (by kernel_rfl) (by kernel_rfl) (by kernel_rfl) (.there .here)) ?_
          refine s_pure 53 (.bool (decide ((0 : Int) < (y16_2.getD 0)))) (by kernel_rfl) (by kernel_rfl) (fun _ => by kernel_rfl) ?_
          rcases Bool.eq_false_or_eq_true (decide ((0 : Int) < (y16_2.getD 0))) with h5 | h5
          · replace H := bifT H h5
            refine s_pure 54 (.bool true) (by kernel_rfl) (by kernel_rfl) (run_eq (v := .bool (decide ((0 : Int) < (y16_2.getD 0)))) (fun _ => by kernel_rfl) (congrArg Value.bool h5)) ?_
            refine s_pure 55 (.pointer (some ⟨b1_0, 0, none⟩)) (by kernel_rfl) (by kernel_rfl) (fun _ => by kernel_rfl) ?_
            refine s_pure 56 (.int .i64 v1_7) (by kernel_rfl) (by kernel_rfl) (fun _ => by kernel_rfl) ?_
            refine s_pure 57 (.pointer (some ⟨b1_0, 0, none⟩)) (by kernel_rfl) (by kernel_rfl) (fun _ => by kernel_rfl) ?_
            refine s_pure 58 (.int .i64 v1_7) (by kernel_rfl) (by kernel_rfl) (fun _ => by kernel_rfl) ?_
            obtain ⟨y16_9, hy16_9, H⟩ := bindE H
            refine s_call 59 17 #[.pointer (some ⟨b1_0, 0, none⟩), .int .i64 v1_7] (by kernel_rfl) (by kernel_rfl) (fun _ => by kernel_rfl) (TOwnerF_tr b1_0 v1_b1_0 v1_7 y16_9 hy16_9) ?_
            rintro _ _ ⟨rfl, rfl⟩
            obtain ⟨y16_10, hy16_10, H⟩ := bindE H
            refine s_call 60 15 #[.pointer (some ⟨b1_0, 0, none⟩), .int .i64 v1_7, .int .i64 y16_9] (by kernel_rfl) (by kernel_rfl) (fun _ => by kernel_rfl) (TReleaseF_tr b1_0 v1_b1_0 v1_7 y16_9 y16_10 hy16_10) ?_
            rintro _ _ ⟨rfl, rfl⟩
            refine s_pure 61 (.bool (!(decide (y16_10.1 = (0 : Int))))) (by kernel_rfl) (by kernel_rfl) (fun _ => by kernel_rfl) ?_
            refine s_pure 62 (.bool (!(decide (y16_10.1 = (0 : Int))))) (by kernel_rfl) (by kernel_rfl) (fun _ => by kernel_rfl) ?_
            refine ops_end ?_
            refine At.env [(3, .pointer (some ⟨b1_0, 0, none⟩)), (4, .map (some m4_0)), (7, .int .i64 v1_7), (62, .bool (!(decide (y16_10.1 = (0 : Int)))))] ⟨by kernel_rfl, by kernel_rfl, by kernel_rfl, by kernel_rfl, trivial⟩ ?_
            refine at_then_normal ?_
            rcases Bool.eq_false_or_eq_true (!(decide (y16_10.1 = (0 : Int)))) with h6 | h6
            · replace H := bifT H h6
              refine at_true (t := !(decide (y16_10.1 = (0 : Int)))) (x := C8 [1,1,1,1,1,1,0,1,0,0,1,0,0,1,0]) (y := C8 [1,1,1,1,1,1,0,1,0,0,1,0,0,1,1]) (o := .tmp 62) (by kernel_rfl) (by kernel_rfl) (by kernel_rfl) h6 ?_
              refine at_seq (x := C8 [1,1,1,1,1,1,0,1,0,0,1,0,0,1,0,0]) (y := C8 [1,1,1,1,1,1,0,1,0,0,1,0,0,1,0,1]) (by kernel_rfl) ?_
              refine at_region (id := 17) 1 (by kernel_rfl) (by kernel_rfl) ?_
              refine s_pure 2 (.bool false) (by kernel_rfl) (by kernel_rfl) (fun _ => by kernel_rfl) ?_
              refine ops_end ?_
              refine At.env [(2, .bool false)] ⟨by kernel_rfl, trivial⟩ ?_
              refine at_then_normal ?_
              refine at_ret (by kernel_rfl) ?_
              refine at_in_ret ?_
              refine at_then_ret ?_
              refine at_then_ret ?_
              refine at_in_ret ?_
              refine at_then_ret ?_
              obtain rfl := someE H
              refine at_backR [.bool false] (Γ) (rs := [.tmp 2]) (by kernel_rfl) (.cons (.tmp (by kernel_rfl)) .nil) (fun w hw => (Sat.less (.drop .here (.drop .here .refl)) hw)) ?_
              exact ⟨rfl, rfl⟩
            · replace H := bifF H h6
              refine at_false (t := !(decide (y16_10.1 = (0 : Int)))) (x := C8 [1,1,1,1,1,1,0,1,0,0,1,0,0,1,0]) (y := C8 [1,1,1,1,1,1,0,1,0,0,1,0,0,1,1]) (o := .tmp 62) (by kernel_rfl) (by kernel_rfl) (by kernel_rfl) h6 ?_
              refine at_skip (by kernel_rfl) ?_
              refine at_in_normal ?_
              refine at_then_normal ?_
              refine at_region (id := 15) 3 (by kernel_rfl) (by kernel_rfl) ?_
              refine s_pure 48 (.int .i64 v1_7) (by kernel_rfl) (by kernel_rfl) (fun _ => by kernel_rfl) ?_
              obtain ⟨hc15_1_0, H⟩ := chkE H
              refine s_pure 49 (.int .i64 (v1_7 + (1 : Int))) (by kernel_rfl) (by kernel_rfl) (run_eq (v := .int .i64 (IntKind.i64.wrap (v1_7 + (1 : Int)))) (fun _ => by kernel_rfl) (by rw [inR.wrap hc15_1_0])) ?_
              refine s_pure 7 (.int .i64 (v1_7 + (1 : Int))) (by kernel_rfl) (by kernel_rfl) (fun _ => by kernel_rfl) ?_
              refine ops_end ?_
              refine At.env [(3, .pointer (some ⟨b1_0, 0, none⟩)), (4, .map (some m4_0)), (7, .int .i64 (v1_7 + (1 : Int)))] ⟨by kernel_rfl, by kernel_rfl, by kernel_rfl, trivial⟩ ?_
              refine at_round_normal ?_
              exact at_roundR fuel2 [(3, .pointer (some ⟨b1_0, 0, none⟩)), (4, .map (some m4_0)), (7, .int .i64 (v1_7 + (1 : Int)))] ((TurnsA b1_0 y16_10.2) :: (IMapA m4_0 v0_m4_0) :: Γ) (Nat.lt_succ_self _) ⟨by kernel_rfl, by kernel_rfl, by kernel_rfl, trivial⟩ (fun w hw => (Sat.less (.take .here (.take .here .refl)) hw)) ⟨fuel2, v1_7 + (1 : Int), y16_10.2, H, rfl, rfl, rfl⟩
          · replace H := bifF H h5
            refine s_pure 54 (.bool false) (by kernel_rfl) (by kernel_rfl) (run_eq (v := .bool (decide ((0 : Int) < (y16_2.getD 0)))) (fun _ => by kernel_rfl) (congrArg Value.bool h5)) ?_
            refine s_pass 55 (by kernel_rfl) (by kernel_rfl) ?_
            refine s_pass 56 (by kernel_rfl) (by kernel_rfl) ?_
            refine s_pass 57 (by kernel_rfl) (by kernel_rfl) ?_
            refine s_pass 58 (by kernel_rfl) (by kernel_rfl) ?_
            refine s_pass 59 (by kernel_rfl) (by kernel_rfl) ?_
            refine s_pass 60 (by kernel_rfl) (by kernel_rfl) ?_
            refine s_pass 61 (by kernel_rfl) (by kernel_rfl) ?_
            refine s_pure 62 (.bool false) (by kernel_rfl) (by kernel_rfl) (fun _ => by kernel_rfl) ?_
            refine ops_end ?_
            refine At.env [(3, .pointer (some ⟨b1_0, 0, none⟩)), (4, .map (some m4_0)), (7, .int .i64 v1_7), (62, .bool false)] ⟨by kernel_rfl, by kernel_rfl, by kernel_rfl, by kernel_rfl, trivial⟩ ?_
            refine at_then_normal ?_
            refine at_false (t := false) (x := C8 [1,1,1,1,1,1,0,1,0,0,1,0,0,1,0]) (y := C8 [1,1,1,1,1,1,0,1,0,0,1,0,0,1,1]) (o := .tmp 62) (by kernel_rfl) (by kernel_rfl) (by kernel_rfl) rfl ?_
            refine at_skip (by kernel_rfl) ?_
            refine at_in_normal ?_
            refine at_then_normal ?_
            refine at_region (id := 15) 3 (by kernel_rfl) (by kernel_rfl) ?_
            refine s_pure 48 (.int .i64 v1_7) (by kernel_rfl) (by kernel_rfl) (fun _ => by kernel_rfl) ?_
            obtain ⟨hc15_1_0, H⟩ := chkE H
            refine s_pure 49 (.int .i64 (v1_7 + (1 : Int))) (by kernel_rfl) (by kernel_rfl) (run_eq (v := .int .i64 (IntKind.i64.wrap (v1_7 + (1 : Int)))) (fun _ => by kernel_rfl) (by rw [inR.wrap hc15_1_0])) ?_
            refine s_pure 7 (.int .i64 (v1_7 + (1 : Int))) (by kernel_rfl) (by kernel_rfl) (fun _ => by kernel_rfl) ?_
            refine ops_end ?_
            refine At.env [(3, .pointer (some ⟨b1_0, 0, none⟩)), (4, .map (some m4_0)), (7, .int .i64 (v1_7 + (1 : Int)))] ⟨by kernel_rfl, by kernel_rfl, by kernel_rfl, trivial⟩ ?_
            refine at_round_normal ?_
            exact at_roundR fuel2 [(3, .pointer (some ⟨b1_0, 0, none⟩)), (4, .map (some m4_0)), (7, .int .i64 (v1_7 + (1 : Int)))] ((TurnsA b1_0 v1_b1_0) :: (IMapA m4_0 v0_m4_0) :: Γ) (Nat.lt_succ_self _) ⟨by kernel_rfl, by kernel_rfl, by kernel_rfl, trivial⟩ (fun w hw => (Sat.less (.take .here (.take .here .refl)) hw)) ⟨fuel2, v1_7 + (1 : Int), v1_b1_0, H, rfl, rfl, rfl⟩
        · replace H := bifF H h4
          refine at_false (t := decide (v1_7 < (6 : Int))) (x := C8 [1,1,1,1,1,1,0,1,0,0,0,1,0]) (y := C8 [1,1,1,1,1,1,0,1,0,0,0,1,1]) (o := .tmp 47) (by kernel_rfl) (by kernel_rfl) (by kernel_rfl) h4 ?_
          refine at_exit (i := 2) (by kernel_rfl) ?_
          refine at_then_exit ?_
          refine at_then_exit ?_
          rw [turnsReadyS_k1] at H
          refine At.env [(3, .pointer (some ⟨b1_0, 0, none⟩)), (4, .map (some m4_0)), (7, .int .i64 v1_7)] ⟨by kernel_rfl, by kernel_rfl, by kernel_rfl, trivial⟩ ?_
          refine At.conv (Γ' := (TurnsA b1_0 v1_b1_0) :: (IMapA m4_0 v0_m4_0) :: Γ) (fun w hw => (Sat.less (.take .here (.take .here .refl)) hw)) ?_
          refine at_in_here ?_
          refine at_then_normal ?_
          refine at_seq (x := C8 [1,1,1,1,1,1,1,0]) (y := C8 [1,1,1,1,1,1,1,1]) (by kernel_rfl) ?_
          refine at_region (id := 18) 1 (by kernel_rfl) (by kernel_rfl) ?_
          refine s_pure 8 (.slice none 0 0) (by kernel_rfl) (by kernel_rfl) (fun _ => by kernel_rfl) ?_
          refine ops_end ?_
          refine At.env [(3, .pointer (some ⟨b1_0, 0, none⟩)), (4, .map (some m4_0)), (8, .slice none 0 0)] ⟨by kernel_rfl, by kernel_rfl, by kernel_rfl, trivial⟩ ?_
          refine at_then_normal ?_
          refine at_seq (x := C8 [1,1,1,1,1,1,1,1,0]) (y := C8 [1,1,1,1,1,1,1,1,1]) (by kernel_rfl) ?_
          refine at_seq (x := C8 [1,1,1,1,1,1,1,1,0,0]) (y := C8 [1,1,1,1,1,1,1,1,0,1]) (by kernel_rfl) ?_
          refine at_region (id := 19) 1 (by kernel_rfl) (by kernel_rfl) ?_
          refine s_pure 9 (.int .i64 (0)) (by kernel_rfl) (by kernel_rfl) (fun _ => by kernel_rfl) ?_
          refine ops_end ?_
          refine At.env [(3, .pointer (some ⟨b1_0, 0, none⟩)), (4, .map (some m4_0)), (8, .slice none 0 0), (9, .int .i64 (0))] ⟨by kernel_rfl, by kernel_rfl, by kernel_rfl, by kernel_rfl, trivial⟩ ?_
          refine at_then_normal ?_
          refine at_block (i := 4) (x := C8 [1,1,1,1,1,1,1,1,0,1,0]) (by kernel_rfl) ?_
          refine At.conv (Γ' := (IntsA none 0 ([] : List Int)) :: (TurnsA b1_0 v1_b1_0) :: (IMapA m4_0 v0_m4_0) :: Γ) (fun w hw => (Sat.less (.take .here (.take .here (.take .here .refl))) (RowsA.none_mk (k := 1) (a := none) hw))) ?_
          refine at_loopR (x := C8 [1,1,1,1,1,1,1,1,0,1,0,0]) (fun mm ff ΔΔ => ∃ (fuel : Nat) (v2_8x : List Int) (v2_9 : Int) (v2_8a : Option Addr) (v2_8c : Nat), turnsReadyS_l2 v0_m4_0 (turnsReadyS_k2 v1_b1_0) fuel v2_8x v2_9 = some y ∧ fuel = mm ∧ ff = [(3, .pointer (some ⟨b1_0, 0, none⟩)), (4, .map (some m4_0)), (8, .slice v2_8a (List.length v2_8x) v2_8c), (9, .int .i64 v2_9)] ∧ (IntsA v2_8a v2_8c v2_8x) :: (TurnsA b1_0 v1_b1_0) :: (IMapA m4_0 v0_m4_0) :: Γ = ΔΔ) (64) (by kernel_rfl) [(3, .pointer (some ⟨b1_0, 0, none⟩)), (4, .map (some m4_0)), (8, .slice none (List.length ([] : List Int)) 0), (9, .int .i64 0)] ⟨by kernel_rfl, by kernel_rfl, by kernel_rfl, by kernel_rfl, trivial⟩ ⟨64, ([] : List Int), 0, none, 0, H, rfl, rfl, rfl⟩ ?_
          rintro _ _ _ ⟨fuel3, v2_8x, v2_9, v2_8a, v2_8c, H, rfl, rfl, rfl⟩
          rcases fuel3 with _ | fuel3
          · exact (noneE H).elim
          rw [turnsReadyS_l2] at H
          refine at_seq (x := C8 [1,1,1,1,1,1,1,1,0,1,0,0,0]) (y := C8 [1,1,1,1,1,1,1,1,0,1,0,0,1]) (by kernel_rfl) ?_
          refine at_seq (x := C8 [1,1,1,1,1,1,1,1,0,1,0,0,0,0]) (y := C8 [1,1,1,1,1,1,1,1,0,1,0,0,0,1]) (by kernel_rfl) ?_
          refine at_region (id := 20) 2 (by kernel_rfl) (by kernel_rfl) ?_
          refine s_pure 63 (.int .i64 v2_9) (by kernel_rfl) (by kernel_rfl) (fun _ => by kernel_rfl) ?_
          refine s_pure 64 (.bool (decide (v2_9 < (6 : Int)))) (by kernel_rfl) (by kernel_rfl) (fun _ => by kernel_rfl) ?_
          refine ops_end ?_
          refine At.env [(3, .pointer (some ⟨b1_0, 0, none⟩)), (4, .map (some m4_0)), (8, .slice v2_8a (List.length v2_8x) v2_8c), (9, .int .i64 v2_9), (64, .bool (decide (v2_9 < (6 : Int))))] ⟨by kernel_rfl, by kernel_rfl, by kernel_rfl, by kernel_rfl, by kernel_rfl, trivial⟩ ?_
          refine at_then_normal ?_
          rcases Bool.eq_false_or_eq_true (decide (v2_9 < (6 : Int))) with h7 | h7
          · replace H := bifT H h7
            refine at_true (t := decide (v2_9 < (6 : Int))) (x := C8 [1,1,1,1,1,1,1,1,0,1,0,0,0,1,0]) (y := C8 [1,1,1,1,1,1,1,1,0,1,0,0,0,1,1]) (o := .tmp 64) (by kernel_rfl) (by kernel_rfl) (by kernel_rfl) h7 ?_
            refine at_skip (by kernel_rfl) ?_
            refine at_then_normal ?_
            refine at_seq (x := C8 [1,1,1,1,1,1,1,1,0,1,0,0,1,0]) (y := C8 [1,1,1,1,1,1,1,1,0,1,0,0,1,1]) (by kernel_rfl) ?_
            refine at_block (i := 5) (x := C8 [1,1,1,1,1,1,1,1,0,1,0,0,1,0,0]) (by kernel_rfl) ?_
            refine at_seq (x := C8 [1,1,1,1,1,1,1,1,0,1,0,0,1,0,0,0]) (y := C8 [1,1,1,1,1,1,1,1,0,1,0,0,1,0,0,1]) (by kernel_rfl) ?_
            refine at_region (id := 22) 4 (by kernel_rfl) (by kernel_rfl) ?_
            refine s_pure 67 (.map (some m4_0)) (by kernel_rfl) (by kernel_rfl) (fun _ => by kernel_rfl) ?_
            refine s_pure 68 (.int .i64 v2_9) (by kernel_rfl) (by kernel_rfl) (fun _ => by kernel_rfl) ?_
            obtain ⟨y22_2, hy22_2, H⟩ := letE H
            refine s_load 69 (.int .i64 (y22_2.getD 0)) (by kernel_rfl) (by kernel_rfl) (imap_lookup1 (t := 58) (Kt := 3) (V := 3) (ik := .i64) (k := v2_9) (info := tinfo 3) hy22_2 (fun _ => by kernel_rfl) (by kernel_rfl) (by kernel_rfl) (by kernel_rfl) (by kernel_rfl) (.there (.there .here))) ?_
            refine s_pure 70 (.bool (decide ((1 : Int) < (y22_2.getD 0)))) (by kernel_rfl) (by kernel_rfl) (fun _ => by kernel_rfl) ?_
            refine ops_end ?_
            refine At.env [(3, .pointer (some ⟨b1_0, 0, none⟩)), (4, .map (some m4_0)), (8, .slice v2_8a (List.length v2_8x) v2_8c), (9, .int .i64 v2_9), (70, .bool (decide ((1 : Int) < (y22_2.getD 0))))] ⟨by kernel_rfl, by kernel_rfl, by kernel_rfl, by kernel_rfl, by kernel_rfl, trivial⟩ ?_
            refine at_then_normal ?_
            rcases Bool.eq_false_or_eq_true (decide ((1 : Int) < (y22_2.getD 0))) with h8 | h8
            · replace H := bifT H h8
              refine at_true (t := decide ((1 : Int) < (y22_2.getD 0))) (x := C8 [1,1,1,1,1,1,1,1,0,1,0,0,1,0,0,1,0]) (y := C8 [1,1,1,1,1,1,1,1,0,1,0,0,1,0,0,1,1]) (o := .tmp 70) (by kernel_rfl) (by kernel_rfl) (by kernel_rfl) h8 ?_
              refine at_region (id := 23) 5 (by kernel_rfl) (by kernel_rfl) ?_
              refine s_pure 71 (.slice v2_8a (List.length v2_8x) v2_8c) (by kernel_rfl) (by kernel_rfl) (fun _ => by kernel_rfl) ?_
              refine s_pure 72 (.int .i64 v2_9) (by kernel_rfl) (by kernel_rfl) (fun _ => by kernel_rfl) ?_
              obtain ⟨l23_2, hl23_2, H⟩ := letE H
              refine s_step 73 (by kernel_rfl) (by kernel_rfl) (st_new_ints (T := 3) (xs := l23_2) 1 hl23_2 (fun _ => by kernel_rfl) (by kernel_rfl)) ?_
              rintro _ _ ⟨b23_2, rfl, rfl⟩
              obtain ⟨hc23_3_0, H⟩ := chkE H
              obtain ⟨l23_3, hl23_3, H⟩ := letE H
              refine s_step 74 (by kernel_rfl) (by kernel_rfl) (st_append_ints (xs := v2_8x) (ys := l23_2) (zs := l23_3) (m1 := (List.length v2_8x)) (m2 := (List.length l23_2)) (m := List.length l23_3) (cap2 := 1) 22 22 3 (tinfo 3) (fun _ => by kernel_rfl) (by kernel_rfl) (by kernel_rfl) (by kernel_rfl) (by kernel_rfl) (by kernel_rfl) (.there .here) (RowsA.reads (k := 1) .here) (by first | rfl | simp) (by first | rfl | simp) (by rw [← hl23_3]; first | done | simp) (by rw [← hl23_3]; first | done | simp) (by rw [← hl23_3]; exact hc23_3_0)) ?_
              rintro _ _ ⟨a23_3, c23_3, rfl, rfl⟩
              refine s_pure 8 (.slice a23_3 (List.length l23_3) c23_3) (by kernel_rfl) (by kernel_rfl) (fun _ => by kernel_rfl) ?_
              refine ops_end ?_
              refine At.env [(3, .pointer (some ⟨b1_0, 0, none⟩)), (4, .map (some m4_0)), (8, .slice a23_3 (List.length l23_3) c23_3), (9, .int .i64 v2_9)] ⟨by kernel_rfl, by kernel_rfl, by kernel_rfl, by kernel_rfl, trivial⟩ ?_
              refine at_in_normal ?_
              refine at_then_normal ?_
              refine at_region (id := 21) 3 (by kernel_rfl) (by kernel_rfl) ?_
              refine s_pure 65 (.int .i64 v2_9) (by kernel_rfl) (by kernel_rfl) (fun _ => by kernel_rfl) ?_
              obtain ⟨hc21_1_0, H⟩ := chkE H
              refine s_pure 66 (.int .i64 (v2_9 + (1 : Int))) (by kernel_rfl) (by kernel_rfl) (run_eq (v := .int .i64 (IntKind.i64.wrap (v2_9 + (1 : Int)))) (fun _ => by kernel_rfl) (by rw [inR.wrap hc21_1_0])) ?_
              refine s_pure 9 (.int .i64 (v2_9 + (1 : Int))) (by kernel_rfl) (by kernel_rfl) (fun _ => by kernel_rfl) ?_
              refine ops_end ?_
              refine At.env [(3, .pointer (some ⟨b1_0, 0, none⟩)), (4, .map (some m4_0)), (8, .slice a23_3 (List.length l23_3) c23_3), (9, .int .i64 (v2_9 + (1 : Int)))] ⟨by kernel_rfl, by kernel_rfl, by kernel_rfl, by kernel_rfl, trivial⟩ ?_
              refine at_round_normal ?_
              exact at_roundR fuel3 [(3, .pointer (some ⟨b1_0, 0, none⟩)), (4, .map (some m4_0)), (8, .slice a23_3 (List.length l23_3) c23_3), (9, .int .i64 (v2_9 + (1 : Int)))] ((IntsA a23_3 c23_3 l23_3) :: (TurnsA b1_0 v1_b1_0) :: (IMapA m4_0 v0_m4_0) :: Γ) (Nat.lt_succ_self _) ⟨by kernel_rfl, by kernel_rfl, by kernel_rfl, by kernel_rfl, trivial⟩ (fun w hw => (Sat.less (.take .here (.take (.there .here) (.take (.there .here) (.drop .here .refl)))) hw)) ⟨fuel3, l23_3, v2_9 + (1 : Int), a23_3, c23_3, H, rfl, rfl, rfl⟩
            · replace H := bifF H h8
              refine at_false (t := decide ((1 : Int) < (y22_2.getD 0))) (x := C8 [1,1,1,1,1,1,1,1,0,1,0,0,1,0,0,1,0]) (y := C8 [1,1,1,1,1,1,1,1,0,1,0,0,1,0,0,1,1]) (o := .tmp 70) (by kernel_rfl) (by kernel_rfl) (by kernel_rfl) h8 ?_
              refine at_skip (by kernel_rfl) ?_
              refine at_in_normal ?_
              refine at_then_normal ?_
              refine at_region (id := 21) 3 (by kernel_rfl) (by kernel_rfl) ?_
              refine s_pure 65 (.int .i64 v2_9) (by kernel_rfl) (by kernel_rfl) (fun _ => by kernel_rfl) ?_
              obtain ⟨hc21_1_0, H⟩ := chkE H
              refine s_pure 66 (.int .i64 (v2_9 + (1 : Int))) (by kernel_rfl) (by kernel_rfl) (run_eq (v := .int .i64 (IntKind.i64.wrap (v2_9 + (1 : Int)))) (fun _ => by kernel_rfl) (by rw [inR.wrap hc21_1_0])) ?_
              refine s_pure 9 (.int .i64 (v2_9 + (1 : Int))) (by kernel_rfl) (by kernel_rfl) (fun _ => by kernel_rfl) ?_
              refine ops_end ?_
              refine At.env [(3, .pointer (some ⟨b1_0, 0, none⟩)), (4, .map (some m4_0)), (8, .slice v2_8a (List.length v2_8x) v2_8c), (9, .int .i64 (v2_9 + (1 : Int)))] ⟨by kernel_rfl, by kernel_rfl, by kernel_rfl, by kernel_rfl, trivial⟩ ?_
              refine at_round_normal ?_
              exact at_roundR fuel3 [(3, .pointer (some ⟨b1_0, 0, none⟩)), (4, .map (some m4_0)), (8, .slice v2_8a (List.length v2_8x) v2_8c), (9, .int .i64 (v2_9 + (1 : Int)))] ((IntsA v2_8a v2_8c v2_8x) :: (TurnsA b1_0 v1_b1_0) :: (IMapA m4_0 v0_m4_0) :: Γ) (Nat.lt_succ_self _) ⟨by kernel_rfl, by kernel_rfl, by kernel_rfl, by kernel_rfl, trivial⟩ (fun w hw => (Sat.less (.take .here (.take .here (.take .here .refl))) hw)) ⟨fuel3, v2_8x, v2_9 + (1 : Int), v2_8a, v2_8c, H, rfl, rfl, rfl⟩
          · replace H := bifF H h7
            refine at_false (t := decide (v2_9 < (6 : Int))) (x := C8 [1,1,1,1,1,1,1,1,0,1,0,0,0,1,0]) (y := C8 [1,1,1,1,1,1,1,1,0,1,0,0,0,1,1]) (o := .tmp 64) (by kernel_rfl) (by kernel_rfl) (by kernel_rfl) h7 ?_
            refine at_exit (i := 4) (by kernel_rfl) ?_
            refine at_then_exit ?_
            refine at_then_exit ?_
            rw [turnsReadyS_k2] at H
            refine At.env [(3, .pointer (some ⟨b1_0, 0, none⟩)), (4, .map (some m4_0)), (8, .slice v2_8a (List.length v2_8x) v2_8c), (9, .int .i64 v2_9)] ⟨by kernel_rfl, by kernel_rfl, by kernel_rfl, by kernel_rfl, trivial⟩ ?_
            refine At.conv (Γ' := (IntsA v2_8a v2_8c v2_8x) :: (TurnsA b1_0 v1_b1_0) :: (IMapA m4_0 v0_m4_0) :: Γ) (fun w hw => (Sat.less (.take .here (.take .here (.take .here .refl))) hw)) ?_
            refine at_in_here ?_
            refine at_then_normal ?_
            refine at_seq (x := C8 [1,1,1,1,1,1,1,1,1,0]) (y := C8 [1,1,1,1,1,1,1,1,1,1]) (by kernel_rfl) ?_
            refine at_seq (x := C8 [1,1,1,1,1,1,1,1,1,0,0]) (y := C8 [1,1,1,1,1,1,1,1,1,0,1]) (by kernel_rfl) ?_
            refine at_region (id := 24) 5 (by kernel_rfl) (by kernel_rfl) ?_
            refine s_pure 75 (.pointer (some ⟨b1_0, 0, none⟩)) (by kernel_rfl) (by kernel_rfl) (fun _ => by kernel_rfl) ?_
            obtain ⟨y24_1, hy24_1, H⟩ := bindE H
            refine s_call 76 33 #[.pointer (some ⟨b1_0, 0, none⟩)] (by kernel_rfl) (by kernel_rfl) (fun _ => by kernel_rfl) (Tr.conv (Γ' := (TurnsA b1_0 v1_b1_0) :: (IntsA v2_8a v2_8c v2_8x) :: (IMapA m4_0 v0_m4_0) :: Γ) (fun w hw => (Sat.less (.take (.there .here) (.take .here (.take .here .refl))) hw)) (TReadyF_tr b1_0 v1_b1_0 y24_1 hy24_1)) ?_
            rintro _ _ ⟨a24_1_00, c24_1_00, rfl, rfl⟩
            refine s_pure 77 (.slice v2_8a (List.length v2_8x) v2_8c) (by kernel_rfl) (by kernel_rfl) (fun _ => by kernel_rfl) ?_
            obtain ⟨y24_3, hy24_3, H⟩ := bindE H
            refine s_call 78 34 #[.slice a24_1_00 (List.length y24_1) c24_1_00, .slice v2_8a (List.length v2_8x) v2_8c] (by kernel_rfl) (by kernel_rfl) (fun _ => by kernel_rfl) (KSameF_tr a24_1_00 c24_1_00 y24_1 v2_8a v2_8c v2_8x (RowsA.reads (k := 1) .here) (RowsA.reads (k := 1) (.there (.there .here))) y24_3 hy24_3) ?_
            rintro _ _ ⟨rfl, rfl⟩
            refine s_pure 79 (.bool !y24_3) (by kernel_rfl) (by kernel_rfl) (fun _ => by kernel_rfl) ?_
            refine ops_end ?_
            refine At.env [(3, .pointer (some ⟨b1_0, 0, none⟩)), (8, .slice v2_8a (List.length v2_8x) v2_8c), (79, .bool !y24_3)] ⟨by kernel_rfl, by kernel_rfl, by kernel_rfl, trivial⟩ ?_
            refine at_then_normal ?_
            rcases Bool.eq_false_or_eq_true (!y24_3) with h9 | h9
            · replace H := bifT H h9
              refine at_true (t := !y24_3) (x := C8 [1,1,1,1,1,1,1,1,1,0,1,0]) (y := C8 [1,1,1,1,1,1,1,1,1,0,1,1]) (o := .tmp 79) (by kernel_rfl) (by kernel_rfl) (by kernel_rfl) h9 ?_
              refine at_seq (x := C8 [1,1,1,1,1,1,1,1,1,0,1,0,0]) (y := C8 [1,1,1,1,1,1,1,1,1,0,1,0,1]) (by kernel_rfl) ?_
              refine at_region (id := 25) 1 (by kernel_rfl) (by kernel_rfl) ?_
              refine s_pure 2 (.bool false) (by kernel_rfl) (by kernel_rfl) (fun _ => by kernel_rfl) ?_
              refine ops_end ?_
              refine At.env [(2, .bool false)] ⟨by kernel_rfl, trivial⟩ ?_
              refine at_then_normal ?_
              refine at_ret (by kernel_rfl) ?_
              refine at_then_ret ?_
              obtain rfl := someE H
              refine at_backR [.bool false] (Γ) (rs := [.tmp 2]) (by kernel_rfl) (.cons (.tmp (by kernel_rfl)) .nil) (fun w hw => (Sat.less (.drop .here (.drop .here (.drop .here (.drop .here .refl)))) hw)) ?_
              exact ⟨rfl, rfl⟩
            · replace H := bifF H h9
              refine at_false (t := !y24_3) (x := C8 [1,1,1,1,1,1,1,1,1,0,1,0]) (y := C8 [1,1,1,1,1,1,1,1,1,0,1,1]) (o := .tmp 79) (by kernel_rfl) (by kernel_rfl) (by kernel_rfl) h9 ?_
              refine at_skip (by kernel_rfl) ?_
              refine at_then_normal ?_
              refine at_seq (x := C8 [1,1,1,1,1,1,1,1,1,1,0]) (y := C8 [1,1,1,1,1,1,1,1,1,1,1]) (by kernel_rfl) ?_
              refine at_block (i := 6) (x := C8 [1,1,1,1,1,1,1,1,1,1,0,0]) (by kernel_rfl) ?_
              refine At.conv (Γ' := (IntsA v2_8a v2_8c v2_8x) :: (TurnsA b1_0 v1_b1_0) :: (IMapA m4_0 v0_m4_0) :: Γ) (fun w hw => (Sat.less (.take (.there (.there .here)) (.take (.there .here) (.take (.there .here) (.drop .here .refl)))) hw)) ?_
              refine at_loopR (x := C8 [1,1,1,1,1,1,1,1,1,1,0,0,0]) (fun mm ff ΔΔ => ∃ (fuel : Nat) (v3_8x : List Int) (v3_b1_0 : TurnsS) (v3_8a : Option Addr) (v3_8c : Nat), turnsReadyS_l3 (turnsReadyS_k3 ) fuel v3_8x v3_b1_0 = some y ∧ fuel = mm ∧ ff = [(3, .pointer (some ⟨b1_0, 0, none⟩)), (8, .slice v3_8a (List.length v3_8x) v3_8c)] ∧ (IntsA v3_8a v3_8c v3_8x) :: (TurnsA b1_0 v3_b1_0) :: (IMapA m4_0 v0_m4_0) :: Γ = ΔΔ) (64) (by kernel_rfl) [(3, .pointer (some ⟨b1_0, 0, none⟩)), (8, .slice v2_8a (List.length v2_8x) v2_8c)] ⟨by kernel_rfl, by kernel_rfl, trivial⟩ ⟨64, v2_8x, v1_b1_0, v2_8a, v2_8c, H, rfl, rfl, rfl⟩ ?_
              rintro _ _ _ ⟨fuel4, v3_8x, v3_b1_0, v3_8a, v3_8c, H, rfl, rfl, rfl⟩
              rcases fuel4 with _ | fuel4
              · exact (noneE H).elim
              rw [turnsReadyS_l3] at H
              refine at_seq (x := C8 [1,1,1,1,1,1,1,1,1,1,0,0,0,0]) (y := C8 [1,1,1,1,1,1,1,1,1,1,0,0,0,1]) (by kernel_rfl) ?_
              refine at_seq (x := C8 [1,1,1,1,1,1,1,1,1,1,0,0,0,0,0]) (y := C8 [1,1,1,1,1,1,1,1,1,1,0,0,0,0,1]) (by kernel_rfl) ?_
              refine at_region (id := 26) 3 (by kernel_rfl) (by kernel_rfl) ?_
              refine s_pure 80 (.slice v3_8a (List.length v3_8x) v3_8c) (by kernel_rfl) (by kernel_rfl) (fun _ => by kernel_rfl) ?_
              refine s_pure 81 (.int .i64 (((List.length v3_8x) : Nat) : Int)) (by kernel_rfl) (by kernel_rfl) (fun _ => by kernel_rfl) ?_
              refine s_pure 82 (.bool (decide ((0 : Int) < (((List.length v3_8x) : Nat) : Int)))) (by kernel_rfl) (by kernel_rfl) (fun _ => by kernel_rfl) ?_
              refine ops_end ?_
              refine At.env [(3, .pointer (some ⟨b1_0, 0, none⟩)), (8, .slice v3_8a (List.length v3_8x) v3_8c), (82, .bool (decide ((0 : Int) < (((List.length v3_8x) : Nat) : Int))))] ⟨by kernel_rfl, by kernel_rfl, by kernel_rfl, trivial⟩ ?_
              refine at_then_normal ?_
              rcases Bool.eq_false_or_eq_true (decide ((0 : Int) < (((List.length v3_8x) : Nat) : Int))) with h10 | h10
              · replace H := bifT H h10
                refine at_true (t := decide ((0 : Int) < (((List.length v3_8x) : Nat) : Int))) (x := C8 [1,1,1,1,1,1,1,1,1,1,0,0,0,0,1,0]) (y := C8 [1,1,1,1,1,1,1,1,1,1,0,0,0,0,1,1]) (o := .tmp 82) (by kernel_rfl) (by kernel_rfl) (by kernel_rfl) h10 ?_
                refine at_skip (by kernel_rfl) ?_
                refine at_then_normal ?_
                refine at_block (i := 7) (x := C8 [1,1,1,1,1,1,1,1,1,1,0,0,0,1,0]) (by kernel_rfl) ?_
                refine at_seq (x := C8 [1,1,1,1,1,1,1,1,1,1,0,0,0,1,0,0]) (y := C8 [1,1,1,1,1,1,1,1,1,1,0,0,0,1,0,1]) (by kernel_rfl) ?_
                refine at_seq (x := C8 [1,1,1,1,1,1,1,1,1,1,0,0,0,1,0,0,0]) (y := C8 [1,1,1,1,1,1,1,1,1,1,0,0,0,1,0,0,1]) (by kernel_rfl) ?_
                refine at_region (id := 27) 12 (by kernel_rfl) (by kernel_rfl) ?_
                refine s_pure 84 (.pointer (some ⟨b1_0, 0, none⟩)) (by kernel_rfl) (by kernel_rfl) (fun _ => by kernel_rfl) ?_
                refine s_pure 85 (.slice v3_8a (List.length v3_8x) v3_8c) (by kernel_rfl) (by kernel_rfl) (fun _ => by kernel_rfl) ?_
                obtain ⟨hc27_2_0, H⟩ := chkE H
                refine rows_at .here (by have := hc27_2_0; simp only [ints_length]; omega) ?_
                intro bb2 oo2 ha2
                refine s_pure 86 (.pointer (some ⟨bb2, oo2 + (((0 : Int)).toNat * 1 + 0), none⟩)) (by kernel_rfl) (by kernel_rfl) (index_at (t := 22) (sz := 1) (E := 3) (a := v3_8a) (m := (List.length v3_8x)) (c := v3_8c) (b := bb2) (off := oo2) (i := ((0 : Int)).toNat) (tinfo 3) (fun _ => by kernel_rfl) (by kernel_rfl) (by kernel_rfl) (by kernel_rfl) ha2 (idx_cast hc27_2_0) (idx_nat hc27_2_0) rfl) ?_
                refine s_load 87 (.int .i64 (nth v3_8x (0 : Int))) (by kernel_rfl) (by kernel_rfl) (load1_at (off := oo2 + (((0 : Int)).toNat * 1 + 0)) (v := .int .i64 (nth v3_8x (0 : Int))) (fun _ => by kernel_rfl) rfl (reads_cell (k := 1) (RowsA.reads (k := 1) .here) (ints_rows _) ha2 (nth_row hc27_2_0) (show [(.int .i64 (nth v3_8x (0 : Int)) : Value)][0]? = some _ from rfl))) ?_
                obtain ⟨y27_4, hy27_4, H⟩ := bindE H
                refine s_call 88 16 #[.pointer (some ⟨b1_0, 0, none⟩), .int .i64 (nth v3_8x (0 : Int))] (by kernel_rfl) (by kernel_rfl) (fun _ => by kernel_rfl) (Tr.conv (Γ' := (TurnsA b1_0 v3_b1_0) :: (IntsA v3_8a v3_8c v3_8x) :: (IMapA m4_0 v0_m4_0) :: Γ) (fun w hw => (Sat.less (.take (.there .here) (.take .here (.take .here .refl))) hw)) (TNextF_tr b1_0 v3_b1_0 (nth v3_8x (0 : Int)) y27_4 hy27_4)) ?_
                rintro _ _ ⟨rfl, rfl⟩
                refine s_pure 83 (.tuple #[.int .i64 y27_4.1, .int .i64 y27_4.2.1, .bool y27_4.2.2.1]) (by kernel_rfl) (by kernel_rfl) (fun _ => by kernel_rfl) ?_
                refine s_pure 89 (.int .i64 y27_4.1) (by kernel_rfl) (by kernel_rfl) (fun _ => by kernel_rfl) ?_
                refine s_pure 90 (.int .i64 y27_4.2.1) (by kernel_rfl) (by kernel_rfl) (fun _ => by kernel_rfl) ?_
                refine s_pure 91 (.bool y27_4.2.2.1) (by kernel_rfl) (by kernel_rfl) (fun _ => by kernel_rfl) ?_
                refine s_pure 10 (.int .i64 y27_4.1) (by kernel_rfl) (by kernel_rfl) (fun _ => by kernel_rfl) ?_
                refine s_pure 11 (.int .i64 y27_4.2.1) (by kernel_rfl) (by kernel_rfl) (fun _ => by kernel_rfl) ?_
                refine s_pure 12 (.bool y27_4.2.2.1) (by kernel_rfl) (by kernel_rfl) (fun _ => by kernel_rfl) ?_
                refine ops_end ?_
                refine At.env [(3, .pointer (some ⟨b1_0, 0, none⟩)), (8, .slice v3_8a (List.length v3_8x) v3_8c), (12, .bool y27_4.2.2.1)] ⟨by kernel_rfl, by kernel_rfl, by kernel_rfl, trivial⟩ ?_
                refine at_then_normal ?_
                refine at_seq (x := C8 [1,1,1,1,1,1,1,1,1,1,0,0,0,1,0,0,1,0]) (y := C8 [1,1,1,1,1,1,1,1,1,1,0,0,0,1,0,0,1,1]) (by kernel_rfl) ?_
                refine at_region (id := 28) 10 (by kernel_rfl) (by kernel_rfl) ?_
                refine s_pure 92 (.bool y27_4.2.2.1) (by kernel_rfl) (by kernel_rfl) (fun _ => by kernel_rfl) ?_
                refine s_pure 93 (.bool !y27_4.2.2.1) (by kernel_rfl) (by kernel_rfl) (fun _ => by kernel_rfl) ?_
                rcases Bool.eq_false_or_eq_true (!y27_4.2.2.1) with h11 | h11
                · replace H := bifT H h11
                  refine s_pure 94 (.bool true) (by kernel_rfl) (by kernel_rfl) (run_eq (v := .bool (!y27_4.2.2.1)) (fun _ => by kernel_rfl) (congrArg Value.bool h11)) ?_
                  refine s_pass 95 (by kernel_rfl) (by kernel_rfl) ?_
                  refine s_pass 96 (by kernel_rfl) (by kernel_rfl) ?_
                  refine s_pass 97 (by kernel_rfl) (by kernel_rfl) ?_
                  refine s_pass 98 (by kernel_rfl) (by kernel_rfl) ?_
                  refine s_pass 99 (by kernel_rfl) (by kernel_rfl) ?_
                  refine s_pass 100 (by kernel_rfl) (by kernel_rfl) ?_
                  refine s_pure 101 (.bool true) (by kernel_rfl) (by kernel_rfl) (fun _ => by kernel_rfl) ?_
                  refine ops_end ?_
                  refine At.env [(3, .pointer (some ⟨b1_0, 0, none⟩)), (8, .slice v3_8a (List.length v3_8x) v3_8c), (101, .bool true)] ⟨by kernel_rfl, by kernel_rfl, by kernel_rfl, trivial⟩ ?_
                  refine at_then_normal ?_
                  refine at_true (t := true) (x := C8 [1,1,1,1,1,1,1,1,1,1,0,0,0,1,0,0,1,1,0]) (y := C8 [1,1,1,1,1,1,1,1,1,1,0,0,0,1,0,0,1,1,1]) (o := .tmp 101) (by kernel_rfl) (by kernel_rfl) (by kernel_rfl) rfl ?_
                  refine at_seq (x := C8 [1,1,1,1,1,1,1,1,1,1,0,0,0,1,0,0,1,1,0,0]) (y := C8 [1,1,1,1,1,1,1,1,1,1,0,0,0,1,0,0,1,1,0,1]) (by kernel_rfl) ?_
                  refine at_region (id := 29) 1 (by kernel_rfl) (by kernel_rfl) ?_
                  refine s_pure 2 (.bool false) (by kernel_rfl) (by kernel_rfl) (fun _ => by kernel_rfl) ?_
                  refine ops_end ?_
                  refine At.env [(2, .bool false)] ⟨by kernel_rfl, trivial⟩ ?_
                  refine at_then_normal ?_
                  refine at_ret (by kernel_rfl) ?_
                  refine at_then_ret ?_
                  refine at_in_ret ?_
                  refine at_then_ret ?_
                  refine at_in_ret ?_
                  refine at_then_ret ?_
                  obtain rfl := someE H
                  refine at_backR [.bool false] (Γ) (rs := [.tmp 2]) (by kernel_rfl) (.cons (.tmp (by kernel_rfl)) .nil) (fun w hw => (Sat.less (.drop .here (.drop .here (.drop .here .refl))) hw)) ?_
                  exact ⟨rfl, rfl⟩
                · replace H := bifF H h11
                  refine s_pure 94 (.bool false) (by kernel_rfl) (by kernel_rfl) (run_eq (v := .bool (!y27_4.2.2.1)) (fun _ => by kernel_rfl) (congrArg Value.bool h11)) ?_
                  refine s_pure 95 (.pointer (some ⟨b1_0, 0, none⟩)) (by kernel_rfl) (by kernel_rfl) (fun _ => by kernel_rfl) ?_
                  refine s_pure 96 (.slice v3_8a (List.length v3_8x) v3_8c) (by kernel_rfl) (by kernel_rfl) (fun _ => by kernel_rfl) ?_
                  obtain ⟨hc28_5_0, H⟩ := chkE H
                  refine rows_at (.there .here) (by have := hc28_5_0; simp only [ints_length]; omega) ?_
                  intro bb3 oo3 ha3
                  refine s_pure 97 (.pointer (some ⟨bb3, oo3 + (((0 : Int)).toNat * 1 + 0), none⟩)) (by kernel_rfl) (by kernel_rfl) (index_at (t := 22) (sz := 1) (E := 3) (a := v3_8a) (m := (List.length v3_8x)) (c := v3_8c) (b := bb3) (off := oo3) (i := ((0 : Int)).toNat) (tinfo 3) (fun _ => by kernel_rfl) (by kernel_rfl) (by kernel_rfl) (by kernel_rfl) ha3 (idx_cast hc28_5_0) (idx_nat hc28_5_0) rfl) ?_
                  refine s_load 98 (.int .i64 (nth v3_8x (0 : Int))) (by kernel_rfl) (by kernel_rfl) (load1_at (off := oo3 + (((0 : Int)).toNat * 1 + 0)) (v := .int .i64 (nth v3_8x (0 : Int))) (fun _ => by kernel_rfl) rfl (reads_cell (k := 1) (RowsA.reads (k := 1) (.there .here)) (ints_rows _) ha3 (nth_row hc28_5_0) (show [(.int .i64 (nth v3_8x (0 : Int)) : Value)][0]? = some _ from rfl))) ?_
                  obtain ⟨y28_7, hy28_7, H⟩ := bindE H
                  refine s_call 99 17 #[.pointer (some ⟨b1_0, 0, none⟩), .int .i64 (nth v3_8x (0 : Int))] (by kernel_rfl) (by kernel_rfl) (fun _ => by kernel_rfl) (TOwnerF_tr b1_0 y27_4.2.2.2 (nth v3_8x (0 : Int)) y28_7 hy28_7) ?_
                  rintro _ _ ⟨rfl, rfl⟩
                  refine s_pure 100 (.bool (decide (y28_7 = ((-1) : Int)))) (by kernel_rfl) (by kernel_rfl) (fun _ => by kernel_rfl) ?_
                  refine s_pure 101 (.bool (decide (y28_7 = ((-1) : Int)))) (by kernel_rfl) (by kernel_rfl) (fun _ => by kernel_rfl) ?_
                  refine ops_end ?_
                  refine At.env [(3, .pointer (some ⟨b1_0, 0, none⟩)), (8, .slice v3_8a (List.length v3_8x) v3_8c), (101, .bool (decide (y28_7 = ((-1) : Int))))] ⟨by kernel_rfl, by kernel_rfl, by kernel_rfl, trivial⟩ ?_
                  refine at_then_normal ?_
                  rcases Bool.eq_false_or_eq_true (decide (y28_7 = ((-1) : Int))) with h12 | h12
                  · replace H := bifT H h12
                    refine at_true (t := decide (y28_7 = ((-1) : Int))) (x := C8 [1,1,1,1,1,1,1,1,1,1,0,0,0,1,0,0,1,1,0]) (y := C8 [1,1,1,1,1,1,1,1,1,1,0,0,0,1,0,0,1,1,1]) (o := .tmp 101) (by kernel_rfl) (by kernel_rfl) (by kernel_rfl) h12 ?_
                    refine at_seq (x := C8 [1,1,1,1,1,1,1,1,1,1,0,0,0,1,0,0,1,1,0,0]) (y := C8 [1,1,1,1,1,1,1,1,1,1,0,0,0,1,0,0,1,1,0,1]) (by kernel_rfl) ?_
                    refine at_region (id := 29) 1 (by kernel_rfl) (by kernel_rfl) ?_
                    refine s_pure 2 (.bool false) (by kernel_rfl) (by kernel_rfl) (fun _ => by kernel_rfl) ?_
                    refine ops_end ?_
                    refine At.env [(2, .bool false)] ⟨by kernel_rfl, trivial⟩ ?_
                    refine at_then_normal ?_
                    refine at_ret (by kernel_rfl) ?_
                    refine at_then_ret ?_
                    refine at_in_ret ?_
                    refine at_then_ret ?_
                    refine at_in_ret ?_
                    refine at_then_ret ?_
                    obtain rfl := someE H
                    refine at_backR [.bool false] (Γ) (rs := [.tmp 2]) (by kernel_rfl) (.cons (.tmp (by kernel_rfl)) .nil) (fun w hw => (Sat.less (.drop .here (.drop .here (.drop .here .refl))) hw)) ?_
                    exact ⟨rfl, rfl⟩
                  · replace H := bifF H h12
                    refine at_false (t := decide (y28_7 = ((-1) : Int))) (x := C8 [1,1,1,1,1,1,1,1,1,1,0,0,0,1,0,0,1,1,0]) (y := C8 [1,1,1,1,1,1,1,1,1,1,0,0,0,1,0,0,1,1,1]) (o := .tmp 101) (by kernel_rfl) (by kernel_rfl) (by kernel_rfl) h12 ?_
                    refine at_skip (by kernel_rfl) ?_
                    refine at_then_normal ?_
                    refine at_seq (x := C8 [1,1,1,1,1,1,1,1,1,1,0,0,0,1,0,1,0]) (y := C8 [1,1,1,1,1,1,1,1,1,1,0,0,0,1,0,1,1]) (by kernel_rfl) ?_
                    refine at_region (id := 30) 3 (by kernel_rfl) (by kernel_rfl) ?_
                    refine s_pure 102 (.slice v3_8a (List.length v3_8x) v3_8c) (by kernel_rfl) (by kernel_rfl) (fun _ => by kernel_rfl) ?_
                    obtain ⟨hc30_1_0, H⟩ := chkE H
                    obtain ⟨l30_1, hl30_1, H⟩ := letE H
                    refine At.known (p := (List.length v3_8x) ≤ v3_8c) (fun w hw => by have := (RowsA.len (hw.pull (.there .here))).2; simpa using this) ?_
                    intro hcap1
                    have hcapl30_1 : (List.length v3_8x) ≤ v3_8c := hcap1
                    have hcl30_1 := hc30_1_0
                    obtain ⟨a30_1, ha30_1⟩ : ∃ y : Option Addr, y = (if v3_8c = ((1 : Int)).toNat then v3_8a else Option.map (fun x => Addr.add x (((1 : Int)).toNat * 1)) v3_8a) := ⟨_, rfl⟩
                    have hrl30_1 : Reads W0 ((TurnsA b1_0 y27_4.2.2.2) :: (IntsA v3_8a v3_8c v3_8x) :: (IMapA m4_0 v0_m4_0) :: Γ) a30_1 (ints l30_1) := by rw [ha30_1, ← hl30_1]; exact Reads.part (lo := ((1 : Int)).toNat) (hi := (List.length v3_8x)) (RowsA.reads (k := 1) (.there .here)) rfl (by omega)
                    refine At.conv (Γ' := (IntsA a30_1 (v3_8c - ((1 : Int)).toNat) l30_1) :: (TurnsA b1_0 y27_4.2.2.2) :: (IMapA m4_0 v0_m4_0) :: Γ) (fun w hw => by have q := RowsA.suffix (j := ((1 : Int)).toNat) ha30_1 rfl (by simp only [ints_length]; omega) (hw.pull (.there .here)); rw [show (ints v3_8x).drop ((1 : Int)).toNat = ints l30_1 from by rw [← hl30_1]; first | (rw [List.take_of_length_le (by rw [List.length_drop]; exact Nat.le_refl _)]; simp [ints, List.map_drop]; done) | simp [ints, List.map_drop]] at q; exact q) ?_
                    refine s_pure 103 (.slice a30_1 (List.length l30_1) (v3_8c - ((1 : Int)).toNat)) (by kernel_rfl) (by kernel_rfl) (run_eq (slice_at (t := 22) (lo := ((1 : Int)).toNat) (hi := (List.length v3_8x)) (mx := v3_8c) (sz := 1) (E := 3) (a := v3_8a) (m := (List.length v3_8x)) (c := v3_8c) (some (.int .i64 (1))) none none (tinfo 3) (fun _ => by kernel_rfl) (by kernel_rfl) (by kernel_rfl) (by kernel_rfl) (Or.inr ⟨_, rfl, by omega⟩) (Or.inl ⟨rfl, rfl, rfl⟩) (Or.inl ⟨rfl, rfl⟩) (by omega) (by omega) (by omega)) (by rw [← ha30_1, show (List.length v3_8x) - ((1 : Int)).toNat = List.length l30_1 from by rw [← hl30_1]; simp only [List.length_take, List.length_drop]; omega])) ?_
                    refine s_pure 8 (.slice a30_1 (List.length l30_1) (v3_8c - ((1 : Int)).toNat)) (by kernel_rfl) (by kernel_rfl) (fun _ => by kernel_rfl) ?_
                    refine ops_end ?_
                    refine At.env [(3, .pointer (some ⟨b1_0, 0, none⟩)), (8, .slice a30_1 (List.length l30_1) (v3_8c - ((1 : Int)).toNat))] ⟨by kernel_rfl, by kernel_rfl, trivial⟩ ?_
                    refine at_then_normal ?_
                    refine at_seq (x := C8 [1,1,1,1,1,1,1,1,1,1,0,0,0,1,0,1,1,0]) (y := C8 [1,1,1,1,1,1,1,1,1,1,0,0,0,1,0,1,1,1]) (by kernel_rfl) ?_
                    refine at_region (id := 31) 5 (by kernel_rfl) (by kernel_rfl) ?_
                    refine s_pure 104 (.pointer (some ⟨b1_0, 0, none⟩)) (by kernel_rfl) (by kernel_rfl) (fun _ => by kernel_rfl) ?_
                    obtain ⟨y31_1, hy31_1, H⟩ := bindE H
                    refine s_call 105 33 #[.pointer (some ⟨b1_0, 0, none⟩)] (by kernel_rfl) (by kernel_rfl) (fun _ => by kernel_rfl) (Tr.conv (Γ' := (TurnsA b1_0 y27_4.2.2.2) :: (IntsA a30_1 (v3_8c - ((1 : Int)).toNat) l30_1) :: (IMapA m4_0 v0_m4_0) :: Γ) (fun w hw => (Sat.less (.take (.there .here) (.take .here (.take .here .refl))) hw)) (TReadyF_tr b1_0 y27_4.2.2.2 y31_1 hy31_1)) ?_
                    rintro _ _ ⟨a31_1_00, c31_1_00, rfl, rfl⟩
                    refine s_pure 106 (.slice a30_1 (List.length l30_1) (v3_8c - ((1 : Int)).toNat)) (by kernel_rfl) (by kernel_rfl) (fun _ => by kernel_rfl) ?_
                    obtain ⟨y31_3, hy31_3, H⟩ := bindE H
                    refine s_call 107 34 #[.slice a31_1_00 (List.length y31_1) c31_1_00, .slice a30_1 (List.length l30_1) (v3_8c - ((1 : Int)).toNat)] (by kernel_rfl) (by kernel_rfl) (fun _ => by kernel_rfl) (KSameF_tr a31_1_00 c31_1_00 y31_1 a30_1 (v3_8c - ((1 : Int)).toNat) l30_1 (RowsA.reads (k := 1) .here) (RowsA.reads (k := 1) (.there (.there .here))) y31_3 hy31_3) ?_
                    rintro _ _ ⟨rfl, rfl⟩
                    refine s_pure 108 (.bool !y31_3) (by kernel_rfl) (by kernel_rfl) (fun _ => by kernel_rfl) ?_
                    refine ops_end ?_
                    refine At.env [(3, .pointer (some ⟨b1_0, 0, none⟩)), (8, .slice a30_1 (List.length l30_1) (v3_8c - ((1 : Int)).toNat)), (108, .bool !y31_3)] ⟨by kernel_rfl, by kernel_rfl, by kernel_rfl, trivial⟩ ?_
                    refine at_then_normal ?_
                    rcases Bool.eq_false_or_eq_true (!y31_3) with h13 | h13
                    · replace H := bifT H h13
                      refine at_true (t := !y31_3) (x := C8 [1,1,1,1,1,1,1,1,1,1,0,0,0,1,0,1,1,1,0]) (y := C8 [1,1,1,1,1,1,1,1,1,1,0,0,0,1,0,1,1,1,1]) (o := .tmp 108) (by kernel_rfl) (by kernel_rfl) (by kernel_rfl) h13 ?_
                      refine at_seq (x := C8 [1,1,1,1,1,1,1,1,1,1,0,0,0,1,0,1,1,1,0,0]) (y := C8 [1,1,1,1,1,1,1,1,1,1,0,0,0,1,0,1,1,1,0,1]) (by kernel_rfl) ?_
                      refine at_region (id := 32) 1 (by kernel_rfl) (by kernel_rfl) ?_
                      refine s_pure 2 (.bool false) (by kernel_rfl) (by kernel_rfl) (fun _ => by kernel_rfl) ?_
                      refine ops_end ?_
                      refine At.env [(2, .bool false)] ⟨by kernel_rfl, trivial⟩ ?_
                      refine at_then_normal ?_
                      refine at_ret (by kernel_rfl) ?_
                      refine at_in_ret ?_
                      refine at_then_ret ?_
                      refine at_in_ret ?_
                      refine at_then_ret ?_
                      obtain rfl := someE H
                      refine at_backR [.bool false] (Γ) (rs := [.tmp 2]) (by kernel_rfl) (.cons (.tmp (by kernel_rfl)) .nil) (fun w hw => (Sat.less (.drop .here (.drop .here (.drop .here (.drop .here .refl)))) hw)) ?_
                      exact ⟨rfl, rfl⟩
                    · replace H := bifF H h13
                      refine at_false (t := !y31_3) (x := C8 [1,1,1,1,1,1,1,1,1,1,0,0,0,1,0,1,1,1,0]) (y := C8 [1,1,1,1,1,1,1,1,1,1,0,0,0,1,0,1,1,1,1]) (o := .tmp 108) (by kernel_rfl) (by kernel_rfl) (by kernel_rfl) h13 ?_
                      refine at_skip (by kernel_rfl) ?_
                      refine at_in_normal ?_
                      refine at_round_normal ?_
                      exact at_roundR fuel4 [(3, .pointer (some ⟨b1_0, 0, none⟩)), (8, .slice a30_1 (List.length l30_1) (v3_8c - ((1 : Int)).toNat))] ((IntsA a30_1 (v3_8c - ((1 : Int)).toNat) l30_1) :: (TurnsA b1_0 y27_4.2.2.2) :: (IMapA m4_0 v0_m4_0) :: Γ) (Nat.lt_succ_self _) ⟨by kernel_rfl, by kernel_rfl, trivial⟩ (fun w hw => (Sat.less (.take (.there (.there .here)) (.take (.there .here) (.take (.there .here) (.drop .here .refl)))) hw)) ⟨fuel4, l30_1, y27_4.2.2.2, a30_1, (v3_8c - ((1 : Int)).toNat), H, rfl, rfl, rfl⟩
              · replace H := bifF H h10
                refine at_false (t := decide ((0 : Int) < (((List.length v3_8x) : Nat) : Int))) (x := C8 [1,1,1,1,1,1,1,1,1,1,0,0,0,0,1,0]) (y := C8 [1,1,1,1,1,1,1,1,1,1,0,0,0,0,1,1]) (o := .tmp 82) (by kernel_rfl) (by kernel_rfl) (by kernel_rfl) h10 ?_
                refine at_exit (i := 6) (by kernel_rfl) ?_
                refine at_then_exit ?_
                refine at_then_exit ?_
                rw [turnsReadyS_k3] at H
                refine At.env [(3, .pointer (some ⟨b1_0, 0, none⟩)), (8, .slice v3_8a (List.length v3_8x) v3_8c)] ⟨by kernel_rfl, by kernel_rfl, trivial⟩ ?_
                refine At.conv (Γ' := (IntsA v3_8a v3_8c v3_8x) :: (TurnsA b1_0 v3_b1_0) :: (IMapA m4_0 v0_m4_0) :: Γ) (fun w hw => (Sat.less (.take .here (.take .here (.take .here .refl))) hw)) ?_
                refine at_in_here ?_
                refine at_then_normal ?_
                refine at_seq (x := C8 [1,1,1,1,1,1,1,1,1,1,1,0]) (y := C8 [1,1,1,1,1,1,1,1,1,1,1,1]) (by kernel_rfl) ?_
                refine at_region (id := 33) 2 (by kernel_rfl) (by kernel_rfl) ?_
                obtain ⟨y33_0, hy33_0, H⟩ := bindE H
                refine s_call 109 18 #[] (by kernel_rfl) (by kernel_rfl) (fun _ => by kernel_rfl) (W10F_tr  y33_0 hy33_0) ?_
                rintro _ _ ⟨rfl, rfl⟩
                refine s_pure 2 (.bool y33_0) (by kernel_rfl) (by kernel_rfl) (fun _ => by kernel_rfl) ?_
                refine ops_end ?_
                refine At.env [(2, .bool y33_0)] ⟨by kernel_rfl, trivial⟩ ?_
                refine at_then_normal ?_
                refine at_ret (by kernel_rfl) ?_
                obtain rfl := someE H
                refine at_backR [.bool y33_0] (Γ) (rs := [.tmp 2]) (by kernel_rfl) (.cons (.tmp (by kernel_rfl)) .nil) (fun w hw => (Sat.less (.drop .here (.drop .here (.drop .here .refl))) hw)) ?_
                exact ⟨rfl, rfl⟩
  · replace H := bifF H h1
    refine s_pure 21 (.bool false) (by kernel_rfl) (by kernel_rfl) (run_eq (v := .bool (decide (v0_5 < (((List.length lines) : Nat) : Int)))) (fun _ => by kernel_rfl) (congrArg Value.bool h1)) ?_
    refine s_pass 22 (by kernel_rfl) (by kernel_rfl) ?_
    refine s_pass 23 (by kernel_rfl) (by kernel_rfl) ?_
    refine s_pure 24 (.bool false) (by kernel_rfl) (by kernel_rfl) (fun _ => by kernel_rfl) ?_
    refine ops_end ?_
    refine At.env [(0, .slice linesa (List.length lines) linescap), (3, .pointer (some ⟨b1_0, 0, none⟩)), (4, .map (some m4_0)), (5, .int .i64 v0_5), (24, .bool false)] ⟨by kernel_rfl, by kernel_rfl, by kernel_rfl, by kernel_rfl, by kernel_rfl, trivial⟩ ?_
    refine at_then_normal ?_
    refine at_false (t := false) (x := C8 [1,1,1,1,0,1,0,0,0,1,0]) (y := C8 [1,1,1,1,0,1,0,0,0,1,1]) (o := .tmp 24) (by kernel_rfl) (by kernel_rfl) (by kernel_rfl) rfl ?_
    refine at_exit (i := 0) (by kernel_rfl) ?_
    refine at_then_exit ?_
    refine at_then_exit ?_
    rw [turnsReadyS_k0] at H
    refine At.env [(0, .slice linesa (List.length lines) linescap), (3, .pointer (some ⟨b1_0, 0, none⟩)), (4, .map (some m4_0)), (5, .int .i64 v0_5)] ⟨by kernel_rfl, by kernel_rfl, by kernel_rfl, by kernel_rfl, trivial⟩ ?_
    refine At.conv (Γ' := (IMapA m4_0 v0_m4_0) :: (TurnsA b1_0 v0_b1_0) :: Γ) (fun w hw => (Sat.less (.take .here (.take .here .refl)) hw)) ?_
    refine at_in_here ?_
    refine at_then_normal ?_
    refine at_seq (x := C8 [1,1,1,1,1,0]) (y := C8 [1,1,1,1,1,1]) (by kernel_rfl) ?_
    refine at_seq (x := C8 [1,1,1,1,1,0,0]) (y := C8 [1,1,1,1,1,0,1]) (by kernel_rfl) ?_
    refine at_region (id := 11) 4 (by kernel_rfl) (by kernel_rfl) ?_
    refine s_pure 42 (.pointer (some ⟨b1_0, 0, none⟩)) (by kernel_rfl) (by kernel_rfl) (fun _ => by kernel_rfl) ?_
    obtain ⟨y11_1, hy11_1, H⟩ := bindE H
    refine s_call 43 33 #[.pointer (some ⟨b1_0, 0, none⟩)] (by kernel_rfl) (by kernel_rfl) (fun _ => by kernel_rfl) (Tr.conv (Γ' := (TurnsA b1_0 v0_b1_0) :: (IMapA m4_0 v0_m4_0) :: Γ) (fun w hw => (Sat.less (.take (.there .here) (.take .here .refl)) hw)) (TReadyF_tr b1_0 v0_b1_0 y11_1 hy11_1)) ?_
    rintro _ _ ⟨a11_1_00, c11_1_00, rfl, rfl⟩
    refine s_pure 44 (.int .i64 (((List.length y11_1) : Nat) : Int)) (by kernel_rfl) (by kernel_rfl) (fun _ => by kernel_rfl) ?_
    refine s_pure 45 (.bool (!(decide ((((List.length y11_1) : Nat) : Int) = (0 : Int))))) (by kernel_rfl) (by kernel_rfl) (fun _ => by kernel_rfl) ?_
    refine ops_end ?_
    refine At.env [(3, .pointer (some ⟨b1_0, 0, none⟩)), (4, .map (some m4_0)), (45, .bool (!(decide ((((List.length y11_1) : Nat) : Int) = (0 : Int)))))] ⟨by kernel_rfl, by kernel_rfl, by kernel_rfl, trivial⟩ ?_
    refine at_then_normal ?_
    rcases Bool.eq_false_or_eq_true (!(decide ((((List.length y11_1) : Nat) : Int) = (0 : Int)))) with h14 | h14
    · replace H := bifT H h14
      refine at_true (t := !(decide ((((List.length y11_1) : Nat) : Int) = (0 : Int)))) (x := C8 [1,1,1,1,1,0,1,0]) (y := C8 [1,1,1,1,1,0,1,1]) (o := .tmp 45) (by kernel_rfl) (by kernel_rfl) (by kernel_rfl) h14 ?_
      refine at_seq (x := C8 [1,1,1,1,1,0,1,0,0]) (y := C8 [1,1,1,1,1,0,1,0,1]) (by kernel_rfl) ?_
      refine at_region (id := 12) 1 (by kernel_rfl) (by kernel_rfl) ?_
      refine s_pure 2 (.bool false) (by kernel_rfl) (by kernel_rfl) (fun _ => by kernel_rfl) ?_
      refine ops_end ?_
      refine At.env [(2, .bool false)] ⟨by kernel_rfl, trivial⟩ ?_
      refine at_then_normal ?_
      refine at_ret (by kernel_rfl) ?_
      refine at_then_ret ?_
      obtain rfl := someE H
      refine at_backR [.bool false] (Γ) (rs := [.tmp 2]) (by kernel_rfl) (.cons (.tmp (by kernel_rfl)) .nil) (fun w hw => (Sat.less (.drop .here (.drop .here (.drop .here .refl))) hw)) ?_
      exact ⟨rfl, rfl⟩
    · replace H := bifF H h14
      refine at_false (t := !(decide ((((List.length y11_1) : Nat) : Int) = (0 : Int)))) (x := C8 [1,1,1,1,1,0,1,0]) (y := C8 [1,1,1,1,1,0,1,1]) (o := .tmp 45) (by kernel_rfl) (by kernel_rfl) (by kernel_rfl) h14 ?_
      refine at_skip (by kernel_rfl) ?_
      refine at_then_normal ?_
      refine at_seq (x := C8 [1,1,1,1,1,1,0]) (y := C8 [1,1,1,1,1,1,1]) (by kernel_rfl) ?_
      refine at_seq (x := C8 [1,1,1,1,1,1,0,0]) (y := C8 [1,1,1,1,1,1,0,1]) (by kernel_rfl) ?_
      refine at_region (id := 13) 1 (by kernel_rfl) (by kernel_rfl) ?_
      refine s_pure 7 (.int .i64 (0)) (by kernel_rfl) (by kernel_rfl) (fun _ => by kernel_rfl) ?_
      refine ops_end ?_
      refine At.env [(3, .pointer (some ⟨b1_0, 0, none⟩)), (4, .map (some m4_0)), (7, .int .i64 (0))] ⟨by kernel_rfl, by kernel_rfl, by kernel_rfl, trivial⟩ ?_
      refine at_then_normal ?_
      refine at_block (i := 2) (x := C8 [1,1,1,1,1,1,0,1,0]) (by kernel_rfl) ?_
      refine At.conv (Γ' := (TurnsA b1_0 v0_b1_0) :: (IMapA m4_0 v0_m4_0) :: Γ) (fun w hw => (Sat.less (.take (.there .here) (.take (.there .here) (.drop .here .refl))) hw)) ?_
      refine at_loopR (x := C8 [1,1,1,1,1,1,0,1,0,0]) (fun mm ff ΔΔ => ∃ (fuel : Nat) (v1_7 : Int) (v1_b1_0 : TurnsS), turnsReadyS_l1 v0_m4_0 (turnsReadyS_k1 v0_m4_0) fuel v1_7 v1_b1_0 = some y ∧ fuel = mm ∧ ff = [(3, .pointer (some ⟨b1_0, 0, none⟩)), (4, .map (some m4_0)), (7, .int .i64 v1_7)] ∧ (TurnsA b1_0 v1_b1_0) :: (IMapA m4_0 v0_m4_0) :: Γ = ΔΔ) (64) (by kernel_rfl) [(3, .pointer (some ⟨b1_0, 0, none⟩)), (4, .map (some m4_0)), (7, .int .i64 0)] ⟨by kernel_rfl, by kernel_rfl, by kernel_rfl, trivial⟩ ⟨64, 0, v0_b1_0, H, rfl, rfl, rfl⟩ ?_
      rintro _ _ _ ⟨fuel5, v1_7, v1_b1_0, H, rfl, rfl, rfl⟩
      rcases fuel5 with _ | fuel5
      · exact (noneE H).elim
      rw [turnsReadyS_l1] at H
      refine at_seq (x := C8 [1,1,1,1,1,1,0,1,0,0,0]) (y := C8 [1,1,1,1,1,1,0,1,0,0,1]) (by kernel_rfl) ?_
      refine at_seq (x := C8 [1,1,1,1,1,1,0,1,0,0,0,0]) (y := C8 [1,1,1,1,1,1,0,1,0,0,0,1]) (by kernel_rfl) ?_
      refine at_region (id := 14) 2 (by kernel_rfl) (by kernel_rfl) ?_
      refine s_pure 46 (.int .i64 v1_7) (by kernel_rfl) (by kernel_rfl) (fun _ => by kernel_rfl) ?_
      refine s_pure 47 (.bool (decide (v1_7 < (6 : Int)))) (by kernel_rfl) (by kernel_rfl) (fun _ => by kernel_rfl) ?_
      refine ops_end ?_
      refine At.env [(3, .pointer (some ⟨b1_0, 0, none⟩)), (4, .map (some m4_0)), (7, .int .i64 v1_7), (47, .bool (decide (v1_7 < (6 : Int))))] ⟨by kernel_rfl, by kernel_rfl, by kernel_rfl, by kernel_rfl, trivial⟩ ?_
      refine at_then_normal ?_
      rcases Bool.eq_false_or_eq_true (decide (v1_7 < (6 : Int))) with h15 | h15
      · replace H := bifT H h15
        refine at_true (t := decide (v1_7 < (6 : Int))) (x := C8 [1,1,1,1,1,1,0,1,0,0,0,1,0]) (y := C8 [1,1,1,1,1,1,0,1,0,0,0,1,1]) (o := .tmp 47) (by kernel_rfl) (by kernel_rfl) (by kernel_rfl) h15 ?_
        refine at_skip (by kernel_rfl) ?_
        refine at_then_normal ?_
        refine at_seq (x := C8 [1,1,1,1,1,1,0,1,0,0,1,0]) (y := C8 [1,1,1,1,1,1,0,1,0,0,1,1]) (by kernel_rfl) ?_
        refine at_block (i := 3) (x := C8 [1,1,1,1,1,1,0,1,0,0,1,0,0]) (by kernel_rfl) ?_
        refine at_seq (x := C8 [1,1,1,1,1,1,0,1,0,0,1,0,0,0]) (y := C8 [1,1,1,1,1,1,0,1,0,0,1,0,0,1]) (by kernel_rfl) ?_
        refine at_region (id := 16) 13 (by kernel_rfl) (by kernel_rfl) ?_
        refine s_pure 50 (.map (some m4_0)) (by kernel_rfl) (by kernel_rfl) (fun _ => by kernel_rfl) ?_
        refine s_pure 51 (.int .i64 v1_7) (by kernel_rfl) (by kernel_rfl) (fun _ => by kernel_rfl) ?_
        obtain ⟨y16_2, hy16_2, H⟩ := letE H
        refine s_load 52 (.int .i64 (y16_2.getD 0)) (by kernel_rfl) (by kernel_rfl) (imap_lookup1 (t := 58) (Kt := 3) (V := 3) (ik := .i64) (k := v1_7) (info := tinfo 3) hy16_2 (fun _ => by kernel_rfl) (by kernel_rfl) (by kernel_rfl) (by kernel_rfl) (by kernel_rfl) (.there .here)) ?_
        refine s_pure 53 (.bool (decide ((0 : Int) < (y16_2.getD 0)))) (by kernel_rfl) (by kernel_rfl) (fun _ => by kernel_rfl) ?_
        rcases Bool.eq_false_or_eq_true (decide ((0 : Int) < (y16_2.getD 0))) with h16 | h16
        · replace H := bifT H h16
          refine s_pure 54 (.bool true) (by kernel_rfl) (by kernel_rfl) (run_eq (v := .bool (decide ((0 : Int) < (y16_2.getD 0)))) (fun _ => by kernel_rfl) (congrArg Value.bool h16)) ?_
          refine s_pure 55 (.pointer (some ⟨b1_0, 0, none⟩)) (by kernel_rfl) (by kernel_rfl) (fun _ => by kernel_rfl) ?_
          refine s_pure 56 (.int .i64 v1_7) (by kernel_rfl) (by kernel_rfl) (fun _ => by kernel_rfl) ?_
          refine s_pure 57 (.pointer (some ⟨b1_0, 0, none⟩)) (by kernel_rfl) (by kernel_rfl) (fun _ => by kernel_rfl) ?_
          refine s_pure 58 (.int .i64 v1_7) (by kernel_rfl) (by kernel_rfl) (fun _ => by kernel_rfl) ?_
          obtain ⟨y16_9, hy16_9, H⟩ := bindE H
          refine s_call 59 17 #[.pointer (some ⟨b1_0, 0, none⟩), .int .i64 v1_7] (by kernel_rfl) (by kernel_rfl) (fun _ => by kernel_rfl) (TOwnerF_tr b1_0 v1_b1_0 v1_7 y16_9 hy16_9) ?_
          rintro _ _ ⟨rfl, rfl⟩
          obtain ⟨y16_10, hy16_10, H⟩ := bindE H
          refine s_call 60 15 #[.pointer (some ⟨b1_0, 0, none⟩), .int .i64 v1_7, .int .i64 y16_9] (by kernel_rfl) (by kernel_rfl) (fun _ => by kernel_rfl) (TReleaseF_tr b1_0 v1_b1_0 v1_7 y16_9 y16_10 hy16_10) ?_
          rintro _ _ ⟨rfl, rfl⟩
          refine s_pure 61 (.bool (!(decide (y16_10.1 = (0 : Int))))) (by kernel_rfl) (by kernel_rfl) (fun _ => by kernel_rfl) ?_
          refine s_pure 62 (.bool (!(decide (y16_10.1 = (0 : Int))))) (by kernel_rfl) (by kernel_rfl) (fun _ => by kernel_rfl) ?_
          refine ops_end ?_
          refine At.env [(3, .pointer (some ⟨b1_0, 0, none⟩)), (4, .map (some m4_0)), (7, .int .i64 v1_7), (62, .bool (!(decide (y16_10.1 = (0 : Int)))))] ⟨by kernel_rfl, by kernel_rfl, by kernel_rfl, by kernel_rfl, trivial⟩ ?_
          refine at_then_normal ?_
          rcases Bool.eq_false_or_eq_true (!(decide (y16_10.1 = (0 : Int)))) with h17 | h17
          · replace H := bifT H h17
            refine at_true (t := !(decide (y16_10.1 = (0 : Int)))) (x := C8 [1,1,1,1,1,1,0,1,0,0,1,0,0,1,0]) (y := C8 [1,1,1,1,1,1,0,1,0,0,1,0,0,1,1]) (o := .tmp 62) (by kernel_rfl) (by kernel_rfl) (by kernel_rfl) h17 ?_
            refine at_seq (x := C8 [1,1,1,1,1,1,0,1,0,0,1,0,0,1,0,0]) (y := C8 [1,1,1,1,1,1,0,1,0,0,1,0,0,1,0,1]) (by kernel_rfl) ?_
            refine at_region (id := 17) 1 (by kernel_rfl) (by kernel_rfl) ?_
            refine s_pure 2 (.bool false) (by kernel_rfl) (by kernel_rfl) (fun _ => by kernel_rfl) ?_
            refine ops_end ?_
            refine At.env [(2, .bool false)] ⟨by kernel_rfl, trivial⟩ ?_
            refine at_then_normal ?_
            refine at_ret (by kernel_rfl) ?_
            refine at_in_ret ?_
            refine at_then_ret ?_
            refine at_then_ret ?_
            refine at_in_ret ?_
            refine at_then_ret ?_
            obtain rfl := someE H
            refine at_backR [.bool false] (Γ) (rs := [.tmp 2]) (by kernel_rfl) (.cons (.tmp (by kernel_rfl)) .nil) (fun w hw => (Sat.less (.drop .here (.drop .here .refl)) hw)) ?_
            exact ⟨rfl, rfl⟩
          · replace H := bifF H h17
            refine at_false (t := !(decide (y16_10.1 = (0 : Int)))) (x := C8 [1,1,1,1,1,1,0,1,0,0,1,0,0,1,0]) (y := C8 [1,1,1,1,1,1,0,1,0,0,1,0,0,1,1]) (o := .tmp 62) (by kernel_rfl) (by kernel_rfl) (by kernel_rfl) h17 ?_
            refine at_skip (by kernel_rfl) ?_
            refine at_in_normal ?_
            refine at_then_normal ?_
            refine at_region (id := 15) 3 (by kernel_rfl) (by kernel_rfl) ?_
            refine s_pure 48 (.int .i64 v1_7) (by kernel_rfl) (by kernel_rfl) (fun _ => by kernel_rfl) ?_
            obtain ⟨hc15_1_0, H⟩ := chkE H
            refine s_pure 49 (.int .i64 (v1_7 + (1 : Int))) (by kernel_rfl) (by kernel_rfl) (run_eq (v := .int .i64 (IntKind.i64.wrap (v1_7 + (1 : Int)))) (fun _ => by kernel_rfl) (by rw [inR.wrap hc15_1_0])) ?_
            refine s_pure 7 (.int .i64 (v1_7 + (1 : Int))) (by kernel_rfl) (by kernel_rfl) (fun _ => by kernel_rfl) ?_
            refine ops_end ?_
            refine At.env [(3, .pointer (some ⟨b1_0, 0, none⟩)), (4, .map (some m4_0)), (7, .int .i64 (v1_7 + (1 : Int)))] ⟨by kernel_rfl, by kernel_rfl, by kernel_rfl, trivial⟩ ?_
            refine at_round_normal ?_
            exact at_roundR fuel5 [(3, .pointer (some ⟨b1_0, 0, none⟩)), (4, .map (some m4_0)), (7, .int .i64 (v1_7 + (1 : Int)))] ((TurnsA b1_0 y16_10.2) :: (IMapA m4_0 v0_m4_0) :: Γ) (Nat.lt_succ_self _) ⟨by kernel_rfl, by kernel_rfl, by kernel_rfl, trivial⟩ (fun w hw => (Sat.less (.take .here (.take .here .refl)) hw)) ⟨fuel5, v1_7 + (1 : Int), y16_10.2, H, rfl, rfl, rfl⟩
        · replace H := bifF H h16
          refine s_pure 54 (.bool false) (by kernel_rfl) (by kernel_rfl) (run_eq (v := .bool (decide ((0 : Int) < (y16_2.getD 0)))) (fun _ => by kernel_rfl) (congrArg Value.bool h16)) ?_
          refine s_pass 55 (by kernel_rfl) (by kernel_rfl) ?_
          refine s_pass 56 (by kernel_rfl) (by kernel_rfl) ?_
          refine s_pass 57 (by kernel_rfl) (by kernel_rfl) ?_
          refine s_pass 58 (by kernel_rfl) (by kernel_rfl) ?_
          refine s_pass 59 (by kernel_rfl) (by kernel_rfl) ?_
          refine s_pass 60 (by kernel_rfl) (by kernel_rfl) ?_
          refine s_pass 61 (by kernel_rfl) (by kernel_rfl) ?_
          refine s_pure 62 (.bool false) (by kernel_rfl) (by kernel_rfl) (fun _ => by kernel_rfl) ?_
          refine ops_end ?_
          refine At.env [(3, .pointer (some ⟨b1_0, 0, none⟩)), (4, .map (some m4_0)), (7, .int .i64 v1_7), (62, .bool false)] ⟨by kernel_rfl, by kernel_rfl, by kernel_rfl, by kernel_rfl, trivial⟩ ?_
          refine at_then_normal ?_
          refine at_false (t := false) (x := C8 [1,1,1,1,1,1,0,1,0,0,1,0,0,1,0]) (y := C8 [1,1,1,1,1,1,0,1,0,0,1,0,0,1,1]) (o := .tmp 62) (by kernel_rfl) (by kernel_rfl) (by kernel_rfl) rfl ?_
          refine at_skip (by kernel_rfl) ?_
          refine at_in_normal ?_
          refine at_then_normal ?_
          refine at_region (id := 15) 3 (by kernel_rfl) (by kernel_rfl) ?_
          refine s_pure 48 (.int .i64 v1_7) (by kernel_rfl) (by kernel_rfl) (fun _ => by kernel_rfl) ?_
          obtain ⟨hc15_1_0, H⟩ := chkE H
          refine s_pure 49 (.int .i64 (v1_7 + (1 : Int))) (by kernel_rfl) (by kernel_rfl) (run_eq (v := .int .i64 (IntKind.i64.wrap (v1_7 + (1 : Int)))) (fun _ => by kernel_rfl) (by rw [inR.wrap hc15_1_0])) ?_
          refine s_pure 7 (.int .i64 (v1_7 + (1 : Int))) (by kernel_rfl) (by kernel_rfl) (fun _ => by kernel_rfl) ?_
          refine ops_end ?_
          refine At.env [(3, .pointer (some ⟨b1_0, 0, none⟩)), (4, .map (some m4_0)), (7, .int .i64 (v1_7 + (1 : Int)))] ⟨by kernel_rfl, by kernel_rfl, by kernel_rfl, trivial⟩ ?_
          refine at_round_normal ?_
          exact at_roundR fuel5 [(3, .pointer (some ⟨b1_0, 0, none⟩)), (4, .map (some m4_0)), (7, .int .i64 (v1_7 + (1 : Int)))] ((TurnsA b1_0 v1_b1_0) :: (IMapA m4_0 v0_m4_0) :: Γ) (Nat.lt_succ_self _) ⟨by kernel_rfl, by kernel_rfl, by kernel_rfl, trivial⟩ (fun w hw => (Sat.less (.take .here (.take .here .refl)) hw)) ⟨fuel5, v1_7 + (1 : Int), v1_b1_0, H, rfl, rfl, rfl⟩
      · replace H := bifF H h15
        refine at_false (t := decide (v1_7 < (6 : Int))) (x := C8 [1,1,1,1,1,1,0,1,0,0,0,1,0]) (y := C8 [1,1,1,1,1,1,0,1,0,0,0,1,1]) (o := .tmp 47) (by kernel_rfl) (by kernel_rfl) (by kernel_rfl) h15 ?_
        refine at_exit (i := 2) (by kernel_rfl) ?_
        refine at_then_exit ?_
        refine at_then_exit ?_
        rw [turnsReadyS_k1] at H
        refine At.env [(3, .pointer (some ⟨b1_0, 0, none⟩)), (4, .map (some m4_0)), (7, .int .i64 v1_7)] ⟨by kernel_rfl, by kernel_rfl, by kernel_rfl, trivial⟩ ?_
        refine At.conv (Γ' := (TurnsA b1_0 v1_b1_0) :: (IMapA m4_0 v0_m4_0) :: Γ) (fun w hw => (Sat.less (.take .here (.take .here .refl)) hw)) ?_
        refine at_in_here ?_
        refine at_then_normal ?_
        refine at_seq (x := C8 [1,1,1,1,1,1,1,0]) (y := C8 [1,1,1,1,1,1,1,1]) (by kernel_rfl) ?_
        refine at_region (id := 18) 1 (by kernel_rfl) (by kernel_rfl) ?_
        refine s_pure 8 (.slice none 0 0) (by kernel_rfl) (by kernel_rfl) (fun _ => by kernel_rfl) ?_
        refine ops_end ?_
        refine At.env [(3, .pointer (some ⟨b1_0, 0, none⟩)), (4, .map (some m4_0)), (8, .slice none 0 0)] ⟨by kernel_rfl, by kernel_rfl, by kernel_rfl, trivial⟩ ?_
        refine at_then_normal ?_
        refine at_seq (x := C8 [1,1,1,1,1,1,1,1,0]) (y := C8 [1,1,1,1,1,1,1,1,1]) (by kernel_rfl) ?_
        refine at_seq (x := C8 [1,1,1,1,1,1,1,1,0,0]) (y := C8 [1,1,1,1,1,1,1,1,0,1]) (by kernel_rfl) ?_
        refine at_region (id := 19) 1 (by kernel_rfl) (by kernel_rfl) ?_
        refine s_pure 9 (.int .i64 (0)) (by kernel_rfl) (by kernel_rfl) (fun _ => by kernel_rfl) ?_
        refine ops_end ?_
        refine At.env [(3, .pointer (some ⟨b1_0, 0, none⟩)), (4, .map (some m4_0)), (8, .slice none 0 0), (9, .int .i64 (0))] ⟨by kernel_rfl, by kernel_rfl, by kernel_rfl, by kernel_rfl, trivial⟩ ?_
        refine at_then_normal ?_
        refine at_block (i := 4) (x := C8 [1,1,1,1,1,1,1,1,0,1,0]) (by kernel_rfl) ?_
        refine At.conv (Γ' := (IntsA none 0 ([] : List Int)) :: (TurnsA b1_0 v1_b1_0) :: (IMapA m4_0 v0_m4_0) :: Γ) (fun w hw => (Sat.less (.take .here (.take .here (.take .here .refl))) (RowsA.none_mk (k := 1) (a := none) hw))) ?_
        refine at_loopR (x := C8 [1,1,1,1,1,1,1,1,0,1,0,0]) (fun mm ff ΔΔ => ∃ (fuel : Nat) (v2_8x : List Int) (v2_9 : Int) (v2_8a : Option Addr) (v2_8c : Nat), turnsReadyS_l2 v0_m4_0 (turnsReadyS_k2 v1_b1_0) fuel v2_8x v2_9 = some y ∧ fuel = mm ∧ ff = [(3, .pointer (some ⟨b1_0, 0, none⟩)), (4, .map (some m4_0)), (8, .slice v2_8a (List.length v2_8x) v2_8c), (9, .int .i64 v2_9)] ∧ (IntsA v2_8a v2_8c v2_8x) :: (TurnsA b1_0 v1_b1_0) :: (IMapA m4_0 v0_m4_0) :: Γ = ΔΔ) (64) (by kernel_rfl) [(3, .pointer (some ⟨b1_0, 0, none⟩)), (4, .map (some m4_0)), (8, .slice none (List.length ([] : List Int)) 0), (9, .int .i64 0)] ⟨by kernel_rfl, by kernel_rfl, by kernel_rfl, by kernel_rfl, trivial⟩ ⟨64, ([] : List Int), 0, none, 0, H, rfl, rfl, rfl⟩ ?_
        rintro _ _ _ ⟨fuel6, v2_8x, v2_9, v2_8a, v2_8c, H, rfl, rfl, rfl⟩
        rcases fuel6 with _ | fuel6
        · exact (noneE H).elim
        rw [turnsReadyS_l2] at H
        refine at_seq (x := C8 [1,1,1,1,1,1,1,1,0,1,0,0,0]) (y := C8 [1,1,1,1,1,1,1,1,0,1,0,0,1]) (by kernel_rfl) ?_
        refine at_seq (x := C8 [1,1,1,1,1,1,1,1,0,1,0,0,0,0]) (y := C8 [1,1,1,1,1,1,1,1,0,1,0,0,0,1]) (by kernel_rfl) ?_
        refine at_region (id := 20) 2 (by kernel_rfl) (by kernel_rfl) ?_
        refine s_pure 63 (.int .i64 v2_9) (by kernel_rfl) (by kernel_rfl) (fun _ => by kernel_rfl) ?_
        refine s_pure 64 (.bool (decide (v2_9 < (6 : Int)))) (by kernel_rfl) (by kernel_rfl) (fun _ => by kernel_rfl) ?_
        refine ops_end ?_
        refine At.env [(3, .pointer (some ⟨b1_0, 0, none⟩)), (4, .map (some m4_0)), (8, .slice v2_8a (List.length v2_8x) v2_8c), (9, .int .i64 v2_9), (64, .bool (decide (v2_9 < (6 : Int))))] ⟨by kernel_rfl, by kernel_rfl, by kernel_rfl, by kernel_rfl, by kernel_rfl, trivial⟩ ?_
        refine at_then_normal ?_
        rcases Bool.eq_false_or_eq_true (decide (v2_9 < (6 : Int))) with h18 | h18
        · replace H := bifT H h18
          refine at_true (t := decide (v2_9 < (6 : Int))) (x := C8 [1,1,1,1,1,1,1,1,0,1,0,0,0,1,0]) (y := C8 [1,1,1,1,1,1,1,1,0,1,0,0,0,1,1]) (o := .tmp 64) (by kernel_rfl) (by kernel_rfl) (by kernel_rfl) h18 ?_
          refine at_skip (by kernel_rfl) ?_
          refine at_then_normal ?_
          refine at_seq (x := C8 [1,1,1,1,1,1,1,1,0,1,0,0,1,0]) (y := C8 [1,1,1,1,1,1,1,1,0,1,0,0,1,1]) (by kernel_rfl) ?_
          refine at_block (i := 5) (x := C8 [1,1,1,1,1,1,1,1,0,1,0,0,1,0,0]) (by kernel_rfl) ?_
          refine at_seq (x := C8 [1,1,1,1,1,1,1,1,0,1,0,0,1,0,0,0]) (y := C8 [1,1,1,1,1,1,1,1,0,1,0,0,1,0,0,1]) (by kernel_rfl) ?_
          refine at_region (id := 22) 4 (by kernel_rfl) (by kernel_rfl) ?_
          refine s_pure 67 (.map (some m4_0)) (by kernel_rfl) (by kernel_rfl) (fun _ => by kernel_rfl) ?_
          refine s_pure 68 (.int .i64 v2_9) (by kernel_rfl) (by kernel_rfl) (fun _ => by kernel_rfl) ?_
          obtain ⟨y22_2, hy22_2, H⟩ := letE H
          refine s_load 69 (.int .i64 (y22_2.getD 0)) (by kernel_rfl) (by kernel_rfl) (imap_lookup1 (t := 58) (Kt := 3) (V := 3) (ik := .i64) (k := v2_9) (info := tinfo 3) hy22_2 (fun _ => by kernel_rfl) (by kernel_rfl) (by kernel_rfl) (by kernel_rfl) (by kernel_rfl) (.there (.there .here))) ?_
          refine s_pure 70 (.bool (decide ((1 : Int) < (y22_2.getD 0)))) (by kernel_rfl) (by kernel_rfl) (fun _ => by kernel_rfl) ?_
          refine ops_end ?_
          refine At.env [(3, .pointer (some ⟨b1_0, 0, none⟩)), (4, .map (some m4_0)), (8, .slice v2_8a (List.length v2_8x) v2_8c), (9, .int .i64 v2_9), (70, .bool (decide ((1 : Int) < (y22_2.getD 0))))] ⟨by kernel_rfl, by kernel_rfl, by kernel_rfl, by kernel_rfl, by kernel_rfl, trivial⟩ ?_
          refine at_then_normal ?_
          rcases Bool.eq_false_or_eq_true (decide ((1 : Int) < (y22_2.getD 0))) with h19 | h19
          · replace H := bifT H h19
            refine at_true (t := decide ((1 : Int) < (y22_2.getD 0))) (x := C8 [1,1,1,1,1,1,1,1,0,1,0,0,1,0,0,1,0]) (y := C8 [1,1,1,1,1,1,1,1,0,1,0,0,1,0,0,1,1]) (o := .tmp 70) (by kernel_rfl) (by kernel_rfl) (by kernel_rfl) h19 ?_
            refine at_region (id := 23) 5 (by kernel_rfl) (by kernel_rfl) ?_
            refine s_pure 71 (.slice v2_8a (List.length v2_8x) v2_8c) (by kernel_rfl) (by kernel_rfl) (fun _ => by kernel_rfl) ?_
            refine s_pure 72 (.int .i64 v2_9) (by kernel_rfl) (by kernel_rfl) (fun _ => by kernel_rfl) ?_
            obtain ⟨l23_2, hl23_2, H⟩ := letE H
            refine s_step 73 (by kernel_rfl) (by kernel_rfl) (st_new_ints (T := 3) (xs := l23_2) 1 hl23_2 (fun _ => by kernel_rfl) (by kernel_rfl)) ?_
            rintro _ _ ⟨b23_2, rfl, rfl⟩
            obtain ⟨hc23_3_0, H⟩ := chkE H
            obtain ⟨l23_3, hl23_3, H⟩ := letE H
            refine s_step 74 (by kernel_rfl) (by kernel_rfl) (st_append_ints (xs := v2_8x) (ys := l23_2) (zs := l23_3) (m1 := (List.length v2_8x)) (m2 := (List.length l23_2)) (m := List.length l23_3) (cap2 := 1) 22 22 3 (tinfo 3) (fun _ => by kernel_rfl) (by kernel_rfl) (by kernel_rfl) (by kernel_rfl) (by kernel_rfl) (by kernel_rfl) (.there .here) (RowsA.reads (k := 1) .here) (by first | rfl | simp) (by first | rfl | simp) (by rw [← hl23_3]; first | done | simp) (by rw [← hl23_3]; first | done | simp) (by rw [← hl23_3]; exact hc23_3_0)) ?_
            rintro _ _ ⟨a23_3, c23_3, rfl, rfl⟩
            refine s_pure 8 (.slice a23_3 (List.length l23_3) c23_3) (by kernel_rfl) (by kernel_rfl) (fun _ => by kernel_rfl) ?_
            refine ops_end ?_
            refine At.env [(3, .pointer (some ⟨b1_0, 0, none⟩)), (4, .map (some m4_0)), (8, .slice a23_3 (List.length l23_3) c23_3), (9, .int .i64 v2_9)] ⟨by kernel_rfl, by kernel_rfl, by kernel_rfl, by kernel_rfl, trivial⟩ ?_
            refine at_in_normal ?_
            refine at_then_normal ?_
            refine at_region (id := 21) 3 (by kernel_rfl) (by kernel_rfl) ?_
            refine s_pure 65 (.int .i64 v2_9) (by kernel_rfl) (by kernel_rfl) (fun _ => by kernel_rfl) ?_
            obtain ⟨hc21_1_0, H⟩ := chkE H
            refine s_pure 66 (.int .i64 (v2_9 + (1 : Int))) (by kernel_rfl) (by kernel_rfl) (run_eq (v := .int .i64 (IntKind.i64.wrap (v2_9 + (1 : Int)))) (fun _ => by kernel_rfl) (by rw [inR.wrap hc21_1_0])) ?_
            refine s_pure 9 (.int .i64 (v2_9 + (1 : Int))) (by kernel_rfl) (by kernel_rfl) (fun _ => by kernel_rfl) ?_
            refine ops_end ?_
            refine At.env [(3, .pointer (some ⟨b1_0, 0, none⟩)), (4, .map (some m4_0)), (8, .slice a23_3 (List.length l23_3) c23_3), (9, .int .i64 (v2_9 + (1 : Int)))] ⟨by kernel_rfl, by kernel_rfl, by kernel_rfl, by kernel_rfl, trivial⟩ ?_
            refine at_round_normal ?_
            exact at_roundR fuel6 [(3, .pointer (some ⟨b1_0, 0, none⟩)), (4, .map (some m4_0)), (8, .slice a23_3 (List.length l23_3) c23_3), (9, .int .i64 (v2_9 + (1 : Int)))] ((IntsA a23_3 c23_3 l23_3) :: (TurnsA b1_0 v1_b1_0) :: (IMapA m4_0 v0_m4_0) :: Γ) (Nat.lt_succ_self _) ⟨by kernel_rfl, by kernel_rfl, by kernel_rfl, by kernel_rfl, trivial⟩ (fun w hw => (Sat.less (.take .here (.take (.there .here) (.take (.there .here) (.drop .here .refl)))) hw)) ⟨fuel6, l23_3, v2_9 + (1 : Int), a23_3, c23_3, H, rfl, rfl, rfl⟩
          · replace H := bifF H h19
            refine at_false (t := decide ((1 : Int) < (y22_2.getD 0))) (x := C8 [1,1,1,1,1,1,1,1,0,1,0,0,1,0,0,1,0]) (y := C8 [1,1,1,1,1,1,1,1,0,1,0,0,1,0,0,1,1]) (o := .tmp 70) (by kernel_rfl) (by kernel_rfl) (by kernel_rfl) h19 ?_
            refine at_skip (by kernel_rfl) ?_
            refine at_in_normal ?_
            refine at_then_normal ?_
            refine at_region (id := 21) 3 (by kernel_rfl) (by kernel_rfl) ?_
            refine s_pure 65 (.int .i64 v2_9) (by kernel_rfl) (by kernel_rfl) (fun _ => by kernel_rfl) ?_
            obtain ⟨hc21_1_0, H⟩ := chkE H
            refine s_pure 66 (.int .i64 (v2_9 + (1 : Int))) (by kernel_rfl) (by kernel_rfl) (run_eq (v := .int .i64 (IntKind.i64.wrap (v2_9 + (1 : Int)))) (fun _ => by kernel_rfl) (by rw [inR.wrap hc21_1_0])) ?_
            refine s_pure 9 (.int .i64 (v2_9 + (1 : Int))) (by kernel_rfl) (by kernel_rfl) (fun _ => by kernel_rfl) ?_
            refine ops_end ?_
            refine At.env [(3, .pointer (some ⟨b1_0, 0, none⟩)), (4, .map (some m4_0)), (8, .slice v2_8a (List.length v2_8x) v2_8c), (9, .int .i64 (v2_9 + (1 : Int)))] ⟨by kernel_rfl, by kernel_rfl, by kernel_rfl, by kernel_rfl, trivial⟩ ?_
            refine at_round_normal ?_
            exact at_roundR fuel6 [(3, .pointer (some ⟨b1_0, 0, none⟩)), (4, .map (some m4_0)), (8, .slice v2_8a (List.length v2_8x) v2_8c), (9, .int .i64 (v2_9 + (1 : Int)))] ((IntsA v2_8a v2_8c v2_8x) :: (TurnsA b1_0 v1_b1_0) :: (IMapA m4_0 v0_m4_0) :: Γ) (Nat.lt_succ_self _) ⟨by kernel_rfl, by kernel_rfl, by kernel_rfl, by kernel_rfl, trivial⟩ (fun w hw => (Sat.less (.take .here (.take .here (.take .here .refl))) hw)) ⟨fuel6, v2_8x, v2_9 + (1 : Int), v2_8a, v2_8c, H, rfl, rfl, rfl⟩
        · replace H := bifF H h18
          refine at_false (t := decide (v2_9 < (6 : Int))) (x := C8 [1,1,1,1,1,1,1,1,0,1,0,0,0,1,0]) (y := C8 [1,1,1,1,1,1,1,1,0,1,0,0,0,1,1]) (o := .tmp 64) (by kernel_rfl) (by kernel_rfl) (by kernel_rfl) h18 ?_
          refine at_exit (i := 4) (by kernel_rfl) ?_
          refine at_then_exit ?_
          refine at_then_exit ?_
          rw [turnsReadyS_k2] at H
          refine At.env [(3, .pointer (some ⟨b1_0, 0, none⟩)), (4, .map (some m4_0)), (8, .slice v2_8a (List.length v2_8x) v2_8c), (9, .int .i64 v2_9)] ⟨by kernel_rfl, by kernel_rfl, by kernel_rfl, by kernel_rfl, trivial⟩ ?_
          refine At.conv (Γ' := (IntsA v2_8a v2_8c v2_8x) :: (TurnsA b1_0 v1_b1_0) :: (IMapA m4_0 v0_m4_0) :: Γ) (fun w hw => (Sat.less (.take .here (.take .here (.take .here .refl))) hw)) ?_
          refine at_in_here ?_
          refine at_then_normal ?_
          refine at_seq (x := C8 [1,1,1,1,1,1,1,1,1,0]) (y := C8 [1,1,1,1,1,1,1,1,1,1]) (by kernel_rfl) ?_
          refine at_seq (x := C8 [1,1,1,1,1,1,1,1,1,0,0]) (y := C8 [1,1,1,1,1,1,1,1,1,0,1]) (by kernel_rfl) ?_
          refine at_region (id := 24) 5 (by kernel_rfl) (by kernel_rfl) ?_
          refine s_pure 75 (.pointer (some ⟨b1_0, 0, none⟩)) (by kernel_rfl) (by kernel_rfl) (fun _ => by kernel_rfl) ?_
          obtain ⟨y24_1, hy24_1, H⟩ := bindE H
          refine s_call 76 33 #[.pointer (some ⟨b1_0, 0, none⟩)] (by kernel_rfl) (by kernel_rfl) (fun _ => by kernel_rfl) (Tr.conv (Γ' := (TurnsA b1_0 v1_b1_0) :: (IntsA v2_8a v2_8c v2_8x) :: (IMapA m4_0 v0_m4_0) :: Γ) (fun w hw => (Sat.less (.take (.there .here) (.take .here (.take .here .refl))) hw)) (TReadyF_tr b1_0 v1_b1_0 y24_1 hy24_1)) ?_
          rintro _ _ ⟨a24_1_00, c24_1_00, rfl, rfl⟩
          refine s_pure 77 (.slice v2_8a (List.length v2_8x) v2_8c) (by kernel_rfl) (by kernel_rfl) (fun _ => by kernel_rfl) ?_
          obtain ⟨y24_3, hy24_3, H⟩ := bindE H
          refine s_call 78 34 #[.slice a24_1_00 (List.length y24_1) c24_1_00, .slice v2_8a (List.length v2_8x) v2_8c] (by kernel_rfl) (by kernel_rfl) (fun _ => by kernel_rfl) (KSameF_tr a24_1_00 c24_1_00 y24_1 v2_8a v2_8c v2_8x (RowsA.reads (k := 1) .here) (RowsA.reads (k := 1) (.there (.there .here))) y24_3 hy24_3) ?_
          rintro _ _ ⟨rfl, rfl⟩
          refine s_pure 79 (.bool !y24_3) (by kernel_rfl) (by kernel_rfl) (fun _ => by kernel_rfl) ?_
          refine ops_end ?_
          refine At.env [(3, .pointer (some ⟨b1_0, 0, none⟩)), (8, .slice v2_8a (List.length v2_8x) v2_8c), (79, .bool !y24_3)] ⟨by kernel_rfl, by kernel_rfl, by kernel_rfl, trivial⟩ ?_
          refine at_then_normal ?_
          rcases Bool.eq_false_or_eq_true (!y24_3) with h20 | h20
          · replace H := bifT H h20
            refine at_true (t := !y24_3) (x := C8 [1,1,1,1,1,1,1,1,1,0,1,0]) (y := C8 [1,1,1,1,1,1,1,1,1,0,1,1]) (o := .tmp 79) (by kernel_rfl) (by kernel_rfl) (by kernel_rfl) h20 ?_
            refine at_seq (x := C8 [1,1,1,1,1,1,1,1,1,0,1,0,0]) (y := C8 [1,1,1,1,1,1,1,1,1,0,1,0,1]) (by kernel_rfl) ?_
            refine at_region (id := 25) 1 (by kernel_rfl) (by kernel_rfl) ?_
            refine s_pure 2 (.bool false) (by kernel_rfl) (by kernel_rfl) (fun _ => by kernel_rfl) ?_
            refine ops_end ?_
            refine At.env [(2, .bool false)] ⟨by kernel_rfl, trivial⟩ ?_
            refine at_then_normal ?_
            refine at_ret (by kernel_rfl) ?_
            refine at_then_ret ?_
            obtain rfl := someE H
            refine at_backR [.bool false] (Γ) (rs := [.tmp 2]) (by kernel_rfl) (.cons (.tmp (by kernel_rfl)) .nil) (fun w hw => (Sat.less (.drop .here (.drop .here (.drop .here (.drop .here .refl)))) hw)) ?_
            exact ⟨rfl, rfl⟩
          · replace H := bifF H h20
            refine at_false (t := !y24_3) (x := C8 [1,1,1,1,1,1,1,1,1,0,1,0]) (y := C8 [1,1,1,1,1,1,1,1,1,0,1,1]) (o := .tmp 79) (by kernel_rfl) (by kernel_rfl) (by kernel_rfl) h20 ?_
            refine at_skip (by kernel_rfl) ?_
            refine at_then_normal ?_
            refine at_seq (x := C8 [1,1,1,1,1,1,1,1,1,1,0]) (y := C8 [1,1,1,1,1,1,1,1,1,1,1]) (by kernel_rfl) ?_
            refine at_block (i := 6) (x := C8 [1,1,1,1,1,1,1,1,1,1,0,0]) (by kernel_rfl) ?_
            refine At.conv (Γ' := (IntsA v2_8a v2_8c v2_8x) :: (TurnsA b1_0 v1_b1_0) :: (IMapA m4_0 v0_m4_0) :: Γ) (fun w hw => (Sat.less (.take (.there (.there .here)) (.take (.there .here) (.take (.there .here) (.drop .here .refl)))) hw)) ?_
            refine at_loopR (x := C8 [1,1,1,1,1,1,1,1,1,1,0,0,0]) (fun mm ff ΔΔ => ∃ (fuel : Nat) (v3_8x : List Int) (v3_b1_0 : TurnsS) (v3_8a : Option Addr) (v3_8c : Nat), turnsReadyS_l3 (turnsReadyS_k3 ) fuel v3_8x v3_b1_0 = some y ∧ fuel = mm ∧ ff = [(3, .pointer (some ⟨b1_0, 0, none⟩)), (8, .slice v3_8a (List.length v3_8x) v3_8c)] ∧ (IntsA v3_8a v3_8c v3_8x) :: (TurnsA b1_0 v3_b1_0) :: (IMapA m4_0 v0_m4_0) :: Γ = ΔΔ) (64) (by kernel_rfl) [(3, .pointer (some ⟨b1_0, 0, none⟩)), (8, .slice v2_8a (List.length v2_8x) v2_8c)] ⟨by kernel_rfl, by kernel_rfl, trivial⟩ ⟨64, v2_8x, v1_b1_0, v2_8a, v2_8c, H, rfl, rfl, rfl⟩ ?_
            rintro _ _ _ ⟨fuel7, v3_8x, v3_b1_0, v3_8a, v3_8c, H, rfl, rfl, rfl⟩
            rcases fuel7 with _ | fuel7
            · exact (noneE H).elim
            rw [turnsReadyS_l3] at H
            refine at_seq (x := C8 [1,1,1,1,1,1,1,1,1,1,0,0,0,0]) (y := C8 [1,1,1,1,1,1,1,1,1,1,0,0,0,1]) (by kernel_rfl) ?_
            refine at_seq (x := C8 [1,1,1,1,1,1,1,1,1,1,0,0,0,0,0]) (y := C8 [1,1,1,1,1,1,1,1,1,1,0,0,0,0,1]) (by kernel_rfl) ?_
            refine at_region (id := 26) 3 (by kernel_rfl) (by kernel_rfl) ?_
            refine s_pure 80 (.slice v3_8a (List.length v3_8x) v3_8c) (by kernel_rfl) (by kernel_rfl) (fun _ => by kernel_rfl) ?_
            refine s_pure 81 (.int .i64 (((List.length v3_8x) : Nat) : Int)) (by kernel_rfl) (by kernel_rfl) (fun _ => by kernel_rfl) ?_
            refine s_pure 82 (.bool (decide ((0 : Int) < (((List.length v3_8x) : Nat) : Int)))) (by kernel_rfl) (by kernel_rfl) (fun _ => by kernel_rfl) ?_
            refine ops_end ?_
            refine At.env [(3, .pointer (some ⟨b1_0, 0, none⟩)), (8, .slice v3_8a (List.length v3_8x) v3_8c), (82, .bool (decide ((0 : Int) < (((List.length v3_8x) : Nat) : Int))))] ⟨by kernel_rfl, by kernel_rfl, by kernel_rfl, trivial⟩ ?_
            refine at_then_normal ?_
            rcases Bool.eq_false_or_eq_true (decide ((0 : Int) < (((List.length v3_8x) : Nat) : Int))) with h21 | h21
            · replace H := bifT H h21
              refine at_true (t := decide ((0 : Int) < (((List.length v3_8x) : Nat) : Int))) (x := C8 [1,1,1,1,1,1,1,1,1,1,0,0,0,0,1,0]) (y := C8 [1,1,1,1,1,1,1,1,1,1,0,0,0,0,1,1]) (o := .tmp 82) (by kernel_rfl) (by kernel_rfl) (by kernel_rfl) h21 ?_
              refine at_skip (by kernel_rfl) ?_
              refine at_then_normal ?_
              refine at_block (i := 7) (x := C8 [1,1,1,1,1,1,1,1,1,1,0,0,0,1,0]) (by kernel_rfl) ?_
              refine at_seq (x := C8 [1,1,1,1,1,1,1,1,1,1,0,0,0,1,0,0]) (y := C8 [1,1,1,1,1,1,1,1,1,1,0,0,0,1,0,1]) (by kernel_rfl) ?_
              refine at_seq (x := C8 [1,1,1,1,1,1,1,1,1,1,0,0,0,1,0,0,0]) (y := C8 [1,1,1,1,1,1,1,1,1,1,0,0,0,1,0,0,1]) (by kernel_rfl) ?_
              refine at_region (id := 27) 12 (by kernel_rfl) (by kernel_rfl) ?_
              refine s_pure 84 (.pointer (some ⟨b1_0, 0, none⟩)) (by kernel_rfl) (by kernel_rfl) (fun _ => by kernel_rfl) ?_
              refine s_pure 85 (.slice v3_8a (List.length v3_8x) v3_8c) (by kernel_rfl) (by kernel_rfl) (fun _ => by kernel_rfl) ?_
              obtain ⟨hc27_2_0, H⟩ := chkE H
              refine rows_at .here (by have := hc27_2_0; simp only [ints_length]; omega) ?_
              intro bb4 oo4 ha4
              refine s_pure 86 (.pointer (some ⟨bb4, oo4 + (((0 : Int)).toNat * 1 + 0), none⟩)) (by kernel_rfl) (by kernel_rfl) (index_at (t := 22) (sz := 1) (E := 3) (a := v3_8a) (m := (List.length v3_8x)) (c := v3_8c) (b := bb4) (off := oo4) (i := ((0 : Int)).toNat) (tinfo 3) (fun _ => by kernel_rfl) (by kernel_rfl) (by kernel_rfl) (by kernel_rfl) ha4 (idx_cast hc27_2_0) (idx_nat hc27_2_0) rfl) ?_
              refine s_load 87 (.int .i64 (nth v3_8x (0 : Int))) (by kernel_rfl) (by kernel_rfl) (load1_at (off := oo4 + (((0 : Int)).toNat * 1 + 0)) (v := .int .i64 (nth v3_8x (0 : Int))) (fun _ => by kernel_rfl) rfl (reads_cell (k := 1) (RowsA.reads (k := 1) .here) (ints_rows _) ha4 (nth_row hc27_2_0) (show [(.int .i64 (nth v3_8x (0 : Int)) : Value)][0]? = some _ from rfl))) ?_
              obtain ⟨y27_4, hy27_4, H⟩ := bindE H
              refine s_call 88 16 #[.pointer (some ⟨b1_0, 0, none⟩), .int .i64 (nth v3_8x (0 : Int))] (by kernel_rfl) (by kernel_rfl) (fun _ => by kernel_rfl) (Tr.conv (Γ' := (TurnsA b1_0 v3_b1_0) :: (IntsA v3_8a v3_8c v3_8x) :: (IMapA m4_0 v0_m4_0) :: Γ) (fun w hw => (Sat.less (.take (.there .here) (.take .here (.take .here .refl))) hw)) (TNextF_tr b1_0 v3_b1_0 (nth v3_8x (0 : Int)) y27_4 hy27_4)) ?_
              rintro _ _ ⟨rfl, rfl⟩
              refine s_pure 83 (.tuple #[.int .i64 y27_4.1, .int .i64 y27_4.2.1, .bool y27_4.2.2.1]) (by kernel_rfl) (by kernel_rfl) (fun _ => by kernel_rfl) ?_
              refine s_pure 89 (.int .i64 y27_4.1) (by kernel_rfl) (by kernel_rfl) (fun _ => by kernel_rfl) ?_
              refine s_pure 90 (.int .i64 y27_4.2.1) (by kernel_rfl) (by kernel_rfl) (fun _ => by kernel_rfl) ?_
              refine s_pure 91 (.bool y27_4.2.2.1) (by kernel_rfl) (by kernel_rfl) (fun _ => by kernel_rfl) ?_
              refine s_pure 10 (.int .i64 y27_4.1) (by kernel_rfl) (by kernel_rfl) (fun _ => by kernel_rfl) ?_
              refine s_pure 11 (.int .i64 y27_4.2.1) (by kernel_rfl) (by kernel_rfl) (fun _ => by kernel_rfl) ?_
              refine s_pure 12 (.bool y27_4.2.2.1) (by kernel_rfl) (by kernel_rfl) (fun _ => by kernel_rfl) ?_
              refine ops_end ?_
              refine At.env [(3, .pointer (some ⟨b1_0, 0, none⟩)), (8, .slice v3_8a (List.length v3_8x) v3_8c), (12, .bool y27_4.2.2.1)] ⟨by kernel_rfl, by kernel_rfl, by kernel_rfl, trivial⟩ ?_
              refine at_then_normal ?_
              refine at_seq (x := C8 [1,1,1,1,1,1,1,1,1,1,0,0,0,1,0,0,1,0]) (y := C8 [1,1,1,1,1,1,1,1,1,1,0,0,0,1,0,0,1,1]) (by kernel_rfl) ?_
              refine at_region (id := 28) 10 (by kernel_rfl) (by kernel_rfl) ?_
              refine s_pure 92 (.bool y27_4.2.2.1) (by kernel_rfl) (by kernel_rfl) (fun _ => by kernel_rfl) ?_
              refine s_pure 93 (.bool !y27_4.2.2.1) (by kernel_rfl) (by kernel_rfl) (fun _ => by kernel_rfl) ?_
              rcases Bool.eq_false_or_eq_true (!y27_4.2.2.1) with h22 | h22
              · replace H := bifT H h22
                refine s_pure 94 (.bool true) (by kernel_rfl) (by kernel_rfl) (run_eq (v := .bool (!y27_4.2.2.1)) (fun _ => by kernel_rfl) (congrArg Value.bool h22)) ?_
                refine s_pass 95 (by kernel_rfl) (by kernel_rfl) ?_
                refine s_pass 96 (by kernel_rfl) (by kernel_rfl) ?_
                refine s_pass 97 (by kernel_rfl) (by kernel_rfl) ?_
                refine s_pass 98 (by kernel_rfl) (by kernel_rfl) ?_
                refine s_pass 99 (by kernel_rfl) (by kernel_rfl) ?_
                refine s_pass 100 (by kernel_rfl) (by kernel_rfl) ?_
                refine s_pure 101 (.bool true) (by kernel_rfl) (by kernel_rfl) (fun _ => by kernel_rfl) ?_
                refine ops_end ?_
                refine At.env [(3, .pointer (some ⟨b1_0, 0, none⟩)), (8, .slice v3_8a (List.length v3_8x) v3_8c), (101, .bool true)] ⟨by kernel_rfl, by kernel_rfl, by kernel_rfl, trivial⟩ ?_
                refine at_then_normal ?_
                refine at_true (t := true) (x := C8 [1,1,1,1,1,1,1,1,1,1,0,0,0,1,0,0,1,1,0]) (y := C8 [1,1,1,1,1,1,1,1,1,1,0,0,0,1,0,0,1,1,1]) (o := .tmp 101) (by kernel_rfl) (by kernel_rfl) (by kernel_rfl) rfl ?_
                refine at_seq (x := C8 [1,1,1,1,1,1,1,1,1,1,0,0,0,1,0,0,1,1,0,0]) (y := C8 [1,1,1,1,1,1,1,1,1,1,0,0,0,1,0,0,1,1,0,1]) (by kernel_rfl) ?_
                refine at_region (id := 29) 1 (by kernel_rfl) (by kernel_rfl) ?_
                refine s_pure 2 (.bool false) (by kernel_rfl) (by kernel_rfl) (fun _ => by kernel_rfl) ?_
                refine ops_end ?_
                refine At.env [(2, .bool false)] ⟨by kernel_rfl, trivial⟩ ?_
                refine at_then_normal ?_
                refine at_ret (by kernel_rfl) ?_
                refine at_then_ret ?_
                refine at_in_ret ?_
                refine at_then_ret ?_
                refine at_in_ret ?_
                refine at_then_ret ?_
                obtain rfl := someE H
                refine at_backR [.bool false] (Γ) (rs := [.tmp 2]) (by kernel_rfl) (.cons (.tmp (by kernel_rfl)) .nil) (fun w hw => (Sat.less (.drop .here (.drop .here (.drop .here .refl))) hw)) ?_
                exact ⟨rfl, rfl⟩
              · replace H := bifF H h22
                refine s_pure 94 (.bool false) (by kernel_rfl) (by kernel_rfl) (run_eq (v := .bool (!y27_4.2.2.1)) (fun _ => by kernel_rfl) (congrArg Value.bool h22)) ?_
                refine s_pure 95 (.pointer (some ⟨b1_0, 0, none⟩)) (by kernel_rfl) (by kernel_rfl) (fun _ => by kernel_rfl) ?_
                refine s_pure 96 (.slice v3_8a (List.length v3_8x) v3_8c) (by kernel_rfl) (by kernel_rfl) (fun _ => by kernel_rfl) ?_
                obtain ⟨hc28_5_0, H⟩ := chkE H
                refine rows_at (.there .here) (by have := hc28_5_0; simp only [ints_length]; omega) ?_
                intro bb5 oo5 ha5
                refine s_pure 97 (.pointer (some ⟨bb5, oo5 + (((0 : Int)).toNat * 1 + 0), none⟩)) (by kernel_rfl) (by kernel_rfl) (index_at (t := 22) (sz := 1) (E := 3) (a := v3_8a) (m := (List.length v3_8x)) (c := v3_8c) (b := bb5) (off := oo5) (i := ((0 : Int)).toNat) (tinfo 3) (fun _ => by kernel_rfl) (by kernel_rfl) (by kernel_rfl) (by kernel_rfl) ha5 (idx_cast hc28_5_0) (idx_nat hc28_5_0) rfl) ?_
                refine s_load 98 (.int .i64 (nth v3_8x (0 : Int))) (by kernel_rfl) (by kernel_rfl) (load1_at (off := oo5 + (((0 : Int)).toNat * 1 + 0)) (v := .int .i64 (nth v3_8x (0 : Int))) (fun _ => by kernel_rfl) rfl (reads_cell (k := 1) (RowsA.reads (k := 1) (.there .here)) (ints_rows _) ha5 (nth_row hc28_5_0) (show [(.int .i64 (nth v3_8x (0 : Int)) : Value)][0]? = some _ from rfl))) ?_
                obtain ⟨y28_7, hy28_7, H⟩ := bindE H
                refine s_call 99 17 #[.pointer (some ⟨b1_0, 0, none⟩), .int .i64 (nth v3_8x (0 : Int))] (by kernel_rfl) (by kernel_rfl) (fun _ => by kernel_rfl) (TOwnerF_tr b1_0 y27_4.2.2.2 (nth v3_8x (0 : Int)) y28_7 hy28_7) ?_
                rintro _ _ ⟨rfl, rfl⟩
                refine s_pure 100 (.bool (decide (y28_7 = ((-1) : Int)))) (by kernel_rfl) (by kernel_rfl) (fun _ => by kernel_rfl) ?_
                refine s_pure 101 (.bool (decide (y28_7 = ((-1) : Int)))) (by kernel_rfl) (by kernel_rfl) (fun _ => by kernel_rfl) ?_
                refine ops_end ?_
                refine At.env [(3, .pointer (some ⟨b1_0, 0, none⟩)), (8, .slice v3_8a (List.length v3_8x) v3_8c), (101, .bool (decide (y28_7 = ((-1) : Int))))] ⟨by kernel_rfl, by kernel_rfl, by kernel_rfl, trivial⟩ ?_
                refine at_then_normal ?_
                rcases Bool.eq_false_or_eq_true (decide (y28_7 = ((-1) : Int))) with h23 | h23
                · replace H := bifT H h23
                  refine at_true (t := decide (y28_7 = ((-1) : Int))) (x := C8 [1,1,1,1,1,1,1,1,1,1,0,0,0,1,0,0,1,1,0]) (y := C8 [1,1,1,1,1,1,1,1,1,1,0,0,0,1,0,0,1,1,1]) (o := .tmp 101) (by kernel_rfl) (by kernel_rfl) (by kernel_rfl) h23 ?_
                  refine at_seq (x := C8 [1,1,1,1,1,1,1,1,1,1,0,0,0,1,0,0,1,1,0,0]) (y := C8 [1,1,1,1,1,1,1,1,1,1,0,0,0,1,0,0,1,1,0,1]) (by kernel_rfl) ?_
                  refine at_region (id := 29) 1 (by kernel_rfl) (by kernel_rfl) ?_
                  refine s_pure 2 (.bool false) (by kernel_rfl) (by kernel_rfl) (fun _ => by kernel_rfl) ?_
                  refine ops_end ?_
                  refine At.env [(2, .bool false)] ⟨by kernel_rfl, trivial⟩ ?_
                  refine at_then_normal ?_
                  refine at_ret (by kernel_rfl) ?_
                  refine at_then_ret ?_
                  refine at_in_ret ?_
                  refine at_then_ret ?_
                  refine at_in_ret ?_
                  refine at_then_ret ?_
                  obtain rfl := someE H
                  refine at_backR [.bool false] (Γ) (rs := [.tmp 2]) (by kernel_rfl) (.cons (.tmp (by kernel_rfl)) .nil) (fun w hw => (Sat.less (.drop .here (.drop .here (.drop .here .refl))) hw)) ?_
                  exact ⟨rfl, rfl⟩
                · replace H := bifF H h23
                  refine at_false (t := decide (y28_7 = ((-1) : Int))) (x := C8 [1,1,1,1,1,1,1,1,1,1,0,0,0,1,0,0,1,1,0]) (y := C8 [1,1,1,1,1,1,1,1,1,1,0,0,0,1,0,0,1,1,1]) (o := .tmp 101) (by kernel_rfl) (by kernel_rfl) (by kernel_rfl) h23 ?_
                  refine at_skip (by kernel_rfl) ?_
                  refine at_then_normal ?_
                  refine at_seq (x := C8 [1,1,1,1,1,1,1,1,1,1,0,0,0,1,0,1,0]) (y := C8 [1,1,1,1,1,1,1,1,1,1,0,0,0,1,0,1,1]) (by kernel_rfl) ?_
                  refine at_region (id := 30) 3 (by kernel_rfl) (by kernel_rfl) ?_
                  refine s_pure 102 (.slice v3_8a (List.length v3_8x) v3_8c) (by kernel_rfl) (by kernel_rfl) (fun _ => by kernel_rfl) ?_
                  obtain ⟨hc30_1_0, H⟩ := chkE H
                  obtain ⟨l30_1, hl30_1, H⟩ := letE H
                  refine At.known (p := (List.length v3_8x) ≤ v3_8c) (fun w hw => by have := (RowsA.len (hw.pull (.there .here))).2; simpa using this) ?_
                  intro hcap2
                  have hcapl30_1 : (List.length v3_8x) ≤ v3_8c := hcap2
                  have hcl30_1 := hc30_1_0
                  obtain ⟨a30_1, ha30_1⟩ : ∃ y : Option Addr, y = (if v3_8c = ((1 : Int)).toNat then v3_8a else Option.map (fun x => Addr.add x (((1 : Int)).toNat * 1)) v3_8a) := ⟨_, rfl⟩
                  have hrl30_1 : Reads W0 ((TurnsA b1_0 y27_4.2.2.2) :: (IntsA v3_8a v3_8c v3_8x) :: (IMapA m4_0 v0_m4_0) :: Γ) a30_1 (ints l30_1) := by rw [ha30_1, ← hl30_1]; exact Reads.part (lo := ((1 : Int)).toNat) (hi := (List.length v3_8x)) (RowsA.reads (k := 1) (.there .here)) rfl (by omega)
                  refine At.conv (Γ' := (IntsA a30_1 (v3_8c - ((1 : Int)).toNat) l30_1) :: (TurnsA b1_0 y27_4.2.2.2) :: (IMapA m4_0 v0_m4_0) :: Γ) (fun w hw => by have q := RowsA.suffix (j := ((1 : Int)).toNat) ha30_1 rfl (by simp only [ints_length]; omega) (hw.pull (.there .here)); rw [show (ints v3_8x).drop ((1 : Int)).toNat = ints l30_1 from by rw [← hl30_1]; first | (rw [List.take_of_length_le (by rw [List.length_drop]; exact Nat.le_refl _)]; simp [ints, List.map_drop]; done) | simp [ints, List.map_drop]] at q; exact q) ?_
                  refine s_pure 103 (.slice a30_1 (List.length l30_1) (v3_8c - ((1 : Int)).toNat)) (by kernel_rfl) (by kernel_rfl) (run_eq (slice_at (t := 22) (lo := ((1 : Int)).toNat) (hi := (List.length v3_8x)) (mx := v3_8c) (sz := 1) (E := 3) (a := v3_8a) (m := (List.length v3_8x)) (c := v3_8c) (some (.int .i64 (1))) none none (tinfo 3) (fun _ => by kernel_rfl) (by kernel_rfl) (by kernel_rfl) (by kernel_rfl) (Or.inr ⟨_, rfl, by omega⟩) (Or.inl ⟨rfl, rfl, rfl⟩) (Or.inl ⟨rfl, rfl⟩) (by omega) (by omega) (by omega)) (by rw [← ha30_1, show (List.length v3_8x) - ((1 : Int)).toNat = List.length l30_1 from by rw [← hl30_1]; simp only [List.length_take, List.length_drop]; omega])) ?_
                  refine s_pure 8 (.slice a30_1 (List.length l30_1) (v3_8c - ((1 : Int)).toNat)) (by kernel_rfl) (by kernel_rfl) (fun _ => by kernel_rfl) ?_
                  refine ops_end ?_
                  refine At.env [(3, .pointer (some ⟨b1_0, 0, none⟩)), (8, .slice a30_1 (List.length l30_1) (v3_8c - ((1 : Int)).toNat))] ⟨by kernel_rfl, by kernel_rfl, trivial⟩ ?_
                  refine at_then_normal ?_
                  refine at_seq (x := C8 [1,1,1,1,1,1,1,1,1,1,0,0,0,1,0,1,1,0]) (y := C8 [1,1,1,1,1,1,1,1,1,1,0,0,0,1,0,1,1,1]) (by kernel_rfl) ?_
                  refine at_region (id := 31) 5 (by kernel_rfl) (by kernel_rfl) ?_
                  refine s_pure 104 (.pointer (some ⟨b1_0, 0, none⟩)) (by kernel_rfl) (by kernel_rfl) (fun _ => by kernel_rfl) ?_
                  obtain ⟨y31_1, hy31_1, H⟩ := bindE H
                  refine s_call 105 33 #[.pointer (some ⟨b1_0, 0, none⟩)] (by kernel_rfl) (by kernel_rfl) (fun _ => by kernel_rfl) (Tr.conv (Γ' := (TurnsA b1_0 y27_4.2.2.2) :: (IntsA a30_1 (v3_8c - ((1 : Int)).toNat) l30_1) :: (IMapA m4_0 v0_m4_0) :: Γ) (fun w hw => (Sat.less (.take (.there .here) (.take .here (.take .here .refl))) hw)) (TReadyF_tr b1_0 y27_4.2.2.2 y31_1 hy31_1)) ?_
                  rintro _ _ ⟨a31_1_00, c31_1_00, rfl, rfl⟩
                  refine s_pure 106 (.slice a30_1 (List.length l30_1) (v3_8c - ((1 : Int)).toNat)) (by kernel_rfl) (by kernel_rfl) (fun _ => by kernel_rfl) ?_
                  obtain ⟨y31_3, hy31_3, H⟩ := bindE H
                  refine s_call 107 34 #[.slice a31_1_00 (List.length y31_1) c31_1_00, .slice a30_1 (List.length l30_1) (v3_8c - ((1 : Int)).toNat)] (by kernel_rfl) (by kernel_rfl) (fun _ => by kernel_rfl) (KSameF_tr a31_1_00 c31_1_00 y31_1 a30_1 (v3_8c - ((1 : Int)).toNat) l30_1 (RowsA.reads (k := 1) .here) (RowsA.reads (k := 1) (.there (.there .here))) y31_3 hy31_3) ?_
                  rintro _ _ ⟨rfl, rfl⟩
                  refine s_pure 108 (.bool !y31_3) (by kernel_rfl) (by kernel_rfl) (fun _ => by kernel_rfl) ?_
                  refine ops_end ?_
                  refine At.env [(3, .pointer (some ⟨b1_0, 0, none⟩)), (8, .slice a30_1 (List.length l30_1) (v3_8c - ((1 : Int)).toNat)), (108, .bool !y31_3)] ⟨by kernel_rfl, by kernel_rfl, by kernel_rfl, trivial⟩ ?_
                  refine at_then_normal ?_
                  rcases Bool.eq_false_or_eq_true (!y31_3) with h24 | h24
                  · replace H := bifT H h24
                    refine at_true (t := !y31_3) (x := C8 [1,1,1,1,1,1,1,1,1,1,0,0,0,1,0,1,1,1,0]) (y := C8 [1,1,1,1,1,1,1,1,1,1,0,0,0,1,0,1,1,1,1]) (o := .tmp 108) (by kernel_rfl) (by kernel_rfl) (by kernel_rfl) h24 ?_
                    refine at_seq (x := C8 [1,1,1,1,1,1,1,1,1,1,0,0,0,1,0,1,1,1,0,0]) (y := C8 [1,1,1,1,1,1,1,1,1,1,0,0,0,1,0,1,1,1,0,1]) (by kernel_rfl) ?_
                    refine at_region (id := 32) 1 (by kernel_rfl) (by kernel_rfl) ?_
                    refine s_pure 2 (.bool false) (by kernel_rfl) (by kernel_rfl) (fun _ => by kernel_rfl) ?_
                    refine ops_end ?_
                    refine At.env [(2, .bool false)] ⟨by kernel_rfl, trivial⟩ ?_
                    refine at_then_normal ?_
                    refine at_ret (by kernel_rfl) ?_
                    refine at_in_ret ?_
                    refine at_then_ret ?_
                    refine at_in_ret ?_
                    refine at_then_ret ?_
                    obtain rfl := someE H
                    refine at_backR [.bool false] (Γ) (rs := [.tmp 2]) (by kernel_rfl) (.cons (.tmp (by kernel_rfl)) .nil) (fun w hw => (Sat.less (.drop .here (.drop .here (.drop .here (.drop .here .refl)))) hw)) ?_
                    exact ⟨rfl, rfl⟩
                  · replace H := bifF H h24
                    refine at_false (t := !y31_3) (x := C8 [1,1,1,1,1,1,1,1,1,1,0,0,0,1,0,1,1,1,0]) (y := C8 [1,1,1,1,1,1,1,1,1,1,0,0,0,1,0,1,1,1,1]) (o := .tmp 108) (by kernel_rfl) (by kernel_rfl) (by kernel_rfl) h24 ?_
                    refine at_skip (by kernel_rfl) ?_
                    refine at_in_normal ?_
                    refine at_round_normal ?_
                    exact at_roundR fuel7 [(3, .pointer (some ⟨b1_0, 0, none⟩)), (8, .slice a30_1 (List.length l30_1) (v3_8c - ((1 : Int)).toNat))] ((IntsA a30_1 (v3_8c - ((1 : Int)).toNat) l30_1) :: (TurnsA b1_0 y27_4.2.2.2) :: (IMapA m4_0 v0_m4_0) :: Γ) (Nat.lt_succ_self _) ⟨by kernel_rfl, by kernel_rfl, trivial⟩ (fun w hw => (Sat.less (.take (.there (.there .here)) (.take (.there .here) (.take (.there .here) (.drop .here .refl)))) hw)) ⟨fuel7, l30_1, y27_4.2.2.2, a30_1, (v3_8c - ((1 : Int)).toNat), H, rfl, rfl, rfl⟩
            · replace H := bifF H h21
              refine at_false (t := decide ((0 : Int) < (((List.length v3_8x) : Nat) : Int))) (x := C8 [1,1,1,1,1,1,1,1,1,1,0,0,0,0,1,0]) (y := C8 [1,1,1,1,1,1,1,1,1,1,0,0,0,0,1,1]) (o := .tmp 82) (by kernel_rfl) (by kernel_rfl) (by kernel_rfl) h21 ?_
              refine at_exit (i := 6) (by kernel_rfl) ?_
              refine at_then_exit ?_
              refine at_then_exit ?_
              rw [turnsReadyS_k3] at H
              refine At.env [(3, .pointer (some ⟨b1_0, 0, none⟩)), (8, .slice v3_8a (List.length v3_8x) v3_8c)] ⟨by kernel_rfl, by kernel_rfl, trivial⟩ ?_
              refine At.conv (Γ' := (IntsA v3_8a v3_8c v3_8x) :: (TurnsA b1_0 v3_b1_0) :: (IMapA m4_0 v0_m4_0) :: Γ) (fun w hw => (Sat.less (.take .here (.take .here (.take .here .refl))) hw)) ?_
              refine at_in_here ?_
              refine at_then_normal ?_
              refine at_seq (x := C8 [1,1,1,1,1,1,1,1,1,1,1,0]) (y := C8 [1,1,1,1,1,1,1,1,1,1,1,1]) (by kernel_rfl) ?_
              refine at_region (id := 33) 2 (by kernel_rfl) (by kernel_rfl) ?_
              obtain ⟨y33_0, hy33_0, H⟩ := bindE H
              refine s_call 109 18 #[] (by kernel_rfl) (by kernel_rfl) (fun _ => by kernel_rfl) (W10F_tr  y33_0 hy33_0) ?_
              rintro _ _ ⟨rfl, rfl⟩
              refine s_pure 2 (.bool y33_0) (by kernel_rfl) (by kernel_rfl) (fun _ => by kernel_rfl) ?_
              refine ops_end ?_
              refine At.env [(2, .bool y33_0)] ⟨by kernel_rfl, trivial⟩ ?_
              refine at_then_normal ?_
              refine at_ret (by kernel_rfl) ?_
              obtain rfl := someE H
              refine at_backR [.bool y33_0] (Γ) (rs := [.tmp 2]) (by kernel_rfl) (.cons (.tmp (by kernel_rfl)) .nil) (fun w hw => (Sat.less (.drop .here (.drop .here (.drop .here .refl))) hw)) ?_
              exact ⟨rfl, rfl⟩
end Go.Proofs.Ytpcffplbedbpkaa
