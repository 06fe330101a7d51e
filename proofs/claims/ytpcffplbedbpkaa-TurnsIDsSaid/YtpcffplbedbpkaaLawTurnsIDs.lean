/- The law TurnsIDs: its walk. -/
import Derived.Test.YtpcffplbedbpkaaTuA
namespace Go.Proofs.Ytpcffplbedbpkaa
open Go Go.RowKit
set_option linter.unusedVariables false
set_option linter.unusedSimpArgs false
def wakes10S : Option (Bool) :=
  (tnewS).bind fun y1_0 => (townerS y1_0 (3 : Int)).bind fun y2_4 => (bif decide (y2_4 = ((-1) : Int)) then (taskS y1_0 (3 : Int) (1 : Int) (0 : Int)).bind fun y2_9 => (bif y2_9.1 then (townerS y2_9.2 (3 : Int)).bind fun y2_13 => (bif decide (y2_13 = (1 : Int)) then (taskS y2_9.2 (3 : Int) (2 : Int) (0 : Int)).bind fun y2_18 => some !y2_18.1 else some false) else some false) else some false)
noncomputable def C18 (p : List Nat) : Code := codeAt (bodyOf Try.f18) p
set_option maxRecDepth 100000 in
set_option maxHeartbeats 8000000 in
theorem W10F_tr {W0 : World} {Γ : List Asn}   (y : Bool) (H : wakes10S = some y) : Tr Try.prog 18 #[] W0 (Γ) (fun r Δ => r = .bool y ∧ Δ = Γ) := by
  unfold wakes10S at H
  refine Tr.enter (fn := Try.f18) (c := C18 []) (args := []) 24 Try.func18 (by kernel_rfl) (by kernel_rfl) ?_
  refine At.env [] trivial ?_
  refine at_seq (x := C18 [0]) (y := C18 [1]) (by kernel_rfl) ?_
  refine at_region (id := 0) 1 (by kernel_rfl) (by kernel_rfl) ?_
  refine s_pure 0 (.bool false) (by kernel_rfl) (by kernel_rfl) (fun _ => by kernel_rfl) ?_
  refine ops_end ?_
  refine At.env [] trivial ?_
  refine at_then_normal ?_
  refine at_seq (x := C18 [1,0]) (y := C18 [1,1]) (by kernel_rfl) ?_
  refine at_region (id := 1) 2 (by kernel_rfl) (by kernel_rfl) ?_
  obtain ⟨y1_0, hy1_0, H⟩ := bindE H
  refine s_call 2 11 #[] (by kernel_rfl) (by kernel_rfl) (fun _ => by kernel_rfl) (TNewF_tr  y1_0 hy1_0) ?_
  rintro _ _ ⟨b1_0, rfl, rfl⟩
  refine s_pure 1 (.pointer (some ⟨b1_0, 0, none⟩)) (by kernel_rfl) (by kernel_rfl) (fun _ => by kernel_rfl) ?_
  refine ops_end ?_
  refine At.env [(1, .pointer (some ⟨b1_0, 0, none⟩))] ⟨by kernel_rfl, trivial⟩ ?_
  refine at_then_normal ?_
  refine at_seq (x := C18 [1,1,0]) (y := C18 [1,1,1]) (by kernel_rfl) ?_
  refine at_region (id := 2) 22 (by kernel_rfl) (by kernel_rfl) ?_
  refine s_pure 3 (.pointer (some ⟨b1_0, 0, none⟩)) (by kernel_rfl) (by kernel_rfl) (fun _ => by kernel_rfl) ?_
  refine s_pure 4 (.bool true) (by kernel_rfl) (by kernel_rfl) (fun _ => by kernel_rfl) ?_
  refine s_pure 5 (.bool true) (by kernel_rfl) (by kernel_rfl) (fun _ => by kernel_rfl) ?_
  refine s_pure 6 (.pointer (some ⟨b1_0, 0, none⟩)) (by kernel_rfl) (by kernel_rfl) (fun _ => by kernel_rfl) ?_
  obtain ⟨y2_4, hy2_4, H⟩ := bindE H
  refine s_call 7 17 #[.pointer (some ⟨b1_0, 0, none⟩), .int .i64 (3)] (by kernel_rfl) (by kernel_rfl) (fun _ => by kernel_rfl) (TOwnerF_tr b1_0 y1_0 (3 : Int) y2_4 hy2_4) ?_
  rintro _ _ ⟨rfl, rfl⟩
  refine s_pure 8 (.bool (decide (y2_4 = ((-1) : Int)))) (by kernel_rfl) (by kernel_rfl) (fun _ => by kernel_rfl) ?_
  refine s_pure 9 (.bool (decide (y2_4 = ((-1) : Int)))) (by kernel_rfl) (by kernel_rfl) (fun _ => by kernel_rfl) ?_
  rcases Bool.eq_false_or_eq_true (decide (y2_4 = ((-1) : Int))) with h1 | h1
  · replace H := bifT H h1
    refine s_pure 10 (.bool true) (by kernel_rfl) (by kernel_rfl) (run_eq (v := .bool (decide (y2_4 = ((-1) : Int)))) (fun _ => by kernel_rfl) (congrArg Value.bool h1)) ?_
    refine s_pure 11 (.pointer (some ⟨b1_0, 0, none⟩)) (by kernel_rfl) (by kernel_rfl) (fun _ => by kernel_rfl) ?_
    obtain ⟨y2_9, hy2_9, H⟩ := bindE H
    refine s_call 12 13 #[.pointer (some ⟨b1_0, 0, none⟩), .int .i64 (3), .int .i64 (1), .int .i64 (0)] (by kernel_rfl) (by kernel_rfl) (fun _ => by kernel_rfl) (TAskF_tr b1_0 y1_0 (3 : Int) (1 : Int) (0 : Int) y2_9 hy2_9) ?_
    rintro _ _ ⟨rfl, rfl⟩
    refine s_pure 13 (.bool y2_9.1) (by kernel_rfl) (by kernel_rfl) (fun _ => by kernel_rfl) ?_
    rcases Bool.eq_false_or_eq_true (y2_9.1) with h2 | h2
    · replace H := bifT H h2
      refine s_pure 14 (.bool true) (by kernel_rfl) (by kernel_rfl) (run_eq (v := .bool (y2_9.1)) (fun _ => by kernel_rfl) (congrArg Value.bool h2)) ?_
      refine s_pure 15 (.pointer (some ⟨b1_0, 0, none⟩)) (by kernel_rfl) (by kernel_rfl) (fun _ => by kernel_rfl) ?_
      obtain ⟨y2_13, hy2_13, H⟩ := bindE H
      refine s_call 16 17 #[.pointer (some ⟨b1_0, 0, none⟩), .int .i64 (3)] (by kernel_rfl) (by kernel_rfl) (fun _ => by kernel_rfl) (TOwnerF_tr b1_0 y2_9.2 (3 : Int) y2_13 hy2_13) ?_
      rintro _ _ ⟨rfl, rfl⟩
      refine s_pure 17 (.bool (decide (y2_13 = (1 : Int)))) (by kernel_rfl) (by kernel_rfl) (fun _ => by kernel_rfl) ?_
      refine s_pure 18 (.bool (decide (y2_13 = (1 : Int)))) (by kernel_rfl) (by kernel_rfl) (fun _ => by kernel_rfl) ?_
      rcases Bool.eq_false_or_eq_true (decide (y2_13 = (1 : Int))) with h3 | h3
      · replace H := bifT H h3
        refine s_pure 19 (.bool true) (by kernel_rfl) (by kernel_rfl) (run_eq (v := .bool (decide (y2_13 = (1 : Int)))) (fun _ => by kernel_rfl) (congrArg Value.bool h3)) ?_
        refine s_pure 20 (.pointer (some ⟨b1_0, 0, none⟩)) (by kernel_rfl) (by kernel_rfl) (fun _ => by kernel_rfl) ?_
        obtain ⟨y2_18, hy2_18, H⟩ := bindE H
        refine s_call 21 13 #[.pointer (some ⟨b1_0, 0, none⟩), .int .i64 (3), .int .i64 (2), .int .i64 (0)] (by kernel_rfl) (by kernel_rfl) (fun _ => by kernel_rfl) (TAskF_tr b1_0 y2_9.2 (3 : Int) (2 : Int) (0 : Int) y2_18 hy2_18) ?_
        rintro _ _ ⟨rfl, rfl⟩
        refine s_pure 22 (.bool !y2_18.1) (by kernel_rfl) (by kernel_rfl) (fun _ => by kernel_rfl) ?_
        refine s_pure 23 (.bool !y2_18.1) (by kernel_rfl) (by kernel_rfl) (fun _ => by kernel_rfl) ?_
        refine s_pure 0 (.bool !y2_18.1) (by kernel_rfl) (by kernel_rfl) (fun _ => by kernel_rfl) ?_
        refine ops_end ?_
        refine At.env [(0, .bool !y2_18.1)] ⟨by kernel_rfl, trivial⟩ ?_
        refine at_then_normal ?_
        refine at_ret (by kernel_rfl) ?_
        obtain rfl := someE H
        refine at_backR [.bool !y2_18.1] (Γ) (rs := [.tmp 0]) (by kernel_rfl) (.cons (.tmp (by kernel_rfl)) .nil) (fun w hw => (Sat.less (.drop .here .refl) hw)) ?_
        exact ⟨rfl, rfl⟩
      · replace H := bifF H h3
        refine s_pure 19 (.bool false) (by kernel_rfl) (by kernel_rfl) (run_eq (v := .bool (decide (y2_13 = (1 : Int)))) (fun _ => by kernel_rfl) (congrArg Value.bool h3)) ?_
        refine s_pass 20 (by kernel_rfl) (by kernel_rfl) ?_
        refine s_pass 21 (by kernel_rfl) (by kernel_rfl) ?_
        refine s_pass 22 (by kernel_rfl) (by kernel_rfl) ?_
        refine s_pure 23 (.bool false) (by kernel_rfl) (by kernel_rfl) (fun _ => by kernel_rfl) ?_
        refine s_pure 0 (.bool false) (by kernel_rfl) (by kernel_rfl) (fun _ => by kernel_rfl) ?_
        refine ops_end ?_
        refine At.env [(0, .bool false)] ⟨by kernel_rfl, trivial⟩ ?_
        refine at_then_normal ?_
        refine at_ret (by kernel_rfl) ?_
        obtain rfl := someE H
        refine at_backR [.bool false] (Γ) (rs := [.tmp 0]) (by kernel_rfl) (.cons (.tmp (by kernel_rfl)) .nil) (fun w hw => (Sat.less (.drop .here .refl) hw)) ?_
        exact ⟨rfl, rfl⟩
    · replace H := bifF H h2
      refine s_pure 14 (.bool false) (by kernel_rfl) (by kernel_rfl) (run_eq (v := .bool (y2_9.1)) (fun _ => by kernel_rfl) (congrArg Value.bool h2)) ?_
      refine s_pass 15 (by kernel_rfl) (by kernel_rfl) ?_
      refine s_pass 16 (by kernel_rfl) (by kernel_rfl) ?_
      refine s_pass 17 (by kernel_rfl) (by kernel_rfl) ?_
      refine s_pure 18 (.bool false) (by kernel_rfl) (by kernel_rfl) (fun _ => by kernel_rfl) ?_
      refine s_pure 19 (.bool false) (by kernel_rfl) (by kernel_rfl) (fun _ => by kernel_rfl) ?_
      refine s_pass 20 (by kernel_rfl) (by kernel_rfl) ?_
      refine s_pass 21 (by kernel_rfl) (by kernel_rfl) ?_
      refine s_pass 22 (by kernel_rfl) (by kernel_rfl) ?_
      refine s_pure 23 (.bool false) (by kernel_rfl) (by kernel_rfl) (fun _ => by kernel_rfl) ?_
      refine s_pure 0 (.bool false) (by kernel_rfl) (by kernel_rfl) (fun _ => by kernel_rfl) ?_
      refine ops_end ?_
      refine At.env [(0, .bool false)] ⟨by kernel_rfl, trivial⟩ ?_
      refine at_then_normal ?_
      refine at_ret (by kernel_rfl) ?_
      obtain rfl := someE H
      refine at_backR [.bool false] (Γ) (rs := [.tmp 0]) (by kernel_rfl) (.cons (.tmp (by kernel_rfl)) .nil) (fun w hw => (Sat.less (.drop .here .refl) hw)) ?_
      exact ⟨rfl, rfl⟩
  · replace H := bifF H h1
    refine s_pure 10 (.bool false) (by kernel_rfl) (by kernel_rfl) (run_eq (v := .bool (decide (y2_4 = ((-1) : Int)))) (fun _ => by kernel_rfl) (congrArg Value.bool h1)) ?_
    refine s_pass 11 (by kernel_rfl) (by kernel_rfl) ?_
    refine s_pass 12 (by kernel_rfl) (by kernel_rfl) ?_
    refine s_pure 13 (.bool false) (by kernel_rfl) (by kernel_rfl) (fun _ => by kernel_rfl) ?_
    refine s_pure 14 (.bool false) (by kernel_rfl) (by kernel_rfl) (fun _ => by kernel_rfl) ?_
    refine s_pass 15 (by kernel_rfl) (by kernel_rfl) ?_
    refine s_pass 16 (by kernel_rfl) (by kernel_rfl) ?_
    refine s_pass 17 (by kernel_rfl) (by kernel_rfl) ?_
    refine s_pure 18 (.bool false) (by kernel_rfl) (by kernel_rfl) (fun _ => by kernel_rfl) ?_
    refine s_pure 19 (.bool false) (by kernel_rfl) (by kernel_rfl) (fun _ => by kernel_rfl) ?_
    refine s_pass 20 (by kernel_rfl) (by kernel_rfl) ?_
    refine s_pass 21 (by kernel_rfl) (by kernel_rfl) ?_
    refine s_pass 22 (by kernel_rfl) (by kernel_rfl) ?_
    refine s_pure 23 (.bool false) (by kernel_rfl) (by kernel_rfl) (fun _ => by kernel_rfl) ?_
    refine s_pure 0 (.bool false) (by kernel_rfl) (by kernel_rfl) (fun _ => by kernel_rfl) ?_
    refine ops_end ?_
    refine At.env [(0, .bool false)] ⟨by kernel_rfl, trivial⟩ ?_
    refine at_then_normal ?_
    refine at_ret (by kernel_rfl) ?_
    obtain rfl := someE H
    refine at_backR [.bool false] (Γ) (rs := [.tmp 0]) (by kernel_rfl) (.cons (.tmp (by kernel_rfl)) .nil) (fun w hw => (Sat.less (.drop .here .refl) hw)) ?_
    exact ⟨rfl, rfl⟩
def turnsIDsS_j3 (v1_8 : Int) (r1 : Int → Int → TurnsS → Option (Bool)) (y17_2 : Int × Int × Bool × TurnsS) (e3_85 : Bool) : Option (Bool) :=
  (bif e3_85 then some false else chk (inR (v1_8 + (1 : Int))) (r1 y17_2.1 (v1_8 + (1 : Int)) y17_2.2.2.2))
def turnsIDsS_j2 (v1_b1_0 : TurnsS) (y4_1 : Int) (v1_7 : Int) (v1_8 : Int) (r1 : Int → Int → TurnsS → Option (Bool)) (ids : List Int) (k1 : Int → Int → TurnsS → Option (Bool)) (e2_56 : Bool) : Option (Bool) :=
  (bif e2_56 then (treleaseS v1_b1_0 y4_1 v1_7).bind fun y15_3 => (bif !(decide (y15_3.1 = (0 : Int))) then some false else (tnextS y15_3.2 y4_1).bind fun y17_2 => (bif !y17_2.2.2.1 then turnsIDsS_j3 v1_8 r1 y17_2 true else (bif !(decide (y17_2.1 = v1_8)) then turnsIDsS_j3 v1_8 r1 y17_2 true else chk (0 ≤ v1_8 ∧ v1_8 < ((ids.length : Nat) : Int)) (turnsIDsS_j3 v1_8 r1 y17_2 (!(decide (y17_2.2.1 = (nth ids v1_8)))))))) else k1 v1_7 v1_8 v1_b1_0)
def turnsIDsS_k1 (y4_1 : Int) (e1_7 : Int) (e1_8 : Int) (e1_b1_0 : TurnsS) : Option (Bool) :=
  (tnextS e1_b1_0 (wr (y4_1 + (1 : Int)))).bind fun y21_3 => (bif !y21_3.2.2.1 then (townerS y21_3.2.2.2 (wr (y4_1 + (1 : Int)))).bind fun y22_6 => (bif decide (y22_6 = ((-1) : Int)) then (twaitingS y21_3.2.2.2 (wr (y4_1 + (1 : Int)))).bind fun y22_13 => (bif decide (y22_13 = (0 : Int)) then (treleaseS y21_3.2.2.2 (wr (y4_1 + (1 : Int))) (0 : Int)).bind fun y22_20 => (bif decide (y22_20.1 = (6 : Int)) then (taskS y22_20.2 (wr (y4_1 + (1 : Int))) ((-1) : Int) (0 : Int)).bind fun y22_27 => (bif !y22_27.1 then (townerS y22_27.2 (wr (y4_1 + (1 : Int)))).bind fun y22_34 => (bif decide (y22_34 = ((-1) : Int)) then (wakes10S).bind fun y22_38 => some y22_38 else some false) else some false) else some false) else some false) else some false) else some false)
def turnsIDsS_l1 (ids : List Int) (y4_1 : Int) (k1 : Int → Int → TurnsS → Option (Bool)) : Nat → Int → Int → TurnsS → Option (Bool)
  | 0 => fun _ _ _ => none
  | m + 1 => fun v1_7 v1_8 v1_b1_0 => (bif decide (v1_8 < (((List.length ids) : Nat) : Int)) then turnsIDsS_j2 v1_b1_0 y4_1 v1_7 v1_8 (turnsIDsS_l1 ids y4_1 k1 m) ids k1 (decide (v1_8 < (10 : Int))) else turnsIDsS_j2 v1_b1_0 y4_1 v1_7 v1_8 (turnsIDsS_l1 ids y4_1 k1 m) ids k1 false)
def turnsIDsS_j5 (v0_6 : Int) (r0 : Int → TurnsS → Option (Bool)) (e5_48 : Bool) (e5_b1_0 : TurnsS) : Option (Bool) :=
  (bif e5_48 then some false else chk (inR (v0_6 + (1 : Int))) (r0 (v0_6 + (1 : Int)) e5_b1_0))
def turnsIDsS_j4 (v0_6 : Int) (ids : List Int) (v0_b1_0 : TurnsS) (y4_1 : Int) (r0 : Int → TurnsS → Option (Bool)) (k0 : Int → TurnsS → Option (Bool)) (e4_30 : Bool) : Option (Bool) :=
  (bif e4_30 then chk (0 ≤ v0_6 ∧ v0_6 < ((ids.length : Nat) : Int)) ((taskS v0_b1_0 y4_1 v0_6 (nth ids v0_6)).bind fun y9_7 => (bif y9_7.1 then turnsIDsS_j5 v0_6 r0 true y9_7.2 else (twaitingS y9_7.2 y4_1).bind fun y9_11 => chk (inR (v0_6 + (1 : Int))) (turnsIDsS_j5 v0_6 r0 (!(decide (y9_11 = (v0_6 + (1 : Int))))) y9_7.2))) else k0 v0_6 v0_b1_0)
def turnsIDsS_k0 (ids : List Int) (y4_1 : Int) (e0_6 : Int) (e0_b1_0 : TurnsS) : Option (Bool) :=
  turnsIDsS_l1 ids y4_1 (turnsIDsS_k1 y4_1) 64 0 0 e0_b1_0
def turnsIDsS_l0 (ids : List Int) (y4_1 : Int) (k0 : Int → TurnsS → Option (Bool)) : Nat → Int → TurnsS → Option (Bool)
  | 0 => fun _ _ => none
  | m + 1 => fun v0_6 v0_b1_0 => (bif decide (v0_6 < (((List.length ids) : Nat) : Int)) then turnsIDsS_j4 v0_6 ids v0_b1_0 y4_1 (turnsIDsS_l0 ids y4_1 k0 m) k0 (decide (v0_6 < (10 : Int))) else turnsIDsS_j4 v0_6 ids v0_b1_0 y4_1 (turnsIDsS_l0 ids y4_1 k0 m) k0 false)
def turnsIDsS (ids : List Int) (line : Int) : Option (Bool) :=
  (tnewS).bind fun y1_0 => (withinS line (50 : Int)).bind fun y4_1 => (taskS y1_0 y4_1 (0 : Int) ((-1) : Int)).bind fun y5_2 => turnsIDsS_l0 ids y4_1 (turnsIDsS_k0 ids y4_1) 64 0 y5_2.2
noncomputable def C3 (p : List Nat) : Code := codeAt (bodyOf Try.f3) p
set_option maxRecDepth 100000 in
set_option maxHeartbeats 8000000 in
theorem TurnsIDsF_tr {W0 : World} {Γ : List Asn} (idsa : Option Addr) (idscap : Nat) (ids : List Int) (line : Int) (hridsa : Reads W0 Γ idsa (ints ids)) (y : Bool) (H : turnsIDsS ids line = some y) : Tr Try.prog 3 #[.slice idsa (List.length ids) idscap, .int .i64 line] W0 (Γ) (fun r Δ => r = .bool y ∧ Δ = Γ) := by
  unfold turnsIDsS at H
  refine Tr.enter (fn := Try.f3) (c := C3 []) (args := [.slice idsa (List.length ids) idscap, .int .i64 line]) 135 Try.func3 (by kernel_rfl) (by kernel_rfl) ?_
  refine At.env [(0, .slice idsa (List.length ids) idscap), (1, .int .i64 line)] ⟨by kernel_rfl, by kernel_rfl, trivial⟩ ?_
  refine at_seq (x := C3 [0]) (y := C3 [1]) (by kernel_rfl) ?_
  refine at_region (id := 0) 1 (by kernel_rfl) (by kernel_rfl) ?_
  refine s_pure 4 (.bool false) (by kernel_rfl) (by kernel_rfl) (fun _ => by kernel_rfl) ?_
  refine ops_end ?_
  refine At.env [(0, .slice idsa (List.length ids) idscap), (1, .int .i64 line)] ⟨by kernel_rfl, by kernel_rfl, trivial⟩ ?_
  refine at_then_normal ?_
  refine at_seq (x := C3 [1,0]) (y := C3 [1,1]) (by kernel_rfl) ?_
  refine at_region (id := 1) 2 (by kernel_rfl) (by kernel_rfl) ?_
  obtain ⟨y1_0, hy1_0, H⟩ := bindE H
  refine s_call 15 11 #[] (by kernel_rfl) (by kernel_rfl) (fun _ => by kernel_rfl) (TNewF_tr  y1_0 hy1_0) ?_
  rintro _ _ ⟨b1_0, rfl, rfl⟩
  refine s_pure 5 (.pointer (some ⟨b1_0, 0, none⟩)) (by kernel_rfl) (by kernel_rfl) (fun _ => by kernel_rfl) ?_
  refine ops_end ?_
  refine At.env [(0, .slice idsa (List.length ids) idscap), (1, .int .i64 line), (5, .pointer (some ⟨b1_0, 0, none⟩))] ⟨by kernel_rfl, by kernel_rfl, by kernel_rfl, trivial⟩ ?_
  refine at_then_normal ?_
  refine at_seq (x := C3 [1,1,0]) (y := C3 [1,1,1]) (by kernel_rfl) ?_
  refine at_seq (x := C3 [1,1,0,0]) (y := C3 [1,1,0,1]) (by kernel_rfl) ?_
  refine at_region (id := 2) 2 (by kernel_rfl) (by kernel_rfl) ?_
  refine s_pure 16 (.pointer (some ⟨b1_0, 0, none⟩)) (by kernel_rfl) (by kernel_rfl) (fun _ => by kernel_rfl) ?_
  refine s_pure 17 (.bool false) (by kernel_rfl) (by kernel_rfl) (fun _ => by kernel_rfl) ?_
  refine ops_end ?_
  refine At.env [(0, .slice idsa (List.length ids) idscap), (1, .int .i64 line), (5, .pointer (some ⟨b1_0, 0, none⟩)), (17, .bool false)] ⟨by kernel_rfl, by kernel_rfl, by kernel_rfl, by kernel_rfl, trivial⟩ ?_
  refine at_then_normal ?_
  refine at_false (t := false) (x := C3 [1,1,0,1,0]) (y := C3 [1,1,0,1,1]) (o := .tmp 17) (by kernel_rfl) (by kernel_rfl) (by kernel_rfl) rfl ?_
  refine at_skip (by kernel_rfl) ?_
  refine at_then_normal ?_
  refine at_seq (x := C3 [1,1,1,0]) (y := C3 [1,1,1,1]) (by kernel_rfl) ?_
  refine at_region (id := 4) 3 (by kernel_rfl) (by kernel_rfl) ?_
  refine s_pure 18 (.int .i64 line) (by kernel_rfl) (by kernel_rfl) (fun _ => by kernel_rfl) ?_
  obtain ⟨y4_1, hy4_1, H⟩ := bindE H
  refine s_quiet 19 (.int .i64 y4_1) 12 #[.int .i64 line, .int .i64 (50)] (by kernel_rfl) (by kernel_rfl) (fun _ => by kernel_rfl) (WithinF_tr line (50 : Int) y4_1 hy4_1) ?_
  refine s_pure 1 (.int .i64 y4_1) (by kernel_rfl) (by kernel_rfl) (fun _ => by kernel_rfl) ?_
  refine ops_end ?_
  refine At.env [(0, .slice idsa (List.length ids) idscap), (1, .int .i64 y4_1), (5, .pointer (some ⟨b1_0, 0, none⟩))] ⟨by kernel_rfl, by kernel_rfl, by kernel_rfl, trivial⟩ ?_
  refine at_then_normal ?_
  refine at_seq (x := C3 [1,1,1,1,0]) (y := C3 [1,1,1,1,1]) (by kernel_rfl) ?_
  refine at_region (id := 5) 3 (by kernel_rfl) (by kernel_rfl) ?_
  refine s_pure 20 (.pointer (some ⟨b1_0, 0, none⟩)) (by kernel_rfl) (by kernel_rfl) (fun _ => by kernel_rfl) ?_
  refine s_pure 21 (.int .i64 y4_1) (by kernel_rfl) (by kernel_rfl) (fun _ => by kernel_rfl) ?_
  obtain ⟨y5_2, hy5_2, H⟩ := bindE H
  refine s_call 22 13 #[.pointer (some ⟨b1_0, 0, none⟩), .int .i64 y4_1, .int .i64 (0), .int .i64 (-1)] (by kernel_rfl) (by kernel_rfl) (fun _ => by kernel_rfl) (TAskF_tr b1_0 y1_0 y4_1 (0 : Int) ((-1) : Int) y5_2 hy5_2) ?_
  rintro _ _ ⟨rfl, rfl⟩
  refine ops_end ?_
  refine At.env [(0, .slice idsa (List.length ids) idscap), (1, .int .i64 y4_1), (5, .pointer (some ⟨b1_0, 0, none⟩))] ⟨by kernel_rfl, by kernel_rfl, by kernel_rfl, trivial⟩ ?_
  refine at_then_normal ?_
  refine at_seq (x := C3 [1,1,1,1,1,0]) (y := C3 [1,1,1,1,1,1]) (by kernel_rfl) ?_
  refine at_seq (x := C3 [1,1,1,1,1,0,0]) (y := C3 [1,1,1,1,1,0,1]) (by kernel_rfl) ?_
  refine at_region (id := 6) 1 (by kernel_rfl) (by kernel_rfl) ?_
  refine s_pure 6 (.int .i64 (0)) (by kernel_rfl) (by kernel_rfl) (fun _ => by kernel_rfl) ?_
  refine ops_end ?_
  refine At.env [(0, .slice idsa (List.length ids) idscap), (1, .int .i64 y4_1), (5, .pointer (some ⟨b1_0, 0, none⟩)), (6, .int .i64 (0))] ⟨by kernel_rfl, by kernel_rfl, by kernel_rfl, by kernel_rfl, trivial⟩ ?_
  refine at_then_normal ?_
  refine at_block (i := 0) (x := C3 [1,1,1,1,1,0,1,0]) (by kernel_rfl) ?_
  refine At.conv (Γ' := (TurnsA b1_0 y5_2.2) :: Γ) (fun w hw => (Sat.less (.take .here .refl) hw)) ?_
  refine at_loopR (x := C3 [1,1,1,1,1,0,1,0,0]) (fun mm ff ΔΔ => ∃ (fuel : Nat) (v0_6 : Int) (v0_b1_0 : TurnsS), turnsIDsS_l0 ids y4_1 (turnsIDsS_k0 ids y4_1) fuel v0_6 v0_b1_0 = some y ∧ fuel = mm ∧ ff = [(0, .slice idsa (List.length ids) idscap), (1, .int .i64 y4_1), (5, .pointer (some ⟨b1_0, 0, none⟩)), (6, .int .i64 v0_6)] ∧ (TurnsA b1_0 v0_b1_0) :: Γ = ΔΔ) (64) (by kernel_rfl) [(0, .slice idsa (List.length ids) idscap), (1, .int .i64 y4_1), (5, .pointer (some ⟨b1_0, 0, none⟩)), (6, .int .i64 0)] ⟨by kernel_rfl, by kernel_rfl, by kernel_rfl, by kernel_rfl, trivial⟩ ⟨64, 0, y5_2.2, H, rfl, rfl, rfl⟩ ?_
  rintro _ _ _ ⟨fuel1, v0_6, v0_b1_0, H, rfl, rfl, rfl⟩
  rcases fuel1 with _ | fuel1
  · exact (noneE H).elim
  rw [turnsIDsS_l0] at H
  refine at_seq (x := C3 [1,1,1,1,1,0,1,0,0,0]) (y := C3 [1,1,1,1,1,0,1,0,0,1]) (by kernel_rfl) ?_
  refine at_seq_join (x := C3 [1,1,1,1,1,0,1,0,0,0,0]) (y := C3 [1,1,1,1,1,0,1,0,0,0,1]) (fun ff ΔΔ => ∃ (e4_30 : Bool), turnsIDsS_j4 v0_6 ids v0_b1_0 y4_1 (turnsIDsS_l0 ids y4_1 (turnsIDsS_k0 ids y4_1) fuel1) (turnsIDsS_k0 ids y4_1) e4_30 = some y ∧ ff = [(0, .slice idsa (List.length ids) idscap), (1, .int .i64 y4_1), (5, .pointer (some ⟨b1_0, 0, none⟩)), (6, .int .i64 v0_6), (30, .bool e4_30)] ∧ (TurnsA b1_0 v0_b1_0) :: Γ = ΔΔ) (by kernel_rfl) ?_ ?_
  · rintro _ _ ⟨e4_30, H, rfl, rfl⟩
    rw [turnsIDsS_j4] at H
    rcases Bool.eq_false_or_eq_true (e4_30) with h1 | h1
    · replace H := bifT H h1
      refine at_true (t := e4_30) (x := C3 [1,1,1,1,1,0,1,0,0,0,1,0]) (y := C3 [1,1,1,1,1,0,1,0,0,0,1,1]) (o := .tmp 30) (by kernel_rfl) (by kernel_rfl) (by kernel_rfl) h1 ?_
      refine at_skip (by kernel_rfl) ?_
      refine at_then_normal ?_
      refine at_seq (x := C3 [1,1,1,1,1,0,1,0,0,1,0]) (y := C3 [1,1,1,1,1,0,1,0,0,1,1]) (by kernel_rfl) ?_
      refine at_block (i := 1) (x := C3 [1,1,1,1,1,0,1,0,0,1,0,0]) (by kernel_rfl) ?_
      refine at_seq_join (x := C3 [1,1,1,1,1,0,1,0,0,1,0,0,0]) (y := C3 [1,1,1,1,1,0,1,0,0,1,0,0,1]) (fun ff ΔΔ => ∃ (e5_48 : Bool) (e5_b1_0 : TurnsS), turnsIDsS_j5 v0_6 (turnsIDsS_l0 ids y4_1 (turnsIDsS_k0 ids y4_1) fuel1) e5_48 e5_b1_0 = some y ∧ ff = [(0, .slice idsa (List.length ids) idscap), (1, .int .i64 y4_1), (5, .pointer (some ⟨b1_0, 0, none⟩)), (6, .int .i64 v0_6), (48, .bool e5_48)] ∧ (TurnsA b1_0 e5_b1_0) :: Γ = ΔΔ) (by kernel_rfl) ?_ ?_
      · rintro _ _ ⟨e5_48, e5_b1_0, H, rfl, rfl⟩
        rw [turnsIDsS_j5] at H
        rcases Bool.eq_false_or_eq_true (e5_48) with h2 | h2
        · replace H := bifT H h2
          refine at_true (t := e5_48) (x := C3 [1,1,1,1,1,0,1,0,0,1,0,0,1,0]) (y := C3 [1,1,1,1,1,0,1,0,0,1,0,0,1,1]) (o := .tmp 48) (by kernel_rfl) (by kernel_rfl) (by kernel_rfl) h2 ?_
          refine at_seq (x := C3 [1,1,1,1,1,0,1,0,0,1,0,0,1,0,0]) (y := C3 [1,1,1,1,1,0,1,0,0,1,0,0,1,0,1]) (by kernel_rfl) ?_
          refine at_region (id := 10) 1 (by kernel_rfl) (by kernel_rfl) ?_
          refine s_pure 4 (.bool false) (by kernel_rfl) (by kernel_rfl) (fun _ => by kernel_rfl) ?_
          refine ops_end ?_
          refine At.env [(4, .bool false)] ⟨by kernel_rfl, trivial⟩ ?_
          refine at_then_normal ?_
          refine at_ret (by kernel_rfl) ?_
          refine at_in_ret ?_
          refine at_then_ret ?_
          refine at_then_ret ?_
          refine at_in_ret ?_
          refine at_then_ret ?_
          obtain rfl := someE H
          refine at_backR [.bool false] (Γ) (rs := [.tmp 4]) (by kernel_rfl) (.cons (.tmp (by kernel_rfl)) .nil) (fun w hw => (Sat.less (.drop .here .refl) hw)) ?_
          exact ⟨rfl, rfl⟩
        · replace H := bifF H h2
          refine at_false (t := e5_48) (x := C3 [1,1,1,1,1,0,1,0,0,1,0,0,1,0]) (y := C3 [1,1,1,1,1,0,1,0,0,1,0,0,1,1]) (o := .tmp 48) (by kernel_rfl) (by kernel_rfl) (by kernel_rfl) h2 ?_
          refine at_skip (by kernel_rfl) ?_
          refine at_in_normal ?_
          refine at_then_normal ?_
          refine at_region (id := 8) 3 (by kernel_rfl) (by kernel_rfl) ?_
          refine s_pure 31 (.int .i64 v0_6) (by kernel_rfl) (by kernel_rfl) (fun _ => by kernel_rfl) ?_
          obtain ⟨hc8_1_0, H⟩ := chkE H
          refine s_pure 32 (.int .i64 (v0_6 + (1 : Int))) (by kernel_rfl) (by kernel_rfl) (run_eq (v := .int .i64 (IntKind.i64.wrap (v0_6 + (1 : Int)))) (fun _ => by kernel_rfl) (by rw [inR.wrap hc8_1_0])) ?_
          refine s_pure 6 (.int .i64 (v0_6 + (1 : Int))) (by kernel_rfl) (by kernel_rfl) (fun _ => by kernel_rfl) ?_
          refine ops_end ?_
          refine At.env [(0, .slice idsa (List.length ids) idscap), (1, .int .i64 y4_1), (5, .pointer (some ⟨b1_0, 0, none⟩)), (6, .int .i64 (v0_6 + (1 : Int)))] ⟨by kernel_rfl, by kernel_rfl, by kernel_rfl, by kernel_rfl, trivial⟩ ?_
          refine at_round_normal ?_
          exact at_roundR fuel1 [(0, .slice idsa (List.length ids) idscap), (1, .int .i64 y4_1), (5, .pointer (some ⟨b1_0, 0, none⟩)), (6, .int .i64 (v0_6 + (1 : Int)))] ((TurnsA b1_0 e5_b1_0) :: Γ) (Nat.lt_succ_self _) ⟨by kernel_rfl, by kernel_rfl, by kernel_rfl, by kernel_rfl, trivial⟩ (fun w hw => (Sat.less (.take .here .refl) hw)) ⟨fuel1, v0_6 + (1 : Int), e5_b1_0, H, rfl, rfl, rfl⟩
      · refine at_region (id := 9) 16 (by kernel_rfl) (by kernel_rfl) ?_
        refine s_pure 33 (.pointer (some ⟨b1_0, 0, none⟩)) (by kernel_rfl) (by kernel_rfl) (fun _ => by kernel_rfl) ?_
        refine s_pure 34 (.int .i64 y4_1) (by kernel_rfl) (by kernel_rfl) (fun _ => by kernel_rfl) ?_
        refine s_pure 35 (.int .i64 v0_6) (by kernel_rfl) (by kernel_rfl) (fun _ => by kernel_rfl) ?_
        refine s_pure 36 (.slice idsa (List.length ids) idscap) (by kernel_rfl) (by kernel_rfl) (fun _ => by kernel_rfl) ?_
        refine s_pure 37 (.int .i64 v0_6) (by kernel_rfl) (by kernel_rfl) (fun _ => by kernel_rfl) ?_
        obtain ⟨hc9_5_0, H⟩ := chkE H
        refine reads_at (Reads.conv (fun w hw => hw.less (.drop .here .refl)) hridsa) (by have := hc9_5_0; omega) ?_
        intro bb1 oo1 ha1
        refine s_pure 38 (.pointer (some ⟨bb1, oo1 + ((v0_6).toNat * 1 + 0), none⟩)) (by kernel_rfl) (by kernel_rfl) (index_at (t := 22) (sz := 1) (E := 3) (a := idsa) (m := (List.length ids)) (c := idscap) (b := bb1) (off := oo1) (i := (v0_6).toNat) (tinfo 3) (fun _ => by kernel_rfl) (by kernel_rfl) (by kernel_rfl) (by kernel_rfl) ha1 (idx_cast hc9_5_0) (idx_nat hc9_5_0) rfl) ?_
        refine s_load 39 (.int .i64 (nth ids v0_6)) (by kernel_rfl) (by kernel_rfl) (load1_at (off := oo1 + ((v0_6).toNat * 1 + 0)) (v := .int .i64 (nth ids v0_6)) (fun _ => by kernel_rfl) rfl (reads_cell (k := 1) (Reads.conv (fun w hw => hw.less (.drop .here .refl)) hridsa) (ints_rows _) ha1 (nth_row hc9_5_0) (show [(.int .i64 (nth ids v0_6) : Value)][0]? = some _ from rfl))) ?_
        obtain ⟨y9_7, hy9_7, H⟩ := bindE H
        refine s_call 40 13 #[.pointer (some ⟨b1_0, 0, none⟩), .int .i64 y4_1, .int .i64 v0_6, .int .i64 (nth ids v0_6)] (by kernel_rfl) (by kernel_rfl) (fun _ => by kernel_rfl) (TAskF_tr b1_0 v0_b1_0 y4_1 v0_6 (nth ids v0_6) y9_7 hy9_7) ?_
        rintro _ _ ⟨rfl, rfl⟩
        rcases Bool.eq_false_or_eq_true (y9_7.1) with h3 | h3
        · replace H := bifT H h3
          refine s_pure 41 (.bool true) (by kernel_rfl) (by kernel_rfl) (run_eq (v := .bool (y9_7.1)) (fun _ => by kernel_rfl) (congrArg Value.bool h3)) ?_
          refine s_pass 42 (by kernel_rfl) (by kernel_rfl) ?_
          refine s_pass 43 (by kernel_rfl) (by kernel_rfl) ?_
          refine s_pass 44 (by kernel_rfl) (by kernel_rfl) ?_
          refine s_pass 45 (by kernel_rfl) (by kernel_rfl) ?_
          refine s_pass 46 (by kernel_rfl) (by kernel_rfl) ?_
          refine s_pass 47 (by kernel_rfl) (by kernel_rfl) ?_
          refine s_pure 48 (.bool true) (by kernel_rfl) (by kernel_rfl) (fun _ => by kernel_rfl) ?_
          refine ops_end ?_
          refine At.env [(0, .slice idsa (List.length ids) idscap), (1, .int .i64 y4_1), (5, .pointer (some ⟨b1_0, 0, none⟩)), (6, .int .i64 v0_6), (48, .bool true)] ⟨by kernel_rfl, by kernel_rfl, by kernel_rfl, by kernel_rfl, by kernel_rfl, trivial⟩ ?_
          refine at_round_normal ?_
          exact at_join_mk [(0, .slice idsa (List.length ids) idscap), (1, .int .i64 y4_1), (5, .pointer (some ⟨b1_0, 0, none⟩)), (6, .int .i64 v0_6), (48, .bool true)] ((TurnsA b1_0 y9_7.2) :: Γ) ⟨by kernel_rfl, by kernel_rfl, by kernel_rfl, by kernel_rfl, by kernel_rfl, trivial⟩ (fun w hw => (Sat.less (.take .here .refl) hw)) ⟨true, y9_7.2, H, rfl, rfl⟩
        · replace H := bifF H h3
          refine s_pure 41 (.bool false) (by kernel_rfl) (by kernel_rfl) (run_eq (v := .bool (y9_7.1)) (fun _ => by kernel_rfl) (congrArg Value.bool h3)) ?_
          refine s_pure 42 (.pointer (some ⟨b1_0, 0, none⟩)) (by kernel_rfl) (by kernel_rfl) (fun _ => by kernel_rfl) ?_
          refine s_pure 43 (.int .i64 y4_1) (by kernel_rfl) (by kernel_rfl) (fun _ => by kernel_rfl) ?_
          obtain ⟨y9_11, hy9_11, H⟩ := bindE H
          refine s_call 44 14 #[.pointer (some ⟨b1_0, 0, none⟩), .int .i64 y4_1] (by kernel_rfl) (by kernel_rfl) (fun _ => by kernel_rfl) (TWaitingF_tr b1_0 y9_7.2 y4_1 y9_11 hy9_11) ?_
          rintro _ _ ⟨rfl, rfl⟩
          refine s_pure 45 (.int .i64 v0_6) (by kernel_rfl) (by kernel_rfl) (fun _ => by kernel_rfl) ?_
          obtain ⟨hc9_13_0, H⟩ := chkE H
          refine s_pure 46 (.int .i64 (v0_6 + (1 : Int))) (by kernel_rfl) (by kernel_rfl) (run_eq (v := .int .i64 (IntKind.i64.wrap (v0_6 + (1 : Int)))) (fun _ => by kernel_rfl) (by rw [inR.wrap hc9_13_0])) ?_
          refine s_pure 47 (.bool (!(decide (y9_11 = (v0_6 + (1 : Int)))))) (by kernel_rfl) (by kernel_rfl) (fun _ => by kernel_rfl) ?_
          refine s_pure 48 (.bool (!(decide (y9_11 = (v0_6 + (1 : Int)))))) (by kernel_rfl) (by kernel_rfl) (fun _ => by kernel_rfl) ?_
          refine ops_end ?_
          refine At.env [(0, .slice idsa (List.length ids) idscap), (1, .int .i64 y4_1), (5, .pointer (some ⟨b1_0, 0, none⟩)), (6, .int .i64 v0_6), (48, .bool (!(decide (y9_11 = (v0_6 + (1 : Int))))))] ⟨by kernel_rfl, by kernel_rfl, by kernel_rfl, by kernel_rfl, by kernel_rfl, trivial⟩ ?_
          refine at_round_normal ?_
          exact at_join_mk [(0, .slice idsa (List.length ids) idscap), (1, .int .i64 y4_1), (5, .pointer (some ⟨b1_0, 0, none⟩)), (6, .int .i64 v0_6), (48, .bool (!(decide (y9_11 = (v0_6 + (1 : Int))))))] ((TurnsA b1_0 y9_7.2) :: Γ) ⟨by kernel_rfl, by kernel_rfl, by kernel_rfl, by kernel_rfl, by kernel_rfl, trivial⟩ (fun w hw => (Sat.less (.take .here .refl) hw)) ⟨!(decide (y9_11 = (v0_6 + (1 : Int)))), y9_7.2, H, rfl, rfl⟩
    · replace H := bifF H h1
      refine at_false (t := e4_30) (x := C3 [1,1,1,1,1,0,1,0,0,0,1,0]) (y := C3 [1,1,1,1,1,0,1,0,0,0,1,1]) (o := .tmp 30) (by kernel_rfl) (by kernel_rfl) (by kernel_rfl) h1 ?_
      refine at_exit (i := 0) (by kernel_rfl) ?_
      refine at_then_exit ?_
      refine at_then_exit ?_
      rw [turnsIDsS_k0] at H
      refine At.env [(0, .slice idsa (List.length ids) idscap), (1, .int .i64 y4_1), (5, .pointer (some ⟨b1_0, 0, none⟩)), (6, .int .i64 v0_6)] ⟨by kernel_rfl, by kernel_rfl, by kernel_rfl, by kernel_rfl, trivial⟩ ?_
      refine At.conv (Γ' := (TurnsA b1_0 v0_b1_0) :: Γ) (fun w hw => (Sat.less (.take .here .refl) hw)) ?_
      refine at_in_here ?_
      refine at_then_normal ?_
      refine at_seq (x := C3 [1,1,1,1,1,1,0]) (y := C3 [1,1,1,1,1,1,1]) (by kernel_rfl) ?_
      refine at_region (id := 11) 1 (by kernel_rfl) (by kernel_rfl) ?_
      refine s_pure 7 (.int .i64 (0)) (by kernel_rfl) (by kernel_rfl) (fun _ => by kernel_rfl) ?_
      refine ops_end ?_
      refine At.env [(0, .slice idsa (List.length ids) idscap), (1, .int .i64 y4_1), (5, .pointer (some ⟨b1_0, 0, none⟩)), (7, .int .i64 (0))] ⟨by kernel_rfl, by kernel_rfl, by kernel_rfl, by kernel_rfl, trivial⟩ ?_
      refine at_then_normal ?_
      refine at_seq (x := C3 [1,1,1,1,1,1,1,0]) (y := C3 [1,1,1,1,1,1,1,1]) (by kernel_rfl) ?_
      refine at_seq (x := C3 [1,1,1,1,1,1,1,0,0]) (y := C3 [1,1,1,1,1,1,1,0,1]) (by kernel_rfl) ?_
      refine at_region (id := 12) 1 (by kernel_rfl) (by kernel_rfl) ?_
      refine s_pure 8 (.int .i64 (0)) (by kernel_rfl) (by kernel_rfl) (fun _ => by kernel_rfl) ?_
      refine ops_end ?_
      refine At.env [(0, .slice idsa (List.length ids) idscap), (1, .int .i64 y4_1), (5, .pointer (some ⟨b1_0, 0, none⟩)), (7, .int .i64 (0)), (8, .int .i64 (0))] ⟨by kernel_rfl, by kernel_rfl, by kernel_rfl, by kernel_rfl, by kernel_rfl, trivial⟩ ?_
      refine at_then_normal ?_
      refine at_block (i := 2) (x := C3 [1,1,1,1,1,1,1,0,1,0]) (by kernel_rfl) ?_
      refine At.conv (Γ' := (TurnsA b1_0 v0_b1_0) :: Γ) (fun w hw => (Sat.less (.take .here .refl) hw)) ?_
      refine at_loopR (x := C3 [1,1,1,1,1,1,1,0,1,0,0]) (fun mm ff ΔΔ => ∃ (fuel : Nat) (v1_7 : Int) (v1_8 : Int) (v1_b1_0 : TurnsS), turnsIDsS_l1 ids y4_1 (turnsIDsS_k1 y4_1) fuel v1_7 v1_8 v1_b1_0 = some y ∧ fuel = mm ∧ ff = [(0, .slice idsa (List.length ids) idscap), (1, .int .i64 y4_1), (5, .pointer (some ⟨b1_0, 0, none⟩)), (7, .int .i64 v1_7), (8, .int .i64 v1_8)] ∧ (TurnsA b1_0 v1_b1_0) :: Γ = ΔΔ) (64) (by kernel_rfl) [(0, .slice idsa (List.length ids) idscap), (1, .int .i64 y4_1), (5, .pointer (some ⟨b1_0, 0, none⟩)), (7, .int .i64 0), (8, .int .i64 0)] ⟨by kernel_rfl, by kernel_rfl, by kernel_rfl, by kernel_rfl, by kernel_rfl, trivial⟩ ⟨64, 0, 0, v0_b1_0, H, rfl, rfl, rfl⟩ ?_
      rintro _ _ _ ⟨fuel2, v1_7, v1_8, v1_b1_0, H, rfl, rfl, rfl⟩
      rcases fuel2 with _ | fuel2
      · exact (noneE H).elim
      rw [turnsIDsS_l1] at H
      refine at_seq (x := C3 [1,1,1,1,1,1,1,0,1,0,0,0]) (y := C3 [1,1,1,1,1,1,1,0,1,0,0,1]) (by kernel_rfl) ?_
      refine at_seq_join (x := C3 [1,1,1,1,1,1,1,0,1,0,0,0,0]) (y := C3 [1,1,1,1,1,1,1,0,1,0,0,0,1]) (fun ff ΔΔ => ∃ (e2_56 : Bool), turnsIDsS_j2 v1_b1_0 y4_1 v1_7 v1_8 (turnsIDsS_l1 ids y4_1 (turnsIDsS_k1 y4_1) fuel2) ids (turnsIDsS_k1 y4_1) e2_56 = some y ∧ ff = [(0, .slice idsa (List.length ids) idscap), (1, .int .i64 y4_1), (5, .pointer (some ⟨b1_0, 0, none⟩)), (7, .int .i64 v1_7), (8, .int .i64 v1_8), (56, .bool e2_56)] ∧ (TurnsA b1_0 v1_b1_0) :: Γ = ΔΔ) (by kernel_rfl) ?_ ?_
      · rintro _ _ ⟨e2_56, H, rfl, rfl⟩
        rw [turnsIDsS_j2] at H
        rcases Bool.eq_false_or_eq_true (e2_56) with h4 | h4
        · replace H := bifT H h4
          refine at_true (t := e2_56) (x := C3 [1,1,1,1,1,1,1,0,1,0,0,0,1,0]) (y := C3 [1,1,1,1,1,1,1,0,1,0,0,0,1,1]) (o := .tmp 56) (by kernel_rfl) (by kernel_rfl) (by kernel_rfl) h4 ?_
          refine at_skip (by kernel_rfl) ?_
          refine at_then_normal ?_
          refine at_seq (x := C3 [1,1,1,1,1,1,1,0,1,0,0,1,0]) (y := C3 [1,1,1,1,1,1,1,0,1,0,0,1,1]) (by kernel_rfl) ?_
          refine at_block (i := 3) (x := C3 [1,1,1,1,1,1,1,0,1,0,0,1,0,0]) (by kernel_rfl) ?_
          refine at_seq (x := C3 [1,1,1,1,1,1,1,0,1,0,0,1,0,0,0]) (y := C3 [1,1,1,1,1,1,1,0,1,0,0,1,0,0,1]) (by kernel_rfl) ?_
          refine at_seq (x := C3 [1,1,1,1,1,1,1,0,1,0,0,1,0,0,0,0]) (y := C3 [1,1,1,1,1,1,1,0,1,0,0,1,0,0,0,1]) (by kernel_rfl) ?_
          refine at_region (id := 15) 5 (by kernel_rfl) (by kernel_rfl) ?_
          refine s_pure 59 (.pointer (some ⟨b1_0, 0, none⟩)) (by kernel_rfl) (by kernel_rfl) (fun _ => by kernel_rfl) ?_
          refine s_pure 60 (.int .i64 y4_1) (by kernel_rfl) (by kernel_rfl) (fun _ => by kernel_rfl) ?_
          refine s_pure 61 (.int .i64 v1_7) (by kernel_rfl) (by kernel_rfl) (fun _ => by kernel_rfl) ?_
          obtain ⟨y15_3, hy15_3, H⟩ := bindE H
          refine s_call 62 15 #[.pointer (some ⟨b1_0, 0, none⟩), .int .i64 y4_1, .int .i64 v1_7] (by kernel_rfl) (by kernel_rfl) (fun _ => by kernel_rfl) (TReleaseF_tr b1_0 v1_b1_0 y4_1 v1_7 y15_3 hy15_3) ?_
          rintro _ _ ⟨rfl, rfl⟩
          refine s_pure 63 (.bool (!(decide (y15_3.1 = (0 : Int))))) (by kernel_rfl) (by kernel_rfl) (fun _ => by kernel_rfl) ?_
          refine ops_end ?_
          refine At.env [(0, .slice idsa (List.length ids) idscap), (1, .int .i64 y4_1), (5, .pointer (some ⟨b1_0, 0, none⟩)), (8, .int .i64 v1_8), (63, .bool (!(decide (y15_3.1 = (0 : Int)))))] ⟨by kernel_rfl, by kernel_rfl, by kernel_rfl, by kernel_rfl, by kernel_rfl, trivial⟩ ?_
          refine at_then_normal ?_
          rcases Bool.eq_false_or_eq_true (!(decide (y15_3.1 = (0 : Int)))) with h5 | h5
          · replace H := bifT H h5
            refine at_true (t := !(decide (y15_3.1 = (0 : Int)))) (x := C3 [1,1,1,1,1,1,1,0,1,0,0,1,0,0,0,1,0]) (y := C3 [1,1,1,1,1,1,1,0,1,0,0,1,0,0,0,1,1]) (o := .tmp 63) (by kernel_rfl) (by kernel_rfl) (by kernel_rfl) h5 ?_
            refine at_seq (x := C3 [1,1,1,1,1,1,1,0,1,0,0,1,0,0,0,1,0,0]) (y := C3 [1,1,1,1,1,1,1,0,1,0,0,1,0,0,0,1,0,1]) (by kernel_rfl) ?_
            refine at_region (id := 16) 1 (by kernel_rfl) (by kernel_rfl) ?_
            refine s_pure 4 (.bool false) (by kernel_rfl) (by kernel_rfl) (fun _ => by kernel_rfl) ?_
            refine ops_end ?_
            refine At.env [(4, .bool false)] ⟨by kernel_rfl, trivial⟩ ?_
            refine at_then_normal ?_
            refine at_ret (by kernel_rfl) ?_
            refine at_then_ret ?_
            refine at_in_ret ?_
            refine at_then_ret ?_
            refine at_then_ret ?_
            refine at_in_ret ?_
            refine at_then_ret ?_
            obtain rfl := someE H
            refine at_backR [.bool false] (Γ) (rs := [.tmp 4]) (by kernel_rfl) (.cons (.tmp (by kernel_rfl)) .nil) (fun w hw => (Sat.less (.drop .here .refl) hw)) ?_
            exact ⟨rfl, rfl⟩
          · replace H := bifF H h5
            refine at_false (t := !(decide (y15_3.1 = (0 : Int)))) (x := C3 [1,1,1,1,1,1,1,0,1,0,0,1,0,0,0,1,0]) (y := C3 [1,1,1,1,1,1,1,0,1,0,0,1,0,0,0,1,1]) (o := .tmp 63) (by kernel_rfl) (by kernel_rfl) (by kernel_rfl) h5 ?_
            refine at_skip (by kernel_rfl) ?_
            refine at_then_normal ?_
            refine at_seq (x := C3 [1,1,1,1,1,1,1,0,1,0,0,1,0,0,1,0]) (y := C3 [1,1,1,1,1,1,1,0,1,0,0,1,0,0,1,1]) (by kernel_rfl) ?_
            refine at_region (id := 17) 10 (by kernel_rfl) (by kernel_rfl) ?_
            refine s_pure 65 (.pointer (some ⟨b1_0, 0, none⟩)) (by kernel_rfl) (by kernel_rfl) (fun _ => by kernel_rfl) ?_
            refine s_pure 66 (.int .i64 y4_1) (by kernel_rfl) (by kernel_rfl) (fun _ => by kernel_rfl) ?_
            obtain ⟨y17_2, hy17_2, H⟩ := bindE H
            refine s_call 67 16 #[.pointer (some ⟨b1_0, 0, none⟩), .int .i64 y4_1] (by kernel_rfl) (by kernel_rfl) (fun _ => by kernel_rfl) (TNextF_tr b1_0 y15_3.2 y4_1 y17_2 hy17_2) ?_
            rintro _ _ ⟨rfl, rfl⟩
            refine s_pure 64 (.tuple #[.int .i64 y17_2.1, .int .i64 y17_2.2.1, .bool y17_2.2.2.1]) (by kernel_rfl) (by kernel_rfl) (fun _ => by kernel_rfl) ?_
            refine s_pure 68 (.int .i64 y17_2.1) (by kernel_rfl) (by kernel_rfl) (fun _ => by kernel_rfl) ?_
            refine s_pure 69 (.int .i64 y17_2.2.1) (by kernel_rfl) (by kernel_rfl) (fun _ => by kernel_rfl) ?_
            refine s_pure 70 (.bool y17_2.2.2.1) (by kernel_rfl) (by kernel_rfl) (fun _ => by kernel_rfl) ?_
            refine s_pure 9 (.int .i64 y17_2.1) (by kernel_rfl) (by kernel_rfl) (fun _ => by kernel_rfl) ?_
            refine s_pure 10 (.int .i64 y17_2.2.1) (by kernel_rfl) (by kernel_rfl) (fun _ => by kernel_rfl) ?_
            refine s_pure 11 (.bool y17_2.2.2.1) (by kernel_rfl) (by kernel_rfl) (fun _ => by kernel_rfl) ?_
            refine ops_end ?_
            refine At.env [(0, .slice idsa (List.length ids) idscap), (1, .int .i64 y4_1), (5, .pointer (some ⟨b1_0, 0, none⟩)), (8, .int .i64 v1_8), (9, .int .i64 y17_2.1), (10, .int .i64 y17_2.2.1), (11, .bool y17_2.2.2.1)] ⟨by kernel_rfl, by kernel_rfl, by kernel_rfl, by kernel_rfl, by kernel_rfl, by kernel_rfl, by kernel_rfl, trivial⟩ ?_
            refine at_then_normal ?_
            refine at_seq (x := C3 [1,1,1,1,1,1,1,0,1,0,0,1,0,0,1,1,0]) (y := C3 [1,1,1,1,1,1,1,0,1,0,0,1,0,0,1,1,1]) (by kernel_rfl) ?_
            refine at_seq_join (x := C3 [1,1,1,1,1,1,1,0,1,0,0,1,0,0,1,1,0,0]) (y := C3 [1,1,1,1,1,1,1,0,1,0,0,1,0,0,1,1,0,1]) (fun ff ΔΔ => ∃ (e3_85 : Bool), turnsIDsS_j3 v1_8 (turnsIDsS_l1 ids y4_1 (turnsIDsS_k1 y4_1) fuel2) y17_2 e3_85 = some y ∧ ff = [(0, .slice idsa (List.length ids) idscap), (1, .int .i64 y4_1), (5, .pointer (some ⟨b1_0, 0, none⟩)), (8, .int .i64 v1_8), (9, .int .i64 y17_2.1), (85, .bool e3_85)] ∧ (TurnsA b1_0 y17_2.2.2.2) :: Γ = ΔΔ) (by kernel_rfl) ?_ ?_
            · rintro _ _ ⟨e3_85, H, rfl, rfl⟩
              rw [turnsIDsS_j3] at H
              rcases Bool.eq_false_or_eq_true (e3_85) with h6 | h6
              · replace H := bifT H h6
                refine at_true (t := e3_85) (x := C3 [1,1,1,1,1,1,1,0,1,0,0,1,0,0,1,1,0,1,0]) (y := C3 [1,1,1,1,1,1,1,0,1,0,0,1,0,0,1,1,0,1,1]) (o := .tmp 85) (by kernel_rfl) (by kernel_rfl) (by kernel_rfl) h6 ?_
                refine at_seq (x := C3 [1,1,1,1,1,1,1,0,1,0,0,1,0,0,1,1,0,1,0,0]) (y := C3 [1,1,1,1,1,1,1,0,1,0,0,1,0,0,1,1,0,1,0,1]) (by kernel_rfl) ?_
                refine at_region (id := 19) 1 (by kernel_rfl) (by kernel_rfl) ?_
                refine s_pure 4 (.bool false) (by kernel_rfl) (by kernel_rfl) (fun _ => by kernel_rfl) ?_
                refine ops_end ?_
                refine At.env [(4, .bool false)] ⟨by kernel_rfl, trivial⟩ ?_
                refine at_then_normal ?_
                refine at_ret (by kernel_rfl) ?_
                refine at_then_ret ?_
                refine at_in_ret ?_
                refine at_then_ret ?_
                refine at_then_ret ?_
                refine at_in_ret ?_
                refine at_then_ret ?_
                obtain rfl := someE H
                refine at_backR [.bool false] (Γ) (rs := [.tmp 4]) (by kernel_rfl) (.cons (.tmp (by kernel_rfl)) .nil) (fun w hw => (Sat.less (.drop .here .refl) hw)) ?_
                exact ⟨rfl, rfl⟩
              · replace H := bifF H h6
                refine at_false (t := e3_85) (x := C3 [1,1,1,1,1,1,1,0,1,0,0,1,0,0,1,1,0,1,0]) (y := C3 [1,1,1,1,1,1,1,0,1,0,0,1,0,0,1,1,0,1,1]) (o := .tmp 85) (by kernel_rfl) (by kernel_rfl) (by kernel_rfl) h6 ?_
                refine at_skip (by kernel_rfl) ?_
                refine at_then_normal ?_
                refine at_region (id := 20) 2 (by kernel_rfl) (by kernel_rfl) ?_
                refine s_pure 86 (.int .i64 y17_2.1) (by kernel_rfl) (by kernel_rfl) (fun _ => by kernel_rfl) ?_
                refine s_pure 7 (.int .i64 y17_2.1) (by kernel_rfl) (by kernel_rfl) (fun _ => by kernel_rfl) ?_
                refine ops_end ?_
                refine At.env [(0, .slice idsa (List.length ids) idscap), (1, .int .i64 y4_1), (5, .pointer (some ⟨b1_0, 0, none⟩)), (7, .int .i64 y17_2.1), (8, .int .i64 v1_8)] ⟨by kernel_rfl, by kernel_rfl, by kernel_rfl, by kernel_rfl, by kernel_rfl, trivial⟩ ?_
                refine at_in_normal ?_
                refine at_then_normal ?_
                refine at_region (id := 14) 3 (by kernel_rfl) (by kernel_rfl) ?_
                refine s_pure 57 (.int .i64 v1_8) (by kernel_rfl) (by kernel_rfl) (fun _ => by kernel_rfl) ?_
                obtain ⟨hc14_1_0, H⟩ := chkE H
                refine s_pure 58 (.int .i64 (v1_8 + (1 : Int))) (by kernel_rfl) (by kernel_rfl) (run_eq (v := .int .i64 (IntKind.i64.wrap (v1_8 + (1 : Int)))) (fun _ => by kernel_rfl) (by rw [inR.wrap hc14_1_0])) ?_
                refine s_pure 8 (.int .i64 (v1_8 + (1 : Int))) (by kernel_rfl) (by kernel_rfl) (fun _ => by kernel_rfl) ?_
                refine ops_end ?_
                refine At.env [(0, .slice idsa (List.length ids) idscap), (1, .int .i64 y4_1), (5, .pointer (some ⟨b1_0, 0, none⟩)), (7, .int .i64 y17_2.1), (8, .int .i64 (v1_8 + (1 : Int)))] ⟨by kernel_rfl, by kernel_rfl, by kernel_rfl, by kernel_rfl, by kernel_rfl, trivial⟩ ?_
                refine at_round_normal ?_
                exact at_roundR fuel2 [(0, .slice idsa (List.length ids) idscap), (1, .int .i64 y4_1), (5, .pointer (some ⟨b1_0, 0, none⟩)), (7, .int .i64 y17_2.1), (8, .int .i64 (v1_8 + (1 : Int)))] ((TurnsA b1_0 y17_2.2.2.2) :: Γ) (Nat.lt_succ_self _) ⟨by kernel_rfl, by kernel_rfl, by kernel_rfl, by kernel_rfl, by kernel_rfl, trivial⟩ (fun w hw => (Sat.less (.take .here .refl) hw)) ⟨fuel2, y17_2.1, v1_8 + (1 : Int), y17_2.2.2.2, H, rfl, rfl, rfl⟩
            · refine at_region (id := 18) 15 (by kernel_rfl) (by kernel_rfl) ?_
              refine s_pure 71 (.bool y17_2.2.2.1) (by kernel_rfl) (by kernel_rfl) (fun _ => by kernel_rfl) ?_
              refine s_pure 72 (.bool !y17_2.2.2.1) (by kernel_rfl) (by kernel_rfl) (fun _ => by kernel_rfl) ?_
              rcases Bool.eq_false_or_eq_true (!y17_2.2.2.1) with h7 | h7
              · replace H := bifT H h7
                refine s_pure 73 (.bool true) (by kernel_rfl) (by kernel_rfl) (run_eq (v := .bool (!y17_2.2.2.1)) (fun _ => by kernel_rfl) (congrArg Value.bool h7)) ?_
                refine s_pass 74 (by kernel_rfl) (by kernel_rfl) ?_
                refine s_pass 75 (by kernel_rfl) (by kernel_rfl) ?_
                refine s_pass 76 (by kernel_rfl) (by kernel_rfl) ?_
                refine s_pure 77 (.bool true) (by kernel_rfl) (by kernel_rfl) (fun _ => by kernel_rfl) ?_
                refine s_pure 78 (.bool true) (by kernel_rfl) (by kernel_rfl) (fun _ => by kernel_rfl) ?_
                refine s_pass 79 (by kernel_rfl) (by kernel_rfl) ?_
                refine s_pass 80 (by kernel_rfl) (by kernel_rfl) ?_
                refine s_pass 81 (by kernel_rfl) (by kernel_rfl) ?_
                refine s_pass 82 (by kernel_rfl) (by kernel_rfl) ?_
                refine s_pass 83 (by kernel_rfl) (by kernel_rfl) ?_
                refine s_pass 84 (by kernel_rfl) (by kernel_rfl) ?_
                refine s_pure 85 (.bool true) (by kernel_rfl) (by kernel_rfl) (fun _ => by kernel_rfl) ?_
                refine ops_end ?_
                refine At.env [(0, .slice idsa (List.length ids) idscap), (1, .int .i64 y4_1), (5, .pointer (some ⟨b1_0, 0, none⟩)), (8, .int .i64 v1_8), (9, .int .i64 y17_2.1), (85, .bool true)] ⟨by kernel_rfl, by kernel_rfl, by kernel_rfl, by kernel_rfl, by kernel_rfl, by kernel_rfl, trivial⟩ ?_
                refine at_round_normal ?_
                exact at_join_mk [(0, .slice idsa (List.length ids) idscap), (1, .int .i64 y4_1), (5, .pointer (some ⟨b1_0, 0, none⟩)), (8, .int .i64 v1_8), (9, .int .i64 y17_2.1), (85, .bool true)] ((TurnsA b1_0 y17_2.2.2.2) :: Γ) ⟨by kernel_rfl, by kernel_rfl, by kernel_rfl, by kernel_rfl, by kernel_rfl, by kernel_rfl, trivial⟩ (fun w hw => (Sat.less (.take .here .refl) hw)) ⟨true, H, rfl, rfl⟩
              · replace H := bifF H h7
                refine s_pure 73 (.bool false) (by kernel_rfl) (by kernel_rfl) (run_eq (v := .bool (!y17_2.2.2.1)) (fun _ => by kernel_rfl) (congrArg Value.bool h7)) ?_
                refine s_pure 74 (.int .i64 y17_2.1) (by kernel_rfl) (by kernel_rfl) (fun _ => by kernel_rfl) ?_
                refine s_pure 75 (.int .i64 v1_8) (by kernel_rfl) (by kernel_rfl) (fun _ => by kernel_rfl) ?_
                refine s_pure 76 (.bool (!(decide (y17_2.1 = v1_8)))) (by kernel_rfl) (by kernel_rfl) (fun _ => by kernel_rfl) ?_
                refine s_pure 77 (.bool (!(decide (y17_2.1 = v1_8)))) (by kernel_rfl) (by kernel_rfl) (fun _ => by kernel_rfl) ?_
                rcases Bool.eq_false_or_eq_true (!(decide (y17_2.1 = v1_8))) with h8 | h8
                · replace H := bifT H h8
                  refine s_pure 78 (.bool true) (by kernel_rfl) (by kernel_rfl) (run_eq (v := .bool (!(decide (y17_2.1 = v1_8)))) (fun _ => by kernel_rfl) (congrArg Value.bool h8)) ?_
                  refine s_pass 79 (by kernel_rfl) (by kernel_rfl) ?_
                  refine s_pass 80 (by kernel_rfl) (by kernel_rfl) ?_
                  refine s_pass 81 (by kernel_rfl) (by kernel_rfl) ?_
                  refine s_pass 82 (by kernel_rfl) (by kernel_rfl) ?_
                  refine s_pass 83 (by kernel_rfl) (by kernel_rfl) ?_
                  refine s_pass 84 (by kernel_rfl) (by kernel_rfl) ?_
                  refine s_pure 85 (.bool true) (by kernel_rfl) (by kernel_rfl) (fun _ => by kernel_rfl) ?_
                  refine ops_end ?_
                  refine At.env [(0, .slice idsa (List.length ids) idscap), (1, .int .i64 y4_1), (5, .pointer (some ⟨b1_0, 0, none⟩)), (8, .int .i64 v1_8), (9, .int .i64 y17_2.1), (85, .bool true)] ⟨by kernel_rfl, by kernel_rfl, by kernel_rfl, by kernel_rfl, by kernel_rfl, by kernel_rfl, trivial⟩ ?_
                  refine at_round_normal ?_
                  exact at_join_mk [(0, .slice idsa (List.length ids) idscap), (1, .int .i64 y4_1), (5, .pointer (some ⟨b1_0, 0, none⟩)), (8, .int .i64 v1_8), (9, .int .i64 y17_2.1), (85, .bool true)] ((TurnsA b1_0 y17_2.2.2.2) :: Γ) ⟨by kernel_rfl, by kernel_rfl, by kernel_rfl, by kernel_rfl, by kernel_rfl, by kernel_rfl, trivial⟩ (fun w hw => (Sat.less (.take .here .refl) hw)) ⟨true, H, rfl, rfl⟩
                · replace H := bifF H h8
                  refine s_pure 78 (.bool false) (by kernel_rfl) (by kernel_rfl) (run_eq (v := .bool (!(decide (y17_2.1 = v1_8)))) (fun _ => by kernel_rfl) (congrArg Value.bool h8)) ?_
                  refine s_pure 79 (.int .i64 y17_2.2.1) (by kernel_rfl) (by kernel_rfl) (fun _ => by kernel_rfl) ?_
                  refine s_pure 80 (.slice idsa (List.length ids) idscap) (by kernel_rfl) (by kernel_rfl) (fun _ => by kernel_rfl) ?_
                  refine s_pure 81 (.int .i64 v1_8) (by kernel_rfl) (by kernel_rfl) (fun _ => by kernel_rfl) ?_
                  obtain ⟨hc18_11_0, H⟩ := chkE H
                  refine reads_at (Reads.conv (fun w hw => hw.less (.drop .here .refl)) hridsa) (by have := hc18_11_0; omega) ?_
                  intro bb2 oo2 ha2
                  refine s_pure 82 (.pointer (some ⟨bb2, oo2 + ((v1_8).toNat * 1 + 0), none⟩)) (by kernel_rfl) (by kernel_rfl) (index_at (t := 22) (sz := 1) (E := 3) (a := idsa) (m := (List.length ids)) (c := idscap) (b := bb2) (off := oo2) (i := (v1_8).toNat) (tinfo 3) (fun _ => by kernel_rfl) (by kernel_rfl) (by kernel_rfl) (by kernel_rfl) ha2 (idx_cast hc18_11_0) (idx_nat hc18_11_0) rfl) ?_
                  refine s_load 83 (.int .i64 (nth ids v1_8)) (by kernel_rfl) (by kernel_rfl) (load1_at (off := oo2 + ((v1_8).toNat * 1 + 0)) (v := .int .i64 (nth ids v1_8)) (fun _ => by kernel_rfl) rfl (reads_cell (k := 1) (Reads.conv (fun w hw => hw.less (.drop .here .refl)) hridsa) (ints_rows _) ha2 (nth_row hc18_11_0) (show [(.int .i64 (nth ids v1_8) : Value)][0]? = some _ from rfl))) ?_
                  refine s_pure 84 (.bool (!(decide (y17_2.2.1 = (nth ids v1_8))))) (by kernel_rfl) (by kernel_rfl) (fun _ => by kernel_rfl) ?_
                  refine s_pure 85 (.bool (!(decide (y17_2.2.1 = (nth ids v1_8))))) (by kernel_rfl) (by kernel_rfl) (fun _ => by kernel_rfl) ?_
                  refine ops_end ?_
                  refine At.env [(0, .slice idsa (List.length ids) idscap), (1, .int .i64 y4_1), (5, .pointer (some ⟨b1_0, 0, none⟩)), (8, .int .i64 v1_8), (9, .int .i64 y17_2.1), (85, .bool (!(decide (y17_2.2.1 = (nth ids v1_8)))))] ⟨by kernel_rfl, by kernel_rfl, by kernel_rfl, by kernel_rfl, by kernel_rfl, by kernel_rfl, trivial⟩ ?_
                  refine at_round_normal ?_
                  exact at_join_mk [(0, .slice idsa (List.length ids) idscap), (1, .int .i64 y4_1), (5, .pointer (some ⟨b1_0, 0, none⟩)), (8, .int .i64 v1_8), (9, .int .i64 y17_2.1), (85, .bool (!(decide (y17_2.2.1 = (nth ids v1_8)))))] ((TurnsA b1_0 y17_2.2.2.2) :: Γ) ⟨by kernel_rfl, by kernel_rfl, by kernel_rfl, by kernel_rfl, by kernel_rfl, by kernel_rfl, trivial⟩ (fun w hw => (Sat.less (.take .here .refl) hw)) ⟨!(decide (y17_2.2.1 = (nth ids v1_8))), H, rfl, rfl⟩
        · replace H := bifF H h4
          refine at_false (t := e2_56) (x := C3 [1,1,1,1,1,1,1,0,1,0,0,0,1,0]) (y := C3 [1,1,1,1,1,1,1,0,1,0,0,0,1,1]) (o := .tmp 56) (by kernel_rfl) (by kernel_rfl) (by kernel_rfl) h4 ?_
          refine at_exit (i := 2) (by kernel_rfl) ?_
          refine at_then_exit ?_
          refine at_then_exit ?_
          rw [turnsIDsS_k1] at H
          refine At.env [(0, .slice idsa (List.length ids) idscap), (1, .int .i64 y4_1), (5, .pointer (some ⟨b1_0, 0, none⟩)), (7, .int .i64 v1_7), (8, .int .i64 v1_8)] ⟨by kernel_rfl, by kernel_rfl, by kernel_rfl, by kernel_rfl, by kernel_rfl, trivial⟩ ?_
          refine At.conv (Γ' := (TurnsA b1_0 v1_b1_0) :: Γ) (fun w hw => (Sat.less (.take .here .refl) hw)) ?_
          refine at_in_here ?_
          refine at_then_normal ?_
          refine at_seq (x := C3 [1,1,1,1,1,1,1,1,0]) (y := C3 [1,1,1,1,1,1,1,1,1]) (by kernel_rfl) ?_
          refine at_region (id := 21) 11 (by kernel_rfl) (by kernel_rfl) ?_
          refine s_pure 88 (.pointer (some ⟨b1_0, 0, none⟩)) (by kernel_rfl) (by kernel_rfl) (fun _ => by kernel_rfl) ?_
          refine s_pure 89 (.int .i64 y4_1) (by kernel_rfl) (by kernel_rfl) (fun _ => by kernel_rfl) ?_
          refine s_pure 90 (.int .i64 (wr (y4_1 + (1 : Int)))) (by kernel_rfl) (by kernel_rfl) (fun _ => by kernel_rfl) ?_
          obtain ⟨y21_3, hy21_3, H⟩ := bindE H
          refine s_call 91 16 #[.pointer (some ⟨b1_0, 0, none⟩), .int .i64 (wr (y4_1 + (1 : Int)))] (by kernel_rfl) (by kernel_rfl) (fun _ => by kernel_rfl) (TNextF_tr b1_0 v1_b1_0 (wr (y4_1 + (1 : Int))) y21_3 hy21_3) ?_
          rintro _ _ ⟨rfl, rfl⟩
          refine s_pure 87 (.tuple #[.int .i64 y21_3.1, .int .i64 y21_3.2.1, .bool y21_3.2.2.1]) (by kernel_rfl) (by kernel_rfl) (fun _ => by kernel_rfl) ?_
          refine s_pure 92 (.int .i64 y21_3.1) (by kernel_rfl) (by kernel_rfl) (fun _ => by kernel_rfl) ?_
          refine s_pure 93 (.int .i64 y21_3.2.1) (by kernel_rfl) (by kernel_rfl) (fun _ => by kernel_rfl) ?_
          refine s_pure 94 (.bool y21_3.2.2.1) (by kernel_rfl) (by kernel_rfl) (fun _ => by kernel_rfl) ?_
          refine s_pure 12 (.int .i64 y21_3.1) (by kernel_rfl) (by kernel_rfl) (fun _ => by kernel_rfl) ?_
          refine s_pure 13 (.int .i64 y21_3.2.1) (by kernel_rfl) (by kernel_rfl) (fun _ => by kernel_rfl) ?_
          refine s_pure 14 (.bool y21_3.2.2.1) (by kernel_rfl) (by kernel_rfl) (fun _ => by kernel_rfl) ?_
          refine ops_end ?_
          refine At.env [(1, .int .i64 y4_1), (5, .pointer (some ⟨b1_0, 0, none⟩)), (14, .bool y21_3.2.2.1)] ⟨by kernel_rfl, by kernel_rfl, by kernel_rfl, trivial⟩ ?_
          refine at_then_normal ?_
          refine at_seq (x := C3 [1,1,1,1,1,1,1,1,1,0]) (y := C3 [1,1,1,1,1,1,1,1,1,1]) (by kernel_rfl) ?_
          refine at_region (id := 22) 41 (by kernel_rfl) (by kernel_rfl) ?_
          refine s_pure 95 (.bool y21_3.2.2.1) (by kernel_rfl) (by kernel_rfl) (fun _ => by kernel_rfl) ?_
          refine s_pure 96 (.bool !y21_3.2.2.1) (by kernel_rfl) (by kernel_rfl) (fun _ => by kernel_rfl) ?_
          rcases Bool.eq_false_or_eq_true (!y21_3.2.2.1) with h9 | h9
          · replace H := bifT H h9
            refine s_pure 97 (.bool true) (by kernel_rfl) (by kernel_rfl) (run_eq (v := .bool (!y21_3.2.2.1)) (fun _ => by kernel_rfl) (congrArg Value.bool h9)) ?_
            refine s_pure 98 (.pointer (some ⟨b1_0, 0, none⟩)) (by kernel_rfl) (by kernel_rfl) (fun _ => by kernel_rfl) ?_
            refine s_pure 99 (.int .i64 y4_1) (by kernel_rfl) (by kernel_rfl) (fun _ => by kernel_rfl) ?_
            refine s_pure 100 (.int .i64 (wr (y4_1 + (1 : Int)))) (by kernel_rfl) (by kernel_rfl) (fun _ => by kernel_rfl) ?_
            obtain ⟨y22_6, hy22_6, H⟩ := bindE H
            refine s_call 101 17 #[.pointer (some ⟨b1_0, 0, none⟩), .int .i64 (wr (y4_1 + (1 : Int)))] (by kernel_rfl) (by kernel_rfl) (fun _ => by kernel_rfl) (TOwnerF_tr b1_0 y21_3.2.2.2 (wr (y4_1 + (1 : Int))) y22_6 hy22_6) ?_
            rintro _ _ ⟨rfl, rfl⟩
            refine s_pure 102 (.bool (decide (y22_6 = ((-1) : Int)))) (by kernel_rfl) (by kernel_rfl) (fun _ => by kernel_rfl) ?_
            refine s_pure 103 (.bool (decide (y22_6 = ((-1) : Int)))) (by kernel_rfl) (by kernel_rfl) (fun _ => by kernel_rfl) ?_
            rcases Bool.eq_false_or_eq_true (decide (y22_6 = ((-1) : Int))) with h10 | h10
            · replace H := bifT H h10
              refine s_pure 104 (.bool true) (by kernel_rfl) (by kernel_rfl) (run_eq (v := .bool (decide (y22_6 = ((-1) : Int)))) (fun _ => by kernel_rfl) (congrArg Value.bool h10)) ?_
              refine s_pure 105 (.pointer (some ⟨b1_0, 0, none⟩)) (by kernel_rfl) (by kernel_rfl) (fun _ => by kernel_rfl) ?_
              refine s_pure 106 (.int .i64 y4_1) (by kernel_rfl) (by kernel_rfl) (fun _ => by kernel_rfl) ?_
              refine s_pure 107 (.int .i64 (wr (y4_1 + (1 : Int)))) (by kernel_rfl) (by kernel_rfl) (fun _ => by kernel_rfl) ?_
              obtain ⟨y22_13, hy22_13, H⟩ := bindE H
              refine s_call 108 14 #[.pointer (some ⟨b1_0, 0, none⟩), .int .i64 (wr (y4_1 + (1 : Int)))] (by kernel_rfl) (by kernel_rfl) (fun _ => by kernel_rfl) (TWaitingF_tr b1_0 y21_3.2.2.2 (wr (y4_1 + (1 : Int))) y22_13 hy22_13) ?_
              rintro _ _ ⟨rfl, rfl⟩
              refine s_pure 109 (.bool (decide (y22_13 = (0 : Int)))) (by kernel_rfl) (by kernel_rfl) (fun _ => by kernel_rfl) ?_
              refine s_pure 110 (.bool (decide (y22_13 = (0 : Int)))) (by kernel_rfl) (by kernel_rfl) (fun _ => by kernel_rfl) ?_
              rcases Bool.eq_false_or_eq_true (decide (y22_13 = (0 : Int))) with h11 | h11
              · replace H := bifT H h11
                refine s_pure 111 (.bool true) (by kernel_rfl) (by kernel_rfl) (run_eq (v := .bool (decide (y22_13 = (0 : Int)))) (fun _ => by kernel_rfl) (congrArg Value.bool h11)) ?_
                refine s_pure 112 (.pointer (some ⟨b1_0, 0, none⟩)) (by kernel_rfl) (by kernel_rfl) (fun _ => by kernel_rfl) ?_
                refine s_pure 113 (.int .i64 y4_1) (by kernel_rfl) (by kernel_rfl) (fun _ => by kernel_rfl) ?_
                refine s_pure 114 (.int .i64 (wr (y4_1 + (1 : Int)))) (by kernel_rfl) (by kernel_rfl) (fun _ => by kernel_rfl) ?_
                obtain ⟨y22_20, hy22_20, H⟩ := bindE H
                refine s_call 115 15 #[.pointer (some ⟨b1_0, 0, none⟩), .int .i64 (wr (y4_1 + (1 : Int))), .int .i64 (0)] (by kernel_rfl) (by kernel_rfl) (fun _ => by kernel_rfl) (TReleaseF_tr b1_0 y21_3.2.2.2 (wr (y4_1 + (1 : Int))) (0 : Int) y22_20 hy22_20) ?_
                rintro _ _ ⟨rfl, rfl⟩
                refine s_pure 116 (.bool (decide (y22_20.1 = (6 : Int)))) (by kernel_rfl) (by kernel_rfl) (fun _ => by kernel_rfl) ?_
                refine s_pure 117 (.bool (decide (y22_20.1 = (6 : Int)))) (by kernel_rfl) (by kernel_rfl) (fun _ => by kernel_rfl) ?_
                rcases Bool.eq_false_or_eq_true (decide (y22_20.1 = (6 : Int))) with h12 | h12
                · replace H := bifT H h12
                  refine s_pure 118 (.bool true) (by kernel_rfl) (by kernel_rfl) (run_eq (v := .bool (decide (y22_20.1 = (6 : Int)))) (fun _ => by kernel_rfl) (congrArg Value.bool h12)) ?_
                  refine s_pure 119 (.pointer (some ⟨b1_0, 0, none⟩)) (by kernel_rfl) (by kernel_rfl) (fun _ => by kernel_rfl) ?_
                  refine s_pure 120 (.int .i64 y4_1) (by kernel_rfl) (by kernel_rfl) (fun _ => by kernel_rfl) ?_
                  refine s_pure 121 (.int .i64 (wr (y4_1 + (1 : Int)))) (by kernel_rfl) (by kernel_rfl) (fun _ => by kernel_rfl) ?_
                  obtain ⟨y22_27, hy22_27, H⟩ := bindE H
                  refine s_call 122 13 #[.pointer (some ⟨b1_0, 0, none⟩), .int .i64 (wr (y4_1 + (1 : Int))), .int .i64 (-1), .int .i64 (0)] (by kernel_rfl) (by kernel_rfl) (fun _ => by kernel_rfl) (TAskF_tr b1_0 y22_20.2 (wr (y4_1 + (1 : Int))) ((-1) : Int) (0 : Int) y22_27 hy22_27) ?_
                  rintro _ _ ⟨rfl, rfl⟩
                  refine s_pure 123 (.bool !y22_27.1) (by kernel_rfl) (by kernel_rfl) (fun _ => by kernel_rfl) ?_
                  refine s_pure 124 (.bool !y22_27.1) (by kernel_rfl) (by kernel_rfl) (fun _ => by kernel_rfl) ?_
                  rcases Bool.eq_false_or_eq_true (!y22_27.1) with h13 | h13
                  · replace H := bifT H h13
                    refine s_pure 125 (.bool true) (by kernel_rfl) (by kernel_rfl) (run_eq (v := .bool (!y22_27.1)) (fun _ => by kernel_rfl) (congrArg Value.bool h13)) ?_
                    refine s_pure 126 (.pointer (some ⟨b1_0, 0, none⟩)) (by kernel_rfl) (by kernel_rfl) (fun _ => by kernel_rfl) ?_
                    refine s_pure 127 (.int .i64 y4_1) (by kernel_rfl) (by kernel_rfl) (fun _ => by kernel_rfl) ?_
                    refine s_pure 128 (.int .i64 (wr (y4_1 + (1 : Int)))) (by kernel_rfl) (by kernel_rfl) (fun _ => by kernel_rfl) ?_
                    obtain ⟨y22_34, hy22_34, H⟩ := bindE H
                    refine s_call 129 17 #[.pointer (some ⟨b1_0, 0, none⟩), .int .i64 (wr (y4_1 + (1 : Int)))] (by kernel_rfl) (by kernel_rfl) (fun _ => by kernel_rfl) (TOwnerF_tr b1_0 y22_27.2 (wr (y4_1 + (1 : Int))) y22_34 hy22_34) ?_
                    rintro _ _ ⟨rfl, rfl⟩
                    refine s_pure 130 (.bool (decide (y22_34 = ((-1) : Int)))) (by kernel_rfl) (by kernel_rfl) (fun _ => by kernel_rfl) ?_
                    refine s_pure 131 (.bool (decide (y22_34 = ((-1) : Int)))) (by kernel_rfl) (by kernel_rfl) (fun _ => by kernel_rfl) ?_
                    rcases Bool.eq_false_or_eq_true (decide (y22_34 = ((-1) : Int))) with h14 | h14
                    · replace H := bifT H h14
                      refine s_pure 132 (.bool true) (by kernel_rfl) (by kernel_rfl) (run_eq (v := .bool (decide (y22_34 = ((-1) : Int)))) (fun _ => by kernel_rfl) (congrArg Value.bool h14)) ?_
                      obtain ⟨y22_38, hy22_38, H⟩ := bindE H
                      refine s_call 133 18 #[] (by kernel_rfl) (by kernel_rfl) (fun _ => by kernel_rfl) (W10F_tr  y22_38 hy22_38) ?_
                      rintro _ _ ⟨rfl, rfl⟩
                      refine s_pure 134 (.bool y22_38) (by kernel_rfl) (by kernel_rfl) (fun _ => by kernel_rfl) ?_
                      refine s_pure 4 (.bool y22_38) (by kernel_rfl) (by kernel_rfl) (fun _ => by kernel_rfl) ?_
                      refine ops_end ?_
                      refine At.env [(4, .bool y22_38)] ⟨by kernel_rfl, trivial⟩ ?_
                      refine at_then_normal ?_
                      refine at_ret (by kernel_rfl) ?_
                      obtain rfl := someE H
                      refine at_backR [.bool y22_38] (Γ) (rs := [.tmp 4]) (by kernel_rfl) (.cons (.tmp (by kernel_rfl)) .nil) (fun w hw => (Sat.less (.drop .here .refl) hw)) ?_
                      exact ⟨rfl, rfl⟩
                    · replace H := bifF H h14
                      refine s_pure 132 (.bool false) (by kernel_rfl) (by kernel_rfl) (run_eq (v := .bool (decide (y22_34 = ((-1) : Int)))) (fun _ => by kernel_rfl) (congrArg Value.bool h14)) ?_
                      refine s_pass 133 (by kernel_rfl) (by kernel_rfl) ?_
                      refine s_pure 134 (.bool false) (by kernel_rfl) (by kernel_rfl) (fun _ => by kernel_rfl) ?_
                      refine s_pure 4 (.bool false) (by kernel_rfl) (by kernel_rfl) (fun _ => by kernel_rfl) ?_
                      refine ops_end ?_
                      refine At.env [(4, .bool false)] ⟨by kernel_rfl, trivial⟩ ?_
                      refine at_then_normal ?_
                      refine at_ret (by kernel_rfl) ?_
                      obtain rfl := someE H
                      refine at_backR [.bool false] (Γ) (rs := [.tmp 4]) (by kernel_rfl) (.cons (.tmp (by kernel_rfl)) .nil) (fun w hw => (Sat.less (.drop .here .refl) hw)) ?_
                      exact ⟨rfl, rfl⟩
                  · replace H := bifF H h13
                    refine s_pure 125 (.bool false) (by kernel_rfl) (by kernel_rfl) (run_eq (v := .bool (!y22_27.1)) (fun _ => by kernel_rfl) (congrArg Value.bool h13)) ?_
                    refine s_pass 126 (by kernel_rfl) (by kernel_rfl) ?_
                    refine s_pass 127 (by kernel_rfl) (by kernel_rfl) ?_
                    refine s_pass 128 (by kernel_rfl) (by kernel_rfl) ?_
                    refine s_pass 129 (by kernel_rfl) (by kernel_rfl) ?_
                    refine s_pass 130 (by kernel_rfl) (by kernel_rfl) ?_
                    refine s_pure 131 (.bool false) (by kernel_rfl) (by kernel_rfl) (fun _ => by kernel_rfl) ?_
                    refine s_pure 132 (.bool false) (by kernel_rfl) (by kernel_rfl) (fun _ => by kernel_rfl) ?_
                    refine s_pass 133 (by kernel_rfl) (by kernel_rfl) ?_
                    refine s_pure 134 (.bool false) (by kernel_rfl) (by kernel_rfl) (fun _ => by kernel_rfl) ?_
                    refine s_pure 4 (.bool false) (by kernel_rfl) (by kernel_rfl) (fun _ => by kernel_rfl) ?_
                    refine ops_end ?_
                    refine At.env [(4, .bool false)] ⟨by kernel_rfl, trivial⟩ ?_
                    refine at_then_normal ?_
                    refine at_ret (by kernel_rfl) ?_
                    obtain rfl := someE H
                    refine at_backR [.bool false] (Γ) (rs := [.tmp 4]) (by kernel_rfl) (.cons (.tmp (by kernel_rfl)) .nil) (fun w hw => (Sat.less (.drop .here .refl) hw)) ?_
                    exact ⟨rfl, rfl⟩
                · replace H := bifF H h12
                  refine s_pure 118 (.bool false) (by kernel_rfl) (by kernel_rfl) (run_eq (v := .bool (decide (y22_20.1 = (6 : Int)))) (fun _ => by kernel_rfl) (congrArg Value.bool h12)) ?_
                  refine s_pass 119 (by kernel_rfl) (by kernel_rfl) ?_
                  refine s_pass 120 (by kernel_rfl) (by kernel_rfl) ?_
                  refine s_pass 121 (by kernel_rfl) (by kernel_rfl) ?_
                  refine s_pass 122 (by kernel_rfl) (by kernel_rfl) ?_
                  refine s_pass 123 (by kernel_rfl) (by kernel_rfl) ?_
                  refine s_pure 124 (.bool false) (by kernel_rfl) (by kernel_rfl) (fun _ => by kernel_rfl) ?_
                  refine s_pure 125 (.bool false) (by kernel_rfl) (by kernel_rfl) (fun _ => by kernel_rfl) ?_
                  refine s_pass 126 (by kernel_rfl) (by kernel_rfl) ?_
                  refine s_pass 127 (by kernel_rfl) (by kernel_rfl) ?_
                  refine s_pass 128 (by kernel_rfl) (by kernel_rfl) ?_
                  refine s_pass 129 (by kernel_rfl) (by kernel_rfl) ?_
                  refine s_pass 130 (by kernel_rfl) (by kernel_rfl) ?_
                  refine s_pure 131 (.bool false) (by kernel_rfl) (by kernel_rfl) (fun _ => by kernel_rfl) ?_
                  refine s_pure 132 (.bool false) (by kernel_rfl) (by kernel_rfl) (fun _ => by kernel_rfl) ?_
                  refine s_pass 133 (by kernel_rfl) (by kernel_rfl) ?_
                  refine s_pure 134 (.bool false) (by kernel_rfl) (by kernel_rfl) (fun _ => by kernel_rfl) ?_
                  refine s_pure 4 (.bool false) (by kernel_rfl) (by kernel_rfl) (fun _ => by kernel_rfl) ?_
                  refine ops_end ?_
                  refine At.env [(4, .bool false)] ⟨by kernel_rfl, trivial⟩ ?_
                  refine at_then_normal ?_
                  refine at_ret (by kernel_rfl) ?_
                  obtain rfl := someE H
                  refine at_backR [.bool false] (Γ) (rs := [.tmp 4]) (by kernel_rfl) (.cons (.tmp (by kernel_rfl)) .nil) (fun w hw => (Sat.less (.drop .here .refl) hw)) ?_
                  exact ⟨rfl, rfl⟩
              · replace H := bifF H h11
                refine s_pure 111 (.bool false) (by kernel_rfl) (by kernel_rfl) (run_eq (v := .bool (decide (y22_13 = (0 : Int)))) (fun _ => by kernel_rfl) (congrArg Value.bool h11)) ?_
                refine s_pass 112 (by kernel_rfl) (by kernel_rfl) ?_
                refine s_pass 113 (by kernel_rfl) (by kernel_rfl) ?_
                refine s_pass 114 (by kernel_rfl) (by kernel_rfl) ?_
                refine s_pass 115 (by kernel_rfl) (by kernel_rfl) ?_
                refine s_pass 116 (by kernel_rfl) (by kernel_rfl) ?_
                refine s_pure 117 (.bool false) (by kernel_rfl) (by kernel_rfl) (fun _ => by kernel_rfl) ?_
                refine s_pure 118 (.bool false) (by kernel_rfl) (by kernel_rfl) (fun _ => by kernel_rfl) ?_
                refine s_pass 119 (by kernel_rfl) (by kernel_rfl) ?_
                refine s_pass 120 (by kernel_rfl) (by kernel_rfl) ?_
                refine s_pass 121 (by kernel_rfl) (by kernel_rfl) ?_
                refine s_pass 122 (by kernel_rfl) (by kernel_rfl) ?_
                refine s_pass 123 (by kernel_rfl) (by kernel_rfl) ?_
                refine s_pure 124 (.bool false) (by kernel_rfl) (by kernel_rfl) (fun _ => by kernel_rfl) ?_
                refine s_pure 125 (.bool false) (by kernel_rfl) (by kernel_rfl) (fun _ => by kernel_rfl) ?_
                refine s_pass 126 (by kernel_rfl) (by kernel_rfl) ?_
                refine s_pass 127 (by kernel_rfl) (by kernel_rfl) ?_
                refine s_pass 128 (by kernel_rfl) (by kernel_rfl) ?_
                refine s_pass 129 (by kernel_rfl) (by kernel_rfl) ?_
                refine s_pass 130 (by kernel_rfl) (by kernel_rfl) ?_
                refine s_pure 131 (.bool false) (by kernel_rfl) (by kernel_rfl) (fun _ => by kernel_rfl) ?_
                refine s_pure 132 (.bool false) (by kernel_rfl) (by kernel_rfl) (fun _ => by kernel_rfl) ?_
                refine s_pass 133 (by kernel_rfl) (by kernel_rfl) ?_
                refine s_pure 134 (.bool false) (by kernel_rfl) (by kernel_rfl) (fun _ => by kernel_rfl) ?_
                refine s_pure 4 (.bool false) (by kernel_rfl) (by kernel_rfl) (fun _ => by kernel_rfl) ?_
                refine ops_end ?_
                refine At.env [(4, .bool false)] ⟨by kernel_rfl, trivial⟩ ?_
                refine at_then_normal ?_
                refine at_ret (by kernel_rfl) ?_
                obtain rfl := someE H
                refine at_backR [.bool false] (Γ) (rs := [.tmp 4]) (by kernel_rfl) (.cons (.tmp (by kernel_rfl)) .nil) (fun w hw => (Sat.less (.drop .here .refl) hw)) ?_
                exact ⟨rfl, rfl⟩
            · replace H := bifF H h10
              refine s_pure 104 (.bool false) (by kernel_rfl) (by kernel_rfl) (run_eq (v := .bool (decide (y22_6 = ((-1) : Int)))) (fun _ => by kernel_rfl) (congrArg Value.bool h10)) ?_
              refine s_pass 105 (by kernel_rfl) (by kernel_rfl) ?_
              refine s_pass 106 (by kernel_rfl) (by kernel_rfl) ?_
              refine s_pass 107 (by kernel_rfl) (by kernel_rfl) ?_
              refine s_pass 108 (by kernel_rfl) (by kernel_rfl) ?_
              refine s_pass 109 (by kernel_rfl) (by kernel_rfl) ?_
              refine s_pure 110 (.bool false) (by kernel_rfl) (by kernel_rfl) (fun _ => by kernel_rfl) ?_
              refine s_pure 111 (.bool false) (by kernel_rfl) (by kernel_rfl) (fun _ => by kernel_rfl) ?_
              refine s_pass 112 (by kernel_rfl) (by kernel_rfl) ?_
              refine s_pass 113 (by kernel_rfl) (by kernel_rfl) ?_
              refine s_pass 114 (by kernel_rfl) (by kernel_rfl) ?_
              refine s_pass 115 (by kernel_rfl) (by kernel_rfl) ?_
              refine s_pass 116 (by kernel_rfl) (by kernel_rfl) ?_
              refine s_pure 117 (.bool false) (by kernel_rfl) (by kernel_rfl) (fun _ => by kernel_rfl) ?_
              refine s_pure 118 (.bool false) (by kernel_rfl) (by kernel_rfl) (fun _ => by kernel_rfl) ?_
              refine s_pass 119 (by kernel_rfl) (by kernel_rfl) ?_
              refine s_pass 120 (by kernel_rfl) (by kernel_rfl) ?_
              refine s_pass 121 (by kernel_rfl) (by kernel_rfl) ?_
              refine s_pass 122 (by kernel_rfl) (by kernel_rfl) ?_
              refine s_pass 123 (by kernel_rfl) (by kernel_rfl) ?_
              refine s_pure 124 (.bool false) (by kernel_rfl) (by kernel_rfl) (fun _ => by kernel_rfl) ?_
              refine s_pure 125 (.bool false) (by kernel_rfl) (by kernel_rfl) (fun _ => by kernel_rfl) ?_
              refine s_pass 126 (by kernel_rfl) (by kernel_rfl) ?_
              refine s_pass 127 (by kernel_rfl) (by kernel_rfl) ?_
              refine s_pass 128 (by kernel_rfl) (by kernel_rfl) ?_
              refine s_pass 129 (by kernel_rfl) (by kernel_rfl) ?_
              refine s_pass 130 (by kernel_rfl) (by kernel_rfl) ?_
              refine s_pure 131 (.bool false) (by kernel_rfl) (by kernel_rfl) (fun _ => by kernel_rfl) ?_
              refine s_pure 132 (.bool false) (by kernel_rfl) (by kernel_rfl) (fun _ => by kernel_rfl) ?_
              refine s_pass 133 (by kernel_rfl) (by kernel_rfl) ?_
              refine s_pure 134 (.bool false) (by kernel_rfl) (by kernel_rfl) (fun _ => by kernel_rfl) ?_
              refine s_pure 4 (.bool false) (by kernel_rfl) (by kernel_rfl) (fun _ => by kernel_rfl) ?_
              refine ops_end ?_
              refine At.env [(4, .bool false)] ⟨by kernel_rfl, trivial⟩ ?_
              refine at_then_normal ?_
              refine at_ret (by kernel_rfl) ?_
              obtain rfl := someE H
              refine at_backR [.bool false] (Γ) (rs := [.tmp 4]) (by kernel_rfl) (.cons (.tmp (by kernel_rfl)) .nil) (fun w hw => (Sat.less (.drop .here .refl) hw)) ?_
              exact ⟨rfl, rfl⟩
          · replace H := bifF H h9
            refine s_pure 97 (.bool false) (by kernel_rfl) (by kernel_rfl) (run_eq (v := .bool (!y21_3.2.2.1)) (fun _ => by kernel_rfl) (congrArg Value.bool h9)) ?_
            refine s_pass 98 (by kernel_rfl) (by kernel_rfl) ?_
            refine s_pass 99 (by kernel_rfl) (by kernel_rfl) ?_
            refine s_pass 100 (by kernel_rfl) (by kernel_rfl) ?_
            refine s_pass 101 (by kernel_rfl) (by kernel_rfl) ?_
            refine s_pass 102 (by kernel_rfl) (by kernel_rfl) ?_
            refine s_pure 103 (.bool false) (by kernel_rfl) (by kernel_rfl) (fun _ => by kernel_rfl) ?_
            refine s_pure 104 (.bool false) (by kernel_rfl) (by kernel_rfl) (fun _ => by kernel_rfl) ?_
            refine s_pass 105 (by kernel_rfl) (by kernel_rfl) ?_
            refine s_pass 106 (by kernel_rfl) (by kernel_rfl) ?_
            refine s_pass 107 (by kernel_rfl) (by kernel_rfl) ?_
            refine s_pass 108 (by kernel_rfl) (by kernel_rfl) ?_
            refine s_pass 109 (by kernel_rfl) (by kernel_rfl) ?_
            refine s_pure 110 (.bool false) (by kernel_rfl) (by kernel_rfl) (fun _ => by kernel_rfl) ?_
            refine s_pure 111 (.bool false) (by kernel_rfl) (by kernel_rfl) (fun _ => by kernel_rfl) ?_
            refine s_pass 112 (by kernel_rfl) (by kernel_rfl) ?_
            refine s_pass 113 (by kernel_rfl) (by kernel_rfl) ?_
            refine s_pass 114 (by kernel_rfl) (by kernel_rfl) ?_
            refine s_pass 115 (by kernel_rfl) (by kernel_rfl) ?_
            refine s_pass 116 (by kernel_rfl) (by kernel_rfl) ?_
            refine s_pure 117 (.bool false) (by kernel_rfl) (by kernel_rfl) (fun _ => by kernel_rfl) ?_
            refine s_pure 118 (.bool false) (by kernel_rfl) (by kernel_rfl) (fun _ => by kernel_rfl) ?_
            refine s_pass 119 (by kernel_rfl) (by kernel_rfl) ?_
            refine s_pass 120 (by kernel_rfl) (by kernel_rfl) ?_
            refine s_pass 121 (by kernel_rfl) (by kernel_rfl) ?_
            refine s_pass 122 (by kernel_rfl) (by kernel_rfl) ?_
            refine s_pass 123 (by kernel_rfl) (by kernel_rfl) ?_
            refine s_pure 124 (.bool false) (by kernel_rfl) (by kernel_rfl) (fun _ => by kernel_rfl) ?_
            refine s_pure 125 (.bool false) (by kernel_rfl) (by kernel_rfl) (fun _ => by kernel_rfl) ?_
            refine s_pass 126 (by kernel_rfl) (by kernel_rfl) ?_
            refine s_pass 127 (by kernel_rfl) (by kernel_rfl) ?_
            refine s_pass 128 (by kernel_rfl) (by kernel_rfl) ?_
            refine s_pass 129 (by kernel_rfl) (by kernel_rfl) ?_
            refine s_pass 130 (by kernel_rfl) (by kernel_rfl) ?_
            refine s_pure 131 (.bool false) (by kernel_rfl) (by kernel_rfl) (fun _ => by kernel_rfl) ?_
            refine s_pure 132 (.bool false) (by kernel_rfl) (by kernel_rfl) (fun _ => by kernel_rfl) ?_
            refine s_pass 133 (by kernel_rfl) (by kernel_rfl) ?_
            refine s_pure 134 (.bool false) (by kernel_rfl) (by kernel_rfl) (fun _ => by kernel_rfl) ?_
            refine s_pure 4 (.bool false) (by kernel_rfl) (by kernel_rfl) (fun _ => by kernel_rfl) ?_
            refine ops_end ?_
            refine At.env [(4, .bool false)] ⟨by kernel_rfl, trivial⟩ ?_
            refine at_then_normal ?_
            refine at_ret (by kernel_rfl) ?_
            obtain rfl := someE H
            refine at_backR [.bool false] (Γ) (rs := [.tmp 4]) (by kernel_rfl) (.cons (.tmp (by kernel_rfl)) .nil) (fun w hw => (Sat.less (.drop .here .refl) hw)) ?_
            exact ⟨rfl, rfl⟩
      · refine at_region (id := 13) 8 (by kernel_rfl) (by kernel_rfl) ?_
        refine s_pure 49 (.int .i64 v1_8) (by kernel_rfl) (by kernel_rfl) (fun _ => by kernel_rfl) ?_
        refine s_pure 50 (.slice idsa (List.length ids) idscap) (by kernel_rfl) (by kernel_rfl) (fun _ => by kernel_rfl) ?_
        refine s_pure 51 (.int .i64 (((List.length ids) : Nat) : Int)) (by kernel_rfl) (by kernel_rfl) (fun _ => by kernel_rfl) ?_
        refine s_pure 52 (.bool (decide (v1_8 < (((List.length ids) : Nat) : Int)))) (by kernel_rfl) (by kernel_rfl) (fun _ => by kernel_rfl) ?_
        rcases Bool.eq_false_or_eq_true (decide (v1_8 < (((List.length ids) : Nat) : Int))) with h15 | h15
        · replace H := bifT H h15
          refine s_pure 53 (.bool true) (by kernel_rfl) (by kernel_rfl) (run_eq (v := .bool (decide (v1_8 < (((List.length ids) : Nat) : Int)))) (fun _ => by kernel_rfl) (congrArg Value.bool h15)) ?_
          refine s_pure 54 (.int .i64 v1_8) (by kernel_rfl) (by kernel_rfl) (fun _ => by kernel_rfl) ?_
          refine s_pure 55 (.bool (decide (v1_8 < (10 : Int)))) (by kernel_rfl) (by kernel_rfl) (fun _ => by kernel_rfl) ?_
          refine s_pure 56 (.bool (decide (v1_8 < (10 : Int)))) (by kernel_rfl) (by kernel_rfl) (fun _ => by kernel_rfl) ?_
          refine ops_end ?_
          refine At.env [(0, .slice idsa (List.length ids) idscap), (1, .int .i64 y4_1), (5, .pointer (some ⟨b1_0, 0, none⟩)), (7, .int .i64 v1_7), (8, .int .i64 v1_8), (56, .bool (decide (v1_8 < (10 : Int))))] ⟨by kernel_rfl, by kernel_rfl, by kernel_rfl, by kernel_rfl, by kernel_rfl, by kernel_rfl, trivial⟩ ?_
          refine at_round_normal ?_
          exact at_join_mk [(0, .slice idsa (List.length ids) idscap), (1, .int .i64 y4_1), (5, .pointer (some ⟨b1_0, 0, none⟩)), (7, .int .i64 v1_7), (8, .int .i64 v1_8), (56, .bool (decide (v1_8 < (10 : Int))))] ((TurnsA b1_0 v1_b1_0) :: Γ) ⟨by kernel_rfl, by kernel_rfl, by kernel_rfl, by kernel_rfl, by kernel_rfl, by kernel_rfl, trivial⟩ (fun w hw => (Sat.less (.take .here .refl) hw)) ⟨decide (v1_8 < (10 : Int)), H, rfl, rfl⟩
        · replace H := bifF H h15
          refine s_pure 53 (.bool false) (by kernel_rfl) (by kernel_rfl) (run_eq (v := .bool (decide (v1_8 < (((List.length ids) : Nat) : Int)))) (fun _ => by kernel_rfl) (congrArg Value.bool h15)) ?_
          refine s_pass 54 (by kernel_rfl) (by kernel_rfl) ?_
          refine s_pass 55 (by kernel_rfl) (by kernel_rfl) ?_
          refine s_pure 56 (.bool false) (by kernel_rfl) (by kernel_rfl) (fun _ => by kernel_rfl) ?_
          refine ops_end ?_
          refine At.env [(0, .slice idsa (List.length ids) idscap), (1, .int .i64 y4_1), (5, .pointer (some ⟨b1_0, 0, none⟩)), (7, .int .i64 v1_7), (8, .int .i64 v1_8), (56, .bool false)] ⟨by kernel_rfl, by kernel_rfl, by kernel_rfl, by kernel_rfl, by kernel_rfl, by kernel_rfl, trivial⟩ ?_
          refine at_round_normal ?_
          exact at_join_mk [(0, .slice idsa (List.length ids) idscap), (1, .int .i64 y4_1), (5, .pointer (some ⟨b1_0, 0, none⟩)), (7, .int .i64 v1_7), (8, .int .i64 v1_8), (56, .bool false)] ((TurnsA b1_0 v1_b1_0) :: Γ) ⟨by kernel_rfl, by kernel_rfl, by kernel_rfl, by kernel_rfl, by kernel_rfl, by kernel_rfl, trivial⟩ (fun w hw => (Sat.less (.take .here .refl) hw)) ⟨false, H, rfl, rfl⟩
  · refine at_region (id := 7) 8 (by kernel_rfl) (by kernel_rfl) ?_
    refine s_pure 23 (.int .i64 v0_6) (by kernel_rfl) (by kernel_rfl) (fun _ => by kernel_rfl) ?_
    refine s_pure 24 (.slice idsa (List.length ids) idscap) (by kernel_rfl) (by kernel_rfl) (fun _ => by kernel_rfl) ?_
    refine s_pure 25 (.int .i64 (((List.length ids) : Nat) : Int)) (by kernel_rfl) (by kernel_rfl) (fun _ => by kernel_rfl) ?_
    refine s_pure 26 (.bool (decide (v0_6 < (((List.length ids) : Nat) : Int)))) (by kernel_rfl) (by kernel_rfl) (fun _ => by kernel_rfl) ?_
    rcases Bool.eq_false_or_eq_true (decide (v0_6 < (((List.length ids) : Nat) : Int))) with h16 | h16
    · replace H := bifT H h16
      refine s_pure 27 (.bool true) (by kernel_rfl) (by kernel_rfl) (run_eq (v := .bool (decide (v0_6 < (((List.length ids) : Nat) : Int)))) (fun _ => by kernel_rfl) (congrArg Value.bool h16)) ?_
      refine s_pure 28 (.int .i64 v0_6) (by kernel_rfl) (by kernel_rfl) (fun _ => by kernel_rfl) ?_
      refine s_pure 29 (.bool (decide (v0_6 < (10 : Int)))) (by kernel_rfl) (by kernel_rfl) (fun _ => by kernel_rfl) ?_
      refine s_pure 30 (.bool (decide (v0_6 < (10 : Int)))) (by kernel_rfl) (by kernel_rfl) (fun _ => by kernel_rfl) ?_
      refine ops_end ?_
      refine At.env [(0, .slice idsa (List.length ids) idscap), (1, .int .i64 y4_1), (5, .pointer (some ⟨b1_0, 0, none⟩)), (6, .int .i64 v0_6), (30, .bool (decide (v0_6 < (10 : Int))))] ⟨by kernel_rfl, by kernel_rfl, by kernel_rfl, by kernel_rfl, by kernel_rfl, trivial⟩ ?_
      refine at_round_normal ?_
      exact at_join_mk [(0, .slice idsa (List.length ids) idscap), (1, .int .i64 y4_1), (5, .pointer (some ⟨b1_0, 0, none⟩)), (6, .int .i64 v0_6), (30, .bool (decide (v0_6 < (10 : Int))))] ((TurnsA b1_0 v0_b1_0) :: Γ) ⟨by kernel_rfl, by kernel_rfl, by kernel_rfl, by kernel_rfl, by kernel_rfl, trivial⟩ (fun w hw => (Sat.less (.take .here .refl) hw)) ⟨decide (v0_6 < (10 : Int)), H, rfl, rfl⟩
    · replace H := bifF H h16
      refine s_pure 27 (.bool false) (by kernel_rfl) (by kernel_rfl) (run_eq (v := .bool (decide (v0_6 < (((List.length ids) : Nat) : Int)))) (fun _ => by kernel_rfl) (congrArg Value.bool h16)) ?_
      refine s_pass 28 (by kernel_rfl) (by kernel_rfl) ?_
      refine s_pass 29 (by kernel_rfl) (by kernel_rfl) ?_
      refine s_pure 30 (.bool false) (by kernel_rfl) (by kernel_rfl) (fun _ => by kernel_rfl) ?_
      refine ops_end ?_
      refine At.env [(0, .slice idsa (List.length ids) idscap), (1, .int .i64 y4_1), (5, .pointer (some ⟨b1_0, 0, none⟩)), (6, .int .i64 v0_6), (30, .bool false)] ⟨by kernel_rfl, by kernel_rfl, by kernel_rfl, by kernel_rfl, by kernel_rfl, trivial⟩ ?_
      refine at_round_normal ?_
      exact at_join_mk [(0, .slice idsa (List.length ids) idscap), (1, .int .i64 y4_1), (5, .pointer (some ⟨b1_0, 0, none⟩)), (6, .int .i64 v0_6), (30, .bool false)] ((TurnsA b1_0 v0_b1_0) :: Γ) ⟨by kernel_rfl, by kernel_rfl, by kernel_rfl, by kernel_rfl, by kernel_rfl, trivial⟩ (fun w hw => (Sat.less (.take .here .refl) hw)) ⟨false, H, rfl, rfl⟩
end Go.Proofs.Ytpcffplbedbpkaa
